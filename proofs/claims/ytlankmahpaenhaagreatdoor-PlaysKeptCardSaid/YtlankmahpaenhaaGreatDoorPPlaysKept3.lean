/- Part 3 of the proof: a program logic, contracts of functions and plain facts; no conditions. -/
import Derived.Test.YtlankmahpaenhaaGreatDoorPPlaysKept2
import Derived.Ground.Names2Prog
import Derived.KernelRfl
import Derived.Shelf.Slices.CompactI
import Derived.Shelf.Slices.CompactS
import Derived.Shelf.Slices.Delete
import Derived.Shelf.Slices.In.SortNone
import Derived.Shelf.Sort.Plain
import Derived.Shelf.Strconv.Atoi
import Derived.Shelf.Strconv.Itoa3
import Derived.Shelf.Strings.Prefix
import Derived.Test.YtlankmahpaenhaaGreatDoorProg
set_option linter.unusedVariables false
set_option linter.unusedSimpArgs false
section
namespace Go.Proofs.YtlankmahpaenhaaGreatDoor
open Go.HL
set_option maxRecDepth 100000
set_option linter.unusedVariables false
set_option linter.unusedSimpArgs false
/-- benchwarmer/play.undone -/
theorem c_play_undone [Tracks] {l : List Play} {n : Int} (hl : l.length ≤ 1000000) : Con Tryz.prog 40 [ePlays l, .int .i64 n] [] (fun x M' => ∃ b, x = .raw (.map (some b)) ∧ M' = [.map b (kk eNum (em HVal.bool (goneL l n)))]) := by
 refine Con.of_body Tryz.func40 rfl Tryz.ntmps40 rfl rfl ?_
 refine hw_reg ?_
 refine dp rfl (pop_assign rfl) ?_
 refine dn ?_
 refine hw_reg ?_
 refine de rfl (eop_makeMap fun m14 => ?_)
 refine dp rfl (pop_assign rfl) ?_
 refine dn ?_
 refine hw_seq ?_
 refine hw_reg ?_
 refine dp rfl (pop_move rfl) ?_
 refine dp rfl (pop_lenm ty26 rfl) ?_
 refine dp rfl (pop_move rfl) ?_
 refine dn ?_
 refine hw_block ?_
 refine hw_loopw [7, 17, 18, 19, 20, 21, 22, 23, 24, 25, 26, 27, 28, 29, 30, 31, 32] (fun (k : Nat) => [(17, .int .i64 k)]) (fun (k : Nat) => [.map m14 (kk eNum (em ePlay (numL (l.take k) n)))]) (fun (k : Nat) => k ≤ l.length ∧ (True)) (fun (k : Nat) => l.length - k) (0) ?_ ?_ ?_ ?_
 ·exact ⟨Nat.zero_le _, trivial⟩
 ·exact ⟨rfl, trivial⟩
 ·exact List.Perm.refl _
 ·intro k hinv
  obtain ⟨hk, -⟩ := hinv
  refine hw_reg ?_
  refine dp rfl (pop_lss rfl rfl) ?_
  refine dn ?_
  refine hw_seq ?_
  refine hw_cond rfl (fun h1 => ?_) (fun h2 => ?_)
  ·try simp at h1
   obtain ⟨x, hx⟩ : ∃ x, l[k]? = some x := ⟨_, List.getElem?_eq_getElem h1⟩
   have hdx := drop_cons hx
   refine hw_skip ?_
   refine seqQ_n ?_
   refine hw_seq ?_
   refine hw_block ?_
   refine hw_reg ?_
   refine dp rfl (pop_idx ty26 ty30 rfl rfl rfl (by assumption)) ?_
   refine dp rfl (pop_loadw ty30 rfl rfl rfl rfl) ?_
   refine de rfl (eop_alloc ty30 rfl fun b7 => ?_)
   refine de0 (eop_storew ty30 rfl rfl rfl rfl rfl ?_)
   refine dn ?_
   refine hw_ghost (Ghost.fc0 7 rfl) ?_
   refine hw_reg ?_
   refine dp rfl (pop_fieldAddr ty30 rfl ty3 (by decide) rfl) ?_
   refine dp rfl (pop_load ty3 rfl rfl rfl) ?_
   refine dp rfl (pop_move rfl) ?_
   refine dp rfl (pop_leq rfl rfl) ?_
   refine dn ?_
   refine hw_cond rfl (fun h3 => ?_) (fun h4 => ?_)
   ·try simp at h3
    refine hw_reg1 ?_
    refine dp rfl (pop_move rfl) ?_
    refine dp rfl (pop_fieldAddr ty30 rfl ty9 (by decide) rfl) ?_
    refine dp rfl (pop_load ty9 rfl rfl rfl) ?_
    refine dp rfl (pop_fieldAddr ty30 rfl ty3 (by decide) rfl) ?_
    refine dp rfl (pop_load ty3 rfl rfl rfl) ?_
    refine dp rfl (pop_build (cs := [_, _]) ty75 pl75 rfl) ?_
    refine dp rfl (pop_loadw ty30 rfl rfl rfl rfl) ?_
    refine de0 (eop_updatekA (i := 0) (s := (x.Source, x.No)) (v := x) ty107 ok75 rfl rfl rfl rfl ?_)
    refine dn ?_
    refine blockQ_n ?_
    refine seqQ_n ?_
    refine hw_reg1 ?_
    refine dp rfl (pop_add64 rfl rfl (by omega) (by omega)) ?_
    refine dp rfl (pop_move rfl) ?_
    refine dn ?_
    exact ⟨k + 1, ⟨by omega, trivial⟩, by dsimp only; omega, ⟨rfl, trivial⟩, (by repeat (first | exact keeps_refl | refine keeps_upd rfl ?_ | refine keeps_loop rfl rfl ?_)), perm_eq (by dsimp only; rw [numL_snoc hx, numStep, if_pos (by simpa using h3)]; try rfl)⟩
   ·try simp at h4
    refine hw_skip ?_
    refine blockQ_n ?_
    refine seqQ_n ?_
    refine hw_reg1 ?_
    refine dp rfl (pop_add64 rfl rfl (by omega) (by omega)) ?_
    refine dp rfl (pop_move rfl) ?_
    refine dn ?_
    exact ⟨k + 1, ⟨by omega, trivial⟩, by dsimp only; omega, ⟨rfl, trivial⟩, (by repeat (first | exact keeps_refl | refine keeps_upd rfl ?_ | refine keeps_loop rfl rfl ?_)), perm_eq (by dsimp only; rw [numL_snoc hx, numStep, if_neg (by simpa using h4)]; try rfl)⟩
  ·try simp at h2
   have hnk : l.length ≤ k := by omega
   obtain rfl : k = l.length := by omega
   refine hw_exit ?_
   refine seqQ_x ?_
   refine loopQ_x ?_
   refine blockQ_eq ?_
   refine seqQ_n ?_
   rw [List.take_length]
   refine hw_reg ?_
   refine de rfl (eop_makeMap fun m33 => ?_)
   refine dp rfl (pop_assign rfl) ?_
   refine dn ?_
   refine hw_seq ?_
   refine hw_reg ?_
   refine dp rfl (pop_move rfl) ?_
   refine dp rfl (pop_lenm ty26 rfl) ?_
   refine dp rfl (pop_move rfl) ?_
   refine dn ?_
   refine hw_block ?_
   refine hw_loopw [10, 11, 12, 13, 36, 37, 38, 39, 40, 41, 42, 43, 44, 45, 46, 47, 48, 49, 50, 51, 52, 53, 54, 55, 56, 57, 58, 59, 60, 61, 62, 63, 64, 65, 66, 67, 68, 69, 70, 71, 72, 73, 74, 75, 76, 77, 78, 79, 80, 81, 82, 83, 84, 85, 86, 87, 88, 89] (fun (k : Nat) => [(36, .int .i64 k)]) (fun (k : Nat) => [.map m33 (kk eNum (em HVal.bool (goneGo (numL l n) n (l.take k)))), .map m14 (kk eNum (em ePlay (numL l n)))]) (fun (k : Nat) => k ≤ l.length ∧ (True)) (fun (k : Nat) => l.length - k) (0) ?_ ?_ ?_ ?_
   ·exact ⟨Nat.zero_le _, trivial⟩
   ·exact ⟨rfl, trivial⟩
   ·exact List.Perm.refl _
   ·intro k hinv
    obtain ⟨hk, -⟩ := hinv
    refine hw_reg ?_
    refine dp rfl (pop_lss rfl rfl) ?_
    refine dn ?_
    refine hw_seq ?_
    refine hw_cond rfl (fun h5 => ?_) (fun h6 => ?_)
    ·try simp at h5
     obtain ⟨x, hx⟩ : ∃ x, l[k]? = some x := ⟨_, List.getElem?_eq_getElem h5⟩
     have hdx := drop_cons hx
     refine hw_skip ?_
     refine seqQ_n ?_
     refine hw_seq ?_
     refine hw_block ?_
     refine hw_reg ?_
     refine dp rfl (pop_idx ty26 ty30 rfl rfl rfl (by assumption)) ?_
     refine dp rfl (pop_loadw ty30 rfl rfl rfl rfl) ?_
     refine de rfl (eop_alloc ty30 rfl fun b10 => ?_)
     refine de0 (eop_storew ty30 rfl rfl rfl rfl rfl ?_)
     refine dn ?_
     refine hw_ghost (Ghost.fc0 10 rfl) ?_
     refine hw_seq ?_
     refine hw_reg ?_
     refine dp rfl (pop_fieldAddr ty30 rfl ty3 (by decide) rfl) ?_
     refine dp rfl (pop_load ty3 rfl rfl rfl) ?_
     refine dp rfl (pop_move rfl) ?_
     refine dp rfl (pop_gtr rfl rfl) ?_
     refine dp rfl (pop_move rfl) ?_
     refine dg rfl rfl (fun hc => ⟨_, OpenTo.refl _, pop_fieldAddr ty30 rfl ty3 (by decide) rfl⟩) ?_
     refine dg rfl rfl (fun hc => ⟨_, OpenTo.upd (t := 45) rfl (hc) (OpenTo.refl _), pop_load ty3 rfl rfl rfl⟩) ?_
     refine dg rfl rfl (fun hc => ⟨_, OpenTo.upd (t := 46) rfl (hc) (OpenTo.refl _), pop_eql rfl rfl⟩) ?_
     refine dp rfl (pop_picko rfl (.inl rfl) (.inr ⟨_, rfl, fun h => by simp_all⟩)) ?_
     refine dn ?_
     refine hw_cond rfl (fun h7 => ?_) (fun h8 => ?_)
     ·try simp at h7
      refine hw_exit ?_
      refine seqQ_x ?_
      refine blockQ_eq ?_
      refine seqQ_n ?_
      refine hw_reg1 ?_
      refine dp rfl (pop_add64 rfl rfl (by omega) (by omega)) ?_
      refine dp rfl (pop_move rfl) ?_
      refine dn ?_
      exact ⟨k + 1, ⟨by omega, trivial⟩, by dsimp only; omega, ⟨rfl, trivial⟩, (by repeat (first | exact keeps_refl | refine keeps_upd rfl ?_ | refine keeps_loop rfl rfl ?_)), perm_eq (by dsimp only; rw [goneGo_snoc hx, goneStep, if_pos (by simpa using h7)]; try rfl)⟩
     ·try simp at h8
      refine hw_skip ?_
      refine seqQ_n ?_
      refine hw_reg ?_
      refine dp rfl (pop_fieldAddr ty30 rfl ty9 (by decide) rfl) ?_
      refine dp rfl (pop_load ty9 rfl rfl rfl) ?_
      refine dp rfl (pop_fieldAddr ty30 rfl ty3 (by decide) rfl) ?_
      refine dp rfl (pop_load ty3 rfl rfl rfl) ?_
      refine dp rfl (pop_build (cs := [_, _]) ty75 pl75 rfl) ?_
      refine de rfl (eop_alloc ty75 rfl fun b11 => ?_)
      refine de0 (eop_storew ty75 rfl rfl rfl rfl rfl ?_)
      refine dn ?_
      refine hw_ghost (Ghost.fc0 11 rfl) ?_
      refine hw_reg ?_
      refine dp rfl (pop_move rfl) ?_
      refine dp rfl (pop_loadw ty75 rfl rfl rfl rfl) ?_
      refine de rfl (eop_lookupk2A (i := 1) (s := (x.Source, x.Undo)) (z0 := play0) ty107 ok75 ty30 rfl rfl rfl rfl ?_)
      refine dp rfl (pop_move rfl) ?_
      refine dp rfl (pop_extract rfl rfl) ?_
      refine dp rfl (pop_extract rfl rfl) ?_
      refine de rfl (eop_alloc ty30 rfl fun b12 => ?_)
      refine de0 (eop_storew ty30 rfl rfl rfl rfl rfl ?_)
      refine dp rfl (pop_assign rfl) ?_
      refine dn ?_
      refine hw_ghost (Ghost.fc0 12 rfl) ?_
      refine hw_reg ?_
      refine dp rfl (pop_move rfl) ?_
      refine dp rfl (pop_move rfl) ?_
      refine dg rfl rfl (fun hc => ⟨_, OpenTo.refl _, pop_fieldAddr ty30 rfl ty3 (by decide) rfl⟩) ?_
      refine dg rfl rfl (fun hc => ⟨_, OpenTo.upd (t := 62) rfl (hc) (OpenTo.refl _), pop_load ty3 rfl rfl rfl⟩) ?_
      refine dg rfl rfl (fun hc => ⟨_, OpenTo.upd (t := 63) rfl (hc) (OpenTo.refl _), pop_eql rfl rfl⟩) ?_
      refine dp rfl (pop_picko rfl (.inr ⟨_, rfl, fun h => by simp_all⟩) (.inl rfl)) ?_
      refine dp rfl (pop_move rfl) ?_
      refine dg rfl rfl (fun hc => ⟨_, OpenTo.refl _, pop_fieldAddr ty30 rfl ty9 (by decide) rfl⟩) ?_
      refine dg rfl rfl (fun hc => ⟨_, OpenTo.upd (t := 67) rfl (hc) (OpenTo.refl _), pop_load ty9 rfl rfl rfl⟩) ?_
      refine dg rfl rfl (fun hc => ⟨_, OpenTo.refl _, pop_fieldAddr ty30 rfl ty9 (by decide) rfl⟩) ?_
      refine dg rfl rfl (fun hc => ⟨_, OpenTo.upd (t := 69) rfl (hc) (OpenTo.refl _), pop_load ty9 rfl rfl rfl⟩) ?_
      refine dg rfl rfl (fun hc => ⟨_, OpenTo.upd (t := 70) rfl (hc) (OpenTo.upd (t := 68) rfl (hc) (OpenTo.refl _)), pop_eqls rfl rfl⟩) ?_
      refine dp rfl (pop_picko rfl (.inr ⟨_, rfl, fun h => by simp_all⟩) (.inl rfl)) ?_
      refine dp rfl (pop_move rfl) ?_
      refine dg rfl rfl (fun hc => ⟨_, OpenTo.refl _, pop_fieldAddr ty30 rfl ty9 (by decide) rfl⟩) ?_
      refine dg rfl rfl (fun hc => ⟨_, OpenTo.upd (t := 74) rfl (hc) (OpenTo.refl _), pop_load ty9 rfl rfl rfl⟩) ?_
      refine dg rfl rfl (fun hc => ⟨_, OpenTo.refl _, pop_fieldAddr ty30 rfl ty9 (by decide) rfl⟩) ?_
      refine dg rfl rfl (fun hc => ⟨_, OpenTo.upd (t := 76) rfl (hc) (OpenTo.refl _), pop_load ty9 rfl rfl rfl⟩) ?_
      refine dg rfl rfl (fun hc => ⟨_, OpenTo.upd (t := 77) rfl (hc) (OpenTo.upd (t := 75) rfl (hc) (OpenTo.refl _)), pop_eqls rfl rfl⟩) ?_
      refine dp rfl (pop_picko rfl (.inr ⟨_, rfl, fun h => by simp_all⟩) (.inl rfl)) ?_
      refine dp rfl (pop_move rfl) ?_
      refine dg rfl rfl (fun hc => ⟨_, OpenTo.refl _, pop_fieldAddr ty30 rfl ty9 (by decide) rfl⟩) ?_
      refine dg rfl rfl (fun hc => ⟨_, OpenTo.upd (t := 81) rfl (hc) (OpenTo.refl _), pop_load ty9 rfl rfl rfl⟩) ?_
      refine dg rfl rfl (fun hc => ⟨_, OpenTo.refl _, pop_fieldAddr ty30 rfl ty9 (by decide) rfl⟩) ?_
      refine dg rfl rfl (fun hc => ⟨_, OpenTo.upd (t := 83) rfl (hc) (OpenTo.refl _), pop_load ty9 rfl rfl rfl⟩) ?_
      refine dg rfl rfl (fun hc => ⟨_, OpenTo.upd (t := 84) rfl (hc) (OpenTo.upd (t := 82) rfl (hc) (OpenTo.refl _)), pop_eqls rfl rfl⟩) ?_
      refine dp rfl (pop_picko rfl (.inr ⟨_, rfl, fun h => by simp_all⟩) (.inl rfl)) ?_
      refine dn ?_
      refine hw_cond rfl (fun h9 => ?_) (fun h10 => ?_)
      ·try simp at h9
       refine hw_reg1 ?_
       refine dp rfl (pop_move rfl) ?_
       refine dp rfl (pop_loadw ty75 rfl rfl rfl rfl) ?_
       refine de0 (eop_updatekA (i := 0) (s := (x.Source, x.Undo)) (v := true) ty72 ok75 rfl rfl rfl rfl ?_)
       refine dn ?_
       refine blockQ_n ?_
       refine seqQ_n ?_
       refine hw_reg1 ?_
       refine dp rfl (pop_add64 rfl rfl (by omega) (by omega)) ?_
       refine dp rfl (pop_move rfl) ?_
       refine dn ?_
       exact ⟨k + 1, ⟨by omega, trivial⟩, by dsimp only; omega, ⟨rfl, trivial⟩, (by repeat (first | exact keeps_refl | refine keeps_upd rfl ?_ | refine keeps_loop rfl rfl ?_)), perm_eq (by dsimp only; rw [goneGo_snoc hx, goneStep, if_neg (by simp_all; try omega), if_pos (by simp_all [undoes])]; try rfl)⟩
      ·try simp at h10
       refine hw_skip ?_
       refine blockQ_n ?_
       refine seqQ_n ?_
       refine hw_reg1 ?_
       refine dp rfl (pop_add64 rfl rfl (by omega) (by omega)) ?_
       refine dp rfl (pop_move rfl) ?_
       refine dn ?_
       exact ⟨k + 1, ⟨by omega, trivial⟩, by dsimp only; omega, ⟨rfl, trivial⟩, (by repeat (first | exact keeps_refl | refine keeps_upd rfl ?_ | refine keeps_loop rfl rfl ?_)), perm_eq (by dsimp only; rw [goneGo_snoc hx, goneStep, if_neg (by simp_all; try omega), if_neg (by simp_all [undoes])]; try rfl)⟩
    ·try simp at h6
     have hnk : l.length ≤ k := by omega
     obtain rfl : k = l.length := by omega
     refine hw_exit ?_
     refine seqQ_x ?_
     refine loopQ_x ?_
     refine blockQ_eq ?_
     refine seqQ_n ?_
     rw [List.take_length]
     refine hw_ghost (Ghost.only (i := 0) rfl) ?_
     refine hw_reg ?_
     refine dp rfl (pop_move rfl) ?_
     refine dp rfl (pop_assign rfl) ?_
     refine dn ?_
     refine hw_ret ?_
     exact ret_q rfl ⟨_, rfl, rfl⟩

/-- benchwarmer/play.byName -/
theorem c_play_byName [Tracks] {a b : StatS}  : ConP Tryz.prog 107 [eStat a, eStat b] (.int .i64 (byNm a b)) := by
 refine Con.of_body Tryz.func107 rfl Tryz.ntmps107 rfl rfl ?_
 refine hw_reg ?_
 refine dp rfl (pop_box rfl rfl) ?_
 refine dp rfl (pop_box rfl rfl) ?_
 refine dp rfl (pop_assign rfl) ?_
 refine dn ?_
 refine hw_reg ?_
 refine dp rfl (pop_fieldAddr ty81 rfl ty9 (by decide) rfl) ?_
 refine dp rfl (pop_load ty9 rfl rfl rfl) ?_
 refine dp rfl (pop_fieldAddr ty81 rfl ty9 (by decide) rfl) ?_
 refine dp rfl (pop_load ty9 rfl rfl rfl) ?_
 refine dp rfl (pop_call ca66 rfl (WeakL.refl _) c_strings_Compare) ?_
 refine dp rfl (pop_assign rfl) ?_
 refine dn ?_
 refine hw_ret ?_
 refine ret_p rfl ?_
 rfl

/-- slices.SortFunc -/
theorem c_sort_Stat [Tracks] {c : StatS → StatS → Int} (hO : Go.Sort.SWO (Go.Proofs.ltOf c)) {g : FuncId} (hg : Callable Tryz.prog g) {cap : List HVal} (hc : ∀ x y, @ConP trackOn Tryz.prog g (eStat x :: eStat y :: cap) (.int .i64 (c x y))) {l : List StatS} (hl : l.length ≤ 1000000) {v : Value} :
 Con Tryz.prog 106 [.raw v, .fn (.func g) [] cap] [.arr v 2 (l.map eStat)] fun x M' => ∃ l' : List StatS, x = .tup [] ∧ l'.Perm l ∧ l'.Pairwise (fun a b => ¬ c b a < 0) ∧ M' = [.arr v 2 (l'.map eStat)] :=
 con_sortf (e := eStat) Tryz.g106 (Tryz.isAgg81) (Tryz.sizeOf81) (fun _ => rfl) (fun _ => rfl) (fun _ => rfl) hO hg hc hl

theorem sortsIn [Tracks] (m : Nat) : Go.Proofs.AnyZ.SortsIn Tryz.prog Tryz.g104_ren Fence.wide m :=
 ⟨fun blk off cap ss W hH hblk hsz => callsIn_wide.2 (AnyM.slices_Sort_string Tryz.g115 blk off cap ss W hH hblk hsz), fun p cap W => callsIn_wide.2 (AnyM.slices_Sort_string_none Tryz.g115 p cap W)⟩
theorem c_keys_105 [Tracks] {b : Nat} : Con Tryz.prog 105 [.raw (.map (some b))] [] fun x M' => ∃ bx, x = .fn (.func 141) [] [.raw (.pointer (some ⟨bx, 0, none⟩))] ∧ M' = [.cells bx [.raw (.map (some b))]] :=
 con_keys (ρ := Tryz.g105_ren) Tryz.g105
theorem c_sortedset_105 [Tracks] (hT : Tracks.on = false) {S : List Str} (hn : S.Nodup) (hl : ∀ s ∈ S, s.length ≤ 1000000) (hs : S.length ≤ 1000000) {b bx : Nat} :
 Con Tryz.prog 104 [.fn (.func 141) [] [.raw (.pointer (some ⟨bx, 0, none⟩))]] [.cells bx [.raw (.map (some b))], .map b (sk (mset S))] fun x M' => ∃ v, x = .raw v ∧ M' = [.arr v 1 ((sortS S).map .str), .map b (sk (mset S))] :=
 con_sortedset hT (ρ := Tryz.g104_ren) (ρk := Tryz.g105_ren) Tryz.g104 Tryz.g105 sortsIn (enters_of Tryz.func115 (by kernel_rfl) rfl) (enters_of Tryz.func141 (by kernel_rfl) rfl) hn hl hs

set_option maxHeartbeats 1000000 in
/-- (benchwarmer/play.counted).lines -/
theorem c_play_counted_lines [Tracks] {b0 b1 : Nat} {c : List (Of2 × Int)} {S : List Str} {week : Int} (hT : Tracks.on = false) (hn : ANodup c) (hSn : S.Nodup) (hSk : ∀ s ∈ S, s.length ≤ 40) (hc : c.length ≤ 1000000) (hSl : S.length ≤ 1000000) : Con Tryz.prog 79 [.raw (.map (some b0)), .raw (.map (some b1)), .int .i64 week] [.map b0 (kk eOf (em (HVal.int .i64) c)), .map b1 (sk (mset S))] (fun x M' => x = .tup [eLines (clinesL c S week), .int .i64 (clinesE c S)] ∧ M' = []) := by
 refine Con.of_body Tryz.func79 rfl Tryz.ntmps79 rfl rfl ?_
 refine hw_reg ?_
 refine dp rfl (pop_assign rfl) ?_
 refine dp rfl (pop_assign rfl) ?_
 refine dn ?_
 refine hw_reg ?_
 refine de rfl (eop_makeMap fun m15 => ?_)
 refine dp rfl (pop_assign rfl) ?_
 refine dn ?_
 refine hw_seq ?_
 refine hw_reg ?_
 refine dp rfl (pop_move rfl) ?_
 refine de rfl (eop_range (i := 1) ty120 rfl rfl fun r => ?_)
 refine dn ?_
 refine hw_block ?_
 refine hw_loopw3 [6, 7, 9, 10, 18, 19, 20, 21, 22, 23, 24, 25, 26, 27, 28, 29, 30, 31, 32, 33, 34, 35, 36, 37, 38, 39, 40, 41] (fun (vis : List Nat) (E : List (Of2 × Int)) (G : Grp StatS) => []) (fun (vis : List Nat) (E : List (Of2 × Int)) (G : Grp StatS) => [.map m15 (sk (em fG G)), .iter r b0 (kk eOf (em (HVal.int .i64) c)) vis, .map b1 (sk (mset S))] ++ grp 2 eStat G) (fun (vis : List Nat) (E : List (Of2 × Int)) (G : Grp StatS) => VisOk (c) vis E ∧ (GOk E G ∧ ∀ y ∈ E, out y.2 (-100000) 100000 = false)) (fun (vis : List Nat) (E : List (Of2 × Int)) (G : Grp StatS) => (c).length - vis.length) ([]) ([]) ([]) ?_ ?_ ?_ ?_
 ·exact ⟨VisOk.nil _, GOk.nil, fun y h => by cases h⟩
 ·exact trivial
 ·exact perm_eq rfl
 ·intro vis E G hinv
  obtain ⟨hvis, hG, hO⟩ := hinv
  refine hw_reg ?_
  refine de rfl (eop_nextA (i := 1) (L := c) (enc := (fun p : Of2 × Int => (eOf p.1, HVal.int .i64 p.2))) rfl rfl (kk_em _ _ _) hvis.nd hvis.lt fun cb R vis' hnx => ?_)
  refine dp rfl (pop_extract rfl rfl) ?_
  refine dn ?_
  refine hw_seq ?_
  refine hw_cond rfl (fun h1 => ?_) (fun h2 => ?_)
  ·try simp at h1
   obtain ⟨j, q, hq, hj, rfl⟩ := hnx.t h1
   have hroom := hvis.room hq hj
   have hstep := hvis.step hq hj
   have hqm := List.mem_of_getElem? hq
   refine hw_skip ?_
   refine seqQ_n ?_
   refine hw_block ?_
   refine hw_reg ?_
   refine de rfl (eop_entryA (i := 1) (L := c) (enc := (fun p : Of2 × Int => (eOf p.1, HVal.int .i64 p.2))) rfl rfl (kk_em _ _ _) hq ?_)
   refine dp rfl (pop_extract rfl rfl) ?_
   refine dp rfl (pop_extract rfl rfl) ?_
   refine de rfl (eop_alloc ty122 rfl fun b9 => ?_)
   refine de0 (eop_storew ty122 rfl rfl rfl rfl rfl ?_)
   refine dp rfl (pop_assign rfl) ?_
   refine dn ?_
   refine hw_ghost (Ghost.fc0 9 rfl) ?_
   refine hw_block ?_
   refine hw_reg ?_
   refine dp rfl (pop_move rfl) ?_
   refine dp rfl (pop_call ca68 rfl (WeakL.refl _) c_base_Out) ?_
   refine dp rfl (pop_assign rfl) ?_
   refine dn ?_
   refine hw_cond rfl (fun h3 => ?_) (fun h4 => ?_)
   ·try simp at h3
    refine hw_reg ?_
    refine dp rfl (pop_assign rfl) ?_
    refine dp rfl (pop_assign rfl) ?_
    refine dn ?_
    refine hw_ret ?_
    exact ⟨_, [], Ghost.clear, _, _, rfl, weak_tup2 (weak_nil 3) (Weak.refl _), by have hf := full_count (S := S) hqm (by simpa using h3); rw [clinesL, clinesE, hf]; rfl, rfl⟩
   ·try simp at h4
    refine hw_reg ?_
    refine dp rfl (pop_move rfl) ?_
    refine dp rfl (pop_neq rfl rfl) ?_
    refine dp rfl (pop_assign rfl) ?_
    refine dn ?_
    refine hw_cond rfl (fun h5 => ?_) (fun h6 => ?_)
    ·try simp at h5
     refine hw_ghost (Ghost.of_eq (M' := [.map m15 (sk (em fG G)), .iter r b0 (kk eOf (em (HVal.int .i64) c)) (vis ++ [j]), .map b1 (sk (mset S))] ++ grp 2 eStat G) rfl) ?_
     refine hw_draw1 (fun _ => True) [] mixed ?_
     refine ahp 0 rfl rfl (by kernel_rfl) (by kernel_rfl) (pop_move rfl) ?_
     refine ahp 1 rfl rfl (by kernel_rfl) (by kernel_rfl) ((pop_fieldAddr ty122 rfl ty9 (by decide) rfl)) ?_
     refine ahp 2 rfl rfl (by kernel_rfl) (by kernel_rfl) (pop_load ty9 rfl rfl rfl) ?_
     refine ahp 3 rfl rfl (by kernel_rfl) (by kernel_rfl) (pop_move rfl) ?_
     refine ahp 4 rfl rfl (by kernel_rfl) (by kernel_rfl) ((pop_fieldAddr ty122 rfl ty9 (by decide) rfl)) ?_
     refine ahp 5 rfl rfl (by kernel_rfl) (by kernel_rfl) (pop_load ty9 rfl rfl rfl) ?_
     refine ahp 7 rfl rfl (by kernel_rfl) (by kernel_rfl) ((pop_fieldAddr ty122 rfl ty9 (by decide) rfl)) ?_
     refine ahp 8 rfl rfl (by kernel_rfl) (by kernel_rfl) (pop_load ty9 rfl rfl rfl) ?_
     refine ahp 9 rfl rfl (by kernel_rfl) (by kernel_rfl) (pop_move rfl) ?_
     refine ahp 10 rfl rfl (by kernel_rfl) (by kernel_rfl) (pop_build (cs := [_, _]) ty81 pl81 rfl) ?_
     refine ahp 11 rfl rfl (by kernel_rfl) (by kernel_rfl) (pop_buildSlice (hs := [_]) ty53 ty81 rfl rfl (by decide) (by decide) rfl) ?_
     refine ahe 6 rfl (by kernel_rfl) ?_
     refine hop_e rfl (eop_lookupA (i := 0) (z0 := gZ StatS) ty151 ty9 ty53 rfl rfl rfl rfl ?_)
     refine ⟨fun _ => .inl trivial, ?_⟩
     refine ahe 12 rfl (by kernel_rfl) ?_
     refine hop_e rfl (eop_append_grp (A := [.map m15 (sk (em fG G)), .iter r b0 (kk eOf (em (HVal.int .i64) c)) (vis ++ [j]), .map b1 (sk (mset S))]) (G := G) (s := q.1.1) (ys := [⟨q.1.2, q.2⟩]) (eb := eStat) ty53 ty81 rfl rfl rfl rfl (by simp [flat, hcells]) (by have := rawStats_le E q.1.1; rw [← hG.raw] at this; have := hvis.len; simp only [List.length_cons, List.length_nil]; omega) fun v41 => ?_)
     refine ⟨fun _ => .inl trivial, ?_⟩
     refine ahe 13 rfl (by kernel_rfl) ?_
     refine hop_e0 (eop_updateA (i := 0) (f := fG) (L := G) (v := (v41, gL q.1.1 G ++ [⟨q.1.2, q.2⟩])) ty151 ty9 rfl rfl rfl rfl ?_)
     refine ⟨fun _ => .inl trivial, ?_⟩
     refine ahz (by kernel_rfl) ?_
     refine blockQ_n ?_
     refine blockQ_n ?_
     have hO' : ∀ y ∈ E ++ [q], out y.2 (-100000) 100000 = false := fun y hy => by
      rcases List.mem_append.1 hy with hy | hy
      ·exact hO y hy
      ·rw [List.mem_singleton.1 hy]; simpa using h4
     exact ⟨_, E ++ [q], _, ⟨hstep, hG.put (by simpa using h5) v41, hO'⟩, by dsimp only; rw [List.length_append]; simp only [List.length_cons, List.length_nil]; omega, trivial, (by repeat (first | exact keeps_refl | refine keeps_upd rfl ?_ | refine keeps_loop rfl rfl ?_)), perm_eq rfl⟩
    ·try simp at h6
     refine hw_skip ?_
     refine blockQ_n ?_
     refine blockQ_n ?_
     have hO' : ∀ y ∈ E ++ [q], out y.2 (-100000) 100000 = false := fun y hy => by
      rcases List.mem_append.1 hy with hy | hy
      ·exact hO y hy
      ·rw [List.mem_singleton.1 hy]; simpa using h4
     exact ⟨_, E ++ [q], G, ⟨hstep, hG.skip (by simpa using h6), hO'⟩, by dsimp only; rw [List.length_append]; simp only [List.length_cons, List.length_nil]; omega, trivial, (by repeat (first | exact keeps_refl | refine keeps_upd rfl ?_ | refine keeps_loop rfl rfl ?_)), perm_eq rfl⟩
  ·try simp at h2
   obtain ⟨rfl, hlen⟩ := hnx.f h2
   have hEp := hvis.done hlen
   refine hw_exit ?_
   refine seqQ_x ?_
   refine loopQ3_x ?_
   refine blockQ_eq ?_
   refine seqQ_n ?_
   refine hw_ghost (Ghost.iterOver (i := 1) rfl) ?_
   refine hw_ghost (Ghost.of_eq (M' := [.map m15 (sk (em fG G)), .map b0 (kk eOf (em (HVal.int .i64) c)), .map b1 (sk (mset S))] ++ grp 2 eStat G) rfl) ?_
   refine hw_reg ?_
   refine dp rfl (pop_assign rfl) ?_
   refine dn ?_
   refine hw_seq ?_
   refine hw_reg ?_
   refine dp rfl (pop_move rfl) ?_
   refine de rfl (eop_callf (M1 := []) (R := _) ca105 rfl (WeakL.refl _) (List.Perm.refl _) c_keys_105 ?_)
   rintro _ _ ⟨bx, rfl, rfl⟩
   refine de rfl (EOp.fzi (N := [.map b1 (sk (mset S)), .map b0 (kk eOf (em (HVal.int .i64) c))] ++ ([.map m15 (sk (em fG G))] ++ grp 2 eStat G)) (sz := 1) (es := (sortS S).map .str) 0 (eop_callf (M1 := [.cells bx [.raw (.map (some b1))], .map b1 (sk (mset S))]) (R := [.map b0 (kk eOf (em (HVal.int .i64) c))] ++ ([.map m15 (sk (em fG G))] ++ grp 2 eStat G)) ca104 rfl (WeakL.refl _) (by exact perm3) (c_sortedset_105 hT hSn (fun s hs => Nat.le_trans (hSk s hs) (by decide)) hSl) (by rintro _ _ ⟨v, rfl, rfl⟩; exact ⟨v, rfl, rfl, rfl⟩)) ?_)
   refine dp rfl (pop_lenm ty47 rfl) ?_
   refine dp rfl (pop_move rfl) ?_
   refine dn ?_
   refine hw_ghost (Ghost.suffix (R := [_, _])) ?_
   refine hw_ghost (Ghost.arr_nil 3) ?_
   have hSSl : (sortS S).length ≤ 1000000 := by rw [sortS_len]; exact hSl
   have hSS : (sortS S).Nodup := (sortS_perm S).nodup_iff.2 hSn
   refine hw_block ?_
   refine hw_loopw2 [6, 7, 11, 13, 14, 46, 47, 48, 49, 50, 51, 52, 53, 54, 55, 56, 57, 58, 59, 60, 61, 62, 63, 64, 65] (fun (k : Nat) (u : Value) => [(46, .int .i64 k), (11, .raw u)]) (fun (k : Nat) (u : Value) => [.arr u 3 (((sortS S).take k).map fun s => eLine ⟨s, week, statsOf c s⟩), .map m15 (sk (em fG G))] ++ grp 2 eStat (restG G ((sortS S).take k))) (fun (k : Nat) (u : Value) => k ≤ (sortS S).length ∧ (∀ s ∈ (sortS S).take k, ¬ 40 < (rawStats c s).length)) (fun (k : Nat) (u : Value) => (sortS S).length - k) (0) (.slice none 0 0) ?_ ?_ ?_ ?_
   ·exact ⟨Nat.zero_le _, fun s h => by simp at h⟩
   ·exact ⟨rfl, rfl, trivial⟩
   ·exact perm_eq (by simp [rest_nil])
   ·intro k u hinv
    obtain ⟨hk, hg⟩ := hinv
    refine hw_reg ?_
    refine dp rfl (pop_lss rfl rfl) ?_
    refine dn ?_
    refine hw_seq ?_
    refine hw_cond rfl (fun h7 => ?_) (fun h8 => ?_)
    ·try simp at h7
     obtain ⟨x, hx⟩ : ∃ x, (sortS S)[k]? = some x := ⟨_, List.getElem?_eq_getElem h7⟩
     have hdx := drop_cons hx
     refine hw_skip ?_
     refine seqQ_n ?_
     refine hw_seq ?_
     refine hw_block ?_
     refine hw_reg ?_
     refine dp rfl (pop_idx ty47 ty9 rfl rfl rfl (by assumption)) ?_
     refine dp rfl (pop_load ty9 rfl rfl rfl) ?_
     refine dp rfl (pop_assign rfl) ?_
     refine dn ?_
     refine hw_reg ?_
     refine dp rfl (pop_move rfl) ?_
     refine dp rfl (pop_move rfl) ?_
     refine de rfl (eop_lookupA (i := 1) (z0 := gZ StatS) ty151 ty9 ty53 rfl rfl rfl rfl ?_)
     refine dp rfl (pop_assign rfl) ?_
     refine dn ?_
     have hnx := take_notin hSS hx
     have hxS : x ∈ S := (sortS_perm S).mem_iff.1 (List.mem_of_getElem? hx)
     refine hw_ghost (Ghost.grp_take (A := [.arr u 3 (((sortS S).take k).map fun s => eLine ⟨s, week, statsOf c s⟩), .map m15 (sk (em fG G))]) (G := restG G ((sortS S).take k)) (G' := G) (s := x) (rest_nodup hG.nd) (rest_alk hnx)) ?_
     rw [rest_snoc]
     refine hw_seq ?_
     refine hw_reg ?_
     refine dp rfl (pop_move rfl) ?_
     refine de rfl (eop_lenm (i := 0) (es := gL x G) ty53 rfl rfl ?_)
     refine dp rfl (pop_gtr rfl rfl) ?_
     refine dn ?_
     refine hw_cond rfl (fun h9 => ?_) (fun h10 => ?_)
     ·try simp at h9
      refine hw_reg ?_
      refine dp rfl (pop_assign rfl) ?_
      refine dp rfl (pop_assign rfl) ?_
      refine dn ?_
      refine hw_ret ?_
      exact ⟨_, [], Ghost.clear, _, _, rfl, weak_tup2 (weak_nil 3) (Weak.refl _), by have hf := full_stats (c := c) hxS (by rw [← gL_len hEp hG]; omega); rw [clinesL, clinesE, hf]; rfl, rfl⟩
     ·try simp at h10
      refine hw_skip ?_
      refine seqQ_n ?_
      refine hw_reg ?_
      refine dp rfl (pop_move rfl) ?_
      refine de rfl (eop_callf (M1 := [.arr (gV x G) 2 ((gL x G).map eStat)]) (R := [.arr u 3 (((sortS S).take k).map fun s => eLine ⟨s, week, statsOf c s⟩), .map m15 (sk (em fG G))] ++ grp 2 eStat (restG G ((sortS S).take k ++ [x]))) ca106 rfl (WeakL.refl _) (List.Perm.refl _) (c_sort_Stat (c := byNm) (swo_cmp byNm_cmp) ca107 (fun _ _ => @c_play_byName trackOn _ _) (l := gL x G) (by have := rawStats_le c x; rw [gL_len hEp hG]; omega)) ?_)
      rintro _ _ ⟨l', rfl, hp', hw', rfl⟩
      obtain rfl := stats_sorted hEp hn hG hp' hw'
      refine dn ?_
      refine hw_ghost (Ghost.fa 14 (i := 0) rfl rfl) ?_
      refine hw_reg1 ?_
      refine dp rfl (pop_move rfl) ?_
      refine dp rfl (pop_move rfl) ?_
      refine dp rfl (pop_move rfl) ?_
      refine dp rfl (pop_move rfl) ?_
      refine dp rfl (pop_build (cs := [_, _, _]) ty55 pl55 rfl) ?_
      refine dp rfl (pop_buildSlice (hs := [_]) ty49 ty55 rfl rfl (by decide) (by decide) rfl) ?_
      refine de rfl (eop_append (i := 0) ty49 ty55 rfl rfl rfl rfl rfl (by simp [flat, hcells]) (by have := sortS_len S; simp only [List.length_map, List.length_cons, List.length_nil, List.length_take]; omega) fun v64 => ?_)
      refine dp rfl (pop_assign rfl) ?_
      refine dn ?_
      refine blockQ_n ?_
      refine seqQ_n ?_
      refine hw_reg1 ?_
      refine dp rfl (pop_add64 rfl rfl (by omega) (by omega)) ?_
      refine dp rfl (pop_move rfl) ?_
      refine dn ?_
      refine ⟨k + 1, v64, ⟨by omega, fun s hs => ?_⟩, by dsimp only; omega, ⟨rfl, rfl, trivial⟩, (by repeat (first | exact keeps_refl | refine keeps_upd rfl ?_ | refine keeps_loop rfl rfl ?_)), perm_eq (by dsimp only; rw [take_snoc' hx, List.map_append]; rfl)⟩
      rw [take_snoc' hx] at hs
      rcases List.mem_append.1 hs with hs | hs
      ·exact hg s hs
      ·rw [List.mem_singleton.1 hs, ← gL_len hEp hG]; omega
    ·try simp at h8
     have hnk : (sortS S).length ≤ k := by omega
     obtain rfl : k = (sortS S).length := by omega
     refine hw_exit ?_
     refine seqQ_x ?_
     refine loopQ2_x ?_
     refine blockQ_eq ?_
     refine seqQ_n ?_
     rw [List.take_length] at hg ⊢
     refine hw_ghost (Ghost.only (i := 0) rfl) ?_
     refine hw_reg ?_
     refine dp rfl (pop_move rfl) ?_
     refine dp rfl (pop_assign rfl) ?_
     refine dp rfl (pop_assign rfl) ?_
     refine dn ?_
     refine hw_ret ?_
     (refine ret_fa (M := []) 6 rfl rfl ?_
      have hf := full_none (c := c) (S := S) (fun y hy => hO y (hEp.mem_iff.2 hy)) (fun s hs => hg s ((sortS_perm S).mem_iff.2 hs))
      rw [clinesL, clinesE, hf]; simp [Function.comp_def, ofVal, ofVal1])

end Go.Proofs.YtlankmahpaenhaaGreatDoor
end
section
namespace Go.Proofs.YtlankmahpaenhaaGreatDoor
open Go.HL
set_option maxRecDepth 100000
set_option linter.unusedVariables false
set_option linter.unusedSimpArgs false
set_option maxHeartbeats 1000000 in
/-- benchwarmer/play.lines -/
theorem c_play_lines [Tracks] {l : List Play} {trust : List Str} {week n : Int} (hT : Tracks.on = false) (hl : l.length ≤ 3000) (ht : trust.length ≤ 1000000) (ok : ∀ x ∈ l, playFault x = 0) : ConP Tryz.prog 51 [ePlays l, eSs trust, .int .i64 week, .int .i64 n] (.tup [eLines (linesL l trust week n), .int .i64 (linesE l trust week n)]) := by
 refine Con.of_body Tryz.func51 rfl Tryz.ntmps51 rfl rfl ?_
 refine hw_reg ?_
 refine dp rfl (pop_assign rfl) ?_
 refine dp rfl (pop_assign rfl) ?_
 refine dn ?_
 refine hw_reg ?_
 refine dp rfl (pop_move rfl) ?_
 refine dp rfl (pop_move rfl) ?_
 refine dp rfl (pop_move rfl) ?_
 refine de rfl (eop_callf (M1 := []) (R := []) ca78 rfl (WeakL.refl _) (List.Perm.refl _) (c_play_told (l := l) (trust := trust) (n := n) (by omega) ht) ?_)
 rintro _ _ ⟨b19, O19, rfl, hn19, hO19, rfl⟩
 refine dp rfl (pop_move rfl) ?_
 refine dp rfl (pop_move rfl) ?_
 refine de rfl (eop_callf (M1 := []) (R := _) ca40 rfl (WeakL.refl _) (List.Perm.refl _) (c_play_undone (l := l) (n := n) (by omega)) ?_)
 rintro _ _ ⟨b22, rfl, rfl⟩
 refine dp rfl (pop_assign rfl) ?_
 refine dp rfl (pop_assign rfl) ?_
 refine dn ?_
 refine hw_reg ?_
 refine de rfl (eop_makeMap fun m23 => ?_)
 refine de rfl (eop_makeMap fun m24 => ?_)
 refine dp rfl (pop_assign rfl) ?_
 refine dp rfl (pop_assign rfl) ?_
 refine dn ?_
 refine hw_seq ?_
 refine hw_reg ?_
 refine dp rfl (pop_move rfl) ?_
 refine dp rfl (pop_lenm ty26 rfl) ?_
 refine dp rfl (pop_move rfl) ?_
 refine dn ?_
 refine hw_block ?_
 refine hw_loopw [15, 27, 28, 29, 30, 31, 32, 33, 34, 35, 36, 37, 38, 39, 40, 41, 42, 43, 44, 45, 46, 47, 48, 49, 50, 51, 52, 53, 54, 55, 56, 57, 58, 59, 60, 61, 62, 63, 64, 65, 66, 67, 68, 69, 70, 71, 72, 73, 74, 75, 76, 77, 78, 79] (fun (k : Nat) => [(27, .int .i64 k)]) (fun (k : Nat) => [.map m24 (kk eOf (em (HVal.int .i64) (lnGo l trust week n (l.take k)).c)), .map m23 (sk (mset (lnGo l trust week n (l.take k)).S)), .map b22 (kk eNum (em HVal.bool (goneL l n))), .map b19 (sk (em HVal.str O19))]) (fun (k : Nat) => k ≤ l.length ∧ (True)) (fun (k : Nat) => l.length - k) (0) ?_ ?_ ?_ ?_
 ·exact ⟨Nat.zero_le _, trivial⟩
 ·exact ⟨rfl, trivial⟩
 ·exact perm_eq rfl
 ·intro k hinv
  obtain ⟨hk, -⟩ := hinv
  refine hw_reg ?_
  refine dp rfl (pop_lss rfl rfl) ?_
  refine dn ?_
  refine hw_seq ?_
  refine hw_cond rfl (fun h1 => ?_) (fun h2 => ?_)
  ·try simp at h1
   obtain ⟨x, hx⟩ : ∃ x, l[k]? = some x := ⟨_, List.getElem?_eq_getElem h1⟩
   have hdx := drop_cons hx
   refine hw_skip ?_
   refine seqQ_n ?_
   refine hw_seq ?_
   refine hw_block ?_
   refine hw_reg ?_
   refine dp rfl (pop_idx ty26 ty30 rfl rfl rfl (by assumption)) ?_
   refine dp rfl (pop_loadw ty30 rfl rfl rfl rfl) ?_
   refine de rfl (eop_alloc ty30 rfl fun b15 => ?_)
   refine de0 (eop_storew ty30 rfl rfl rfl rfl rfl ?_)
   refine dn ?_
   refine hw_ghost (Ghost.fc0 15 rfl) ?_
   refine hw_seq ?_
   refine hw_reg ?_
   refine dp rfl (pop_fieldAddr ty30 rfl ty3 (by decide) rfl) ?_
   refine dp rfl (pop_load ty3 rfl rfl rfl) ?_
   refine dp rfl (pop_move rfl) ?_
   refine dp rfl (pop_gtr rfl rfl) ?_
   refine dp rfl (pop_move rfl) ?_
   refine dg rfl rfl (fun hc => ⟨_, OpenTo.refl _, pop_fieldAddr ty30 rfl ty3 (by decide) rfl⟩) ?_
   refine dg rfl rfl (fun hc => ⟨_, OpenTo.upd (t := 36) rfl (hc) (OpenTo.refl _), pop_load ty3 rfl rfl rfl⟩) ?_
   refine dg rfl rfl (fun hc => ⟨_, OpenTo.refl _, pop_move rfl⟩) ?_
   refine dg rfl rfl (fun hc => ⟨_, OpenTo.upd (t := 38) rfl (hc) (OpenTo.upd (t := 37) rfl (hc) (OpenTo.refl _)), pop_neq rfl rfl⟩) ?_
   refine dp rfl (pop_picko rfl (.inl rfl) (.inr ⟨_, rfl, fun h => by simp_all⟩)) ?_
   refine dp rfl (pop_move rfl) ?_
   refine dg rfl rfl (fun hc => ⟨_, OpenTo.refl _, pop_fieldAddr ty30 rfl ty3 (by decide) rfl⟩) ?_
   refine dg rfl rfl (fun hc => ⟨_, OpenTo.upd (t := 42) rfl (hc) (OpenTo.refl _), pop_load ty3 rfl rfl rfl⟩) ?_
   refine dg rfl rfl (fun hc => ⟨_, OpenTo.upd (t := 43) rfl (hc) (OpenTo.refl _), pop_gtr rfl rfl⟩) ?_
   refine dp rfl (pop_picko rfl (.inl rfl) (.inr ⟨_, rfl, fun h => by simp_all⟩)) ?_
   refine dp rfl (pop_move rfl) ?_
   refine dg rfl rfl (fun hc => ⟨_, OpenTo.refl _, pop_move rfl⟩) ?_
   refine dg rfl rfl (fun hc => ⟨_, OpenTo.refl _, pop_fieldAddr ty30 rfl ty9 (by decide) rfl⟩) ?_
   refine dg rfl rfl (fun hc => ⟨_, OpenTo.upd (t := 48) rfl (hc) (OpenTo.refl _), pop_load ty9 rfl rfl rfl⟩) ?_
   refine dg rfl rfl (fun hc => ⟨_, OpenTo.refl _, pop_fieldAddr ty30 rfl ty3 (by decide) rfl⟩) ?_
   refine dg rfl rfl (fun hc => ⟨_, OpenTo.upd (t := 50) rfl (hc) (OpenTo.refl _), pop_load ty3 rfl rfl rfl⟩) ?_
   refine dg rfl rfl (fun hc => ⟨_, OpenTo.upd (t := 51) rfl (hc) (OpenTo.upd (t := 49) rfl (hc) (OpenTo.refl _)), pop_build (cs := [_, _]) ty75 pl75 rfl⟩) ?_
   refine dgl rfl rfl (fun hc => ⟨_, OpenTo.upd (t := 52) rfl (hc) (OpenTo.upd (t := 47) rfl (hc) (OpenTo.refl _)), eop_lookupkA (i := 2) (s := (x.Source, x.No)) (z0 := false) ty72 ok75 ty4 rfl rfl rfl rfl ⟨rfl, rfl⟩⟩) ?_
   refine dp rfl (pop_picko rfl (.inl rfl) (.inr ⟨_, rfl, fun h => by simp_all⟩)) ?_
   refine dp rfl (pop_move rfl) ?_
   refine dg rfl rfl (fun hc => ⟨_, OpenTo.refl _, pop_move rfl⟩) ?_
   refine dg rfl rfl (fun hc => ⟨_, OpenTo.refl _, pop_fieldAddr ty30 rfl ty9 (by decide) rfl⟩) ?_
   refine dg rfl rfl (fun hc => ⟨_, OpenTo.upd (t := 57) rfl (hc) (OpenTo.refl _), pop_load ty9 rfl rfl rfl⟩) ?_
   refine dgl rfl rfl (fun hc => ⟨_, OpenTo.upd (t := 58) rfl (hc) (OpenTo.upd (t := 56) rfl (hc) (OpenTo.refl _)), eop_lookupA (i := 3) (z0 := ([] : Str)) ty117 ty9 ty9 rfl rfl rfl rfl ⟨rfl, rfl⟩⟩) ?_
   refine dg rfl rfl (fun hc => ⟨_, OpenTo.refl _, pop_fieldAddr ty30 rfl ty9 (by decide) rfl⟩) ?_
   refine dg rfl rfl (fun hc => ⟨_, OpenTo.upd (t := 60) rfl (hc) (OpenTo.refl _), pop_load ty9 rfl rfl rfl⟩) ?_
   refine dg rfl rfl (fun hc => ⟨_, OpenTo.upd (t := 61) rfl (hc) (OpenTo.upd (t := 59) rfl (hc) (OpenTo.refl _)), pop_neqs rfl rfl⟩) ?_
   refine dp rfl (pop_picko rfl (.inl rfl) (.inr ⟨_, rfl, fun h => by simp_all⟩)) ?_
   refine dn ?_
   refine hw_cond rfl (fun h3 => ?_) (fun h4 => ?_)
   ·try simp at h3
    refine hw_exit ?_
    refine seqQ_x ?_
    refine blockQ_eq ?_
    refine seqQ_n ?_
    refine hw_reg1 ?_
    refine dp rfl (pop_add64 rfl rfl (by omega) (by omega)) ?_
    refine dp rfl (pop_move rfl) ?_
    refine dn ?_
    exact ⟨k + 1, ⟨by omega, trivial⟩, by dsimp only; omega, ⟨rfl, trivial⟩, (by repeat (first | exact keeps_refl | refine keeps_upd rfl ?_ | refine keeps_loop rfl rfl ?_)), perm_eq (by dsimp only; rw [lnGo_snoc hx, lnStep, if_neg (by rw [inLine_f hO19 h3]; simp)])⟩
   ·try simp at h4
    refine hw_skip ?_
    refine seqQ_n ?_
    refine hw_reg ?_
    refine dp rfl (pop_move rfl) ?_
    refine dp rfl (pop_fieldAddr ty30 rfl ty9 (by decide) rfl) ?_
    refine dp rfl (pop_load ty9 rfl rfl rfl) ?_
    refine de0 (eop_update_set (i := 1) ty63 ty9 rfl rfl rfl rfl ?_)
    refine dn ?_
    have hpx := ok x (List.mem_of_getElem? hx)
    obtain ⟨_, _, _, _, _, hcb, _⟩ := playFault_ok hpx
    have hlk := ln_ok (l := l) (m := l.take k) (trust := trust) (week := week) (n := n) (fun y hy => ok y (List.mem_of_mem_take hy))
    have hvb := hlk.val (x.Player, x.Stat)
    have hlt : ((l.take k).length : Int) ≤ 3000 := by rw [List.length_take]; omega
    refine hw_draw1 (fun M => M = [MObj.map m24 (kk eOf (em (HVal.int .i64) (lnGo l trust week n (l.take k)).c)), MObj.map m23 (sk (mset (sadd x.Player (lnGo l trust week n (l.take k)).S))), MObj.map b22 (kk eNum (em HVal.bool (goneL l n))), MObj.map b19 (sk (em HVal.str O19))] ∨ ∃ j st, kidx (x.Player, x.Stat) (kent (x.Player, x.Stat) (HVal.int .i64 0) (em (HVal.int .i64) (lnGo l trust week n (l.take k)).c)) = some j ∧ M = [MObj.mape m24 (kk eOf (kent (x.Player, x.Stat) (HVal.int .i64 0) (em (HVal.int .i64) (lnGo l trust week n (l.take k)).c))) j st, MObj.map m23 (sk (mset (sadd x.Player (lnGo l trust week n (l.take k)).S))), MObj.map b22 (kk eNum (em HVal.bool (goneL l n))), MObj.map b19 (sk (em HVal.str O19))]) [6] mixed ?_
    refine ahp 0 rfl rfl (by kernel_rfl) (by kernel_rfl) (pop_move rfl) ?_
    refine ahp 1 rfl rfl (by kernel_rfl) (by kernel_rfl) (pop_fieldAddr ty30 rfl ty9 (by decide) rfl) ?_
    refine ahp 2 rfl rfl (by kernel_rfl) (by kernel_rfl) (pop_load ty9 rfl rfl rfl) ?_
    refine ahp 3 rfl rfl (by kernel_rfl) (by kernel_rfl) (pop_fieldAddr ty30 rfl ty9 (by decide) rfl) ?_
    refine ahp 4 rfl rfl (by kernel_rfl) (by kernel_rfl) (pop_load ty9 rfl rfl rfl) ?_
    refine ahp 5 rfl rfl (by kernel_rfl) (by kernel_rfl) (pop_build (cs := [_, _]) ty122 pl122 rfl) ?_
    refine ahl 6 rfl rfl (by kernel_rfl) (by kernel_rfl) (by simp) (.inl rfl) (fun M hM => by
   rcases hM with rfl | ⟨j, st, hj, rfl⟩
   ·exact eop_lookupkA (i := 0) (s := (x.Player, x.Stat)) (z0 := (0 : Int)) ty120 ok122 ty3 rfl rfl rfl rfl ⟨rfl, rfl⟩
   ·exact eop_lookupke (i := 0) (s := (x.Player, x.Stat)) (z0 := (0 : Int)) (f := HVal.int .i64) ty120 ok122 ty3 rfl rfl rfl rfl ⟨rfl, rfl⟩) ?_
    refine ahp 7 rfl rfl (by kernel_rfl) (by kernel_rfl) (pop_fieldAddr ty30 rfl ty3 (by decide) rfl) ?_
    refine ahp 8 rfl rfl (by kernel_rfl) (by kernel_rfl) (pop_load ty3 rfl rfl rfl) ?_
    refine ahp 9 rfl rfl (by kernel_rfl) (by kernel_rfl) (pop_add64 rfl rfl (by omega) (by omega)) ?_
    refine ahe 10 rfl (by kernel_rfl) ?_
    refine hop_e rfl (eop_mapEntryA (i := 0) (s := (x.Player, x.Stat)) (z0 := (0 : Int)) (f := HVal.int .i64) ty120 ok122 ty3 rfl rfl rfl rfl fun j77 st77 hj77 => ?_)
    refine ⟨fun _ => .inl (.inr ⟨j77, st77, hj77, rfl⟩), ?_⟩
    refine ahp 11 rfl rfl (by kernel_rfl) (by kernel_rfl) (pop_extract rfl rfl) ?_
    refine ahe 12 rfl (by kernel_rfl) ?_
    refine hop_e0 (eop_entryStoreA (i := 0) (s := (x.Player, x.Stat)) (f := HVal.int .i64) (z0 := (0 : Int)) (v := (alk (x.Player, x.Stat) (lnGo l trust week n (l.take k)).c).getD 0 + x.Count) rfl rfl rfl rfl hj77 ?_)
    refine ⟨fun _ => .inr (by simp [Before, Region.binds]), ?_⟩
    refine ahz (by kernel_rfl) ?_
    refine blockQ_n ?_
    refine seqQ_n ?_
    refine hw_reg1 ?_
    refine dp rfl (pop_add64 rfl rfl (by omega) (by omega)) ?_
    refine dp rfl (pop_move rfl) ?_
    refine dn ?_
    exact ⟨k + 1, ⟨by omega, trivial⟩, by dsimp only; omega, ⟨rfl, trivial⟩, (by repeat (first | exact keeps_refl | refine keeps_upd rfl ?_ | refine keeps_loop rfl rfl ?_)), perm_eq (by dsimp only; rw [lnGo_snoc hx, lnStep, if_pos (inLine_t hO19 h4)]; rfl)⟩
  ·try simp at h2
   have hnk : l.length ≤ k := by omega
   obtain rfl : k = l.length := by omega
   refine hw_exit ?_
   refine seqQ_x ?_
   refine loopQ_x ?_
   refine blockQ_eq ?_
   refine seqQ_n ?_
   rw [List.take_length]
   have hok := ln_ok (l := l) (m := l) (trust := trust) (week := week) (n := n) ok
   refine hw_reg ?_
   refine dp rfl (pop_move rfl) ?_
   refine dp rfl (pop_move rfl) ?_
   refine dp rfl (pop_move rfl) ?_
   refine de rfl (eop_callf (M1 := [_, _]) (R := [_, _]) ca79 rfl (WeakL.refl _) (List.Perm.refl _) (c_play_counted_lines hT hok.c hok.S hok.k (Nat.le_trans hok.cl (by omega)) (Nat.le_trans hok.Sl (by omega))) ?_)
   rintro _ _ ⟨rfl, rfl⟩
   refine dp rfl (pop_extract rfl rfl) ?_
   refine dp rfl (pop_extract rfl rfl) ?_
   refine dp rfl (pop_assign rfl) ?_
   refine dp rfl (pop_assign rfl) ?_
   refine dn ?_
   refine hw_ret ?_
   exact ret_g Ghost.clear rfl ⟨rfl, rfl⟩

/-- benchwarmer/play.Lines -/
theorem c_play_Lines [Tracks] {l : List Play} {trust : List Str} {week n : Int} (hT : Tracks.on = false) (hl : l.length ≤ 1000000) (ht : trust.length ≤ 1000000) : ConP Tryz.prog 23 [ePlays l, eSs trust, .int .i64 week, .int .i64 n] (.tup [eLines (LinesL l trust week n), .int .i64 (LinesE l trust week n)]) := by
 refine Con.of_body Tryz.func23 rfl Tryz.ntmps23 rfl rfl ?_
 refine hw_reg ?_
 refine dp rfl (pop_assign rfl) ?_
 refine dp rfl (pop_assign rfl) ?_
 refine dn ?_
 refine hw_seq ?_
 refine hw_reg ?_
 refine dp rfl (pop_move rfl) ?_
 refine dp rfl (pop_call ca11 rfl (WeakL.refl _) (c_play_CheckPlays (by assumption))) ?_
 refine dp rfl (pop_move rfl) ?_
 refine dp rfl (pop_call ca48 rfl (WeakL.refl _) (c_play_CheckTrust (by assumption))) ?_
 refine dp rfl (pop_buildSlice (hs := [_, _]) ty67 ty34 rfl rfl (by decide) (by decide) rfl) ?_
 refine dp rfl (pop_call ca36 rfl (WeakL.refl _) (c_base_First (l := [_, _]) (by simp))) ?_
 refine dp rfl (pop_assign rfl) ?_
 refine dn ?_
 refine hw_reg ?_
 refine dp rfl (pop_move rfl) ?_
 refine dp rfl (pop_neq rfl rfl) ?_
 refine dn ?_
 refine hw_cond rfl (fun h1 => ?_) (fun h2 => ?_)
 ·try simp at h1
  refine hw_reg ?_
  refine dp rfl (pop_move rfl) ?_
  refine dp rfl (pop_assign rfl) ?_
  refine dp rfl (pop_assign rfl) ?_
  refine dn ?_
  refine hw_ret ?_
  exact ret_w rfl (weak_tup2 (by rw [LinesL, if_pos (by simpa using h1)]; exact weak_nil 3) (by rw [LinesE, if_pos (by simpa using h1)]; exact Weak.refl _))
 ·try simp at h2
  refine hw_skip ?_
  refine seqQ_n ?_
  refine hw_seq ?_
  refine hw_reg ?_
  refine dp rfl (pop_move rfl) ?_
  refine dp rfl (pop_call ca49 rfl (WeakL.refl _) c_base_Week) ?_
  refine dp rfl (pop_not rfl) ?_
  refine dp rfl (pop_move rfl) ?_
  refine dg rfl rfl (fun hc => ⟨_, OpenTo.refl _, pop_move rfl⟩) ?_
  refine dg rfl rfl (fun hc => ⟨_, OpenTo.upd (t := 24) rfl (hc) (OpenTo.refl _), pop_call ca50 rfl (WeakL.refl _) c_base_Moment⟩) ?_
  refine dg rfl rfl (fun hc => ⟨_, OpenTo.upd (t := 25) rfl (hc) (OpenTo.refl _), pop_not rfl⟩) ?_
  refine dp rfl (pop_picko rfl (.inl rfl) (.inr ⟨_, rfl, fun h => by simp_all⟩)) ?_
  refine dn ?_
  refine hw_cond rfl (fun h3 => ?_) (fun h4 => ?_)
  ·try simp at h3
   refine hw_reg ?_
   refine dp rfl (pop_assign rfl) ?_
   refine dp rfl (pop_assign rfl) ?_
   refine dn ?_
   refine hw_ret ?_
   exact ret_w rfl (weak_tup2 (by rw [LinesL, if_neg (by simpa using h2), if_pos (by simp_all)]; exact weak_nil 3) (by rw [LinesE, if_neg (by simpa using h2), if_pos (by simp_all)]; exact Weak.refl _))
  ·try simp at h4
   refine hw_skip ?_
   refine seqQ_n ?_
   refine hw_reg ?_
   refine dp rfl (pop_move rfl) ?_
   refine dp rfl (pop_move rfl) ?_
   refine dp rfl (pop_move rfl) ?_
   refine dp rfl (pop_move rfl) ?_
   refine dp rfl (pop_call ca51 rfl (WeakL.refl _) (c_play_lines hT (playsE_ok (okPT h2).1).1 ht (plays_fault (okPT h2).1))) ?_
   refine dp rfl (pop_extract rfl rfl) ?_
   refine dp rfl (pop_extract rfl rfl) ?_
   refine dp rfl (pop_assign rfl) ?_
   refine dp rfl (pop_assign rfl) ?_
   refine dn ?_
   refine hw_ret ?_
   (refine ret_p rfl ?_
    rw [LinesL, LinesE, if_neg (by simpa using h2), if_neg (by simp_all), if_neg (by simpa using h2), if_neg (by simp_all)])

end Go.Proofs.YtlankmahpaenhaaGreatDoor
end
section
namespace Go.Proofs.YtlankmahpaenhaaGreatDoor
open Go.HL
set_option maxRecDepth 100000
set_option linter.unusedVariables false
set_option linter.unusedSimpArgs false
end Go.Proofs.YtlankmahpaenhaaGreatDoor
end
section
namespace Go.Proofs.YtlankmahpaenhaaGreatDoor
open Go.HL
set_option maxRecDepth 100000
set_option linter.unusedVariables false
set_option linter.unusedSimpArgs false
end Go.Proofs.YtlankmahpaenhaaGreatDoor
end
section
namespace Go.Proofs.YtlankmahpaenhaaGreatDoor
open Go.HL
set_option maxRecDepth 100000
set_option linter.unusedVariables false
set_option linter.unusedSimpArgs false
end Go.Proofs.YtlankmahpaenhaaGreatDoor
end
section
namespace Go.Proofs.YtlankmahpaenhaaGreatDoor
open Go.HL
set_option maxRecDepth 100000
set_option linter.unusedVariables false
set_option linter.unusedSimpArgs false
/-- strings.makeASCIISet -/
theorem c_strings_makeASCIISet [Tracks] {l : Str} (hl : l.length ≤ 1000000) (ha : ∀ c ∈ l, c.toNat < 128) : ConP Tryz.prog 118 [.str l] (.tup [.agg (asciiSet l), .bool true]) := by
 refine Con.of_bodyc Tryz.func118 rfl Tryz.ntmps118 rfl rfl ?_
 refine hw_reg ?_
 refine de rfl (eop_alloc ty169 rfl fun b2 => ?_)
 refine dp rfl (pop_assign rfl) ?_
 refine dn ?_
 refine hw_seq ?_
 refine hw_reg ?_
 refine dp rfl (pop_assign rfl) ?_
 refine dn ?_
 refine hw_block ?_
 refine hw_loopw [3, 4, 5, 6, 7, 8, 9, 10, 11, 12, 13, 14, 15, 16, 17, 18, 19] (fun (k : Nat) => [(4, .int .i64 k)]) (fun (k : Nat) => [.cells b2 (asciiSet (l.take k))]) (fun (k : Nat) => k ≤ l.length ∧ (True)) (fun (k : Nat) => l.length - k) (0) ?_ ?_ ?_ ?_
 ·exact ⟨Nat.zero_le _, by simp_all⟩
 ·exact ⟨rfl, trivial⟩
 ·exact perm_eq rfl
 ·intro k hinv
  obtain ⟨hk, -⟩ := hinv
  refine hw_seq ?_
  refine hw_reg ?_
  refine dp rfl (pop_move rfl) ?_
  refine dp rfl (pop_move rfl) ?_
  refine dp rfl (pop_lens ty9 rfl) ?_
  refine dp rfl (pop_lss rfl rfl) ?_
  refine dn ?_
  refine hw_cond rfl (fun h1 => ?_) (fun h2 => ?_)
  ·try simp at h1
   obtain ⟨x, hx⟩ : ∃ x, l[k]? = some x := ⟨_, List.getElem?_eq_getElem h1⟩
   have hdx := drop_cons hx
   have hc := ha x (List.mem_of_getElem? hx)
   refine hw_skip ?_
   refine seqQ_n ?_
   refine hw_seq ?_
   refine hw_block ?_
   refine hw_reg ?_
   refine dp rfl (pop_move rfl) ?_
   refine dp rfl (pop_move rfl) ?_
   refine dp rfl (pop_indexs ty9 rfl rfl rfl (by assumption)) ?_
   refine dp rfl (pop_assign rfl) ?_
   refine dn ?_
   refine hw_seq ?_
   refine hw_reg ?_
   refine dp rfl (pop_move rfl) ?_
   refine dp rfl (pop_geq rfl rfl) ?_
   refine dn ?_
   refine hw_cond rfl (fun h3 => ?_) (fun h3 => ?_)
   ·exfalso
    try simp at h3
    omega
   ·try simp at h3
    refine hw_skip ?_
    refine seqQ_n ?_
    refine hw_reg1 ?_
    refine dp rfl (pop_move rfl) ?_
    refine dp rfl (pop_idxa_raw ty169 ty4 rfl rfl rfl (by omega)) ?_
    refine de0 (eop_store (i := 0) ty4 rfl rfl rfl rfl rfl (by rw [asciiSet_len]; omega) ?_)
    refine dn ?_
    refine blockQ_n ?_
    refine seqQ_n ?_
    refine hw_reg1 ?_
    refine dp rfl (pop_move rfl) ?_
    refine dp rfl (pop_add64 rfl rfl (by omega) (by omega)) ?_
    refine dp rfl (pop_assign rfl) ?_
    refine dn ?_
    refine ⟨k + 1, ?_, ?_, ⟨rfl, trivial⟩, (by repeat (first | exact keeps_refl | refine keeps_upd rfl ?_ | refine keeps_loop rfl rfl ?_)), perm_eq (by show [MObj.cells b2 (setL _ (0 + x.toNat * 1) [.bool true])] = _; rw [asciiSet_add]; dsimp only; rw [List.take_add_one, hx]; rfl)⟩
    ·exact ⟨by omega, trivial⟩
    ·dsimp only; omega
  ·try simp at h2
   have hnk : l.length ≤ k := by omega
   obtain rfl : k = l.length := by omega
   refine hw_exit ?_
   refine seqQ_x ?_
   refine loopQ_x ?_
   refine blockQ_eq ?_
   refine seqQ_n ?_
   refine hw_ghost (Ghost.of_eq (M' := [.cells b2 (asciiSet l)]) (by rw [List.take_length])) ?_
   refine hw_reg ?_
   refine de rfl (eop_loadw (i := 0) (h := .agg (asciiSet l)) ty169 rfl rfl rfl rfl (asciiSet_len l) ?_)
   refine de0 (eop_storew (h := .agg (asciiSet l)) ty169 rfl rfl (by simp [okElem, asciiSet_len]) (asciiSet_flat l) (asciiSet_len l) ?_)
   refine dp rfl (pop_assign rfl) ?_
   refine dn ?_
   refine hw_ret ?_
   refine ⟨_, _, Ghost.fc0 2 rfl, [_, _], _, ⟨⟨_, _, _, _, _, rfl, ty169, .inr ⟨rfl, rfl, rfl⟩⟩, ⟨rfl, trivial⟩⟩, Weak.refl _, ?_, rfl⟩
   rfl

/-- (*strings.asciiSet).contains -/
theorem c_strings_asciiSet_contains [Tracks] {l : Str} {c : UInt8}  : ConP Tryz.prog 148 [.vptr (asciiSet l) 0, .int .u8 c.toNat] (.bool (l.contains c)) := by
 have hc := c.toNat_lt
 refine Con.of_body Tryz.func148 rfl Tryz.ntmps148 rfl rfl ?_
 refine hw_reg ?_
 refine dp rfl (pop_assign rfl) ?_
 refine dn ?_
 refine hw_reg ?_
 refine dp rfl (pop_move rfl) ?_
 refine dp rfl (pop_move rfl) ?_
 refine dp rfl ((pop_nilCheck rfl)) ?_
 refine dp rfl (pop_idxa ty169 ty4 rfl rfl rfl (by omega)) ?_
 refine dp rfl (pop_load ty4 rfl rfl (by rw [show 0 + c.toNat * 1 = c.toNat from by omega]; exact asciiSet_get l c)) ?_
 refine dp rfl (pop_assign rfl) ?_
 refine dn ?_
 refine hw_ret ?_
 refine ret_p rfl ?_
 rfl

/-- strings.trimLeftASCII -/
theorem c_strings_trimLeftASCII [Tracks] {s l : Str} (hl : s.length ≤ 1000000) : ConP Tryz.prog 119 [.str s, .vptr (asciiSet l) 0] (.str (s.dropWhile (l.contains ·))) := by
 refine Con.of_body Tryz.func119 rfl Tryz.ntmps119 rfl rfl ?_
 refine hw_reg ?_
 refine dp rfl (pop_assign rfl) ?_
 refine dn ?_
 refine hw_seq ?_
 refine hw_block ?_
 refine hw_loopw [0, 5, 6, 7, 8, 9, 10, 11, 12, 13, 14] (fun (t : Str) => [(0, .str t)]) (fun (t : Str) => []) (fun (t : Str) => t.length ≤ s.length ∧ s.dropWhile (l.contains ·) = t.dropWhile (l.contains ·)) (fun (t : Str) => t.length) (s) ?_ ?_ ?_ ?_
 ·exact ⟨Nat.le_refl _, rfl⟩
 ·exact ⟨rfl, trivial⟩
 ·exact List.Perm.refl _
 ·intro t hinv
  obtain ⟨ht, hg⟩ := hinv
  refine hw_seq ?_
  refine hw_reg ?_
  refine dp rfl (pop_move rfl) ?_
  refine dp rfl (pop_lens ty9 rfl) ?_
  refine dp rfl (pop_gtr rfl rfl) ?_
  refine dn ?_
  refine hw_cond rfl (fun h1 => ?_) (fun h2 => ?_)
  ·try simp at h1
   obtain ⟨x, u, rfl⟩ : ∃ x u, t = x :: u := by cases t with | nil => simp at h1 | cons x u => exact ⟨x, u, rfl⟩
   have hlen : (x :: u).length = u.length + 1 := rfl
   refine hw_skip ?_
   refine seqQ_n ?_
   refine hw_block ?_
   refine hw_seq ?_
   refine hw_reg ?_
   refine dp rfl (pop_move rfl) ?_
   refine dp rfl (pop_move rfl) ?_
   refine dp rfl (pop_indexs (j := 0) (b := x) ty9 rfl rfl rfl rfl) ?_
   refine dp rfl (pop_call ca148 rfl (WeakL.refl _) c_strings_asciiSet_contains) ?_
   refine dp rfl (pop_not rfl) ?_
   refine dn ?_
   refine hw_cond rfl (fun h3 => ?_) (fun h4 => ?_)
   ·try simp at h3
    refine hw_exit ?_
    refine seqQ_x ?_
    refine blockQ_ne rfl ?_
    refine loopQ_x ?_
    refine blockQ_eq ?_
    refine seqQ_n ?_
    refine hw_reg ?_
    refine dp rfl (pop_move rfl) ?_
    refine dp rfl (pop_assign rfl) ?_
    refine dn ?_
    refine hw_ret ?_
    refine ret_p rfl ?_
    show HVal.str _ = _
    rw [hg]; simp_all [List.dropWhile_cons]
   ·try simp at h4
    refine hw_skip ?_
    refine seqQ_n ?_
    refine hw_reg1 ?_
    refine dp rfl (pop_move rfl) ?_
    refine dp rfl (pop_slices (l := 1) ty9 rfl ⟨_, _, rfl, rfl⟩ rfl (by omega) (by omega)) ?_
    refine dp rfl (pop_assign rfl) ?_
    refine dn ?_
    refine blockQ_n ?_
    refine ⟨_, ?_, ?_, ⟨rfl, trivial⟩, (by repeat (first | exact keeps_refl | refine keeps_upd rfl ?_ | refine keeps_loop rfl rfl ?_)), List.Perm.refl _⟩
    ·refine ⟨by simp at ht ⊢; omega, ?_⟩
     rw [hg]; simp_all [List.dropWhile_cons]
    ·dsimp only; simp
  ·try simp at h2
   obtain rfl : t = [] := by simpa using h2
   refine hw_exit ?_
   refine seqQ_x ?_
   refine loopQ_x ?_
   refine blockQ_eq ?_
   refine seqQ_n ?_
   refine hw_reg ?_
   refine dp rfl (pop_move rfl) ?_
   refine dp rfl (pop_assign rfl) ?_
   refine dn ?_
   refine hw_ret ?_
   refine ret_p rfl ?_
   show HVal.str _ = _
   rw [hg]; simp_all [List.dropWhile_cons]

/-- strings.trimRightASCII -/
theorem c_strings_trimRightASCII [Tracks] {s l : Str} (hl : s.length ≤ 1000000) : ConP Tryz.prog 120 [.str s, .vptr (asciiSet l) 0] (.str (rtrim (l.contains ·) s)) := by
 refine Con.of_body Tryz.func120 rfl Tryz.ntmps120 rfl rfl ?_
 refine hw_reg ?_
 refine dp rfl (pop_assign rfl) ?_
 refine dn ?_
 refine hw_seq ?_
 refine hw_block ?_
 refine hw_loopw [0, 5, 6, 7, 8, 9, 10, 11, 12, 13, 14, 15, 16, 17, 18, 19, 20] (fun (t : Str) => [(0, .str t)]) (fun (t : Str) => []) (fun (t : Str) => t.length ≤ s.length ∧ rtrim (l.contains ·) s = rtrim (l.contains ·) t) (fun (t : Str) => t.length) (s) ?_ ?_ ?_ ?_
 ·exact ⟨Nat.le_refl _, rfl⟩
 ·exact ⟨rfl, trivial⟩
 ·exact List.Perm.refl _
 ·intro t hinv
  obtain ⟨ht, hg⟩ := hinv
  refine hw_seq ?_
  refine hw_reg ?_
  refine dp rfl (pop_move rfl) ?_
  refine dp rfl (pop_lens ty9 rfl) ?_
  refine dp rfl (pop_gtr rfl rfl) ?_
  refine dn ?_
  refine hw_cond rfl (fun h1 => ?_) (fun h2 => ?_)
  ·try simp at h1
   obtain ⟨u, x, rfl⟩ : ∃ u x, t = u ++ [x] := ⟨_, _, (List.dropLast_concat_getLast (by intro h0; subst h0; simp at h1)).symm⟩
   have hlen : (u ++ [x]).length = u.length + 1 := by simp
   refine hw_skip ?_
   refine seqQ_n ?_
   refine hw_block ?_
   refine hw_seq ?_
   refine hw_reg ?_
   refine dp rfl (pop_move rfl) ?_
   refine dp rfl (pop_move rfl) ?_
   refine dp rfl (pop_move rfl) ?_
   refine dp rfl (pop_lens ty9 rfl) ?_
   refine dp rfl (pop_sub64 rfl rfl (by omega) (by omega)) ?_
   refine dp rfl (pop_indexs (j := u.length) (b := x) ty9 rfl rfl (by omega) (by simp)) ?_
   refine dp rfl (pop_call ca148 rfl (WeakL.refl _) c_strings_asciiSet_contains) ?_
   refine dp rfl (pop_not rfl) ?_
   refine dn ?_
   refine hw_cond rfl (fun h3 => ?_) (fun h4 => ?_)
   ·try simp at h3
    refine hw_exit ?_
    refine seqQ_x ?_
    refine blockQ_ne rfl ?_
    refine loopQ_x ?_
    refine blockQ_eq ?_
    refine seqQ_n ?_
    refine hw_reg ?_
    refine dp rfl (pop_move rfl) ?_
    refine dp rfl (pop_assign rfl) ?_
    refine dn ?_
    refine hw_ret ?_
    refine ret_p rfl ?_
    show HVal.str _ = _
    rw [hg]; first | rfl | (rw [rtrim_snoc, if_neg (by simp_all)])
   ·try simp at h4
    refine hw_skip ?_
    refine seqQ_n ?_
    refine hw_reg1 ?_
    refine dp rfl (pop_move rfl) ?_
    refine dp rfl (pop_move rfl) ?_
    refine dp rfl (pop_lens ty9 rfl) ?_
    refine dp rfl (pop_sub64 rfl rfl (by omega) (by omega)) ?_
    refine dp rfl (pop_slices (l := 0) (h := u.length) ty9 rfl rfl ⟨_, _, rfl, by omega⟩ (by omega) (by omega)) ?_
    refine dp rfl (pop_assign rfl) ?_
    refine dn ?_
    refine blockQ_n ?_
    refine ⟨_, ?_, ?_, ⟨rfl, trivial⟩, (by repeat (first | exact keeps_refl | refine keeps_upd rfl ?_ | refine keeps_loop rfl rfl ?_)), List.Perm.refl _⟩
    ·refine ⟨by simp at ht ⊢; omega, ?_⟩
     rw [hg, rtrim_snoc, if_pos (by simp_all)]; simp
    ·dsimp only; simp
  ·try simp at h2
   obtain rfl : t = [] := by simpa using h2
   refine hw_exit ?_
   refine seqQ_x ?_
   refine loopQ_x ?_
   refine blockQ_eq ?_
   refine seqQ_n ?_
   refine hw_reg ?_
   refine dp rfl (pop_move rfl) ?_
   refine dp rfl (pop_assign rfl) ?_
   refine dn ?_
   refine hw_ret ?_
   refine ret_p rfl ?_
   show HVal.str _ = _
   rw [hg]; first | rfl | (rw [rtrim_snoc, if_neg (by simp_all)])

/-- strings.Trim -/
theorem c_strings_Trim [Tracks] {s l : Str} (hs : s.length ≤ 1000000) (hl : l.length ≤ 1000000) (h2l : 2 ≤ l.length) (ha : ∀ c ∈ l, c.toNat < 128) : ConP Tryz.prog 85 [.str s, .str l] (.str ((rtrim (l.contains ·) s).dropWhile (l.contains ·))) := by
 refine Con.of_body Tryz.func85 rfl Tryz.ntmps85 rfl rfl ?_
 refine hw_reg ?_
 refine dp rfl (pop_assign rfl) ?_
 refine dn ?_
 refine hw_seq ?_
 refine hw_reg ?_
 refine dp rfl (pop_move rfl) ?_
 refine dp rfl (pop_eqls rfl rfl) ?_
 refine dp rfl (pop_move rfl) ?_
 refine dg rfl rfl (fun hc => ⟨_, OpenTo.refl _, pop_move rfl⟩) ?_
 refine dg rfl rfl (fun hc => ⟨_, OpenTo.upd (t := 10) rfl (hc) (OpenTo.refl _), pop_eqls rfl rfl⟩) ?_
 refine dp rfl (pop_picko rfl (.inl rfl) (.inr ⟨_, rfl, fun h => by simp_all⟩)) ?_
 refine dn ?_
 refine hw_cond rfl (fun h1 => ?_) (fun h2 => ?_)
 ·try simp at h1
  refine hw_reg ?_
  refine dp rfl (pop_move rfl) ?_
  refine dp rfl (pop_assign rfl) ?_
  refine dn ?_
  refine hw_ret ?_
  refine ret_p rfl ?_
  show HVal.str _ = _
  (rcases h1 with rfl | rfl <;> first | (simp at h2l; done) | (simp [rtrim]; done))
 ·try simp at h2
  refine hw_skip ?_
  refine seqQ_n ?_
  refine hw_seq ?_
  refine hw_reg ?_
  refine dp rfl (pop_move rfl) ?_
  refine dp rfl (pop_lens ty9 rfl) ?_
  refine dp rfl (pop_eql rfl rfl) ?_
  refine dp rfl (pop_move rfl) ?_
  refine dg rfl rfl (fun hc => ⟨_, OpenTo.refl _, pop_move rfl⟩) ?_
  refine dg rfl rfl (fun hc => ⟨_, OpenTo.upd (t := 18) rfl (hc) (OpenTo.refl _), pop_indexs (j := 0) (b := l.headD 0) ty9 rfl rfl rfl (hd0 (by intro h0; subst h0; simp at h2l))⟩) ?_
  refine dg rfl rfl (fun hc => ⟨_, OpenTo.upd (t := 19) rfl (hc) (OpenTo.refl _), pop_lss rfl rfl⟩) ?_
  refine dp rfl (pop_picko rfl (.inr ⟨_, rfl, fun h => by simp_all⟩) (.inl rfl)) ?_
  refine dn ?_
  refine hw_cond rfl (fun h3 => ?_) (fun h3 => ?_)
  ·exfalso
   try simp at h3
   omega
  ·try simp at h3
   refine hw_skip ?_
   refine seqQ_n ?_
   refine hw_seq ?_
   refine hw_reg ?_
   refine dp rfl (pop_move rfl) ?_
   refine dp rfl (pop_call ca118 rfl (WeakL.refl _) (c_strings_makeASCIISet (by assumption) (by assumption))) ?_
   refine dp rfl (pop_move rfl) ?_
   refine dp rfl (pop_extract rfl rfl) ?_
   refine dp rfl (pop_extract rfl rfl) ?_
   refine de rfl (eop_alloc ty169 rfl fun b5 => ?_)
   refine de0 (eop_storew ty169 rfl rfl rfl rfl rfl ?_)
   refine dp rfl (pop_assign rfl) ?_
   refine dn ?_
   refine hw_ghost (Ghost.fc0 5 rfl) ?_
   refine hw_reg ?_
   refine dp rfl (pop_move rfl) ?_
   refine dn ?_
   refine hw_cond_t rfl ?_
   refine hw_reg ?_
   refine dp rfl (pop_move rfl) ?_
   refine dp rfl (pop_call ca120 rfl (WeakL.refl _) (c_strings_trimRightASCII (by assumption))) ?_
   refine dp rfl (pop_call ca119 rfl (WeakL.refl _) (c_strings_trimLeftASCII (Nat.le_trans (rtrim_len _ _) hs))) ?_
   refine dp rfl (pop_assign rfl) ?_
   refine dn ?_
   refine hw_ret ?_
   refine ret_p rfl ?_
   show HVal.str _ = _
   rfl

/-- internal/stringslite.IndexByte -/
theorem c_internal_stringslite_IndexByte [Tracks] {s : Str} {c : Int}  : ConP Tryz.prog 123 [.str s, .int .u8 c] (.int .i64 (Lib.indexByte s c.toNat.toUInt8)) := by
 refine Con.of_body Tryz.func123 rfl Tryz.ntmps123 rfl rfl ?_
 refine hw_reg ?_
 refine dp rfl (pop_assign rfl) ?_
 refine dn ?_
 refine hw_reg ?_
 refine dp rfl (pop_move rfl) ?_
 refine dp rfl (pop_move rfl) ?_
 refine dp rfl (pop_indexByte Tryz.func152 (by kernel_rfl) (by kernel_rfl) (by kernel_rfl) (by kernel_rfl) rfl rfl rfl) ?_
 refine dp rfl (pop_assign rfl) ?_
 refine dn ?_
 refine hw_ret ?_
 refine ret_p rfl ?_
 rfl

/-- strings.IndexByte -/
theorem c_strings_IndexByte [Tracks] {s : Str} {c : Int}  : ConP Tryz.prog 86 [.str s, .int .u8 c] (.int .i64 (Lib.indexByte s c.toNat.toUInt8)) := by
 refine Con.of_body Tryz.func86 rfl Tryz.ntmps86 rfl rfl ?_
 refine hw_reg ?_
 refine dp rfl (pop_assign rfl) ?_
 refine dn ?_
 refine hw_reg ?_
 refine dp rfl (pop_move rfl) ?_
 refine dp rfl (pop_move rfl) ?_
 refine dp rfl (pop_call ca123 rfl (WeakL.refl _) c_internal_stringslite_IndexByte) ?_
 refine dp rfl (pop_assign rfl) ?_
 refine dn ?_
 refine hw_ret ?_
 refine ret_p rfl ?_
 rfl

/-- benchwarmer/benchref1.in -/
theorem c_benchref1_in [Tracks] {n lo hi : Int}  : ConP Tryz.prog 62 [.int .i64 n, .int .i64 lo, .int .i64 hi] (.bool (!(out n lo hi))) := by
 refine Con.of_body Tryz.func62 rfl Tryz.ntmps62 rfl rfl ?_
 refine hw_reg ?_
 refine dp rfl (pop_assign rfl) ?_
 refine dn ?_
 refine hw_reg ?_
 refine dp rfl (pop_move rfl) ?_
 refine dp rfl (pop_move rfl) ?_
 refine dp rfl (pop_leq rfl rfl) ?_
 refine dp rfl (pop_move rfl) ?_
 refine dg rfl rfl (fun hc => ⟨_, OpenTo.refl _, pop_move rfl⟩) ?_
 refine dg rfl rfl (fun hc => ⟨_, OpenTo.refl _, pop_move rfl⟩) ?_
 refine dg rfl rfl (fun hc => ⟨_, OpenTo.upd (t := 12) rfl (hc) (OpenTo.upd (t := 11) rfl (hc) (OpenTo.refl _)), pop_leq rfl rfl⟩) ?_
 refine dp rfl (pop_picko rfl (.inr ⟨_, rfl, fun h => by simp_all⟩) (.inl rfl)) ?_
 refine dp rfl (pop_assign rfl) ?_
 refine dn ?_
 refine hw_ret ?_
 refine ret_p rfl ?_
 show HVal.bool _ = _
 congr 1; simp [out]; rw [Bool.eq_iff_iff]; simp; try omega

/-- benchwarmer/benchref1.Key -/
theorem c_benchref1_Key [Tracks] {s : Str} (hs : s.length ≤ 1000000) : ConP Tryz.prog 61 [.str s] (.bool (key s)) := by
 refine Con.of_body Tryz.func61 rfl Tryz.ntmps61 rfl rfl ?_
 refine hw_reg ?_
 refine dp rfl (pop_assign rfl) ?_
 refine dn ?_
 refine hw_reg ?_
 refine dp rfl (pop_move rfl) ?_
 refine dp rfl (pop_lens ty9 rfl) ?_
 refine dp rfl (pop_call ca62 rfl (WeakL.refl _) c_benchref1_in) ?_
 refine dp rfl (pop_move rfl) ?_
 refine dg rfl rfl (fun hc => ⟨_, OpenTo.refl _, pop_move rfl⟩) ?_
 refine dg rfl rfl (fun hc => ⟨_, OpenTo.upd (t := 7) rfl (hc) (OpenTo.refl _), pop_call ca85 rfl (WeakL.refl _) (c_strings_Trim (l := cut38) hs (by decide) (by decide) (by decide))⟩) ?_
 refine dg rfl rfl (fun hc => ⟨_, OpenTo.upd (t := 8) rfl (hc) (OpenTo.refl _), pop_eqls rfl rfl⟩) ?_
 refine dp rfl (pop_picko rfl (.inr ⟨_, rfl, fun h => by simp_all⟩) (.inl rfl)) ?_
 refine dp rfl (pop_move rfl) ?_
 refine dg rfl rfl (fun hc => ⟨_, OpenTo.refl _, pop_move rfl⟩) ?_
 refine dg rfl rfl (fun hc => ⟨_, OpenTo.upd (t := 12) rfl (hc) (OpenTo.refl _), pop_indexs (j := 0) (b := s.headD 0) ty9 rfl rfl rfl (hd0 (by rintro rfl; simp [out] at hc))⟩) ?_
 refine dg rfl rfl (fun hc => ⟨_, OpenTo.upd (t := 13) rfl (hc) (OpenTo.refl _), pop_call ca86 rfl (WeakL.refl _) c_strings_IndexByte⟩) ?_
 refine dg rfl rfl (fun hc => ⟨_, OpenTo.upd (t := 14) rfl (hc) (OpenTo.refl _), pop_geq rfl rfl⟩) ?_
 refine dp rfl (pop_picko rfl (.inr ⟨_, rfl, fun h => by simp_all⟩) (.inl rfl)) ?_
 refine dp rfl (pop_assign rfl) ?_
 refine dn ?_
 refine hw_ret ?_
 refine ret_p rfl ?_
 show HVal.bool _ = _
 rw [key_ref]
 simp [cut38, small26]

/-- benchwarmer/benchref1.SpanFault -/
theorem c_benchref1_SpanFault [Tracks] {n lo hi : Int}  : ConP Tryz.prog 87 [.int .i64 n, .int .i64 lo, .int .i64 hi] (.int .i64 (if out n lo hi then 1 else 0)) := by
 refine Con.of_body Tryz.func87 rfl Tryz.ntmps87 rfl rfl ?_
 refine hw_reg ?_
 refine dp rfl (pop_assign rfl) ?_
 refine dn ?_
 refine hw_seq ?_
 refine hw_reg ?_
 refine dp rfl (pop_move rfl) ?_
 refine dp rfl (pop_move rfl) ?_
 refine dp rfl (pop_move rfl) ?_
 refine dp rfl (pop_call ca62 rfl (WeakL.refl _) c_benchref1_in) ?_
 refine dp rfl (pop_not rfl) ?_
 refine dn ?_
 refine hw_cond rfl (fun h1 => ?_) (fun h2 => ?_)
 ·try simp at h1
  refine hw_reg ?_
  refine dp rfl (pop_assign rfl) ?_
  refine dn ?_
  refine hw_ret ?_
  refine ret_p rfl ?_
  show HVal.int .i64 _ = _
  simp_all
 ·try simp at h2
  refine hw_skip ?_
  refine seqQ_n ?_
  refine hw_reg ?_
  refine dp rfl (pop_assign rfl) ?_
  refine dn ?_
  refine hw_ret ?_
  refine ret_p rfl ?_
  show HVal.int .i64 _ = _
  simp_all

/-- benchwarmer/benchref1.MomentFault -/
theorem c_benchref1_MomentFault [Tracks] {n : Int}  : ConP Tryz.prog 63 [.int .i64 n] (.int .i64 (if moment n then 0 else 1)) := by
 refine Con.of_body Tryz.func63 rfl Tryz.ntmps63 rfl rfl ?_
 refine hw_reg ?_
 refine dp rfl (pop_assign rfl) ?_
 refine dn ?_
 refine hw_reg ?_
 refine dp rfl (pop_move rfl) ?_
 refine dp rfl (pop_call ca87 rfl (WeakL.refl _) c_benchref1_SpanFault) ?_
 refine dp rfl (pop_assign rfl) ?_
 refine dn ?_
 refine hw_ret ?_
 refine ret_p rfl ?_
 show HVal.int .i64 _ = _
 rw [moment_ref]
end Go.Proofs.YtlankmahpaenhaaGreatDoor
end
section
namespace Go.Proofs
open Go.Shelf
def Tryz.lays189_ren : Go.Shelf.Ren := ⟨fun | 189 => 75 | 125 => 72 | 257 => 102 | 128 => 99 | 129 => 100 | 294 => 131 | 295 => 132 | 296 => 133 | 297 => 134 | 298 => 135 | 299 => 136 | 216 => 137 | 300 => 138 | 301 => 139 | 328 => 155 | 329 => 127 | 330 => 128 | 331 => 156 | 332 => 157 | 215 => 89 | 343 => 181 | n => n, fun | 28 => 22 | 3 => 3 | 46 => 111 | 0 => 0 | 51 => 146 | 53 => 148 | 4 => 4 | 183 => 140 | 182 => 139 | 131 => 68 | 5 => 5 | 9 => 9 | 218 => 174 | 222 => 178 | 228 => 193 | 229 => 194 | n => n, fun | n => n⟩
theorem Tryz.lays189 : Go.Proofs.Lays.n189 Tryz.prog Tryz.lays189_ren := {
 mixed := by kernel_rfl
 f125 := Tryz.func72.trans (congrArg some (by kernel_rfl))
 f128 := Tryz.func99.trans (congrArg some (by kernel_rfl))
 f129 := Tryz.func100.trans (congrArg some (by kernel_rfl))
 f189 := Tryz.func75.trans (congrArg some (by kernel_rfl))
 f215 := Tryz.func89.trans (congrArg some (by kernel_rfl))
 f216 := Tryz.func137.trans (congrArg some (by kernel_rfl))
 f257 := Tryz.func102.trans (congrArg some (by kernel_rfl))
 f294 := Tryz.func131.trans (congrArg some (by kernel_rfl))
 f295 := Tryz.func132.trans (congrArg some (by kernel_rfl))
 f296 := Tryz.func133.trans (congrArg some (by kernel_rfl))
 f297 := Tryz.func134.trans (congrArg some (by kernel_rfl))
 f298 := Tryz.func135.trans (congrArg some (by kernel_rfl))
 f299 := Tryz.func136.trans (congrArg some (by kernel_rfl))
 f300 := Tryz.func138.trans (congrArg some (by kernel_rfl))
 f301 := Tryz.func139.trans (congrArg some (by kernel_rfl))
 f328 := Tryz.func155.trans (congrArg some (by kernel_rfl))
 f329 := Tryz.func127.trans (congrArg some (by kernel_rfl))
 f330 := Tryz.func128.trans (congrArg some (by kernel_rfl))
 f331 := Tryz.func156.trans (congrArg some (by kernel_rfl))
 f332 := Tryz.func157.trans (congrArg some (by kernel_rfl))
 f343 := Tryz.func181.trans (congrArg some (by kernel_rfl))
 t0 := Tryz.underlying0
 a0 := Tryz.isAgg0
 z0 := Tryz.sizeOf0
 v0 := Tryz.zeroValue0
 t3 := Tryz.underlying3
 a3 := Tryz.isAgg3
 z3 := Tryz.sizeOf3
 v3 := Tryz.zeroValue3
 t4 := Tryz.underlying4
 a4 := Tryz.isAgg4
 z4 := Tryz.sizeOf4
 v4 := Tryz.zeroValue4
 t5 := Tryz.underlying5
 a5 := Tryz.isAgg5
 z5 := Tryz.sizeOf5
 v5 := Tryz.zeroValue5
 t9 := Tryz.underlying9
 a9 := Tryz.isAgg9
 z9 := Tryz.sizeOf9
 v9 := Tryz.zeroValue9
 t28 := Tryz.underlying22
 a28 := Tryz.isAgg22
 z28 := Tryz.sizeOf22
 v28 := Tryz.zeroValue22
 t46 := Tryz.underlying111
 a46 := Tryz.isAgg111
 z46 := Tryz.sizeOf111
 v46 := Tryz.zeroValue111
 t51 := Tryz.underlying146
 a51 := Tryz.isAgg146
 z51 := Tryz.sizeOf146
 v51 := Tryz.zeroValue146
 t53 := Tryz.underlying148
 a53 := Tryz.isAgg148
 z53 := Tryz.sizeOf148
 v53 := Tryz.zeroValue148
 t131 := Tryz.underlying68
 a131 := Tryz.isAgg68
 z131 := Tryz.sizeOf68
 v131 := Tryz.zeroValue68
 t182 := Tryz.underlying139
 a182 := Tryz.isAgg139
 z182 := Tryz.sizeOf139
 v182 := Tryz.zeroValue139
 t183 := Tryz.underlying140
 a183 := Tryz.isAgg140
 z183 := Tryz.sizeOf140
 v183 := Tryz.zeroValue140
 t218 := Tryz.underlying174
 a218 := Tryz.isAgg174
 z218 := Tryz.sizeOf174
 v218 := Tryz.zeroValue174
 t222 := Tryz.underlying178
 a222 := Tryz.isAgg178
 z222 := Tryz.sizeOf178
 v222 := Tryz.zeroValue178
 t228 := Tryz.underlying193
 a228 := Tryz.isAgg193
 z228 := Tryz.sizeOf193
 v228 := Tryz.zeroValue193
 t229 := Tryz.underlying194
 a229 := Tryz.isAgg194
 z229 := Tryz.sizeOf194
 v229 := Tryz.zeroValue194 }
def Tryz.lays220_ren : Go.Shelf.Ren := ⟨fun | 20 => 76 | n => n, fun | 22 => 22 | 3 => 3 | 4 => 4 | 0 => 0 | n => n, fun | n => n⟩
theorem Tryz.lays220 : Go.Proofs.Lays2.n20 Tryz.prog Tryz.lays220_ren := {
 mixed := by kernel_rfl
 f20 := Tryz.func76.trans (congrArg some (by kernel_rfl))
 t0 := Tryz.underlying0
 a0 := Tryz.isAgg0
 z0 := Tryz.sizeOf0
 v0 := Tryz.zeroValue0
 t3 := Tryz.underlying3
 a3 := Tryz.isAgg3
 z3 := Tryz.sizeOf3
 v3 := Tryz.zeroValue3
 t4 := Tryz.underlying4
 a4 := Tryz.isAgg4
 z4 := Tryz.sizeOf4
 v4 := Tryz.zeroValue4
 t22 := Tryz.underlying22
 a22 := Tryz.isAgg22
 z22 := Tryz.sizeOf22
 v22 := Tryz.zeroValue22
 i3 := by kernel_rfl }
end Go.Proofs
end
section
namespace Go.Proofs.YtlankmahpaenhaaGreatDoor
open Go.HL
set_option maxRecDepth 100000
set_option linter.unusedVariables false
set_option linter.unusedSimpArgs false
end Go.Proofs.YtlankmahpaenhaaGreatDoor
end
section
namespace Go.Proofs.YtlankmahpaenhaaGreatDoor
open Go.HL
set_option maxRecDepth 100000
set_option linter.unusedVariables false
set_option linter.unusedSimpArgs false
/-- benchwarmer/benchmake.Below -/
theorem c_benchmake_Below [Tracks] {x n : Int} (hn : n ≤ 4000000000) : ConP Tryz.prog 60 [.int .i64 x, .int .i64 n] (.int .i64 (below x n)) := by
 refine Con.of_body Tryz.func60 rfl Tryz.ntmps60 rfl rfl ?_
 refine hw_reg ?_
 refine dp rfl (pop_assign rfl) ?_
 refine dn ?_
 refine hw_seq ?_
 refine hw_reg ?_
 refine dp rfl (pop_move rfl) ?_
 refine dp rfl (pop_lss rfl rfl) ?_
 refine dn ?_
 refine hw_cond rfl (fun h1 => ?_) (fun h2 => ?_)
 ·try simp at h1
  refine hw_reg ?_
  refine dp rfl (pop_assign rfl) ?_
  refine dn ?_
  refine hw_ret ?_
  refine ret_p rfl ?_
  show HVal.int .i64 _ = _
  simp_all [below]
  try omega
 ·try simp at h2
  refine hw_skip ?_
  refine seqQ_n ?_
  refine hw_reg ?_
  refine dp rfl (pop_move rfl) ?_
  refine dp rfl (pop_move rfl) ?_
  refine dp rfl (pop_rem rfl rfl (by omega)) ?_
  refine dp rfl (pop_assign rfl) ?_
  refine dn ?_
  refine hw_seq ?_
  refine hw_reg ?_
  refine dp rfl (pop_move rfl) ?_
  refine dp rfl (pop_lss rfl rfl) ?_
  refine dn ?_
  refine hw_cond rfl (fun h3 => ?_) (fun h4 => ?_)
  ·try simp at h3
   refine hw_reg1 ?_
   refine dp rfl (pop_move rfl) ?_
   refine dp rfl (pop_move rfl) ?_
   have hm := Int.tmod_lt_of_pos x (show 0 < n by omega)
   obtain ⟨y, hy1, hy2⟩ := below_nat x n
   have hb : below x n = x.tmod n + n := by unfold below; rw [if_neg (by omega), if_pos (by omega)]
   refine dp rfl (pop_add64 rfl rfl (by omega) (by omega)) ?_
   refine dp rfl (pop_assign rfl) ?_
   refine dn ?_
   refine seqQ_n ?_
   refine hw_reg ?_
   refine dp rfl (pop_move rfl) ?_
   refine dp rfl (pop_assign rfl) ?_
   refine dn ?_
   refine hw_ret ?_
   refine ret_p rfl ?_
   show HVal.int .i64 _ = _
   simp_all [below]
   try omega
  ·try simp at h4
   refine hw_skip ?_
   refine seqQ_n ?_
   refine hw_reg ?_
   refine dp rfl (pop_move rfl) ?_
   refine dp rfl (pop_assign rfl) ?_
   refine dn ?_
   refine hw_ret ?_
   refine ret_p rfl ?_
   show HVal.int .i64 _ = _
   simp_all [below]
   try omega

/-- (*benchwarmer/benchmake.Stream).Next -/
theorem c_benchmake_Stream_Next [Tracks] {b : Nat} {l : List Int} {a : Nat} {n : Int} (ha : a ≤ 1000000) (hn : n ≤ 4000000000) : Con Tryz.prog 29 [pAt b, .int .i64 n] [St b l a] (fun x M' => ∃ y : Nat, x = .int .i64 (y : Int) ∧ (y : Int) < max n 1 ∧ M' = [St b l (a + 1)]) := by
 refine Con.of_body Tryz.func29 rfl Tryz.ntmps29 rfl rfl ?_
 refine hw_reg ?_
 refine dp rfl (pop_assign rfl) ?_
 refine dn ?_
 refine hw_reg ?_
 refine dp rfl (pop_move rfl) ?_
 refine dp rfl ((pop_nilCheck_raw rfl)) ?_
 refine dp rfl (pop_fieldAddr_raw ty25 rfl ty3 (by decide) rfl) ?_
 refine de rfl (eop_load (i := 0) ty3 rfl rfl (.inl ⟨rfl, rfl⟩) ?_)
 refine dp rfl (pop_add64 rfl rfl (by omega) (by omega)) ?_
 refine dp rfl ((pop_nilCheck_raw rfl)) ?_
 refine dp rfl (pop_fieldAddr_raw ty25 rfl ty3 (by decide) rfl) ?_
 refine de0 (eop_store (i := 0) ty3 rfl rfl rfl rfl rfl (Nat.le_of_ble_eq_true rfl) ?_)
 refine dn ?_
 refine hw_seq ?_
 refine hw_reg ?_
 refine dp rfl (pop_move rfl) ?_
 refine dp rfl ((pop_nilCheck_raw rfl)) ?_
 refine dp rfl (pop_fieldAddr_raw ty25 rfl ty22 (by decide) rfl) ?_
 refine de rfl (eop_load (i := 0) ty22 rfl rfl (.inl ⟨rfl, rfl⟩) ?_)
 refine dp rfl (pop_lenm ty22 rfl) ?_
 refine dp rfl (pop_eql rfl rfl) ?_
 refine dn ?_
 refine hw_cond rfl (fun h1 => ?_) (fun h2 => ?_)
 ·try simp at h1
  refine hw_reg ?_
  refine dp rfl (pop_move rfl) ?_
  refine dp rfl ((pop_nilCheck_raw rfl)) ?_
  refine dp rfl (pop_fieldAddr_raw ty25 rfl ty3 (by decide) rfl) ?_
  refine de rfl (eop_load (i := 0) ty3 rfl rfl (.inl ⟨rfl, rfl⟩) ?_)
  refine dp rfl (pop_mul rfl rfl) ?_
  refine dp rfl (pop_move rfl) ?_
  refine dp rfl (pop_call ca60 rfl (WeakL.refl _) (c_benchmake_Below (by assumption))) ?_
  refine dp rfl (pop_assign rfl) ?_
  refine dn ?_
  refine hw_ret ?_
  refine ret_q rfl ?_
  obtain ⟨y, h1, h2⟩ := below_nat _ n
  exact ⟨y, congrArg _ h1, h2, rfl⟩
 ·try simp at h2
  refine hw_skip ?_
  refine seqQ_n ?_
  have hl0 : 0 < l.length := List.length_pos_iff.2 (by simpa using h2)
  refine hw_draw (fun M => ∃ i : Nat, M[i]? = some (St b l (a + 1))) [3, 8] mixed ?_
  refine ahp 0 rfl rfl (by kernel_rfl) (by kernel_rfl) (pop_move rfl) ?_
  refine ahp 1 rfl rfl (by kernel_rfl) (by kernel_rfl) ((pop_nilCheck_raw rfl)) ?_
  refine ahp 2 rfl rfl (by kernel_rfl) (by kernel_rfl) (pop_fieldAddr_raw ty25 rfl ty3 (by decide) rfl) ?_
  refine ahl 3 rfl rfl (by kernel_rfl) (by kernel_rfl) (by simp) (⟨0, rfl⟩) (fun M hM => by obtain ⟨i, hi⟩ := hM; exact eop_load (i := i) ty3 rfl hi (.inl ⟨rfl, rfl⟩) ⟨rfl, rfl⟩) ?_
  refine ahp 4 rfl rfl (by kernel_rfl) (by kernel_rfl) (pop_sub64 rfl rfl (by omega) (by omega)) ?_
  refine ahp 5 rfl rfl (by kernel_rfl) (by kernel_rfl) (pop_move rfl) ?_
  refine ahp 6 rfl rfl (by kernel_rfl) (by kernel_rfl) ((pop_nilCheck_raw rfl)) ?_
  refine ahp 7 rfl rfl (by kernel_rfl) (by kernel_rfl) (pop_fieldAddr_raw ty25 rfl ty22 (by decide) rfl) ?_
  refine ahl 8 rfl rfl (by kernel_rfl) (by kernel_rfl) (by simp) (⟨0, rfl⟩) (fun M hM => by obtain ⟨i, hi⟩ := hM; exact eop_load (i := i) ty22 rfl hi (.inl ⟨rfl, rfl⟩) ⟨rfl, rfl⟩) ?_
  refine ahp 9 rfl rfl (by kernel_rfl) (by kernel_rfl) (pop_lenm ty22 rfl) ?_
  refine ahp 10 rfl rfl (by kernel_rfl) (by kernel_rfl) (pop_eq (h' := .int .i64 ((a % l.length : Nat) : Int)) (pop_rem rfl rfl (by omega)) (by show HVal.int .i64 (((a : Int) + 1 - 1).tmod _) = _; rw [show ((a : Int) + 1 - 1) = (a : Int) by omega]; exact congrArg _ (tmod_nat _ _))) ?_
  refine ahp 11 rfl rfl (by kernel_rfl) (by kernel_rfl) (pop_assign rfl) ?_
  refine ahz (by kernel_rfl) ?_
  refine hw_draw (fun M => ∃ i : Nat, M[i]? = some (St b l (a + 1))) [3, 8] mixed ?_
  refine ahp 0 rfl rfl (by kernel_rfl) (by kernel_rfl) (pop_move rfl) ?_
  refine ahp 1 rfl rfl (by kernel_rfl) (by kernel_rfl) ((pop_nilCheck_raw rfl)) ?_
  refine ahp 2 rfl rfl (by kernel_rfl) (by kernel_rfl) (pop_fieldAddr_raw ty25 rfl ty3 (by decide) rfl) ?_
  refine ahl 3 rfl rfl (by kernel_rfl) (by kernel_rfl) (by simp) (⟨0, rfl⟩) (fun M hM => by obtain ⟨i, hi⟩ := hM; exact eop_load (i := i) ty3 rfl hi (.inl ⟨rfl, rfl⟩) ⟨rfl, rfl⟩) ?_
  refine ahp 4 rfl rfl (by kernel_rfl) (by kernel_rfl) (pop_sub64 rfl rfl (by omega) (by omega)) ?_
  refine ahp 5 rfl rfl (by kernel_rfl) (by kernel_rfl) (pop_move rfl) ?_
  refine ahp 6 rfl rfl (by kernel_rfl) (by kernel_rfl) ((pop_nilCheck_raw rfl)) ?_
  refine ahp 7 rfl rfl (by kernel_rfl) (by kernel_rfl) (pop_fieldAddr_raw ty25 rfl ty22 (by decide) rfl) ?_
  refine ahl 8 rfl rfl (by kernel_rfl) (by kernel_rfl) (by simp) (⟨0, rfl⟩) (fun M hM => by obtain ⟨i, hi⟩ := hM; exact eop_load (i := i) ty22 rfl hi (.inl ⟨rfl, rfl⟩) ⟨rfl, rfl⟩) ?_
  refine ahp 9 rfl rfl (by kernel_rfl) (by kernel_rfl) (pop_lenm ty22 rfl) ?_
  refine ahp 10 rfl rfl (by kernel_rfl) (by kernel_rfl) (pop_quo rfl rfl (by omega)) ?_
  refine ahp 11 rfl rfl (by kernel_rfl) (by kernel_rfl) (pop_assign rfl) ?_
  refine ahz (by kernel_rfl) ?_
  refine hw_reg ?_
  refine dp rfl (pop_move rfl) ?_
  refine dp rfl ((pop_nilCheck_raw rfl)) ?_
  refine dp rfl (pop_fieldAddr_raw ty25 rfl ty22 (by decide) rfl) ?_
  refine de rfl (eop_load (i := 0) ty22 rfl rfl (.inl ⟨rfl, rfl⟩) ?_)
  refine dp rfl (pop_move rfl) ?_
  refine dp rfl (pop_idx (j := a % l.length) (a := l[a % l.length]'(Nat.mod_lt _ (by omega))) ty22 ty3 rfl rfl rfl (List.getElem?_eq_getElem _)) ?_
  refine dp rfl (pop_load ty3 rfl rfl rfl) ?_
  refine dp rfl (pop_call ca60 rfl (WeakL.refl _) (c_benchmake_Below (by omega))) ?_
  refine dp rfl (pop_move rfl) ?_
  refine dp rfl (pop_move rfl) ?_
  refine dp rfl (pop_add rfl rfl) ?_
  refine dp rfl (pop_mul rfl rfl) ?_
  refine dp rfl (pop_add rfl rfl) ?_
  refine dp rfl (pop_move rfl) ?_
  refine dp rfl (pop_call ca60 rfl (WeakL.refl _) (c_benchmake_Below (by assumption))) ?_
  refine dp rfl (pop_assign rfl) ?_
  refine dn ?_
  refine hw_ret ?_
  refine ret_q rfl ?_
  obtain ⟨y, h1, h2⟩ := below_nat _ n
  exact ⟨y, congrArg _ h1, h2, rfl⟩

/-- (*benchwarmer/benchmake.Stream).Range -/
theorem c_benchmake_Stream_Range [Tracks] {b : Nat} {l : List Int} {a : Nat} {lo hi : Int} (ha : a ≤ 1000000) (hlh : lo ≤ hi) (h0 : -1000000000 ≤ lo) (h1 : hi ≤ 1000000000) : Con Tryz.prog 22 [pAt b, .int .i64 lo, .int .i64 hi] [St b l a] (fun x M' => ∃ y : Int, x = .int .i64 y ∧ (lo ≤ y ∧ y ≤ hi) ∧ M' = [St b l (a + 1)]) := by
 refine Con.of_body Tryz.func22 rfl Tryz.ntmps22 rfl rfl ?_
 refine hw_reg ?_
 refine dp rfl (pop_assign rfl) ?_
 refine dn ?_
 refine hw_seq ?_
 refine hw_reg ?_
 refine dp rfl (pop_move rfl) ?_
 refine dp rfl (pop_move rfl) ?_
 refine dp rfl (pop_lss rfl rfl) ?_
 refine dn ?_
 refine hw_cond rfl (fun h1 => ?_) (fun h1 => ?_)
 ·exfalso
  try simp at h1
  omega
 ·try simp at h1
  refine hw_skip ?_
  refine seqQ_n ?_
  refine hw_reg ?_
  refine dp rfl (pop_move rfl) ?_
  refine dp rfl (pop_move rfl) ?_
  refine dp rfl (pop_move rfl) ?_
  refine dp rfl (pop_move rfl) ?_
  refine dp rfl (pop_sub64 rfl rfl (by omega) (by omega)) ?_
  refine dp rfl (pop_add64 rfl rfl (by omega) (by omega)) ?_
  refine de rfl (eop_callx (i := 0) ca29 rfl (WeakL.refl _) rfl (c_benchmake_Stream_Next (by assumption) (by omega)) ?_)
  rintro _ _ ⟨y17, rfl, hy17, rfl⟩
  refine dp rfl (pop_add64 rfl rfl (by omega) (by omega)) ?_
  refine dp rfl (pop_assign rfl) ?_
  refine dn ?_
  refine hw_ret ?_
  exact ret_q rfl ⟨_, rfl, by omega, rfl⟩

/-- (*benchwarmer/benchmake.Stream).Flip -/
theorem c_benchmake_Stream_Flip [Tracks] {b : Nat} {l : List Int} {a : Nat} {n : Int} (ha : a ≤ 1000000) (hn : n ≤ 4000000000) : Con Tryz.prog 7 [pAt b, .int .i64 n] [St b l a] (fun x M' => ∃ y : Bool, x = .bool y ∧ M' = [St b l (a + 1)]) := by
 refine Con.of_body Tryz.func7 rfl Tryz.ntmps7 rfl rfl ?_
 refine hw_reg ?_
 refine dp rfl (pop_assign rfl) ?_
 refine dn ?_
 refine hw_reg ?_
 refine dp rfl (pop_move rfl) ?_
 refine dp rfl (pop_move rfl) ?_
 refine de rfl (eop_callx (i := 0) ca29 rfl (WeakL.refl _) rfl (c_benchmake_Stream_Next (by assumption) (by assumption)) ?_)
 rintro _ _ ⟨y7, rfl, hy7, rfl⟩
 refine dp rfl (pop_eql rfl rfl) ?_
 refine dp rfl (pop_assign rfl) ?_
 refine dn ?_
 refine hw_ret ?_
 exact ret_q rfl ⟨_, rfl, rfl⟩

/-- (*benchwarmer/benchmake.Stream).Pick -/
theorem c_benchmake_Stream_Pick [Tracks] {b : Nat} {l : List Int} {a : Nat} {L : List Int} (ha : a ≤ 1000000) (h0 : 0 < L.length) (h1 : L.length ≤ 1000000) : Con Tryz.prog 28 [pAt b, .slice 1 (L.map (.int .i64))] [St b l a] (fun x M' => ∃ y : Int, x = .int .i64 y ∧ y ∈ L ∧ M' = [St b l (a + 1)]) := by
 refine Con.of_body Tryz.func28 rfl Tryz.ntmps28 rfl rfl ?_
 refine hw_reg ?_
 refine dp rfl (pop_assign rfl) ?_
 refine dn ?_
 refine hw_reg ?_
 refine dp rfl (pop_move rfl) ?_
 refine dp rfl (pop_move rfl) ?_
 refine dp rfl (pop_move rfl) ?_
 refine dp rfl (pop_lenm ty22 rfl) ?_
 refine de rfl (eop_callx (i := 0) ca29 rfl (WeakL.refl _) rfl (c_benchmake_Stream_Next (by assumption) (by omega)) ?_)
 rintro _ _ ⟨y9, rfl, hy9, rfl⟩
 obtain ⟨z, hz, hm⟩ := getI hy9 h0
 refine dp rfl (pop_idx (j := y9) (a := z) ty22 ty3 rfl rfl rfl hz) ?_
 refine dp rfl (pop_load ty3 rfl rfl rfl) ?_
 refine dp rfl (pop_assign rfl) ?_
 refine dn ?_
 refine hw_ret ?_
 exact ret_q rfl ⟨_, rfl, hm, rfl⟩

/-- (*benchwarmer/benchmake.Stream).Some -/
theorem c_benchmake_Stream_Some [Tracks] {b : Nat} {l : List Int} {a : Nat} {L : List Str} (ha : a ≤ 1000000) (h0 : 0 < L.length) (h1 : L.length ≤ 1000000) : Con Tryz.prog 30 [pAt b, eSs L] [St b l a] (fun x M' => ∃ y : Str, x = .str y ∧ y ∈ L ∧ M' = [St b l (a + 1)]) := by
 refine Con.of_body Tryz.func30 rfl Tryz.ntmps30 rfl rfl ?_
 refine hw_reg ?_
 refine dp rfl (pop_assign rfl) ?_
 refine dn ?_
 refine hw_reg ?_
 refine dp rfl (pop_move rfl) ?_
 refine dp rfl (pop_move rfl) ?_
 refine dp rfl (pop_move rfl) ?_
 refine dp rfl (pop_lenm ty47 rfl) ?_
 refine de rfl (eop_callx (i := 0) ca29 rfl (WeakL.refl _) rfl (c_benchmake_Stream_Next (by assumption) (by omega)) ?_)
 rintro _ _ ⟨y9, rfl, hy9, rfl⟩
 obtain ⟨z, hz, hm⟩ := getS hy9 h0
 refine dp rfl (pop_idx (j := y9) (a := z) ty47 ty9 rfl rfl rfl hz) ?_
 refine dp rfl (pop_load ty9 rfl rfl rfl) ?_
 refine dp rfl (pop_assign rfl) ?_
 refine dn ?_
 refine hw_ret ?_
 exact ret_q rfl ⟨_, rfl, hm, rfl⟩
end Go.Proofs.YtlankmahpaenhaaGreatDoor
end
section
namespace Go.Proofs.YtlankmahpaenhaaGreatDoor
open Go.HL
set_option maxRecDepth 100000
set_option linter.unusedVariables false
set_option linter.unusedSimpArgs false

end Go.Proofs.YtlankmahpaenhaaGreatDoor
end
section
namespace Go.Proofs.YtlankmahpaenhaaGreatDoor
open Go.HL
set_option maxRecDepth 100000
set_option linter.unusedVariables false
set_option linter.unusedSimpArgs false

end Go.Proofs.YtlankmahpaenhaaGreatDoor
end
section
namespace Go.Proofs.YtlankmahpaenhaaGreatDoor
open Go.HL
set_option maxRecDepth 100000
set_option linter.unusedVariables false
set_option linter.unusedSimpArgs false

end Go.Proofs.YtlankmahpaenhaaGreatDoor
end
section
namespace Go.Proofs.YtlankmahpaenhaaGreatDoor
open Go.HL
set_option maxRecDepth 100000
set_option linter.unusedVariables false
set_option linter.unusedSimpArgs false

end Go.Proofs.YtlankmahpaenhaaGreatDoor
end
section
namespace Go.HL
end Go.HL
end
section
namespace Go.HL
open Op (bytesLess)
abbrev pick0 : Pick := ⟨0, [], [], 0, false⟩
theorem pw_tri {α : Type} {R : α → α → Prop} : ∀ {l : List α}, l.Pairwise R → ∀ x ∈ l, ∀ y ∈ l, x = y ∨ R x y ∨ R y x
 | [], _, x, hx, _, _ => by simp at hx
 | a :: l, h, x, hx, y, hy => by
   obtain ⟨h1, h2⟩ := List.pairwise_cons.1 h
   rcases List.mem_cons.1 hx with e | hx' <;> rcases List.mem_cons.1 hy with e' | hy'
   ·exact .inl (e.trans e'.symm)
   ·exact .inr (.inl (e ▸ h1 y hy'))
   ·exact .inr (.inr (e' ▸ h1 x hx'))
   ·exact pw_tri h2 x hx' y hy'
/-! keeps that are right -/
def kLt (a b : Keep) : Prop := bytesLess a.Team b.Team = true ∨ (a.Team = b.Team ∧ a.Round < b.Round)
structure KeepsOk (r : Room) (k : List Keep) : Prop where
 all : ∀ x ∈ k, x.Team ∈ r.Teams ∧ x.Player ∈ r.Players ∧ 1 ≤ x.Round ∧ x.Round ≤ r.Rounds
 lt : k.Pairwise kLt
theorem risingGo_key {l : List Str} : ∀ (r : List Str) (k : Nat), risingGo l k r = 0 → ∀ s ∈ r, key s = true
 | [], _, _, s, hs => by simp at hs
 | x :: r, k, h, s, hs => by
   simp only [risingGo] at h
   split at h
   ·omega
   ·rename_i h1
    split at h
    ·omega
    ·rcases List.mem_cons.1 hs with rfl | hs
     ·simpa using h1
     ·exact risingGo_key r (k + 1) h s hs
structure RoomOk (r : Room) : Prop where
 sorted : SortedS r.Players
 t20 : r.Teams.length ≤ 20
 t0 : 0 < r.Teams.length
 r1 : 1 ≤ r.Rounds
 r30 : r.Rounds ≤ 30
 p500 : r.Players.length ≤ 500
 ne : ∀ s ∈ r.Players, s ≠ []
 many : (r.Teams.length : Int) * r.Rounds ≤ r.Players.length
 clock : 1000 ≤ r.Clock ∧ r.Clock ≤ 86400000
 start : moment r.Start = true
theorem room_ok {r : Room} (h : checkRoom r = 0) : RoomOk r := by
 obtain ⟨a1, a2, a3, a4, a5, a6⟩ := checkRoom_ok h
 unfold checkRoom at h
 split at h
 ·rename_i hc; simp [h] at hc
 ·split at h
  ·omega
  ·split at h
   ·omega
   ·split at h
    ·rename_i hc; simp [h] at hc
    ·rename_i hp
     split at h
     ·omega
     ·rename_i hcl
      split at h
      ·omega
      ·rename_i hm
       simp at hcl hp
       refine ⟨a1, a2, a3, a4, a5, a6, fun s hs e => ?_, by omega, out_f hcl.1, hcl.2⟩
       unfold playersFault at hp
       split at hp
       ·omega
       ·have := risingGo_key _ 0 hp s hs
        subst e; simp [key, keyHd] at this
def fits (t : Turn) (x : Keep) : Bool := decide (x.Team = t.of ∧ x.Round = t.round)
theorem keepIn_fix (r : Room) (t : Turn) : ∀ (k : List Keep) (p : Pick), (keepIn r t p k).No = p.No ∧ (keepIn r t p k).Team = p.Team
 | [], p => ⟨rfl, rfl⟩
 | x :: k, p => by
   obtain ⟨h1, h2⟩ := keepIn_fix r t k (if x.Team = t.of ∧ x.Round = t.round then { p with Player := x.Player, At := r.Start } else p)
   simp only [keepIn]; rw [h1, h2]
   split <;> exact ⟨rfl, rfl⟩
theorem KeepsOk.one {r : Room} {k : List Keep} (h : KeepsOk r k) {t : Turn} {x y : Keep} (hx : x ∈ k) (hy : y ∈ k) (fx : fits t x = true) (fy : fits t y = true) : y = x := by
 simp [fits] at fx fy
 rcases pw_tri h.lt x hx y hy with e | e | e
 ·exact e.symm
 ·exfalso
  rcases e with e | ⟨e1, e2⟩
  ·rw [fx.1, fy.1, less_irrefl] at e; cases e
  ·omega
 ·exfalso
  rcases e with e | ⟨e1, e2⟩
  ·rw [fx.1, fy.1, less_irrefl] at e; cases e
  ·omega
def freeP (r : Room) (k : List Keep) (s : List Swap) : List Pick := (open1 r k s).filter fun p => p.Player == []
def goneB (k : List Keep) (l : List Pick) (s : Str) : Bool := k.any (fun x => x.Player == s) || l.any (fun p => p.Player == s)
end Go.HL
end
section
namespace Go.HL
def lastAt (r : Room) (l : List Pick) : Int := match l.getLast? with | some p => p.At | none => r.Start
def pkF (r : Room) (k : List Keep) (fr l : List Pick) (p : Pick) : Int :=
 if !(moment p.At) then 1 else if !(p.No == (fr.getD l.length pick0).No) then 7 else if !(p.Team == (fr.getD l.length pick0).Team) then 13
 else if !(r.Players.contains p.Player) then 8 else if goneB k l p.Player then 6 else if p.At < lastAt r l then 11 else 0
def pksGo (r : Room) (k : List Keep) (fr l : List Pick) : Nat → List Pick → Int
 | _, [] => 0
 | i, p :: t => if pkF r k fr (l.take i) p != 0 then pkF r k fr (l.take i) p else pksGo r k fr l (i + 1) t
def pksR (r : Room) (k : List Keep) (s : List Swap) (l : List Pick) : Int := if (freeP r k s).length < l.length then 2 else pksGo r k (freeP r k s) l 0 l
def picksE (r : Room) (k : List Keep) (s : List Swap) (l : List Pick) : Int := if openFault r k s != 0 then openFault r k s else pksR r k s l
theorem pgo_ne {r : Room} {k : List Keep} {fr l : List Pick} {i : Nat} {p : Pick} {t : List Pick} (h : pkF r k fr (l.take i) p ≠ 0) : pksGo r k fr l i (p :: t) = pkF r k fr (l.take i) p := by
 rw [pksGo, if_pos (by simpa using h)]
theorem pgo_z {r : Room} {k : List Keep} {fr l : List Pick} {i : Nat} {p : Pick} {t : List Pick} (h : pkF r k fr (l.take i) p = 0) : pksGo r k fr l i (p :: t) = pksGo r k fr l (i + 1) t := by
 rw [pksGo, if_neg (by simp [h])]
section
variable {r : Room} {k : List Keep} {fr l : List Pick} {p : Pick}
theorem pkF_ok (h : pkF r k fr l p = 0) : moment p.At = true ∧ p.No = (fr.getD l.length pick0).No ∧ p.Team = (fr.getD l.length pick0).Team ∧ p.Player ∈ r.Players ∧ goneB k l p.Player = false := by
 unfold pkF at h
 split at h
 ·omega
 ·rename_i h1
  split at h
  ·omega
  ·rename_i h2
   split at h
   ·omega
   ·rename_i h3
    split at h
    ·omega
    ·rename_i h4
     split at h
     ·omega
     ·rename_i h5
      simp at h1 h2 h3 h4 h5
      exact ⟨h1, h2, h3, h4, h5⟩
end
theorem picksE_ok {r : Room} {k : List Keep} {s : List Swap} {l : List Pick} (h : picksE r k s l = 0) : openFault r k s = 0 ∧ l.length ≤ (freeP r k s).length ∧ pksGo r k (freeP r k s) l 0 l = 0 := by
 unfold picksE at h
 split at h
 ·rename_i hc; simp [h] at hc
 ·rename_i hc
  unfold pksR at h
  split at h
  ·omega
  ·exact ⟨by simpa using hc, by omega, h⟩
theorem pksGo_at {r : Room} {k : List Keep} {fr l : List Pick} : ∀ (t : List Pick) (i : Nat), l.drop i = t → pksGo r k fr l i t = 0 → ∀ (j : Nat) (p : Pick), i ≤ j → l[j]? = some p → pkF r k fr (l.take j) p = 0
 | [], i, hd, _, j, p, hj, hp => by
   have := lt_of_get hp
   have h2 : l.length ≤ i := by rw [← List.drop_eq_nil_iff]; exact hd
   omega
 | x :: t, i, hd, h, j, p, hj, hp => by
   have hk : l[i]? = some x := by
    have := congrArg (fun q => q[0]?) hd
    simpa using this
   have hd' : l.drop (i + 1) = t := by
    have := drop_cons hk
    rw [hd] at this; simp at this; exact this.symm
   by_cases e : pkF r k fr (l.take i) x = 0
   ·rw [pgo_z e] at h
    by_cases hij : i = j
    ·subst hij; rw [hk] at hp; cases hp; exact e
    ·exact pksGo_at t (i + 1) hd' h j p (by omega) hp
   ·rw [pgo_ne e] at h; exact absurd h e
structure Wish where
 Team : Str
 Players : List Str
theorem goneB_snoc (k : List Keep) (l : List Pick) (p : Pick) (s : Str) : goneB k (l ++ [p]) s = (goneB k l s || p.Player == s) := by
 simp [goneB, Bool.or_assoc]
/-! what a run holds -/
structure RunOk (r : Room) (k : List Keep) (s : List Swap) (l : List Pick) (S : List Str) : Prop where
 gone : ∀ x ∈ r.Players, S.contains x = goneB k l x
theorem RunOk.add {r : Room} {k : List Keep} {s : List Swap} {l : List Pick} {S : List Str} (ok : RunOk r k s l S) (p : Pick) : RunOk r k s (l ++ [p]) (sadd p.Player S) :=
 ⟨fun x hx => by rw [goneB_snoc, sadd_contains, ok.gone x hx]⟩
end Go.HL
end
section
namespace Go.HL
section
variable {P : Program} {ops : Array Oper} {n : Nat} {S : List MObj → Prop} {ld : List Nat} {K : Env → List MObj → Prop} {e : Env} {M : List MObj} {listed : Array Bool} {fuel : Nat} {d : Nat} {op : Op} {ty : TypeId} {pos : String} {af : Array Edge} {h : HVal}
/-- A load under a guard out of owned objects of which S knows enough is taken first. -/
theorem ahgl [Tracks] (i : Nat) {j : Nat} {want c : Bool} (hi : ops[i]? = some ⟨some d, op, ty, pos, af, some (j, want)⟩) (hd : Nat.blt d n = true) (hf : Region.free .any ops listed i = true) (hr : (Region.ready .any ops listed).contains i = true) (hl : i ∈ ld) (hS : S M)
 (hg : guardC ops e j want = some c) (hp : c = true → ∃ e2, OpenTo e e2 ∧ ∀ M, S M → EOp P e2 M ⟨some d, op, ty, pos, af, some (j, want)⟩ fun x M' => x = h ∧ M' = M)
 (k : HAny P ops n S ld K fuel (listed.setIfInBounds i true) (upd e d (.opt c h)) M) : HAny P ops n S ld K (fuel + 1) listed e M :=
 HAny.first (T := S) hi (fun t ht => by simp at ht; subst ht; exact blt_lt hd) (.inr ⟨rfl, hl⟩) fuel listed e M (Region.free_spec hi hf) (by simpa using hr)
  ⟨c, hg, fun hc M hM => by
   obtain ⟨e2, h1, h2⟩ := hp hc
   intro I F a w ho hs
   exact Oper.wp_noQ (fun _ _ ⟨v, x, M', J, h3, h4, ⟨e1, e3⟩, h5, h6⟩ => ⟨v, .opt c h, M, J, h3, h4, ⟨rfl, rfl⟩, .opt (fun _ => e1 ▸ h5) (fun hf => by rw [hc] at hf; cases hf), e3 ▸ h6⟩) (h2 M hM I F a w (ho.open h1) hs),
   fun hc => ⟨h, by rw [hc]⟩⟩ hS k
end
theorem some_int {k : IntKind} {a b : Int} (h : a = b) : some (HVal.int k a) = some (.int k b) := by rw [h]
section
variable {α : Type} {c : α → α → Int}
theorem isort_take1 (l : List α) : isort c (l.take 1) ++ l.drop 1 = l := by
 cases l with
 | nil => rfl
 | cons x r => simp [isort, insB, insF]
theorem get_mid {A R : List α} {x : α} : (A ++ x :: R)[A.length]? = some x := by simp
theorem get_before {A R : List α} {x : α} (h : 0 < A.length) : (A ++ x :: R)[A.length - 1]? = some ((A[A.length - 1]?).getD x) := by
 rw [List.getElem?_append_left (by omega), List.getElem?_eq_getElem (by omega)]
 simp [List.getElem?_eq_getElem (show A.length - 1 < A.length by omega)]
theorem snoc_of {A : List α} (h : 0 < A.length) : ∃ B y, A = B ++ [y] := by
 have hne : A ≠ [] := fun e => by subst e; simp at h
 exact ⟨_, _, (List.dropLast_concat_getLast hne).symm⟩
theorem getD_snoc {A : List α} {y d : α} : ((A ++ [y])[(A ++ [y]).length - 1]?).getD d = y := by simp
theorem swap_mid {A R : List α} {x y : α} : (((A ++ [y]) ++ x :: R).set (A ++ [y]).length y).set ((A ++ [y]).length - 1) x = A ++ x :: y :: R := by
 have e1 : ((A ++ [y]) ++ x :: R).set (A ++ [y]).length y = (A ++ [y]) ++ y :: R := by rw [List.set_append_right _ _ (Nat.le_refl _)]; simp
 rw [e1, List.append_assoc]
 have e2 : (A ++ [y]).length - 1 = A.length := by simp
 rw [e2, List.set_append_right _ _ (Nat.le_refl _)]
 simp
/-- The inner loop ends. -/
theorem ins_exit {l A B : List α} {x : α} {k : Nat} (hx : l[k]? = some x) (hB : insB c x (isort c (l.take k)) = insB c x A ++ B) (h : 0 < A.length → ¬ c x ((A[A.length - 1]?).getD x) < 0) : A ++ x :: (B ++ l.drop (k + 1)) = isort c (l.take (k + 1)) ++ l.drop (k + 1) := by
 rw [take_snoc' hx, isort_snoc, hB]
 rcases Nat.eq_zero_or_pos A.length with h0 | h0
 ·obtain rfl := List.length_eq_zero_iff.1 h0
  simp [insB_nil]
 ·obtain ⟨A', y, rfl⟩ := snoc_of h0
  have := h h0
  rw [getD_snoc] at this
  rw [insB_snoc, if_neg this]; simp
theorem ins_step {A B : List α} {x y : α} {S : List α} (hB : insB c x S = insB c x (A ++ [y]) ++ B) (h : c x y < 0) : insB c x S = insB c x A ++ (y :: B) := by
 rw [hB, insB_snoc, if_pos h]; simp
end
end Go.HL
namespace Go.HL
section
variable {α : Type} {p : α → Bool}
/-- What slices.DeleteFunc has done when it looks at place j. -/
structure DelInv (p : α → Bool) (l : List α) (j : Nat) (D : List α) : Prop where
 len : D.length = l.length
 jle : j ≤ l.length
 lt : ((l.take j).filter (fun x => !p x)).length < j
 kept : D.take ((l.take j).filter (fun x => !p x)).length = (l.take j).filter (fun x => !p x)
 rest : D.drop j = l.drop j
theorem filter_snoc {l : List α} {j : Nat} {x : α} (hx : l[j]? = some x) : (l.take (j + 1)).filter (fun x => !p x) = (l.take j).filter (fun x => !p x) ++ if p x then [] else [x] := by
 rw [take_snoc' hx, List.filter_append]
 by_cases h : p x <;> simp [h]
theorem DelInv.get {l D : List α} {j : Nat} {x : α} (h : DelInv p l j D) (hx : l[j]? = some x) : D[j]? = some x := by
 have h1 := congrArg (fun t => t[0]?) h.rest
 simp only [List.getElem?_drop, Nat.add_zero] at h1
 rw [h1]; exact hx
theorem DelInv.drop1 {l D : List α} {j : Nat} (h : DelInv p l j D) : D.drop (j + 1) = l.drop (j + 1) := by
 have := congrArg (List.drop 1) h.rest
 simpa [List.drop_drop] using this
theorem DelInv.skip {l D : List α} {j : Nat} {x : α} (h : DelInv p l j D) (hx : l[j]? = some x) (hp : p x = true) : DelInv p l (j + 1) D ∧ ((l.take (j + 1)).filter (fun x => !p x)).length = ((l.take j).filter (fun x => !p x)).length := by
 have e := filter_snoc (p := p) hx
 rw [if_pos hp, List.append_nil] at e
 refine ⟨⟨h.len, by have := lt_of_get hx; omega, by rw [e]; have := h.lt; omega, by rw [e]; exact h.kept, h.drop1⟩, by rw [e]⟩
theorem DelInv.keep {l D : List α} {j : Nat} {x : α} (h : DelInv p l j D) (hx : l[j]? = some x) (hp : p x = false) :
 DelInv p l (j + 1) (D.set ((l.take j).filter (fun x => !p x)).length x) ∧ ((l.take (j + 1)).filter (fun x => !p x)).length = ((l.take j).filter (fun x => !p x)).length + 1 := by
 have e := filter_snoc (p := p) hx
 rw [if_neg (by simp [hp])] at e
 have hlt := h.lt
 have hj := lt_of_get hx
 have hl := h.len
 have el : ((l.take (j + 1)).filter (fun x => !p x)).length = ((l.take j).filter (fun x => !p x)).length + 1 := by rw [e]; simp
 refine ⟨⟨by simp [hl], by omega, by omega, ?_, ?_⟩, el⟩
 ·rw [el, e]
  have hk := h.kept
  generalize ((l.take j).filter (fun x => !p x)) = F at *
  rw [take_snoc' (List.getElem?_set_self (by omega)), List.take_set_of_le (Nat.le_refl _), hk]
 ·rw [List.drop_set_of_lt (by omega)]; exact h.drop1
theorem idxF_found (p : α → Bool) : ∀ (l : List α) (k : Int), 0 ≤ k → idxF p l k ≠ -1 → ∃ i : Nat, idxF p l k = k + i ∧ i < l.length ∧ (∃ x, l[i]? = some x ∧ p x = true) ∧ ∀ y ∈ l.take i, p y = false
 | [], k, _, h => by simp [idxF] at h
 | x :: r, k, h0, h => by
   by_cases hx : p x = true
   ·exact ⟨0, by simp [idxF, hx], by simp, ⟨x, rfl, hx⟩, by simp⟩
   ·have e : idxF p (x :: r) k = idxF p r (k + 1) := by simp [idxF, hx]
    rw [e] at h ⊢
    obtain ⟨i, h1, h2, ⟨y, h3, h4⟩, h5⟩ := idxF_found p r (k + 1) (by omega) h
    refine ⟨i + 1, by rw [h1]; simp; omega, by simp; omega, ⟨y, by simpa using h3, h4⟩, fun z hz => ?_⟩
    simp only [List.take_succ_cons, List.mem_cons] at hz
    rcases hz with rfl | hz
    ·simpa using hx
    ·exact h5 z hz
theorem idxF_none (p : α → Bool) : ∀ (l : List α) (k : Int), 0 ≤ k → idxF p l k = -1 → l.filter (fun x => !p x) = l
 | [], _, _, _ => rfl
 | x :: r, k, h0, h => by
   by_cases hx : p x = true
   ·simp [idxF, hx] at h; omega
   ·have e : idxF p (x :: r) k = idxF p r (k + 1) := by simp [idxF, hx]
    rw [e] at h
    rw [List.filter_cons, if_pos (by simp [hx]), idxF_none p r (k + 1) (by omega) h]
theorem DelInv.start {l : List α} {i : Nat} {x : α} (hi : i < l.length) (hx : l[i]? = some x) (hp : p x = true) (hb : ∀ y ∈ l.take i, p y = false) : DelInv p l (i + 1) l ∧ ((l.take (i + 1)).filter (fun x => !p x)).length = i := by
 have e := filter_snoc (p := p) hx
 rw [if_pos hp, List.append_nil, (List.filter_eq_self (l := l.take i) (p := fun x => !p x)).2 (fun y hy => by simp [hb y hy])] at e
 have hl : (l.take i).length = i := by simp; omega
 refine ⟨⟨rfl, by omega, by rw [e]; omega, by rw [e, hl], rfl⟩, by rw [e, hl]⟩
theorem DelInv.done {l D : List α} (h : DelInv p l l.length D) : D.take (l.filter (fun x => !p x)).length = l.filter (fun x => !p x) := by
 have := h.kept
 rwa [List.take_length] at this
end
theorem slOff_or {cap off sz m n : Nat} (h1 : m ≤ n) (h2 : n ≤ cap) : n - m = 0 ∨ slOff cap off sz m = off + m * sz := by
 unfold slOff
 by_cases h : cap = m
 ·exact .inl (by omega)
 ·exact .inr (by rw [if_neg h])
end Go.HL
namespace Go.HL
end Go.HL
end
section
namespace Go.HL
section
variable {r : Room} {w : List Wish} {k : Nat} {x : Wish} {t : List Wish}
end
end Go.HL
end
section
namespace Go.Proofs.YtlankmahpaenhaaGreatDoor
open Go.HL
set_option maxRecDepth 100000
set_option linter.unusedVariables false
set_option linter.unusedSimpArgs false

end Go.Proofs.YtlankmahpaenhaaGreatDoor
end
section
namespace Go.Proofs.YtlankmahpaenhaaGreatDoor
open Go.HL
set_option maxRecDepth 100000
set_option linter.unusedVariables false
set_option linter.unusedSimpArgs false

end Go.Proofs.YtlankmahpaenhaaGreatDoor
end
section
namespace Go.Proofs.YtlankmahpaenhaaGreatDoor
open Go.HL
set_option maxRecDepth 100000
set_option linter.unusedVariables false
set_option linter.unusedSimpArgs false

end Go.Proofs.YtlankmahpaenhaaGreatDoor
end
section
namespace Go.Proofs.YtlankmahpaenhaaGreatDoor
open Go.HL
set_option maxRecDepth 100000
set_option linter.unusedVariables false
set_option linter.unusedSimpArgs false

end Go.Proofs.YtlankmahpaenhaaGreatDoor
end
section
namespace Go.Proofs.YtlankmahpaenhaaGreatDoor
open Go.HL
set_option maxRecDepth 100000
set_option linter.unusedVariables false
set_option linter.unusedSimpArgs false

end Go.Proofs.YtlankmahpaenhaaGreatDoor
end
section
namespace Go.Proofs.YtlankmahpaenhaaGreatDoor
open Go.HL
set_option maxRecDepth 100000
set_option linter.unusedVariables false
set_option linter.unusedSimpArgs false

end Go.Proofs.YtlankmahpaenhaaGreatDoor
end
section
namespace Go.Proofs.YtlankmahpaenhaaGreatDoor
open Go.HL
set_option maxRecDepth 100000
set_option linter.unusedVariables false
set_option linter.unusedSimpArgs false

end Go.Proofs.YtlankmahpaenhaaGreatDoor
end
section
namespace Go.Proofs.YtlankmahpaenhaaGreatDoor
open Go.HL
set_option maxRecDepth 100000
set_option linter.unusedVariables false
set_option linter.unusedSimpArgs false

end Go.Proofs.YtlankmahpaenhaaGreatDoor
end
section
namespace Go.HL
section
variable {κ : Type}
/-- The inner maps by the outer key: block and entries. -/
abbrev GrM (κ : Type) := List (Str × (Nat × List (κ × Int)))
end
end Go.HL
end
section
namespace Go.HL
section
variable {P : Program} {e : Env} {dst : Option Tmp} {ty : TypeId} {pos : String} {af : Array Edge} {g : Option (Nat × Bool)} {M : List MObj} {K : HVal → List MObj → Prop}
end
end Go.HL
end
section
namespace Go.HL
variable {P : Program}
open Go.Sort Go.Proofs
theorem holds_rowI [Tracks] {I : Imm} {F : List MObj} {w : World} {b off n cap : Nat} {l : List Int} (h : Sat P I (.arr (.slice (some ⟨b, off, none⟩) n cap) 1 (l.map (.int .i64)) :: F) w) :
 Holds (Value.int .i64) w b off l.toArray ∧ b < w.heap.size ∧ l.length ≤ cap ∧ n = l.length := by
 obtain ⟨h0, rc, el, fr, h2, h3, h4, h5, h6, h7⟩ := arr_some h
 simp only [List.length_map] at h0 h5
 refine ⟨fun j hj => ?_, ?_, h5.1, h0⟩
 ·have hj' : j < l.length := by simpa using hj
  have hlt : off + j < rc.size := by omega
  constructor
  ·rw [cell_of h2, Array.getElem?_eq_getElem hlt]
   have hv := h7 j 0 (.int .i64 l[j]) (.int .i64 l[j]) rc[off + j] (by simp [hj']) (by simp [hcells]) (by simp [Array.getElem?_eq_getElem hlt])
   rw [hv.int_inv]
   simp [hj']
  ·simp only [World.frozen?, h2]
   have := h3 (off + j) hlt
   simpa using this
 ·rcases Nat.lt_or_ge b w.heap.size with h' | h'
  ·exact h'
  ·simp [Array.getElem?_eq_none h'] at h2
theorem sat_rowI [Tracks] {I : Imm} {F : List MObj} {w : World} {b off n cap n' k : Nat} {os : Array Obj} {l zs : List Int} (h : Sat P I (.arr (.slice (some ⟨b, off, none⟩) n cap) 1 (l.map (.int .i64)) :: F) w) (hz : zs.length = l.length) (hn : n' ≤ l.length) :
 Sat P I (.arr (.slice (some ⟨b, off, none⟩) n' cap) 1 ((zs.take n').map (.int .i64)) :: F) (grow (putRow (Value.int .i64) (Sort.ahead w k) b off zs.toArray) os) := by
 obtain ⟨h0, rc, el, fr, h2, h3, h4, h5, h6, h7⟩ := arr_some h
 simp only [List.length_map] at h0 h5
 have hlt : b < w.heap.size := by
  rcases Nat.lt_or_ge b w.heap.size with h' | h'
  ·exact h'
  ·simp [Array.getElem?_eq_none h'] at h2
 have hheap : ∀ c, c < w.heap.size → (grow (putRow (Value.int .i64) (Sort.ahead w k) b off zs.toArray) os).heap[c]? = (w.heap.modify b (onCells (putCells (Value.int .i64) off zs.toArray)))[c]? := fun c hc => by
  simp only [grow, putRow, mapBlock, Sort.ahead]
  rw [Array.getElem?_append_left (by simpa using hc)]
 refine h.change (m' := .arr (.slice (some ⟨b, off, none⟩) n' cap) 1 ((zs.take n').map (.int .i64))) (fun c hc hnc => ?_) (fun c hc => .inl hc) (by simp [MObj.blocks]) ?_ rfl rfl rfl
 ·rw [hheap c hc, Array.getElem?_modify]
  have : b ≠ c := fun hh => hnc (by subst hh; simp [MObj.blocks])
  rw [if_neg this]
 ·refine .inr ⟨b, off, cap, putCells (Value.int .i64) off zs.toArray rc, el, fr, ?_, ?_, ?_, ?_, ?_, ?_, ?_⟩
  ·simp [hz, Nat.min_eq_left hn]
  ·rw [hheap b hlt, Array.getElem?_modify, if_pos rfl, h2]; rfl
  ·simpa [putCells] using h3
  ·intro e he; obtain ⟨a, _, rfl⟩ := List.mem_map.1 he; simp [hcells]
  ·simp; omega
  ·simpa [putCells] using h6
  ·intro i j e c v a1 a2 a3
   have hi : i < n' := by
    have := lt_of_get a1; simp at this; omega
   rw [List.getElem?_map, List.getElem?_take_of_lt hi] at a1
   cases hq : zs[i]? with
   | none => rw [hq] at a1; simp at a1
   | some s =>
     rw [hq] at a1; simp at a1; subst a1
     have hj : j = 0 := by have := lt_of_get a2; simp [hcells] at this; omega
     subst hj
     simp [hcells] at a2; subst a2
     have hil : i < zs.length := lt_of_get hq
     have hr : off + i * 1 + 0 < rc.size := by omega
     rw [putCells, Array.getElem?_mapIdx, Array.getElem?_eq_getElem hr, Option.map_some, if_pos ⟨by omega, by simp; omega⟩] at a3
     have e1 : off + i * 1 + 0 - off = i := by omega
     rw [e1] at a3
     have e2 : zs.toArray[i]! = s := by
      rw [getElem!_pos zs.toArray i (by simpa using hil)]
      have := List.getElem?_eq_getElem hil
      rw [hq] at this; simpa using (Option.some.inj this).symm
     rw [e2] at a3
     cases a3
     exact .int _ s

/-- A function that works on a slice of numbers in place and hands on nothing. -/
theorem con_rowI [Tracks] {P : Program} {f : FuncId} {l zs : List Int} {v : Value} (hz : zs.length = l.length)
 (h1 : ∀ (b off cap : Nat) (w : World), Holds (Value.int .i64) w b off l.toArray → b < w.heap.size → l.length ≤ cap → Calls P f #[.slice (some ⟨b, off, none⟩) l.length cap] w fun e w' => e = .returned (.tuple #[]) ∧ ∃ n os, w' = grow (putRow (Value.int .i64) (Sort.ahead w n) b off zs.toArray) os)
 (h0 : l = [] → ConP P f [.slice 1 []] (.tup [])) : Con P f [.raw v] [.arr v 1 (l.map (.int .i64))] fun x M' => x = .tup [] ∧ M' = [.arr v 1 (zs.map (.int .i64))] := by
 intro I F w args ha hs
 obtain ⟨u, rfl, hu⟩ := ha.one
 obtain rfl : u = v := hu.raw_inv
 rcases hs.obj (.arr u 1 (l.map (.int .i64))) (by simp) with ⟨rfl, hn⟩ | ⟨b, off, cap, rc, el, fr, rfl, _⟩
 ·have hl : l = [] := by simpa using hn
  subst hl
  have hz0 : zs = [] := List.length_eq_zero_iff.1 hz
  subst hz0
  refine (h0 rfl I (.arr (.slice none 0 0) 1 [] :: F) w [.slice none 0 0] (VL.cons (.slice0 _ _ _) VL.nil) (by simpa using hs)).mono ?_
  rintro _ w' ⟨v, h, M', J, rfl, hle, ⟨rfl, rfl⟩, hv, hsat⟩
  exact ⟨v, _, [.arr (.slice none 0 0) 1 []], J, rfl, hle, ⟨rfl, rfl⟩, hv, by simpa using hsat⟩
 ·rw [List.length_map] at hs ⊢
  obtain ⟨g1, g2, g3, g4⟩ := holds_rowI hs
  refine (h1 b off cap w g1 g2 g3).mono ?_
  rintro _ w' ⟨rfl, n, os, rfl⟩
  refine ⟨_, .tup [], _, I, rfl, .refl I, ⟨rfl, rfl⟩, .tup (by simp) (fun j c v h _ => by simp at h), ?_⟩
  have := sat_rowI (n' := l.length) (k := n) (os := os) hs hz (Nat.le_refl _)
  rw [← hz, List.take_length, hz] at this
  exact this
/-- The same, where the slice comes back, cut. -/
theorem con_rowcI [Tracks] {P : Program} {f : FuncId} {l zs : List Int} {v : Value} (hz : zs.length ≤ l.length)
 (h1 : ∀ (b off cap : Nat) (w : World), Holds (Value.int .i64) w b off l.toArray → b < w.heap.size → l.length ≤ cap → Calls P f #[.slice (some ⟨b, off, none⟩) l.length cap] w fun e w' => e = .returned (.slice (some ⟨b, off, none⟩) zs.length cap) ∧ ∃ n, w' = putRow (Value.int .i64) (Sort.ahead w n) b off (zs ++ List.replicate (l.length - zs.length) 0).toArray)
 (h0 : l = [] → ∀ w, Calls P f #[.slice none 0 0] w fun e w' => e = .returned (.slice none 0 0) ∧ w' = w) : Con P f [.raw v] [.arr v 1 (l.map (.int .i64))] fun x M' => ∃ u, x = .raw u ∧ M' = [.arr u 1 (zs.map (.int .i64))] := by
 intro I F w args ha hs
 obtain ⟨u, rfl, hu⟩ := ha.one
 obtain rfl : u = v := hu.raw_inv
 rcases hs.obj (.arr u 1 (l.map (.int .i64))) (by simp) with ⟨rfl, hn⟩ | ⟨b, off, cap, rc, el, fr, rfl, _⟩
 ·have hl : l = [] := by simpa using hn
  subst hl
  have hz0 : zs = [] := List.length_eq_zero_iff.1 (by simpa using hz)
  subst hz0
  refine (h0 rfl w).mono ?_
  rintro _ w' ⟨rfl, rfl⟩
  exact ⟨_, .raw (.slice none 0 0), _, I, rfl, .refl I, ⟨_, rfl, rfl⟩, .raw _ rfl, hs⟩
 ·rw [List.length_map] at hs ⊢
  obtain ⟨g1, g2, g3, g4⟩ := holds_rowI hs
  refine (h1 b off cap w g1 g2 g3).mono ?_
  rintro _ w' ⟨rfl, n, rfl⟩
  refine ⟨_, .raw (.slice (some ⟨b, off, none⟩) zs.length cap), _, I, rfl, .refl I, ⟨_, rfl, rfl⟩, .raw _ rfl, ?_⟩
  have := sat_rowI (zs := zs ++ List.replicate (l.length - zs.length) 0) (n' := zs.length) (k := n) (os := #[]) hs (by simp; omega) hz
  rw [List.take_left' rfl, grow_empty] at this
  exact this
theorem mem_compactI {l : List Int} {z : Int} : z ∈ Lib.compact l ↔ z ∈ l := by
 unfold Lib.compact Lib.compactUpTo
 rw [List.mem_map]
 have hget : ∀ j, (hj : j < l.length) → l.toArray[j]! = l[j] := fun j hj => by rw [getElem!_pos l.toArray j (by simpa using hj)]; simp
 constructor
 ·rintro ⟨j, hj, rfl⟩
  have hlt := List.mem_range.1 (List.mem_filter.1 hj).1
  rw [hget j hlt]; exact List.getElem_mem _
 ·intro hz
  obtain ⟨j, hj⟩ := List.getElem?_of_mem hz
  induction j with
  | zero =>
    have h0 := lt_of_get hj
    refine ⟨0, List.mem_filter.2 ⟨List.mem_range.2 h0, by simp [Lib.keeps]⟩, ?_⟩
    rw [hget 0 h0]
    rw [List.getElem?_eq_getElem h0] at hj
    exact Option.some.inj hj
  | succ j ih =>
    have h1 := lt_of_get hj
    have e1 : l[j + 1] = z := by
     rw [List.getElem?_eq_getElem h1] at hj
     exact Option.some.inj hj
    by_cases h : l[j]? = some z
    ·exact ih h
    ·refine ⟨j + 1, List.mem_filter.2 ⟨List.mem_range.2 h1, ?_⟩, ?_⟩
     ·unfold Lib.keeps
      rw [decide_eq_true_eq]
      right
      rw [hget _ h1, Nat.add_sub_cancel, hget j (by omega), e1]
      intro e
      apply h
      rw [List.getElem?_eq_getElem (by omega), ← e]
     ·rw [hget _ h1, e1]
def sortI (l : List Int) : List Int := l.mergeSort fun x y => decide (x ≤ y)
theorem sortI_len (l : List Int) : (sortI l).length = l.length := by simp [sortI]
theorem mem_sortI {l : List Int} {z : Int} : z ∈ sortI l ↔ z ∈ l := (List.mergeSort_perm _ _).mem_iff
theorem compactI_le (l : List Int) : (Lib.compact l).length ≤ l.length := by
 unfold Lib.compact Lib.compactUpTo
 rw [List.length_map]
 exact Nat.le_trans (List.length_filter_le _ _) (by simp)
end Go.HL
end
section
namespace Go.HL
def goalS : Str := [103, 111, 97, 108]
def play1 : Play := ⟨[115], 1, 0, 1, [109], [112], goalS, 2, 0⟩
def line1 : LineS := ⟨[112], 1, [⟨goalS, 2⟩]⟩
theorem ready_ln : lnGo [play1] [[115]] 1 5 [play1] = ⟨[[112]], [(([112], goalS), 2)]⟩ := by kernel_rfl
theorem ready_or : orI [playsE [play1], trustE [[115]]] = 0 := by kernel_rfl
theorem ready_full : fullB [(([112], goalS), 2)] [[112]] = false := by kernel_rfl
theorem ready_stats : statsOf [(([112], goalS), 2)] [112] = [⟨goalS, 2⟩] := by kernel_rfl
theorem ready_E : LinesE [play1] [[115]] 1 5 = 0 := by
 rw [LinesE, ready_or, if_neg (by decide), if_neg (by decide), linesE, ready_ln, clinesE, ready_full]; rfl
theorem ready_L : LinesL [play1] [[115]] 1 5 = [line1] := by
 rw [LinesL, ready_or, if_neg (by decide), if_neg (by decide), linesL, ready_ln, clinesL, ready_full, if_neg (by decide)]
 simp [sortS, ready_stats, line1]
end Go.HL
end
section
namespace Go.HL
end Go.HL
end
section
namespace Go.HL
theorem Cmp.lt_trans {α : Type} {c : α → α → Int} {s : α → Prop} (h : Cmp c s) {x y z : α} (hx : s x) (hy : s y) (hz : s z) (h1 : c x y < 0) (h2 : c y z < 0) : c x z < 0 := by
 rcases Int.lt_or_le (c x z) 0 with q | q
 ·exact q
 ·exfalso
  have a1 := h.flip y z hy hz
  have a2 := h.flip z x hz hx
  have hzx : c z x ≤ 0 := by
   rcases Int.lt_or_le 0 (c z x) with r | r
   ·have := h.flip x z hx hz; omega
   ·exact r
  have := h.trans z x y hz hx hy hzx (by omega)
  omega
theorem byNo_flip (x y : Play) : byNo x y = -byNo y x := by
 unfold byNo
 rw [cmpI_flip, cmpS_flip x.Source, orI_flip]
theorem byNo_eq (x y : Play) : byNo x y = if cmpS x.Source y.Source ≠ 0 then cmpS x.Source y.Source else cmpI x.No y.No := by unfold byNo; rw [orI2]
theorem cmpS_lt_trans {a b c : Str} (h1 : cmpS a b ≤ 0) (h2 : cmpS b c ≤ 0) (h : cmpS a c = 0) : cmpS a b = 0 ∧ cmpS b c = 0 := by
 have e := cmpS_zero.1 h
 subst e
 rw [cmpS_flip b a] at *
 omega
theorem byNo_cmp : Cmp byNo (fun _ => True) where
 flip x y _ _ := by rw [byNo_flip x y]; omega
 trans x y z _ _ _ h1 h2 := by
  rw [byNo_eq] at *
  have k1 : cmpS x.Source y.Source ≤ 0 := by split at h1 <;> omega
  have k2 : cmpS y.Source z.Source ≤ 0 := by split at h2 <;> omega
  have k3 := cmpS_trans k1 k2
  split
  ·exact k3
  ·rename_i hz
   have hz' : cmpS x.Source z.Source = 0 := by simpa using hz
   obtain ⟨e1, e2⟩ := cmpS_lt_trans k1 k2 hz'
   rw [if_neg (by simp [e1]), cmpI_le] at h1
   rw [if_neg (by simp [e2]), cmpI_le] at h2
   rw [cmpI_le]; omega
theorem playsGo_adj {l : List Play} : ∀ (r : List Play) (k : Nat), playsGo l k r = 0 → r = l.drop k → ∀ (i : Nat) (x y : Play), k ≤ i → 0 < i → l[i]? = some x → l[i - 1]? = some y → 0 < byNo x y
 | [], k, _, e, i, x, y, hk, h0, hx, hy => by
   have := lt_of_get hx
   have h2 := congrArg List.length e
   simp at h2; omega
 | p :: r, k, h, e, i, x, y, hk, h0, hx, hy => by
   rw [playsGo] at h
   split at h
   ·contradiction
   ·split at h
    ·omega
    ·rename_i h1 h2
     have hp : l[k]? = some p := by
      have := congrArg (·[0]?) e
      simpa using this.symm
     rcases Nat.eq_or_lt_of_le hk with q | q
     ·subst q
      rw [hp] at hx; cases hx
      have : l.getD (k - 1) play0 = y := by simp [List.getD, hy]
      rw [this] at h2
      omega
     ·refine playsGo_adj r (k + 1) h ?_ i x y q h0 hx hy
      have := congrArg List.tail e
      simpa using this
theorem plays_rise {l : List Play} (h : playsE l = 0) : l.Pairwise fun a b => byNo a b < 0 := by
 have hadj := playsGo_adj l 0 (playsE_ok h).2 rfl
 rw [List.pairwise_iff_getElem]
 intro i j hi hj hij
 have key : ∀ d (hd : i + d + 1 < l.length), byNo l[i] l[i + d + 1] < 0 := by
  intro d
  induction d with
  | zero =>
    intro hd
    have := hadj (i + 1) _ _ (Nat.zero_le _) (by omega) (List.getElem?_eq_getElem hd) (List.getElem?_eq_getElem (by omega : i + 1 - 1 < l.length))
    rw [byNo_flip] at this
    simp only [Nat.add_sub_cancel] at this
    have h' : byNo l[i] l[i + 0 + 1] < 0 := by omega
    exact h'
  | succ d ih =>
    intro hd
    have h1 := ih (by omega)
    have h2 := hadj (i + (d + 1) + 1) _ _ (Nat.zero_le _) (by omega) (List.getElem?_eq_getElem hd) (List.getElem?_eq_getElem (by omega : i + (d + 1) + 1 - 1 < l.length))
    rw [byNo_flip] at h2
    simp only [Nat.add_sub_cancel] at h2
    exact byNo_cmp.lt_trans trivial trivial trivial h1 (by
     have e : i + (d + 1) = i + d + 1 := by omega
     simp only [e] at h2 ⊢; omega)
 have := key (j - i - 1) (by omega)
 have e : i + (j - i - 1) + 1 = j := by omega
 simpa only [e] using this
/-- A source and a number name one play. -/
def keyN (p : Play) : Num := (p.Source, p.No)
def OneKey (l : List Play) : Prop := ∀ (i j : Nat) (x y : Play), l[i]? = some x → l[j]? = some y → keyN x = keyN y → i = j
theorem plays_one {l : List Play} (h : playsE l = 0) : OneKey l := by
 intro i j x y hx hy e
 obtain ⟨hi, rfl⟩ := List.getElem?_eq_some_iff.1 hx
 obtain ⟨hj, rfl⟩ := List.getElem?_eq_some_iff.1 hy
 have hp := List.pairwise_iff_getElem.1 (plays_rise h)
 simp only [keyN, Prod.mk.injEq] at e
 have hz : ∀ a b : Play, a.Source = b.Source ∧ a.No = b.No → byNo a b = 0 := fun a b q => by
  rw [byNo_eq, q.1, q.2, if_neg (by simp [cmpS_zero]), cmpI_zero]
 rcases Nat.lt_trichotomy i j with q | q | q
 ·have := hp i j hi hj q
  rw [hz _ _ e] at this; omega
 ·exact q
 ·have := hp j i hj hi q
  rw [hz _ _ ⟨e.1.symm, e.2.symm⟩] at this; omega
theorem num_is {l : List Play} (h : OneKey l) (n : Int) (x : Num) (q : Play) : alk x (numL l n) = some q ↔ q ∈ l ∧ q.At ≤ n ∧ keyN q = x := by
 have key : ∀ k, k ≤ l.length → (alk x (numL (l.take k) n) = some q ↔ q ∈ l.take k ∧ q.At ≤ n ∧ keyN q = x) := by
  intro k
  induction k with
  | zero => intro _; simp [numL, alk]
  | succ k ih =>
    intro hk
    have hx := List.getElem?_eq_getElem (l := l) (i := k) (by omega)
    generalize l[k] = p at hx
    have ih := ih (by omega)
    rw [numL_snoc hx, take_snoc' hx]
    unfold numStep
    have hnew : ∀ y ∈ l.take k, keyN y ≠ keyN p := fun y hy e => by
     obtain ⟨i, hi, rfl⟩ := List.getElem_of_mem hy
     rw [List.getElem_take] at e
     simp only [List.length_take] at hi
     have := h i k _ _ (List.getElem?_eq_getElem (by omega)) hx e
     omega
    by_cases hp : p.At ≤ n
    ·rw [if_pos hp, alk_put]
     by_cases e : x = (p.Source, p.No)
     ·rw [if_pos e]
      constructor
      ·intro hq; cases hq
       exact ⟨by simp, hp, e.symm⟩
      ·rintro ⟨h1, h2, h3⟩
       rcases List.mem_append.1 h1 with h1 | h1
       ·exact absurd (h3.trans e) (hnew q h1)
       ·rw [List.mem_singleton.1 h1]
     ·rw [if_neg e, ih]
      constructor
      ·rintro ⟨h1, h2⟩; exact ⟨List.mem_append_left _ h1, h2⟩
      ·rintro ⟨h1, h2, h3⟩
       rcases List.mem_append.1 h1 with h1 | h1
       ·exact ⟨h1, h2, h3⟩
       ·rw [List.mem_singleton.1 h1] at h3
        exact absurd h3.symm e
    ·rw [if_neg hp, ih]
     constructor
     ·rintro ⟨h1, h2⟩; exact ⟨List.mem_append_left _ h1, h2⟩
     ·rintro ⟨h1, h2, h3⟩
      rcases List.mem_append.1 h1 with h1 | h1
      ·exact ⟨h1, h2, h3⟩
      ·rw [List.mem_singleton.1 h1] at h2; exact absurd h2 hp
 have := key l.length (Nat.le_refl _)
 rwa [List.take_length] at this
/-- p takes q back, as it is known at n. -/
def TakesBack (n : Int) (p q : Play) : Prop := p.At ≤ n ∧ p.Undo ≠ 0 ∧ q.At ≤ n ∧ keyN q = (p.Source, p.Undo) ∧ undoes q p = true
theorem gone_is {l : List Play} (h : OneKey l) (n : Int) (x : Num) : isGone l n x = true ↔ ∃ p ∈ l, ∃ q ∈ l, keyN q = x ∧ TakesBack n p q := by
 have key : ∀ m : List Play, ((alk x (goneGo (numL l n) n m)).getD false = true ↔ ∃ p ∈ m, ∃ q ∈ l, keyN q = x ∧ TakesBack n p q) ∧ ∀ v, alk x (goneGo (numL l n) n m) = some v → v = true := by
  intro m
  have kk : ∀ k, k ≤ m.length → ((alk x (goneGo (numL l n) n (m.take k))).getD false = true ↔ ∃ p ∈ m.take k, ∃ q ∈ l, keyN q = x ∧ TakesBack n p q) ∧ ∀ v, alk x (goneGo (numL l n) n (m.take k)) = some v → v = true := by
   intro k
   induction k with
   | zero => intro _; simp [goneGo, alk]
   | succ k ih =>
     intro hk
     have hx := List.getElem?_eq_getElem (l := m) (i := k) (by omega)
     generalize m[k] = p at hx
     obtain ⟨i1, i2⟩ := ih (by omega)
     rw [goneGo_snoc hx, take_snoc' hx]
     have hno : (¬ ∃ q ∈ l, keyN q = x ∧ TakesBack n p q) → ((∃ p' ∈ m.take k ++ [p], ∃ q ∈ l, keyN q = x ∧ TakesBack n p' q) ↔ ∃ p' ∈ m.take k, ∃ q ∈ l, keyN q = x ∧ TakesBack n p' q) := fun hq => by
      constructor
      ·rintro ⟨p', h1, h2⟩
       rcases List.mem_append.1 h1 with h1 | h1
       ·exact ⟨p', h1, h2⟩
       ·rw [List.mem_singleton.1 h1] at h2; exact absurd h2 hq
      ·rintro ⟨p', h1, h2⟩; exact ⟨p', List.mem_append_left _ h1, h2⟩
     unfold goneStep
     by_cases c1 : n < p.At ∨ p.Undo = 0
     ·rw [if_pos c1, hno (by rintro ⟨q, _, _, t1, t2, _⟩; omega)]
      exact ⟨i1, i2⟩
     ·rw [if_neg c1]
      by_cases c2 : (alk (p.Source, p.Undo) (numL l n)).isSome = true ∧ undoes ((alk (p.Source, p.Undo) (numL l n)).getD play0) p = true
      ·rw [if_pos c2]
       obtain ⟨q, hq⟩ := Option.isSome_iff_exists.1 c2.1
       have c3 := c2.2
       rw [hq, Option.getD_some] at c3
       obtain ⟨g1, g2, g3⟩ := (num_is h n _ q).1 hq
       rw [alk_put]
       by_cases e : x = (p.Source, p.Undo)
       ·rw [if_pos e]
        exact ⟨⟨fun _ => ⟨p, by simp, q, g1, g3.trans e.symm, by omega, by omega, g2, g3, c3⟩, fun _ => rfl⟩, fun v hv => by cases hv; rfl⟩
       ·rw [if_neg e, hno (by rintro ⟨q', _, t0, _, _, _, t4, _⟩; exact e (t0.symm.trans t4))]
        exact ⟨i1, i2⟩
      ·rw [if_neg c2, hno ?_]
       ·exact ⟨i1, i2⟩
       ·rintro ⟨q, hq, t0, t1, t2, t3, t4, t5⟩
        have := (num_is h n (p.Source, p.Undo) q).2 ⟨hq, t3, t4⟩
        exact c2 ⟨by rw [this]; rfl, by rw [this]; exact t5⟩
  have := kk m.length (Nat.le_refl _)
  rwa [List.take_length] at this
 exact (key l).1
/-- The reference's way: the place of the play that is taken back. -/
def takesB (l : List Play) (n : Int) (x y : Play) : Bool := y.Source == x.Source && y.No == x.Undo && y.Undo == 0 && decide (y.At ≤ n) && y.Match == x.Match && y.Player == x.Player && y.Stat == x.Stat
def takesR (l : List Play) (x : Play) (n : Int) : Option Nat := if x.Undo = 0 ∨ n < x.At then none else l.findIdx? (takesB l n x)
theorem takesB_iff (l : List Play) (n : Int) (x y : Play) : takesB l n x y = true ↔ y.At ≤ n ∧ keyN y = (x.Source, x.Undo) ∧ undoes y x = true := by
 unfold takesB undoes keyN
 simp only [Bool.and_eq_true, beq_iff_eq, decide_eq_true_eq, Prod.mk.injEq]
 constructor
 ·rintro ⟨⟨⟨⟨⟨⟨a, b⟩, c⟩, d⟩, e⟩, f⟩, g⟩; exact ⟨d, ⟨a, b⟩, ⟨⟨c, e⟩, f⟩, g⟩
 ·rintro ⟨d, ⟨a, b⟩, ⟨⟨c, e⟩, f⟩, g⟩; exact ⟨⟨⟨⟨⟨⟨a, b⟩, c⟩, d⟩, e⟩, f⟩, g⟩
theorem gone_takes {l : List Play} (h : OneKey l) (n : Int) {i : Nat} {x : Play} (hx : l[i]? = some x) : isGone l n (keyN x) = true ↔ ∃ p ∈ l, takesR l p n = some i := by
 rw [gone_is h]
 constructor
 ·rintro ⟨p, hp, q, hq, e, t1, t2, t3, t4, t5⟩
  obtain ⟨j, hj, rfl⟩ := List.getElem_of_mem hq
  have hij := h j i _ _ (List.getElem?_eq_getElem hj) hx e
  subst hij
  refine ⟨p, hp, ?_⟩
  unfold takesR
  rw [if_neg (by omega), List.findIdx?_eq_some_iff_getElem]
  refine ⟨hj, (takesB_iff l n p _).2 ⟨t3, t4, t5⟩, fun k hk hq => ?_⟩
  obtain ⟨a, b, c⟩ := (takesB_iff l n p _).1 hq
  have := h k j _ _ (List.getElem?_eq_getElem (by omega)) (List.getElem?_eq_getElem hj) (b.trans t4.symm)
  omega
 ·rintro ⟨p, hp, ht⟩
  unfold takesR at ht
  split at ht
  ·cases ht
  ·rename_i hc
   obtain ⟨hi, h1, _⟩ := List.findIdx?_eq_some_iff_getElem.1 ht
   obtain ⟨_, rfl⟩ := List.getElem?_eq_some_iff.1 hx
   obtain ⟨a, b, c⟩ := (takesB_iff l n p _).1 h1
   exact ⟨p, hp, _, List.getElem_mem hi, rfl, by omega, by omega, a, b, c⟩
end Go.HL
end
section
namespace Go.HL
/-- The sums of one player. -/
def inner {κ : Type} (c : List ((Str × κ) × Int)) (s : Str) : List (κ × Int) := (c.filter fun e => e.1.1 == s).map fun e => (e.1.2, e.2)
theorem inner_put {κ : Type} [DecidableEq κ] (s : Str) (st : κ) (v : Int) (s' : Str) : ∀ c : List ((Str × κ) × Int), inner (aput (s, st) v c) s' = if s' = s then aput st v (inner c s) else inner c s'
 | [] => by
   by_cases e : s' = s
   ·subst e; simp [inner, aput]
   ·have : ¬ s = s' := fun q => e q.symm
    simp [inner, aput, e, this]
 | p :: r => by
   have ih := inner_put s st v s' r
   obtain ⟨⟨a, b⟩, w⟩ := p
   simp only [aput, Prod.mk.injEq]
   by_cases h1 : s = a
   ·subst h1
    by_cases h2 : st = b
    ·subst h2
     rw [if_pos ⟨rfl, rfl⟩]
     by_cases e : s' = s
     ·subst e; simp [inner, aput]
     ·have : ¬ s = s' := fun q => e q.symm
      simp [inner, e, this]
    ·rw [if_neg (fun q => h2 q.2)]
     by_cases e : s' = s
     ·subst e
      rw [if_pos rfl] at ih ⊢
      simp only [inner, List.filter_cons, beq_self_eq_true, if_true, List.map_cons, aput, if_neg h2] at ih ⊢
      rw [ih]
     ·have : ¬ s = s' := fun q => e q.symm
      rw [if_neg e] at ih ⊢
      simp only [inner, List.filter_cons, beq_iff_eq, if_neg this] at ih ⊢
      exact ih
   ·rw [if_neg (fun q => h1 q.1)]
    by_cases e : s' = s
    ·subst e
     have : ¬ a = s' := fun q => h1 q.symm
     rw [if_pos rfl] at ih ⊢
     simp only [inner, List.filter_cons, beq_iff_eq, if_neg this] at ih ⊢
     exact ih
    ·rw [if_neg e] at ih ⊢
     by_cases h3 : a = s'
     ·simp only [inner, List.filter_cons, beq_iff_eq, if_pos h3, List.map_cons] at ih ⊢
      rw [ih]
     ·simp only [inner, List.filter_cons, beq_iff_eq, if_neg h3] at ih ⊢
      exact ih
end Go.HL
end
section
namespace Go.HL
end Go.HL
end
section
namespace Go.HL
def byOf (a b : Of2) : Int := orI [cmpS a.1 b.1, cmpS a.2 b.2]
theorem byOf_eq (a b : Of2) : byOf a b = if cmpS a.1 b.1 ≠ 0 then cmpS a.1 b.1 else cmpS a.2 b.2 := by unfold byOf; rw [orI2]
theorem byOf_flip (a b : Of2) : byOf a b = -byOf b a := by
 unfold byOf
 rw [cmpS_flip a.1, cmpS_flip a.2, orI_flip]
theorem byOf_cmp : Cmp byOf (fun _ => True) where
 flip x y _ _ := by rw [byOf_flip x y]; omega
 trans x y z _ _ _ h1 h2 := by
  rw [byOf_eq] at *
  have k1 : cmpS x.1 y.1 ≤ 0 := by split at h1 <;> omega
  have k2 : cmpS y.1 z.1 ≤ 0 := by split at h2 <;> omega
  have k3 := cmpS_trans k1 k2
  split
  ·exact k3
  ·rename_i hz
   have hz' : cmpS x.1 z.1 = 0 := by simpa using hz
   obtain ⟨e1, e2⟩ := cmpS_lt_trans k1 k2 hz'
   rw [if_neg (by simp [e1])] at h1
   rw [if_neg (by simp [e2])] at h2
   exact cmpS_trans h1 h2
def OLt (a b : Of2) : Prop := byOf a b < 0
/-- The sums of each source: who told, and what they count. -/
structure DisS where
 S : List Str
 c : List ((Str × Of2) × Int)
def disKey (p : Play) : Str × Of2 := (p.Source, (p.Player, p.Stat))
def disPut (q : DisS) (p : Play) : List ((Str × Of2) × Int) := aput (disKey p) ((alk (disKey p) q.c).getD 0 + p.Count) q.c
end Go.HL
end
section
namespace Go.HL
theorem aput_keys' {α : Type} {s : Str} {v : α} : ∀ {G : List (Str × α)}, (aput s v G).map (·.1) = sadd s (G.map (·.1))
 | [] => by simp [aput, sadd]
 | p :: r => by
   have ih := aput_keys' (s := s) (v := v) (G := r)
   simp only [aput]
   by_cases h : s = p.1
   ·rw [if_pos h]
    unfold sadd
    rw [if_pos (by simp [h])]
    simp [h]
   ·rw [if_neg h, List.map_cons, ih]
    unfold sadd
    by_cases hc : (r.map (·.1)).contains s = true
    ·rw [if_pos hc, if_pos (by simp at hc ⊢; exact .inr hc)]; rfl
    ·rw [if_neg hc, if_neg (by simp at hc ⊢; exact ⟨h, hc⟩)]; rfl
theorem aput_mem' {α : Type} {s : Str} {v : α} {p : Str × α} : ∀ {G : List (Str × α)}, ANodup G → p ∈ aput s v G → p = (s, v) ∨ (p ∈ G ∧ p.1 ≠ s)
 | [], _, h => by simp [aput] at h; exact .inl h
 | q :: r, hn, h => by
   have h1 := List.nodup_cons.1 hn
   simp only [aput] at h
   by_cases hs : s = q.1
   ·rw [if_pos hs] at h
    rcases List.mem_cons.1 h with h | h
    ·exact .inl h
    ·refine .inr ⟨List.mem_cons_of_mem _ h, fun e => h1.1 ?_⟩
     show q.1 ∈ r.map (·.1)
     rw [← hs, ← e]; exact List.mem_map_of_mem h
   ·rw [if_neg hs] at h
    rcases List.mem_cons.1 h with h | h
    ·subst h; exact .inr ⟨by simp, fun e => hs e.symm⟩
    ·rcases aput_mem' h1.2 h with e | e
     ·exact .inl e
     ·exact .inr ⟨List.mem_cons_of_mem _ e.1, e.2⟩
section
variable {κ : Type}
/-- The maps of maps hold the flat sums. -/
structure GrOk (S : List Str) (c : List ((Str × κ) × Int)) (G : GrM κ) : Prop where
 keys : G.map (·.1) = S
 nodup : S.Nodup
 val : ∀ p ∈ G, p.2.2 = inner c p.1
 inS : ∀ e ∈ c, e.1.1 ∈ S
theorem GrOk.anodup {S : List Str} {c : List ((Str × κ) × Int)} {G : GrM κ} (h : GrOk S c G) : ANodup G := by unfold ANodup; rw [h.keys]; exact h.nodup
theorem GrOk.nil : GrOk ([] : List Str) ([] : List ((Str × κ) × Int)) [] := ⟨rfl, List.nodup_nil, (fun p h => by cases h), (fun e h => by cases h)⟩
theorem GrOk.get {S : List Str} {c : List ((Str × κ) × Int)} {G : GrM κ} (h : GrOk S c G) {s : Str} {b : Nat} {L : List (κ × Int)} (hq : alk s G = some (b, L)) : L = inner c s := h.val _ (alk_of_mem hq)
theorem GrOk.none {S : List Str} {c : List ((Str × κ) × Int)} {G : GrM κ} (h : GrOk S c G) {s : Str} : alk s G = none ↔ s ∉ S := by rw [alk_none, h.keys]
theorem inner_nil {S : List Str} {c : List ((Str × κ) × Int)} {s : Str} (h : ∀ e ∈ c, e.1.1 ∈ S) (hs : s ∉ S) : inner c s = [] := by
 unfold inner
 rw [List.map_eq_nil_iff, List.filter_eq_nil_iff]
 intro e he hq
 exact hs ((eq_of_beq hq) ▸ h e he)
theorem GrOk.add {S : List Str} {c : List ((Str × κ) × Int)} {G : GrM κ} (h : GrOk S c G) {s : Str} (b : Nat) (hs : alk s G = Option.none) : GrOk (sadd s S) c (aput s (b, []) G) := by
 have hn := h.none.1 hs
 refine ⟨by rw [aput_keys', h.keys], sadd_nodup h.nodup, fun p hp => ?_, fun e he => mem_sadd.2 (.inr (h.inS e he))⟩
 rcases aput_mem' h.anodup hp with rfl | ⟨hp, _⟩
 ·exact (inner_nil h.inS hn).symm
 ·exact h.val p hp
variable [DecidableEq κ]
theorem GrOk.put {S : List Str} {c : List ((Str × κ) × Int)} {G : GrM κ} (h : GrOk S c G) {s : Str} {b : Nat} {L : List (κ × Int)} (hq : alk s G = some (b, L)) (k : κ) (v : Int) : GrOk S (aput (s, k) v c) (aput s (b, aput k v L) G) := by
 have hs : s ∈ S := by
  refine Decidable.not_not.1 fun hn => ?_
  have := h.none.2 hn
  rw [this] at hq; cases hq
 refine ⟨?_, h.nodup, fun p hp => ?_, fun e he => ?_⟩
 ·rw [aput_keys', h.keys]
  unfold sadd
  rw [if_pos (by simpa using hs)]
 ·rw [inner_put]
  rcases aput_mem' h.anodup hp with rfl | ⟨hp, hne⟩
  ·rw [if_pos rfl, ← h.get hq]
  ·rw [if_neg hne]; exact h.val p hp
 ·rcases mem_aput he with rfl | he
  ·exact hs
  ·exact h.inS e he
end
end Go.HL
end
section
namespace Go.HL
theorem idxF_is {α : Type} (p : α → Bool) : ∀ (l : List α) (k : Int), idxF p l k = match l.findIdx? p with | none => -1 | some i => k + i
 | [], k => rfl
 | x :: r, k => by
   have ih := idxF_is p r (k + 1)
   simp only [idxF, List.findIdx?_cons]
   by_cases h : p x = true
   ·rw [if_pos h, if_pos h]; simp
   ·rw [if_neg h, if_neg h, ih]
    cases r.findIdx? p with
    | none => rfl
    | some i =>
      show k + 1 + (i : Int) = k + ((i + 1 : Nat) : Int)
      omega
def takesI (l : List Play) (x : Play) (n : Int) : Int := if x.Undo = 0 ∨ n < x.At then -1 else idxF (takesB l n x) l 0
theorem takesI_is (l : List Play) (x : Play) (n : Int) : takesI l x n = match takesR l x n with | none => -1 | some i => (i : Int) := by
 unfold takesI takesR
 split
 ·rfl
 ·rw [idxF_is]
  cases l.findIdx? (takesB l n x) with
  | none => rfl
  | some i => simp
theorem takesI_iff {l : List Play} {x : Play} {n : Int} {i : Nat} : takesI l x n = (i : Int) ↔ takesR l x n = some i := by
 rw [takesI_is]
 cases takesR l x n with
 | none => simp
 | some j => simp; omega
/-- The places of the plays that are taken back, as they are found. -/
def undR (l : List Play) (n : Int) (m : List Play) : List Int := (m.map fun x => takesI l x n).filter fun z => decide (0 ≤ z)
theorem undR_yes {l m : List Play} {n : Int} {k : Nat} {x : Play} (hx : m[k]? = some x) (h : 0 ≤ takesI l x n) : undR l n (m.take (k + 1)) = undR l n (m.take k) ++ [takesI l x n] := by
 unfold undR; rw [take_snoc' hx, List.map_append, List.filter_append]; simp [h]
theorem undR_no {l m : List Play} {n : Int} {k : Nat} {x : Play} (hx : m[k]? = some x) (h : ¬ 0 ≤ takesI l x n) : undR l n (m.take (k + 1)) = undR l n (m.take k) := by
 unfold undR; rw [take_snoc' hx, List.map_append, List.filter_append]; simp [h]
theorem undR_len (l m : List Play) (n : Int) : (undR l n m).length ≤ m.length := by
 unfold undR
 exact Nat.le_trans (List.length_filter_le _ _) (by simp)
theorem mem_undR {l : List Play} {n : Int} {i : Nat} : (i : Int) ∈ undR l n l ↔ ∃ p ∈ l, takesR l p n = some i := by
 unfold undR
 rw [List.mem_filter, List.mem_map]
 constructor
 ·rintro ⟨⟨p, hp, e⟩, _⟩; exact ⟨p, hp, takesI_iff.1 e⟩
 ·rintro ⟨p, hp, e⟩; exact ⟨⟨p, hp, takesI_iff.2 e⟩, by simp⟩
end Go.HL
end
section
namespace Go.HL
/-- A list without the things that equal the one before (p ahead of the first). -/
def uniqO (p : Option Of2) : List Of2 → List Of2
 | [] => []
 | x :: r => if p = some x then uniqO (some x) r else x :: uniqO (some x) r
theorem OLt.trans {a b c : Of2} (h1 : OLt a b) (h2 : OLt b c) : OLt a c := byOf_cmp.lt_trans trivial trivial trivial h1 h2
end Go.HL
end
section
namespace Go.HL
/-- The plays of the sources that count. -/
def keptB (l : List Play) (trust : List Str) (n : Int) (x : Play) : Bool := decide (srcOf l trust n x.Match = some x.Source)
def kept (l : List Play) (trust : List Str) (n : Int) : List Play := l.filter (keptB l trust n)
end Go.HL
end
section
namespace Go.HL
structure ChkIs (q : ChkS) (l : List Play) : Prop where
 sn : q.S.Nodup
 s : ∀ s, s ∈ q.S ↔ ∃ x ∈ l, x.Source = s
 wn : ANodup q.W
 w : ∀ m, m ∈ q.W.map (·.1) ↔ ∃ x ∈ l, x.Match = m
 wv : ∀ m v, alk m q.W = some v → ∃ x ∈ l, x.Match = m ∧ x.Week = v
 c : q.c = false ↔ ∀ x ∈ l, ∀ y ∈ l, x.Match = y.Match → x.Week = y.Week
theorem ChkIs.step {q : ChkS} {l : List Play} (h : ChkIs q l) (p : Play) : ChkIs (chkStep q p) (l ++ [p]) where
 sn := sadd_nodup h.sn
 s s := by
  show s ∈ sadd p.Source q.S ↔ _
  rw [mem_sadd, h.s]
  constructor
  ·rintro (rfl | ⟨x, hx, e⟩)
   ·exact ⟨p, by simp, rfl⟩
   ·exact ⟨x, List.mem_append_left _ hx, e⟩
  ·rintro ⟨x, hx, e⟩
   rcases List.mem_append.1 hx with hx | hx
   ·exact .inr ⟨x, hx, e⟩
   ·rw [List.mem_singleton.1 hx] at e; exact .inl e.symm
 wn := h.wn.put
 w m := by
  show m ∈ (aput p.Match p.Week q.W).map (·.1) ↔ _
  rw [aput_keys, h.w]
  constructor
  ·rintro (rfl | ⟨x, hx, e⟩)
   ·exact ⟨p, by simp, rfl⟩
   ·exact ⟨x, List.mem_append_left _ hx, e⟩
  ·rintro ⟨x, hx, e⟩
   rcases List.mem_append.1 hx with hx | hx
   ·exact .inr ⟨x, hx, e⟩
   ·rw [List.mem_singleton.1 hx] at e; exact .inl e.symm
 wv m v hv := by
  have hv' : alk m (aput p.Match p.Week q.W) = some v := hv
  rw [alk_put] at hv'
  by_cases e : m = p.Match
  ·rw [if_pos e] at hv'; cases hv'
   exact ⟨p, by simp, e.symm, rfl⟩
  ·rw [if_neg e] at hv'
   obtain ⟨x, hx, e1⟩ := h.wv m v hv'
   exact ⟨x, List.mem_append_left _ hx, e1⟩
 c := by
  show (q.c || ((alk p.Match q.W).isSome && ((alk p.Match q.W).getD 0 != p.Week))) = false ↔ _
  rw [Bool.or_eq_false_iff, h.c]
  constructor
  ·rintro ⟨h1, h2⟩
   have hp : ∀ x ∈ l, x.Match = p.Match → x.Week = p.Week := fun x hx e => by
    have hk : p.Match ∈ q.W.map (·.1) := (h.w _).2 ⟨x, hx, e⟩
    have hne : ¬ alk p.Match q.W = none := by rw [alk_none]; exact fun z => z hk
    obtain ⟨v, hv⟩ := Option.ne_none_iff_exists'.1 hne
    rw [hv] at h2
    simp at h2
    obtain ⟨y, hy, e1, e2⟩ := h.wv _ _ hv
    rw [h1 x hx y hy (by rw [e, e1]), e2, h2]
   intro x hx y hy e
   rcases List.mem_append.1 hx with hx | hx <;> rcases List.mem_append.1 hy with hy | hy
   ·exact h1 x hx y hy e
   ·rw [List.mem_singleton.1 hy] at e ⊢; exact hp x hx e
   ·rw [List.mem_singleton.1 hx] at e ⊢; exact (hp y hy e.symm).symm
   ·rw [List.mem_singleton.1 hx, List.mem_singleton.1 hy]
  ·intro hall
   refine ⟨fun x hx y hy e => hall x (List.mem_append_left _ hx) y (List.mem_append_left _ hy) e, ?_⟩
   cases hv : alk p.Match q.W with
   | none => rfl
   | some v =>
     obtain ⟨y, hy, e1, e2⟩ := h.wv _ _ hv
     have := hall y (List.mem_append_left _ hy) p (by simp) e1
     simp
     rw [← e2, this]
theorem chk_is (l : List Play) : ChkIs (chkSt l) l := by
 have key : ∀ k, k ≤ l.length → ChkIs (chkSt (l.take k)) (l.take k) := by
  intro k
  induction k with
  | zero =>
    intro _
    refine ⟨List.nodup_nil, fun s => ?_, ANodup.nil, fun m => ?_, fun m v hv => ?_, ?_⟩
    ·simp [chkSt]
    ·simp [chkSt]
    ·simp [chkSt, alk] at hv
    ·simp [chkSt]
  | succ k ih =>
    intro hk
    have hx := List.getElem?_eq_getElem (l := l) (i := k) (by omega)
    rw [chkSt_snoc hx, take_snoc' hx]
    exact (ih (by omega)).step _
 have := key l.length (Nat.le_refl _)
 rwa [List.take_length] at this
end Go.HL
end
section
namespace Go.HL
theorem wk_pos {p : Play} (h : playFault p = 0) : 1 ≤ p.Week := by
 have h1 := (playFault_ok h).2.2.2.1
 unfold weekB at h1
 have := out_f (n := p.Week) (lo := 1) (hi := 60) (by simpa using h1)
 omega
theorem chk_pos {l : List Play} (hok : ∀ y ∈ l, playFault y = 0) {m : Str} {v : Int} (h : alk m (chkSt l).W = some v) : 1 ≤ v := by
 obtain ⟨x, hx, _, rfl⟩ := (chk_is l).wv m v h
 exact wk_pos (hok x hx)
/-- Two weeks of a match, asked as the references ask. -/
theorem chk_ref {l : List Play} (hok : ∀ y ∈ l, playFault y = 0) (p : Play) :
 ((chkSt l).c || ((alk p.Match (chkSt l).W).getD 0 != 0 && (alk p.Match (chkSt l).W).getD 0 != p.Week)) = (chkStep (chkSt l) p).c := by
 unfold chkStep
 dsimp only
 cases h : alk p.Match (chkSt l).W with
 | none => simp
 | some v =>
   have := chk_pos hok h
   have h0 : (v != 0) = true := by simp; omega
   simp [h0]
/-! statistics -/
end Go.HL
end
section
namespace Go.HL
def GoodPl1 (x : Play) : Prop := Sh x.Source ∧ Sh x.Match ∧ Sh x.Player ∧ Sh x.Stat
structure GoodPl (k : List Play) : Prop where
 len : k.length ≤ 15
 all : ∀ x ∈ k, GoodPl1 x
def src3 : List Str := [[102, 97], [102, 98], [102, 99]]
theorem src3_sh : ∀ s ∈ src3, Sh s := fun s hs => by simp [src3] at hs; rcases hs with rfl | rfl | rfl <;> (unfold Sh; simp)
def week3 : List Int := [1, 1, 2]
def match3 : List Str := [[109, 97], [109, 98], [109, 99]]
theorem match3_sh (k : Nat) : Sh (match3.getD k []) := by
 match k with
 | 0 => unfold Sh; simp [match3]
 | 1 => unfold Sh; simp [match3]
 | 2 => unfold Sh; simp [match3]
 | n + 3 => unfold Sh; simp [match3]
end Go.HL
end
section
namespace Go.Proofs.YtlankmahpaenhaaGreatDoor
open Go.HL
set_option maxRecDepth 100000
set_option linter.unusedVariables false
set_option linter.unusedSimpArgs false
/-- slices.IndexFunc[[]benchwarmer/api.Play,benchwarmer/api.Play] -/
theorem c_slices_IndexFunc_api_Play_api_Play [Tracks] {l : List Play} {fid : FuncId} {caps : List HVal} {p : Play → Bool} (hca : Callable Tryz.prog fid) (hp : ∀ x, ConP Tryz.prog fid ([ePlay x] ++ caps) (.bool (p x))) (hl : l.length ≤ 1000000) : ConP Tryz.prog 41 [.slice 9 (l.map ePlay), .fn (.func fid) [] caps] (.int .i64 (idxF p l 0)) := by
 refine Con.of_body Tryz.func41 rfl Tryz.ntmps41 rfl rfl ?_
 refine hw_reg ?_
 refine dp rfl (pop_assign rfl) ?_
 refine dn ?_
 refine hw_seq ?_
 refine hw_reg ?_
 refine dp rfl (pop_move rfl) ?_
 refine dp rfl (pop_lenm ty26 rfl) ?_
 refine dp rfl (pop_move rfl) ?_
 refine dn ?_
 refine hw_block ?_
 refine hw_loopw [4, 5, 8, 9, 10, 11, 12, 13, 14, 15, 16, 17, 18] (fun (k : Nat) => [(8, .int .i64 k)]) (fun (k : Nat) => []) (fun (k : Nat) => k ≤ l.length ∧ (idxF p l 0 = idxF p (l.drop k) k)) (fun (k : Nat) => l.length - k) (0) ?_ ?_ ?_ ?_
 ·exact ⟨Nat.zero_le _, rfl⟩
 ·exact ⟨rfl, trivial⟩
 ·exact List.Perm.refl _
 ·intro k hinv
  obtain ⟨hk, hg⟩ := hinv
  refine hw_reg ?_
  refine dp rfl (pop_lss rfl rfl) ?_
  refine dn ?_
  refine hw_seq ?_
  refine hw_cond rfl (fun h1 => ?_) (fun h2 => ?_)
  ·try simp at h1
   obtain ⟨x, hx⟩ : ∃ x, l[k]? = some x := ⟨_, List.getElem?_eq_getElem h1⟩
   have hdx := drop_cons hx
   rw [hdx] at hg
   refine hw_skip ?_
   refine seqQ_n ?_
   refine hw_seq ?_
   refine hw_block ?_
   refine hw_reg ?_
   refine dp rfl (pop_move rfl) ?_
   refine dp rfl (pop_assign rfl) ?_
   refine dn ?_
   refine hw_reg ?_
   refine dp rfl (pop_move rfl) ?_
   refine dp rfl (pop_move rfl) ?_
   refine dp rfl (pop_move rfl) ?_
   refine dp rfl (pop_idx ty26 ty30 rfl rfl rfl (by assumption)) ?_
   refine dp rfl (pop_loadw ty30 rfl rfl rfl rfl) ?_
   refine dp rfl (pop_callv hca rfl rfl (WeakL.refl _) (hp _)) ?_
   refine dn ?_
   refine hw_cond rfl (fun h3 => ?_) (fun h4 => ?_)
   ·try simp at h3
    refine hw_reg ?_
    refine dp rfl (pop_move rfl) ?_
    refine dp rfl (pop_assign rfl) ?_
    refine dn ?_
    refine hw_ret ?_
    refine ret_p rfl ?_
    show HVal.int .i64 _ = _
    (rw [hg]; simp_all [idxF])
   ·try simp at h4
    refine hw_skip ?_
    refine blockQ_n ?_
    refine seqQ_n ?_
    refine hw_reg1 ?_
    refine dp rfl (pop_add64 rfl rfl (by omega) (by omega)) ?_
    refine dp rfl (pop_move rfl) ?_
    refine dn ?_
    refine ⟨k + 1, ?_, ?_, ⟨rfl, trivial⟩, (by repeat (first | exact keeps_refl | refine keeps_upd rfl ?_ | refine keeps_loop rfl rfl ?_)), List.Perm.refl _⟩
    ·refine ⟨by omega, ?_⟩
     rw [hg, idxF, if_neg (by simp_all)]; rfl
    ·dsimp only; omega
  ·try simp at h2
   have hnk : l.length ≤ k := by omega
   obtain rfl : k = l.length := by omega
   rw [drop_all (Nat.le_refl _)] at hg
   refine hw_exit ?_
   refine seqQ_x ?_
   refine loopQ_x ?_
   refine blockQ_eq ?_
   refine seqQ_n ?_
   refine hw_reg ?_
   refine dp rfl (pop_assign rfl) ?_
   refine dn ?_
   refine hw_ret ?_
   refine ret_p rfl ?_
   show HVal.int .i64 _ = _
   (rw [hg]; rfl)

theorem c_slices_SortI [Tracks] {l : List Int} {v : Value} (hl : l.length ≤ 1000000) : Con Tryz.prog 75 [.raw v] [.arr v 1 (l.map (.int .i64))] fun x M' => x = .tup [] ∧ M' = [.arr v 1 ((sortI l).map (.int .i64))] :=
 con_rowI (sortI_len l) (fun b off cap w h1 h2 _ => Any.slices_Sort_int Tryz.lays189 b off cap l w h1 h2 (by omega)) (fun _ => conp_of_calls fun I w args ha => by
  obtain ⟨u, rfl, hu⟩ := ha.one
  obtain ⟨p, cap, rfl⟩ := hu.slice_len
  exact ⟨.tuple #[], .tup (by simp) (fun j c v h _ => by simp at h), Any.slices_Sort_int_none Tryz.lays189 p cap w⟩)

theorem c_slices_CompactI [Tracks] {l : List Int} {v : Value} (hl : l.length ≤ 1000000) : Con Tryz.prog 76 [.raw v] [.arr v 1 (l.map (.int .i64))] fun x M' => ∃ u, x = .raw u ∧ M' = [.arr u 1 ((Lib.compact l).map (.int .i64))] :=
 con_rowcI (compactI_le l) (fun b off cap w h1 _ h3 => Any.slices_Compact_int Tryz.lays220 b off cap l w h1 (by omega) h3) (fun _ w => Any.slices_Compact_int_empty Tryz.lays220 none 0 w)

/-- benchwarmer/benchref1.WeekFault -/
theorem c_benchref1_WeekFault [Tracks] {n : Int}  : ConP Tryz.prog 64 [.int .i64 n] (.int .i64 (if weekB n then 0 else 1)) := by
 refine Con.of_body Tryz.func64 rfl Tryz.ntmps64 rfl rfl ?_
 refine hw_reg ?_
 refine dp rfl (pop_assign rfl) ?_
 refine dn ?_
 refine hw_reg ?_
 refine dp rfl (pop_move rfl) ?_
 refine dp rfl (pop_call ca87 rfl (WeakL.refl _) c_benchref1_SpanFault) ?_
 refine dp rfl (pop_assign rfl) ?_
 refine dn ?_
 refine hw_ret ?_
 refine ret_p rfl ?_
 show HVal.int .i64 _ = _
 unfold weekB
 cases out n 1 60 <;> rfl

/-- benchwarmer/benchref1.PlayFault -/
theorem c_benchref1_PlayFault [Tracks] {p : Play} (hgp : GoodPl1 p) : ConP Tryz.prog 32 [ePlay p] (.int .i64 (playFault p)) := by
 refine Con.of_body Tryz.func32 rfl Tryz.ntmps32 rfl rfl ?_
 refine hw_reg ?_
 refine dp rfl (pop_box rfl rfl) ?_
 refine dp rfl (pop_assign rfl) ?_
 refine dn ?_
 refine hw_seq ?_
 refine hw_block ?_
 refine hw_reg ?_
 refine dp rfl (pop_fieldAddr ty30 rfl ty9 (by decide) rfl) ?_
 refine dp rfl (pop_load ty9 rfl rfl rfl) ?_
 refine dp rfl (pop_call ca61 rfl (WeakL.refl _) (c_benchref1_Key hgp.1)) ?_
 refine dp rfl (pop_not rfl) ?_
 refine dp rfl (pop_assign rfl) ?_
 refine dn ?_
 refine hw_cond rfl (fun h1 => ?_) (fun h2 => ?_)
 ·try simp at h1
  refine hw_reg ?_
  refine dp rfl (pop_assign rfl) ?_
  refine dn ?_
  refine hw_ret ?_
  refine ret_p rfl ?_
  show HVal.int .i64 _ = _
  simp_all [playFault]
 ·try simp at h2
  refine hw_reg ?_
  refine dp rfl (pop_fieldAddr ty30 rfl ty3 (by decide) rfl) ?_
  refine dp rfl (pop_load ty3 rfl rfl rfl) ?_
  refine dp rfl (pop_call ca62 rfl (WeakL.refl _) c_benchref1_in) ?_
  refine dp rfl (pop_not rfl) ?_
  refine dp rfl (pop_move rfl) ?_
  refine dg rfl rfl (fun hc => ⟨_, OpenTo.refl _, pop_fieldAddr ty30 rfl ty3 (by decide) rfl⟩) ?_
  refine dg rfl rfl (fun hc => ⟨_, OpenTo.upd (t := 14) rfl (hc) (OpenTo.refl _), pop_load ty3 rfl rfl rfl⟩) ?_
  refine dg rfl rfl (fun hc => ⟨_, OpenTo.upd (t := 15) rfl (hc) (OpenTo.refl _), pop_call ca63 rfl (WeakL.refl _) c_benchref1_MomentFault⟩) ?_
  refine dg rfl rfl (fun hc => ⟨_, OpenTo.upd (t := 16) rfl (hc) (OpenTo.refl _), pop_neq rfl rfl⟩) ?_
  refine dp rfl (pop_picko rfl (.inl rfl) (.inr ⟨_, rfl, fun h => by simp_all⟩)) ?_
  refine dp rfl (pop_move rfl) ?_
  refine dg rfl rfl (fun hc => ⟨_, OpenTo.refl _, pop_fieldAddr ty30 rfl ty3 (by decide) rfl⟩) ?_
  refine dg rfl rfl (fun hc => ⟨_, OpenTo.upd (t := 20) rfl (hc) (OpenTo.refl _), pop_load ty3 rfl rfl rfl⟩) ?_
  refine dg rfl rfl (fun hc => ⟨_, OpenTo.upd (t := 21) rfl (hc) (OpenTo.refl _), pop_call ca64 rfl (WeakL.refl _) c_benchref1_WeekFault⟩) ?_
  refine dg rfl rfl (fun hc => ⟨_, OpenTo.upd (t := 22) rfl (hc) (OpenTo.refl _), pop_neq rfl rfl⟩) ?_
  refine dp rfl (pop_picko rfl (.inl rfl) (.inr ⟨_, rfl, fun h => by simp_all⟩)) ?_
  refine dp rfl (pop_assign rfl) ?_
  refine dn ?_
  refine hw_cond rfl (fun h3 => ?_) (fun h4 => ?_)
  ·try simp at h3
   refine hw_reg ?_
   refine dp rfl (pop_assign rfl) ?_
   refine dn ?_
   refine hw_ret ?_
   refine ret_p rfl ?_
   show HVal.int .i64 _ = _
   simp_all [playFault]
  ·try simp at h4
   refine hw_reg ?_
   refine dp rfl (pop_fieldAddr ty30 rfl ty9 (by decide) rfl) ?_
   refine dp rfl (pop_load ty9 rfl rfl rfl) ?_
   refine dp rfl (pop_call ca61 rfl (WeakL.refl _) (c_benchref1_Key hgp.2.1)) ?_
   refine dp rfl (pop_not rfl) ?_
   refine dp rfl (pop_move rfl) ?_
   refine dg rfl rfl (fun hc => ⟨_, OpenTo.refl _, pop_fieldAddr ty30 rfl ty9 (by decide) rfl⟩) ?_
   refine dg rfl rfl (fun hc => ⟨_, OpenTo.upd (t := 31) rfl (hc) (OpenTo.refl _), pop_load ty9 rfl rfl rfl⟩) ?_
   refine dg rfl rfl (fun hc => ⟨_, OpenTo.upd (t := 32) rfl (hc) (OpenTo.refl _), pop_call ca61 rfl (WeakL.refl _) (c_benchref1_Key hgp.2.2.1)⟩) ?_
   refine dg rfl rfl (fun hc => ⟨_, OpenTo.upd (t := 33) rfl (hc) (OpenTo.refl _), pop_not rfl⟩) ?_
   refine dp rfl (pop_picko rfl (.inl rfl) (.inr ⟨_, rfl, fun h => by simp_all⟩)) ?_
   refine dp rfl (pop_move rfl) ?_
   refine dg rfl rfl (fun hc => ⟨_, OpenTo.refl _, pop_fieldAddr ty30 rfl ty9 (by decide) rfl⟩) ?_
   refine dg rfl rfl (fun hc => ⟨_, OpenTo.upd (t := 37) rfl (hc) (OpenTo.refl _), pop_load ty9 rfl rfl rfl⟩) ?_
   refine dg rfl rfl (fun hc => ⟨_, OpenTo.upd (t := 38) rfl (hc) (OpenTo.refl _), pop_call ca61 rfl (WeakL.refl _) (c_benchref1_Key hgp.2.2.2)⟩) ?_
   refine dg rfl rfl (fun hc => ⟨_, OpenTo.upd (t := 39) rfl (hc) (OpenTo.refl _), pop_not rfl⟩) ?_
   refine dp rfl (pop_picko rfl (.inl rfl) (.inr ⟨_, rfl, fun h => by simp_all⟩)) ?_
   refine dp rfl (pop_assign rfl) ?_
   refine dn ?_
   refine hw_cond rfl (fun h5 => ?_) (fun h6 => ?_)
   ·try simp at h5
    refine hw_reg ?_
    refine dp rfl (pop_assign rfl) ?_
    refine dn ?_
    refine hw_ret ?_
    refine ret_p rfl ?_
    show HVal.int .i64 _ = _
    simp_all [playFault]
   ·try simp at h6
    refine hw_reg ?_
    refine dp rfl (pop_fieldAddr ty30 rfl ty3 (by decide) rfl) ?_
    refine dp rfl (pop_load ty3 rfl rfl rfl) ?_
    refine dp rfl (pop_call ca62 rfl (WeakL.refl _) c_benchref1_in) ?_
    refine dp rfl (pop_not rfl) ?_
    refine dp rfl (pop_move rfl) ?_
    refine dg rfl rfl (fun hc => ⟨_, OpenTo.refl _, pop_fieldAddr ty30 rfl ty3 (by decide) rfl⟩) ?_
    refine dg rfl rfl (fun hc => ⟨_, OpenTo.upd (t := 48) rfl (hc) (OpenTo.refl _), pop_load ty3 rfl rfl rfl⟩) ?_
    refine dg rfl rfl (fun hc => ⟨_, OpenTo.refl _, pop_fieldAddr ty30 rfl ty3 (by decide) rfl⟩) ?_
    refine dg rfl rfl (fun hc => ⟨_, OpenTo.upd (t := 50) rfl (hc) (OpenTo.refl _), pop_load ty3 rfl rfl rfl⟩) ?_
    have hN := out_f (n := p.No) (lo := 1) (hi := 3000) (by simp_all)
    refine dg rfl rfl (fun hc => by have hq := hc; (try simp at hq); exact ⟨_, OpenTo.upd (t := 51) rfl (hc) (OpenTo.refl _), pop_sub64 rfl rfl (by omega) (by omega)⟩) ?_
    refine dg rfl rfl (fun hc => ⟨_, OpenTo.upd (t := 52) rfl (hc) (OpenTo.upd (t := 49) rfl (hc) (OpenTo.refl _)), pop_call ca62 rfl (WeakL.refl _) c_benchref1_in⟩) ?_
    refine dg rfl rfl (fun hc => ⟨_, OpenTo.upd (t := 53) rfl (hc) (OpenTo.refl _), pop_not rfl⟩) ?_
    refine dp rfl (pop_picko rfl (.inl rfl) (.inr ⟨_, rfl, fun h => by simp_all⟩)) ?_
    refine dp rfl (pop_assign rfl) ?_
    refine dn ?_
    refine hw_cond rfl (fun h7 => ?_) (fun h8 => ?_)
    ·try simp at h7
     refine hw_reg ?_
     refine dp rfl (pop_assign rfl) ?_
     refine dn ?_
     refine hw_ret ?_
     refine ret_p rfl ?_
     show HVal.int .i64 _ = _
     simp_all [playFault]
    ·try simp at h8
     refine hw_reg ?_
     refine dp rfl (pop_fieldAddr ty30 rfl ty3 (by decide) rfl) ?_
     refine dp rfl (pop_load ty3 rfl rfl rfl) ?_
     refine dp rfl (pop_gtr rfl rfl) ?_
     refine dp rfl (pop_move rfl) ?_
     refine dg rfl rfl (fun hc => ⟨_, OpenTo.refl _, pop_fieldAddr ty30 rfl ty3 (by decide) rfl⟩) ?_
     refine dg rfl rfl (fun hc => ⟨_, OpenTo.upd (t := 61) rfl (hc) (OpenTo.refl _), pop_load ty3 rfl rfl rfl⟩) ?_
     refine dg rfl rfl (fun hc => ⟨_, OpenTo.upd (t := 62) rfl (hc) (OpenTo.refl _), pop_neq rfl rfl⟩) ?_
     refine dp rfl (pop_picko rfl (.inr ⟨_, rfl, fun h => by simp_all⟩) (.inl rfl)) ?_
     refine dp rfl (pop_assign rfl) ?_
     refine dn ?_
     refine hw_cond rfl (fun h9 => ?_) (fun h10 => ?_)
     ·try simp at h9
      refine hw_reg ?_
      refine dp rfl (pop_assign rfl) ?_
      refine dn ?_
      refine hw_ret ?_
      refine ret_p rfl ?_
      show HVal.int .i64 _ = _
      simp_all [playFault]
     ·try simp at h10
      refine hw_skip ?_
      refine blockQ_n ?_
      refine seqQ_n ?_
      refine hw_reg ?_
      refine dp rfl (pop_assign rfl) ?_
      refine dn ?_
      refine hw_ret ?_
      refine ret_p rfl ?_
      show HVal.int .i64 _ = _
      simp_all [playFault]

/-- benchwarmer/benchref1.byPlay -/
theorem c_benchref1_byPlay [Tracks] {a b : Play}  : ConP Tryz.prog 33 [ePlay a, ePlay b] (.int .i64 (byNo a b)) := by
 refine Con.of_body Tryz.func33 rfl Tryz.ntmps33 rfl rfl ?_
 refine hw_reg ?_
 refine dp rfl (pop_box rfl rfl) ?_
 refine dp rfl (pop_box rfl rfl) ?_
 refine dp rfl (pop_assign rfl) ?_
 refine dn ?_
 refine hw_draw (fun _ => True) [] mixed ?_
 refine ahp 0 rfl rfl (by kernel_rfl) (by kernel_rfl) (pop_fieldAddr ty30 rfl ty9 (by decide) rfl) ?_
 refine ahp 1 rfl rfl (by kernel_rfl) (by kernel_rfl) (pop_load ty9 rfl rfl rfl) ?_
 refine ahp 2 rfl rfl (by kernel_rfl) (by kernel_rfl) (pop_fieldAddr ty30 rfl ty9 (by decide) rfl) ?_
 refine ahp 3 rfl rfl (by kernel_rfl) (by kernel_rfl) (pop_load ty9 rfl rfl rfl) ?_
 refine ahp 4 rfl rfl (by kernel_rfl) (by kernel_rfl) (pop_call ca66 rfl (WeakL.refl _) c_strings_Compare) ?_
 refine ahp 5 rfl rfl (by kernel_rfl) (by kernel_rfl) (pop_fieldAddr ty30 rfl ty3 (by decide) rfl) ?_
 refine ahp 6 rfl rfl (by kernel_rfl) (by kernel_rfl) (pop_load ty3 rfl rfl rfl) ?_
 refine ahp 7 rfl rfl (by kernel_rfl) (by kernel_rfl) (pop_fieldAddr ty30 rfl ty3 (by decide) rfl) ?_
 refine ahp 8 rfl rfl (by kernel_rfl) (by kernel_rfl) (pop_load ty3 rfl rfl rfl) ?_
 refine ahp 9 rfl rfl (by kernel_rfl) (by kernel_rfl) (pop_call ca67 rfl (WeakL.refl _) c_cmp_Compare_int) ?_
 refine ahp 10 rfl rfl (by kernel_rfl) (by kernel_rfl) (pop_buildSlice (hs := [_, _]) ty22 ty3 rfl rfl (by decide) (by decide) rfl) ?_
 refine ahp 11 rfl rfl (by kernel_rfl) (by kernel_rfl) (pop_call ca65 rfl (WeakL.refl _) (c_cmp_Or_int (l := [_, _]) (by simp))) ?_
 refine ahp 12 rfl rfl (by kernel_rfl) (by kernel_rfl) (pop_assign rfl) ?_
 refine ahz (by kernel_rfl) ?_
 refine hw_ret ?_
 refine ret_p rfl ?_
 rfl

/-- benchwarmer/benchref1.PlaysFault -/
theorem c_benchref1_PlaysFault [Tracks] {l : List Play} (hl : l.length ≤ 1000000) (hgl : ∀ x ∈ l, GoodPl1 x) : ConP Tryz.prog 9 [ePlays l] (.int .i64 (playsE l)) := by
 refine Con.of_body Tryz.func9 rfl Tryz.ntmps9 rfl rfl ?_
 refine hw_reg ?_
 refine dp rfl (pop_assign rfl) ?_
 refine dn ?_
 refine hw_seq ?_
 refine hw_reg ?_
 refine dp rfl (pop_move rfl) ?_
 refine dp rfl (pop_lenm ty26 rfl) ?_
 refine dp rfl (pop_gtr rfl rfl) ?_
 refine dn ?_
 refine hw_cond rfl (fun h1 => ?_) (fun h2 => ?_)
 ·try simp at h1
  refine hw_reg ?_
  refine dp rfl (pop_assign rfl) ?_
  refine dn ?_
  refine hw_ret ?_
  refine ret_g Ghost.clear rfl ⟨?_, rfl⟩
  show HVal.int .i64 _ = _
  (rw [playsE, if_pos (by omega)]; done)
 ·try simp at h2
  refine hw_skip ?_
  refine seqQ_n ?_
  refine hw_reg ?_
  refine de rfl (eop_makeMap fun m12 => ?_)
  refine de rfl (eop_makeMap fun m13 => ?_)
  refine dp rfl (pop_assign rfl) ?_
  refine dp rfl (pop_assign rfl) ?_
  refine dn ?_
  refine hw_reg ?_
  refine dp rfl (pop_assign rfl) ?_
  refine dn ?_
  refine hw_seq ?_
  refine hw_reg ?_
  refine dp rfl (pop_move rfl) ?_
  refine dp rfl (pop_lenm ty26 rfl) ?_
  refine dp rfl (pop_move rfl) ?_
  refine dn ?_
  refine hw_block ?_
  refine hw_loopw [2, 5, 6, 7, 8, 16, 17, 18, 19, 20, 21, 22, 23, 24, 25, 26, 27, 28, 29, 30, 31, 32, 33, 34, 35, 36, 37, 38, 39, 40, 41, 42, 43, 44, 45, 46, 47, 48, 49, 50, 51, 52, 53, 54, 55, 56, 57, 58, 59, 60, 61, 62, 63] (fun (k : Nat) => [(16, .int .i64 k), (5, .bool (chkSt (l.take k)).c)]) (fun (k : Nat) => [.map m13 (sk (em (.int .i64) (chkSt (l.take k)).W)), .map m12 (sk (mset (chkSt (l.take k)).S))]) (fun (k : Nat) => k ≤ l.length ∧ (playsGo l 0 l = playsGo l k (l.drop k) ∧ ∀ y ∈ l.take k, playFault y = 0)) (fun (k : Nat) => l.length - k) (0) ?_ ?_ ?_ ?_
  ·exact ⟨Nat.zero_le _, rfl, by simp⟩
  ·exact ⟨rfl, rfl, trivial⟩
  ·exact List.Perm.refl _
  ·intro k hinv
   obtain ⟨hk, hg, hok⟩ := hinv
   refine hw_reg ?_
   refine dp rfl (pop_lss rfl rfl) ?_
   refine dn ?_
   refine hw_seq ?_
   refine hw_cond rfl (fun h3 => ?_) (fun h4 => ?_)
   ·try simp at h3
    obtain ⟨x, hx⟩ : ∃ x, l[k]? = some x := ⟨_, List.getElem?_eq_getElem h3⟩
    have hdx := drop_cons hx
    rw [hdx] at hg
    refine hw_skip ?_
    refine seqQ_n ?_
    refine hw_seq ?_
    refine hw_block ?_
    refine hw_reg ?_
    refine dp rfl (pop_move rfl) ?_
    refine dp rfl (pop_idx ty26 ty30 rfl rfl rfl (by assumption)) ?_
    refine dp rfl (pop_loadw ty30 rfl rfl rfl rfl) ?_
    refine de rfl (eop_alloc ty30 rfl fun b7 => ?_)
    refine dp rfl (pop_assign rfl) ?_
    refine de0 (eop_storew ty30 rfl rfl rfl rfl rfl ?_)
    refine dn ?_
    refine hw_ghost (Ghost.fc0 7 rfl) ?_
    refine hw_seq ?_
    refine hw_reg ?_
    refine dp rfl (pop_loadw ty30 rfl rfl rfl rfl) ?_
    refine dp rfl (pop_call ca32 rfl (WeakL.refl _) (c_benchref1_PlayFault (hgl x (List.mem_of_getElem? hx)))) ?_
    refine dp rfl (pop_assign rfl) ?_
    refine dn ?_
    refine hw_reg ?_
    refine dp rfl (pop_move rfl) ?_
    refine dp rfl (pop_neq rfl rfl) ?_
    refine dn ?_
    refine hw_cond rfl (fun h5 => ?_) (fun h6 => ?_)
    ·try simp at h5
     refine hw_reg ?_
     refine dp rfl (pop_move rfl) ?_
     refine dp rfl (pop_assign rfl) ?_
     refine dn ?_
     refine hw_ret ?_
     refine ret_g Ghost.clear rfl ⟨?_, rfl⟩
     show HVal.int .i64 _ = _
     (rw [playsE_go (by omega) (by rw [hg, playsGo, if_pos (by simpa using h5)]) (by simpa using h5)]; done)
    ·try simp at h6
     refine hw_skip ?_
     refine seqQ_n ?_
     refine hw_seq ?_
     refine hw_draw (fun _ => True) [] mixed ?_
     refine ahp 0 rfl rfl (by kernel_rfl) (by kernel_rfl) (pop_move rfl) ?_
     refine ahp 1 rfl rfl (by kernel_rfl) (by kernel_rfl) (pop_gtr rfl rfl) ?_
     refine ahp 2 rfl rfl (by kernel_rfl) (by kernel_rfl) (pop_move rfl) ?_
     refine ahg 3 rfl rfl (by kernel_rfl) (by kernel_rfl) rfl (fun hc => ⟨_, OpenTo.refl _, pop_move rfl⟩) ?_
     refine ahg 4 rfl rfl (by kernel_rfl) (by kernel_rfl) rfl (fun hc => ⟨_, OpenTo.refl _, pop_move rfl⟩) ?_
     refine ahg 5 rfl rfl (by kernel_rfl) (by kernel_rfl) rfl (fun hc => by have hq := hc; (try simp at hq); exact ⟨_, OpenTo.upd (t := 30) rfl (hc) (OpenTo.refl _), pop_sub64 rfl rfl (by omega) (by omega)⟩) ?_
     refine ahg 6 rfl rfl (by kernel_rfl) (by kernel_rfl) rfl (fun hc => by have hq := hc; (try simp at hq); exact ⟨_, OpenTo.upd (t := 31) rfl (hc) (OpenTo.upd (t := 29) rfl (hc) (OpenTo.refl _)), pop_idx (j := k - 1) (a := l.getD (k - 1) play0) ty26 ty30 rfl rfl (by omega) (getD_some (by omega))⟩) ?_
     refine ahg 7 rfl rfl (by kernel_rfl) (by kernel_rfl) rfl (fun hc => ⟨_, OpenTo.upd (t := 32) rfl (hc) (OpenTo.refl _), pop_loadw ty30 rfl rfl rfl rfl⟩) ?_
     refine ahg 8 rfl rfl (by kernel_rfl) (by kernel_rfl) rfl (fun hc => ⟨_, OpenTo.refl _, pop_loadw ty30 rfl rfl rfl rfl⟩) ?_
     refine ahg 9 rfl rfl (by kernel_rfl) (by kernel_rfl) rfl (fun hc => ⟨_, OpenTo.upd (t := 34) rfl (hc) (OpenTo.upd (t := 33) rfl (hc) (OpenTo.refl _)), pop_call ca33 rfl (WeakL.refl _) c_benchref1_byPlay⟩) ?_
     refine ahg 10 rfl rfl (by kernel_rfl) (by kernel_rfl) rfl (fun hc => ⟨_, OpenTo.upd (t := 35) rfl (hc) (OpenTo.refl _), pop_geq rfl rfl⟩) ?_
     refine ahp 11 rfl rfl (by kernel_rfl) (by kernel_rfl) (pop_picko rfl (.inr ⟨_, rfl, fun h => by simp_all⟩) (.inl rfl)) ?_
     refine ahz (by kernel_rfl) ?_
     refine hw_cond rfl (fun h7 => ?_) (fun h8 => ?_)
     ·try simp at h7
      refine hw_reg ?_
      refine dp rfl (pop_assign rfl) ?_
      refine dn ?_
      refine hw_ret ?_
      refine ret_g Ghost.clear rfl ⟨?_, rfl⟩
      show HVal.int .i64 _ = _
      (rw [playsE_go (c := 7) (by omega) (by rw [hg, playsGo, if_neg (by simpa using h6), if_pos (by obtain ⟨qa, qb⟩ := h7; have qb' : 0 ≤ byNo (l.getD (k - 1) play0) x := (by simpa using qb); rw [byNo_flip]; exact ⟨by omega, by omega⟩)]) (by decide)]; done)
     ·try simp at h8
      refine hw_skip ?_
      refine seqQ_n ?_
      refine hw_reg ?_
      refine dp rfl (pop_move rfl) ?_
      refine dp rfl (pop_fieldAddr ty30 rfl ty9 (by decide) rfl) ?_
      refine dp rfl (pop_load ty9 rfl rfl rfl) ?_
      refine de0 (eop_update_set (i := 1) ty63 ty9 rfl rfl rfl rfl ?_)
      refine dn ?_
      refine hw_reg ?_
      refine dp rfl (pop_move rfl) ?_
      refine dp rfl (pop_move rfl) ?_
      refine dg rfl rfl (fun hc => ⟨_, OpenTo.refl _, pop_move rfl⟩) ?_
      refine dg rfl rfl (fun hc => ⟨_, OpenTo.refl _, pop_fieldAddr ty30 rfl ty9 (by decide) rfl⟩) ?_
      refine dg rfl rfl (fun hc => ⟨_, OpenTo.upd (t := 44) rfl (hc) (OpenTo.refl _), pop_load ty9 rfl rfl rfl⟩) ?_
      refine dgl rfl rfl (fun hc => ⟨_, OpenTo.upd (t := 45) rfl (hc) (OpenTo.upd (t := 43) rfl (hc) (OpenTo.refl _)), eop_lookupA (i := 0) (z0 := (0 : Int)) ty64 ty9 ty3 rfl rfl rfl rfl ⟨rfl, rfl⟩⟩) ?_
      refine dg rfl rfl (fun hc => ⟨_, OpenTo.upd (t := 46) rfl (hc) (OpenTo.refl _), pop_neq rfl rfl⟩) ?_
      refine dg rfl rfl (fun hc => ⟨_, OpenTo.upd (t := 47) rfl (hc) (OpenTo.refl _), pop_move rfl⟩) ?_
      refine dg rfl rfl (fun hc => ⟨_, OpenTo.refl _, pop_move rfl⟩) ?_
      refine dg rfl rfl (fun hc => ⟨_, OpenTo.refl _, pop_fieldAddr ty30 rfl ty9 (by decide) rfl⟩) ?_
      refine dg rfl rfl (fun hc => ⟨_, OpenTo.upd (t := 50) rfl (hc) (OpenTo.refl _), pop_load ty9 rfl rfl rfl⟩) ?_
      refine dgl rfl rfl (fun hc => ⟨_, OpenTo.upd (t := 51) rfl (hc) (OpenTo.upd (t := 49) rfl (hc) (OpenTo.refl _)), eop_lookupA (i := 0) (z0 := (0 : Int)) ty64 ty9 ty3 rfl rfl rfl rfl ⟨rfl, rfl⟩⟩) ?_
      refine dg rfl rfl (fun hc => ⟨_, OpenTo.refl _, pop_fieldAddr ty30 rfl ty3 (by decide) rfl⟩) ?_
      refine dg rfl rfl (fun hc => ⟨_, OpenTo.upd (t := 53) rfl (hc) (OpenTo.refl _), pop_load ty3 rfl rfl rfl⟩) ?_
      refine dg rfl rfl (fun hc => ⟨_, OpenTo.upd (t := 54) rfl (hc) (OpenTo.upd (t := 52) rfl (hc) (OpenTo.refl _)), pop_neq rfl rfl⟩) ?_
      refine dg rfl rfl (fun hc => ⟨_, OpenTo.upd (t := 48) rfl (hc) (OpenTo.refl _), pop_picko rfl (.inr ⟨_, rfl, fun h => by simp_all⟩) (.inl rfl)⟩) ?_
      refine dp rfl (pop_picko rfl (.inl rfl) (.inr ⟨_, rfl, fun h => by simp_all⟩)) ?_
      refine dp rfl (pop_assign rfl) ?_
      refine dn ?_
      refine hw_reg1 ?_
      refine dp rfl (pop_move rfl) ?_
      refine dp rfl (pop_fieldAddr ty30 rfl ty9 (by decide) rfl) ?_
      refine dp rfl (pop_load ty9 rfl rfl rfl) ?_
      refine dp rfl (pop_fieldAddr ty30 rfl ty3 (by decide) rfl) ?_
      refine dp rfl (pop_load ty3 rfl rfl rfl) ?_
      refine de0 (eop_updateA (i := 0) ty64 ty9 rfl rfl rfl rfl ?_)
      refine dn ?_
      refine blockQ_n ?_
      refine seqQ_n ?_
      refine hw_reg1 ?_
      refine dp rfl (pop_add64 rfl rfl (by omega) (by omega)) ?_
      refine dp rfl (pop_move rfl) ?_
      refine dn ?_
      refine ⟨k + 1, ⟨by omega, ?_, ?_⟩, by dsimp only; omega, ⟨rfl, ?_, trivial⟩, (by repeat (first | exact keeps_refl | refine keeps_upd rfl ?_ | refine keeps_loop rfl rfl ?_)), ?_⟩
      ·rw [hg, playsGo_ne (by simpa using h6) (fun hk0 => by have hz := h8; rw [byNo_flip] at hz; simp_all; try omega)]
      ·intro y hy
       rw [take_snoc' hx] at hy
       rcases List.mem_append.1 hy with hy | hy
       ·exact hok y hy
       ·rw [List.mem_singleton.1 hy]; simpa using h6
      ·rw [chkSt_snoc hx, ← chk_ref hok]; exact congrArg (fun b => some (HVal.bool b)) (by cases (chkSt (l.take k)).c <;> simp)
      ·exact perm_eq (by dsimp only; rw [chkSt_snoc hx]; rfl)
   ·try simp at h4
    have hnk : l.length ≤ k := by omega
    obtain rfl : k = l.length := by omega
    rw [drop_all (Nat.le_refl _)] at hg
    rw [List.take_length]
    refine hw_exit ?_
    refine seqQ_x ?_
    refine loopQ_x ?_
    refine blockQ_eq ?_
    refine seqQ_n ?_
    refine hw_seq ?_
    refine hw_block ?_
    have e1 : (sk (mset (chkSt l).S)).length = (chkSt l).S.length := by simp [sk, mset]
    have e2 : (sk (em (HVal.int .i64) (chkSt l).W)).length = (chkSt l).W.length := by simp [sk]
    refine hw_reg ?_
    refine dp rfl (pop_move rfl) ?_
    refine de rfl (eop_maplen (i := 1) ty63 rfl rfl ?_)
    refine dp rfl (pop_gtr rfl rfl) ?_
    refine dp rfl (pop_move rfl) ?_
    refine dg rfl rfl (fun hc => ⟨_, OpenTo.refl _, pop_move rfl⟩) ?_
    refine dgl rfl rfl (fun hc => ⟨_, OpenTo.upd (t := 69) rfl (hc) (OpenTo.refl _), eop_maplen (i := 0) ty64 rfl rfl ⟨rfl, rfl⟩⟩) ?_
    refine dg rfl rfl (fun hc => ⟨_, OpenTo.upd (t := 70) rfl (hc) (OpenTo.refl _), pop_gtr rfl rfl⟩) ?_
    refine dp rfl (pop_picko rfl (.inl rfl) (.inr ⟨_, rfl, fun h => by simp_all⟩)) ?_
    refine dp rfl (pop_assign rfl) ?_
    refine dn ?_
    refine hw_cond rfl (fun h9 => ?_) (fun h10 => ?_)
    ·try simp at h9
     refine hw_reg ?_
     refine dp rfl (pop_assign rfl) ?_
     refine dn ?_
     refine hw_ret ?_
     refine ret_g Ghost.clear rfl ⟨?_, rfl⟩
     show HVal.int .i64 _ = _
     (rw [playsE_tail (by omega) hg, playsTail, if_pos (by omega)]; done)
    ·try simp at h10
     refine hw_reg ?_
     refine dp rfl (pop_move rfl) ?_
     refine dp rfl (pop_assign rfl) ?_
     refine dn ?_
     refine hw_cond rfl (fun h11 => ?_) (fun h12 => ?_)
     ·try simp at h11
      refine hw_reg ?_
      refine dp rfl (pop_assign rfl) ?_
      refine dn ?_
      refine hw_ret ?_
      refine ret_g Ghost.clear rfl ⟨?_, rfl⟩
      show HVal.int .i64 _ = _
      (rw [playsE_tail (by omega) hg, playsTail, if_neg (by omega), if_pos (by assumption)]; done)
     ·try simp at h12
      refine hw_skip ?_
      refine blockQ_n ?_
      refine seqQ_n ?_
      refine hw_reg ?_
      refine dp rfl (pop_assign rfl) ?_
      refine dn ?_
      refine hw_ret ?_
      refine ret_g Ghost.clear rfl ⟨?_, rfl⟩
      show HVal.int .i64 _ = _
      (rw [playsE_tail (by omega) hg, playsTail, if_neg (by omega), if_neg (by simp_all)]; done)

/-- benchwarmer/benchref1.takes$1 -/
theorem c_benchref1_takes_1 [Tracks] {y x : Play} {n : Int}  : ConP Tryz.prog 101 [ePlay y, .vptr (hcells (ePlay x)) 0, .vptr [.int .i64 n] 0] (.bool (takesB [] n x y)) := by
 refine Con.of_body Tryz.func101 rfl Tryz.ntmps101 rfl rfl ?_
 refine hw_reg ?_
 refine dp rfl (pop_box rfl rfl) ?_
 refine dp rfl (pop_assign rfl) ?_
 refine dn ?_
 refine hw_reg ?_
 refine dp rfl (pop_fieldAddr ty30 rfl ty9 (by decide) rfl) ?_
 refine dp rfl (pop_load ty9 rfl rfl rfl) ?_
 refine dp rfl (pop_fieldAddr ty30 rfl ty9 (by decide) rfl) ?_
 refine dp rfl (pop_load ty9 rfl rfl rfl) ?_
 refine dp rfl (pop_eqls rfl rfl) ?_
 refine dp rfl (pop_move rfl) ?_
 refine dg rfl rfl (fun hc => ⟨_, OpenTo.refl _, pop_fieldAddr ty30 rfl ty3 (by decide) rfl⟩) ?_
 refine dg rfl rfl (fun hc => ⟨_, OpenTo.upd (t := 11) rfl (hc) (OpenTo.refl _), pop_load ty3 rfl rfl rfl⟩) ?_
 refine dg rfl rfl (fun hc => ⟨_, OpenTo.refl _, pop_fieldAddr ty30 rfl ty3 (by decide) rfl⟩) ?_
 refine dg rfl rfl (fun hc => ⟨_, OpenTo.upd (t := 13) rfl (hc) (OpenTo.refl _), pop_load ty3 rfl rfl rfl⟩) ?_
 refine dg rfl rfl (fun hc => ⟨_, OpenTo.upd (t := 14) rfl (hc) (OpenTo.upd (t := 12) rfl (hc) (OpenTo.refl _)), pop_eql rfl rfl⟩) ?_
 refine dp rfl (pop_picko rfl (.inr ⟨_, rfl, fun h => by simp_all⟩) (.inl rfl)) ?_
 refine dp rfl (pop_move rfl) ?_
 refine dg rfl rfl (fun hc => ⟨_, OpenTo.refl _, pop_fieldAddr ty30 rfl ty3 (by decide) rfl⟩) ?_
 refine dg rfl rfl (fun hc => ⟨_, OpenTo.upd (t := 18) rfl (hc) (OpenTo.refl _), pop_load ty3 rfl rfl rfl⟩) ?_
 refine dg rfl rfl (fun hc => ⟨_, OpenTo.upd (t := 19) rfl (hc) (OpenTo.refl _), pop_eql rfl rfl⟩) ?_
 refine dp rfl (pop_picko rfl (.inr ⟨_, rfl, fun h => by simp_all⟩) (.inl rfl)) ?_
 refine dp rfl (pop_move rfl) ?_
 refine dg rfl rfl (fun hc => ⟨_, OpenTo.refl _, pop_fieldAddr ty30 rfl ty3 (by decide) rfl⟩) ?_
 refine dg rfl rfl (fun hc => ⟨_, OpenTo.upd (t := 23) rfl (hc) (OpenTo.refl _), pop_load ty3 rfl rfl rfl⟩) ?_
 refine dg rfl rfl (fun hc => ⟨_, OpenTo.refl _, pop_load ty3 rfl rfl rfl⟩) ?_
 refine dg rfl rfl (fun hc => ⟨_, OpenTo.upd (t := 25) rfl (hc) (OpenTo.upd (t := 24) rfl (hc) (OpenTo.refl _)), pop_leq rfl rfl⟩) ?_
 refine dp rfl (pop_picko rfl (.inr ⟨_, rfl, fun h => by simp_all⟩) (.inl rfl)) ?_
 refine dp rfl (pop_move rfl) ?_
 refine dg rfl rfl (fun hc => ⟨_, OpenTo.refl _, pop_fieldAddr ty30 rfl ty9 (by decide) rfl⟩) ?_
 refine dg rfl rfl (fun hc => ⟨_, OpenTo.upd (t := 29) rfl (hc) (OpenTo.refl _), pop_load ty9 rfl rfl rfl⟩) ?_
 refine dg rfl rfl (fun hc => ⟨_, OpenTo.refl _, pop_fieldAddr ty30 rfl ty9 (by decide) rfl⟩) ?_
 refine dg rfl rfl (fun hc => ⟨_, OpenTo.upd (t := 31) rfl (hc) (OpenTo.refl _), pop_load ty9 rfl rfl rfl⟩) ?_
 refine dg rfl rfl (fun hc => ⟨_, OpenTo.upd (t := 32) rfl (hc) (OpenTo.upd (t := 30) rfl (hc) (OpenTo.refl _)), pop_eqls rfl rfl⟩) ?_
 refine dp rfl (pop_picko rfl (.inr ⟨_, rfl, fun h => by simp_all⟩) (.inl rfl)) ?_
 refine dp rfl (pop_move rfl) ?_
 refine dg rfl rfl (fun hc => ⟨_, OpenTo.refl _, pop_fieldAddr ty30 rfl ty9 (by decide) rfl⟩) ?_
 refine dg rfl rfl (fun hc => ⟨_, OpenTo.upd (t := 36) rfl (hc) (OpenTo.refl _), pop_load ty9 rfl rfl rfl⟩) ?_
 refine dg rfl rfl (fun hc => ⟨_, OpenTo.refl _, pop_fieldAddr ty30 rfl ty9 (by decide) rfl⟩) ?_
 refine dg rfl rfl (fun hc => ⟨_, OpenTo.upd (t := 38) rfl (hc) (OpenTo.refl _), pop_load ty9 rfl rfl rfl⟩) ?_
 refine dg rfl rfl (fun hc => ⟨_, OpenTo.upd (t := 39) rfl (hc) (OpenTo.upd (t := 37) rfl (hc) (OpenTo.refl _)), pop_eqls rfl rfl⟩) ?_
 refine dp rfl (pop_picko rfl (.inr ⟨_, rfl, fun h => by simp_all⟩) (.inl rfl)) ?_
 refine dp rfl (pop_move rfl) ?_
 refine dg rfl rfl (fun hc => ⟨_, OpenTo.refl _, pop_fieldAddr ty30 rfl ty9 (by decide) rfl⟩) ?_
 refine dg rfl rfl (fun hc => ⟨_, OpenTo.upd (t := 43) rfl (hc) (OpenTo.refl _), pop_load ty9 rfl rfl rfl⟩) ?_
 refine dg rfl rfl (fun hc => ⟨_, OpenTo.refl _, pop_fieldAddr ty30 rfl ty9 (by decide) rfl⟩) ?_
 refine dg rfl rfl (fun hc => ⟨_, OpenTo.upd (t := 45) rfl (hc) (OpenTo.refl _), pop_load ty9 rfl rfl rfl⟩) ?_
 refine dg rfl rfl (fun hc => ⟨_, OpenTo.upd (t := 46) rfl (hc) (OpenTo.upd (t := 44) rfl (hc) (OpenTo.refl _)), pop_eqls rfl rfl⟩) ?_
 refine dp rfl (pop_picko rfl (.inr ⟨_, rfl, fun h => by simp_all⟩) (.inl rfl)) ?_
 refine dp rfl (pop_assign rfl) ?_
 refine dn ?_
 refine hw_ret ?_
 refine ret_p rfl ?_
 show HVal.bool _ = _
 unfold takesB
 cases y.Source == x.Source <;> cases y.No == x.Undo <;> cases y.Undo == 0 <;> cases y.Match == x.Match <;> cases y.Player == x.Player <;> cases y.Stat == x.Stat <;> simp_all

/-- benchwarmer/benchref1.takes -/
theorem c_benchref1_takes [Tracks] {l : List Play} {i : Nat} {x : Play} {n : Int} (hl : l.length ≤ 1000000) (hx : l[i]? = some x) : ConP Tryz.prog 74 [ePlays l, .int .i64 (i : Int), .int .i64 n] (.int .i64 (takesI l x n)) := by
 refine Con.of_body Tryz.func74 rfl Tryz.ntmps74 rfl rfl ?_
 refine hw_reg ?_
 refine dp rfl (pop_box rfl rfl) ?_
 refine dp rfl (pop_assign rfl) ?_
 refine dn ?_
 refine hw_reg ?_
 refine dp rfl (pop_move rfl) ?_
 refine dp rfl (pop_move rfl) ?_
 refine dp rfl (pop_idx (j := i) (a := x) ty26 ty30 rfl rfl rfl hx) ?_
 refine dp rfl (pop_loadw ty30 rfl rfl rfl rfl) ?_
 refine de rfl (eop_alloc ty30 rfl fun b7 => ?_)
 refine de0 (eop_storew ty30 rfl rfl rfl rfl rfl ?_)
 refine dn ?_
 refine hw_ghost (Ghost.fc0 7 rfl) ?_
 refine hw_seq ?_
 refine hw_reg ?_
 refine dp rfl (pop_fieldAddr ty30 rfl ty3 (by decide) rfl) ?_
 refine dp rfl (pop_load ty3 rfl rfl rfl) ?_
 refine dp rfl (pop_eql rfl rfl) ?_
 refine dp rfl (pop_move rfl) ?_
 refine dg rfl rfl (fun hc => ⟨_, OpenTo.refl _, pop_fieldAddr ty30 rfl ty3 (by decide) rfl⟩) ?_
 refine dg rfl rfl (fun hc => ⟨_, OpenTo.upd (t := 16) rfl (hc) (OpenTo.refl _), pop_load ty3 rfl rfl rfl⟩) ?_
 refine dg rfl rfl (fun hc => ⟨_, OpenTo.refl _, pop_load ty3 rfl rfl rfl⟩) ?_
 refine dg rfl rfl (fun hc => ⟨_, OpenTo.upd (t := 18) rfl (hc) (OpenTo.upd (t := 17) rfl (hc) (OpenTo.refl _)), pop_gtr rfl rfl⟩) ?_
 refine dp rfl (pop_picko rfl (.inl rfl) (.inr ⟨_, rfl, fun h => by simp_all⟩)) ?_
 refine dn ?_
 refine hw_cond rfl (fun h1 => ?_) (fun h2 => ?_)
 ·try simp at h1
  refine hw_reg ?_
  refine dp rfl (pop_assign rfl) ?_
  refine dn ?_
  refine hw_ret ?_
  refine ret_p rfl ?_
  show HVal.int .i64 _ = _
  (rw [takesI, if_pos (by simpa using h1)]; done)
 ·try simp at h2
  refine hw_skip ?_
  refine seqQ_n ?_
  refine hw_reg ?_
  refine dp rfl (pop_move rfl) ?_
  refine dp rfl (pop_makeFunc rfl rfl) ?_
  refine dp rfl (pop_call ca41 rfl (WeakL.refl _) (c_slices_IndexFunc_api_Play_api_Play (l := l) (p := takesB l n x) ca101 (fun _ => c_benchref1_takes_1) hl)) ?_
  refine dp rfl (pop_assign rfl) ?_
  refine dn ?_
  refine hw_ret ?_
  refine ret_p rfl ?_
  show HVal.int .i64 _ = _
  (rw [takesI, if_neg (by simpa using h2)]; done)

end Go.Proofs.YtlankmahpaenhaaGreatDoor
end
section
namespace Go.HL
section
variable {α : Type}
def Srt (c : α → α → Int) (l : List α) : Prop := l.Pairwise fun a b => c a b ≤ 0
theorem Cmp.self {c : α → α → Int} (hc : Cmp c fun _ => True) (x : α) : c x x ≤ 0 := by
 have := hc.flip x x trivial trivial; omega
theorem Srt.get {c : α → α → Int} (hc : Cmp c fun _ => True) {l : List α} (h : Srt c l) {i j : Nat} {x y : α} (hij : i ≤ j) (hx : l[i]? = some x) (hy : l[j]? = some y) : c x y ≤ 0 := by
 rcases Nat.lt_or_ge i j with hlt | hge
 ·have h1 := lt_of_get hx
  have h2 := lt_of_get hy
  have := List.pairwise_iff_getElem.1 h i j h1 h2 hlt
  rw [List.getElem?_eq_getElem h1] at hx
  rw [List.getElem?_eq_getElem h2] at hy
  rw [Option.some.inj hx, Option.some.inj hy] at this
  exact this
 ·have e : i = j := by omega
  rw [e, hy] at hx
  rw [Option.some.inj hx]; exact hc.self _
theorem mem_take_get {l : List α} {k : Nat} {z : α} (h : z ∈ l.take k) : ∃ i, i < k ∧ l[i]? = some z := by
 obtain ⟨i, hi⟩ := List.getElem?_of_mem h
 have hik : i < k := by have := lt_of_get hi; rw [List.length_take] at this; omega
 rw [List.getElem?_take_of_lt hik] at hi
 exact ⟨i, hik, hi⟩
theorem mem_drop_get {l : List α} {k : Nat} {z : α} (h : z ∈ l.drop k) : ∃ i, k ≤ i ∧ l[i]? = some z := by
 obtain ⟨i, hi⟩ := List.getElem?_of_mem h
 rw [List.getElem?_drop] at hi
 exact ⟨k + i, by omega, hi⟩
/-- All that goes to the left is at most all that goes to the right. -/
theorem sym_split {c : α → α → Int} (hc : Cmp c fun _ => True) {X Y : List α} {k j : Nat} (hX : Srt c X) (hY : Srt c Y) (hk : k ≤ X.length) (hj : j ≤ Y.length)
 (h1 : ∀ x y, X[k - 1]? = some x → Y[j]? = some y → 0 < k → c x y ≤ 0) (h2 : ∀ x y, Y[j - 1]? = some y → X[k]? = some x → 0 < j → c y x ≤ 0) :
 ∀ z ∈ X.take k ++ Y.take j, ∀ w ∈ X.drop k ++ Y.drop j, c z w ≤ 0 := by
 intro z hz w hw
 rcases List.mem_append.1 hz with hz | hz <;> rcases List.mem_append.1 hw with hw | hw
 ·obtain ⟨i, hi, hz⟩ := mem_take_get hz
  obtain ⟨i', hi', hw⟩ := mem_drop_get hw
  exact hX.get hc (by omega) hz hw
 ·obtain ⟨i, hi, hz⟩ := mem_take_get hz
  obtain ⟨i', hi', hw⟩ := mem_drop_get hw
  have hl := lt_of_get hw
  have a1 := List.getElem?_eq_getElem (l := X) (i := k - 1) (by omega)
  have a2 := List.getElem?_eq_getElem (l := Y) (i := j) (by omega)
  have b1 := hX.get hc (show i ≤ k - 1 by omega) hz a1
  have b2 := h1 _ _ a1 a2 (by omega)
  have b3 := hY.get hc hi' a2 hw
  exact hc.trans _ _ _ trivial trivial trivial (hc.trans _ _ _ trivial trivial trivial b1 b2) b3
 ·obtain ⟨i, hi, hz⟩ := mem_take_get hz
  obtain ⟨i', hi', hw⟩ := mem_drop_get hw
  have hl := lt_of_get hw
  have a1 := List.getElem?_eq_getElem (l := Y) (i := j - 1) (by omega)
  have a2 := List.getElem?_eq_getElem (l := X) (i := k) (by omega)
  have b1 := hY.get hc (show i ≤ j - 1 by omega) hz a1
  have b2 := h2 _ _ a1 a2 (by omega)
  have b3 := hX.get hc hi' a2 hw
  exact hc.trans _ _ _ trivial trivial trivial (hc.trans _ _ _ trivial trivial trivial b1 b2) b3
 ·obtain ⟨i, hi, hz⟩ := mem_take_get hz
  obtain ⟨i', hi', hw⟩ := mem_drop_get hw
  exact hY.get hc (by omega) hz hw
theorem Srt.take {c : α → α → Int} {l : List α} (h : Srt c l) (k : Nat) : Srt c (l.take k) := List.Pairwise.sublist (List.take_sublist k l) h
theorem Srt.drop {c : α → α → Int} {l : List α} (h : Srt c l) (k : Nat) : Srt c (l.drop k) := List.Pairwise.sublist (List.drop_sublist k l) h
theorem Srt.app {c : α → α → Int} {A B : List α} (h1 : Srt c A) (h2 : Srt c B) (h : ∀ x ∈ A, ∀ y ∈ B, c x y ≤ 0) : Srt c (A ++ B) := List.pairwise_append.2 ⟨h1, h2, h⟩
theorem Srt.nil {c : α → α → Int} : Srt c [] := List.Pairwise.nil
/-- Two parts that are merged by themselves. -/
theorem sym_join {c : α → α → Int} (hc : Cmp c fun _ => True) {X Y Z1 Z2 : List α} {k j : Nat} (hX : Srt c X) (hY : Srt c Y) (hk : k ≤ X.length) (hj : j ≤ Y.length)
 (h1 : ∀ x y, X[k - 1]? = some x → Y[j]? = some y → 0 < k → c x y ≤ 0) (h2 : ∀ x y, Y[j - 1]? = some y → X[k]? = some x → 0 < j → c y x ≤ 0)
 (p1 : Z1.Perm (X.take k ++ Y.take j)) (p2 : Z2.Perm (X.drop k ++ Y.drop j)) (s1 : Srt c Z1) (s2 : Srt c Z2) : (Z1 ++ Z2).Perm (X ++ Y) ∧ Srt c (Z1 ++ Z2) := by
 refine ⟨?_, s1.app s2 fun x hx y hy => sym_split hc hX hY hk hj h1 h2 x (p1.mem_iff.1 hx) y (p2.mem_iff.1 hy)⟩
 refine (p1.append p2).trans ?_
 have e1 : X.take k ++ Y.take j ++ (X.drop k ++ Y.drop j) = X.take k ++ (Y.take j ++ X.drop k) ++ Y.drop j := by simp
 have e2 : X ++ Y = X.take k ++ (X.drop k ++ Y.take j) ++ Y.drop j := by
  have h3 := List.take_append_drop k X
  have h4 := List.take_append_drop j Y
  calc X ++ Y = (X.take k ++ X.drop k) ++ (Y.take j ++ Y.drop j) := by rw [h3, h4]
   _ = _ := by simp only [List.append_assoc]
 rw [e1, e2]
 exact ((List.perm_append_comm).append_left _).append_right _
/-- One element is put into a sorted list, from the left. -/
theorem one_left {c : α → α → Int} (hc : Cmp c fun _ => True) {x : α} {Y : List α} {j : Nat} (hY : Srt c Y) (hj : j ≤ Y.length) (h1 : ∀ y, Y[j]? = some y → c x y ≤ 0) (h2 : ∀ y, Y[j - 1]? = some y → 0 < j → c y x ≤ 0) :
 (Y.take j ++ x :: Y.drop j).Perm ([x] ++ Y) ∧ Srt c (Y.take j ++ x :: Y.drop j) := by
 have hX : Srt c [x] := List.pairwise_singleton _ _
 have key := sym_join (k := 0) (Z1 := Y.take j) (Z2 := x :: Y.drop j) hc hX hY (Nat.zero_le _) hj (fun _ _ _ _ h => absurd h (Nat.lt_irrefl _)) (fun x' y hy hx' h => by
  simp at hx'; subst hx'; exact h2 y hy h) (by simp) (by simp) (hY.take j) ?_
 ·exact key
 ·refine List.pairwise_cons.2 ⟨fun y hy => ?_, hY.drop j⟩
  obtain ⟨i, hi, hy⟩ := mem_drop_get hy
  have hl := lt_of_get hy
  have a2 := List.getElem?_eq_getElem (l := Y) (i := j) (by omega)
  exact hc.trans _ _ _ trivial trivial trivial (h1 _ a2) (hY.get hc hi a2 hy)
/-- One element is put into a sorted list, from the right. -/
theorem one_right {c : α → α → Int} (hc : Cmp c fun _ => True) {y : α} {X : List α} {k : Nat} (hX : Srt c X) (hk : k ≤ X.length) (h1 : ∀ x, X[k - 1]? = some x → 0 < k → c x y ≤ 0) (h2 : ∀ x, X[k]? = some x → c y x ≤ 0) :
 (X.take k ++ y :: X.drop k).Perm (X ++ [y]) ∧ Srt c (X.take k ++ y :: X.drop k) := by
 refine ⟨?_, ?_⟩
 ·have e : X ++ [y] = X.take k ++ (X.drop k ++ [y]) := by rw [← List.append_assoc, List.take_append_drop]
  rw [e]
  exact (List.perm_append_comm (l₁ := [y]) (l₂ := X.drop k)).append_left _
 ·refine (hX.take k).app (List.pairwise_cons.2 ⟨fun x hx => ?_, hX.drop k⟩) fun z hz w hw => ?_
  ·obtain ⟨i, hi, hx⟩ := mem_drop_get hx
   have hl := lt_of_get hx
   have a2 := List.getElem?_eq_getElem (l := X) (i := k) (by omega)
   exact hc.trans _ _ _ trivial trivial trivial (h2 _ a2) (hX.get hc hi a2 hx)
  ·obtain ⟨i, hi, hz⟩ := mem_take_get hz
   have hl := lt_of_get hz
   rcases List.mem_cons.1 hw with rfl | hw
   ·have a1 := List.getElem?_eq_getElem (l := X) (i := k - 1) (by omega)
    exact hc.trans _ _ _ trivial trivial trivial (hX.get hc (show i ≤ k - 1 by omega) hz a1) (h1 _ a1 (by omega))
   ·obtain ⟨i', hi', hw⟩ := mem_drop_get hw
    exact hX.get hc (by omega) hz hw
end
end Go.HL
end
section
namespace Go.HL
section
variable {α : Type} {c : α → α → Int}
/-- Each block of so many elements is sorted. -/
def Blk (c : α → α → Int) (bs : Nat) (l : List α) : Prop := ∀ q, Srt c ((l.drop (bs * q)).take bs)
theorem Blk.all {bs : Nat} {l : List α} (h : Blk c bs l) (hl : l.length ≤ bs) : Srt c l := by
 have := h 0
 rw [Nat.mul_zero, List.drop_zero, List.take_of_length_le hl] at this
 exact this
theorem Blk.nil {bs : Nat} : Blk c bs [] := fun q => by simp [Srt.nil]
theorem Blk.add {bs k : Nat} {Z W : List α} (h : Blk c bs Z) (hZ : Z.length = bs * k) (hW : Srt c W) (hl : W.length ≤ bs) : Blk c bs (Z ++ W) := by
 intro q
 rcases Nat.lt_trichotomy q k with hq | hq | hq
 ·have h1 : bs * q + bs ≤ Z.length := by rw [hZ, ← Nat.mul_succ]; exact Nat.mul_le_mul_left bs hq
  rw [List.drop_append_of_le_length (by omega), List.take_append_of_le_length (by rw [List.length_drop]; omega)]
  exact h q
 ·rw [hq, ← hZ, List.drop_left, List.take_of_length_le hl]; exact hW
 ·have h1 : Z.length + bs ≤ bs * q := by rw [hZ, ← Nat.mul_succ]; exact Nat.mul_le_mul_left bs hq
  rw [List.drop_of_length_le (by rw [List.length_append]; omega)]
  simp [Srt.nil]
theorem Blk.at {bs q a : Nat} {l : List α} (h : Blk c bs l) (ha : a = bs * q) : Srt c ((l.drop a).take bs) := by rw [ha]; exact h q
theorem Blk.last {bs q a : Nat} {l : List α} (h : Blk c bs l) (ha : a = bs * q) (hl : l.length ≤ a + bs) : Srt c (l.drop a) := by
 have := h.at ha
 rw [List.take_of_length_le (by rw [List.length_drop]; omega)] at this
 exact this
/-- Two parts of one length, of which the first so many elements have changed places. -/
def swR (A X B Y C : List α) (k : Nat) : List α := A ++ (Y.take k ++ X.drop k) ++ (B ++ (X.take k ++ Y.drop k) ++ C)
theorem swR_zero (A X B Y C : List α) : swR A X B Y C 0 = A ++ X ++ B ++ Y ++ C := by simp [swR]
theorem swR_end {A X B Y C : List α} (h : X.length = Y.length) : swR A X B Y C X.length = A ++ Y ++ B ++ X ++ C := by
 unfold swR
 rw [List.take_of_length_le (Nat.le_of_eq h.symm), List.drop_of_length_le (Nat.le_refl _), List.take_of_length_le (Nat.le_refl _), List.drop_of_length_le (Nat.le_of_eq h.symm)]
 simp
theorem swR_form {A X B Y C : List α} {k : Nat} {x y : α} (hx : X[k]? = some x) (hy : Y[k]? = some y) :
 swR A X B Y C k = (A ++ Y.take k) ++ x :: ((X.drop (k + 1) ++ B ++ X.take k) ++ y :: (Y.drop (k + 1) ++ C)) := by
 unfold swR; rw [drop_cons hx, drop_cons hy]; simp
theorem swR_step {A X B Y C : List α} {k : Nat} {x y : α} (hx : X[k]? = some x) (hy : Y[k]? = some y) :
 swR A X B Y C (k + 1) = (A ++ Y.take k) ++ y :: ((X.drop (k + 1) ++ B ++ X.take k) ++ x :: (Y.drop (k + 1) ++ C)) := by
 unfold swR; rw [take_snoc' hx, take_snoc' hy]; simp
theorem two_get1 {P Q R : List α} {x y : α} : (P ++ x :: (Q ++ y :: R))[P.length]? = some x := by simp
theorem two_get2 {P Q R : List α} {x y : α} {j : Nat} (hj : j = P.length + 1 + Q.length) : (P ++ x :: (Q ++ y :: R))[j]? = some y := by
 have e : P ++ x :: (Q ++ y :: R) = (P ++ x :: Q) ++ y :: R := by simp
 have hl : (P ++ x :: Q).length = j := by simp; omega
 rw [e, ← hl]; simp
theorem two_set {P Q R : List α} {x y x' y' : α} {i j : Nat} (hi : i = P.length) (hj : j = P.length + 1 + Q.length) : ((P ++ x :: (Q ++ y :: R)).set i x').set j y' = P ++ x' :: (Q ++ y' :: R) := by
 subst hi
 have e1 : (P ++ x :: (Q ++ y :: R)).set P.length x' = P ++ x' :: (Q ++ y :: R) := by rw [List.set_append_right _ _ (Nat.le_refl _)]; simp
 have e : P ++ x' :: (Q ++ y :: R) = (P ++ x' :: Q) ++ y :: R := by simp
 have hl : (P ++ x' :: Q).length = j := by simp; omega
 rw [e1, e, ← hl, List.set_append_right _ _ (Nat.le_refl _)]; simp
theorem swR_get1 {A X B Y C : List α} {k : Nat} {x y : α} (hx : X[k]? = some x) (hy : Y[k]? = some y) : (swR A X B Y C k)[A.length + k]? = some x := by
 have hk := lt_of_get hy
 have e : A.length + k = (A ++ Y.take k).length := by rw [List.length_append, List.length_take]; omega
 rw [swR_form hx hy, e]; exact two_get1
theorem swR_pos {A X B Y C : List α} {k : Nat} {x y : α} (hx : X[k]? = some x) (hy : Y[k]? = some y) : A.length + X.length + B.length + k = (A ++ Y.take k).length + 1 + (X.drop (k + 1) ++ B ++ X.take k).length := by
 have hk := lt_of_get hy
 have hk' := lt_of_get hx
 simp only [List.length_append, List.length_take, List.length_drop]; omega
theorem swR_get2 {A X B Y C : List α} {k : Nat} {x y : α} (hx : X[k]? = some x) (hy : Y[k]? = some y) : (swR A X B Y C k)[A.length + X.length + B.length + k]? = some y := by
 rw [swR_form hx hy]; exact two_get2 (swR_pos (C := C) hx hy)
theorem swR_get2' {A X B Y C : List α} {k : Nat} {x y z : α} (hx : X[k]? = some x) (hy : Y[k]? = some y) : ((swR A X B Y C k).set (A.length + k) z)[A.length + X.length + B.length + k]? = some y := by
 have hk' := lt_of_get hx
 rw [List.getElem?_set_ne (by omega)]; exact swR_get2 hx hy
theorem swR_set {A X B Y C : List α} {k : Nat} {x y : α} (hx : X[k]? = some x) (hy : Y[k]? = some y) : ((swR A X B Y C k).set (A.length + k) y).set (A.length + X.length + B.length + k) x = swR A X B Y C (k + 1) := by
 have hk := lt_of_get hy
 have e : A.length + k = (A ++ Y.take k).length := by rw [List.length_append, List.length_take]; omega
 rw [swR_form hx hy, swR_step hx hy]
 exact two_set e (swR_pos (C := C) hx hy)
/-! one element wanders -/
def wan (A Y : List α) (x : α) (C : List α) (j : Nat) : List α := A ++ (Y.take j ++ x :: Y.drop j) ++ C
theorem wan_zero (A Y C : List α) (x : α) : wan A Y x C 0 = A ++ [x] ++ Y ++ C := by simp [wan]
theorem wan_end (A Y C : List α) (x : α) : wan A Y x C Y.length = A ++ Y ++ [x] ++ C := by simp [wan]
theorem wan_form {A Y C : List α} {x y : α} {j : Nat} (hy : Y[j]? = some y) : wan A Y x C j = (A ++ Y.take j) ++ x :: ([] ++ y :: (Y.drop (j + 1) ++ C)) := by
 unfold wan; rw [drop_cons hy]; simp
theorem wan_step {A Y C : List α} {x y : α} {j : Nat} (hy : Y[j]? = some y) : wan A Y x C (j + 1) = (A ++ Y.take j) ++ y :: ([] ++ x :: (Y.drop (j + 1) ++ C)) := by
 unfold wan; rw [take_snoc' hy]; simp
theorem wan_len {A Y C : List α} {x y : α} {j : Nat} (hy : Y[j]? = some y) : A.length + j = (A ++ Y.take j).length := by
 have := lt_of_get hy
 rw [List.length_append, List.length_take]; omega
theorem wan_get1 {A Y C : List α} {x y : α} {j : Nat} (hy : Y[j]? = some y) : (wan A Y x C j)[A.length + j]? = some x := by
 rw [wan_form hy, wan_len (A := A) (C := C) (x := x) hy]; exact two_get1
theorem wan_get2 {A Y C : List α} {x y : α} {j : Nat} (hy : Y[j]? = some y) : (wan A Y x C j)[A.length + j + 1]? = some y := by
 rw [wan_form hy, wan_len (A := A) (C := C) (x := x) hy]; exact two_get2 rfl
/-- To the right. -/
theorem wan_set {A Y C : List α} {x y : α} {j : Nat} (hy : Y[j]? = some y) : ((wan A Y x C j).set (A.length + j) y).set (A.length + j + 1) x = wan A Y x C (j + 1) := by
 rw [wan_form hy, wan_step hy, wan_len (A := A) (C := C) (x := x) hy]; exact two_set rfl rfl
theorem wan_get2' {A Y C : List α} {x y z : α} {j : Nat} (hy : Y[j]? = some y) : ((wan A Y x C j).set (A.length + j) z)[A.length + j + 1]? = some y := by
 rw [List.getElem?_set_ne (by omega)]; exact wan_get2 hy
/-- To the left: the element is at j + 1, the one ahead of it at j. -/
theorem wan_at {A Y C : List α} {x y : α} {j : Nat} (hy : Y[j]? = some y) : (wan A Y x C (j + 1))[A.length + j + 1]? = some x ∧ (wan A Y x C (j + 1))[A.length + j]? = some y := by
 rw [wan_step hy, wan_len (A := A) (C := C) (x := x) hy]
 exact ⟨two_get2 rfl, two_get1⟩
theorem wan_at' {A Y C : List α} {x y z : α} {j : Nat} (hy : Y[j]? = some y) : ((wan A Y x C (j + 1)).set (A.length + j + 1) z)[A.length + j]? = some y := by
 rw [List.getElem?_set_ne (by omega)]; exact (wan_at hy).2
theorem wan_back {A Y C : List α} {x y : α} {j : Nat} (hy : Y[j]? = some y) : ((wan A Y x C (j + 1)).set (A.length + j + 1) y).set (A.length + j) x = wan A Y x C j := by
 have h := two_set (P := A ++ Y.take j) (Q := []) (R := Y.drop (j + 1) ++ C) (x := y) (y := x) (x' := x) (y' := y) (i := A.length + j) (j := A.length + j + 1) (wan_len (C := C) (x := x) hy) (by rw [wan_len (A := A) (C := C) (x := x) hy]; rfl)
 rw [wan_step hy, wan_form hy, List.set_comm _ _ (by omega)]
 exact h
theorem last_app {A D : List α} {x : α} (h : 0 < D.length) : ((A ++ D)[(A ++ D).length - 1]?).getD x = (D[D.length - 1]?).getD x := by
 rw [List.getElem?_append_right (by rw [List.length_append]; omega)]
 congr 2; rw [List.length_append]; omega
theorem last_app2 {A D : List α} {x : α} (h : 0 < D.length) : ((A ++ D)[A.length + D.length - 1]?).getD x = (D[D.length - 1]?).getD x := by
 have := last_app (A := A) (x := x) h
 rw [List.length_append] at this; exact this
theorem last_idx {A D : List α} {x y : α} : ((A ++ (D ++ [y]))[A.length + (D ++ [y]).length - 1]?).getD x = y := by
 rw [last_app2 (by simp)]; exact getD_snoc
theorem last_get {A D R : List α} {x y : α} : ((A ++ (D ++ [y])) ++ x :: R)[(A ++ (D ++ [y])).length - 1]? = some y := by
 have e : (A ++ (D ++ [y])) ++ x :: R = (A ++ D) ++ y :: x :: R := by simp
 have hl : (A ++ (D ++ [y])).length - 1 = (A ++ D).length := by simp [← Nat.add_assoc]
 rw [e, hl]; simp
theorem ins_win {A D B E C R : List α} {x : α} (h : D ++ x :: (B ++ E) = R) : (A ++ D) ++ x :: (B ++ E ++ C) = A ++ R ++ C := by rw [← h]; simp
theorem isort_srt (hc : Cmp c fun _ => True) (l : List α) : Srt c (isort c l) := isort_sorted hc (fun _ _ => trivial)
/-- A window of a list. -/
theorem win {l : List α} {a m : Nat} : l.drop a = (l.drop a).take m ++ l.drop (a + m) := by rw [← List.drop_drop, List.take_append_drop]
theorem take_add' {l : List α} {a m : Nat} : l.take (a + m) = l.take a ++ (l.drop a).take m := List.take_add
theorem sym_cond {A X Y : List α} {d p s1 s2 : Nat} (hc : Cmp c fun _ => True) (hP : ∀ x y, X[p - 1 - A.length]? = some x → Y[d - p]? = some y → s1 < p → ¬ c y x < 0) (hQ : ∀ x y, X[p - A.length]? = some x → Y[d - 1 - p]? = some y → p < s2 → c y x < 0)
 (hs1 : s1 = A.length ∨ d = s1 + Y.length) (hs2 : s2 = A.length + X.length ∨ s2 = d) (hsp : s1 ≤ p) (hps : p ≤ s2) (hpA : A.length ≤ p) :
 (∀ x y, X[p - A.length - 1]? = some x → Y[d - p]? = some y → 0 < p - A.length → c x y ≤ 0) ∧ (∀ x y, Y[d - p - 1]? = some y → X[p - A.length]? = some x → 0 < d - p → c y x ≤ 0) := by
 refine ⟨fun x y h1 h2 h0 => ?_, fun x y h1 h2 h0 => ?_⟩
 ·have hl := lt_of_get h2
  have := hP x y (by rw [show p - 1 - A.length = p - A.length - 1 by omega]; exact h1) h2 (by omega)
  have f1 := hc.flip x y trivial trivial
  have f2 := hc.flip y x trivial trivial
  omega
 ·have hl := lt_of_get h2
  have := hQ x y h2 (by rw [show d - 1 - p = d - p - 1 by omega]; exact h1) (by omega)
  omega
theorem sym_left {X Y : List α} {k j : Nat} (hX : Srt c X) (hY : Srt c Y) (h : k = 0 ∨ j = 0) : Srt c (X.take k ++ Y.take j) := by
 rcases h with rfl | rfl
 ·simpa using hY.take j
 ·simpa using hX.take k
theorem sym_right {X Y : List α} {k j : Nat} (hX : Srt c X) (hY : Srt c Y) (h : X.length ≤ k ∨ Y.length ≤ j) : Srt c (X.drop k ++ Y.drop j) := by
 rcases h with h | h
 ·rw [List.drop_of_length_le h]; exact hY.drop j
 ·rw [List.drop_of_length_le h, List.append_nil]; exact hX.drop k
theorem sym_pre {A X Y C : List α} {k j : Nat} : A ++ X ++ Y ++ C = (A ++ X.take k) ++ X.drop k ++ Y.take j ++ (Y.drop j ++ C) := by
 have h1 := List.take_append_drop k X
 have h2 := List.take_append_drop j Y
 calc A ++ X ++ Y ++ C = A ++ (X.take k ++ X.drop k) ++ (Y.take j ++ Y.drop j) ++ C := by rw [h1, h2]
  _ = _ := by simp only [List.append_assoc]
theorem sym_noswap {A X Y C : List α} {k j : Nat} (h : X.length ≤ k ∨ j = 0) : A ++ X ++ Y ++ C = (A ++ X.take k) ++ Y.take j ++ X.drop k ++ (Y.drop j ++ C) := by
 rcases h with h | rfl
 ·rw [List.drop_of_length_le h, List.take_of_length_le h]
  have := List.take_append_drop j Y
  calc A ++ X ++ Y ++ C = A ++ X ++ (Y.take j ++ Y.drop j) ++ C := by rw [this]
   _ = _ := by simp only [List.append_assoc, List.append_nil, List.nil_append]
 ·have := List.take_append_drop k X
  calc A ++ X ++ Y ++ C = A ++ (X.take k ++ X.drop k) ++ Y ++ C := by rw [this]
   _ = _ := by simp only [List.append_assoc, List.take_zero, List.drop_zero, List.nil_append]
theorem mid_get {A X C : List α} {k : Nat} {x : α} (h : X[k]? = some x) : (A ++ X ++ C)[A.length + k]? = some x := by
 have := lt_of_get h
 rw [List.append_assoc, List.getElem?_append_right (by omega), Nat.add_sub_cancel_left, List.getElem?_append_left this]; exact h
theorem mid_get2 {A X Y C : List α} {k : Nat} {y : α} (h : Y[k]? = some y) : (A ++ X ++ Y ++ C)[A.length + X.length + k]? = some y := by
 have := mid_get (A := A ++ X) (C := C) h
 rw [List.length_append] at this; exact this
theorem mid_get1 {A X Y C : List α} {k : Nat} {x : α} (h : X[k]? = some x) : (A ++ X ++ Y ++ C)[A.length + k]? = some x := by
 have := mid_get (A := A) (C := Y ++ C) h
 rw [← List.append_assoc] at this; exact this
end
end Go.HL
end
section
namespace Go.HL
section
variable {α : Type} [DecidableEq α]
/-- A list without the things that equal the one before (p ahead of the first). -/
def uniqA (p : Option α) : List α → List α
 | [] => []
 | x :: r => if p = some x then uniqA (some x) r else x :: uniqA (some x) r
theorem mem_uniqA : ∀ (l : List α) (p : Option α) (s : α), s ∈ uniqA p l → s ∈ l
 | [], _, s, h => by simp [uniqA] at h
 | x :: r, p, s, h => by
   simp only [uniqA] at h
   split at h
   ·exact List.mem_cons_of_mem _ (mem_uniqA r _ s h)
   ·rcases List.mem_cons.1 h with h | h
    ·subst h; simp
    ·exact List.mem_cons_of_mem _ (mem_uniqA r _ s h)
theorem mem_uniqA' : ∀ (l : List α) (p : Option α) (s : α), s ∈ l → s ∈ uniqA p l ∨ p = some s
 | [], _, _, h => by cases h
 | x :: r, p, s, h => by
   simp only [uniqA]
   rcases List.mem_cons.1 h with rfl | h
   ·split
    ·rename_i e; exact .inr e
    ·exact .inl (by simp)
   ·rcases mem_uniqA' r (some x) s h with q | q
    ·split
     ·exact .inl q
     ·exact .inl (List.mem_cons_of_mem _ q)
    ·cases q
     split
     ·rename_i e; exact .inr e
     ·exact .inl (by simp)
theorem uniqA_snoc (x : α) : ∀ (A : List α) (p : Option α), uniqA p (A ++ [x]) = uniqA p A ++ if (A.getLast?.or p) = some x then [] else [x]
 | [], p => by
   by_cases h : p = some x <;> simp [uniqA, h]
 | y :: A, p => by
   have ih := uniqA_snoc x A (some y)
   have e : ((y :: A).getLast?.or p) = (A.getLast?.or (some y)) := by
    cases A with
    | nil => simp
    | cons z A => simp [List.getLast?_cons_cons, List.getLast?_cons]
   simp only [List.cons_append, uniqA]
   rw [e, ih]
   split <;> simp
theorem uniqA_step {l : List α} {k : Nat} {x y : α} (hx : l[k]? = some x) (hy : l[k - 1]? = some y) (h0 : 0 < k) : uniqA none (l.take (k + 1)) = uniqA none (l.take k) ++ if x = y then [] else [x] := by
 have hk := lt_of_get hx
 rw [take_snoc' hx, uniqA_snoc]
 have e : ((l.take k).getLast?.or none) = some y := by
  rw [List.getLast?_eq_getElem?, List.length_take, Nat.min_eq_left (by omega), List.getElem?_take_of_lt (by omega), hy]; rfl
 rw [e]
 by_cases h : x = y
 ·rw [if_pos h, if_pos (by rw [h])]
 ·rw [if_neg h, if_neg (by simpa using fun q : y = x => h q.symm)]
theorem uniqA_one {l : List α} (h : l.length < 2) : uniqA none l = l := by
 match l, h with
 | [], _ => rfl
 | [x], _ => rfl
structure CmpA (l : List α) (j : Nat) (D : List α) : Prop where
 len : D.length = l.length
 lo : D.take (uniqA none (l.take j)).length = uniqA none (l.take j)
 lt : (uniqA none (l.take j)).length < j
 hi : ∀ i, j ≤ i + 1 → D[i]? = l[i]?
theorem CmpA.start {l : List α} {k : Nat} {x y : α} (hx : l[k]? = some x) (hy : l[k - 1]? = some y) (h0 : 0 < k) (e : x = y) (h : uniqA none (l.take k) = l.take k) : CmpA l (k + 1) l ∧ (uniqA none (l.take (k + 1))).length = k := by
 have hk := lt_of_get hx
 have h1 : uniqA none (l.take (k + 1)) = l.take k := by rw [uniqA_step hx hy h0, if_pos e, h]; simp
 have h2 : (l.take k).length = k := by rw [List.length_take]; omega
 exact ⟨⟨rfl, by rw [h1, h2], by rw [h1, h2]; omega, fun _ _ => rfl⟩, by rw [h1, h2]⟩
theorem CmpA.same {l D : List α} {j : Nat} (h : CmpA l j D) {x y : α} (hx : l[j]? = some x) (hy : l[j - 1]? = some y) (e : x = y) : CmpA l (j + 1) D ∧ (uniqA none (l.take (j + 1))).length = (uniqA none (l.take j)).length := by
 have h0 := h.lt
 have h1 : uniqA none (l.take (j + 1)) = uniqA none (l.take j) := by rw [uniqA_step hx hy (by omega), if_pos e]; simp
 exact ⟨⟨h.len, by rw [h1]; exact h.lo, by rw [h1]; omega, fun i hi => h.hi i (by omega)⟩, by rw [h1]⟩
theorem CmpA.more {l D : List α} {j : Nat} (h : CmpA l j D) {x y : α} (hx : l[j]? = some x) (hy : l[j - 1]? = some y) (e : x ≠ y) : CmpA l (j + 1) (D.set (uniqA none (l.take j)).length x) ∧ (uniqA none (l.take (j + 1))).length = (uniqA none (l.take j)).length + 1 := by
 have h0 := h.lt
 have hl := h.len
 have hj := lt_of_get hx
 have h1 : uniqA none (l.take (j + 1)) = uniqA none (l.take j) ++ [x] := by rw [uniqA_step hx hy (by omega), if_neg e]
 have h2 : (uniqA none (l.take (j + 1))).length = (uniqA none (l.take j)).length + 1 := by rw [h1]; simp
 refine ⟨⟨by simpa using hl, ?_, by omega, fun i hi => ?_⟩, h2⟩
 ·rw [h2, h1]
  have h3 : (D.set (uniqA none (l.take j)).length x)[(uniqA none (l.take j)).length]? = some x := by
   rw [List.getElem?_set_self (by omega)]
  rw [take_snoc' h3, List.take_set_of_le (Nat.le_refl _), h.lo]
 ·rw [List.getElem?_set_ne (by omega)]
  exact h.hi i (by omega)
/-- A sorted list without repeats: all that was there, still sorted, and neighbours differ. -/
theorem uniqA_nb {c : α → α → Int} : ∀ (l : List α) (p : Option α), l.Pairwise (fun x y => c x y ≤ 0) → (∀ q, p = some q → ∀ x ∈ l, c q x ≤ 0) →
 (uniqA p l).Pairwise (fun x y => c x y ≤ 0) ∧ (∀ q, p = some q → ∀ y ∈ uniqA p l, c q y ≤ 0) ∧ ∀ q, p = some q → (uniqA p l)[0]? ≠ some q
 | [], _, _, _ => ⟨by simp [uniqA], fun q _ y hy => by simp [uniqA] at hy, fun q _ => by simp [uniqA]⟩
 | x :: r, p, h, hp => by
   obtain ⟨h1, h2⟩ := List.pairwise_cons.1 h
   obtain ⟨i1, i2, i3⟩ := uniqA_nb r (some x) h2 (fun q e y hy => by cases e; exact h1 y hy)
   simp only [uniqA]
   split
   ·rename_i e
    refine ⟨i1, fun q eq y hy => ?_, fun q eq => ?_⟩
    ·rw [e] at eq; cases eq; exact i2 x rfl y hy
    ·rw [e] at eq; cases eq; exact i3 x rfl
   ·rename_i e
    refine ⟨List.pairwise_cons.2 ⟨fun y hy => i2 x rfl y hy, i1⟩, fun q eq y hy => ?_, fun q eq => ?_⟩
    ·rcases List.mem_cons.1 hy with rfl | hy
     ·exact hp q eq y List.mem_cons_self
     ·exact hp q eq y (List.mem_cons_of_mem _ (mem_uniqA r _ y hy))
    ·intro h9
     have : x = q := by simpa using h9
     exact e (by rw [eq, this])
theorem uniqA_adj {c : α → α → Int} : ∀ (l : List α) (p : Option α), l.Pairwise (fun x y => c x y ≤ 0) → (∀ q, p = some q → ∀ x ∈ l, c q x ≤ 0) → ∀ (i : Nat) (x y : α), (uniqA p l)[i]? = some x → (uniqA p l)[i + 1]? = some y → x ≠ y
 | [], _, _, _, i, x, y, hx, _ => by simp [uniqA] at hx
 | z :: r, p, h, hp, i, x, y, hx, hy => by
   obtain ⟨h1, h2⟩ := List.pairwise_cons.1 h
   have hp' : ∀ q, some z = some q → ∀ w ∈ r, c q w ≤ 0 := fun q e w hw => by cases e; exact h1 w hw
   simp only [uniqA] at hx hy
   split at hx
   ·rename_i e
    rw [if_pos e] at hy
    exact uniqA_adj r (some z) h2 hp' i x y hx hy
   ·rename_i e
    rw [if_neg e] at hy
    cases i with
    | zero =>
      simp at hx hy
      subst hx
      intro hxy
      exact (uniqA_nb r (some z) h2 hp').2.2 z rfl (by rw [hy, ← hxy])
    | succ i =>
      simp at hx hy
      exact uniqA_adj r (some z) h2 hp' i x y hx hy
theorem uniqA_len : ∀ (l : List α) (p : Option α), (uniqA p l).length ≤ l.length
 | [], p => by simp [uniqA]
 | x :: r, p => by
   have := uniqA_len r (some x)
   simp only [uniqA]
   split
   ·simp only [List.length_cons]; omega
   ·simp only [List.length_cons]; omega
theorem slOff_lt2 {cap off sz m : Nat} (h : m < cap) : slOff cap off sz m = off + m * sz := by
 unfold slOff; rw [if_neg (by omega)]
/-! two lists without repeats, each strictly sorted -/
variable {c : α → α → Int}
def cflA (c : α → α → Int) (a b : List α) : Bool := b.any fun x => a.any fun y => decide (c x y = 0) && decide (x ≠ y)
def addA (c : α → α → Int) (a b : List α) : List α := a ++ b.filter fun x => !(a.any fun y => decide (c x y = 0))
def merS (c : α → α → Int) (a b : List α) : List α := isort c (addA c a b)
/-- Neighbours that do not compare as alike make a strict list. -/
theorem strict_adj {β : Type} {c : β → β → Int} (hc : Cmp c fun _ => True) {D : List β} (hs : D.Pairwise fun x y => c x y ≤ 0) (h : ∀ (i : Nat) (x y : β), D[i]? = some x → D[i + 1]? = some y → c x y ≠ 0) : D.Pairwise fun x y => c x y < 0 := by
 refine List.pairwise_iff_getElem.2 fun i j hi hj hij => ?_
 have h1 := List.pairwise_iff_getElem.1 hs i j hi hj hij
 have hi1 : i + 1 < D.length := by omega
 have h2 := h i D[i] D[i + 1] (List.getElem?_eq_getElem hi) (List.getElem?_eq_getElem hi1)
 have h3 := List.pairwise_iff_getElem.1 hs i (i + 1) hi hi1 (by omega)
 rcases Nat.lt_or_ge (i + 1) j with hlt | hge
 ·have h4 := List.pairwise_iff_getElem.1 hs (i + 1) j hi1 hj hlt
  have f1 := hc.flip D[i] D[i + 1] trivial trivial
  have f2 := hc.flip D[i] D[j] trivial trivial
  have f3 := hc.flip D[j] D[i] trivial trivial
  have f4 := hc.flip D[i + 1] D[i] trivial trivial
  rcases Int.lt_or_eq_of_le h1 with e | e
  ·exact e
  ·exfalso
   have := hc.trans D[i + 1] D[j] D[i] trivial trivial trivial h4 (by omega)
   omega
 ·have e : j = i + 1 := by omega
  subst e; omega
theorem strict_uniq (hc : Cmp c fun _ => True) {D : List α} (h : D.Pairwise fun x y => c x y < 0) {x y : α} (hx : x ∈ D) (hy : y ∈ D) (e : c x y = 0) : x = y := by
 obtain ⟨i, hi⟩ := List.getElem?_of_mem hx
 obtain ⟨j, hj⟩ := List.getElem?_of_mem hy
 have hil := lt_of_get hi
 have hjl := lt_of_get hj
 rw [List.getElem?_eq_getElem hil] at hi
 rw [List.getElem?_eq_getElem hjl] at hj
 have ei := Option.some.inj hi
 have ej := Option.some.inj hj
 have f1 := hc.flip x y trivial trivial
 have f2 := hc.flip y x trivial trivial
 rcases Nat.lt_trichotomy i j with h' | h' | h'
 ·have := List.pairwise_iff_getElem.1 h i j hil hjl h'
  rw [ei, ej] at this; omega
 ·subst h'; rw [← ei, ← ej]
 ·have := List.pairwise_iff_getElem.1 h j i hjl hil h'
  rw [ei, ej] at this; omega
theorem cflA_iff {a b : List α} : cflA c a b = true ↔ ∃ x ∈ b, ∃ y ∈ a, c x y = 0 ∧ x ≠ y := by
 unfold cflA
 simp only [List.any_eq_true, Bool.and_eq_true, decide_eq_true_eq]
theorem mem_addA {β : Type} {c : β → β → Int} {a b : List β} {x : β} : x ∈ addA c a b → x ∈ a ∨ x ∈ b := fun h => by
 rcases List.mem_append.1 h with h | h
 ·exact .inl h
 ·exact .inr (List.mem_filter.1 h).1
theorem addA_nodup {β : Type} {c : β → β → Int} (hc : Cmp c fun _ => True) {a b : List β} (ha : a.Pairwise fun x y => c x y < 0) (hb : b.Pairwise fun x y => c x y < 0) : (addA c a b).Pairwise fun x y => c x y ≠ 0 := by
 refine List.pairwise_append.2 ⟨ha.imp fun h => by omega, (hb.filter _).imp fun h => by omega, fun x hx y hy e => ?_⟩
 have h1 := (List.mem_filter.1 hy).2
 have f1 := hc.flip x y trivial trivial
 have f2 := hc.flip y x trivial trivial
 have h2 : c y x = 0 := by omega
 have h3 : (a.any fun z => decide (c y z = 0)) = true := List.any_eq_true.2 ⟨x, hx, by simpa using h2⟩
 rw [h3] at h1; cases h1
/-- What sorting the two together, leaving out repeats and looking at neighbours tells. -/
theorem mer_some (hc : Cmp c fun _ => True) {a b S : List α} (ha : a.Pairwise fun x y => c x y < 0) (hb : b.Pairwise fun x y => c x y < 0) (hp : S.Perm (a ++ b)) (hs : Srt c S) {i : Nat} {x y : α} (hx : (uniqA none S)[i]? = some x) (hy : (uniqA none S)[i + 1]? = some y) (e : c x y = 0) : cflA c a b = true := by
 have hne := uniqA_adj S none hs (fun q e => by cases e) i x y hx hy
 have hx' := hp.mem_iff.1 (mem_uniqA _ _ _ (List.mem_of_getElem? hx))
 have hy' := hp.mem_iff.1 (mem_uniqA _ _ _ (List.mem_of_getElem? hy))
 have f1 := hc.flip x y trivial trivial
 have f2 := hc.flip y x trivial trivial
 rw [cflA_iff]
 rcases List.mem_append.1 hx' with h1 | h1 <;> rcases List.mem_append.1 hy' with h2 | h2
 ·exact absurd (strict_uniq hc ha h1 h2 e) hne
 ·exact ⟨y, h2, x, h1, by omega, fun q => hne q.symm⟩
 ·exact ⟨x, h1, y, h2, e, hne⟩
 ·exact absurd (strict_uniq hc hb h1 h2 e) hne
theorem mer_none (hc : Cmp c fun _ => True) {a b S : List α} (ha : a.Pairwise fun x y => c x y < 0) (hb : b.Pairwise fun x y => c x y < 0) (hp : S.Perm (a ++ b)) (hs : Srt c S) (h : ∀ (i : Nat) (x y : α), (uniqA none S)[i]? = some x → (uniqA none S)[i + 1]? = some y → c x y ≠ 0) :
 cflA c a b = false ∧ uniqA none S = merS c a b := by
 have hD := strict_adj hc (uniqA_nb S none hs (fun q e => by cases e)).1 h
 have hmem : ∀ z, z ∈ uniqA none S ↔ z ∈ a ∨ z ∈ b := fun z => by
  constructor
  ·intro hz; exact List.mem_append.1 (hp.mem_iff.1 (mem_uniqA _ _ _ hz))
  ·intro hz
   rcases mem_uniqA' S none z (hp.mem_iff.2 (List.mem_append.2 hz)) with q | q
   ·exact q
   ·cases q
 have hno : ∀ x ∈ b, ∀ y ∈ a, c x y = 0 → x = y := fun x hx y hy e => strict_uniq hc hD ((hmem x).2 (.inr hx)) ((hmem y).2 (.inl hy)) e
 refine ⟨?_, ?_⟩
 ·rw [Bool.eq_false_iff]
  intro h9
  obtain ⟨x, hx, y, hy, e1, e2⟩ := cflA_iff.1 h9
  exact e2 (hno x hx y hy e1)
 ·have hmem2 : ∀ z, z ∈ addA c a b ↔ z ∈ a ∨ z ∈ b := fun z => by
   constructor
   ·exact mem_addA
   ·rintro (hz | hz)
    ·exact List.mem_append_left _ hz
    ·by_cases hq : (a.any fun y => decide (c z y = 0)) = true
     ·obtain ⟨y, hy, e⟩ := List.any_eq_true.1 hq
      rw [hno z hz y hy (by simpa using e)]
      exact List.mem_append_left _ hy
     ·exact List.mem_append_right _ (List.mem_filter.2 ⟨hz, by simpa using hq⟩)
  have hn1 : (uniqA none S).Nodup := hD.imp fun {x y} hxy e => by
   subst e
   have := hc.flip x x trivial trivial; omega
  have hn2 : (addA c a b).Nodup := (addA_nodup hc ha hb).imp fun {x y} hxy e => by
   subst e
   have := hc.flip x x trivial trivial; omega
  have hperm : (uniqA none S).Perm (addA c a b) := (List.perm_ext_iff_of_nodup hn1 hn2).2 fun z => by rw [hmem, hmem2]
  refine isort_of_sorted hc (fun x y hx hy e => ?_) hperm (hD.imp fun {x y} hxy => ?_)
  ·exact strict_uniq hc hD ((hperm.mem_iff).2 hx) ((hperm.mem_iff).2 hy) e
  ·have f1 := hc.flip x y trivial trivial
   have f2 := hc.flip y x trivial trivial
   omega
end
end Go.HL
end
section
namespace Go.HL
structure MendS where
 Player : Str
 Week : Int
 Stat : Str
 Count : Int
 At : Int
 Version : Int
 By : Str
abbrev Plc := Str × Int
section
variable {α : Type}
theorem cmpI_by (f : α → Int) : Cmp (fun a b => cmpI (f a) (f b)) fun _ => True where
 flip x y _ _ := by rw [cmpI_flip (f x) (f y)]; omega
 trans x y z _ _ _ h1 h2 := by rw [cmpI_le] at *; omega
end
theorem or_zero {a b : Int} (h : (if a ≠ 0 then a else b) = 0) : a = 0 ∧ b = 0 := by
 split at h
 ·contradiction
 ·rename_i h1; exact ⟨by simpa using h1, h⟩
def mendFault (x : MendS) : Int :=
 if !(key x.Player) || !(key x.Stat) || !(key x.By) then 5
 else if !(weekB x.Week) || out x.Count (-100000) 100000 || !(moment x.At) || out x.Version 1 1000 then 1 else 0
theorem mendFault_ok {x : MendS} (h : mendFault x = 0) : key x.Player = true ∧ key x.Stat = true ∧ weekB x.Week = true ∧ (-100000 ≤ x.Count ∧ x.Count ≤ 100000) ∧ moment x.At = true := by
 unfold mendFault at h
 split at h
 ·omega
 split at h
 ·omega
 rename_i h1 h2
 simp only [Bool.or_eq_true, Bool.not_eq_true', not_or, Bool.not_eq_false, Bool.not_eq_true] at h1 h2
 exact ⟨h1.1.1, h1.1.2, h2.1.1.1, out_f h2.1.1.2, h2.1.2⟩
end Go.HL
end
section
namespace Go.HL
section
variable {α : Type} [DecidableEq α]
theorem cflA_snoc {c : α → α → Int} {a b : List α} {k : Nat} {x : α} (h : b[k]? = some x) : cflA c a (b.take (k + 1)) = (cflA c a (b.take k) || a.any fun y => decide (c x y = 0) && decide (x ≠ y)) := by
 unfold cflA; rw [take_snoc' h, List.any_append]; simp
theorem cflA_at {c : α → α → Int} {a b : List α} {x y : α} (hx : x ∈ b) (hy : y ∈ a) (e : c x y = 0) (hne : x ≠ y) : cflA c a b = true := cflA_iff.2 ⟨x, hx, y, hy, e, hne⟩
theorem addA_yes {β : Type} {c : β → β → Int} {a b : List β} {k : Nat} {x : β} (h : b[k]? = some x) (hn : (a.any fun y => decide (c x y = 0)) = false) : addA c a (b.take (k + 1)) = addA c a (b.take k) ++ [x] := by
 unfold addA; rw [take_snoc' h, List.filter_append, ← List.append_assoc]; simp [hn]
theorem addA_no {β : Type} {c : β → β → Int} {a b : List β} {k : Nat} {x : β} (h : b[k]? = some x) (hn : (a.any fun y => decide (c x y = 0)) = true) : addA c a (b.take (k + 1)) = addA c a (b.take k) := by
 unfold addA; rw [take_snoc' h, List.filter_append]; simp [hn]
theorem addA_len {β : Type} (c : β → β → Int) (a b : List β) : (addA c a b).length ≤ a.length + b.length := by
 unfold addA; rw [List.length_append]
 have := List.length_filter_le (fun x => !(a.any fun y => decide (c x y = 0))) b
 omega
theorem merS_len {β : Type} (c : β → β → Int) (a b : List β) : (merS c a b).length ≤ a.length + b.length := by
 unfold merS; rw [isort_len]; exact addA_len c a b
/-- The one that is met in a strict list. -/
theorem cfl_same {c : α → α → Int} (hc : Cmp c fun _ => True) {a b : List α} {k : Nat} {x z : α} (ha : a.Pairwise fun x y => c x y < 0) (h : b[k]? = some x) (hz : z ∈ a) (e : c x z = 0) (hxz : x = z) (hno : cflA c a (b.take k) = false) : cflA c a (b.take (k + 1)) = false := by
 rw [cflA_snoc h, hno, Bool.false_or, Bool.eq_false_iff]
 intro h9
 obtain ⟨y, hy, h8⟩ := List.any_eq_true.1 h9
 simp only [Bool.and_eq_true, decide_eq_true_eq] at h8
 refine h8.2 (hxz.trans (strict_uniq hc ha hz hy ?_))
 rw [← hxz]; exact h8.1
theorem cfl_none {c : α → α → Int} {a b : List α} {k : Nat} {x : α} (h : b[k]? = some x) (hn : (a.any fun y => decide (c x y = 0)) = false) (hno : cflA c a (b.take k) = false) : cflA c a (b.take (k + 1)) = false := by
 rw [cflA_snoc h, hno, Bool.false_or, Bool.eq_false_iff]
 intro h9
 obtain ⟨y, hy, h8⟩ := List.any_eq_true.1 h9
 simp only [Bool.and_eq_true, decide_eq_true_eq] at h8
 have : (a.any fun y => decide (c x y = 0)) = true := List.any_eq_true.2 ⟨y, hy, by simpa using h8.1⟩
 rw [hn] at this; cases this
theorem mer_sorted {β : Type} {c : β → β → Int} (hc : Cmp c fun _ => True) {a b l' : List β} (ha : a.Pairwise fun x y => c x y < 0) (hb : b.Pairwise fun x y => c x y < 0) (hp : l'.Perm (addA c a b)) (hw : l'.Pairwise fun x y => ¬ c y x < 0) : l' = merS c a b := by
 refine isort_of_sorted hc (fun x y hx hy e => ?_) hp hw
 refine Classical.byContradiction fun hne => ?_
 have hn := addA_nodup hc ha hb
 obtain ⟨i, hi⟩ := List.getElem?_of_mem hx
 obtain ⟨j, hj⟩ := List.getElem?_of_mem hy
 have hil := lt_of_get hi
 have hjl := lt_of_get hj
 rw [List.getElem?_eq_getElem hil] at hi
 rw [List.getElem?_eq_getElem hjl] at hj
 have ei := Option.some.inj hi
 have ej := Option.some.inj hj
 have f1 := hc.flip x y trivial trivial
 have f2 := hc.flip y x trivial trivial
 rcases Nat.lt_trichotomy i j with h' | h' | h'
 ·have := List.pairwise_iff_getElem.1 hn i j hil hjl h'
  rw [ei, ej] at this; exact this e
 ·subst h'; exact hne (by rw [← ei, ← ej])
 ·have := List.pairwise_iff_getElem.1 hn j i hjl hil h'
  rw [ei, ej] at this; omega
end
theorem con_arrc [Tracks] {P : Program} {f : FuncId} {hargs : List HVal} {v : Value} {sz : Nat} {es : List HVal} {Q : HVal → List MObj → Prop} (h0 : v = .slice none 0 0 → es = [] → Con P f hargs [.arr v sz es] Q)
 (h1 : ∀ b off cap, v = .slice (some ⟨b, off, none⟩) es.length cap → Con P f hargs [.arr v sz es] Q) : Con P f hargs [.arr v sz es] Q := fun I F w args ha hs => by
 rcases hs.obj (.arr v sz es) (by simp) with ⟨g1, g2⟩ | ⟨b, off, cap, rc, el, fr, g1, _⟩
 ·exact h0 g1 g2 I F w args ha hs
 ·exact h1 b off cap g1 I F w args ha hs
end Go.HL
end
section
namespace Go.HL
section
variable {κ : Type}
end
end Go.HL
end
section
namespace Go.HL
section
variable {κ : Type} [DecidableEq κ] {β : Type}
end
section
variable {P : Program} {e : Env} {κ : Type} [DecidableEq κ] {β : Type} {eb : β → HVal}
end
end Go.HL
end
section
namespace Go.HL
/-! lines by their places, with mends -/
abbrev GrS := List (Plc × List StatS)
def mdDel (x : MendS) (l : List StatS) : List StatS := l.filter fun s => !(s.Name == x.Stat)
def mdPut (x : MendS) (l : List StatS) : List StatS := mdDel x l ++ if x.Count ≠ 0 then [⟨x.Stat, x.Count⟩] else []
def mdStep (n : Int) (G : GrS) (x : MendS) : GrS := if n < x.At then G else aput (x.Player, x.Week) (mdPut x ((alk (x.Player, x.Week) G).getD [])) G
def GLen (b : Nat) (G : GrS) : Prop := ∀ q ∈ G, q.2.length ≤ b
theorem GLen.put {b : Nat} {G : GrS} {p : Plc} {l : List StatS} (h : GLen b G) (hl : l.length ≤ b) : GLen b (aput p l G) := fun q hq => by
 rcases mem_aput hq with rfl | hq
 ·exact hl
 ·exact h q hq
theorem GLen.get {b : Nat} {G : GrS} (h : GLen b G) (p : Plc) : ((alk p G).getD []).length ≤ b := by
 cases hq : alk p G with
 | none => simp
 | some l => exact h _ (alk_of_mem hq)
theorem GLen.up {b c : Nat} {G : GrS} (h : GLen b G) (hb : b ≤ c) : GLen c G := fun q hq => Nat.le_trans (h q hq) hb
theorem mdDel_len (x : MendS) (l : List StatS) : (mdDel x l).length ≤ l.length := List.length_filter_le _ _
theorem mdPut_len (x : MendS) (l : List StatS) : (mdPut x l).length ≤ l.length + 1 := by
 have := mdDel_len x l
 unfold mdPut; rw [List.length_append]; split
 ·simp only [List.length_cons, List.length_nil]; omega
 ·simp only [List.length_nil]; omega
theorem GLen.step {b : Nat} {n : Int} {G : GrS} {x : MendS} (h : GLen b G) : GLen (b + 1) (mdStep n G x) := by
 unfold mdStep; split
 ·exact h.up (by omega)
 ·refine (h.up (by omega)).put ?_
  have h1 := mdPut_len x ((alk (x.Player, x.Week) G).getD [])
  have h2 := h.get (x.Player, x.Week)
  omega
def GNm (G : GrS) : Prop := ∀ q ∈ G, (q.2.map (·.Name)).Nodup
theorem GNm.put {G : GrS} {p : Plc} {l : List StatS} (h : GNm G) (hl : (l.map (·.Name)).Nodup) : GNm (aput p l G) := fun q hq => by
 rcases mem_aput hq with rfl | hq
 ·exact hl
 ·exact h q hq
theorem GNm.get {G : GrS} (h : GNm G) (p : Plc) : (((alk p G).getD []).map (·.Name)).Nodup := by
 cases hq : alk p G with
 | none => exact List.nodup_nil
 | some l => exact h _ (alk_of_mem hq)
theorem mdPut_names {x : MendS} {l : List StatS} (h : (l.map (·.Name)).Nodup) : ((mdPut x l).map (·.Name)).Nodup := by
 have h1 : ((mdDel x l).map (·.Name)).Nodup := h.sublist ((List.filter_sublist).map _)
 unfold mdPut
 split
 ·rw [List.map_append]
  refine List.nodup_append.2 ⟨h1, by simp, fun a ha b hb => ?_⟩
  simp at hb; subst hb
  obtain ⟨s, hs, rfl⟩ := List.mem_map.1 ha
  have := (List.mem_filter.1 hs).2
  simpa using this
 ·rw [List.append_nil]; exact h1
theorem GNm.step {n : Int} {G : GrS} {x : MendS} (h : GNm G) : GNm (mdStep n G x) := by
 unfold mdStep; split
 ·exact h
 ·exact h.put (mdPut_names (h.get _))
theorem or2z {a b : Int} (h : orI [a, b] = 0) : a = 0 ∧ b = 0 := by rw [orI2] at h; exact or_zero h
end Go.HL
end
section
namespace Go.HL
theorem eqPlay_is (x y : Play) : eqHL [.str x.Source, .int .i64 x.No, .int .i64 x.At, .int .i64 x.Week, .str x.Match, .str x.Player, .str x.Stat, .int .i64 x.Count, .int .i64 x.Undo] [.str y.Source, .int .i64 y.No, .int .i64 y.At, .int .i64 y.Week, .str y.Match, .str y.Player, .str y.Stat, .int .i64 y.Count, .int .i64 y.Undo] = true ↔ x = y := by
 obtain ⟨a1, a2, a3, a4, a5, a6, a7, a8, a9⟩ := x; obtain ⟨b1, b2, b3, b4, b5, b6, b7, b8, b9⟩ := y
 show (_ && (_ && (_ && (_ && (_ && (_ && (_ && (_ && (_ && true))))))))) = true ↔ _
 simp [eqH, and_assoc]
instance decPlay : DecidableEq Play := fun x y => decidable_of_iff _ (eqPlay_is x y)
theorem eqPlays_refl : ∀ l : List Play, eqSts ePlay l l = true
 | [] => rfl
 | a :: r => by simp [eqSts, eqSt, eqPlays_refl r, hcells, eqHL, eqH]
/-! laid together -/
def MergePE (a b : List Play) : Int := if orI [playsE a, playsE b] ≠ 0 then orI [playsE a, playsE b] else if cflA byNo a b then 13 else playsE (merS byNo a b)
def MergePL (a b : List Play) : List Play := if orI [playsE a, playsE b] ≠ 0 then [] else if cflA byNo a b then [] else if playsE (merS byNo a b) ≠ 0 then [] else merS byNo a b
theorem merS_mem {c : Play → Play → Int} {a b : List Play} {x : Play} (h : x ∈ merS c a b) : x ∈ a ∨ x ∈ b := mem_addA ((isort_mem _).1 h)
theorem mergeP_len (a b : List Play) : (MergePL a b).length ≤ a.length + b.length := by
 unfold MergePL
 split
 ·exact Nat.zero_le _
 ·split
  ·exact Nat.zero_le _
  ·split
   ·exact Nat.zero_le _
   ·exact merS_len byNo a b
def mpL (a b : List Play) : List Play := if cflA byNo a b then [] else if playsE (merS byNo a b) ≠ 0 then [] else merS byNo a b
def mpE (a b : List Play) : Int := if cflA byNo a b then 13 else playsE (merS byNo a b)
theorem mergeP_cases (a b : List Play) : (orI [playsE a, playsE b] = 0 ∧ (playsE a = 0 ∧ playsE b = 0) ∧ mpL a b = MergePL a b ∧ mpE a b = MergePE a b) ∨
 (orI [playsE a, playsE b] ≠ 0 ∧ [] = MergePL a b ∧ orI [playsE a, playsE b] = MergePE a b) := by
 by_cases h : orI [playsE a, playsE b] = 0
 ·exact .inl ⟨h, or2z h, by simp [MergePL, mpL, h], by simp [MergePE, mpE, h]⟩
 ·exact .inr ⟨h, by rw [MergePL, if_pos h], by rw [MergePE, if_pos h]⟩
/-! what is lacking -/
def lkM (l : List Play) : List (Play × Bool) := l.foldl (fun C p => aput p true C) []
theorem lkM_snoc {l : List Play} {k : Nat} {x : Play} (h : l[k]? = some x) : lkM (l.take (k + 1)) = aput x true (lkM (l.take k)) := by
 unfold lkM; rw [take_snoc' h, List.foldl_append]; rfl
theorem lkM_get (x : Play) : ∀ (l : List Play) (C : List (Play × Bool)), (alk x (l.foldl (fun C p => aput p true C) C)).getD false = (decide (x ∈ l) || (alk x C).getD false)
 | [], C => by simp
 | p :: r, C => by
   rw [List.foldl_cons, lkM_get x r, alk_put]
   by_cases h : x = p
   ·simp [h]
   ·simp [h]
theorem lk_is (l : List Play) (x : Play) : (alk x (lkM l)).getD false = decide (x ∈ l) := by
 unfold lkM; rw [lkM_get]; simp [alk]
def lackL (l m : List Play) : List Play := m.filter fun x => !decide (x ∈ l)
theorem lack_yes {l m : List Play} {k : Nat} {x : Play} (h : m[k]? = some x) (hn : x ∉ l) : lackL l (m.take (k + 1)) = lackL l (m.take k) ++ [x] := by
 unfold lackL; rw [take_snoc' h, List.filter_append]; simp [hn]
theorem lack_no {l m : List Play} {k : Nat} {x : Play} (h : m[k]? = some x) (hn : x ∈ l) : lackL l (m.take (k + 1)) = lackL l (m.take k) := by
 unfold lackL; rw [take_snoc' h, List.filter_append]; simp [hn]
theorem lack_len (l m : List Play) : (lackL l m).length ≤ m.length := List.length_filter_le _ _
/-! what is taken back, as numbers -/
def undAt (l : List Play) (n : Int) (i : Nat) : Bool := isGone l n ((l.getD i play0).Source, (l.getD i play0).No)
def undI (l : List Play) (n : Int) (k : Nat) : List Int := ((List.range k).filter (undAt l n)).map fun i : Nat => (i : Int)
theorem undI_yes {l : List Play} {n : Int} {k : Nat} (h : undAt l n k = true) : undI l n (k + 1) = undI l n k ++ [(k : Int)] := by
 unfold undI; rw [List.range_succ, List.filter_append, List.map_append]; simp [h]
theorem undI_no {l : List Play} {n : Int} {k : Nat} (h : undAt l n k = false) : undI l n (k + 1) = undI l n k := by
 unfold undI; rw [List.range_succ, List.filter_append]; simp [h]
theorem undI_len (l : List Play) (n : Int) (k : Nat) : (undI l n k).length ≤ k := by
 unfold undI; rw [List.length_map]
 have := List.length_filter_le (undAt l n) (List.range k)
 rw [List.length_range] at this; exact this
theorem undI_rise (l : List Play) (n : Int) (k : Nat) : (undI l n k).Pairwise fun a b => a < b := by
 unfold undI
 refine List.pairwise_map.2 (List.Pairwise.imp (fun {a b} h => by omega) ((List.pairwise_lt_range).filter _))
theorem istrict_ext {a b : List Int} (ha : a.Pairwise fun x y => x < y) (hb : b.Pairwise fun x y => x < y) (h : ∀ x, x ∈ a ↔ x ∈ b) : a = b := by
 have na : a.Nodup := ha.imp fun q => by omega
 have nb : b.Nodup := hb.imp fun q => by omega
 have hp : a.Perm b := (List.perm_ext_iff_of_nodup na nb).2 h
 exact List.Perm.eq_of_pairwise (le := fun x y => x < y) (fun x y _ _ h1 h2 => by omega) ha hb hp
theorem compactUpTo_uniqI (l : List Int) : ∀ m, m ≤ l.length → Lib.compactUpTo l.toArray m = uniqA none (l.take m)
 | 0, _ => by simp [Lib.compactUpTo, uniqA]
 | m + 1, h => by
   have hm : m < l.length := by omega
   have hx := List.getElem?_eq_getElem hm
   rw [Lib.compactUpTo_succ, compactUpTo_uniqI l m (by omega), take_snoc' hx, uniqA_snoc]
   congr 1
   have e1 : l.toArray[m]! = l[m] := by simp [getElem!_pos, hm]
   rw [e1]
   cases m with
   | zero => simp [Lib.keeps]
   | succ m =>
     have hl : (l.take (m + 1)).getLast? = some l[m] := by
      rw [take_snoc' (List.getElem?_eq_getElem (show m < l.length by omega)), List.getLast?_append]; rfl
     have e2 : l.toArray[m]! = l[m] := by simp [getElem!_pos, show m < l.length by omega]
     rw [hl]
     simp only [Lib.keeps, e1, Nat.add_sub_cancel, e2]
     by_cases hh : l[m] = l[m + 1]
     ·simp [hh]
     ·have hh' : ¬ l[m + 1] = l[m] := fun h => hh h.symm
      simp [hh, hh']
theorem compactI_uniq (l : List Int) : Lib.compact l = uniqA none l := by
 unfold Lib.compact
 rw [compactUpTo_uniqI l _ (Nat.le_refl _), List.take_length]
theorem sortI_rise (l : List Int) : (sortI l).Pairwise fun a b => cmpI a b ≤ 0 := by
 have := List.pairwise_mergeSort (le := fun x y : Int => decide (x ≤ y)) (fun a b c h1 h2 => by simp only [decide_eq_true_eq] at *; omega) (fun a b => by simp only [Bool.or_eq_true, decide_eq_true_eq]; omega) l
 exact this.imp fun {a b} h => by rw [cmpI_le]; simpa using h
theorem compactI_rise (l : List Int) : (Lib.compact (sortI l)).Pairwise fun a b => a < b := by
 rw [compactI_uniq]
 have h1 := sortI_rise l
 have h2 := strict_adj (c := cmpI) (cmpI_by fun x : Int => x) (uniqA_nb (c := cmpI) (sortI l) none h1 (fun q e => by cases e)).1 fun i x y hx hy e => by
  have := uniqA_adj (c := cmpI) (sortI l) none h1 (fun q e => by cases e) i x y hx hy
  exact this (cmpI_zero.1 e)
 refine h2.imp fun {a b} h => ?_
 have h3 : ¬ b ≤ a := fun h4 => by
  have h5 := cmpI_le.2 h4
  have h6 := cmpI_flip a b
  omega
 omega
theorem undI_is {l : List Play} (h : OneKey l) (n : Int) : Lib.compact (sortI (undR l n l)) = undI l n l.length := by
 refine istrict_ext (compactI_rise _) (undI_rise l n _) fun z => ?_
 rw [mem_compactI, mem_sortI]
 unfold undI
 rw [List.mem_map]
 constructor
 ·intro hz
  obtain ⟨h1, h2⟩ := List.mem_filter.1 hz
  obtain ⟨p, hp, e⟩ := List.mem_map.1 h1
  have h3 : 0 ≤ z := by simpa using h2
  obtain ⟨i, rfl⟩ := Int.eq_ofNat_of_zero_le h3
  obtain ⟨q, hq, e2⟩ := mem_undR.1 hz
  have hil : i < l.length := by
   unfold takesR at e2
   split at e2
   ·cases e2
   ·exact (List.findIdx?_eq_some_iff_getElem.1 e2).1
  have hx := getD_some (d := play0) hil
  refine ⟨i, List.mem_filter.2 ⟨List.mem_range.2 hil, ?_⟩, rfl⟩
  exact (gone_takes h n hx).2 ⟨q, hq, e2⟩
 ·rintro ⟨i, hi, rfl⟩
  obtain ⟨h1, h2⟩ := List.mem_filter.1 hi
  have hil := List.mem_range.1 h1
  have hx := getD_some (d := play0) hil
  exact mem_undR.2 ((gone_takes h n hx).1 h2)
end Go.HL
end
section
namespace Go.HL
section
variable {P : Program} {e : Env} {dst : Option Tmp} {ty : TypeId} {pos : String} {af : Array Edge} {g : Option (Nat × Bool)}
end
section
variable {P : Program} {n : Nat} {e e' : Env} {M M' : List MObj} {Q Q' : Exit → Env → List MObj → Prop} {c c' : Code}
def LoopW4 {α β γ δ : Type} (e : Env) (ks : List Nat) (W : α → β → γ → δ → List (Nat × HVal)) (MM : α → β → γ → δ → List MObj) (Iv : α → β → γ → δ → Prop) (μ : α → β → γ → δ → Nat) (x : α) (y : β) (u : γ) (v : δ) (Q : Exit → Env → List MObj → Prop) : Exit → Env → List MObj → Prop
 | .normal, e', M => ∃ j k l m, Iv j k l m ∧ μ j k l m < μ x y u v ∧ HoldsW e' (W j k l m) ∧ Keeps ks e e' ∧ M.Perm (MM j k l m)
 | z, e', M => Q z e' M
theorem loopQ4_x {α β γ δ : Type} {e0 : Env} {ks : List Nat} {W : α → β → γ → δ → List (Nat × HVal)} {MM : α → β → γ → δ → List MObj} {Iv : α → β → γ → δ → Prop} {μ : α → β → γ → δ → Nat} {x : α} {y : β} {u : γ} {v : δ} {id : Nat} (h : Q (.exit id) e M) :
 LoopW4 e0 ks W MM Iv μ x y u v Q (.exit id) e M := h
theorem hw_loopw4 [Tracks] {α β γ δ : Type} (ks : List Nat) (W : α → β → γ → δ → List (Nat × HVal)) (MM : α → β → γ → δ → List MObj) (Iv : α → β → γ → δ → Prop) (μ : α → β → γ → δ → Nat) (x : α) (y : β) (u : γ) (v : δ) (h0 : Iv x y u v) (hW : HoldsW e (W x y u v)) (hM : M.Perm (MM x y u v))
 (hb : ∀ x y u v, Iv x y u v → HWp P n c (loopE e ks (W x y u v)) (MM x y u v) (LoopW4 e ks W MM Iv μ x y u v Q)) : HWp P n (.loop c) e M Q := by
 refine hw_loopw (ι := α × β × γ × δ) ks (fun p => W p.1 p.2.1 p.2.2.1 p.2.2.2) (fun p => MM p.1 p.2.1 p.2.2.1 p.2.2.2) (fun p => Iv p.1 p.2.1 p.2.2.1 p.2.2.2) (fun p => μ p.1 p.2.1 p.2.2.1 p.2.2.2) (x, y, u, v) h0 hW hM fun p hp => hw_mono (hb p.1 p.2.1 p.2.2.1 p.2.2.2 hp) ?_
 intro z e1 M1 hq
 cases z with
 | normal => obtain ⟨j, k, l, m, h⟩ := hq; exact ⟨(j, k, l, m), h⟩
 | _ => exact hq
end
end Go.HL
end
