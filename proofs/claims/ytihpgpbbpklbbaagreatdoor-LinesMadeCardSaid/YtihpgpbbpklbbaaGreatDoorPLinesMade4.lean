/- Part 4 of the proof: a program logic, contracts of functions and plain facts; no conditions. -/
import Derived.Test.YtihpgpbbpklbbaaGreatDoorPLinesMade3
set_option linter.unusedVariables false
set_option linter.unusedSimpArgs false
section
namespace Go.Proofs.YtihpgpbbpklbbaaGreatDoor
open Go.HL
set_option maxRecDepth 100000
set_option linter.unusedVariables false
set_option linter.unusedSimpArgs false
set_option maxHeartbeats 1000000 in
/-- benchwarmer/benchref1.LinesOf -/
theorem c_benchref1_LinesOf [Tracks] {l : List Play} {trust : List Str} {week n : Int} (hok : playsE l = 0) (ht : trust.length ≤ 1000000) : ConP Tryz.prog 23 [ePlays l, eSs trust, .int .i64 week, .int .i64 n] (.tup [eLines (linesRL l trust week n), .int .i64 (linesRE l trust week n)]) := by
 have hone := plays_one hok
 have hpf := plays_fault hok
 have hl3 := (playsE_ok hok).1
 have hl : l.length ≤ 1000000 := by omega
 refine Con.of_body Tryz.func23 rfl Tryz.ntmps23 rfl rfl ?_
 refine hw_reg ?_
 refine dp rfl (pop_assign rfl) ?_
 refine dp rfl (pop_assign rfl) ?_
 refine dn ?_
 refine hw_reg ?_
 refine dp rfl (pop_move rfl) ?_
 refine dp rfl (pop_move rfl) ?_
 refine de rfl (eop_callf (M1 := []) (R := []) ca74 rfl (WeakL.refl _) (List.Perm.refl _) (c_benchref1_undoneBy (l := l) (n := n) hl) ?_)
 rintro _ _ ⟨U, rfl, ⟨hUl, hU⟩, rfl⟩
 refine dp rfl (pop_assign rfl) ?_
 refine dn ?_
 refine hw_reg ?_
 refine de rfl (eop_makeMap fun m22 => ?_)
 refine dp rfl (pop_assign rfl) ?_
 refine dn ?_
 refine hw_reg ?_
 refine dp rfl (pop_assign rfl) ?_
 refine dn ?_
 refine hw_ghost (Ghost.arr_nil 1) ?_
 refine hw_seq ?_
 refine hw_reg ?_
 refine dp rfl (pop_move rfl) ?_
 refine dp rfl (pop_lenm ty26 rfl) ?_
 refine dp rfl (pop_move rfl) ?_
 refine dn ?_
 refine hw_block ?_
 refine hw_loopw3 (12 :: 13 :: 14 :: 25 :: 26 :: 27 :: 28 :: 29 :: 30 :: 31 :: 32 :: 33 :: 34 :: 35 :: 36 :: 37 :: 38 :: 39 :: 40 :: 41 :: 42 :: 43 :: 44 :: 45 :: 46 :: 47 :: 48 :: 49 :: 50 :: 51 :: 52 :: 53 :: 54 :: 55 :: 56 :: 57 :: 58 :: 59 :: 60 :: 61 :: 62 :: 63 :: 64 :: 65 :: 66 :: 67 :: 68 :: 69 :: 70 :: 71 :: 72 :: 73 :: 74 :: 75 :: 76 :: 77 :: 78 :: 79 :: 80 :: 81 :: 82 :: 83 :: 84 :: 85 :: []) (fun (k : Nat) (G : GrM Str) (u : Value) => [(25, .int .i64 k), (12, .raw u)]) (fun (k : Nat) (G : GrM Str) (u : Value) => [MObj.map m22 (sk (em fM (outerL G))), .arr u 1 ((lnGo l trust week n (l.take k)).S.map .str)] ++ grm HVal.str G) (fun (k : Nat) (G : GrM Str) (u : Value) => k ≤ l.length ∧ (GrOk (lnGo l trust week n (l.take k)).S (lnGo l trust week n (l.take k)).c G)) (fun (k : Nat) (G : GrM Str) (u : Value) => l.length - k) (0) ([]) (.slice none 0 0) ?_ ?_ ?_ ?_
 ·exact ⟨Nat.zero_le _, GrOk.nil⟩
 ·exact ⟨rfl, rfl, trivial⟩
 ·exact List.Perm.swap _ _ _
 ·intro k G u hinv
  obtain ⟨hk, hG⟩ := hinv
  refine hw_reg ?_
  refine dp rfl (pop_lss rfl rfl) ?_
  refine dn ?_
  refine hw_seq ?_
  refine hw_cond rfl (fun h1 => ?_) (fun h2 => ?_)
  ·try simp at h1
   obtain ⟨x, hx⟩ : ∃ x, l[k]? = some x := ⟨_, List.getElem?_eq_getElem h1⟩
   have hdx := drop_cons hx
   have hpx := hpf x (List.mem_of_getElem? hx)
   obtain ⟨_, _, _, _, _, hcb, _⟩ := playFault_ok hpx
   have hlk := ln_ok (l := l) (m := l.take k) (trust := trust) (week := week) (n := n) (fun y hy => hpf y (List.mem_of_mem_take hy))
   have hSl := hlk.Sl
   have hlt : ((l.take k).length : Int) ≤ 3000 := by rw [List.length_take]; omega
   refine hw_skip ?_
   refine seqQ_n ?_
   refine hw_seq ?_
   refine hw_block ?_
   refine hw_reg ?_
   refine dp rfl (pop_move rfl) ?_
   refine dp rfl (pop_idx ty26 ty93 rfl rfl rfl (by assumption)) ?_
   refine dp rfl (pop_loadw ty93 rfl rfl rfl rfl) ?_
   refine de rfl (eop_alloc ty93 rfl fun b14 => ?_)
   refine dp rfl (pop_assign rfl) ?_
   refine de0 (eop_storew ty93 rfl rfl rfl rfl rfl ?_)
   refine dn ?_
   refine hw_ghost (Ghost.fc0 14 rfl) ?_
   refine hw_seq ?_
   refine hw_draw (fun _ => True) [] mixed ?_
   refine ahp 0 rfl rfl (by kernel_rfl) (by kernel_rfl) ((pop_fieldAddr ty93 rfl ty3 (by decide) rfl)) ?_
   refine ahp 1 rfl rfl (by kernel_rfl) (by kernel_rfl) (pop_load ty3 rfl rfl rfl) ?_
   refine ahp 2 rfl rfl (by kernel_rfl) (by kernel_rfl) (pop_move rfl) ?_
   refine ahp 3 rfl rfl (by kernel_rfl) (by kernel_rfl) (pop_neq rfl rfl) ?_
   refine ahp 4 rfl rfl (by kernel_rfl) (by kernel_rfl) (pop_move rfl) ?_
   refine ahg 5 rfl rfl (by kernel_rfl) (by kernel_rfl) rfl (fun hc => ⟨_, OpenTo.refl _, (pop_fieldAddr ty93 rfl ty3 (by decide) rfl)⟩) ?_
   refine ahg 6 rfl rfl (by kernel_rfl) (by kernel_rfl) rfl (fun hc => ⟨_, OpenTo.upd (t := 35) rfl (hc) (OpenTo.refl _), pop_load ty3 rfl rfl rfl⟩) ?_
   refine ahg 7 rfl rfl (by kernel_rfl) (by kernel_rfl) rfl (fun hc => ⟨_, OpenTo.refl _, pop_move rfl⟩) ?_
   refine ahg 8 rfl rfl (by kernel_rfl) (by kernel_rfl) rfl (fun hc => ⟨_, OpenTo.upd (t := 37) rfl (hc) (OpenTo.upd (t := 36) rfl (hc) (OpenTo.refl _)), pop_gtr rfl rfl⟩) ?_
   refine ahp 9 rfl rfl (by kernel_rfl) (by kernel_rfl) (pop_picko rfl (.inl rfl) (.inr ⟨_, rfl, fun h => by simp_all⟩)) ?_
   refine ahp 10 rfl rfl (by kernel_rfl) (by kernel_rfl) (pop_move rfl) ?_
   refine ahg 11 rfl rfl (by kernel_rfl) (by kernel_rfl) rfl (fun hc => ⟨_, OpenTo.refl _, pop_move rfl⟩) ?_
   refine ahg 12 rfl rfl (by kernel_rfl) (by kernel_rfl) rfl (fun hc => ⟨_, OpenTo.refl _, pop_move rfl⟩) ?_
   refine ahg 13 rfl rfl (by kernel_rfl) (by kernel_rfl) rfl (fun hc => ⟨_, OpenTo.refl _, (pop_fieldAddr ty93 rfl ty9 (by decide) rfl)⟩) ?_
   refine ahg 14 rfl rfl (by kernel_rfl) (by kernel_rfl) rfl (fun hc => ⟨_, OpenTo.upd (t := 43) rfl (hc) (OpenTo.refl _), pop_load ty9 rfl rfl rfl⟩) ?_
   refine ahg 15 rfl rfl (by kernel_rfl) (by kernel_rfl) rfl (fun hc => ⟨_, OpenTo.refl _, pop_move rfl⟩) ?_
   refine ahg 16 rfl rfl (by kernel_rfl) (by kernel_rfl) rfl (fun hc => ⟨_, OpenTo.upd (t := 45) rfl (hc) (OpenTo.upd (t := 44) rfl (hc) (OpenTo.upd (t := 42) rfl (hc) (OpenTo.upd (t := 41) rfl (hc) (OpenTo.refl _)))), pop_call ca73 rfl (WeakL.refl _) (c_benchref1_counting (m := x.Match) hl ht)⟩) ?_
   refine ahg 17 rfl rfl (by kernel_rfl) (by kernel_rfl) rfl (fun hc => ⟨_, OpenTo.refl _, (pop_fieldAddr ty93 rfl ty9 (by decide) rfl)⟩) ?_
   refine ahg 18 rfl rfl (by kernel_rfl) (by kernel_rfl) rfl (fun hc => ⟨_, OpenTo.upd (t := 47) rfl (hc) (OpenTo.refl _), pop_load ty9 rfl rfl rfl⟩) ?_
   refine ahg 19 rfl rfl (by kernel_rfl) (by kernel_rfl) rfl (fun hc => ⟨_, OpenTo.upd (t := 48) rfl (hc) (OpenTo.upd (t := 46) rfl (hc) (OpenTo.refl _)), pop_neqs rfl rfl⟩) ?_
   refine ahp 20 rfl rfl (by kernel_rfl) (by kernel_rfl) (pop_picko rfl (.inl rfl) (.inr ⟨_, rfl, fun h => by simp_all⟩)) ?_
   refine ahp 21 rfl rfl (by kernel_rfl) (by kernel_rfl) (pop_move rfl) ?_
   refine ahg 22 rfl rfl (by kernel_rfl) (by kernel_rfl) rfl (fun hc => ⟨_, OpenTo.refl _, pop_move rfl⟩) ?_
   refine ahg 23 rfl rfl (by kernel_rfl) (by kernel_rfl) rfl (fun hc => ⟨_, OpenTo.refl _, pop_move rfl⟩) ?_
   refine ahg 24 rfl rfl (by kernel_rfl) (by kernel_rfl) rfl (fun hc => ⟨_, OpenTo.upd (t := 53) rfl (hc) (OpenTo.upd (t := 52) rfl (hc) (OpenTo.refl _)), pop_call ca75 rfl (WeakL.refl _) (c_slices_Contains_int_int (l := U) (z := (k : Int)) hUl)⟩) ?_
   refine ahp 25 rfl rfl (by kernel_rfl) (by kernel_rfl) (pop_picko rfl (.inl rfl) (.inr ⟨_, rfl, fun h => by simp_all⟩)) ?_
   refine ahp 26 rfl rfl (by kernel_rfl) (by kernel_rfl) (pop_move rfl) ?_
   refine ahg 27 rfl rfl (by kernel_rfl) (by kernel_rfl) rfl (fun hc => ⟨_, OpenTo.refl _, (pop_fieldAddr ty93 rfl ty3 (by decide) rfl)⟩) ?_
   refine ahg 28 rfl rfl (by kernel_rfl) (by kernel_rfl) rfl (fun hc => ⟨_, OpenTo.upd (t := 57) rfl (hc) (OpenTo.refl _), pop_load ty3 rfl rfl rfl⟩) ?_
   refine ahg 29 rfl rfl (by kernel_rfl) (by kernel_rfl) rfl (fun hc => ⟨_, OpenTo.upd (t := 58) rfl (hc) (OpenTo.refl _), pop_gtr rfl rfl⟩) ?_
   refine ahp 30 rfl rfl (by kernel_rfl) (by kernel_rfl) (pop_picko rfl (.inl rfl) (.inr ⟨_, rfl, fun h => by simp_all⟩)) ?_
   refine ahz (by kernel_rfl) ?_
   refine hw_cond rfl (fun h3 => ?_) (fun h4 => ?_)
   ·try simp at h3
    refine hw_exit ?_
    refine seqQ_x ?_
    refine blockQ_eq ?_
    refine seqQ_n ?_
    refine hw_reg1 ?_
    refine dp rfl (pop_add64 rfl rfl (by omega) (by omega)) ?_
    refine dp rfl (pop_move rfl) ?_
    refine dn ?_
    have hin : inLine l trust week n x = false := by
     rw [← refIn_contains hone hU hx, Bool.not_eq_eq_eq_not, Bool.not_false]
     simp only [Bool.or_eq_true, bne_iff_ne, ne_eq, decide_eq_true_eq, List.contains_iff_mem]
     exact h3
    have hgo : lnGo l trust week n (l.take (k + 1)) = (lnGo l trust week n (l.take k)) := by rw [lnGo_snoc hx, lnStep, if_neg (by rw [hin]; simp)]
    exact ⟨k + 1, G, u, ⟨by omega, by rw [hgo]; exact hG⟩, by dsimp only; omega, ⟨rfl, rfl, trivial⟩, (by repeat (first | exact keeps_refl | refine keeps_upd rfl ?_ | refine keeps_loop rfl rfl ?_)), perm_eq (by dsimp only; rw [hgo])⟩
   ·try simp at h4
    refine hw_skip ?_
    refine seqQ_n ?_
    refine hw_join [12, 61, 62, 63, 64, 65, 66, 67, 68, 69, 70, 71, 72, 73, 74] (fun (p : GrM Str × Value) => [(12, .raw p.2)]) (fun (p : GrM Str × Value) => [MObj.map m22 (sk (em fM (outerL p.1))), .arr p.2 1 ((sadd x.Player (lnGo l trust week n (l.take k)).S).map .str)] ++ grm HVal.str p.1) (fun (p : GrM Str × Value) => GrOk (sadd x.Player (lnGo l trust week n (l.take k)).S) (lnGo l trust week n (l.take k)).c p.1 ∧ ∃ b L, alk x.Player p.1 = some (b, L)) ?_ ?_
    ·skip
     refine hw_reg ?_
     refine dp rfl (pop_move rfl) ?_
     refine dp rfl ((pop_fieldAddr ty93 rfl ty9 (by decide) rfl)) ?_
     refine dp rfl (pop_load ty9 rfl rfl rfl) ?_
     refine de rfl (eop_lookupA (i := 0) (f := fM) (z0 := none) ty129 ty9 ty102 rfl rfl rfl rfl ?_)
     refine dp rfl (pop_eqnilM ty102 rfl rfl) ?_
     refine dn ?_
     refine hw_cond rfl (fun h5 => ?_) (fun h6 => ?_)
     ·try simp at h5
      refine hw_reg ?_
      refine dp rfl (pop_move rfl) ?_
      refine dp rfl ((pop_fieldAddr ty93 rfl ty9 (by decide) rfl)) ?_
      refine dp rfl (pop_load ty9 rfl rfl rfl) ?_
      refine de rfl (eop_makeMap fun m69 => ?_)
      refine de0 (eop_updateA (i := 1) (f := fM) (v := some m69) ty129 ty9 rfl rfl rfl rfl ?_)
      refine dn ?_
      refine hw_reg1 ?_
      refine dp rfl (pop_move rfl) ?_
      refine dp rfl ((pop_fieldAddr ty93 rfl ty9 (by decide) rfl)) ?_
      refine dp rfl (pop_load ty9 rfl rfl rfl) ?_
      refine dp rfl (pop_buildSlice (hs := [_]) ty28 ty9 rfl rfl (by decide) (by decide) rfl) ?_
      refine de rfl (eop_append (i := 2) ty28 ty9 rfl rfl rfl rfl rfl (by simp [flat, hcells]) (by simp; omega) fun v74 => ?_)
      refine dp rfl (pop_assign rfl) ?_
      refine dn ?_
      have hnone := outer_none (by simpa using h5)
      have hns := hG.none.1 hnone
      exact ⟨(aput x.Player (m69, []) G, v74), ⟨hG.add m69 hnone, m69, [], by rw [alk_put, if_pos rfl]⟩, ⟨rfl, trivial⟩, (by repeat (first | exact keeps_refl | refine keeps_upd rfl ?_ | refine keeps_loop rfl rfl ?_)), by dsimp only; rw [← outer_put (L := []), sadd_new hns, List.map_append]; exact grm_new (ek := HVal.str) (A := [_, _]) (b := m69) (L := []) hG.anodup hnone⟩
     ·try simp at h6
      refine hw_skip ?_
      obtain ⟨b0, L0, hb0⟩ := outer_some (by simpa using h6)
      have hins := hG.mem hb0
      exact ⟨(G, u), ⟨by rw [sadd_old hins]; exact hG, b0, L0, hb0⟩, ⟨rfl, trivial⟩, (by repeat (first | exact keeps_refl | refine keeps_upd rfl ?_ | refine keeps_loop rfl rfl ?_)), perm_eq (by dsimp only; rw [sadd_old hins])⟩
    ·intro p hp
     have hin : inLine l trust week n x = true := by rw [← refIn_contains hone hU hx]; simpa using h4
     have hgo : lnGo l trust week n (l.take (k + 1)) = lnPut (lnGo l trust week n (l.take k)) x := by rw [lnGo_snoc hx, lnStep, if_pos hin]
     obtain ⟨G1, u1⟩ := p
     dsimp only at hp
     obtain ⟨hG1, b1, L1, hb⟩ := hp
     have hL := hG1.get hb
     have hvb := hlk.val (x.Player, x.Stat)
     rw [← inner_get, ← hL] at hvb
     refine hw_ghost (Ghost.perm (grm_take (ek := HVal.str) (A := [_, _]) hG1.anodup hb)) ?_
     refine hw_reg1 ?_
     refine dp rfl (pop_move rfl) ?_
     refine dp rfl ((pop_fieldAddr ty93 rfl ty9 (by decide) rfl)) ?_
     refine dp rfl (pop_load ty9 rfl rfl rfl) ?_
     refine de rfl (eop_lookupA (i := 1) (f := fM) (z0 := none) ty129 ty9 ty102 rfl rfl rfl rfl ?_)
     rw [outer_get, hb]
     refine dp rfl ((pop_fieldAddr ty93 rfl ty9 (by decide) rfl)) ?_
     refine dp rfl (pop_load ty9 rfl rfl rfl) ?_
     refine de rfl (eop_lookupA (i := 0) (f := HVal.int .i64) (L := L1) (z0 := (0 : Int)) ty102 ty9 ty3 rfl rfl rfl rfl ?_)
     refine dp rfl ((pop_fieldAddr ty93 rfl ty3 (by decide) rfl)) ?_
     refine dp rfl (pop_load ty3 rfl rfl rfl) ?_
     refine dp rfl (pop_add64 rfl rfl (by omega) (by omega)) ?_
     refine de0 (eop_updateA (i := 0) (f := HVal.int .i64) (L := L1) (s := x.Stat) (v := (alk x.Stat L1).getD 0 + x.Count) ty102 ty9 rfl rfl rfl rfl ?_)
     refine dn ?_
     refine blockQ_n ?_
     refine seqQ_n ?_
     refine hw_reg1 ?_
     refine dp rfl (pop_add64 rfl rfl (by omega) (by omega)) ?_
     refine dp rfl (pop_move rfl) ?_
     refine dn ?_
     exact ⟨k + 1, aput x.Player (b1, aput x.Stat ((alk x.Stat L1).getD 0 + x.Count) L1) G1, u1, ⟨by omega, by rw [hgo]; unfold lnPut; rw [← inner_get, ← hL]; exact hG1.put hb _ _⟩, by dsimp only; omega, ⟨rfl, rfl, trivial⟩, (by repeat (first | exact keeps_refl | refine keeps_upd rfl ?_ | refine keeps_loop rfl rfl ?_)), by dsimp only; rw [hgo, outer_same hb]; exact grm_put (ek := HVal.str) (A := [_, _]) hG1.anodup⟩
  ·try simp at h2
   have hnk : l.length ≤ k := by omega
   obtain rfl : k = l.length := by omega
   rw [List.take_length] at hG ⊢
   have hlk := ln_ok (l := l) (m := l) (trust := trust) (week := week) (n := n) hpf
   have hlk1 := hlk.cl
   have hlk2 := hlk.Sl
   have hlk3 := onceL_len (lnGo l trust week n l).S
   refine hw_exit ?_
   refine seqQ_x ?_
   refine loopQ3_x ?_
   refine blockQ_eq ?_
   refine seqQ_n ?_
   refine hw_reg ?_
   refine dp rfl (pop_assign rfl) ?_
   refine dn ?_
   refine hw_ghost (Ghost.arr_nil 3) ?_
   refine hw_seq ?_
   refine hw_ghost (Ghost.fa 12 (i := 2) rfl rfl) ?_
   refine hw_ghost (Ghost.of_eq (M' := [MObj.arr (.slice none 0 0) 3 [], .map m22 (sk (em fM (outerL G)))] ++ grm HVal.str G) rfl) ?_
   refine hw_reg ?_
   refine dp rfl (pop_move rfl) ?_
   refine de rfl (EOp.fz (eop_calla ca72 rfl (WeakL.refl _) (c_benchref1_once (l := (lnGo l trust week n l).S) (by omega)) fun v => ⟨v, rfl, rfl⟩) ?_)
   refine dp rfl (pop_lenm (f := HVal.str) (l := onceL (lnGo l trust week n l).S) ty28 rfl) ?_
   refine dp rfl (pop_move rfl) ?_
   refine dn ?_
   refine hw_block ?_
   refine hw_loopw2 [15, 17, 89, 90, 91, 92, 93, 94, 95, 96, 97, 98, 99, 100, 101, 102, 103] (fun (k : Nat) (u : Value) => [(89, .int .i64 k), (15, .raw u)]) (fun (k : Nat) (u : Value) => [MObj.arr u 3 ((((onceL (lnGo l trust week n l).S).take k).map (lineR (lnGo l trust week n l) week)).map eLine), .map m22 (sk (em fM (outerL G)))] ++ grm HVal.str G) (fun (k : Nat) (u : Value) => k ≤ (onceL (lnGo l trust week n l).S).length ∧ (True)) (fun (k : Nat) (u : Value) => (onceL (lnGo l trust week n l).S).length - k) (0) (.slice none 0 0) ?_ ?_ ?_ ?_
   ·exact ⟨Nat.zero_le _, trivial⟩
   ·exact ⟨rfl, rfl, trivial⟩
   ·exact List.Perm.refl _
   ·intro k u hinv
    obtain ⟨hk, -⟩ := hinv
    refine hw_reg ?_
    refine dp rfl (pop_lss rfl rfl) ?_
    refine dn ?_
    refine hw_seq ?_
    refine hw_cond rfl (fun h7 => ?_) (fun h8 => ?_)
    ·try simp at h7
     obtain ⟨x, hx⟩ : ∃ x, (onceL (lnGo l trust week n l).S)[k]? = some x := ⟨_, List.getElem?_eq_getElem h7⟩
     have hdx := drop_cons hx
     have hxS := mem_onceL.1 (List.mem_of_getElem? hx)
     obtain ⟨b1, L1, hb⟩ := hG.find hxS
     have hL := hG.get hb
     subst hL
     refine hw_skip ?_
     refine seqQ_n ?_
     refine hw_seq ?_
     refine hw_block ?_
     refine hw_reg ?_
     refine dp rfl (pop_idx (f := HVal.str) (l := onceL (lnGo l trust week n l).S) (j := k) (a := x) ty28 ty9 rfl rfl rfl hx) ?_
     refine dp rfl (pop_load ty9 rfl rfl rfl) ?_
     refine dp rfl (pop_assign rfl) ?_
     refine dn ?_
     refine hw_reg1 ?_
     refine dp rfl (pop_move rfl) ?_
     refine dp rfl (pop_move rfl) ?_
     refine dp rfl (pop_move rfl) ?_
     refine dp rfl (pop_move rfl) ?_
     refine dp rfl (pop_move rfl) ?_
     refine de rfl (eop_lookupA (i := 1) (f := fM) (z0 := none) ty129 ty9 ty102 rfl rfl rfl rfl ?_)
     rw [outer_get, hb]
     refine de rfl (eop_callf (M1 := [.map b1 (sk (em (HVal.int .i64) (inner (lnGo l trust week n l).c x)))]) (R := [MObj.arr u 3 ((((onceL (lnGo l trust week n l).S).take k).map (lineR (lnGo l trust week n l) week)).map eLine), .map m22 (sk (em fM (outerL G)))] ++ grm HVal.str (G.filter fun q => decide (q.1 ≠ x))) ca76 rfl (WeakL.refl _) (grm_take hG.anodup hb) (c_benchref1_stats (c := inner (lnGo l trust week n l).c x) (inner_nodup hlk.c x) (Nat.le_trans (inner_len _ _) (by omega))) ?_)
     rintro _ _ ⟨rfl, rfl⟩
     refine dp rfl (pop_build (cs := [_, _, _]) ty56 pl56 rfl) ?_
     refine dp rfl (pop_buildSlice (hs := [_]) ty39 ty56 rfl rfl (by decide) (by decide) rfl) ?_
     refine de rfl (eop_append (i := 1) ty39 ty56 rfl rfl rfl rfl rfl (by simp [flat, hcells]) (by simp; omega) fun v102 => ?_)
     refine dp rfl (pop_assign rfl) ?_
     refine dn ?_
     refine blockQ_n ?_
     refine seqQ_n ?_
     refine hw_reg1 ?_
     refine dp rfl (pop_add64 rfl rfl (by omega) (by omega)) ?_
     refine dp rfl (pop_move rfl) ?_
     refine dn ?_
     exact ⟨k + 1, v102, ⟨by omega, trivial⟩, by dsimp only; omega, ⟨rfl, rfl, trivial⟩, (by repeat (first | exact keeps_refl | refine keeps_upd rfl ?_ | refine keeps_loop rfl rfl ?_)), by dsimp only; rw [take_snoc' hx, List.map_append, List.map_append]; exact (grm_take (ek := HVal.str) (A := [_, _]) hG.anodup hb).symm⟩
    ·try simp at h8
     have hnk : (onceL (lnGo l trust week n l).S).length ≤ k := by omega
     obtain rfl : k = (onceL (lnGo l trust week n l).S).length := by omega
     refine hw_exit ?_
     refine seqQ_x ?_
     refine loopQ2_x ?_
     refine blockQ_eq ?_
     refine seqQ_n ?_
     refine hw_seq ?_
     rw [List.take_length]
     refine hw_ghost (Ghost.fa 15 (i := 0) rfl rfl) ?_
     refine hw_reg ?_
     refine dp rfl (pop_move rfl) ?_
     refine dp rfl (pop_call ca77 rfl (WeakL.refl _) (c_benchref1_full (l := rawLines (lnGo l trust week n l) week) (Nat.le_trans rawLines_len (by omega)) (fun y hy => Nat.le_trans (rawLines_stats y hy) (by omega)))) ?_
     refine dp rfl (pop_assign rfl) ?_
     refine dn ?_
     refine hw_reg ?_
     refine dp rfl (pop_move rfl) ?_
     refine dp rfl (pop_neq rfl rfl) ?_
     refine dn ?_
     refine hw_cond rfl (fun h9 => ?_) (fun h10 => ?_)
     ·try simp at h9
      refine hw_reg ?_
      refine dp rfl (pop_move rfl) ?_
      refine dp rfl (pop_assign rfl) ?_
      refine dp rfl (pop_assign rfl) ?_
      refine dn ?_
      refine hw_ret ?_
      exact ⟨_, [], Ghost.clear, _, _, rfl, weak_tup2 (weak_nil 3) (Weak.refl _), by rw [linesRL, linesRE, if_pos (by simpa using h9), if_pos (by simpa using h9)]; rfl, rfl⟩
     ·try simp at h10
      refine hw_skip ?_
      refine seqQ_n ?_
      refine hw_reg ?_
      refine dp rfl (pop_move rfl) ?_
      refine dp rfl (pop_assign rfl) ?_
      refine dp rfl (pop_assign rfl) ?_
      refine dn ?_
      refine hw_ret ?_
      (refine ret_g Ghost.clear rfl ⟨?_, rfl⟩
       rw [linesRL, linesRE, if_neg (by simpa using h10), if_neg (by simpa using h10)]; rfl)

end Go.Proofs.YtihpgpbbpklbbaaGreatDoor
end
section
namespace Go.HL
def ToldE (l : List Play) (t : List Str) (n : Int) : Int := if orI [playsE l, trustE t] != 0 then orI [playsE l, trustE t] else if !(moment n) then 1 else 0
def ToldL (l : List Play) (t : List Str) (n : Int) : List PairS := if orI [playsE l, trustE t] != 0 then [] else if !(moment n) then [] else toldR l t n
theorem told_keys {l : List Play} {trust : List Str} {n : Int} {O : List (Str × Str)} (hn : ANodup O) (hO : ∀ m, alk m O = srcOf l trust n m) : ∀ p ∈ O, ∃ x ∈ l, x.Match = p.1 := fun p hp => by
 have h1 := (alk_mem hn (x := p.1) (v := p.2)).1 hp
 rw [hO, src_find] at h1
 have h2 := List.find?_some h1
 unfold hasSrc at h2
 obtain ⟨x, hx, hq⟩ := List.any_eq_true.1 h2
 simp only [Bool.and_eq_true, beq_iff_eq] at hq
 exact ⟨x, hx, hq.1.2⟩
theorem told_len {l : List Play} {trust : List Str} {n : Int} {O : List (Str × Str)} (hn : ANodup O) (hO : ∀ m, alk m O = srcOf l trust n m) : O.length ≤ l.length := by
 have h1 : (O.map fun q : Str × Str => q.1).Nodup := hn
 have := nodup_le (b := l.map (·.Match)) h1 fun m hm => by
  obtain ⟨p, hp, rfl⟩ := List.mem_map.1 hm
  obtain ⟨x, hx, e⟩ := told_keys hn hO p hp
  exact List.mem_map.2 ⟨x, hx, e⟩
 simpa using this
theorem told_short {l : List Play} {trust : List Str} {n : Int} {O : List (Str × Str)} (hl : ∀ x ∈ l, playFault x = 0) (hn : ANodup O) (hO : ∀ m, alk m O = srcOf l trust n m) : ∀ p ∈ O, p.1.length ≤ 1000000 := fun p hp => by
 obtain ⟨x, hx, e⟩ := told_keys hn hO p hp
 have := key_len (playFault_ok (hl x hx)).2.2.2.2.1.1
 rw [← e]; omega
def tp (O : List (Str × Str)) (m : Str) : PairS := ⟨m, (alk m O).getD []⟩
theorem told_done {l : List Play} {trust : List Str} {n : Int} {O : List (Str × Str)} (hn : ANodup O) (hO : ∀ m, alk m O = srcOf l trust n m) (ht : trustE trust = 0) : (sortS (O.map (·.1))).map (tp O) = toldR l trust n :=
 told_eq hn hO fun s hs => key_ne (trust_key ht s hs)
/-! the differences of two sources -/
def gOf (L : List (Of2 × Int)) (k : Of2) : Int := (alk k L).getD 0
def setO (ks : List Of2) : List (Of2 × Bool) := ks.foldl (fun A k => aput k true A) []
theorem setO_snoc (ks : List Of2) (k : Of2) : setO (ks ++ [k]) = aput k true (setO ks) := by unfold setO; rw [List.foldl_append]; rfl
theorem setO_is : ∀ (ks : List Of2) (A : List (Of2 × Bool)), ANodup A → ANodup (ks.foldl (fun A k => aput k true A) A) ∧ ∀ k, k ∈ (ks.foldl (fun A k => aput k true A) A).map (·.1) ↔ k ∈ ks ∨ k ∈ A.map (·.1)
 | [], A, h => ⟨h, fun k => by simp⟩
 | x :: ks, A, h => by
   obtain ⟨i1, i2⟩ := setO_is ks (aput x true A) h.put
   refine ⟨i1, fun k => ?_⟩
   rw [List.foldl_cons, i2, aput_keys, List.mem_cons]
   constructor
   ·rintro (h | h | h)
    ·exact .inl (.inr h)
    ·exact .inl (.inl h)
    ·exact .inr h
   ·rintro ((h | h) | h)
    ·exact .inr (.inl h)
    ·exact .inl h
    ·exact .inr (.inr h)
theorem setO_nodup (ks : List Of2) : ANodup (setO ks) := (setO_is ks [] ANodup.nil).1
theorem setO_mem {ks : List Of2} {k : Of2} : k ∈ (setO ks).map (·.1) ↔ k ∈ ks := by
 have := (setO_is ks [] ANodup.nil).2 k
 simpa [setO] using this
theorem setO_len : ∀ (ks : List Of2) (A : List (Of2 × Bool)), (ks.foldl (fun A k => aput k true A) A).length ≤ ks.length + A.length
 | [], A => by simp
 | x :: ks, A => by
   have := setO_len ks (aput x true A)
   have h := aput_le x true A
   rw [List.foldl_cons, List.length_cons]; omega
theorem apartL_yes {m a b : Str} {ga gb : Of2 → Int} {K : List Of2} {k : Of2} (h : ga k ≠ gb k) : apartL m a b ga gb (K ++ [k]) = apartL m a b ga gb K ++ [⟨m, k.1, k.2, a, b, ga k, gb k⟩] := by
 unfold apartL
 rw [List.filter_append, List.map_append, List.filter_cons, if_pos (by simpa using h)]; rfl
theorem apartL_no {m a b : Str} {ga gb : Of2 → Int} {K : List Of2} {k : Of2} (h : ga k = gb k) : apartL m a b ga gb (K ++ [k]) = apartL m a b ga gb K := by
 unfold apartL
 rw [List.filter_append, List.map_append, List.filter_cons, if_neg (by simpa using h)]; simp
theorem apartL_len (m a b : Str) (ga gb : Of2 → Int) (K : List Of2) : (apartL m a b ga gb K).length ≤ K.length := by
 unfold apartL; rw [List.length_map]; exact List.length_filter_le _ _
theorem byApart_cmp : Cmp byApart fun _ => True where
 flip x y _ _ := byOf_cmp.flip (keyA x) (keyA y) trivial trivial
 trans x y z _ _ _ h1 h2 := byOf_cmp.trans (keyA x) (keyA y) (keyA z) trivial trivial trivial h1 h2
theorem apart_go {m a b : Str} {La Lb E1 E2 : List (Of2 × Int)} (h1 : E1.Perm La) (h2 : E2.Perm Lb) {E : List (Of2 × Bool)} (hE : E.Perm (setO (E1.map (·.1) ++ E2.map (·.1)))) {Y : List ApartS} {K : List Of2} (hK : K.Pairwise OLt)
 (hin : ∀ k, gOf La k ≠ gOf Lb k → k ∈ K) (hp : Y.Perm (apartL m a b (gOf La) (gOf Lb) (E.map (·.1)))) (hs : Y.Pairwise fun x y => ¬ byApart y x < 0) : Y = apartL m a b (gOf La) (gOf Lb) K := by
 refine apart_eq (E := E.map (·.1)) (((hE.map (fun p : Of2 × Bool => p.1)).nodup_iff).2 (setO_nodup _)) hK (fun k hk => ?_) hin hp hs
 rw [(hE.map (fun p : Of2 × Bool => p.1)).mem_iff, setO_mem, List.mem_append]
 unfold gOf at hk
 by_cases ha : alk k La = none
 ·have hb : alk k Lb ≠ none := fun hb => hk (by rw [ha, hb])
  right
  rw [(h2.map (fun p : Of2 × Int => p.1)).mem_iff]
  exact Decidable.not_not.1 fun hn => hb (alk_none.2 hn)
 ·left
  rw [(h1.map (fun p : Of2 × Int => p.1)).mem_iff]
  exact Decidable.not_not.1 fun hn => ha (alk_none.2 hn)
theorem apart_len {m a b : Str} {La Lb E1 E2 : List (Of2 × Int)} (h1 : E1.Perm La) (h2 : E2.Perm Lb) {E : List (Of2 × Bool)} (hE : E.Perm (setO (E1.map (·.1) ++ E2.map (·.1)))) : (apartL m a b (gOf La) (gOf Lb) (E.map (·.1))).length ≤ La.length + Lb.length := by
 refine Nat.le_trans (apartL_len _ _ _ _ _ _) ?_
 have e1 := h1.length_eq
 have e2 := h2.length_eq
 have e3 := hE.length_eq
 have := setO_len (E1.map (·.1) ++ E2.map (·.1)) []
 simp only [List.length_append, List.length_map, List.length_nil] at *
 unfold setO at e3
 omega
/-! the sums of each source -/
structure DisOk (q : DisS) (n : Nat) : Prop where
 c : ANodup q.c
 S : q.S.Nodup
 k : ∀ s ∈ q.S, s.length ≤ 40
 cl : q.c.length ≤ n
 Sl : q.S.length ≤ n
 bd : ∀ e ∈ q.c, -(100000 * (n : Int)) ≤ e.2 ∧ e.2 ≤ 100000 * (n : Int)
theorem DisOk.val {q : DisS} {n : Nat} (h : DisOk q n) (s : Str × Of2) : -(100000 * (n : Int)) ≤ (alk s q.c).getD 0 ∧ (alk s q.c).getD 0 ≤ 100000 * (n : Int) := by
 cases hq : alk s q.c with
 | none => simp; omega
 | some v => exact h.bd _ (alk_of_mem hq)
theorem DisOk.up {q : DisS} {n : Nat} (h : DisOk q n) : DisOk q (n + 1) :=
 ⟨h.c, h.S, h.k, by have := h.cl; omega, by have := h.Sl; omega, fun e he => by have := h.bd e he; omega⟩
theorem DisOk.sput {q : DisS} {n : Nat} (h : DisOk q n) {p : Play} (hp : playFault p = 0) : DisOk ⟨sadd p.Source q.S, q.c⟩ (n + 1) := by
 refine ⟨h.c, sadd_nodup h.S, fun s hs => ?_, by have := h.cl; dsimp only; omega, Nat.le_trans (sadd_le _ _) (by have := h.Sl; omega), fun e he => by have := h.bd e he; omega⟩
 rcases mem_sadd.1 hs with rfl | hs
 ·exact key_len (playFault_ok hp).1
 ·exact h.k s hs
theorem DisOk.put {q : DisS} {n : Nat} (h : DisOk q n) {p : Play} (hp : playFault p = 0) : DisOk ⟨sadd p.Source q.S, disPut q p⟩ (n + 1) := by
 have hs := h.sput hp
 obtain ⟨_, _, _, _, _, hb, _⟩ := playFault_ok hp
 have hv := h.val (disKey p)
 refine ⟨h.c.put, hs.S, hs.k, Nat.le_trans (aput_le _ _ _) (by have := h.cl; omega), hs.Sl, fun e he => ?_⟩
 rcases mem_aput he with rfl | he
 ·dsimp only; omega
 ·have := h.bd e he; omega
theorem disP_ok {l : List Play} {m : Str} {n : Int} : ∀ (t : List Play) (q : DisS) (i : Nat), DisOk q i → (∀ x ∈ t, playFault x = 0) → DisOk (t.foldl (disP l m n) q) (i + t.length)
 | [], q, i, h, _ => h
 | x :: t, q, i, h, ht => by
   have h1 : DisOk (disP l m n q x) (i + 1) := by
    unfold disP; split
    ·exact h.up
    ·split
     ·exact h.put (ht x List.mem_cons_self)
     ·exact h.sput (ht x List.mem_cons_self)
   have := disP_ok (l := l) (m := m) (n := n) t _ (i + 1) h1 fun y hy => ht y (List.mem_cons_of_mem _ hy)
   rw [List.foldl_cons, List.length_cons, show i + (t.length + 1) = i + 1 + t.length by omega]
   exact this
theorem disR_ok {l : List Play} {m : Str} {n : Int} : ∀ (t : List Play) (q : DisS) (i : Nat), DisOk q i → (∀ x ∈ t, playFault x = 0) → DisOk (t.foldl (disR l m n) q) (i + t.length)
 | [], q, i, h, _ => h
 | x :: t, q, i, h, ht => by
   have h1 : DisOk (disR l m n q x) (i + 1) := by
    unfold disR; split
    ·exact h.up
    ·split
     ·exact h.put (ht x List.mem_cons_self)
     ·exact h.sput (ht x List.mem_cons_self)
   have := disR_ok (l := l) (m := m) (n := n) t _ (i + 1) h1 fun y hy => ht y (List.mem_cons_of_mem _ hy)
   rw [List.foldl_cons, List.length_cons, show i + (t.length + 1) = i + 1 + t.length by omega]
   exact this
def disPs (l : List Play) (m : Str) (n : Int) (t : List Play) : DisS := t.foldl (disP l m n) ⟨[], []⟩
def disRs (l : List Play) (m : Str) (n : Int) (t : List Play) : DisS := t.foldl (disR l m n) ⟨[], []⟩
theorem dis0_ok : DisOk ⟨[], []⟩ 0 := ⟨ANodup.nil, List.nodup_nil, (fun s h => by cases h), Nat.le_refl _, Nat.le_refl _, fun e h => by cases h⟩
theorem disPs_ok {l : List Play} {m : Str} {n : Int} {t : List Play} (ht : ∀ x ∈ t, playFault x = 0) : DisOk (disPs l m n t) t.length := by
 have := disP_ok (l := l) (m := m) (n := n) t ⟨[], []⟩ 0 dis0_ok ht
 rw [Nat.zero_add] at this; exact this
theorem disRs_ok {l : List Play} {m : Str} {n : Int} {t : List Play} (ht : ∀ x ∈ t, playFault x = 0) : DisOk (disRs l m n t) t.length := by
 have := disR_ok (l := l) (m := m) (n := n) t ⟨[], []⟩ 0 dis0_ok ht
 rw [Nat.zero_add] at this; exact this
theorem disPs_snoc {l t : List Play} {m : Str} {n : Int} {k : Nat} {x : Play} (h : t[k]? = some x) : disPs l m n (t.take (k + 1)) = disP l m n (disPs l m n (t.take k)) x := by
 rw [take_snoc' h]; simp [disPs, List.foldl_append]
theorem disRs_snoc {l t : List Play} {m : Str} {n : Int} {k : Nat} {x : Play} (h : t[k]? = some x) : disRs l m n (t.take (k + 1)) = disR l m n (disRs l m n (t.take k)) x := by
 rw [take_snoc' h]; simp [disRs, List.foldl_append]
theorem disPR {l : List Play} {m : Str} {n : Int} {t : List Play} (ht : ∀ x ∈ t, playFault x = 0) : (disPs l m n t).S = (disRs l m n t).S ∧ ∀ s k, disAt (disPs l m n t) s k = disAt (disRs l m n t) s k :=
 dis_same t _ _ ht rfl fun _ _ => rfl
/-- Who tells of a match is a source. -/
theorem disR_src {l : List Play} {m : Str} {n : Int} : ∀ (t : List Play) (q : DisS), ∀ s ∈ (t.foldl (disR l m n) q).S, s ∈ q.S ∨ ∃ x ∈ t, x.Source = s
 | [], q, s, h => .inl h
 | x :: t, q, s, h => by
   rw [List.foldl_cons] at h
   rcases disR_src t _ s h with h | ⟨y, hy, e⟩
   ·unfold disR at h
    split at h
    ·exact .inl h
    ·rcases mem_sadd.1 h with rfl | h
     ·exact .inr ⟨x, List.mem_cons_self, rfl⟩
     ·exact .inl h
   ·exact .inr ⟨y, List.mem_cons_of_mem _ hy, e⟩
theorem playsE_src {l : List Play} (h : playsE l = 0) : (chkSt l).S.length ≤ 20 := by
 obtain ⟨h1, h2⟩ := playsE_ok h
 rw [playsE_tail h1 h2] at h
 unfold playsTail at h
 split at h
 ·omega
 ·omega
theorem disR_few {l : List Play} {m : Str} {n : Int} (h : playsE l = 0) : (disRs l m n l).S.length ≤ 20 := by
 have a := chk_is l
 have hS := (disRs_ok (l := l) (m := m) (n := n) (plays_fault h)).S
 refine Nat.le_trans (nodup_le hS fun s hs => ?_) (playsE_src h)
 rcases disR_src l _ s hs with h | h
 ·cases h
 ·exact (a.s s).2 h
theorem disP_few {l : List Play} {m : Str} {n : Int} (h : playsE l = 0) : (disPs l m n l).S.length ≤ 20 := by
 rw [(disPR (plays_fault h)).1]; exact disR_few h
/-- The things that are told of, in order. -/
def kAll (l : List Play) (m : Str) (n : Int) : List Of2 := uniqO none (isort byOf (allOf l m n))
theorem kAll_is (l : List Play) (m : Str) (n : Int) : (kAll l m n).Pairwise OLt ∧ ∀ k, k ∈ kAll l m n ↔ k ∈ allOf l m n := by
 refine uniqO_of (isort_perm _ _) ?_
 refine (isort_sorted byOf_cmp (l := allOf l m n) fun _ _ => trivial).imp fun {a b} h => ?_
 rw [byOf_flip]; omega
theorem allOf_len (l : List Play) (m : Str) (n : Int) : (allOf l m n).length ≤ l.length := by
 unfold allOf; rw [List.length_map]; exact List.length_filter_le _ _
theorem uniqO_len : ∀ (l : List Of2) (p : Option Of2), (uniqO p l).length ≤ l.length
 | [], _ => by simp [uniqO]
 | x :: r, p => by
   have := uniqO_len r (some x)
   simp only [uniqO]
   split
   ·simp; omega
   ·simp; omega
theorem kAll_len (l : List Play) (m : Str) (n : Int) : (kAll l m n).length ≤ l.length := by
 have h1 := uniqO_len (isort byOf (allOf l m n)) none
 rw [isort_len] at h1
 have := allOf_len l m n
 unfold kAll; omega
theorem kAll_of {l : List Play} {m : Str} {n : Int} {L : List Of2} (hp : L.Perm (allOf l m n)) (hs : L.Pairwise fun a b => ¬ byOf b a < 0) : uniqO none L = kAll l m n := by
 obtain ⟨a1, a2⟩ := uniqO_of hp hs
 obtain ⟨b1, b2⟩ := kAll_is l m n
 exact ostrict_ext a1 b1 fun k => by rw [a2, b2]
theorem disR_in {l : List Play} {m : Str} {n : Int} {s : Str} {k : Of2} (h : disAt (disRs l m n l) s k ≠ 0) : k ∈ kAll l m n := by
 rw [(kAll_is l m n).2]
 have := dis_all (l := l) (m := m) (n := n) l ⟨[], []⟩ [] (fun s k h => by simp [alk] at h) s k fun e => h (by
  show (alk (s, k) (List.foldl (disR l m n) ⟨[], []⟩ l).c).getD 0 = 0
  rw [e]; rfl)
 simpa using this
theorem disR_diff {l : List Play} {m : Str} {n : Int} {a b : Str} {k : Of2} (h : disAt (disRs l m n l) a k ≠ disAt (disRs l m n l) b k) : k ∈ kAll l m n := by
 by_cases h1 : disAt (disRs l m n l) a k = 0
 ·by_cases h2 : disAt (disRs l m n l) b k = 0
  ·exact absurd (h1.trans h2.symm) h
  ·exact disR_in h2
 ·exact disR_in h1
/-- All disagreements: the references' way. -/
def disRef (l : List Play) (m : Str) (n : Int) : List ApartS := disL m (disAt (disRs l m n l)) (onceL (disRs l m n l).S) (kAll l m n)
def DisE (l : List Play) (m : Str) (n : Int) : Int := if playsE l != 0 then playsE l else if !(key m) then 5 else if !(moment n) then 1 else 0
def DisL (l : List Play) (m : Str) (n : Int) : List ApartS := if playsE l != 0 then [] else if !(key m) then [] else if !(moment n) then [] else disRef l m n
theorem disTo_len (m : Str) (g : Str → Of2 → Int) (K : List Of2) (a : Str) : ∀ r : List Str, (disTo m g K a r).length ≤ r.length * K.length
 | [] => by simp [disTo]
 | b :: r => by
   have ih := disTo_len m g K a r
   have := apartL_len m a b (g a) (g b) K
   unfold disTo at *
   rw [List.flatMap_cons, List.length_append, List.length_cons, Nat.add_mul]; omega
theorem disTo_snoc (m : Str) (g : Str → Of2 → Int) (K : List Of2) (a b : Str) (r : List Str) : disTo m g K a (r ++ [b]) = disTo m g K a r ++ apartL m a b (g a) (g b) K := by
 unfold disTo; rw [List.flatMap_append]; simp
theorem disUp_len (m : Str) (g : Str → Of2 → Int) (K : List Of2) (S : List Str) : ∀ i : Nat, (disUp m g K S i).length ≤ i * (S.length * K.length)
 | 0 => by simp [disUp]
 | i + 1 => by
   have ih := disUp_len m g K S i
   have h2 := disTo_len m g K (S.getD i []) (S.drop (i + 1))
   have h3 : (S.drop (i + 1)).length * K.length ≤ S.length * K.length := Nat.mul_le_mul_right _ (by simp)
   rw [disUp_succ, List.length_append, Nat.succ_mul]; omega
/-- Small enough to be kept. -/
theorem dis_room {m : Str} {g : Str → Of2 → Int} {K : List Of2} {S : List Str} (hS : S.length ≤ 20) (hK : K.length ≤ 3000) {i j : Nat} (hi : i ≤ 20) (a : Str) : (disUp m g K S i).length + (disTo m g K a ((S.drop (i + 1)).take j)).length ≤ 2000000 := by
 have h1 := disUp_len m g K S i
 have h2 := disTo_len m g K a ((S.drop (i + 1)).take j)
 have h3 : ((S.drop (i + 1)).take j).length ≤ 20 := by simp; omega
 have h4 : ((S.drop (i + 1)).take j).length * K.length ≤ 20 * 3000 := Nat.mul_le_mul h3 hK
 have h5 : S.length * K.length ≤ 20 * 3000 := Nat.mul_le_mul hS hK
 have h6 : i * (S.length * K.length) ≤ 20 * (20 * 3000) := Nat.mul_le_mul hi h5
 omega
end Go.HL
end
section
namespace Go.Proofs.YtihpgpbbpklbbaaGreatDoor
open Go.HL
set_option maxRecDepth 100000
set_option linter.unusedVariables false
set_option linter.unusedSimpArgs false
theorem c_keys_65 [Tracks] {b : Nat} : Con Tryz.prog 65 [.raw (.map (some b))] [] fun x M' => ∃ bx, x = .fn (.func 115) [] [.raw (.pointer (some ⟨bx, 0, none⟩))] ∧ M' = [.cells bx [.raw (.map (some b))]] :=
 con_keys (ρ := Tryz.g65_ren) Tryz.g65
theorem c_sorted_65 [Tracks] (hT : Tracks.on = false) {α : Type} {f : α → HVal} {l : List (Str × α)} (hn : ANodup l) (hl : ∀ p ∈ l, p.1.length ≤ 1000000) (hs : l.length ≤ 1000000) {b bx : Nat} :
 Con Tryz.prog 64 [.fn (.func 115) [] [.raw (.pointer (some ⟨bx, 0, none⟩))]] [.cells bx [.raw (.map (some b))], .map b (sk (em f l))] fun x M' => ∃ v, x = .raw v ∧ M' = [.arr v 1 ((sortS (l.map (·.1))).map .str), .map b (sk (em f l))] :=
 con_sorted hT (ρ := Tryz.g64_ren) (ρk := Tryz.g65_ren) Tryz.g64 Tryz.g65 sortsIn (enters_of Tryz.func114 (by kernel_rfl) rfl) (enters_of Tryz.func115 (by kernel_rfl) rfl) hn hl hs
theorem c_keys_69 [Tracks] {b : Nat} : Con Tryz.prog 69 [.raw (.map (some b))] [] fun x M' => ∃ bx, x = .fn (.func 117) [] [.raw (.pointer (some ⟨bx, 0, none⟩))] ∧ M' = [.cells bx [.raw (.map (some b))]] :=
 con_keys (ρ := Tryz.g69_ren) Tryz.g69
theorem c_sorted_69 [Tracks] (hT : Tracks.on = false) {α : Type} {f : α → HVal} {l : List (Str × α)} (hn : ANodup l) (hl : ∀ p ∈ l, p.1.length ≤ 1000000) (hs : l.length ≤ 1000000) {b bx : Nat} :
 Con Tryz.prog 64 [.fn (.func 117) [] [.raw (.pointer (some ⟨bx, 0, none⟩))]] [.cells bx [.raw (.map (some b))], .map b (sk (em f l))] fun x M' => ∃ v, x = .raw v ∧ M' = [.arr v 1 ((sortS (l.map (·.1))).map .str), .map b (sk (em f l))] :=
 con_sorted hT (ρ := Tryz.g64_ren) (ρk := Tryz.g69_ren) Tryz.g64 Tryz.g69 sortsIn (enters_of Tryz.func114 (by kernel_rfl) rfl) (enters_of Tryz.func117 (by kernel_rfl) rfl) hn hl hs
/-- slices.SortFunc -/
theorem c_sort_Apart [Tracks] {c : ApartS → ApartS → Int} (hO : Go.Sort.SWO (Go.Proofs.ltOf c)) {g : FuncId} (hg : Callable Tryz.prog g) {cap : List HVal} (hc : ∀ x y, @ConP trackOn Tryz.prog g (eApart x :: eApart y :: cap) (.int .i64 (c x y))) {l : List ApartS} (hl : l.length ≤ 1000000) {v : Value} :
 Con Tryz.prog 118 [.raw v, .fn (.func g) [] cap] [.arr v 7 (l.map eApart)] fun x M' => ∃ l' : List ApartS, x = .tup [] ∧ l'.Perm l ∧ l'.Pairwise (fun a b => ¬ c b a < 0) ∧ M' = [.arr v 7 (l'.map eApart)] :=
 con_sortf (e := eApart) Tryz.g118 (Tryz.isAgg60) (Tryz.sizeOf60) (fun _ => rfl) (fun _ => rfl) (fun _ => rfl) hO hg hc hl

set_option maxHeartbeats 1000000 in
/-- benchwarmer/play.Told -/
theorem c_play_Told [Tracks] {l : List Play} {trust : List Str} {n : Int} (hT : Tracks.on = false) (hl : l.length ≤ 1000000) (ht : trust.length ≤ 1000000) : ConP Tryz.prog 15 [ePlays l, eSs trust, .int .i64 n] (.tup [ePairs (ToldL l trust n), .int .i64 (ToldE l trust n)]) := by
 refine Con.of_body Tryz.func15 rfl Tryz.ntmps15 rfl rfl ?_
 refine hw_reg ?_
 refine dp rfl (pop_assign rfl) ?_
 refine dp rfl (pop_assign rfl) ?_
 refine dn ?_
 refine hw_seq ?_
 refine hw_reg ?_
 refine dp rfl (pop_move rfl) ?_
 refine dp rfl (pop_call ca61 rfl (WeakL.refl _) (c_play_CheckPlays (by assumption))) ?_
 refine dp rfl (pop_move rfl) ?_
 refine dp rfl (pop_call ca14 rfl (WeakL.refl _) (c_play_CheckTrust (by assumption))) ?_
 refine dp rfl (pop_buildSlice (hs := [_, _]) ty124 ty33 rfl rfl (by decide) (by decide) rfl) ?_
 refine dp rfl (pop_call ca60 rfl (WeakL.refl _) (c_base_First (l := [_, _]) (by simp))) ?_
 refine dp rfl (pop_assign rfl) ?_
 refine dn ?_
 refine hw_reg ?_
 refine dp rfl (pop_move rfl) ?_
 refine dp rfl (pop_neq rfl rfl) ?_
 refine dn ?_
 refine hw_cond rfl (fun h1 => ?_) (fun h2 => ?_)
 ·try simp at h1
  refine hw_reg ?_
  refine dp rfl (pop_move rfl) ?_
  refine dp rfl (pop_assign rfl) ?_
  refine dp rfl (pop_assign rfl) ?_
  refine dn ?_
  refine hw_ret ?_
  exact ret_w rfl (weak_tup2 (by rw [ToldL, if_pos (by simpa using h1)]; exact weak_nil 2) (by rw [ToldE, if_pos (by simpa using h1)]; exact Weak.refl _))
 ·try simp at h2
  refine hw_skip ?_
  refine seqQ_n ?_
  refine hw_seq ?_
  refine hw_reg ?_
  refine dp rfl (pop_move rfl) ?_
  refine dp rfl (pop_call ca62 rfl (WeakL.refl _) c_base_Moment) ?_
  refine dp rfl (pop_not rfl) ?_
  refine dn ?_
  refine hw_cond rfl (fun h3 => ?_) (fun h4 => ?_)
  ·try simp at h3
   refine hw_reg ?_
   refine dp rfl (pop_assign rfl) ?_
   refine dp rfl (pop_assign rfl) ?_
   refine dn ?_
   refine hw_ret ?_
   exact ret_w rfl (weak_tup2 (by rw [ToldL, if_neg (by simpa using h2), if_pos (by simp_all)]; exact weak_nil 2) (by rw [ToldE, if_neg (by simpa using h2), if_pos (by simp_all)]; exact Weak.refl _))
  ·try simp at h4
   refine hw_skip ?_
   refine seqQ_n ?_
   have hz := okPT (show orI [playsE l, trustE trust] = 0 by simpa using h2)
   have hpf := plays_fault hz.1
   refine hw_reg ?_
   refine dp rfl (pop_move rfl) ?_
   refine dp rfl (pop_move rfl) ?_
   refine dp rfl (pop_move rfl) ?_
   refine de rfl (eop_callf (M1 := []) (R := []) ca63 rfl (WeakL.refl _) (List.Perm.refl _) (c_play_told (l := l) (trust := trust) (n := n) hl ht) ?_)
   rintro _ _ ⟨b9, O9, rfl, hn9, hO9, rfl⟩
   refine dp rfl (pop_assign rfl) ?_
   refine dn ?_
   refine hw_reg ?_
   refine dp rfl (pop_assign rfl) ?_
   refine dn ?_
   have htl := told_len hn9 hO9
   have hsl : (sortS (O9.map (·.1))).length = O9.length := by rw [sortS_len, List.length_map]
   refine hw_ghost (Ghost.arr_nil 2) ?_
   refine hw_seq ?_
   refine hw_reg ?_
   refine dp rfl (pop_move rfl) ?_
   refine de rfl (eop_callf (M1 := []) (R := _) ca65 rfl (WeakL.refl _) (List.Perm.refl _) c_keys_65 ?_)
   rintro _ _ ⟨bx, rfl, rfl⟩
   refine de rfl (EOp.fzi (N := [.map b9 (sk (em HVal.str O9))] ++ [.arr (.slice none 0 0) 2 []]) (sz := 1) (es := (sortS (O9.map (·.1))).map .str) 0 (eop_callf (M1 := [.cells bx [.raw (.map (some b9))], .map b9 (sk (em HVal.str O9))]) (R := [.arr (.slice none 0 0) 2 []]) ca64 rfl (WeakL.refl _) (List.Perm.cons _ (List.Perm.swap _ _ _)) (c_sorted_65 hT hn9 (told_short hpf hn9 hO9) (by omega)) (by rintro _ _ ⟨v, rfl, rfl⟩; exact ⟨v, rfl, rfl, rfl⟩)) ?_)
   refine dp rfl (pop_lenm (f := HVal.str) (l := (sortS (O9.map (·.1)))) ty28 rfl) ?_
   refine dp rfl (pop_move rfl) ?_
   refine dn ?_
   refine hw_block ?_
   refine hw_loopw2 [10, 12, 33, 34, 35, 36, 37, 38, 39, 40, 41, 42, 43, 44, 45] (fun (k : Nat) (u : Value) => [(33, .int .i64 k), (10, .raw u)]) (fun (k : Nat) (u : Value) => [.map b9 (sk (em HVal.str O9)), .arr u 2 ((((sortS (O9.map (·.1))).take k).map (tp O9)).map ePair)]) (fun (k : Nat) (u : Value) => k ≤ (sortS (O9.map (·.1))).length ∧ (True)) (fun (k : Nat) (u : Value) => (sortS (O9.map (·.1))).length - k) (0) (.slice none 0 0) ?_ ?_ ?_ ?_
   ·exact ⟨Nat.zero_le _, trivial⟩
   ·exact ⟨rfl, rfl, trivial⟩
   ·exact List.Perm.refl _
   ·intro k u hinv
    obtain ⟨hk, -⟩ := hinv
    refine hw_reg ?_
    refine dp rfl (pop_lss rfl rfl) ?_
    refine dn ?_
    refine hw_seq ?_
    refine hw_cond rfl (fun h5 => ?_) (fun h6 => ?_)
    ·try simp at h5
     obtain ⟨x, hx⟩ : ∃ x, (sortS (O9.map (·.1)))[k]? = some x := ⟨_, List.getElem?_eq_getElem h5⟩
     have hdx := drop_cons hx
     refine hw_skip ?_
     refine seqQ_n ?_
     refine hw_seq ?_
     refine hw_block ?_
     refine hw_reg ?_
     refine dp rfl (pop_idx (f := HVal.str) (l := (sortS (O9.map (·.1)))) (j := k) (a := x) ty28 ty9 rfl rfl rfl hx) ?_
     refine dp rfl (pop_load ty9 rfl rfl rfl) ?_
     refine dp rfl (pop_assign rfl) ?_
     refine dn ?_
     refine hw_reg1 ?_
     refine dp rfl (pop_move rfl) ?_
     refine dp rfl (pop_move rfl) ?_
     refine dp rfl (pop_move rfl) ?_
     refine dp rfl (pop_move rfl) ?_
     refine de rfl (eop_lookupA (i := 0) (z0 := ([] : Str)) ty107 ty9 ty9 rfl rfl rfl rfl ?_)
     refine dp rfl (pop_build (cs := [_, _]) ty52 pl52 rfl) ?_
     refine dp rfl (pop_buildSlice (hs := [_]) ty36 ty52 rfl rfl (by decide) (by decide) rfl) ?_
     refine de rfl (eop_append (i := 1) ty36 ty52 rfl rfl rfl rfl rfl (by simp [flat, hcells]) (by simp; omega) fun v44 => ?_)
     refine dp rfl (pop_assign rfl) ?_
     refine dn ?_
     refine blockQ_n ?_
     refine seqQ_n ?_
     refine hw_reg1 ?_
     refine dp rfl (pop_add64 rfl rfl (by omega) (by omega)) ?_
     refine dp rfl (pop_move rfl) ?_
     refine dn ?_
     exact ⟨k + 1, v44, ⟨by omega, trivial⟩, by dsimp only; omega, ⟨rfl, rfl, trivial⟩, (by repeat (first | exact keeps_refl | refine keeps_upd rfl ?_ | refine keeps_loop rfl rfl ?_)), perm_eq (by dsimp only; rw [take_snoc' hx, List.map_append, List.map_append]; rfl)⟩
    ·try simp at h6
     have hnk : (sortS (O9.map (·.1))).length ≤ k := by omega
     obtain rfl : k = (sortS (O9.map (·.1))).length := by omega
     refine hw_exit ?_
     refine seqQ_x ?_
     refine loopQ2_x ?_
     refine blockQ_eq ?_
     refine seqQ_n ?_
     rw [List.take_length, told_done hn9 hO9 hz.2]
     refine hw_ghost (Ghost.fa 10 (i := 1) rfl rfl) ?_
     refine hw_reg ?_
     refine dp rfl (pop_move rfl) ?_
     refine dp rfl (pop_assign rfl) ?_
     refine dp rfl (pop_assign rfl) ?_
     refine dn ?_
     refine hw_ret ?_
     (refine ret_g Ghost.clear rfl ⟨?_, rfl⟩
      rw [ToldL, ToldE, if_neg (by simpa using h2), if_neg (by simp_all), if_neg (by simpa using h2), if_neg (by simp_all)]; rfl)

/-- benchwarmer/play.apart$1 -/
theorem c_play_apart_1 [Tracks] {a b : ApartS}  : ConP Tryz.prog 119 [eApart a, eApart b] (.int .i64 (byApart a b)) := by
 refine Con.of_body Tryz.func119 rfl Tryz.ntmps119 rfl rfl ?_
 refine hw_reg ?_
 refine dp rfl (pop_box rfl rfl) ?_
 refine dp rfl (pop_box rfl rfl) ?_
 refine dp rfl (pop_assign rfl) ?_
 refine dn ?_
 refine hw_draw (fun _ => True) [] mixed ?_
 refine ahp 0 rfl rfl (by kernel_rfl) (by kernel_rfl) (pop_fieldAddr ty60 rfl ty9 (by decide) rfl) ?_
 refine ahp 1 rfl rfl (by kernel_rfl) (by kernel_rfl) (pop_load ty9 rfl rfl rfl) ?_
 refine ahp 2 rfl rfl (by kernel_rfl) (by kernel_rfl) (pop_fieldAddr ty60 rfl ty9 (by decide) rfl) ?_
 refine ahp 3 rfl rfl (by kernel_rfl) (by kernel_rfl) (pop_load ty9 rfl rfl rfl) ?_
 refine ahp 4 rfl rfl (by kernel_rfl) (by kernel_rfl) (pop_call ca81 rfl (WeakL.refl _) c_strings_Compare) ?_
 refine ahp 5 rfl rfl (by kernel_rfl) (by kernel_rfl) (pop_fieldAddr ty60 rfl ty9 (by decide) rfl) ?_
 refine ahp 6 rfl rfl (by kernel_rfl) (by kernel_rfl) (pop_load ty9 rfl rfl rfl) ?_
 refine ahp 7 rfl rfl (by kernel_rfl) (by kernel_rfl) (pop_fieldAddr ty60 rfl ty9 (by decide) rfl) ?_
 refine ahp 8 rfl rfl (by kernel_rfl) (by kernel_rfl) (pop_load ty9 rfl rfl rfl) ?_
 refine ahp 9 rfl rfl (by kernel_rfl) (by kernel_rfl) (pop_call ca81 rfl (WeakL.refl _) c_strings_Compare) ?_
 refine ahp 10 rfl rfl (by kernel_rfl) (by kernel_rfl) (pop_buildSlice (hs := [_, _]) ty22 ty3 rfl rfl (by decide) (by decide) rfl) ?_
 refine ahp 11 rfl rfl (by kernel_rfl) (by kernel_rfl) (pop_call ca80 rfl (WeakL.refl _) (c_cmp_Or_int (l := [_, _]) (by simp))) ?_
 refine ahp 12 rfl rfl (by kernel_rfl) (by kernel_rfl) (pop_assign rfl) ?_
 refine ahz (by kernel_rfl) ?_
 refine hw_ret ?_
 refine ret_p rfl ?_
 rfl

set_option maxHeartbeats 1000000 in
/-- benchwarmer/play.apart -/
theorem c_play_apart [Tracks] {bs ba bb : Nat} {os : List (Str × Option Nat)} {La Lb : List (Of2 × Int)} {m one two : Str} {K : List Of2} (ho1 : alk one os = some (some ba)) (ho2 : alk two os = some (some bb)) (hla : La.length ≤ 3000) (hlb : Lb.length ≤ 3000) (hna : ANodup La) (hnb : ANodup Lb) (hK : K.Pairwise OLt) (hin : ∀ k, gOf La k ≠ gOf Lb k → k ∈ K) : Con Tryz.prog 70 [.str m, .str one, .str two, .raw (.map (some bs))] [.map bs (sk (em fM os)), .map ba (kk eOf (em (HVal.int .i64) La)), .map bb (kk eOf (em (HVal.int .i64) Lb))] (fun x M' => x = eAparts (apartL m one two (gOf La) (gOf Lb) K) ∧ M' = [.map bs (sk (em fM os)), .map ba (kk eOf (em (HVal.int .i64) La)), .map bb (kk eOf (em (HVal.int .i64) Lb))]) := by
 refine Con.of_body Tryz.func70 rfl Tryz.ntmps70 rfl rfl ?_
 refine hw_reg ?_
 refine dp rfl (pop_assign rfl) ?_
 refine dn ?_
 refine hw_draw (fun M => M = [.map bs (sk (em fM os)), .map ba (kk eOf (em (HVal.int .i64) La)), .map bb (kk eOf (em (HVal.int .i64) Lb))]) [2, 5] mixed ?_
 refine ahp 0 rfl rfl (by kernel_rfl) (by kernel_rfl) (pop_move rfl) ?_
 refine ahp 1 rfl rfl (by kernel_rfl) (by kernel_rfl) (pop_move rfl) ?_
 refine ahl 2 rfl rfl (by kernel_rfl) (by kernel_rfl) (by simp) rfl (fun M hM => by subst hM; exact eop_lookupA (i := 0) (f := fM) (z0 := none) ty115 ty9 ty117 rfl rfl rfl rfl ⟨rfl, rfl⟩) ?_
 rw [ho1]
 refine ahp 3 rfl rfl (by kernel_rfl) (by kernel_rfl) (pop_move rfl) ?_
 refine ahp 4 rfl rfl (by kernel_rfl) (by kernel_rfl) (pop_move rfl) ?_
 refine ahl 5 rfl rfl (by kernel_rfl) (by kernel_rfl) (by simp) rfl (fun M hM => by subst hM; exact eop_lookupA (i := 0) (f := fM) (z0 := none) ty115 ty9 ty117 rfl rfl rfl rfl ⟨rfl, rfl⟩) ?_
 rw [ho2]
 refine ahp 6 rfl rfl (by kernel_rfl) (by kernel_rfl) (pop_assign rfl) ?_
 refine ahp 7 rfl rfl (by kernel_rfl) (by kernel_rfl) (pop_assign rfl) ?_
 refine ahz (by kernel_rfl) ?_
 refine hw_reg ?_
 refine de rfl (eop_makeMap fun m22 => ?_)
 refine dp rfl (pop_assign rfl) ?_
 refine dn ?_
 refine hw_seq ?_
 refine hw_reg ?_
 refine dp rfl (pop_move rfl) ?_
 refine de rfl (eop_range (i := 2) ty117 rfl rfl fun r1 => ?_)
 refine dn ?_
 refine hw_block ?_
 refine hw_loopw2 [12, 25, 26, 27, 28, 29, 30] (fun (vis : List Nat) (E : List (Of2 × Int)) => []) (fun (vis : List Nat) (E : List (Of2 × Int)) => [.map m22 (kk eOf (em HVal.bool (setO (E.map (·.1))))), .map bs (sk (em fM os)), .iter r1 ba (kk eOf (em (HVal.int .i64) La)) vis, .map bb (kk eOf (em (HVal.int .i64) Lb))]) (fun (vis : List Nat) (E : List (Of2 × Int)) => VisOk (La) vis E ∧ (True)) (fun (vis : List Nat) (E : List (Of2 × Int)) => (La).length - vis.length) ([]) ([]) ?_ ?_ ?_ ?_
 ·exact ⟨VisOk.nil _, trivial⟩
 ·exact trivial
 ·exact perm_eq rfl
 ·intro vis E hinv
  obtain ⟨hvis, -⟩ := hinv
  refine hw_reg ?_
  refine de rfl (eop_nextA (i := 2) (L := La) (enc := (fun p : Of2 × Int => (eOf p.1, HVal.int .i64 p.2))) rfl rfl (kk_em _ _ _) hvis.nd hvis.lt fun cb R vis' hnx => ?_)
  refine dp rfl (pop_extract rfl rfl) ?_
  refine dn ?_
  refine hw_seq ?_
  refine hw_cond rfl (fun h1 => ?_) (fun h2 => ?_)
  ·try simp at h1
   obtain ⟨j, q, hq, hj, rfl⟩ := hnx.t h1
   have hroom := hvis.room hq hj
   have hstep := hvis.step hq hj
   have hqm := List.mem_of_getElem? hq
   refine hw_skip ?_
   refine seqQ_n ?_
   refine hw_block ?_
   refine hw_reg ?_
   refine de rfl (eop_entryA (i := 2) (L := La) (enc := (fun p : Of2 × Int => (eOf p.1, HVal.int .i64 p.2))) rfl rfl (kk_em _ _ _) hq ?_)
   refine dp rfl (pop_extract rfl rfl) ?_
   refine de rfl (eop_alloc ty121 rfl fun b12 => ?_)
   refine de0 (eop_storew ty121 rfl rfl rfl rfl rfl ?_)
   refine dn ?_
   refine hw_ghost (Ghost.fc0 12 rfl) ?_
   refine hw_reg1 ?_
   refine dp rfl (pop_move rfl) ?_
   refine dp rfl (pop_loadw ty121 rfl rfl rfl rfl) ?_
   refine de0 (eop_updatekA (i := 0) (s := q.1) (v := true) ty179 ok121 rfl rfl rfl rfl ?_)
   refine dn ?_
   refine blockQ_n ?_
   exact ⟨_, E ++ [q], ⟨hstep, trivial⟩, by dsimp only; rw [List.length_append]; simp only [List.length_cons, List.length_nil]; omega, trivial, (by repeat (first | exact keeps_refl | refine keeps_upd rfl ?_ | refine keeps_loop rfl rfl ?_)), perm_eq (by dsimp only; rw [List.map_append, show [q].map (fun p : Of2 × Int => p.1) = [q.1] from rfl, setO_snoc]; rfl)⟩
  ·try simp at h2
   obtain ⟨rfl, hlen⟩ := hnx.f h2
   have hEp := hvis.done hlen
   refine hw_exit ?_
   refine seqQ_x ?_
   refine loopQ2_x ?_
   refine blockQ_eq ?_
   refine seqQ_n ?_
   refine hw_seq ?_
   refine hw_ghost (Ghost.iterOver (i := 2) rfl) ?_
   rename List (Of2 × Int) => E1
   have hE1 := hEp
   clear hEp
   refine hw_ghost (Ghost.of_eq (M' := [.map m22 (kk eOf (em HVal.bool (setO (E1.map (·.1))))), .map bs (sk (em fM os)), .map ba (kk eOf (em (HVal.int .i64) La)), .map bb (kk eOf (em (HVal.int .i64) Lb))]) rfl) ?_
   refine hw_reg ?_
   refine dp rfl (pop_move rfl) ?_
   refine de rfl (eop_range (i := 3) ty117 rfl rfl fun r2 => ?_)
   refine dn ?_
   refine hw_block ?_
   refine hw_loopw2 [13, 33, 34, 35, 36, 37, 38] (fun (vis : List Nat) (E : List (Of2 × Int)) => []) (fun (vis : List Nat) (E : List (Of2 × Int)) => [.map m22 (kk eOf (em HVal.bool (setO (E1.map (·.1) ++ E.map (·.1))))), .map bs (sk (em fM os)), .map ba (kk eOf (em (HVal.int .i64) La)), .iter r2 bb (kk eOf (em (HVal.int .i64) Lb)) vis]) (fun (vis : List Nat) (E : List (Of2 × Int)) => VisOk (Lb) vis E ∧ (True)) (fun (vis : List Nat) (E : List (Of2 × Int)) => (Lb).length - vis.length) ([]) ([]) ?_ ?_ ?_ ?_
   ·exact ⟨VisOk.nil _, trivial⟩
   ·exact trivial
   ·exact perm_eq (by simp)
   ·intro vis E hinv
    obtain ⟨hvis, -⟩ := hinv
    refine hw_reg ?_
    refine de rfl (eop_nextA (i := 3) (L := Lb) (enc := (fun p : Of2 × Int => (eOf p.1, HVal.int .i64 p.2))) rfl rfl (kk_em _ _ _) hvis.nd hvis.lt fun cb R vis' hnx => ?_)
    refine dp rfl (pop_extract rfl rfl) ?_
    refine dn ?_
    refine hw_seq ?_
    refine hw_cond rfl (fun h3 => ?_) (fun h4 => ?_)
    ·try simp at h3
     obtain ⟨j, q, hq, hj, rfl⟩ := hnx.t h3
     have hroom := hvis.room hq hj
     have hstep := hvis.step hq hj
     have hqm := List.mem_of_getElem? hq
     refine hw_skip ?_
     refine seqQ_n ?_
     refine hw_block ?_
     refine hw_reg ?_
     refine de rfl (eop_entryA (i := 3) (L := Lb) (enc := (fun p : Of2 × Int => (eOf p.1, HVal.int .i64 p.2))) rfl rfl (kk_em _ _ _) hq ?_)
     refine dp rfl (pop_extract rfl rfl) ?_
     refine de rfl (eop_alloc ty121 rfl fun b13 => ?_)
     refine de0 (eop_storew ty121 rfl rfl rfl rfl rfl ?_)
     refine dn ?_
     refine hw_ghost (Ghost.fc0 13 rfl) ?_
     refine hw_reg1 ?_
     refine dp rfl (pop_move rfl) ?_
     refine dp rfl (pop_loadw ty121 rfl rfl rfl rfl) ?_
     refine de0 (eop_updatekA (i := 0) (s := q.1) (v := true) ty179 ok121 rfl rfl rfl rfl ?_)
     refine dn ?_
     refine blockQ_n ?_
     exact ⟨_, E ++ [q], ⟨hstep, trivial⟩, by dsimp only; rw [List.length_append]; simp only [List.length_cons, List.length_nil]; omega, trivial, (by repeat (first | exact keeps_refl | refine keeps_upd rfl ?_ | refine keeps_loop rfl rfl ?_)), perm_eq (by dsimp only; rw [List.map_append (l₂ := [q]), show [q].map (fun p : Of2 × Int => p.1) = [q.1] from rfl, ← List.append_assoc, setO_snoc]; rfl)⟩
    ·try simp at h4
     obtain ⟨rfl, hlen⟩ := hnx.f h4
     have hEp := hvis.done hlen
     refine hw_exit ?_
     refine seqQ_x ?_
     refine loopQ2_x ?_
     refine blockQ_eq ?_
     refine seqQ_n ?_
     refine hw_ghost (Ghost.iterOver (i := 3) rfl) ?_
     rename List (Of2 × Int) => E2
     have hE2 := hEp
     clear hEp
     have hSl := setO_len (E1.map (·.1) ++ E2.map (·.1)) []
     have hl1 := hE1.length_eq
     have hl2 := hE2.length_eq
     simp only [List.length_append, List.length_map, List.length_nil] at hSl
     refine hw_ghost (Ghost.of_eq (M' := [.map m22 (kk eOf (em HVal.bool (setO (E1.map (·.1) ++ E2.map (·.1))))), .map bs (sk (em fM os)), .map ba (kk eOf (em (HVal.int .i64) La)), .map bb (kk eOf (em (HVal.int .i64) Lb))]) rfl) ?_
     refine hw_reg ?_
     refine dp rfl (pop_assign rfl) ?_
     refine dn ?_
     refine hw_ghost (Ghost.arr_nil 7) ?_
     refine hw_seq ?_
     refine hw_reg ?_
     refine dp rfl (pop_move rfl) ?_
     refine de rfl (eop_range (i := 1) ty179 rfl rfl fun r3 => ?_)
     refine dn ?_
     refine hw_block ?_
     refine hw_loopw3 [14, 15, 41, 42, 43, 44, 45, 46, 47, 48, 49, 50, 51, 52, 53, 54, 55, 56, 57, 58, 59, 60, 61, 62, 63, 64, 65, 66, 67, 68] (fun (vis : List Nat) (E : List (Of2 × Bool)) (u : Value) => [(14, .raw u)]) (fun (vis : List Nat) (E : List (Of2 × Bool)) (u : Value) => [MObj.arr u 7 ((apartL m one two (gOf La) (gOf Lb) (E.map (·.1))).map eApart), .iter r3 m22 (kk eOf (em HVal.bool (setO (E1.map (·.1) ++ E2.map (·.1))))) vis, .map bs (sk (em fM os)), .map ba (kk eOf (em (HVal.int .i64) La)), .map bb (kk eOf (em (HVal.int .i64) Lb))]) (fun (vis : List Nat) (E : List (Of2 × Bool)) (u : Value) => VisOk ((setO (E1.map (·.1) ++ E2.map (·.1)))) vis E ∧ (True)) (fun (vis : List Nat) (E : List (Of2 × Bool)) (u : Value) => ((setO (E1.map (·.1) ++ E2.map (·.1)))).length - vis.length) ([]) ([]) (.slice none 0 0) ?_ ?_ ?_ ?_
     ·exact ⟨VisOk.nil _, trivial⟩
     ·exact ⟨rfl, trivial⟩
     ·exact perm_eq rfl
     ·intro vis E u hinv
      obtain ⟨hvis, -⟩ := hinv
      refine hw_reg ?_
      refine de rfl (eop_nextA (i := 1) (L := (setO (E1.map (·.1) ++ E2.map (·.1)))) (enc := (fun p : Of2 × Bool => (eOf p.1, HVal.bool p.2))) rfl rfl (kk_em _ _ _) hvis.nd hvis.lt fun cb R vis' hnx => ?_)
      refine dp rfl (pop_extract rfl rfl) ?_
      refine dn ?_
      refine hw_seq ?_
      refine hw_cond rfl (fun h5 => ?_) (fun h6 => ?_)
      ·try simp at h5
       obtain ⟨j, q, hq, hj, rfl⟩ := hnx.t h5
       have hroom := hvis.room hq hj
       have hstep := hvis.step hq hj
       have hqm := List.mem_of_getElem? hq
       have hAl := apartL_len m one two (gOf La) (gOf Lb) (E.map (·.1))
       rw [List.length_map] at hAl
       have hvl := hvis.len
       unfold setO at hroom
       refine hw_skip ?_
       refine seqQ_n ?_
       refine hw_block ?_
       refine hw_reg ?_
       refine de rfl (eop_entryA (i := 1) (L := (setO (E1.map (·.1) ++ E2.map (·.1)))) (enc := (fun p : Of2 × Bool => (eOf p.1, HVal.bool p.2))) rfl rfl (kk_em _ _ _) hq ?_)
       refine dp rfl (pop_extract rfl rfl) ?_
       refine de rfl (eop_alloc ty121 rfl fun b15 => ?_)
       refine de0 (eop_storew ty121 rfl rfl rfl rfl rfl ?_)
       refine dn ?_
       refine hw_ghost (Ghost.fc0 15 rfl) ?_
       refine hw_draw (fun M => ∃ (v : Value) (L : List HVal), M = [MObj.arr v 7 L, .iter r3 m22 (kk eOf (em HVal.bool (setO (E1.map (·.1) ++ E2.map (·.1))))) (vis ++ [j]), .map bs (sk (em fM os)), .map ba (kk eOf (em (HVal.int .i64) La)), .map bb (kk eOf (em (HVal.int .i64) Lb))]) [2, 5] mixed ?_
       refine ahp 0 rfl rfl (by kernel_rfl) (by kernel_rfl) (pop_move rfl) ?_
       refine ahp 1 rfl rfl (by kernel_rfl) (by kernel_rfl) (pop_loadw ty121 rfl rfl rfl rfl) ?_
       refine ahl 2 rfl rfl (by kernel_rfl) (by kernel_rfl) (by simp) ⟨_, _, rfl⟩ (fun M hM => by obtain ⟨v, L, rfl⟩ := hM; exact eop_lookupkA (i := 3) (s := q.1) (z0 := (0 : Int)) (f := HVal.int .i64) ty117 ok121 ty3 rfl rfl rfl rfl ⟨rfl, rfl⟩) ?_
       refine ahp 3 rfl rfl (by kernel_rfl) (by kernel_rfl) (pop_move rfl) ?_
       refine ahp 4 rfl rfl (by kernel_rfl) (by kernel_rfl) (pop_loadw ty121 rfl rfl rfl rfl) ?_
       refine ahl 5 rfl rfl (by kernel_rfl) (by kernel_rfl) (by simp) ⟨_, _, rfl⟩ (fun M hM => by obtain ⟨v, L, rfl⟩ := hM; exact eop_lookupkA (i := 4) (s := q.1) (z0 := (0 : Int)) (f := HVal.int .i64) ty117 ok121 ty3 rfl rfl rfl rfl ⟨rfl, rfl⟩) ?_
       refine ahp 6 rfl rfl (by kernel_rfl) (by kernel_rfl) (pop_neq rfl rfl) ?_
       refine ahz (by kernel_rfl) ?_
       refine hw_cond rfl (fun h7 => ?_) (fun h8 => ?_)
       ·try simp at h7
        refine hw_draw1 (fun M => ∃ (v : Value) (L : List HVal), M = [MObj.arr v 7 L, .iter r3 m22 (kk eOf (em HVal.bool (setO (E1.map (·.1) ++ E2.map (·.1))))) (vis ++ [j]), .map bs (sk (em fM os)), .map ba (kk eOf (em (HVal.int .i64) La)), .map bb (kk eOf (em (HVal.int .i64) Lb))]) [10, 13] mixed ?_
        refine ahp 0 rfl rfl (by kernel_rfl) (by kernel_rfl) (pop_move rfl) ?_
        refine ahp 1 rfl rfl (by kernel_rfl) (by kernel_rfl) (pop_move rfl) ?_
        refine ahp 2 rfl rfl (by kernel_rfl) (by kernel_rfl) ((pop_fieldAddr ty121 rfl ty9 (by decide) rfl)) ?_
        refine ahp 3 rfl rfl (by kernel_rfl) (by kernel_rfl) (pop_load ty9 rfl rfl rfl) ?_
        refine ahp 4 rfl rfl (by kernel_rfl) (by kernel_rfl) ((pop_fieldAddr ty121 rfl ty9 (by decide) rfl)) ?_
        refine ahp 5 rfl rfl (by kernel_rfl) (by kernel_rfl) (pop_load ty9 rfl rfl rfl) ?_
        refine ahp 6 rfl rfl (by kernel_rfl) (by kernel_rfl) (pop_move rfl) ?_
        refine ahp 7 rfl rfl (by kernel_rfl) (by kernel_rfl) (pop_move rfl) ?_
        refine ahp 8 rfl rfl (by kernel_rfl) (by kernel_rfl) (pop_move rfl) ?_
        refine ahp 9 rfl rfl (by kernel_rfl) (by kernel_rfl) (pop_loadw ty121 rfl rfl rfl rfl) ?_
        refine ahl 10 rfl rfl (by kernel_rfl) (by kernel_rfl) (by simp) ⟨_, _, rfl⟩ (fun M hM => by obtain ⟨v, L, rfl⟩ := hM; exact eop_lookupkA (i := 3) (s := q.1) (z0 := (0 : Int)) (f := HVal.int .i64) ty117 ok121 ty3 rfl rfl rfl rfl ⟨rfl, rfl⟩) ?_
        refine ahp 11 rfl rfl (by kernel_rfl) (by kernel_rfl) (pop_move rfl) ?_
        refine ahp 12 rfl rfl (by kernel_rfl) (by kernel_rfl) (pop_loadw ty121 rfl rfl rfl rfl) ?_
        refine ahl 13 rfl rfl (by kernel_rfl) (by kernel_rfl) (by simp) ⟨_, _, rfl⟩ (fun M hM => by obtain ⟨v, L, rfl⟩ := hM; exact eop_lookupkA (i := 4) (s := q.1) (z0 := (0 : Int)) (f := HVal.int .i64) ty117 ok121 ty3 rfl rfl rfl rfl ⟨rfl, rfl⟩) ?_
        refine ahp 14 rfl rfl (by kernel_rfl) (by kernel_rfl) (pop_build (cs := [_, _, _, _, _, _, _]) ty60 pl60 rfl) ?_
        refine ahp 15 rfl rfl (by kernel_rfl) (by kernel_rfl) (pop_buildSlice (hs := [_]) ty42 ty60 rfl rfl (by decide) (by decide) rfl) ?_
        refine ahe 16 rfl (by kernel_rfl) ?_
        refine hop_e rfl (eop_append (i := 0) ty42 ty60 rfl rfl rfl rfl rfl (by simp [flat, hcells]) (by simp only [List.length_map, List.length_cons, List.length_nil]; omega) fun v68 => ?_)
        refine ⟨fun _ => .inl ⟨_, _, rfl⟩, ?_⟩
        refine ahp 17 rfl rfl (by kernel_rfl) (by kernel_rfl) (pop_assign rfl) ?_
        refine ahz (by kernel_rfl) ?_
        refine blockQ_n ?_
        exact ⟨_, E ++ [q], v68, ⟨hstep, trivial⟩, by dsimp only; rw [List.length_append]; simp only [List.length_cons, List.length_nil]; unfold setO; omega, ⟨rfl, trivial⟩, (by repeat (first | exact keeps_refl | refine keeps_upd rfl ?_ | refine keeps_loop rfl rfl ?_)), perm_eq (by dsimp only; rw [List.map_append (l₂ := [q]), show [q].map (fun p : Of2 × Bool => p.1) = [q.1] from rfl, apartL_yes (by simpa [gOf] using h7)]; simp [gOf])⟩
       ·try simp at h8
        refine hw_skip ?_
        refine blockQ_n ?_
        exact ⟨_, E ++ [q], u, ⟨hstep, trivial⟩, by dsimp only; rw [List.length_append]; simp only [List.length_cons, List.length_nil]; unfold setO; omega, ⟨rfl, trivial⟩, (by repeat (first | exact keeps_refl | refine keeps_upd rfl ?_ | refine keeps_loop rfl rfl ?_)), perm_eq (by dsimp only; rw [List.map_append (l₂ := [q]), show [q].map (fun p : Of2 × Bool => p.1) = [q.1] from rfl, apartL_no (by simpa [gOf] using h8)]; rfl)⟩
      ·try simp at h6
       obtain ⟨rfl, hlen⟩ := hnx.f h6
       have hEp := hvis.done hlen
       refine hw_exit ?_
       refine seqQ_x ?_
       refine loopQ3_x ?_
       refine blockQ_eq ?_
       refine seqQ_n ?_
       refine hw_ghost (Ghost.iterOver (i := 1) rfl) ?_
       refine hw_ghost (Ghost.of_eq (M' := [.arr u 7 ((apartL m one two (gOf La) (gOf Lb) (E.map (·.1))).map eApart), .map m22 (kk eOf (em HVal.bool (setO (E1.map (·.1) ++ E2.map (·.1))))), .map bs (sk (em fM os)), .map ba (kk eOf (em (HVal.int .i64) La)), .map bb (kk eOf (em (HVal.int .i64) Lb))]) rfl) ?_
       have hal := apart_len (m := m) (a := one) (b := two) hE1 hE2 hEp
       refine hw_reg ?_
       refine dp rfl (pop_move rfl) ?_
       refine de rfl (eop_callf (M1 := [.arr u 7 ((apartL m one two (gOf La) (gOf Lb) (E.map (·.1))).map eApart)]) (R := [.map m22 (kk eOf (em HVal.bool (setO (E1.map (·.1) ++ E2.map (·.1))))), .map bs (sk (em fM os)), .map ba (kk eOf (em (HVal.int .i64) La)), .map bb (kk eOf (em (HVal.int .i64) Lb))]) ca118 rfl (WeakL.refl _) (List.Perm.refl _) (c_sort_Apart (c := byApart) (swo_cmp byApart_cmp) ca119 (fun _ _ => @c_play_apart_1 trackOn _ _) (l := (apartL m one two (gOf La) (gOf Lb) (E.map (·.1)))) (by omega)) ?_)
       rintro _ _ ⟨Y, rfl, hYp, hYs, rfl⟩
       obtain rfl := apart_go hE1 hE2 hEp hK hin hYp hYs
       refine dn ?_
       refine hw_ghost (Ghost.fa 14 (i := 0) rfl rfl) ?_
       refine hw_reg ?_
       refine dp rfl (pop_move rfl) ?_
       refine dp rfl (pop_assign rfl) ?_
       refine dn ?_
       refine hw_ret ?_
       refine ret_g Ghost.drop rfl ⟨rfl, rfl⟩
end Go.Proofs.YtihpgpbbpklbbaaGreatDoor
end
section
namespace Go.HL
section
variable {P : Program} {e : Env} {dst : Option Tmp} {ty : TypeId} {pos : String} {af : Array Edge} {g : Option (Nat × Bool)}
theorem fill_congr {f g : Nat → Option (Nat × Nat)} : ∀ (l : List (Nat × Value)) (z : Array Value), (∀ p ∈ l, f p.1 = g p.1) → Instr.fill f z l = Instr.fill g z l
 | [], z, _ => by simp [Instr.fill]
 | p :: l, z, h => by
   obtain ⟨i, v⟩ := p
   have h1 := h (i, v) List.mem_cons_self
   have ih := fun z => fill_congr (f := f) (g := g) l z fun q hq => h q (List.mem_cons_of_mem _ hq)
   simp only at h1
   simp only [Instr.fill, h1, ih]
theorem pop_buildA [Tracks] {t el : TypeId} {d : TD} {size bytes b2 : Nat} {zs : Array Value} {z2 : Value} {parts : Array (Nat × Operand)} {cs : List HVal}
 (hf : Fits P t (.arr 2 el) size bytes (.agg zs)) (hel : Fits P el d 1 b2 z2) (hi : (parts.toList.all fun p => Nat.blt p.1 2) = true)
 (hr : fillH e [(0, 1), (1, 1)] (zs.toList.map ofVal1) parts.toList = some cs) : POp P e ⟨dst, .build t parts, ty, pos, af, g⟩ (.agg cs) :=
 POp.of_val fun I a w ho => by
  have hz : VL I (zs.toList.map ofVal1) zs.toList := ⟨by simp, fun j c v h3 h4 => by
   rw [List.getElem?_map, h4] at h3; simp at h3; subst h3; exact V_ofVal1 I v⟩
  obtain ⟨rc, h3, h4⟩ := fillH_run (I := I) (e := e) (f := a.eval) parts.toList _ _ zs hr (fun x hx h hh => ho.one (by simpa [Op.operands] using hx) hh) hz
  refine ⟨.agg rc, ?_, V.mk_agg h4⟩
  have hfill : Instr.fill (fun i => some (i * 1, 1)) zs (parts.map fun x => (x.1, a.eval x.2)).toList = some rc := by
   rw [fill_congr (g := fun x => ([(0, 1), (1, 1)] : List (Nat × Nat)).toArray[x]?)]
   ·simpa using h3
   ·intro p hp
    simp only [Array.toList_map, List.mem_map] at hp
    obtain ⟨q, hq, rfl⟩ := hp
    have := List.all_eq_true.1 hi q hq
    have h2 : q.1 < 2 := blt_lt this
    dsimp only
    match q.1, h2 with
    | 0, _ => rfl
    | 1, _ => rfl
  simp only [execOp, Instr.build, Sem.run_bind, hf.run_zero, Result.andThen_ok, run_underlying hf.arrD, hel.run_sizeOf, Value.cells, hfill, Sem.run_pure]
end
section
variable {P : Program} {n : Nat} {e e' : Env} {M M' : List MObj} {Q Q' : Exit → Env → List MObj → Prop} {c c' : Code}
def LoopW4 {α β γ δ : Type} (e : Env) (ks : List Nat) (W : α → β → γ → δ → List (Nat × HVal)) (MM : α → β → γ → δ → List MObj) (Iv : α → β → γ → δ → Prop) (μ : α → β → γ → δ → Nat) (x : α) (y : β) (u : γ) (v : δ) (Q : Exit → Env → List MObj → Prop) : Exit → Env → List MObj → Prop
 | .normal, e', M => ∃ j k l m, Iv j k l m ∧ μ j k l m < μ x y u v ∧ HoldsW e' (W j k l m) ∧ Keeps ks e e' ∧ M.Perm (MM j k l m)
 | z, e', M => Q z e' M
theorem loopQ4_x {α β γ δ : Type} {e0 : Env} {ks : List Nat} {W : α → β → γ → δ → List (Nat × HVal)} {MM : α → β → γ → δ → List MObj} {Iv : α → β → γ → δ → Prop} {μ : α → β → γ → δ → Nat} {x : α} {y : β} {u : γ} {v : δ} {id : Nat} (h : Q (.exit id) e M) :
 LoopW4 e0 ks W MM Iv μ x y u v Q (.exit id) e M := h
theorem hw_loopw4 [Tracks] {α β γ δ : Type} (ks : List Nat) (W : α → β → γ → δ → List (Nat × HVal)) (MM : α → β → γ → δ → List MObj) (Iv : α → β → γ → δ → Prop) (μ : α → β → γ → δ → Nat) (x : α) (y : β) (u : γ) (v : δ) (h0 : Iv x y u v) (hW : HoldsW e (W x y u v)) (hM : M.Perm (MM x y u v))
 (hb : ∀ x y u v, Iv x y u v → HWp P n c (loopE e ks (W x y u v)) (MM x y u v) (LoopW4 e ks W MM Iv μ x y u v Q)) : HWp P n (.loop c) e M Q := by
 refine hw_loopw (ι := α × β × γ × δ) ks (fun p => W p.1 p.2.1 p.2.2.1 p.2.2.2) (fun p => MM p.1 p.2.1 p.2.2.1 p.2.2.2) (fun p => Iv p.1 p.2.1 p.2.2.1 p.2.2.2) (fun p => μ p.1 p.2.1 p.2.2.1 p.2.2.2) (x, y, u, v) h0 hW hM fun p hp => hw_mono (hb p.1 p.2.1 p.2.2.1 p.2.2.2 hp) ?_
 intro z e1 M1 hq
 cases z with
 | normal => obtain ⟨j, k, l, m, h⟩ := hq; exact ⟨(j, k, l, m), h⟩
 | _ => exact hq
end
theorem outer_keys {κ : Type} [DecidableEq κ] (G : GrM κ) : (outerL G).map (·.1) = G.map (·.1) := by
 unfold outerL; rw [List.map_map]; rfl
theorem anodup_filter {α : Type} {G : List (Str × α)} {p : Str × α → Bool} (h : ANodup G) : ANodup (G.filter p) := by
 unfold ANodup at *
 exact h.sublist ((List.filter_sublist).map _)
theorem grm_take2 {κ : Type} [DecidableEq κ] {ek : κ → HVal} {A : List MObj} {G : GrM κ} {s t : Str} {b c : Nat} {L L' : List (κ × Int)} (hn : ANodup G) (hs : alk s G = some (b, L)) (ht : alk t G = some (c, L')) (hne : s ≠ t) :
 (A ++ grm ek G).Perm (.map b (kk ek (em (HVal.int .i64) L)) :: .map c (kk ek (em (HVal.int .i64) L')) :: (A ++ grm ek ((G.filter fun q => decide (q.1 ≠ s)).filter fun q => decide (q.1 ≠ t)))) := by
 refine (grm_take hn hs).trans (List.Perm.cons _ (grm_take (anodup_filter hn) ?_))
 have := alk_filter (s := t) (p := fun k => decide (k ≠ s)) (G := G)
 rw [this, if_pos (by simpa using fun e : t = s => hne e.symm), ht]
end Go.HL
end
section
namespace Go.HL
theorem gOf_inner (q : DisS) (s : Str) : gOf (inner q.c s) = disAt q s := funext fun k => by
 unfold gOf disAt; rw [inner_get]
theorem dis_done {l : List Play} {m : Str} {n : Int} (h : playsE l = 0) : disL m (disAt (disPs l m n l)) (sortS (disPs l m n l).S) (kAll l m n) = disRef l m n := by
 obtain ⟨e1, e2⟩ := disPR (l := l) (m := m) (n := n) (plays_fault h)
 unfold disRef
 rw [e1, onceL_nodup (disRs_ok (plays_fault h)).S]
 exact dis_eq e2
theorem disP_diff {l : List Play} {m : Str} {n : Int} (h : playsE l = 0) {a b : Str} {k : Of2} (hk : disAt (disPs l m n l) a k ≠ disAt (disPs l m n l) b k) : k ∈ kAll l m n := by
 obtain ⟨_, e2⟩ := disPR (l := l) (m := m) (n := n) (plays_fault h)
 rw [e2, e2] at hk
 exact disR_diff hk
theorem allOf_yes {t : List Play} {m : Str} {n : Int} {k : Nat} {x : Play} (hx : t[k]? = some x) (h : ¬ (x.Match ≠ m ∨ n < x.At)) : allOf (t.take (k + 1)) m n = allOf (t.take k) m n ++ [(x.Player, x.Stat)] := by
 unfold allOf
 rw [take_snoc' hx, List.filter_append, List.map_append, List.filter_cons, if_pos (by simp only [ne_eq, not_or, Decidable.not_not] at h; simp [h.1]; omega)]; rfl
theorem allOf_no {t : List Play} {m : Str} {n : Int} {k : Nat} {x : Play} (hx : t[k]? = some x) (h : x.Match ≠ m ∨ n < x.At) : allOf (t.take (k + 1)) m n = allOf (t.take k) m n := by
 unfold allOf
 rw [take_snoc' hx, List.filter_append, List.map_append, List.filter_cons, if_neg (by simp; intro h1; rcases h with h | h; exact absurd h1 h; exact h)]; simp
/-- Two names at different places differ. -/
theorem apart_names {S : List Str} (hn : S.Nodup) {i j : Nat} {a b : Str} (ha : S[i]? = some a) (hb : (S.drop (i + 1))[j]? = some b) : a ≠ b := fun e => by
 rw [List.getElem?_drop, ← e] at hb
 have := nodup_at hn ha hb
 omega
theorem sums_room {m : Str} {g : Str → Of2 → Int} {K : List Of2} {S : List Str} (hS : S.length ≤ 20) (hK : K.length ≤ 3000) {i j : Nat} (hi : i ≤ 20) (a : Str) (x : List ApartS) (hx : x.length ≤ 3000) :
 ((disUp m g K S i ++ disTo m g K a ((S.drop (i + 1)).take j)).map eApart).length + (x.map eApart).length ≤ 1000000000 := by
 have := dis_room (m := m) (g := g) hS hK (i := i) (j := j) hi a
 rw [List.length_map, List.length_map, List.length_append]; omega
theorem disRs_out {l : List Play} {m : Str} {n : Int} {k : Nat} {x : Play} (hx : l[k]? = some x) (h : x.Match ≠ m ∨ n < x.At) : disRs l m n (l.take (k + 1)) = disRs l m n (l.take k) := by
 rw [disRs_snoc hx, disR, if_pos h]
theorem disPs_out {l : List Play} {m : Str} {n : Int} {k : Nat} {x : Play} (hx : l[k]? = some x) (h : x.Match ≠ m ∨ n < x.At) : disPs l m n (l.take (k + 1)) = disPs l m n (l.take k) := by
 rw [disPs_snoc hx, disP, if_pos h]
theorem disPs_yes {l : List Play} {m : Str} {n : Int} {k : Nat} {x : Play} (hx : l[k]? = some x) (h : ¬ (x.Match ≠ m ∨ n < x.At)) (h2 : x.Undo = 0 ∧ isGone l n (x.Source, x.No) = false) :
 disPs l m n (l.take (k + 1)) = ⟨sadd x.Source (disPs l m n (l.take k)).S, disPut (disPs l m n (l.take k)) x⟩ := by
 rw [disPs_snoc hx, disP, if_neg h, if_pos h2]
theorem disPs_no {l : List Play} {m : Str} {n : Int} {k : Nat} {x : Play} (hx : l[k]? = some x) (h : ¬ (x.Match ≠ m ∨ n < x.At)) (h2 : ¬ (x.Undo = 0 ∧ isGone l n (x.Source, x.No) = false)) :
 disPs l m n (l.take (k + 1)) = ⟨sadd x.Source (disPs l m n (l.take k)).S, (disPs l m n (l.take k)).c⟩ := by
 rw [disPs_snoc hx, disP, if_neg h, if_neg h2]
theorem disRs_yes {l : List Play} {m : Str} {n : Int} {k : Nat} {x : Play} (hx : l[k]? = some x) (h : ¬ (x.Match ≠ m ∨ n < x.At)) (h2 : isGone l n (x.Source, x.No) = false) :
 disRs l m n (l.take (k + 1)) = ⟨sadd x.Source (disRs l m n (l.take k)).S, disPut (disRs l m n (l.take k)) x⟩ := by
 rw [disRs_snoc hx, disR, if_neg h, if_pos h2]
theorem disRs_no {l : List Play} {m : Str} {n : Int} {k : Nat} {x : Play} (hx : l[k]? = some x) (h : ¬ (x.Match ≠ m ∨ n < x.At)) (h2 : ¬ isGone l n (x.Source, x.No) = false) :
 disRs l m n (l.take (k + 1)) = ⟨sadd x.Source (disRs l m n (l.take k)).S, (disRs l m n (l.take k)).c⟩ := by
 rw [disRs_snoc hx, disR, if_neg h, if_neg h2]
theorem GrOk.dput {q : DisS} {G : GrM Of2} {x : Play} {b : Nat} {L : List (Of2 × Int)} (h : GrOk (sadd x.Source q.S) q.c G) (hb : alk x.Source G = some (b, L)) :
 GrOk (sadd x.Source q.S) (disPut q x) (aput x.Source (b, aput (x.Player, x.Stat) ((alk (x.Player, x.Stat) L).getD 0 + x.Count) L) G) := by
 unfold disPut disKey
 rw [← inner_get, ← h.get hb]
 exact h.put hb _ _
end Go.HL
end
section
namespace Go.HL
theorem eqOf_is (x y : Of2) : eqHL [.str x.1, .str x.2] [.str y.1, .str y.2] = decide (x = y) := by
 obtain ⟨a, b⟩ := x; obtain ⟨c, d⟩ := y
 show (_ && (_ && true)) = _
 rw [Bool.eq_iff_iff]; simp [eqH, Prod.mk.injEq]
theorem uniqO_snoc (x : Of2) : ∀ (A : List Of2) (p : Option Of2), uniqO p (A ++ [x]) = uniqO p A ++ if (A.getLast?.or p) = some x then [] else [x]
 | [], p => by
   by_cases h : p = some x <;> simp [uniqO, h]
 | y :: A, p => by
   have ih := uniqO_snoc x A (some y)
   have e : ((y :: A).getLast?.or p) = (A.getLast?.or (some y)) := by
    cases A with
    | nil => simp
    | cons z A => simp [List.getLast?_cons_cons, List.getLast?_cons]
   simp only [List.cons_append, uniqO]
   rw [e, ih]
   split <;> simp
theorem uniqO_step {l : List Of2} {k : Nat} {x y : Of2} (hx : l[k]? = some x) (hy : l[k - 1]? = some y) (h0 : 0 < k) : uniqO none (l.take (k + 1)) = uniqO none (l.take k) ++ if x = y then [] else [x] := by
 have hk := lt_of_get hx
 rw [take_snoc' hx, uniqO_snoc]
 have e : ((l.take k).getLast?.or none) = some y := by
  rw [List.getLast?_eq_getElem?, List.length_take, Nat.min_eq_left (by omega), List.getElem?_take_of_lt (by omega), hy]; rfl
 rw [e]
 by_cases h : x = y
 ·rw [if_pos h, if_pos (by rw [h])]
 ·rw [if_neg h, if_neg (by simpa using fun q : y = x => h q.symm)]
theorem uniqO_one {l : List Of2} (h : l.length < 2) : uniqO none l = l := by
 match l, h with
 | [], _ => rfl
 | [x], _ => rfl
structure CmpO (l : List Of2) (j : Nat) (D : List Of2) : Prop where
 len : D.length = l.length
 lo : D.take (uniqO none (l.take j)).length = uniqO none (l.take j)
 lt : (uniqO none (l.take j)).length < j
 hi : ∀ i, j ≤ i + 1 → D[i]? = l[i]?
theorem CmpO.start {l : List Of2} {k : Nat} {x y : Of2} (hx : l[k]? = some x) (hy : l[k - 1]? = some y) (h0 : 0 < k) (e : x = y) (h : uniqO none (l.take k) = l.take k) : CmpO l (k + 1) l ∧ (uniqO none (l.take (k + 1))).length = k := by
 have hk := lt_of_get hx
 have h1 : uniqO none (l.take (k + 1)) = l.take k := by rw [uniqO_step hx hy h0, if_pos e, h]; simp
 have h2 : (l.take k).length = k := by rw [List.length_take]; omega
 exact ⟨⟨rfl, by rw [h1, h2], by rw [h1, h2]; omega, fun _ _ => rfl⟩, by rw [h1, h2]⟩
theorem CmpO.same {l D : List Of2} {j : Nat} (h : CmpO l j D) {x y : Of2} (hx : l[j]? = some x) (hy : l[j - 1]? = some y) (e : x = y) : CmpO l (j + 1) D ∧ (uniqO none (l.take (j + 1))).length = (uniqO none (l.take j)).length := by
 have h0 := h.lt
 have h1 : uniqO none (l.take (j + 1)) = uniqO none (l.take j) := by rw [uniqO_step hx hy (by omega), if_pos e]; simp
 exact ⟨⟨h.len, by rw [h1]; exact h.lo, by rw [h1]; omega, fun i hi => h.hi i (by omega)⟩, by rw [h1]⟩
theorem CmpO.more {l D : List Of2} {j : Nat} (h : CmpO l j D) {x y : Of2} (hx : l[j]? = some x) (hy : l[j - 1]? = some y) (e : x ≠ y) : CmpO l (j + 1) (D.set (uniqO none (l.take j)).length x) ∧ (uniqO none (l.take (j + 1))).length = (uniqO none (l.take j)).length + 1 := by
 have h0 := h.lt
 have hl := h.len
 have hj := lt_of_get hx
 have h1 : uniqO none (l.take (j + 1)) = uniqO none (l.take j) ++ [x] := by rw [uniqO_step hx hy (by omega), if_neg e]
 have h2 : (uniqO none (l.take (j + 1))).length = (uniqO none (l.take j)).length + 1 := by rw [h1]; simp
 refine ⟨⟨by simpa using hl, ?_, by omega, fun i hi => ?_⟩, h2⟩
 ·rw [h2, h1]
  have h3 : (D.set (uniqO none (l.take j)).length x)[(uniqO none (l.take j)).length]? = some x := by
   rw [List.getElem?_set_self (by omega)]
  rw [take_snoc' h3, List.take_set_of_le (Nat.le_refl _), h.lo]
 ·rw [List.getElem?_set_ne (by omega)]
  exact h.hi i (by omega)
theorem slOff_lt {cap off sz m : Nat} (h : m < cap) : slOff cap off sz m = off + m * sz := by
 unfold slOff; rw [if_neg (by omega)]
end Go.HL
end
section
namespace Go.HL
theorem getD_mem {l : List Str} {i : Nat} (h : i < l.length) : l.getD i [] ∈ l := by
 rw [List.getD_eq_getElem?_getD, List.getElem?_eq_getElem h]; exact List.getElem_mem h
theorem map_three {α β : Type} (f : α → β) (A B C : List α) : (A ++ (B ++ C)).map f = (A ++ B).map f ++ C.map f := by simp
theorem eqAparts_refl : ∀ l : List ApartS, eqSts eApart l l = true
 | [] => rfl
 | a :: r => by simp [eqSts, eqSt, eqAparts_refl r, hcells, eqHL, eqH]
theorem eqStats_refl : ∀ l : List StatS, eqSts eStat l l = true
 | [] => rfl
 | a :: r => by simp [eqSts, eqSt, eqStats_refl r, hcells, eqHL, eqH]
def byLn (a b : LineS) : Int := orI [cmpS a.Player b.Player, cmpI a.Week b.Week]
theorem byLn_refl (x : LineS) : byLn x x = 0 := by
 unfold byLn; rw [orI2, if_neg (by simp [cmpS_zero]), cmpI_zero]
abbrev eM (n : Int) : Int := if moment n then 0 else 1
theorem told_cases (l : List Play) (t : List Str) (n : Int) : (orI [playsE l, trustE t, eM n] = 0 ∧ ToldL l t n = toldR l t n ∧ ToldE l t n = 0) ∨ (orI [playsE l, trustE t, eM n] ≠ 0 ∧ ToldL l t n = [] ∧ ToldE l t n = orI [playsE l, trustE t, eM n]) := by
 unfold ToldL ToldE eM
 by_cases h1 : playsE l = 0
 ·by_cases h2 : trustE t = 0
  ·by_cases h3 : moment n = true
   ·left; simp [orI, h1, h2, h3]
   ·right; simp [orI, h1, h2, h3]
  ·right; simp [orI, h1, h2]
 ·right; simp [orI, h1]
theorem lines_cases (l : List Play) (t : List Str) (w n : Int) : (orI [playsE l, trustE t, if weekB w then 0 else 1, eM n] = 0 ∧ playsE l = 0 ∧ LinesL l t w n = linesRL l t w n ∧ LinesE l t w n = linesRE l t w n) ∨ (orI [playsE l, trustE t, if weekB w then 0 else 1, eM n] ≠ 0 ∧ LinesL l t w n = [] ∧ LinesE l t w n = orI [playsE l, trustE t, if weekB w then 0 else 1, eM n]) := by
 unfold LinesL LinesE eM
 by_cases h1 : playsE l = 0
 ·by_cases h2 : trustE t = 0
  ·by_cases h3 : weekB w = true
   ·by_cases h4 : moment n = true
    ·left
     obtain ⟨e1, e2⟩ := lines_ref (trust := t) (week := w) (n := n) (plays_fault h1)
     simp [orI, h1, h2, h3, h4, e1, e2]
    ·right; simp [orI, h1, h2, h3, h4]
   ·right; simp [orI, h1, h2, h3]
  ·right; simp [orI, h1, h2]
 ·right; simp [orI, h1]
theorem dis_cases (l : List Play) (m : Str) (n : Int) : (orI [playsE l, if key m then 0 else 5, eM n] = 0 ∧ playsE l = 0 ∧ DisL l m n = disRef l m n ∧ DisE l m n = 0) ∨ (orI [playsE l, if key m then 0 else 5, eM n] ≠ 0 ∧ DisL l m n = [] ∧ DisE l m n = orI [playsE l, if key m then 0 else 5, eM n]) := by
 unfold DisL DisE eM
 by_cases h1 : playsE l = 0
 ·by_cases h2 : key m = true
  ·by_cases h3 : moment n = true
   ·left; simp [orI, h1, h2, h3]
   ·right; simp [orI, h1, h2, h3]
  ·right; simp [orI, h1, h2]
 ·right; simp [orI, h1]
theorem told_bd {l : List Play} {t : List Str} {n : Int} (hl : l.length ≤ 3000) : (ToldL l t n).length ≤ 1000000 := by
 unfold ToldL
 split
 ·simp
 ·split
  ·simp
  ·unfold toldR
   rw [List.length_map]
   have h1 := List.length_filter_le (fun m => countingR l t m n != []) (onceL (l.map (·.Match)))
   have h2 := onceL_len (l.map (·.Match))
   rw [List.length_map] at h2; omega
theorem lines_bd {l : List Play} {t : List Str} {w n : Int} : (LinesL l t w n).length ≤ 1000000 ∧ ∀ y ∈ LinesL l t w n, y.Stats.length ≤ 1000000 := by
 by_cases h0 : orI [playsE l, trustE t] = 0
 ·have h1 := (okPT h0).1
  have hl := (playsE_ok h1).1
  have hok := ln_ok (l := l) (m := l) (trust := t) (week := w) (n := n) (plays_fault h1)
  have a1 := hok.Sl
  have a2 := hok.cl
  unfold LinesL
  rw [if_neg (by simp [h0])]
  split
  ·exact ⟨by simp, by simp⟩
  ·unfold linesL clinesL
   split
   ·exact ⟨by simp, by simp⟩
   ·refine ⟨by rw [List.length_map, sortS_len]; omega, fun y hy => ?_⟩
    obtain ⟨s, _, rfl⟩ := List.mem_map.1 hy
    have h2 := rawStats_le (lnGo l t w n l).c s
    have h3 := statsOf_len (lnGo l t w n l).c s
    dsimp only; omega
 ·unfold LinesL
  rw [if_pos (by simp [h0])]
  exact ⟨by simp, by simp⟩
theorem dis_bd {l : List Play} {m : Str} {n : Int} (hl : l.length ≤ 100) : (DisL l m n).length ≤ 1000000 := by
 unfold DisL
 split
 ·simp
 ·rename_i h0
  split
  ·simp
  ·split
   ·simp
   ·have hok : playsE l = 0 := by simpa using h0
    have hS : (onceL (disRs l m n l).S).length ≤ 20 := Nat.le_trans (onceL_len _) (disR_few hok)
    have hK := kAll_len l m n
    unfold disRef
    rw [← disUp_all]
    have h1 := disUp_len m (disAt (disRs l m n l)) (kAll l m n) (onceL (disRs l m n l).S) (onceL (disRs l m n l).S).length
    have h2 : (onceL (disRs l m n l).S).length * (kAll l m n).length ≤ 20 * 100 := Nat.mul_le_mul hS (by omega)
    have h3 : (onceL (disRs l m n l).S).length * ((onceL (disRs l m n l).S).length * (kAll l m n).length) ≤ 20 * (20 * 100) := Nat.mul_le_mul hS h2
    omega
/-! one source counts -/
end Go.HL
end
section
namespace Go.Proofs.YtihpgpbbpklbbaaGreatDoor
open Go.HL
set_option maxRecDepth 100000
set_option linter.unusedVariables false
set_option linter.unusedSimpArgs false
set_option maxHeartbeats 2000000 in
/-- benchwarmer/play.Disagree -/
theorem c_play_Disagree [Tracks] {l : List Play} {m : Str} {n : Int} (hT : Tracks.on = false) (hl : l.length ≤ 1000000) : ConP Tryz.prog 17 [ePlays l, .str m, .int .i64 n] (.tup [eAparts (DisL l m n), .int .i64 (DisE l m n)]) := by
 refine Con.of_body Tryz.func17 rfl Tryz.ntmps17 rfl rfl ?_
 refine hw_reg ?_
 refine dp rfl (pop_assign rfl) ?_
 refine dp rfl (pop_assign rfl) ?_
 refine dn ?_
 refine hw_seq ?_
 refine hw_reg ?_
 refine dp rfl (pop_move rfl) ?_
 refine dp rfl (pop_call ca61 rfl (WeakL.refl _) (c_play_CheckPlays (by assumption))) ?_
 refine dp rfl (pop_assign rfl) ?_
 refine dn ?_
 refine hw_reg ?_
 refine dp rfl (pop_move rfl) ?_
 refine dp rfl (pop_neq rfl rfl) ?_
 refine dn ?_
 refine hw_cond rfl (fun h1 => ?_) (fun h2 => ?_)
 ·try simp at h1
  refine hw_reg ?_
  refine dp rfl (pop_move rfl) ?_
  refine dp rfl (pop_assign rfl) ?_
  refine dp rfl (pop_assign rfl) ?_
  refine dn ?_
  refine hw_ret ?_
  exact ret_w rfl (weak_tup2 (by rw [DisL, if_pos (by simpa using h1)]; exact weak_nil 7) (by rw [DisE, if_pos (by simpa using h1)]; exact Weak.refl _))
 ·try simp at h2
  refine hw_skip ?_
  refine seqQ_n ?_
  refine hw_seq ?_
  refine hw_block ?_
  refine hw_reg ?_
  refine dp rfl (pop_move rfl) ?_
  refine dp rfl (pop_call ca59 rfl (WeakL.refl _) c_base_Key) ?_
  refine dp rfl (pop_not rfl) ?_
  refine dp rfl (pop_assign rfl) ?_
  refine dn ?_
  refine hw_cond rfl (fun h3 => ?_) (fun h4 => ?_)
  ·try simp at h3
   refine hw_reg ?_
   refine dp rfl (pop_assign rfl) ?_
   refine dp rfl (pop_assign rfl) ?_
   refine dn ?_
   refine hw_ret ?_
   exact ret_w rfl (weak_tup2 (by rw [DisL, if_neg (by simpa using h2), if_pos (by simp_all)]; exact weak_nil 7) (by rw [DisE, if_neg (by simpa using h2), if_pos (by simp_all)]; exact Weak.refl _))
  ·try simp at h4
   refine hw_reg ?_
   refine dp rfl (pop_move rfl) ?_
   refine dp rfl (pop_call ca62 rfl (WeakL.refl _) c_base_Moment) ?_
   refine dp rfl (pop_not rfl) ?_
   refine dp rfl (pop_assign rfl) ?_
   refine dn ?_
   refine hw_cond rfl (fun h5 => ?_) (fun h6 => ?_)
   ·try simp at h5
    refine hw_reg ?_
    refine dp rfl (pop_assign rfl) ?_
    refine dp rfl (pop_assign rfl) ?_
    refine dn ?_
    refine hw_ret ?_
    exact ret_w rfl (weak_tup2 (by rw [DisL, if_neg (by simpa using h2), if_neg (by simp_all), if_pos (by simp_all)]; exact weak_nil 7) (by rw [DisE, if_neg (by simpa using h2), if_neg (by simp_all), if_pos (by simp_all)]; exact Weak.refl _))
   ·try simp at h6
    refine hw_skip ?_
    refine blockQ_n ?_
    refine seqQ_n ?_
    have hok : playsE l = 0 := by simpa using h2
    have hpf := plays_fault hok
    have hl3 := (playsE_ok hok).1
    refine hw_reg ?_
    refine dp rfl (pop_move rfl) ?_
    refine dp rfl (pop_move rfl) ?_
    refine de rfl (eop_callf (M1 := []) (R := []) ca68 rfl (WeakL.refl _) (List.Perm.refl _) (c_play_undone (l := l) (n := n) hl) ?_)
    rintro _ _ ⟨b34, rfl, rfl⟩
    refine de rfl (eop_makeMap fun m35 => ?_)
    refine dp rfl (pop_assign rfl) ?_
    refine dp rfl (pop_assign rfl) ?_
    refine dn ?_
    refine hw_seq ?_
    refine hw_reg ?_
    refine dp rfl (pop_move rfl) ?_
    refine dp rfl (pop_lenm ty26 rfl) ?_
    refine dp rfl (pop_move rfl) ?_
    refine dn ?_
    refine hw_block ?_
    refine hw_loopw2 [12, 38, 39, 40, 41, 42, 43, 44, 45, 46, 47, 48, 49, 50, 51, 52, 53, 54, 55, 56, 57, 58, 59, 60, 61, 62, 63, 64, 65, 66, 67, 68, 69, 70, 71, 72, 73, 74, 75, 76, 77, 78, 79, 80, 81, 82, 83, 84, 85, 86, 87, 88, 89] (fun (k : Nat) (G : GrM Of2) => [(38, .int .i64 k)]) (fun (k : Nat) (G : GrM Of2) => [MObj.map m35 (sk (em fM (outerL G))), .map b34 (kk eNum (em HVal.bool (goneL l n)))] ++ grm eOf G) (fun (k : Nat) (G : GrM Of2) => k ≤ l.length ∧ (GrOk (disPs l m n (l.take k)).S (disPs l m n (l.take k)).c G)) (fun (k : Nat) (G : GrM Of2) => l.length - k) (0) ([]) ?_ ?_ ?_ ?_
    ·exact ⟨Nat.zero_le _, GrOk.nil⟩
    ·exact ⟨rfl, trivial⟩
    ·exact perm_eq rfl
    ·intro k G hinv
     obtain ⟨hk, hG⟩ := hinv
     refine hw_reg ?_
     refine dp rfl (pop_lss rfl rfl) ?_
     refine dn ?_
     refine hw_seq ?_
     refine hw_cond rfl (fun h7 => ?_) (fun h8 => ?_)
     ·try simp at h7
      obtain ⟨x, hx⟩ : ∃ x, l[k]? = some x := ⟨_, List.getElem?_eq_getElem h7⟩
      have hdx := drop_cons hx
      have hpx := hpf x (List.mem_of_getElem? hx)
      obtain ⟨_, _, _, _, _, hcb, _⟩ := playFault_ok hpx
      have hlk := disPs_ok (l := l) (m := m) (n := n) (t := l.take k) (fun y hy => hpf y (List.mem_of_mem_take hy))
      have hlt : ((l.take k).length : Int) ≤ 3000 := by rw [List.length_take]; omega
      refine hw_skip ?_
      refine seqQ_n ?_
      refine hw_seq ?_
      refine hw_block ?_
      refine hw_reg ?_
      refine dp rfl (pop_idx ty26 ty93 rfl rfl rfl (by assumption)) ?_
      refine dp rfl (pop_loadw ty93 rfl rfl rfl rfl) ?_
      refine de rfl (eop_alloc ty93 rfl fun b12 => ?_)
      refine de0 (eop_storew ty93 rfl rfl rfl rfl rfl ?_)
      refine dn ?_
      refine hw_ghost (Ghost.fc0 12 rfl) ?_
      refine hw_seq ?_
      refine hw_reg ?_
      refine dp rfl ((pop_fieldAddr ty93 rfl ty9 (by decide) rfl)) ?_
      refine dp rfl (pop_load ty9 rfl rfl rfl) ?_
      refine dp rfl (pop_move rfl) ?_
      refine dp rfl (pop_neqs rfl rfl) ?_
      refine dp rfl (pop_move rfl) ?_
      refine dg rfl rfl (fun hc => ⟨_, OpenTo.refl _, (pop_fieldAddr ty93 rfl ty3 (by decide) rfl)⟩) ?_
      refine dg rfl rfl (fun hc => ⟨_, OpenTo.upd (t := 47) rfl (hc) (OpenTo.refl _), pop_load ty3 rfl rfl rfl⟩) ?_
      refine dg rfl rfl (fun hc => ⟨_, OpenTo.refl _, pop_move rfl⟩) ?_
      refine dg rfl rfl (fun hc => ⟨_, OpenTo.upd (t := 49) rfl (hc) (OpenTo.upd (t := 48) rfl (hc) (OpenTo.refl _)), pop_gtr rfl rfl⟩) ?_
      refine dp rfl (pop_picko rfl (.inl rfl) (.inr ⟨_, rfl, fun h => by simp_all⟩)) ?_
      refine dn ?_
      refine hw_cond rfl (fun h9 => ?_) (fun h10 => ?_)
      ·try simp at h9
       refine hw_exit ?_
       refine seqQ_x ?_
       refine blockQ_eq ?_
       refine seqQ_n ?_
       refine hw_reg1 ?_
       refine dp rfl (pop_add64 rfl rfl (by omega) (by omega)) ?_
       refine dp rfl (pop_move rfl) ?_
       refine dn ?_
       have ho := disPs_out (m := m) (n := n) hx (by simpa using h9)
       exact ⟨k + 1, G, ⟨by omega, by rw [ho]; exact hG⟩, by dsimp only; omega, ⟨rfl, trivial⟩, (by repeat (first | exact keeps_refl | refine keeps_upd rfl ?_ | refine keeps_loop rfl rfl ?_)), List.Perm.refl _⟩
      ·try simp at h10
       refine hw_skip ?_
       refine seqQ_n ?_
       refine hw_join [52, 53, 54, 55, 56, 57, 58, 59, 60] (fun (G1 : GrM Of2) => []) (fun (G1 : GrM Of2) => [MObj.map m35 (sk (em fM (outerL G1))), .map b34 (kk eNum (em HVal.bool (goneL l n)))] ++ grm eOf G1) (fun (G1 : GrM Of2) => GrOk (sadd x.Source (disPs l m n (l.take k)).S) (disPs l m n (l.take k)).c G1 ∧ ∃ b L, alk x.Source G1 = some (b, L)) ?_ ?_
       ·skip
        refine hw_reg ?_
        refine dp rfl (pop_move rfl) ?_
        refine dp rfl ((pop_fieldAddr ty93 rfl ty9 (by decide) rfl)) ?_
        refine dp rfl (pop_load ty9 rfl rfl rfl) ?_
        refine de rfl (eop_lookupA (i := 0) (f := fM) (z0 := none) ty115 ty9 ty117 rfl rfl rfl rfl ?_)
        refine dp rfl (pop_eqnilM ty117 rfl rfl) ?_
        refine dn ?_
        refine hw_cond rfl (fun h11 => ?_) (fun h12 => ?_)
        ·try simp at h11
         refine hw_reg1 ?_
         refine dp rfl (pop_move rfl) ?_
         refine dp rfl ((pop_fieldAddr ty93 rfl ty9 (by decide) rfl)) ?_
         refine dp rfl (pop_load ty9 rfl rfl rfl) ?_
         refine de rfl (eop_makeMap fun m60 => ?_)
         refine de0 (eop_updateA (i := 1) (f := fM) (v := some m60) ty115 ty9 rfl rfl rfl rfl ?_)
         refine dn ?_
         have hnone := outer_none (by simpa using h11)
         exact ⟨aput x.Source (m60, []) G, ⟨hG.add m60 hnone, m60, [], by rw [alk_put, if_pos rfl]⟩, trivial, (by repeat (first | exact keeps_refl | refine keeps_upd rfl ?_ | refine keeps_loop rfl rfl ?_)), by dsimp only; rw [← outer_put (L := [])]; exact grm_new (ek := eOf) (A := [_, _]) (b := m60) (L := []) hG.anodup hnone⟩
        ·try simp at h12
         refine hw_skip ?_
         obtain ⟨b0, L0, hb0⟩ := outer_some (by simpa using h12)
         have hins := hG.mem hb0
         exact ⟨G, ⟨by rw [sadd_old hins]; exact hG, b0, L0, hb0⟩, trivial, (by repeat (first | exact keeps_refl | refine keeps_upd rfl ?_ | refine keeps_loop rfl rfl ?_)), List.Perm.refl _⟩
       ·intro G1 hp
        obtain ⟨hG1, b1, L1, hb⟩ := hp
        have hL := hG1.get hb
        have hvb := hlk.val (x.Source, (x.Player, x.Stat))
        rw [← inner_get, ← hL] at hvb
        refine hw_reg ?_
        refine dp rfl ((pop_fieldAddr ty93 rfl ty3 (by decide) rfl)) ?_
        refine dp rfl (pop_load ty3 rfl rfl rfl) ?_
        refine dp rfl (pop_eql rfl rfl) ?_
        refine dp rfl (pop_move rfl) ?_
        refine dg rfl rfl (fun hc => ⟨_, OpenTo.refl _, pop_move rfl⟩) ?_
        refine dg rfl rfl (fun hc => ⟨_, OpenTo.refl _, (pop_fieldAddr ty93 rfl ty9 (by decide) rfl)⟩) ?_
        refine dg rfl rfl (fun hc => ⟨_, OpenTo.upd (t := 66) rfl (hc) (OpenTo.refl _), pop_load ty9 rfl rfl rfl⟩) ?_
        refine dg rfl rfl (fun hc => ⟨_, OpenTo.refl _, (pop_fieldAddr ty93 rfl ty3 (by decide) rfl)⟩) ?_
        refine dg rfl rfl (fun hc => ⟨_, OpenTo.upd (t := 68) rfl (hc) (OpenTo.refl _), pop_load ty3 rfl rfl rfl⟩) ?_
        refine dg rfl rfl (fun hc => ⟨_, OpenTo.upd (t := 69) rfl (hc) (OpenTo.upd (t := 67) rfl (hc) (OpenTo.refl _)), pop_build (cs := [_, _]) ty119 pl119 rfl⟩) ?_
        refine dgl rfl rfl (fun hc => ⟨_, OpenTo.upd (t := 70) rfl (hc) (OpenTo.upd (t := 65) rfl (hc) (OpenTo.refl _)), eop_lookupkA (i := 1) (s := (x.Source, x.No)) (z0 := false) ty113 ok119 ty4 rfl rfl rfl rfl ⟨rfl, rfl⟩⟩) ?_
        refine dg rfl rfl (fun hc => ⟨_, OpenTo.upd (t := 71) rfl (hc) (OpenTo.refl _), pop_not rfl⟩) ?_
        refine dp rfl (pop_picko rfl (.inr ⟨_, rfl, fun h => by simp_all⟩) (.inl rfl)) ?_
        refine dn ?_
        refine hw_cond rfl (fun h13 => ?_) (fun h14 => ?_)
        ·try simp at h13
         refine hw_ghost (Ghost.perm (grm_take (ek := eOf) (A := [_, _]) hG1.anodup hb)) ?_
         refine hw_draw1 (fun M => M = MObj.map b1 (kk eOf (em (HVal.int .i64) L1)) :: ([MObj.map m35 (sk (em fM (outerL G1))), .map b34 (kk eNum (em HVal.bool (goneL l n)))] ++ grm eOf (G1.filter fun q => decide (q.1 ≠ x.Source))) ∨ ∃ j st, kidx (x.Player, x.Stat) (kent (x.Player, x.Stat) (HVal.int .i64 0) (em (HVal.int .i64) L1)) = some j ∧ M = MObj.mape b1 (kk eOf (kent (x.Player, x.Stat) (HVal.int .i64 0) (em (HVal.int .i64) L1))) j st :: ([MObj.map m35 (sk (em fM (outerL G1))), .map b34 (kk eNum (em HVal.bool (goneL l n)))] ++ grm eOf (G1.filter fun q => decide (q.1 ≠ x.Source)))) [3, 9] mixed ?_
         refine ahp 0 rfl rfl (by kernel_rfl) (by kernel_rfl) (pop_move rfl) ?_
         refine ahp 1 rfl rfl (by kernel_rfl) (by kernel_rfl) ((pop_fieldAddr ty93 rfl ty9 (by decide) rfl)) ?_
         refine ahp 2 rfl rfl (by kernel_rfl) (by kernel_rfl) (pop_load ty9 rfl rfl rfl) ?_
         refine ahl 3 rfl rfl (by kernel_rfl) (by kernel_rfl) (by simp) (.inl rfl) (fun M hM => by rcases hM with rfl | ⟨j, st, hj, rfl⟩ <;> exact eop_lookupA (i := 1) (f := fM) (z0 := none) ty115 ty9 ty117 rfl rfl rfl rfl ⟨rfl, rfl⟩) ?_
         rw [outer_get, hb]
         refine ahp 4 rfl rfl (by kernel_rfl) (by kernel_rfl) ((pop_fieldAddr ty93 rfl ty9 (by decide) rfl)) ?_
         refine ahp 5 rfl rfl (by kernel_rfl) (by kernel_rfl) (pop_load ty9 rfl rfl rfl) ?_
         refine ahp 6 rfl rfl (by kernel_rfl) (by kernel_rfl) ((pop_fieldAddr ty93 rfl ty9 (by decide) rfl)) ?_
         refine ahp 7 rfl rfl (by kernel_rfl) (by kernel_rfl) (pop_load ty9 rfl rfl rfl) ?_
         refine ahp 8 rfl rfl (by kernel_rfl) (by kernel_rfl) (pop_build (cs := [_, _]) ty121 pl121 rfl) ?_
         refine ahl 9 rfl rfl (by kernel_rfl) (by kernel_rfl) (by simp) (.inl rfl) (fun M hM => by rcases hM with rfl | ⟨j, st, hj, rfl⟩ <;> first | exact eop_lookupkA (i := 0) (s := (x.Player, x.Stat)) (z0 := (0 : Int)) (f := HVal.int .i64) ty117 ok121 ty3 rfl rfl rfl rfl ⟨rfl, rfl⟩ | exact eop_lookupke (i := 0) (s := (x.Player, x.Stat)) (z0 := (0 : Int)) (f := HVal.int .i64) ty117 ok121 ty3 rfl rfl rfl rfl ⟨rfl, rfl⟩) ?_
         refine ahp 10 rfl rfl (by kernel_rfl) (by kernel_rfl) ((pop_fieldAddr ty93 rfl ty3 (by decide) rfl)) ?_
         refine ahp 11 rfl rfl (by kernel_rfl) (by kernel_rfl) (pop_load ty3 rfl rfl rfl) ?_
         refine ahp 12 rfl rfl (by kernel_rfl) (by kernel_rfl) (pop_add64 rfl rfl (by omega) (by omega)) ?_
         refine ahe 13 rfl (by kernel_rfl) ?_
         refine hop_e rfl (eop_mapEntryA (i := 0) (s := (x.Player, x.Stat)) (z0 := (0 : Int)) (f := HVal.int .i64) ty117 ok121 ty3 rfl rfl rfl rfl fun j87 st87 hj87 => ?_)
         refine ⟨fun _ => .inl (.inr ⟨j87, st87, hj87, rfl⟩), ?_⟩
         refine ahp 14 rfl rfl (by kernel_rfl) (by kernel_rfl) (pop_extract rfl rfl) ?_
         refine ahe 15 rfl (by kernel_rfl) ?_
         refine hop_e0 (eop_entryStoreA (i := 0) (s := (x.Player, x.Stat)) (f := HVal.int .i64) (z0 := (0 : Int)) (v := ((alk (x.Player, x.Stat) L1).getD 0 + x.Count)) rfl rfl rfl rfl hj87 ?_)
         refine ⟨fun _ => .inr (by simp [Before, Region.binds]), ?_⟩
         refine ahz (by kernel_rfl) ?_
         refine blockQ_n ?_
         refine seqQ_n ?_
         refine hw_reg1 ?_
         refine dp rfl (pop_add64 rfl rfl (by omega) (by omega)) ?_
         refine dp rfl (pop_move rfl) ?_
         refine dn ?_
         have hgo := disPs_yes (m := m) (n := n) hx (by simpa using h10) (by simpa [isGone] using h13)
         exact ⟨k + 1, aput x.Source (b1, aput (x.Player, x.Stat) ((alk (x.Player, x.Stat) L1).getD 0 + x.Count) L1) G1, ⟨by omega, by rw [hgo]; exact hG1.dput hb⟩, by dsimp only; omega, ⟨rfl, trivial⟩, (by repeat (first | exact keeps_refl | refine keeps_upd rfl ?_ | refine keeps_loop rfl rfl ?_)), by dsimp only; rw [outer_same hb]; exact grm_put (ek := eOf) (A := [_, _]) hG1.anodup⟩
        ·try simp at h14
         refine hw_skip ?_
         refine blockQ_n ?_
         refine seqQ_n ?_
         refine hw_reg1 ?_
         refine dp rfl (pop_add64 rfl rfl (by omega) (by omega)) ?_
         refine dp rfl (pop_move rfl) ?_
         refine dn ?_
         have hgo := disPs_no (m := m) (n := n) hx (by simpa using h10) (by simpa [isGone] using h14)
         exact ⟨k + 1, G1, ⟨by omega, by rw [hgo]; exact hG1⟩, by dsimp only; omega, ⟨rfl, trivial⟩, (by repeat (first | exact keeps_refl | refine keeps_upd rfl ?_ | refine keeps_loop rfl rfl ?_)), List.Perm.refl _⟩
     ·try simp at h8
      have hnk : l.length ≤ k := by omega
      obtain rfl : k = l.length := by omega
      rw [List.take_length] at hG
      have hlk := disPs_ok (l := l) (m := m) (n := n) (t := l) hpf
      have hlk1 := hlk.cl
      have hfew := disP_few (m := m) (n := n) hok
      have hkl := kAll_len l m n
      refine hw_exit ?_
      refine seqQ_x ?_
      refine loopQ2_x ?_
      refine blockQ_eq ?_
      refine seqQ_n ?_
      refine hw_reg ?_
      refine dp rfl (pop_assign rfl) ?_
      refine dn ?_
      refine hw_ghost (Ghost.arr_nil 7) ?_
      have hks : sortS ((outerL G).map (·.1)) = (sortS (disPs l m n l).S) := by rw [outer_keys, hG.keys]
      have hGo1 : ANodup (outerL G) := by unfold ANodup; rw [outer_keys, hG.keys]; exact hG.nodup
      have hGo2 : ∀ p ∈ outerL G, p.1.length ≤ 1000000 := fun p hp => by
       have hps : p.1 ∈ (disPs l m n l).S := by rw [← hG.keys, ← outer_keys]; exact List.mem_map_of_mem hp
       have := hlk.k _ hps; omega
      have hGo3 : (outerL G).length ≤ 1000000 := by
       have hle : (outerL G).length = (disPs l m n l).S.length := by rw [← hG.keys, ← outer_keys, List.length_map]
       omega
      have hSn : (sortS (disPs l m n l).S).Nodup := (sortS_perm _).nodup_iff.2 hG.nodup
      have hSl : (sortS (disPs l m n l).S).length ≤ 20 := by rw [sortS_len]; exact hfew
      refine hw_reg ?_
      refine dp rfl (pop_move rfl) ?_
      refine de rfl (eop_callf (M1 := []) (R := _) ca69 rfl (WeakL.refl _) (List.Perm.refl _) c_keys_69 ?_)
      rintro _ _ ⟨bx, rfl, rfl⟩
      refine de rfl (EOp.fzi (N := [MObj.map m35 (sk (em fM (outerL G)))] ++ ([MObj.arr (.slice none 0 0) 7 [], MObj.map b34 (kk eNum (em HVal.bool (goneL l n)))] ++ grm eOf G)) (sz := 1) (es := (sortS ((outerL G).map (·.1))).map .str) 0 (eop_callf (M1 := [.cells bx [.raw (.map (some m35))], .map m35 (sk (em fM (outerL G)))]) (R := [MObj.arr (.slice none 0 0) 7 [], MObj.map b34 (kk eNum (em HVal.bool (goneL l n)))] ++ grm eOf G) ca64 rfl (WeakL.refl _) (List.Perm.cons _ (List.Perm.swap _ _ _)) (c_sorted_69 hT hGo1 hGo2 hGo3) (by rintro _ _ ⟨v, rfl, rfl⟩; exact ⟨v, rfl, rfl, rfl⟩)) ?_)
      rw [hks]
      refine dp rfl (pop_assign rfl) ?_
      refine dn ?_
      refine hw_seq ?_
      refine hw_reg ?_
      refine dp rfl (pop_move rfl) ?_
      refine dp rfl (pop_lenm (f := HVal.str) (l := (sortS (disPs l m n l).S)) ty28 rfl) ?_
      refine dp rfl (pop_move rfl) ?_
      refine dn ?_
      refine hw_block ?_
      refine hw_loopw2 [13, 15, 16, 18, 95, 96, 97, 98, 99, 100, 101, 102, 103, 104, 105, 106, 107, 108, 109, 110, 111, 112, 113, 114, 115, 116, 117] (fun (i : Nat) (u : Value) => [(95, .int .i64 i), (13, .raw u)]) (fun (i : Nat) (u : Value) => [MObj.map m35 (sk (em fM (outerL G))), .arr u 7 ((disUp m (disAt (disPs l m n l)) (kAll l m n) (sortS (disPs l m n l).S) i).map eApart), .map b34 (kk eNum (em HVal.bool (goneL l n)))] ++ grm eOf G) (fun (i : Nat) (u : Value) => i ≤ (sortS (disPs l m n l).S).length ∧ (True)) (fun (i : Nat) (u : Value) => (sortS (disPs l m n l).S).length - i) (0) (.slice none 0 0) ?_ ?_ ?_ ?_
      ·exact ⟨Nat.zero_le _, trivial⟩
      ·exact ⟨rfl, rfl, trivial⟩
      ·exact List.Perm.refl _
      ·intro i u hinv
       obtain ⟨hi, -⟩ := hinv
       refine hw_reg ?_
       refine dp rfl (pop_lss rfl rfl) ?_
       refine dn ?_
       refine hw_seq ?_
       refine hw_cond rfl (fun h15 => ?_) (fun h16 => ?_)
       ·try simp at h15
        obtain ⟨a, ha⟩ : ∃ a, (sortS (disPs l m n l).S)[i]? = some a := ⟨_, List.getElem?_eq_getElem h15⟩
        have hda := drop_cons ha
        have haS : a ∈ (disPs l m n l).S := (sortS_perm _).mem_iff.1 (List.mem_of_getElem? ha)
        obtain ⟨ba, La, hba⟩ := hG.find haS
        have hLa := hG.get hba
        subst hLa
        have hga : (sortS (disPs l m n l).S).getD i [] = a := by simp [List.getD, ha]
        refine hw_skip ?_
        refine seqQ_n ?_
        refine hw_seq ?_
        refine hw_block ?_
        refine hw_reg ?_
        refine dp rfl (pop_move rfl) ?_
        refine dp rfl (pop_idx (f := HVal.str) (l := (sortS (disPs l m n l).S)) (j := i) (a := a) ty28 ty9 rfl rfl rfl ha) ?_
        refine dp rfl (pop_load ty9 rfl rfl rfl) ?_
        refine dp rfl (pop_assign rfl) ?_
        refine dp rfl (pop_assign rfl) ?_
        refine dn ?_
        refine hw_reg ?_
        refine dp rfl (pop_move rfl) ?_
        refine dp rfl (pop_move rfl) ?_
        refine dp rfl (pop_add64 rfl rfl (by omega) (by omega)) ?_
        refine dp rfl (pop_slicem (es := (sortS (disPs l m n l).S)) (f := HVal.str) (l := i + 1) (h := (sortS (disPs l m n l).S).length) ty28 ty9 rfl ⟨_, _, rfl, by omega⟩ rfl (by omega) (by omega)) ?_
        rw [List.take_length]
        refine dp rfl (pop_lenm (f := HVal.str) (l := (sortS (disPs l m n l).S).drop (i + 1)) ty28 rfl) ?_
        refine dp rfl (pop_move rfl) ?_
        refine dn ?_
        refine hw_block ?_
        refine hw_loopw2 [13, 18, 105, 106, 107, 108, 109, 110, 111, 112, 113, 114, 115, 116] (fun (j : Nat) (u2 : Value) => [(105, .int .i64 j), (13, .raw u2)]) (fun (j : Nat) (u2 : Value) => [MObj.map m35 (sk (em fM (outerL G))), .arr u2 7 ((disUp m (disAt (disPs l m n l)) (kAll l m n) (sortS (disPs l m n l).S) i ++ disTo m (disAt (disPs l m n l)) (kAll l m n) a (((sortS (disPs l m n l).S).drop (i + 1)).take j)).map eApart), .map b34 (kk eNum (em HVal.bool (goneL l n)))] ++ grm eOf G) (fun (j : Nat) (u2 : Value) => j ≤ ((sortS (disPs l m n l).S).drop (i + 1)).length ∧ (True)) (fun (j : Nat) (u2 : Value) => ((sortS (disPs l m n l).S).drop (i + 1)).length - j) (0) (u) ?_ ?_ ?_ ?_
        ·exact ⟨Nat.zero_le _, trivial⟩
        ·exact ⟨rfl, rfl, trivial⟩
        ·exact perm_eq (by simp [disTo])
        ·intro j u2 hinv
         obtain ⟨hj, -⟩ := hinv
         refine hw_reg ?_
         refine dp rfl (pop_lss rfl rfl) ?_
         refine dn ?_
         refine hw_seq ?_
         refine hw_cond rfl (fun h17 => ?_) (fun h18 => ?_)
         ·try simp at h17
          obtain ⟨b, hb⟩ : ∃ b, ((sortS (disPs l m n l).S).drop (i + 1))[j]? = some b := ⟨_, List.getElem?_eq_getElem (by simpa using h17)⟩
          have hdb := drop_cons hb
          have hbS : b ∈ (disPs l m n l).S := (sortS_perm _).mem_iff.1 (List.mem_of_mem_drop (List.mem_of_getElem? hb))
          obtain ⟨bb, Lb, hbb⟩ := hG.find hbS
          have hLb := hG.get hbb
          subst hLb
          have hab := apart_names hSn ha hb
          have hjl := lt_of_get hb
          refine hw_skip ?_
          refine seqQ_n ?_
          refine hw_seq ?_
          refine hw_block ?_
          refine hw_reg ?_
          refine dp rfl (pop_idx (f := HVal.str) (l := (sortS (disPs l m n l).S).drop (i + 1)) (j := j) (a := b) ty28 ty9 rfl rfl rfl hb) ?_
          refine dp rfl (pop_load ty9 rfl rfl rfl) ?_
          refine dp rfl (pop_assign rfl) ?_
          refine dn ?_
          refine hw_reg1 ?_
          refine dp rfl (pop_move rfl) ?_
          refine dp rfl (pop_move rfl) ?_
          refine dp rfl (pop_move rfl) ?_
          refine dp rfl (pop_move rfl) ?_
          refine dp rfl (pop_move rfl) ?_
          refine de rfl (eop_callf (M1 := [MObj.map m35 (sk (em fM (outerL G))), .map ba (kk eOf (em (HVal.int .i64) (inner (disPs l m n l).c a))), .map bb (kk eOf (em (HVal.int .i64) (inner (disPs l m n l).c b)))]) (R := [.arr u2 7 ((disUp m (disAt (disPs l m n l)) (kAll l m n) (sortS (disPs l m n l).S) i ++ disTo m (disAt (disPs l m n l)) (kAll l m n) a (((sortS (disPs l m n l).S).drop (i + 1)).take j)).map eApart), .map b34 (kk eNum (em HVal.bool (goneL l n)))] ++ grm eOf ((G.filter fun q => decide (q.1 ≠ a)).filter fun q => decide (q.1 ≠ b))) ca70 rfl (WeakL.refl _) (List.Perm.cons _ (grm_take2 (A := [_, _]) hG.anodup hba hbb hab)) (c_play_apart (K := (kAll l m n)) (by rw [outer_get, hba]; rfl) (by rw [outer_get, hbb]; rfl) (Nat.le_trans (inner_len _ _) (by omega)) (Nat.le_trans (inner_len _ _) (by omega)) (inner_nodup hlk.c _) (inner_nodup hlk.c _) (kAll_is l m n).1 (fun y hy => by rw [gOf_inner, gOf_inner] at hy; exact disP_diff hok hy)) ?_)
          rintro _ _ ⟨rfl, rfl⟩
          rw [gOf_inner, gOf_inner]
          refine de rfl (eop_append (i := 3) ty42 ty60 rfl rfl rfl rfl rfl (by simp [flat, hcells]) (sums_room (by omega) (by omega) (by omega) a _ (Nat.le_trans (apartL_len _ _ _ _ _ _) (by omega))) fun v115 => ?_)
          refine dp rfl (pop_assign rfl) ?_
          refine dn ?_
          refine blockQ_n ?_
          refine seqQ_n ?_
          refine hw_reg1 ?_
          refine dp rfl (pop_add64 rfl rfl (by omega) (by omega)) ?_
          refine dp rfl (pop_move rfl) ?_
          refine dn ?_
          exact ⟨j + 1, v115, ⟨by omega, trivial⟩, by dsimp only; omega, ⟨rfl, rfl, trivial⟩, (by repeat (first | exact keeps_refl | refine keeps_upd rfl ?_ | refine keeps_loop rfl rfl ?_)), by dsimp only; rw [take_snoc' hb, disTo_snoc, map_three]; exact List.Perm.cons _ (grm_take2 (ek := eOf) (A := [_, _]) hG.anodup hba hbb hab).symm⟩
         ·try simp at h18
          have hnj : ((sortS (disPs l m n l).S).drop (i + 1)).length ≤ j := by simpa using h18
          obtain rfl : j = ((sortS (disPs l m n l).S).drop (i + 1)).length := by omega
          rw [List.take_length]
          refine hw_exit ?_
          refine seqQ_x ?_
          refine loopQ2_x ?_
          refine blockQ_eq ?_
          refine blockQ_n ?_
          refine seqQ_n ?_
          refine hw_reg1 ?_
          refine dp rfl (pop_add64 rfl rfl (by omega) (by omega)) ?_
          refine dp rfl (pop_move rfl) ?_
          refine dn ?_
          exact ⟨i + 1, u2, ⟨by omega, trivial⟩, by dsimp only; omega, ⟨rfl, rfl, trivial⟩, (by repeat (first | exact keeps_refl | refine keeps_upd rfl ?_ | refine keeps_loop rfl rfl ?_)), perm_eq (by dsimp only; rw [disUp_succ, hga])⟩
       ·try simp at h16
        have hni : (sortS (disPs l m n l).S).length ≤ i := by omega
        obtain rfl : i = (sortS (disPs l m n l).S).length := by omega
        refine hw_exit ?_
        refine seqQ_x ?_
        refine loopQ2_x ?_
        refine blockQ_eq ?_
        refine seqQ_n ?_
        rw [disUp_all, dis_done hok]
        refine hw_ghost (Ghost.fa 13 (i := 1) rfl rfl) ?_
        refine hw_reg ?_
        refine dp rfl (pop_move rfl) ?_
        refine dp rfl (pop_assign rfl) ?_
        refine dp rfl (pop_assign rfl) ?_
        refine dn ?_
        refine hw_ret ?_
        (refine ret_g Ghost.clear rfl ⟨?_, rfl⟩
         rw [DisL, DisE, if_neg (by simpa using h2), if_neg (by simp_all), if_neg (by simp_all), if_neg (by simpa using h2), if_neg (by simp_all), if_neg (by simp_all)]; rfl)

end Go.Proofs.YtihpgpbbpklbbaaGreatDoor
end
section
namespace Go.Proofs.YtihpgpbbpklbbaaGreatDoor
open Go.HL
set_option maxRecDepth 100000
set_option linter.unusedVariables false
set_option linter.unusedSimpArgs false
set_option maxHeartbeats 1000000 in
/-- slices.Compact[[][2]string,[2]string] -/
theorem c_compact_Of [Tracks] {l : List Of2} {v : Value} (hl : l.length ≤ 1000000) : Con Tryz.prog 82 [.raw v] [.arr v 2 (l.map eOf)] (fun x M' => ∃ u, x = .raw u ∧ M' = [.arr u 2 ((uniqO none l).map eOf)]) := by
 refine Con.of_body Tryz.func82 rfl Tryz.ntmps82 rfl rfl ?_
 refine hw_reg ?_
 refine dp rfl (pop_assign rfl) ?_
 refine dn ?_
 refine hw_seq ?_
 refine hw_reg ?_
 refine dp rfl (pop_move rfl) ?_
 refine de rfl (eop_lenm (i := 0) ty134 rfl rfl ?_)
 refine dp rfl (pop_lss rfl rfl) ?_
 refine dn ?_
 refine hw_cond rfl (fun h1 => ?_) (fun h2 => ?_)
 ·try simp at h1
  refine hw_reg ?_
  refine dp rfl (pop_move rfl) ?_
  refine dp rfl (pop_assign rfl) ?_
  refine dn ?_
  refine hw_ret ?_
  (refine ret_q rfl ⟨_, rfl, ?_⟩
   rw [uniqO_one (by omega)])
 ·try simp at h2
  refine hw_skip ?_
  refine seqQ_n ?_
  refine hw_seq ?_
  refine hw_arrc (i := 0) rfl (fun h0 he => ?_) (fun b off cap hv hcap => ?_)
  ·exfalso; have := congrArg List.length he; simp at this; subst this; simp at h2
  rw [List.length_map] at hv hcap
  subst hv
  refine hw_reg ?_
  refine dp rfl (pop_assign rfl) ?_
  refine dn ?_
  refine hw_block ?_
  refine hw_loopw [2, 3, 4, 5, 10, 11, 12, 13, 14, 15, 16, 17, 18, 19, 20, 21, 22, 23, 24, 25, 26, 27, 28, 29, 30, 31, 32, 33, 34, 35, 36, 37, 38, 39, 40, 41, 42, 43, 44, 45, 46, 47, 48, 49, 50, 51, 52, 53, 54, 55, 56, 57, 58, 59] (fun (k : Nat) => [(3, .int .i64 (k : Int))]) (fun (k : Nat) => [.arr (.slice (some ⟨b, off, none⟩) l.length cap) 2 (l.map eOf)]) (fun (k : Nat) => (1 ≤ k ∧ k ≤ l.length) ∧ uniqO none (l.take k) = l.take k) (fun (k : Nat) => l.length - k) (1) ?_ ?_ ?_ ?_
  ·exact ⟨⟨by omega, by omega⟩, uniqO_one (by simp; omega)⟩
  ·exact ⟨rfl, trivial⟩
  ·exact List.Perm.refl _
  ·intro k hinv
   obtain ⟨⟨hk1, hk⟩, hu⟩ := hinv
   refine hw_seq ?_
   refine hw_reg ?_
   refine dp rfl (pop_move rfl) ?_
   refine dp rfl (pop_move rfl) ?_
   refine de rfl (eop_lenm (i := 0) ty134 rfl rfl ?_)
   refine dp rfl (pop_lss rfl rfl) ?_
   refine dn ?_
   refine hw_cond rfl (fun h3 => ?_) (fun h4 => ?_)
   ·try simp at h3
    obtain ⟨x, hx⟩ : ∃ x, l[k]? = some x := ⟨_, List.getElem?_eq_getElem (by omega)⟩
    obtain ⟨y, hy⟩ : ∃ y, l[k - 1]? = some y := ⟨_, List.getElem?_eq_getElem (by omega)⟩
    refine hw_skip ?_
    refine seqQ_n ?_
    refine hw_seq ?_
    refine hw_block ?_
    refine hw_draw (fun M => M = [.arr (.slice (some ⟨b, off, none⟩) l.length cap) 2 (l.map eOf)]) [3, 8] mixed ?_
    refine ahp 0 rfl rfl (by kernel_rfl) (by kernel_rfl) (pop_move rfl) ?_
    refine ahp 1 rfl rfl (by kernel_rfl) (by kernel_rfl) (pop_move rfl) ?_
    refine ahp 2 rfl rfl (by kernel_rfl) (by kernel_rfl) (pop_idxraw (j := k) ty134 ty136 rfl rfl rfl (by omega)) ?_
    refine ahl 3 rfl rfl (by kernel_rfl) (by kernel_rfl) (by simp) rfl (fun M hM => by subst hM; exact eop_load_elw (i := 0) (j := k) ty136 rfl (by omega) rfl hx rfl rfl rfl ⟨rfl, rfl⟩) ?_
    refine ahp 4 rfl rfl (by kernel_rfl) (by kernel_rfl) (pop_move rfl) ?_
    refine ahp 5 rfl rfl (by kernel_rfl) (by kernel_rfl) (pop_move rfl) ?_
    refine ahp 6 rfl rfl (by kernel_rfl) (by kernel_rfl) (pop_sub64 rfl rfl (by omega) (by omega)) ?_
    refine ahp 7 rfl rfl (by kernel_rfl) (by kernel_rfl) (pop_idxraw (j := k - 1) ty134 ty136 rfl rfl (by omega) (by omega)) ?_
    refine ahl 8 rfl rfl (by kernel_rfl) (by kernel_rfl) (by simp) rfl (fun M hM => by subst hM; exact eop_load_elw (i := 0) (j := k - 1) ty136 rfl (by omega) rfl hy rfl rfl rfl ⟨rfl, rfl⟩) ?_
    refine ahp 9 rfl rfl (by kernel_rfl) (by kernel_rfl) (pop_eqarr2 ty136 ty9 (by kernel_rfl) rfl rfl rfl rfl) ?_
    refine ahz (by kernel_rfl) ?_
    refine hw_cond rfl (fun h5 => ?_) (fun h6 => ?_)
    ·try simp at h5
     have hxy : x = y := by rw [eqOf_is] at h5; simpa using h5
     obtain ⟨hC0, hU0⟩ := CmpO.start hx hy (by omega) hxy hu
     refine hw_reg ?_
     refine dp rfl (pop_move rfl) ?_
     refine dp rfl (pop_move rfl) ?_
     refine dp rfl (pop_slraw (l := k) (h := l.length) ty134 ty136 rfl ⟨_, _, rfl, rfl⟩ rfl (by omega) (by omega) hcap) ?_
     refine dp rfl (pop_assign rfl) ?_
     refine dn ?_
     rw [slOff_lt (by omega)]
     refine hw_seq ?_
     refine hw_reg ?_
     refine dp rfl (pop_assign rfl) ?_
     refine dn ?_
     refine hw_block ?_
     refine hw_loopw2 [3, 5, 29, 30, 31, 32, 33, 34, 35, 36, 37, 38, 39, 40, 41, 42, 43, 44, 45, 46, 47, 48, 49, 50, 51, 52, 53] (fun (k2 : Nat) (D : List Of2) => [(5, .int .i64 (k2 : Int)), (3, .int .i64 ((uniqO none (l.take (k + k2))).length : Int))]) (fun (k2 : Nat) (D : List Of2) => [.arr (.slice (some ⟨b, off, none⟩) l.length cap) 2 (D.map eOf)]) (fun (k2 : Nat) (D : List Of2) => (1 ≤ k2 ∧ k + k2 ≤ l.length) ∧ CmpO l (k + k2) D) (fun (k2 : Nat) (D : List Of2) => l.length - k2) (1) (l) ?_ ?_ ?_ ?_
     ·exact ⟨⟨by omega, by have := lt_of_get hx; omega⟩, hC0⟩
     ·exact ⟨rfl, some_int (by rw [hU0]), trivial⟩
     ·exact List.Perm.refl _
     ·intro k2 D hinv
      obtain ⟨⟨hk2, hkk⟩, hD⟩ := hinv
      have hlt0 := hD.lt
      have hle0 := hD.len
      refine hw_seq ?_
      refine hw_reg ?_
      refine dp rfl (pop_move rfl) ?_
      refine dp rfl (pop_move rfl) ?_
      refine dp rfl (pop_len_raw ty134 rfl) ?_
      refine dp rfl (pop_lss rfl rfl) ?_
      refine dn ?_
      refine hw_cond rfl (fun h7 => ?_) (fun h8 => ?_)
      ·try simp at h7
       obtain ⟨x2, hx2⟩ : ∃ x, l[k + k2]? = some x := ⟨_, List.getElem?_eq_getElem (by omega)⟩
       obtain ⟨y2, hy2⟩ : ∃ y, l[k + k2 - 1]? = some y := ⟨_, List.getElem?_eq_getElem (by omega)⟩
       have hDx : D[k + k2]? = some x2 := by rw [hD.hi _ (by omega), hx2]
       have hDy : D[k + k2 - 1]? = some y2 := by rw [hD.hi _ (by omega), hy2]
       refine hw_skip ?_
       refine seqQ_n ?_
       refine hw_seq ?_
       refine hw_block ?_
       refine hw_draw (fun M => M = [.arr (.slice (some ⟨b, off, none⟩) l.length cap) 2 (D.map eOf)]) [3, 8] mixed ?_
       refine ahp 0 rfl rfl (by kernel_rfl) (by kernel_rfl) (pop_move rfl) ?_
       refine ahp 1 rfl rfl (by kernel_rfl) (by kernel_rfl) (pop_move rfl) ?_
       refine ahp 2 rfl rfl (by kernel_rfl) (by kernel_rfl) (pop_idxraw (j := k2) ty134 ty136 rfl rfl rfl (by omega)) ?_
       refine ahl 3 rfl rfl (by kernel_rfl) (by kernel_rfl) (by simp) rfl (fun M hM => by subst hM; exact eop_load_elw (i := 0) (j := (k + k2)) ty136 rfl (by omega) rfl hDx rfl rfl rfl ⟨rfl, rfl⟩) ?_
       refine ahp 4 rfl rfl (by kernel_rfl) (by kernel_rfl) (pop_move rfl) ?_
       refine ahp 5 rfl rfl (by kernel_rfl) (by kernel_rfl) (pop_move rfl) ?_
       refine ahp 6 rfl rfl (by kernel_rfl) (by kernel_rfl) (pop_sub64 rfl rfl (by omega) (by omega)) ?_
       refine ahp 7 rfl rfl (by kernel_rfl) (by kernel_rfl) (pop_idxraw (j := k2 - 1) ty134 ty136 rfl rfl (by omega) (by omega)) ?_
       refine ahl 8 rfl rfl (by kernel_rfl) (by kernel_rfl) (by simp) rfl (fun M hM => by subst hM; exact eop_load_elw (i := 0) (j := (k + k2 - 1)) ty136 rfl (by omega) rfl hDy rfl rfl rfl ⟨rfl, rfl⟩) ?_
       refine ahp 9 rfl rfl (by kernel_rfl) (by kernel_rfl) (pop_neqarr2 ty136 ty9 (by kernel_rfl) rfl rfl rfl rfl) ?_
       refine ahz (by kernel_rfl) ?_
       refine hw_cond rfl (fun h9 => ?_) (fun h10 => ?_)
       ·try simp at h9
        refine hw_reg ?_
        refine dp rfl (pop_move rfl) ?_
        refine dp rfl (pop_move rfl) ?_
        refine dp rfl (pop_move rfl) ?_
        refine dp rfl (pop_move rfl) ?_
        refine dp rfl (pop_idxraw (j := k2) ty134 ty136 rfl rfl rfl (by omega)) ?_
        refine de rfl (eop_load_elw (i := 0) (j := (k + k2)) ty136 rfl (by omega) rfl hDx rfl rfl rfl ?_)
        refine dp rfl (pop_idxraw (j := (uniqO none (l.take (k + k2))).length) ty134 ty136 rfl rfl rfl (by omega)) ?_
        refine de0 (eop_store_elw (i := 0) (j := (uniqO none (l.take (k + k2))).length) (y := D[(uniqO none (l.take (k + k2))).length]'(by omega)) (y' := x2) ty136 rfl rfl rfl rfl (List.getElem?_eq_getElem _) rfl rfl rfl ?_)
        refine dn ?_
        refine hw_reg1 ?_
        refine dp rfl (pop_move rfl) ?_
        refine dp rfl (pop_add64 rfl rfl (by omega) (by omega)) ?_
        refine dp rfl (pop_assign rfl) ?_
        refine dn ?_
        refine blockQ_n ?_
        refine seqQ_n ?_
        refine hw_reg1 ?_
        refine dp rfl (pop_move rfl) ?_
        refine dp rfl (pop_add64 rfl rfl (by omega) (by omega)) ?_
        refine dp rfl (pop_assign rfl) ?_
        refine dn ?_
        have hxy : x2 ≠ y2 := by rw [eqOf_is] at h9; simpa using h9
        obtain ⟨hC1, hU1⟩ := hD.more hx2 hy2 hxy
        exact ⟨k2 + 1, _, ⟨⟨by omega, by omega⟩, hC1⟩, by dsimp only; omega, ⟨rfl, some_int (by rw [← Nat.add_assoc, hU1]; rfl), trivial⟩, (by repeat (first | exact keeps_refl | refine keeps_upd rfl ?_ | refine keeps_loop rfl rfl ?_)), List.Perm.refl _⟩
       ·try simp at h10
        refine hw_skip ?_
        refine blockQ_n ?_
        refine seqQ_n ?_
        refine hw_reg1 ?_
        refine dp rfl (pop_move rfl) ?_
        refine dp rfl (pop_add64 rfl rfl (by omega) (by omega)) ?_
        refine dp rfl (pop_assign rfl) ?_
        refine dn ?_
        have hxy : x2 = y2 := by rw [eqOf_is] at h10; simpa using h10
        obtain ⟨hC1, hU1⟩ := hD.same hx2 hy2 hxy
        exact ⟨k2 + 1, D, ⟨⟨by omega, by omega⟩, hC1⟩, by dsimp only; omega, ⟨rfl, some_int (by rw [← Nat.add_assoc, hU1]), trivial⟩, (by repeat (first | exact keeps_refl | refine keeps_upd rfl ?_ | refine keeps_loop rfl rfl ?_)), List.Perm.refl _⟩
      ·try simp at h8
       have hkl : k + k2 = l.length := by omega
       refine hw_exit ?_
       refine seqQ_x ?_
       refine loopQ2_x ?_
       refine blockQ_eq ?_
       refine seqQ_n ?_
       refine hw_reg ?_
       refine dp rfl (pop_move rfl) ?_
       refine dp rfl (pop_move rfl) ?_
       refine dp rfl (pop_slraw (l := (uniqO none (l.take (k + k2))).length) (h := l.length) ty134 ty136 rfl ⟨_, _, rfl, rfl⟩ rfl (by omega) (by omega) hcap) ?_
       refine de0 (eop_clear_at (i := 0) (m := (uniqO none (l.take (k + k2))).length) ((uniqO none (l.take (k + k2))).length) ty134 ty136 rfl rfl rfl (slOff_or (by omega) hcap) rfl (by omega) (Nat.le_refl _) (by rw [List.length_map, hD.len]; omega) ?_)
       refine dn ?_
       refine hw_reg ?_
       refine dp rfl (pop_move rfl) ?_
       refine dp rfl (pop_move rfl) ?_
       refine dp rfl (pop_slraw0 (h := (uniqO none (l.take (k + k2))).length) ty134 ty136 rfl ⟨_, _, rfl, rfl⟩ (by omega)) ?_
       refine dp rfl (pop_assign rfl) ?_
       refine dn ?_
       refine hw_ret ?_
       (refine ret_q rfl ⟨_, rfl, ?_⟩
        have hlo := hD.lo
        rw [hkl, List.take_length] at hlo ⊢
        rw [← List.map_take, hlo]; rfl)
    ·try simp at h6
     refine hw_skip ?_
     refine blockQ_n ?_
     refine seqQ_n ?_
     refine hw_reg1 ?_
     refine dp rfl (pop_move rfl) ?_
     refine dp rfl (pop_add64 rfl rfl (by omega) (by omega)) ?_
     refine dp rfl (pop_assign rfl) ?_
     refine dn ?_
     have hxy : x ≠ y := by rw [eqOf_is] at h6; simpa using h6
     exact ⟨k + 1, ⟨⟨by omega, by omega⟩, by rw [uniqO_step hx hy (by omega), if_neg hxy, hu, take_snoc' hx]⟩, by dsimp only; omega, ⟨rfl, trivial⟩, (by repeat (first | exact keeps_refl | refine keeps_upd rfl ?_ | refine keeps_loop rfl rfl ?_)), List.Perm.refl _⟩
   ·try simp at h4
    have hkl : k = l.length := by omega
    rw [hkl, List.take_length] at hu
    refine hw_exit ?_
    refine seqQ_x ?_
    refine loopQ_x ?_
    refine blockQ_eq ?_
    refine seqQ_n ?_
    refine hw_reg ?_
    refine dp rfl (pop_move rfl) ?_
    refine dp rfl (pop_assign rfl) ?_
    refine dn ?_
    refine hw_ret ?_
    (refine ret_q rfl ⟨_, rfl, ?_⟩
     rw [hu])

/-- slices.SortFunc -/
theorem c_sort_Of [Tracks] {c : Of2 → Of2 → Int} (hO : Go.Sort.SWO (Go.Proofs.ltOf c)) {g : FuncId} (hg : Callable Tryz.prog g) {cap : List HVal} (hc : ∀ x y, @ConP trackOn Tryz.prog g (eOf x :: eOf y :: cap) (.int .i64 (c x y))) {l : List Of2} (hl : l.length ≤ 1000000) {v : Value} :
 Con Tryz.prog 78 [.raw v, .fn (.func g) [] cap] [.arr v 2 (l.map eOf)] fun x M' => ∃ l' : List Of2, x = .tup [] ∧ l'.Perm l ∧ l'.Pairwise (fun a b => ¬ c b a < 0) ∧ M' = [.arr v 2 (l'.map eOf)] :=
 con_sortf (e := eOf) Tryz.g78 (Tryz.isAgg136) (Tryz.sizeOf136) (fun _ => rfl) (fun _ => rfl) (fun _ => rfl) hO hg hc hl

theorem ok136 [Tracks] : KeyOk Tryz.prog 136 eOf := keyOk_arr2 (p := fun x : Of2 => HVal.str x.1) (q := fun x : Of2 => HVal.str x.2) ty136 ty9 (fun _ _ => rfl) (fun _ _ => rfl) eqOf_is (fun _ => rfl)

/-- benchwarmer/benchref1.DisagreeOf$1 -/
theorem c_benchref1_DisagreeOf_1 [Tracks] {a b : Of2}  : ConP Tryz.prog 79 [eOf a, eOf b] (.int .i64 (byOf a b)) := by
 refine Con.of_body Tryz.func79 rfl Tryz.ntmps79 rfl rfl ?_
 refine hw_reg ?_
 refine dp rfl (pop_box rfl rfl) ?_
 refine dp rfl (pop_box rfl rfl) ?_
 refine dp rfl (pop_assign rfl) ?_
 refine dn ?_
 refine hw_draw (fun _ => True) [] mixed ?_
 refine ahp 0 rfl rfl (by kernel_rfl) (by kernel_rfl) (pop_idxa (j := 0) ty136 ty9 rfl rfl rfl (by omega)) ?_
 refine ahp 1 rfl rfl (by kernel_rfl) (by kernel_rfl) (pop_load ty9 rfl rfl rfl) ?_
 refine ahp 2 rfl rfl (by kernel_rfl) (by kernel_rfl) (pop_idxa (j := 0) ty136 ty9 rfl rfl rfl (by omega)) ?_
 refine ahp 3 rfl rfl (by kernel_rfl) (by kernel_rfl) (pop_load ty9 rfl rfl rfl) ?_
 refine ahp 4 rfl rfl (by kernel_rfl) (by kernel_rfl) (pop_call ca81 rfl (WeakL.refl _) c_strings_Compare) ?_
 refine ahp 5 rfl rfl (by kernel_rfl) (by kernel_rfl) (pop_idxa (j := 1) ty136 ty9 rfl rfl rfl (by omega)) ?_
 refine ahp 6 rfl rfl (by kernel_rfl) (by kernel_rfl) (pop_load ty9 rfl rfl rfl) ?_
 refine ahp 7 rfl rfl (by kernel_rfl) (by kernel_rfl) (pop_idxa (j := 1) ty136 ty9 rfl rfl rfl (by omega)) ?_
 refine ahp 8 rfl rfl (by kernel_rfl) (by kernel_rfl) (pop_load ty9 rfl rfl rfl) ?_
 refine ahp 9 rfl rfl (by kernel_rfl) (by kernel_rfl) (pop_call ca81 rfl (WeakL.refl _) c_strings_Compare) ?_
 refine ahp 10 rfl rfl (by kernel_rfl) (by kernel_rfl) (pop_buildSlice (hs := [_, _]) ty22 ty3 rfl rfl (by decide) (by decide) rfl) ?_
 refine ahp 11 rfl rfl (by kernel_rfl) (by kernel_rfl) (pop_call ca80 rfl (WeakL.refl _) (c_cmp_Or_int (l := [_, _]) (by simp))) ?_
 refine ahp 12 rfl rfl (by kernel_rfl) (by kernel_rfl) (pop_assign rfl) ?_
 refine ahz (by kernel_rfl) ?_
 refine hw_ret ?_
 refine ret_p rfl ?_
 rfl

set_option maxHeartbeats 2000000 in
/-- benchwarmer/benchref1.DisagreeOf -/
theorem c_benchref1_DisagreeOf [Tracks] {l : List Play} {m : Str} {n : Int} (hok : playsE l = 0) : ConP Tryz.prog 24 [ePlays l, .str m, .int .i64 n] (eAparts (disRef l m n)) := by
 have hone := plays_one hok
 have hpf := plays_fault hok
 have hl3 := (playsE_ok hok).1
 have hl : l.length ≤ 1000000 := by omega
 refine Con.of_body Tryz.func24 rfl Tryz.ntmps24 rfl rfl ?_
 refine hw_reg ?_
 refine dp rfl (pop_assign rfl) ?_
 refine dn ?_
 refine hw_reg ?_
 refine dp rfl (pop_move rfl) ?_
 refine dp rfl (pop_move rfl) ?_
 refine de rfl (eop_callf (M1 := []) (R := []) ca74 rfl (WeakL.refl _) (List.Perm.refl _) (c_benchref1_undoneBy (l := l) (n := n) hl) ?_)
 rintro _ _ ⟨U, rfl, ⟨hUl, hU⟩, rfl⟩
 refine dp rfl (pop_assign rfl) ?_
 refine dn ?_
 refine hw_reg ?_
 refine de rfl (eop_makeMap fun m26 => ?_)
 refine dp rfl (pop_assign rfl) ?_
 refine dn ?_
 refine hw_reg ?_
 refine dp rfl (pop_assign rfl) ?_
 refine dn ?_
 refine hw_ghost (Ghost.arr_nil 1) ?_
 refine hw_reg ?_
 refine dp rfl (pop_assign rfl) ?_
 refine dn ?_
 refine hw_ghost (Ghost.arr_nil 2) ?_
 refine hw_seq ?_
 refine hw_reg ?_
 refine dp rfl (pop_move rfl) ?_
 refine dp rfl (pop_lenm ty26 rfl) ?_
 refine dp rfl (pop_move rfl) ?_
 refine dn ?_
 refine hw_block ?_
 refine hw_loopw4 [9, 10, 11, 12, 13, 29, 30, 31, 32, 33, 34, 35, 36, 37, 38, 39, 40, 41, 42, 43, 44, 45, 46, 47, 48, 49, 50, 51, 52, 53, 54, 55, 56, 57, 58, 59, 60, 61, 62, 63, 64, 65, 66, 67, 68, 69, 70, 71, 72, 73, 74, 75, 76, 77, 78, 79, 80, 81, 82] (fun (k : Nat) (G : GrM Of2) (u : Value) (w : Value) => [(29, .int .i64 k), (9, .raw u), (10, .raw w)]) (fun (k : Nat) (G : GrM Of2) (u : Value) (w : Value) => [MObj.arr w 2 ((allOf (l.take k) m n).map eOf), .map m26 (sk (em fM (outerL G))), .arr u 1 ((disRs l m n (l.take k)).S.map .str)] ++ grm eOf G) (fun (k : Nat) (G : GrM Of2) (u : Value) (w : Value) => k ≤ l.length ∧ (GrOk (disRs l m n (l.take k)).S (disRs l m n (l.take k)).c G)) (fun (k : Nat) (G : GrM Of2) (u : Value) (w : Value) => l.length - k) (0) ([]) (.slice none 0 0) (.slice none 0 0) ?_ ?_ ?_ ?_
 ·exact ⟨Nat.zero_le _, GrOk.nil⟩
 ·exact ⟨rfl, rfl, rfl, trivial⟩
 ·exact List.Perm.cons _ (List.Perm.swap _ _ _)
 ·intro k G u w hinv
  obtain ⟨hk, hG⟩ := hinv
  refine hw_reg ?_
  refine dp rfl (pop_lss rfl rfl) ?_
  refine dn ?_
  refine hw_seq ?_
  refine hw_cond rfl (fun h1 => ?_) (fun h2 => ?_)
  ·try simp at h1
   obtain ⟨x, hx⟩ : ∃ x, l[k]? = some x := ⟨_, List.getElem?_eq_getElem h1⟩
   have hdx := drop_cons hx
   have hpx := hpf x (List.mem_of_getElem? hx)
   obtain ⟨_, _, _, _, _, hcb, _⟩ := playFault_ok hpx
   have hlk := disRs_ok (l := l) (m := m) (n := n) (t := l.take k) (fun y hy => hpf y (List.mem_of_mem_take hy))
   have hSl0 := hlk.Sl
   have hal := allOf_len (l.take k) m n
   have hlt : ((l.take k).length : Int) ≤ 3000 := by rw [List.length_take]; omega
   refine hw_skip ?_
   refine seqQ_n ?_
   refine hw_seq ?_
   refine hw_block ?_
   refine hw_reg ?_
   refine dp rfl (pop_move rfl) ?_
   refine dp rfl (pop_idx ty26 ty93 rfl rfl rfl (by assumption)) ?_
   refine dp rfl (pop_loadw ty93 rfl rfl rfl rfl) ?_
   refine de rfl (eop_alloc ty93 rfl fun b12 => ?_)
   refine dp rfl (pop_assign rfl) ?_
   refine de0 (eop_storew ty93 rfl rfl rfl rfl rfl ?_)
   refine dn ?_
   refine hw_ghost (Ghost.fc0 12 rfl) ?_
   refine hw_seq ?_
   refine hw_reg ?_
   refine dp rfl ((pop_fieldAddr ty93 rfl ty9 (by decide) rfl)) ?_
   refine dp rfl (pop_load ty9 rfl rfl rfl) ?_
   refine dp rfl (pop_move rfl) ?_
   refine dp rfl (pop_neqs rfl rfl) ?_
   refine dp rfl (pop_move rfl) ?_
   refine dg rfl rfl (fun hc => ⟨_, OpenTo.refl _, (pop_fieldAddr ty93 rfl ty3 (by decide) rfl)⟩) ?_
   refine dg rfl rfl (fun hc => ⟨_, OpenTo.upd (t := 39) rfl (hc) (OpenTo.refl _), pop_load ty3 rfl rfl rfl⟩) ?_
   refine dg rfl rfl (fun hc => ⟨_, OpenTo.refl _, pop_move rfl⟩) ?_
   refine dg rfl rfl (fun hc => ⟨_, OpenTo.upd (t := 41) rfl (hc) (OpenTo.upd (t := 40) rfl (hc) (OpenTo.refl _)), pop_gtr rfl rfl⟩) ?_
   refine dp rfl (pop_picko rfl (.inl rfl) (.inr ⟨_, rfl, fun h => by simp_all⟩)) ?_
   refine dn ?_
   refine hw_cond rfl (fun h3 => ?_) (fun h4 => ?_)
   ·try simp at h3
    refine hw_exit ?_
    refine seqQ_x ?_
    refine blockQ_eq ?_
    refine seqQ_n ?_
    refine hw_reg1 ?_
    refine dp rfl (pop_add64 rfl rfl (by omega) (by omega)) ?_
    refine dp rfl (pop_move rfl) ?_
    refine dn ?_
    have ho := disRs_out (m := m) (n := n) hx (by simpa using h3)
    exact ⟨k + 1, G, u, w, ⟨by omega, by rw [ho]; exact hG⟩, by dsimp only; omega, ⟨rfl, rfl, rfl, trivial⟩, (by repeat (first | exact keeps_refl | refine keeps_upd rfl ?_ | refine keeps_loop rfl rfl ?_)), perm_eq (by dsimp only; rw [ho, allOf_no hx (by simpa using h3)])⟩
   ·try simp at h4
    refine hw_skip ?_
    refine seqQ_n ?_
    refine hw_join [9, 44, 45, 46, 47, 48, 49, 50, 51, 52, 53, 54, 55, 56, 57] (fun (p : GrM Of2 × Value) => [(9, .raw p.2)]) (fun (p : GrM Of2 × Value) => [MObj.arr w 2 ((allOf (l.take k) m n).map eOf), .map m26 (sk (em fM (outerL p.1))), .arr p.2 1 ((sadd x.Source (disRs l m n (l.take k)).S).map .str)] ++ grm eOf p.1) (fun (p : GrM Of2 × Value) => GrOk (sadd x.Source (disRs l m n (l.take k)).S) (disRs l m n (l.take k)).c p.1 ∧ ∃ b L, alk x.Source p.1 = some (b, L)) ?_ ?_
    ·skip
     refine hw_reg ?_
     refine dp rfl (pop_move rfl) ?_
     refine dp rfl ((pop_fieldAddr ty93 rfl ty9 (by decide) rfl)) ?_
     refine dp rfl (pop_load ty9 rfl rfl rfl) ?_
     refine de rfl (eop_lookupA (i := 1) (f := fM) (z0 := none) ty133 ty9 ty135 rfl rfl rfl rfl ?_)
     refine dp rfl (pop_eqnilM ty135 rfl rfl) ?_
     refine dn ?_
     refine hw_cond rfl (fun h5 => ?_) (fun h6 => ?_)
     ·try simp at h5
      refine hw_reg ?_
      refine dp rfl (pop_move rfl) ?_
      refine dp rfl ((pop_fieldAddr ty93 rfl ty9 (by decide) rfl)) ?_
      refine dp rfl (pop_load ty9 rfl rfl rfl) ?_
      refine de rfl (eop_makeMap fun m52 => ?_)
      refine de0 (eop_updateA (i := 2) (f := fM) (v := some m52) ty133 ty9 rfl rfl rfl rfl ?_)
      refine dn ?_
      refine hw_reg1 ?_
      refine dp rfl (pop_move rfl) ?_
      refine dp rfl ((pop_fieldAddr ty93 rfl ty9 (by decide) rfl)) ?_
      refine dp rfl (pop_load ty9 rfl rfl rfl) ?_
      refine dp rfl (pop_buildSlice (hs := [_]) ty28 ty9 rfl rfl (by decide) (by decide) rfl) ?_
      refine de rfl (eop_append (i := 3) ty28 ty9 rfl rfl rfl rfl rfl (by simp [flat, hcells]) (by simp; omega) fun v57 => ?_)
      refine dp rfl (pop_assign rfl) ?_
      refine dn ?_
      have hnone := outer_none (by simpa using h5)
      have hns := hG.none.1 hnone
      exact ⟨(aput x.Source (m52, []) G, v57), ⟨hG.add m52 hnone, m52, [], by rw [alk_put, if_pos rfl]⟩, ⟨rfl, trivial⟩, (by repeat (first | exact keeps_refl | refine keeps_upd rfl ?_ | refine keeps_loop rfl rfl ?_)), by dsimp only; rw [← outer_put (L := []), sadd_new hns, List.map_append]; exact grm_new (ek := eOf) (A := [_, _, _]) (b := m52) (L := []) hG.anodup hnone⟩
     ·try simp at h6
      refine hw_skip ?_
      obtain ⟨b0, L0, hb0⟩ := outer_some (by simpa using h6)
      have hins := hG.mem hb0
      exact ⟨(G, u), ⟨by rw [sadd_old hins]; exact hG, b0, L0, hb0⟩, ⟨rfl, trivial⟩, (by repeat (first | exact keeps_refl | refine keeps_upd rfl ?_ | refine keeps_loop rfl rfl ?_)), perm_eq (by dsimp only; rw [sadd_old hins])⟩
    ·intro p hp
     obtain ⟨G1, u1⟩ := p
     dsimp only at hp
     obtain ⟨hG1, b1, L1, hb⟩ := hp
     have hL := hG1.get hb
     have hvb := hlk.val (x.Source, (x.Player, x.Stat))
     rw [← inner_get, ← hL] at hvb
     refine hw_reg ?_
     refine dp rfl ((pop_fieldAddr ty93 rfl ty9 (by decide) rfl)) ?_
     refine dp rfl (pop_load ty9 rfl rfl rfl) ?_
     refine dp rfl ((pop_fieldAddr ty93 rfl ty9 (by decide) rfl)) ?_
     refine dp rfl (pop_load ty9 rfl rfl rfl) ?_
     refine dp rfl (pop_buildA (cs := [_, _]) ty136 ty9 rfl rfl) ?_
     refine de rfl (eop_alloc ty136 rfl fun b13 => ?_)
     refine de0 (eop_storew ty136 rfl rfl rfl rfl rfl ?_)
     refine dn ?_
     refine hw_ghost (Ghost.fc0 13 rfl) ?_
     refine hw_join [63, 64, 65, 66, 67, 68, 69, 70, 71, 72, 73, 74, 75, 76, 77] (fun (G2 : GrM Of2) => []) (fun (G2 : GrM Of2) => [MObj.arr w 2 ((allOf (l.take k) m n).map eOf), .map m26 (sk (em fM (outerL G2))), .arr u1 1 ((disRs l m n (l.take (k + 1))).S.map .str)] ++ grm eOf G2) (fun (G2 : GrM Of2) => GrOk (disRs l m n (l.take (k + 1))).S (disRs l m n (l.take (k + 1))).c G2) ?_ ?_
     ·skip
      refine hw_reg ?_
      refine dp rfl (pop_move rfl) ?_
      refine dp rfl (pop_move rfl) ?_
      refine dp rfl (pop_eq (pop_call ca75 rfl (WeakL.refl _) (c_slices_Contains_int_int (l := U) (z := (k : Int)) hUl)) (congrArg HVal.bool (gone_contains hone hU hx))) ?_
      refine dp rfl (pop_not rfl) ?_
      refine dn ?_
      refine hw_cond rfl (fun h7 => ?_) (fun h8 => ?_)
      ·try simp at h7
       refine hw_ghost (Ghost.perm (grm_take (ek := eOf) (A := [_, _, _]) hG1.anodup hb)) ?_
       refine hw_draw1 (fun M => M = MObj.map b1 (kk eOf (em (HVal.int .i64) L1)) :: ([MObj.arr w 2 ((allOf (l.take k) m n).map eOf), .map m26 (sk (em fM (outerL G1))), .arr u1 1 ((sadd x.Source (disRs l m n (l.take k)).S).map .str)] ++ grm eOf (G1.filter fun q => decide (q.1 ≠ x.Source))) ∨ ∃ j st, kidx (x.Player, x.Stat) (kent (x.Player, x.Stat) (HVal.int .i64 0) (em (HVal.int .i64) L1)) = some j ∧ M = MObj.mape b1 (kk eOf (kent (x.Player, x.Stat) (HVal.int .i64 0) (em (HVal.int .i64) L1))) j st :: ([MObj.arr w 2 ((allOf (l.take k) m n).map eOf), .map m26 (sk (em fM (outerL G1))), .arr u1 1 ((sadd x.Source (disRs l m n (l.take k)).S).map .str)] ++ grm eOf (G1.filter fun q => decide (q.1 ≠ x.Source)))) [3, 5] mixed ?_
       refine ahp 0 rfl rfl (by kernel_rfl) (by kernel_rfl) (pop_move rfl) ?_
       refine ahp 1 rfl rfl (by kernel_rfl) (by kernel_rfl) ((pop_fieldAddr ty93 rfl ty9 (by decide) rfl)) ?_
       refine ahp 2 rfl rfl (by kernel_rfl) (by kernel_rfl) (pop_load ty9 rfl rfl rfl) ?_
       refine ahl 3 rfl rfl (by kernel_rfl) (by kernel_rfl) (by simp) (.inl rfl) (fun M hM => by rcases hM with rfl | ⟨j, st, hj, rfl⟩ <;> exact eop_lookupA (i := 2) (f := fM) (z0 := none) ty133 ty9 ty135 rfl rfl rfl rfl ⟨rfl, rfl⟩) ?_
       rw [outer_get, hb]
       refine ahp 4 rfl rfl (by kernel_rfl) (by kernel_rfl) (pop_loadw ty136 rfl rfl rfl rfl) ?_
       refine ahl 5 rfl rfl (by kernel_rfl) (by kernel_rfl) (by simp) (.inl rfl) (fun M hM => by rcases hM with rfl | ⟨j, st, hj, rfl⟩ <;> first | exact eop_lookupkA (i := 0) (s := (x.Player, x.Stat)) (z0 := (0 : Int)) (f := HVal.int .i64) ty135 ok136 ty3 rfl rfl rfl rfl ⟨rfl, rfl⟩ | exact eop_lookupke (i := 0) (s := (x.Player, x.Stat)) (z0 := (0 : Int)) (f := HVal.int .i64) ty135 ok136 ty3 rfl rfl rfl rfl ⟨rfl, rfl⟩) ?_
       refine ahp 6 rfl rfl (by kernel_rfl) (by kernel_rfl) ((pop_fieldAddr ty93 rfl ty3 (by decide) rfl)) ?_
       refine ahp 7 rfl rfl (by kernel_rfl) (by kernel_rfl) (pop_load ty3 rfl rfl rfl) ?_
       refine ahp 8 rfl rfl (by kernel_rfl) (by kernel_rfl) (pop_add64 rfl rfl (by omega) (by omega)) ?_
       refine ahe 9 rfl (by kernel_rfl) ?_
       refine hop_e rfl (eop_mapEntryA (i := 0) (s := (x.Player, x.Stat)) (z0 := (0 : Int)) (f := HVal.int .i64) ty135 ok136 ty3 rfl rfl rfl rfl fun j76 st76 hj76 => ?_)
       refine ⟨fun _ => .inl (.inr ⟨j76, st76, hj76, rfl⟩), ?_⟩
       refine ahp 10 rfl rfl (by kernel_rfl) (by kernel_rfl) (pop_extract rfl rfl) ?_
       refine ahe 11 rfl (by kernel_rfl) ?_
       refine hop_e0 (eop_entryStoreA (i := 0) (s := (x.Player, x.Stat)) (f := HVal.int .i64) (z0 := (0 : Int)) (v := ((alk (x.Player, x.Stat) L1).getD 0 + x.Count)) rfl rfl rfl rfl hj76 ?_)
       refine ⟨fun _ => .inr (by simp [Before, Region.binds]), ?_⟩
       refine ahz (by kernel_rfl) ?_
       have hgo := disRs_yes (m := m) (n := n) hx (by simpa using h4) (by simpa using h7)
       exact ⟨aput x.Source (b1, aput (x.Player, x.Stat) ((alk (x.Player, x.Stat) L1).getD 0 + x.Count) L1) G1, by rw [hgo]; exact hG1.dput hb, trivial, (by repeat (first | exact keeps_refl | refine keeps_upd rfl ?_ | refine keeps_loop rfl rfl ?_)), by dsimp only; rw [outer_same hb, hgo]; exact grm_put (ek := eOf) (A := [_, _, _]) hG1.anodup⟩
      ·try simp at h8
       refine hw_skip ?_
       have hgo := disRs_no (m := m) (n := n) hx (by simpa using h4) (by simpa using h8)
       exact ⟨G1, by rw [hgo]; exact hG1, trivial, (by repeat (first | exact keeps_refl | refine keeps_upd rfl ?_ | refine keeps_loop rfl rfl ?_)), perm_eq (by dsimp only; rw [hgo])⟩
     ·intro G2 hG2
      refine hw_reg1 ?_
      refine dp rfl (pop_move rfl) ?_
      refine dp rfl (pop_loadw ty136 rfl rfl rfl rfl) ?_
      refine dp rfl (pop_buildSlice (hs := [_]) ty134 ty136 rfl rfl (by decide) (by decide) rfl) ?_
      refine de rfl (eop_append (i := 0) ty134 ty136 rfl rfl rfl rfl rfl (by simp [flat, hcells]) (by simp; omega) fun v81 => ?_)
      refine dp rfl (pop_assign rfl) ?_
      refine dn ?_
      refine blockQ_n ?_
      refine seqQ_n ?_
      refine hw_reg1 ?_
      refine dp rfl (pop_add64 rfl rfl (by omega) (by omega)) ?_
      refine dp rfl (pop_move rfl) ?_
      refine dn ?_
      exact ⟨k + 1, G2, u1, v81, ⟨by omega, hG2⟩, by dsimp only; omega, ⟨rfl, rfl, rfl, trivial⟩, (by repeat (first | exact keeps_refl | refine keeps_upd rfl ?_ | refine keeps_loop rfl rfl ?_)), perm_eq (by dsimp only; rw [allOf_yes hx (by simpa using h4), List.map_append]; rfl)⟩
  ·try simp at h2
   have hnk : l.length ≤ k := by omega
   obtain rfl : k = l.length := by omega
   rw [List.take_length] at hG ⊢
   have hlk := disRs_ok (l := l) (m := m) (n := n) (t := l) hpf
   have hlk1 := hlk.cl
   have hlk2 := hlk.Sl
   have hfew := disR_few (m := m) (n := n) hok
   have hkl := kAll_len l m n
   have hal := allOf_len l m n
   refine hw_exit ?_
   refine seqQ_x ?_
   refine loopQ4_x ?_
   refine blockQ_eq ?_
   refine seqQ_n ?_
   refine hw_reg ?_
   refine dp rfl (pop_move rfl) ?_
   refine de rfl (eop_callf (M1 := [.arr w 2 ((allOf l m n).map eOf)]) (R := [MObj.map m26 (sk (em fM (outerL G))), .arr u 1 ((disRs l m n l).S.map .str)] ++ grm eOf G) ca78 rfl (WeakL.refl _) (List.Perm.refl _) (c_sort_Of (c := byOf) (swo_cmp byOf_cmp) ca79 (fun _ _ => @c_benchref1_DisagreeOf_1 trackOn _ _) (l := allOf l m n) (by omega)) ?_)
   rintro _ _ ⟨Y, rfl, hYp, hYs, rfl⟩
   have hYk := kAll_of hYp hYs
   have hYl := hYp.length_eq
   refine dn ?_
   refine hw_reg ?_
   refine dp rfl (pop_move rfl) ?_
   refine de rfl (eop_callx (i := 0) ca82 rfl (WeakL.refl _) rfl (c_compact_Of (l := Y) (by omega)) ?_)
   rintro _ _ ⟨u86, rfl, rfl⟩
   rw [hYk]
   refine dp rfl (pop_assign rfl) ?_
   refine dn ?_
   refine hw_reg ?_
   refine dp rfl (pop_assign rfl) ?_
   refine dn ?_
   refine hw_ghost (Ghost.fa 10 (i := 0) rfl rfl) ?_
   refine hw_ghost (Ghost.fa 9 (i := 1) rfl rfl) ?_
   refine hw_ghost (Ghost.of_eq (M' := [MObj.map m26 (sk (em fM (outerL G)))] ++ grm eOf G) rfl) ?_
   refine hw_ghost (Ghost.arr_nil 7) ?_
   refine hw_reg ?_
   refine dp rfl (pop_move rfl) ?_
   refine de rfl (EOp.fz (eop_calla ca72 rfl (WeakL.refl _) (c_benchref1_once (l := (disRs l m n l).S) (by omega)) fun v => ⟨v, rfl, rfl⟩) ?_)
   refine dp rfl (pop_assign rfl) ?_
   refine dn ?_
   have hSn : (onceL (disRs l m n l).S).Nodup := (onceL_strict _).imp fun q => q.2
   have hSl : (onceL (disRs l m n l).S).length ≤ 20 := Nat.le_trans (onceL_len _) hfew
   refine hw_seq ?_
   refine hw_reg ?_
   refine dp rfl (pop_move rfl) ?_
   refine dp rfl (pop_lenm (f := HVal.str) (l := (onceL (disRs l m n l).S)) ty28 rfl) ?_
   refine dp rfl (pop_move rfl) ?_
   refine dn ?_
   refine hw_block ?_
   refine hw_loopw2 [14, 15, 16, 18, 20, 21, 22, 91, 92, 93, 94, 95, 96, 97, 98, 99, 100, 101, 102, 103, 104, 105, 106, 107, 108, 109, 110, 111, 112, 113, 114, 115, 116, 117, 118, 119, 120, 121, 122, 123, 124, 125, 126, 127, 128, 129, 130, 131, 132, 133, 134, 135, 136, 137, 138, 139] (fun (i : Nat) (u2 : Value) => [(91, .int .i64 i), (14, .raw u2)]) (fun (i : Nat) (u2 : Value) => [MObj.map m26 (sk (em fM (outerL G))), .arr u2 7 ((disUp m (disAt (disRs l m n l)) (kAll l m n) (onceL (disRs l m n l).S) i).map eApart)] ++ grm eOf G) (fun (i : Nat) (u2 : Value) => i ≤ (onceL (disRs l m n l).S).length ∧ (True)) (fun (i : Nat) (u2 : Value) => (onceL (disRs l m n l).S).length - i) (0) (.slice none 0 0) ?_ ?_ ?_ ?_
   ·exact ⟨Nat.zero_le _, trivial⟩
   ·exact ⟨rfl, rfl, trivial⟩
   ·exact List.Perm.swap _ _ _
   ·intro i u2 hinv
    obtain ⟨hi, -⟩ := hinv
    refine hw_reg ?_
    refine dp rfl (pop_lss rfl rfl) ?_
    refine dn ?_
    refine hw_seq ?_
    refine hw_cond rfl (fun h9 => ?_) (fun h10 => ?_)
    ·try simp at h9
     obtain ⟨a, ha⟩ : ∃ a, (onceL (disRs l m n l).S)[i]? = some a := ⟨_, List.getElem?_eq_getElem h9⟩
     have hda := drop_cons ha
     have haS : a ∈ (disRs l m n l).S := mem_onceL.1 (List.mem_of_getElem? ha)
     obtain ⟨ba, La, hba⟩ := hG.find haS
     have hLa := hG.get hba
     subst hLa
     have hga : (onceL (disRs l m n l).S).getD i [] = a := by simp [List.getD, ha]
     refine hw_skip ?_
     refine seqQ_n ?_
     refine hw_seq ?_
     refine hw_block ?_
     refine hw_reg ?_
     refine dp rfl (pop_move rfl) ?_
     refine dp rfl (pop_idx (f := HVal.str) (l := (onceL (disRs l m n l).S)) (j := i) (a := a) ty28 ty9 rfl rfl rfl ha) ?_
     refine dp rfl (pop_load ty9 rfl rfl rfl) ?_
     refine dp rfl (pop_assign rfl) ?_
     refine dp rfl (pop_assign rfl) ?_
     refine dn ?_
     refine hw_reg ?_
     refine dp rfl (pop_move rfl) ?_
     refine dp rfl (pop_move rfl) ?_
     refine dp rfl (pop_add64 rfl rfl (by omega) (by omega)) ?_
     refine dp rfl (pop_slicem (es := (onceL (disRs l m n l).S)) (f := HVal.str) (l := i + 1) (h := (onceL (disRs l m n l).S).length) ty28 ty9 rfl ⟨_, _, rfl, by omega⟩ rfl (by omega) (by omega)) ?_
     rw [List.take_length]
     refine dp rfl (pop_lenm (f := HVal.str) (l := (onceL (disRs l m n l).S).drop (i + 1)) ty28 rfl) ?_
     refine dp rfl (pop_move rfl) ?_
     refine dn ?_
     refine hw_block ?_
     refine hw_loopw2 [14, 18, 20, 21, 22, 101, 102, 103, 104, 105, 106, 107, 108, 109, 110, 111, 112, 113, 114, 115, 116, 117, 118, 119, 120, 121, 122, 123, 124, 125, 126, 127, 128, 129, 130, 131, 132, 133, 134, 135, 136, 137, 138] (fun (j : Nat) (u3 : Value) => [(101, .int .i64 j), (14, .raw u3)]) (fun (j : Nat) (u3 : Value) => [MObj.map m26 (sk (em fM (outerL G))), .arr u3 7 ((disUp m (disAt (disRs l m n l)) (kAll l m n) (onceL (disRs l m n l).S) i ++ disTo m (disAt (disRs l m n l)) (kAll l m n) a (((onceL (disRs l m n l).S).drop (i + 1)).take j)).map eApart)] ++ grm eOf G) (fun (j : Nat) (u3 : Value) => j ≤ ((onceL (disRs l m n l).S).drop (i + 1)).length ∧ (True)) (fun (j : Nat) (u3 : Value) => ((onceL (disRs l m n l).S).drop (i + 1)).length - j) (0) (u2) ?_ ?_ ?_ ?_
     ·exact ⟨Nat.zero_le _, trivial⟩
     ·exact ⟨rfl, rfl, trivial⟩
     ·exact perm_eq (by simp [disTo])
     ·intro j u3 hinv
      obtain ⟨hj, -⟩ := hinv
      refine hw_reg ?_
      refine dp rfl (pop_lss rfl rfl) ?_
      refine dn ?_
      refine hw_seq ?_
      refine hw_cond rfl (fun h11 => ?_) (fun h12 => ?_)
      ·try simp at h11
       obtain ⟨b, hb⟩ : ∃ b, ((onceL (disRs l m n l).S).drop (i + 1))[j]? = some b := ⟨_, List.getElem?_eq_getElem (by simpa using h11)⟩
       have hdb := drop_cons hb
       have hbS : b ∈ (disRs l m n l).S := mem_onceL.1 (List.mem_of_mem_drop (List.mem_of_getElem? hb))
       obtain ⟨bb, Lb, hbb⟩ := hG.find hbS
       have hLb := hG.get hbb
       subst hLb
       have hab := apart_names hSn ha hb
       have hjl := lt_of_get hb
       refine hw_skip ?_
       refine seqQ_n ?_
       refine hw_seq ?_
       refine hw_block ?_
       refine hw_reg ?_
       refine dp rfl (pop_idx (f := HVal.str) (l := (onceL (disRs l m n l).S).drop (i + 1)) (j := j) (a := b) ty28 ty9 rfl rfl rfl hb) ?_
       refine dp rfl (pop_load ty9 rfl rfl rfl) ?_
       refine dp rfl (pop_assign rfl) ?_
       refine dn ?_
       refine hw_reg ?_
       refine dp rfl (pop_move rfl) ?_
       refine dp rfl (pop_lenm (f := eOf) (l := (kAll l m n)) ty134 rfl) ?_
       refine dp rfl (pop_move rfl) ?_
       refine dn ?_
       refine hw_block ?_
       refine hw_loopw2 [14, 20, 21, 22, 107, 108, 109, 110, 111, 112, 113, 114, 115, 116, 117, 118, 119, 120, 121, 122, 123, 124, 125, 126, 127, 128, 129, 130, 131, 132, 133, 134, 135, 136, 137] (fun (t : Nat) (u4 : Value) => [(107, .int .i64 t), (14, .raw u4)]) (fun (t : Nat) (u4 : Value) => [MObj.map m26 (sk (em fM (outerL G))), .map ba (kk eOf (em (HVal.int .i64) (inner (disRs l m n l).c a))), .map bb (kk eOf (em (HVal.int .i64) (inner (disRs l m n l).c b)))] ++ ([.arr u4 7 ((disUp m (disAt (disRs l m n l)) (kAll l m n) (onceL (disRs l m n l).S) i ++ disTo m (disAt (disRs l m n l)) (kAll l m n) a (((onceL (disRs l m n l).S).drop (i + 1)).take j) ++ apartL m a b ((disAt (disRs l m n l)) a) ((disAt (disRs l m n l)) b) ((kAll l m n).take t)).map eApart)] ++ grm eOf ((G.filter fun q => decide (q.1 ≠ a)).filter fun q => decide (q.1 ≠ b)))) (fun (t : Nat) (u4 : Value) => t ≤ (kAll l m n).length ∧ (True)) (fun (t : Nat) (u4 : Value) => (kAll l m n).length - t) (0) (u3) ?_ ?_ ?_ ?_
       ·exact ⟨Nat.zero_le _, trivial⟩
       ·exact ⟨rfl, rfl, trivial⟩
       ·exact by rw [show apartL m a b ((disAt (disRs l m n l)) a) ((disAt (disRs l m n l)) b) ((kAll l m n).take 0) = [] from rfl, List.append_nil]; exact List.Perm.cons _ (grm_take2 (ek := eOf) (A := [_]) hG.anodup hba hbb hab)
       ·intro t u4 hinv
        obtain ⟨ht, -⟩ := hinv
        refine hw_reg ?_
        refine dp rfl (pop_lss rfl rfl) ?_
        refine dn ?_
        refine hw_seq ?_
        refine hw_cond rfl (fun h13 => ?_) (fun h14 => ?_)
        ·try simp at h13
         obtain ⟨x, hx⟩ : ∃ x, (kAll l m n)[t]? = some x := ⟨_, List.getElem?_eq_getElem h13⟩
         have hdx := drop_cons hx
         refine hw_skip ?_
         refine seqQ_n ?_
         refine hw_seq ?_
         refine hw_block ?_
         refine hw_reg ?_
         refine dp rfl (pop_idx (f := eOf) (l := (kAll l m n)) (j := t) (a := x) ty134 ty136 rfl rfl rfl hx) ?_
         refine dp rfl (pop_loadw ty136 rfl rfl rfl rfl) ?_
         refine de rfl (eop_alloc ty136 rfl fun b20 => ?_)
         refine de0 (eop_storew ty136 rfl rfl rfl rfl rfl ?_)
         refine dn ?_
         refine hw_ghost (Ghost.fc0 20 rfl) ?_
         refine hw_draw (fun M => ∃ X, M = MObj.map m26 (sk (em fM (outerL G))) :: .map ba (kk eOf (em (HVal.int .i64) (inner (disRs l m n l).c a))) :: .map bb (kk eOf (em (HVal.int .i64) (inner (disRs l m n l).c b))) :: X) [2, 4, 7, 9] mixed ?_
         refine ahp 0 rfl rfl (by kernel_rfl) (by kernel_rfl) (pop_move rfl) ?_
         refine ahp 1 rfl rfl (by kernel_rfl) (by kernel_rfl) (pop_move rfl) ?_
         refine ahl 2 rfl rfl (by kernel_rfl) (by kernel_rfl) (by simp) ⟨_, rfl⟩ (fun M hM => by obtain ⟨X, rfl⟩ := hM; exact eop_lookupA (i := 0) (f := fM) (z0 := none) ty133 ty9 ty135 rfl rfl rfl rfl ⟨rfl, rfl⟩) ?_
         rw [outer_get, hba]
         refine ahp 3 rfl rfl (by kernel_rfl) (by kernel_rfl) (pop_loadw ty136 rfl rfl rfl rfl) ?_
         refine ahl 4 rfl rfl (by kernel_rfl) (by kernel_rfl) (by simp) ⟨_, rfl⟩ (fun M hM => by obtain ⟨X, rfl⟩ := hM; exact eop_lookupkA (i := 1) (s := x) (z0 := (0 : Int)) (f := HVal.int .i64) ty135 ok136 ty3 rfl rfl rfl rfl ⟨rfl, rfl⟩) ?_
         refine ahp 5 rfl rfl (by kernel_rfl) (by kernel_rfl) (pop_move rfl) ?_
         refine ahp 6 rfl rfl (by kernel_rfl) (by kernel_rfl) (pop_move rfl) ?_
         refine ahl 7 rfl rfl (by kernel_rfl) (by kernel_rfl) (by simp) ⟨_, rfl⟩ (fun M hM => by obtain ⟨X, rfl⟩ := hM; exact eop_lookupA (i := 0) (f := fM) (z0 := none) ty133 ty9 ty135 rfl rfl rfl rfl ⟨rfl, rfl⟩) ?_
         rw [outer_get, hbb]
         refine ahp 8 rfl rfl (by kernel_rfl) (by kernel_rfl) (pop_loadw ty136 rfl rfl rfl rfl) ?_
         refine ahl 9 rfl rfl (by kernel_rfl) (by kernel_rfl) (by simp) ⟨_, rfl⟩ (fun M hM => by obtain ⟨X, rfl⟩ := hM; exact eop_lookupkA (i := 2) (s := x) (z0 := (0 : Int)) (f := HVal.int .i64) ty135 ok136 ty3 rfl rfl rfl rfl ⟨rfl, rfl⟩) ?_
         refine ahp 10 rfl rfl (by kernel_rfl) (by kernel_rfl) (pop_assign rfl) ?_
         refine ahp 11 rfl rfl (by kernel_rfl) (by kernel_rfl) (pop_assign rfl) ?_
         refine ahz (by kernel_rfl) ?_
         refine hw_reg ?_
         refine dp rfl (pop_move rfl) ?_
         refine dp rfl (pop_move rfl) ?_
         refine dp rfl (pop_neq rfl rfl) ?_
         refine dn ?_
         refine hw_cond rfl (fun h15 => ?_) (fun h16 => ?_)
         ·try simp at h15
          refine hw_reg1 ?_
          refine dp rfl (pop_move rfl) ?_
          refine dp rfl (pop_move rfl) ?_
          refine dp rfl (pop_idxa (j := 0) ty136 ty9 rfl rfl rfl (by omega)) ?_
          refine dp rfl (pop_load ty9 rfl rfl rfl) ?_
          refine dp rfl (pop_idxa (j := 1) ty136 ty9 rfl rfl rfl (by omega)) ?_
          refine dp rfl (pop_load ty9 rfl rfl rfl) ?_
          refine dp rfl (pop_move rfl) ?_
          refine dp rfl (pop_move rfl) ?_
          refine dp rfl (pop_move rfl) ?_
          refine dp rfl (pop_move rfl) ?_
          refine dp rfl (pop_build (cs := [_, _, _, _, _, _, _]) ty60 pl60 rfl) ?_
          refine dp rfl (pop_buildSlice (hs := [_]) ty42 ty60 rfl rfl (by decide) (by decide) rfl) ?_
          refine de rfl (eop_append (i := 3) ty42 ty60 rfl rfl rfl rfl rfl (by simp [flat, hcells]) (by have h5 := dis_room (m := m) (g := (disAt (disRs l m n l))) (K := (kAll l m n)) (S := (onceL (disRs l m n l).S)) (by omega) (by omega) (i := i) (j := j) (by omega) a; have h6 := apartL_len m a b ((disAt (disRs l m n l)) a) ((disAt (disRs l m n l)) b) ((kAll l m n).take t); simp only [List.length_map, List.length_append, List.length_cons, List.length_nil, List.length_take] at *; omega) fun v136 => ?_)
          refine dp rfl (pop_assign rfl) ?_
          refine dn ?_
          refine blockQ_n ?_
          refine seqQ_n ?_
          refine hw_reg1 ?_
          refine dp rfl (pop_add64 rfl rfl (by omega) (by omega)) ?_
          refine dp rfl (pop_move rfl) ?_
          refine dn ?_
          exact ⟨t + 1, v136, ⟨by omega, trivial⟩, by dsimp only; omega, ⟨rfl, rfl, trivial⟩, (by repeat (first | exact keeps_refl | refine keeps_upd rfl ?_ | refine keeps_loop rfl rfl ?_)), perm_eq (by dsimp only; rw [take_snoc' hx, apartL_yes (by rw [← gOf_inner, ← gOf_inner]; simpa [gOf] using h15), map_three, ← gOf_inner, ← gOf_inner]; rfl)⟩
         ·try simp at h16
          refine hw_skip ?_
          refine blockQ_n ?_
          refine seqQ_n ?_
          refine hw_reg1 ?_
          refine dp rfl (pop_add64 rfl rfl (by omega) (by omega)) ?_
          refine dp rfl (pop_move rfl) ?_
          refine dn ?_
          exact ⟨t + 1, u4, ⟨by omega, trivial⟩, by dsimp only; omega, ⟨rfl, rfl, trivial⟩, (by repeat (first | exact keeps_refl | refine keeps_upd rfl ?_ | refine keeps_loop rfl rfl ?_)), perm_eq (by dsimp only; rw [take_snoc' hx, apartL_no (by rw [← gOf_inner, ← gOf_inner]; simpa [gOf] using h16)]; try rfl)⟩
        ·try simp at h14
         have hnt : (kAll l m n).length ≤ t := by omega
         obtain rfl : t = (kAll l m n).length := by omega
         rw [List.take_length]
         refine hw_exit ?_
         refine seqQ_x ?_
         refine loopQ2_x ?_
         refine blockQ_eq ?_
         refine blockQ_n ?_
         refine seqQ_n ?_
         refine hw_reg1 ?_
         refine dp rfl (pop_add64 rfl rfl (by omega) (by omega)) ?_
         refine dp rfl (pop_move rfl) ?_
         refine dn ?_
         exact ⟨j + 1, u4, ⟨by omega, trivial⟩, by dsimp only; omega, ⟨rfl, rfl, trivial⟩, (by repeat (first | exact keeps_refl | refine keeps_upd rfl ?_ | refine keeps_loop rfl rfl ?_)), by dsimp only; rw [take_snoc' hb, disTo_snoc, ← List.append_assoc (disUp m (disAt (disRs l m n l)) (kAll l m n) (onceL (disRs l m n l).S) i)]; exact List.Perm.cons _ (grm_take2 (ek := eOf) (A := [_]) hG.anodup hba hbb hab).symm⟩
      ·try simp at h12
       have hnj : ((onceL (disRs l m n l).S).drop (i + 1)).length ≤ j := by simpa using h12
       obtain rfl : j = ((onceL (disRs l m n l).S).drop (i + 1)).length := by omega
       rw [List.take_length]
       refine hw_exit ?_
       refine seqQ_x ?_
       refine loopQ2_x ?_
       refine blockQ_eq ?_
       refine blockQ_n ?_
       refine seqQ_n ?_
       refine hw_reg1 ?_
       refine dp rfl (pop_add64 rfl rfl (by omega) (by omega)) ?_
       refine dp rfl (pop_move rfl) ?_
       refine dn ?_
       exact ⟨i + 1, u3, ⟨by omega, trivial⟩, by dsimp only; omega, ⟨rfl, rfl, trivial⟩, (by repeat (first | exact keeps_refl | refine keeps_upd rfl ?_ | refine keeps_loop rfl rfl ?_)), perm_eq (by dsimp only; rw [disUp_succ, hga])⟩
    ·try simp at h10
     have hni : (onceL (disRs l m n l).S).length ≤ i := by omega
     obtain rfl : i = (onceL (disRs l m n l).S).length := by omega
     refine hw_exit ?_
     refine seqQ_x ?_
     refine loopQ2_x ?_
     refine blockQ_eq ?_
     refine seqQ_n ?_
     rw [disUp_all]
     refine hw_ghost (Ghost.fa 14 (i := 1) rfl rfl) ?_
     refine hw_reg ?_
     refine dp rfl (pop_move rfl) ?_
     refine dp rfl (pop_assign rfl) ?_
     refine dn ?_
     refine hw_ret ?_
     refine ret_g Ghost.clear rfl ⟨rfl, rfl⟩
end Go.Proofs.YtihpgpbbpklbbaaGreatDoor
end
section
namespace Go.Proofs.YtihpgpbbpklbbaaGreatDoor
open Go.HL
set_option maxRecDepth 100000
set_option linter.unusedVariables false
set_option linter.unusedSimpArgs false
/-- slices.Equal[[]benchwarmer/api.Pair,benchwarmer/api.Pair] -/
theorem c_slices_Equal_api_Pair_api_Pair [Tracks] {l m : List PairS} (hl : l.length ≤ 1000000) : ConP Tryz.prog 25 [ePairs l, ePairs m] (.bool (eqSts ePair l m)) := by
 refine Con.of_body Tryz.func25 rfl Tryz.ntmps25 rfl rfl ?_
 refine hw_reg ?_
 refine dp rfl (pop_assign rfl) ?_
 refine dn ?_
 refine hw_seq ?_
 refine hw_reg ?_
 refine dp rfl (pop_move rfl) ?_
 refine dp rfl (pop_lenm ty36 rfl) ?_
 refine dp rfl (pop_move rfl) ?_
 refine dp rfl (pop_lenm ty36 rfl) ?_
 refine dp rfl (pop_neq rfl rfl) ?_
 refine dn ?_
 refine hw_cond rfl (fun h1 => ?_) (fun h2 => ?_)
 ·try simp at h1
  refine hw_reg ?_
  refine dp rfl (pop_assign rfl) ?_
  refine dn ?_
  refine hw_ret ?_
  refine ret_p rfl ?_
  show HVal.bool _ = _
  (congr 1; symm; exact eqSts_len (by omega))
 ·try simp at h2
  refine hw_skip ?_
  refine seqQ_n ?_
  refine hw_seq ?_
  refine hw_reg ?_
  refine dp rfl (pop_move rfl) ?_
  refine dp rfl (pop_lenm ty36 rfl) ?_
  refine dp rfl (pop_move rfl) ?_
  refine dn ?_
  refine hw_block ?_
  refine hw_loopw [4, 5, 13, 14, 15, 16, 17, 18, 19, 20, 21, 22, 23, 24, 25] (fun (k : Nat) => [(13, .int .i64 k)]) (fun (k : Nat) => []) (fun (k : Nat) => k ≤ l.length ∧ (l.length = m.length ∧ eqSts ePair l m = eqSts ePair (l.drop k) (m.drop k))) (fun (k : Nat) => l.length - k) (0) ?_ ?_ ?_ ?_
  ·refine ⟨Nat.zero_le _, ?_, rfl⟩
   omega
  ·exact ⟨rfl, trivial⟩
  ·exact List.Perm.refl _
  ·intro k hinv
   obtain ⟨hk, hg⟩ := hinv
   refine hw_reg ?_
   refine dp rfl (pop_lss rfl rfl) ?_
   refine dn ?_
   refine hw_seq ?_
   refine hw_cond rfl (fun h3 => ?_) (fun h4 => ?_)
   ·try simp at h3
    obtain ⟨x, hx⟩ : ∃ x, l[k]? = some x := ⟨_, List.getElem?_eq_getElem h3⟩
    have hdx := drop_cons hx
    obtain ⟨y, hy⟩ : ∃ y, m[k]? = some y := ⟨_, List.getElem?_eq_getElem (by omega)⟩
    rw [hdx, drop_cons hy] at hg
    refine hw_skip ?_
    refine seqQ_n ?_
    refine hw_seq ?_
    refine hw_block ?_
    refine hw_reg ?_
    refine dp rfl (pop_move rfl) ?_
    refine dp rfl (pop_assign rfl) ?_
    refine dn ?_
    refine hw_draw (fun _ => True) [] mixed ?_
    refine ahp 0 rfl rfl (by kernel_rfl) (by kernel_rfl) (pop_move rfl) ?_
    refine ahp 1 rfl rfl (by kernel_rfl) (by kernel_rfl) (pop_move rfl) ?_
    refine ahp 2 rfl rfl (by kernel_rfl) (by kernel_rfl) (pop_idx ty36 ty52 rfl rfl rfl (by assumption)) ?_
    refine ahp 3 rfl rfl (by kernel_rfl) (by kernel_rfl) (pop_loadw ty52 rfl rfl rfl rfl) ?_
    refine ahp 4 rfl rfl (by kernel_rfl) (by kernel_rfl) (pop_move rfl) ?_
    refine ahp 5 rfl rfl (by kernel_rfl) (by kernel_rfl) (pop_move rfl) ?_
    refine ahp 6 rfl rfl (by kernel_rfl) (by kernel_rfl) (pop_idx ty36 ty52 rfl rfl rfl (by assumption)) ?_
    refine ahp 7 rfl rfl (by kernel_rfl) (by kernel_rfl) (pop_loadw ty52 rfl rfl rfl rfl) ?_
    refine ahp 8 rfl rfl (by kernel_rfl) (by kernel_rfl) (pop_neqst ty52 eq52 rfl rfl ⟨rfl, ⟨_, _, _, _, ty9, rfl⟩, ⟨rfl, ⟨_, _, _, _, ty9, rfl⟩, trivial⟩⟩) ?_
    refine ahz (by kernel_rfl) ?_
    refine hw_cond rfl (fun h5 => ?_) (fun h6 => ?_)
    ·try simp at h5
     refine hw_reg ?_
     refine dp rfl (pop_assign rfl) ?_
     refine dn ?_
     refine hw_ret ?_
     refine ret_p rfl ?_
     show HVal.bool _ = _
     (rw [hg.2, eqSts, show eqSt ePair x y = false from h5]; rfl)
    ·try simp at h6
     refine hw_skip ?_
     refine blockQ_n ?_
     refine seqQ_n ?_
     refine hw_reg1 ?_
     refine dp rfl (pop_add64 rfl rfl (by omega) (by omega)) ?_
     refine dp rfl (pop_move rfl) ?_
     refine dn ?_
     refine ⟨k + 1, ?_, ?_, ⟨rfl, trivial⟩, (by repeat (first | exact keeps_refl | refine keeps_upd rfl ?_ | refine keeps_loop rfl rfl ?_)), List.Perm.refl _⟩
     ·refine ⟨by omega, hg.1, ?_⟩
      rw [hg.2, eqSts, show eqSt ePair x y = true from h6]; rfl
     ·dsimp only; omega
   ·try simp at h4
    have hnk : l.length ≤ k := by omega
    obtain rfl : k = l.length := by omega
    rw [drop_all (Nat.le_refl _)] at hg
    refine hw_exit ?_
    refine seqQ_x ?_
    refine loopQ_x ?_
    refine blockQ_eq ?_
    refine seqQ_n ?_
    refine hw_reg ?_
    refine dp rfl (pop_assign rfl) ?_
    refine dn ?_
    refine hw_ret ?_
    refine ret_p rfl ?_
    show HVal.bool _ = _
    (rw [hg.2, drop_all (Nat.le_of_eq hg.1.symm)]; rfl)

end Go.Proofs.YtihpgpbbpklbbaaGreatDoor
end
section
namespace Go.Proofs.YtihpgpbbpklbbaaGreatDoor
open Go.HL
set_option maxRecDepth 100000
set_option linter.unusedVariables false
set_option linter.unusedSimpArgs false

end Go.Proofs.YtihpgpbbpklbbaaGreatDoor
end
section
namespace Go.Proofs.YtihpgpbbpklbbaaGreatDoor
open Go.HL
set_option maxRecDepth 100000
set_option linter.unusedVariables false
set_option linter.unusedSimpArgs false

end Go.Proofs.YtihpgpbbpklbbaaGreatDoor
end
section
namespace Go.Proofs.YtihpgpbbpklbbaaGreatDoor
open Go.HL
set_option maxRecDepth 100000
set_option linter.unusedVariables false
set_option linter.unusedSimpArgs false

end Go.Proofs.YtihpgpbbpklbbaaGreatDoor
end
section
namespace Go.HL
end Go.HL
end
section
namespace Go.Proofs.YtihpgpbbpklbbaaGreatDoor
open Go.HL
set_option maxRecDepth 100000
set_option linter.unusedVariables false
set_option linter.unusedSimpArgs false
end Go.Proofs.YtihpgpbbpklbbaaGreatDoor
end
section
namespace Go.Proofs.YtihpgpbbpklbbaaGreatDoor
open Go.HL
set_option maxRecDepth 100000
set_option linter.unusedVariables false
set_option linter.unusedSimpArgs false
/-- (*benchwarmer/benchmake.Stream).Known -/
theorem c_benchmake_Stream_Known [Tracks] {b : Nat} {l : List Int} {a : Nat}  (ha : a ≤ 800000) : Con Tryz.prog 10 [pAt b] [St b l a] (fun x M' => ∃ y : Int, x = .int .i64 y ∧ M' = [St b l (a + 1 + 1)]) := by
 refine Con.of_body Tryz.func10 rfl Tryz.ntmps10 rfl rfl ?_
 refine hw_reg ?_
 refine dp rfl (pop_assign rfl) ?_
 refine dn ?_
 refine hw_reg ?_
 refine dp rfl (pop_move rfl) ?_
 refine dp rfl (pop_move rfl) ?_
 refine dp rfl (pop_buildSlice (hs := [_, _]) ty22 ty3 rfl rfl (by decide) (by decide) rfl) ?_
 refine de rfl (eop_callx (i := 0) ca9 rfl (WeakL.refl _) rfl (c_benchmake_Stream_Pick (L := [_, _]) (by first | assumption | omega | (simp; omega) | simp_all) (by first | assumption | omega | (simp; omega) | simp_all) (by first | assumption | omega | (simp; omega) | simp_all)) ?_)
 rintro _ _ ⟨y6, rfl, hy6, rfl⟩
 refine dp rfl (pop_buildSlice (hs := [_, _, _, _, _, _, _, _]) ty22 ty3 rfl rfl (by decide) (by decide) rfl) ?_
 refine de rfl (eop_callx (i := 0) ca9 rfl (WeakL.refl _) rfl (c_benchmake_Stream_Pick (L := [_, _, _, _, _, _, _, _]) (by first | assumption | omega | (simp; omega) | simp_all) (by first | assumption | omega | (simp; omega) | simp_all) (by first | assumption | omega | (simp; omega) | simp_all)) ?_)
 rintro _ _ ⟨y8, rfl, hy8, rfl⟩
 refine dp rfl (pop_assign rfl) ?_
 refine dn ?_
 refine hw_ret ?_
 exact ret_q rfl ⟨_, rfl, rfl⟩

set_option maxHeartbeats 1000000 in
/-- (*benchwarmer/benchmake.Stream).Trusted -/
theorem c_benchmake_Stream_Trusted [Tracks] {b : Nat} {l : List Int} {a : Nat}  (ha : a ≤ 800000) : Con Tryz.prog 8 [pAt b] [St b l a] (fun x M' => ∃ t a', x = eSs t ∧ GoodTr t ∧ a' ≤ a + 10 ∧ M' = [St b l a']) := by
 refine Con.of_body Tryz.func8 rfl Tryz.ntmps8 rfl rfl ?_
 refine hw_reg ?_
 refine dp rfl (pop_assign rfl) ?_
 refine dn ?_
 refine hw_reg ?_
 refine dp rfl (pop_assign rfl) ?_
 refine dn ?_
 refine hw_ghost (Ghost.arr_nil 1) ?_
 refine hw_seq ?_
 refine hw_reg ?_
 refine dp rfl (pop_move rfl) ?_
 refine de rfl (eop_callx (i := 1) ca54 rfl (WeakL.refl _) rfl (c_benchmake_Stream_Order (n := 3) (by omega) (by omega) (by omega)) ?_)
 rintro _ _ ⟨L7, a7, rfl, hL7, ha7, rfl⟩
 refine dp rfl (pop_lenm ty22 rfl) ?_
 refine dp rfl (pop_move rfl) ?_
 refine dn ?_
 obtain ⟨hLn, hLb⟩ := hL7
 refine hw_block ?_
 refine hw_loopw2 [3, 5, 9, 10, 11, 12, 13, 14, 15, 16, 17, 18, 19, 20, 21, 22, 23] (fun (k : Nat) (q : GL Str) => [(9, .int .i64 k), (3, .raw q.u)]) (fun (k : Nat) (q : GL Str) => [St b l q.a, .arr q.u 1 (q.out.map .str)]) (fun (k : Nat) (q : GL Str) => k ≤ L7.length ∧ (GLok Sh k (a7 + k) q)) (fun (k : Nat) (q : GL Str) => L7.length - k) (0) (⟨.slice none 0 0, [], a7⟩) ?_ ?_ ?_ ?_
 ·exact ⟨Nat.zero_le _, ⟨by simp, by simp, by dsimp only; omega⟩⟩
 ·exact ⟨rfl, rfl, trivial⟩
 ·repeat (first | exact List.Perm.nil | refine permTo 0 rfl ?_ | refine permTo 1 rfl ?_ | refine permTo 2 rfl ?_ | refine permTo 3 rfl ?_ | (refine permToE 0 rfl ?hq ?_; (case hq => simp [setL, hcells]; done)) | (refine permToE 1 rfl ?hq ?_; (case hq => simp [setL, hcells]; done)) | (refine permToE 2 rfl ?hq ?_; (case hq => simp [setL, hcells]; done)) | (refine permToE 3 rfl ?hq ?_; (case hq => simp [setL, hcells]; done)) | fail)
 ·intro k q hinv
  obtain ⟨hk, hq⟩ := hinv
  obtain ⟨u, out, a2⟩ := q
  obtain ⟨g1, g2, g3⟩ := id hq
  dsimp only at g1 g2 g3
  refine hw_reg ?_
  refine dp rfl (pop_lss rfl rfl) ?_
  refine dn ?_
  refine hw_seq ?_
  refine hw_cond rfl (fun h1 => ?_) (fun h2 => ?_)
  ·try simp at h1
   obtain ⟨y, hy⟩ : ∃ y, L7[k]? = some y := ⟨_, List.getElem?_eq_getElem h1⟩
   have hdy := drop_cons hy
   refine hw_skip ?_
   refine seqQ_n ?_
   refine hw_seq ?_
   refine hw_block ?_
   refine hw_reg ?_
   refine dp rfl (pop_idx ty22 ty3 rfl rfl rfl (by assumption)) ?_
   refine dp rfl (pop_load ty3 rfl rfl rfl) ?_
   refine dp rfl (pop_assign rfl) ?_
   refine dn ?_
   refine hw_reg ?_
   refine dp rfl (pop_move rfl) ?_
   refine de rfl (eop_callx (i := 0) ca53 rfl (WeakL.refl _) rfl (c_benchmake_Stream_Flip (by first | assumption | omega | (simp; omega) | simp_all) (by first | assumption | omega | (simp; omega) | simp_all)) ?_)
   rintro _ _ ⟨y14, rfl, rfl⟩
   refine dp rfl (pop_not rfl) ?_
   refine dn ?_
   refine hw_cond rfl (fun h3 => ?_) (fun h4 => ?_)
   ·try simp at h3
    refine hw_reg1 ?_
    refine dp rfl (pop_move rfl) ?_
    refine dp rfl (pop_buildSlice (hs := [_, _, _]) ty28 ty9 rfl rfl (by decide) (by decide) rfl) ?_
    refine dp rfl (pop_move rfl) ?_
    refine dp rfl (pop_idx (f := HVal.str) (l := src3) (j := y.toNat) (a := src3.getD y.toNat []) ty28 ty9 rfl rfl (by have := hLb y (List.mem_of_getElem? hy); omega) (getD_some (by have := hLb y (List.mem_of_getElem? hy); simp [src3]; omega))) ?_
    refine dp rfl (pop_load ty9 rfl rfl rfl) ?_
    refine dp rfl (pop_buildSlice (hs := [_]) ty28 ty9 rfl rfl (by decide) (by decide) rfl) ?_
    refine de rfl (eop_append (i := 1) ty28 ty9 rfl rfl rfl rfl rfl (by simp [flat, hcells]) (by simp; omega) fun v22 => ?_)
    refine dp rfl (pop_assign rfl) ?_
    refine dn ?_
    refine blockQ_n ?_
    refine seqQ_n ?_
    refine hw_reg1 ?_
    refine dp rfl (pop_add64 rfl rfl (by omega) (by omega)) ?_
    refine dp rfl (pop_move rfl) ?_
    refine dn ?_
    exact ⟨k + 1, ⟨v22, out ++ [src3.getD y.toNat []], a2 + 1⟩, ⟨by omega, hq.add (x := src3.getD y.toNat []) (src3_sh _ (getD_mem (by have := hLb y (List.mem_of_getElem? hy); simp [src3]; omega))) (by omega)⟩, by dsimp only; omega, ⟨rfl, rfl, trivial⟩, (by repeat (first | exact keeps_refl | refine keeps_upd rfl ?_ | refine keeps_loop rfl rfl ?_)), by repeat (first | exact List.Perm.nil | refine permTo 0 rfl ?_ | refine permTo 1 rfl ?_ | refine permTo 2 rfl ?_ | refine permTo 3 rfl ?_ | (refine permToE 0 rfl ?hq ?_; (case hq => simp [setL, hcells]; done)) | (refine permToE 1 rfl ?hq ?_; (case hq => simp [setL, hcells]; done)) | (refine permToE 2 rfl ?hq ?_; (case hq => simp [setL, hcells]; done)) | (refine permToE 3 rfl ?hq ?_; (case hq => simp [setL, hcells]; done)) | fail)⟩
   ·try simp at h4
    refine hw_skip ?_
    refine blockQ_n ?_
    refine seqQ_n ?_
    refine hw_reg1 ?_
    refine dp rfl (pop_add64 rfl rfl (by omega) (by omega)) ?_
    refine dp rfl (pop_move rfl) ?_
    refine dn ?_
    exact ⟨k + 1, ⟨u, out, a2 + 1⟩, ⟨by omega, hq.same (by omega)⟩, by dsimp only; omega, ⟨rfl, rfl, trivial⟩, (by repeat (first | exact keeps_refl | refine keeps_upd rfl ?_ | refine keeps_loop rfl rfl ?_)), by repeat (first | exact List.Perm.nil | refine permTo 0 rfl ?_ | refine permTo 1 rfl ?_ | refine permTo 2 rfl ?_ | refine permTo 3 rfl ?_ | (refine permToE 0 rfl ?hq ?_; (case hq => simp [setL, hcells]; done)) | (refine permToE 1 rfl ?hq ?_; (case hq => simp [setL, hcells]; done)) | (refine permToE 2 rfl ?hq ?_; (case hq => simp [setL, hcells]; done)) | (refine permToE 3 rfl ?hq ?_; (case hq => simp [setL, hcells]; done)) | fail)⟩
  ·try simp at h2
   have hnk : L7.length ≤ k := by omega
   obtain rfl : k = L7.length := by omega
   refine hw_exit ?_
   refine seqQ_x ?_
   refine loopQ2_x ?_
   refine blockQ_eq ?_
   refine seqQ_n ?_
   refine hw_seq ?_
   dsimp only
   refine hw_reg ?_
   refine dp rfl (pop_move rfl) ?_
   refine de rfl (eop_callx (i := 0) ca53 rfl (WeakL.refl _) rfl (c_benchmake_Stream_Flip (by first | assumption | omega | (simp; omega) | simp_all) (by first | assumption | omega | (simp; omega) | simp_all)) ?_)
   rintro _ _ ⟨y25, rfl, rfl⟩
   refine dn ?_
   refine hw_cond rfl (fun h5 => ?_) (fun h6 => ?_)
   ·try simp at h5
    refine hw_reg1 ?_
    refine dp rfl (pop_move rfl) ?_
    refine dp rfl (pop_move rfl) ?_
    refine dp rfl (pop_buildSlice (hs := [_, _, _]) ty28 ty9 rfl rfl (by decide) (by decide) rfl) ?_
    refine de rfl (eop_callx (i := 0) ca11 rfl (WeakL.refl _) rfl (c_benchmake_Stream_Some (L := [_, _, _]) (by first | assumption | omega | (simp; omega) | simp_all) (by first | assumption | omega | (simp; omega) | simp_all) (by first | assumption | omega | (simp; omega) | simp_all)) ?_)
    rintro _ _ ⟨y29, rfl, hy29, rfl⟩
    refine dp rfl (pop_buildSlice (hs := [_]) ty28 ty9 rfl rfl (by decide) (by decide) rfl) ?_
    refine de rfl (eop_append (i := 1) ty28 ty9 rfl rfl rfl rfl rfl (by simp [flat, hcells]) (by simp; omega) fun v31 => ?_)
    refine dp rfl (pop_assign rfl) ?_
    refine dn ?_
    refine seqQ_n ?_
    refine hw_reg ?_
    refine dp rfl (pop_move rfl) ?_
    refine dp rfl (pop_assign rfl) ?_
    refine dn ?_
    refine hw_ret ?_
    exact ret_g (Ghost.fa 2 (i := 1) rfl rfl) rfl ⟨out ++ [y29], _, by simp, ⟨by simp; omega, fun s hs => by
     rcases List.mem_append.1 hs with hs | hs
     ·exact g2 s hs
     ·rw [List.mem_singleton.1 hs]; simp at hy29; rcases hy29 with rfl | rfl | rfl <;> (unfold Sh; simp)⟩, by omega, rfl⟩
   ·try simp at h6
    refine hw_skip ?_
    refine seqQ_n ?_
    refine hw_reg ?_
    refine dp rfl (pop_move rfl) ?_
    refine dp rfl (pop_assign rfl) ?_
    refine dn ?_
    refine hw_ret ?_
    exact ret_g (Ghost.fa 2 (i := 1) rfl rfl) rfl ⟨out, _, rfl, ⟨by omega, g2⟩, by omega, rfl⟩

set_option maxHeartbeats 4000000 in
/-- (*benchwarmer/benchmake.Stream).Told -/
theorem c_benchmake_Stream_Told [Tracks] {b : Nat} {l : List Int} {a : Nat}  (ha : a ≤ 700000) : Con Tryz.prog 7 [pAt b] [St b l a] (fun x M' => ∃ k a', x = ePlays k ∧ GoodPl k ∧ a' ≤ a + 500 ∧ M' = [St b l a']) := by
 refine Con.of_body Tryz.func7 rfl Tryz.ntmps7 rfl rfl ?_
 refine hw_reg ?_
 refine dp rfl (pop_assign rfl) ?_
 refine dn ?_
 refine hw_reg ?_
 refine dp rfl (pop_assign rfl) ?_
 refine dn ?_
 refine hw_ghost (Ghost.arr_nil 9) ?_
 refine hw_seq ?_
 refine hw_reg ?_
 refine dp rfl (pop_buildSlice (hs := [_, _, _]) ty28 ty9 rfl rfl (by decide) (by decide) rfl) ?_
 refine dp rfl (pop_lenm (f := HVal.str) (l := src3) ty28 rfl) ?_
 refine dp rfl (pop_move rfl) ?_
 refine dn ?_
 refine hw_block ?_
 refine hw_loopw2 (3 :: 5 :: 6 :: 7 :: 8 :: 9 :: 11 :: 15 :: 16 :: 17 :: 18 :: 19 :: 20 :: 21 :: 22 :: 23 :: 24 :: 25 :: 26 :: 27 :: 28 :: 29 :: 30 :: 31 :: 32 :: 33 :: 34 :: 35 :: 36 :: 37 :: 38 :: 39 :: 40 :: 41 :: 42 :: 43 :: 44 :: 45 :: 46 :: 47 :: 48 :: 49 :: 50 :: 51 :: 52 :: 53 :: 54 :: 55 :: 56 :: 57 :: 58 :: 59 :: 60 :: 61 :: 62 :: 63 :: 64 :: 65 :: 66 :: 67 :: 68 :: 69 :: 70 :: 71 :: 72 :: 73 :: 74 :: 75 :: 76 :: 77 :: 78 :: 79 :: 80 :: 81 :: 82 :: 83 :: 84 :: 85 :: 86 :: 87 :: 88 :: 89 :: 90 :: 91 :: 92 :: 93 :: 94 :: 95 :: 96 :: 97 :: 98 :: 99 :: 100 :: 101 :: 102 :: 103 :: 104 :: 105 :: 106 :: 107 :: 108 :: 109 :: 110 :: 111 :: []) (fun (k : Nat) (q : GL Play) => [(15, .int .i64 k), (3, .raw q.u)]) (fun (k : Nat) (q : GL Play) => [St b l q.a, .arr q.u 9 (q.out.map ePlay)]) (fun (k : Nat) (q : GL Play) => k ≤ src3.length ∧ (GLok GoodPl1 (5 * k) (a + 130 * k) q)) (fun (k : Nat) (q : GL Play) => src3.length - k) (0) (⟨.slice none 0 0, [], a⟩) ?_ ?_ ?_ ?_
 ·exact ⟨by decide, ⟨by simp, by simp, by dsimp only; omega⟩⟩
 ·exact ⟨rfl, rfl, trivial⟩
 ·repeat (first | exact List.Perm.nil | refine permTo 0 rfl ?_ | refine permTo 1 rfl ?_ | refine permTo 2 rfl ?_ | refine permTo 3 rfl ?_ | (refine permToE 0 rfl ?hq ?_; (case hq => simp [setL, hcells]; done)) | (refine permToE 1 rfl ?hq ?_; (case hq => simp [setL, hcells]; done)) | (refine permToE 2 rfl ?hq ?_; (case hq => simp [setL, hcells]; done)) | (refine permToE 3 rfl ?hq ?_; (case hq => simp [setL, hcells]; done)) | fail)
 ·intro k q hinv
  obtain ⟨hk, hq⟩ := hinv
  obtain ⟨u, out, a1⟩ := q
  obtain ⟨g1, g2, g3⟩ := id hq
  dsimp only at g1 g2 g3
  have h3 : src3.length = 3 := rfl
  refine hw_reg ?_
  refine dp rfl (pop_lss rfl rfl) ?_
  refine dn ?_
  refine hw_seq ?_
  refine hw_cond rfl (fun h1 => ?_) (fun h2 => ?_)
  ·try simp at h1
   obtain ⟨x, hx⟩ : ∃ x, src3[k]? = some x := ⟨_, List.getElem?_eq_getElem h1⟩
   have hdx := drop_cons hx
   refine hw_skip ?_
   refine seqQ_n ?_
   refine hw_seq ?_
   refine hw_block ?_
   refine hw_reg ?_
   refine dp rfl (pop_idx (f := HVal.str) (l := src3) (j := k) (a := x) ty28 ty9 rfl rfl rfl hx) ?_
   refine dp rfl (pop_load ty9 rfl rfl rfl) ?_
   refine dp rfl (pop_assign rfl) ?_
   refine dn ?_
   refine hw_reg ?_
   refine dp rfl (pop_move rfl) ?_
   refine dp rfl (pop_buildSlice (hs := [_, _]) ty22 ty3 rfl rfl (by decide) (by decide) rfl) ?_
   refine de rfl (eop_callx (i := 0) ca9 rfl (WeakL.refl _) rfl (c_benchmake_Stream_Pick (L := [_, _]) (by first | assumption | omega | (simp; omega) | simp_all) (by first | assumption | omega | (simp; omega) | simp_all) (by first | assumption | omega | (simp; omega) | simp_all)) ?_)
   rintro _ _ ⟨y21, rfl, hy21, rfl⟩
   refine dp rfl (pop_assign rfl) ?_
   refine dp rfl (pop_assign rfl) ?_
   refine dn ?_
   refine hw_reg ?_
   refine dp rfl (pop_move rfl) ?_
   refine de rfl (eop_callx (i := 0) ca32 rfl (WeakL.refl _) rfl (c_benchmake_Stream_Range (by first | assumption | omega | (simp; omega) | simp_all) (by first | assumption | omega | (simp; omega) | simp_all) (by first | assumption | omega | (simp; omega) | simp_all) (by first | assumption | omega | (simp; omega) | simp_all)) ?_)
   rintro _ _ ⟨y23, rfl, hy23, rfl⟩
   refine dp rfl (pop_move rfl) ?_
   refine dn ?_
   refine hw_block ?_
   refine hw_loopw4 (3 :: 6 :: 7 :: 8 :: 9 :: 11 :: 24 :: 25 :: 26 :: 27 :: 28 :: 29 :: 30 :: 31 :: 32 :: 33 :: 34 :: 35 :: 36 :: 37 :: 38 :: 39 :: 40 :: 41 :: 42 :: 43 :: 44 :: 45 :: 46 :: 47 :: 48 :: 49 :: 50 :: 51 :: 52 :: 53 :: 54 :: 55 :: 56 :: 57 :: 58 :: 59 :: 60 :: 61 :: 62 :: 63 :: 64 :: 65 :: 66 :: 67 :: 68 :: 69 :: 70 :: 71 :: 72 :: 73 :: 74 :: 75 :: 76 :: 77 :: 78 :: 79 :: 80 :: 81 :: 82 :: 83 :: 84 :: 85 :: 86 :: 87 :: 88 :: 89 :: 90 :: 91 :: 92 :: 93 :: 94 :: 95 :: 96 :: 97 :: 98 :: 99 :: 100 :: 101 :: 102 :: 103 :: 104 :: 105 :: 106 :: 107 :: 108 :: 109 :: 110 :: []) (fun (n : Nat) (no : Int) (at1 : Int) (q2 : GL Play) => [(24, .int .i64 (n : Int)), (6, .int .i64 no), (7, .int .i64 at1), (3, .raw q2.u)]) (fun (n : Nat) (no : Int) (at1 : Int) (q2 : GL Play) => [St b l q2.a, .arr q2.u 9 (q2.out.map ePlay)]) (fun (n : Nat) (no : Int) (at1 : Int) (q2 : GL Play) => (n : Int) ≤ y23 ∧ (0 ≤ no ∧ no ≤ 2 * n) ∧ (0 ≤ at1 ∧ at1 ≤ 5 + 40 * n) ∧ GLok GoodPl1 (5 * k + n) (a1 + 2 + 25 * n) q2) (fun (n : Nat) (no : Int) (at1 : Int) (q2 : GL Play) => y23.toNat - n) (0) (0) (y21) (⟨u, out, a1 + 2⟩) ?_ ?_ ?_ ?_
   ·exact ⟨by omega, ⟨by omega, by omega⟩, ⟨by simp at hy21; omega, by simp at hy21; omega⟩, ⟨by dsimp only; omega, g2, by dsimp only; omega⟩⟩
   ·exact ⟨rfl, rfl, rfl, rfl, trivial⟩
   ·repeat (first | exact List.Perm.nil | refine permTo 0 rfl ?_ | refine permTo 1 rfl ?_ | refine permTo 2 rfl ?_ | refine permTo 3 rfl ?_ | (refine permToE 0 rfl ?hq ?_; (case hq => simp [setL, hcells]; done)) | (refine permToE 1 rfl ?hq ?_; (case hq => simp [setL, hcells]; done)) | (refine permToE 2 rfl ?hq ?_; (case hq => simp [setL, hcells]; done)) | (refine permToE 3 rfl ?hq ?_; (case hq => simp [setL, hcells]; done)) | fail)
   ·intro n no at1 q2 hinv
    obtain ⟨hn, hno, hat, hq2⟩ := hinv
    obtain ⟨u, out, a2⟩ := q2
    obtain ⟨g1, g2, g3⟩ := id hq2
    dsimp only at g1 g2 g3
    refine hw_reg ?_
    refine dp rfl (pop_lss rfl rfl) ?_
    refine dn ?_
    refine hw_seq ?_
    refine hw_cond rfl (fun h3 => ?_) (fun h4 => ?_)
    ·try simp at h3
     refine hw_skip ?_
     refine seqQ_n ?_
     refine hw_seq ?_
     refine hw_block ?_
     refine hw_reg ?_
     refine dp rfl (pop_move rfl) ?_
     refine dp rfl (pop_move rfl) ?_
     refine dp rfl (pop_buildSlice (hs := [_, _, _]) ty22 ty3 rfl rfl (by decide) (by decide) rfl) ?_
     refine de rfl (eop_callx (i := 0) ca9 rfl (WeakL.refl _) rfl (c_benchmake_Stream_Pick (L := [_, _, _]) (by first | assumption | omega | (simp; omega) | simp_all) (by first | assumption | omega | (simp; omega) | simp_all) (by first | assumption | omega | (simp; omega) | simp_all)) ?_)
     rintro _ _ ⟨y29, rfl, hy29, rfl⟩
     refine dp rfl (pop_add64 rfl rfl (by simp at hy29; omega) (by simp at hy29; omega)) ?_
     refine dp rfl (pop_assign rfl) ?_
     refine dn ?_
     refine hw_reg ?_
     refine dp rfl (pop_move rfl) ?_
     refine de rfl (eop_callx (i := 0) ca52 rfl (WeakL.refl _) rfl (c_benchmake_Stream_Next (by first | assumption | omega | (simp; omega) | simp_all) (by first | assumption | omega | (simp; omega) | simp_all)) ?_)
     rintro _ _ ⟨y32, rfl, hy32, rfl⟩
     refine dp rfl (pop_assign rfl) ?_
     refine dn ?_
     have hyb : 1 ≤ y29 ∧ y29 ≤ 2 := by simp at hy29; omega
     refine hw_join [9, 33, 34, 35, 36, 37, 38, 39, 40, 41, 42, 43, 44, 45, 46, 47, 48, 49, 50, 51, 52, 53] (fun (q9 : Nat × Play) => [(9, pAt q9.1)]) (fun (q9 : Nat × Play) => [St b l (a2 + 5), .arr u 9 (out.map ePlay), .cells q9.1 (hcells (ePlay q9.2))]) (fun (q9 : Nat × Play) => GoodPl1 q9.2) ?_ ?_
     ·skip
      refine hw_draw1 (fun _ => True) [] mixed ?_
      refine ahp 0 rfl rfl (by kernel_rfl) (by kernel_rfl) (pop_move rfl) ?_
      refine ahp 1 rfl rfl (by kernel_rfl) (by kernel_rfl) (pop_move rfl) ?_
      refine ahp 2 rfl rfl (by kernel_rfl) (by kernel_rfl) (pop_move rfl) ?_
      refine ahp 3 rfl rfl (by kernel_rfl) (by kernel_rfl) (pop_buildSlice (hs := [_, _, _]) ty22 ty3 rfl rfl (by decide) (by decide) rfl) ?_
      refine ahp 4 rfl rfl (by kernel_rfl) (by kernel_rfl) (pop_move rfl) ?_
      refine ahp 5 rfl rfl (by kernel_rfl) (by kernel_rfl) (pop_idx (f := HVal.int .i64) (l := week3) (j := y32) (a := week3.getD y32 0) ty22 ty3 rfl rfl rfl (getD_some (by simp [week3]; omega))) ?_
      refine ahp 6 rfl rfl (by kernel_rfl) (by kernel_rfl) (pop_load ty3 rfl rfl rfl) ?_
      refine ahp 7 rfl rfl (by kernel_rfl) (by kernel_rfl) (pop_buildSlice (hs := [_, _, _]) ty28 ty9 rfl rfl (by decide) (by decide) rfl) ?_
      refine ahp 8 rfl rfl (by kernel_rfl) (by kernel_rfl) (pop_move rfl) ?_
      refine ahp 9 rfl rfl (by kernel_rfl) (by kernel_rfl) (pop_idx (f := HVal.str) (l := match3) (j := y32) (a := match3.getD y32 []) ty28 ty9 rfl rfl rfl (getD_some (by simp [match3]; omega))) ?_
      refine ahp 10 rfl rfl (by kernel_rfl) (by kernel_rfl) (pop_load ty9 rfl rfl rfl) ?_
      refine ahp 11 rfl rfl (by kernel_rfl) (by kernel_rfl) (pop_move rfl) ?_
      refine ahp 12 rfl rfl (by kernel_rfl) (by kernel_rfl) (pop_buildSlice (hs := [_, _, _]) ty28 ty9 rfl rfl (by decide) (by decide) rfl) ?_
      refine ahp 14 rfl rfl (by kernel_rfl) (by kernel_rfl) (pop_move rfl) ?_
      refine ahp 15 rfl rfl (by kernel_rfl) (by kernel_rfl) (pop_buildSlice (hs := [_, _, _, _]) ty28 ty9 rfl rfl (by decide) (by decide) rfl) ?_
      refine ahp 17 rfl rfl (by kernel_rfl) (by kernel_rfl) (pop_move rfl) ?_
      refine ahp 18 rfl rfl (by kernel_rfl) (by kernel_rfl) (pop_buildSlice (hs := [_, _, _, _, _]) ty22 ty3 rfl rfl (by decide) (by decide) rfl) ?_
      refine ahe2 13 21 rfl rfl (by kernel_rfl) ?_ ?_
      ·skip
       refine hop_e rfl (eop_callx (i := 0) ca11 rfl (WeakL.refl _) rfl (c_benchmake_Stream_Some (L := [_, _, _]) (by first | assumption | omega | (simp; omega) | simp_all) (by first | assumption | omega | (simp; omega) | simp_all) (by first | assumption | omega | (simp; omega) | simp_all)) ?_)
       rintro _ _ ⟨y46, rfl, hy46, rfl⟩
       refine ⟨fun _ => .inl trivial, ?_⟩
       refine ahe2 16 21 rfl rfl (by kernel_rfl) ?_ ?_
       ·skip
        refine hop_e rfl (eop_callx (i := 0) ca11 rfl (WeakL.refl _) rfl (c_benchmake_Stream_Some (L := [_, _, _, _]) (by first | assumption | omega | (simp; omega) | simp_all) (by first | assumption | omega | (simp; omega) | simp_all) (by first | assumption | omega | (simp; omega) | simp_all)) ?_)
        rintro _ _ ⟨y49, rfl, hy49, rfl⟩
        refine ⟨fun _ => .inl trivial, ?_⟩
        refine ahe2 19 21 rfl rfl (by kernel_rfl) ?_ ?_
        ·skip
         refine hop_e rfl (eop_callx (i := 0) ca9 rfl (WeakL.refl _) rfl (c_benchmake_Stream_Pick (L := [_, _, _, _, _]) (by first | assumption | omega | (simp; omega) | simp_all) (by first | assumption | omega | (simp; omega) | simp_all) (by first | assumption | omega | (simp; omega) | simp_all)) ?_)
         rintro _ _ ⟨y52, rfl, hy52, rfl⟩
         refine ⟨fun _ => .inl trivial, ?_⟩
         refine ahp 20 rfl rfl (by kernel_rfl) (by kernel_rfl) (pop_build (cs := [_, _, _, _, _, _, _, _, _]) ty93 pl93 rfl) ?_
         refine ahe 21 rfl (by kernel_rfl) ?_
         refine hop_e rfl (eop_alloc ty93 rfl fun b9 => ?_)
         refine ⟨fun _ => .inl trivial, ?_⟩
         refine ahe 22 rfl (by kernel_rfl) ?_
         refine hop_e0 (eop_store (i := 0) ty93 rfl rfl rfl rfl rfl (Nat.le_of_ble_eq_true rfl) ?_)
         refine ⟨fun _ => .inl trivial, ?_⟩
         refine ahz (by kernel_rfl) ?_
         refine ⟨(b9, (⟨x, no + y29, at1, week3.getD y32 0, match3.getD y32 [], y46, y49, y52, 0⟩ : Play)), ?_, ⟨rfl, trivial⟩, (by repeat (first | exact keeps_refl | refine keeps_upd rfl ?_ | refine keeps_loop rfl rfl ?_)), ?_⟩
         ·exact ⟨src3_sh x (List.mem_of_getElem? hx), match3_sh y32, by simp at hy46; rcases hy46 with rfl | rfl | rfl <;> (unfold Sh; simp), by simp at hy49; rcases hy49 with rfl | rfl | rfl <;> (unfold Sh; simp)⟩
         ·repeat (first | exact List.Perm.nil | refine permTo 0 rfl ?_ | refine permTo 1 rfl ?_ | refine permTo 2 rfl ?_ | refine permTo 3 rfl ?_ | (refine permToE 0 rfl ?hq ?_; (case hq => simp [setL, hcells]; done)) | (refine permToE 1 rfl ?hq ?_; (case hq => simp [setL, hcells]; done)) | (refine permToE 2 rfl ?hq ?_; (case hq => simp [setL, hcells]; done)) | (refine permToE 3 rfl ?hq ?_; (case hq => simp [setL, hcells]; done)) | fail)
        ·skip
         refine hop_e rfl (eop_alloc ty93 rfl fun b9 => ?_)
         refine ⟨fun _ => .inl trivial, ?_⟩
         refine ahe 19 rfl (by kernel_rfl) ?_
         refine hop_e rfl (eop_callx (i := 1) ca9 rfl (WeakL.refl _) rfl (c_benchmake_Stream_Pick (L := [_, _, _, _, _]) (by first | assumption | omega | (simp; omega) | simp_all) (by first | assumption | omega | (simp; omega) | simp_all) (by first | assumption | omega | (simp; omega) | simp_all)) ?_)
         rintro _ _ ⟨y52, rfl, hy52, rfl⟩
         refine ⟨fun _ => .inl trivial, ?_⟩
         refine ahp 20 rfl rfl (by kernel_rfl) (by kernel_rfl) (pop_build (cs := [_, _, _, _, _, _, _, _, _]) ty93 pl93 rfl) ?_
         refine ahe 22 rfl (by kernel_rfl) ?_
         refine hop_e0 (eop_store (i := 1) ty93 rfl rfl rfl rfl rfl (Nat.le_of_ble_eq_true rfl) ?_)
         refine ⟨fun _ => .inl trivial, ?_⟩
         refine ahz (by kernel_rfl) ?_
         refine ⟨(b9, (⟨x, no + y29, at1, week3.getD y32 0, match3.getD y32 [], y46, y49, y52, 0⟩ : Play)), ?_, ⟨rfl, trivial⟩, (by repeat (first | exact keeps_refl | refine keeps_upd rfl ?_ | refine keeps_loop rfl rfl ?_)), ?_⟩
         ·exact ⟨src3_sh x (List.mem_of_getElem? hx), match3_sh y32, by simp at hy46; rcases hy46 with rfl | rfl | rfl <;> (unfold Sh; simp), by simp at hy49; rcases hy49 with rfl | rfl | rfl <;> (unfold Sh; simp)⟩
         ·repeat (first | exact List.Perm.nil | refine permTo 0 rfl ?_ | refine permTo 1 rfl ?_ | refine permTo 2 rfl ?_ | refine permTo 3 rfl ?_ | (refine permToE 0 rfl ?hq ?_; (case hq => simp [setL, hcells]; done)) | (refine permToE 1 rfl ?hq ?_; (case hq => simp [setL, hcells]; done)) | (refine permToE 2 rfl ?hq ?_; (case hq => simp [setL, hcells]; done)) | (refine permToE 3 rfl ?hq ?_; (case hq => simp [setL, hcells]; done)) | fail)
       ·skip
        refine hop_e rfl (eop_alloc ty93 rfl fun b9 => ?_)
        refine ⟨fun _ => .inl trivial, ?_⟩
        refine ahe 16 rfl (by kernel_rfl) ?_
        refine hop_e rfl (eop_callx (i := 1) ca11 rfl (WeakL.refl _) rfl (c_benchmake_Stream_Some (L := [_, _, _, _]) (by first | assumption | omega | (simp; omega) | simp_all) (by first | assumption | omega | (simp; omega) | simp_all) (by first | assumption | omega | (simp; omega) | simp_all)) ?_)
        rintro _ _ ⟨y49, rfl, hy49, rfl⟩
        refine ⟨fun _ => .inl trivial, ?_⟩
        refine ahe 19 rfl (by kernel_rfl) ?_
        refine hop_e rfl (eop_callx (i := 0) ca9 rfl (WeakL.refl _) rfl (c_benchmake_Stream_Pick (L := [_, _, _, _, _]) (by first | assumption | omega | (simp; omega) | simp_all) (by first | assumption | omega | (simp; omega) | simp_all) (by first | assumption | omega | (simp; omega) | simp_all)) ?_)
        rintro _ _ ⟨y52, rfl, hy52, rfl⟩
        refine ⟨fun _ => .inl trivial, ?_⟩
        refine ahp 20 rfl rfl (by kernel_rfl) (by kernel_rfl) (pop_build (cs := [_, _, _, _, _, _, _, _, _]) ty93 pl93 rfl) ?_
        refine ahe 22 rfl (by kernel_rfl) ?_
        refine hop_e0 (eop_store (i := 1) ty93 rfl rfl rfl rfl rfl (Nat.le_of_ble_eq_true rfl) ?_)
        refine ⟨fun _ => .inl trivial, ?_⟩
        refine ahz (by kernel_rfl) ?_
        refine ⟨(b9, (⟨x, no + y29, at1, week3.getD y32 0, match3.getD y32 [], y46, y49, y52, 0⟩ : Play)), ?_, ⟨rfl, trivial⟩, (by repeat (first | exact keeps_refl | refine keeps_upd rfl ?_ | refine keeps_loop rfl rfl ?_)), ?_⟩
        ·exact ⟨src3_sh x (List.mem_of_getElem? hx), match3_sh y32, by simp at hy46; rcases hy46 with rfl | rfl | rfl <;> (unfold Sh; simp), by simp at hy49; rcases hy49 with rfl | rfl | rfl <;> (unfold Sh; simp)⟩
        ·repeat (first | exact List.Perm.nil | refine permTo 0 rfl ?_ | refine permTo 1 rfl ?_ | refine permTo 2 rfl ?_ | refine permTo 3 rfl ?_ | (refine permToE 0 rfl ?hq ?_; (case hq => simp [setL, hcells]; done)) | (refine permToE 1 rfl ?hq ?_; (case hq => simp [setL, hcells]; done)) | (refine permToE 2 rfl ?hq ?_; (case hq => simp [setL, hcells]; done)) | (refine permToE 3 rfl ?hq ?_; (case hq => simp [setL, hcells]; done)) | fail)
      ·skip
       refine hop_e rfl (eop_alloc ty93 rfl fun b9 => ?_)
       refine ⟨fun _ => .inl trivial, ?_⟩
       refine ahe 13 rfl (by kernel_rfl) ?_
       refine hop_e rfl (eop_callx (i := 1) ca11 rfl (WeakL.refl _) rfl (c_benchmake_Stream_Some (L := [_, _, _]) (by first | assumption | omega | (simp; omega) | simp_all) (by first | assumption | omega | (simp; omega) | simp_all) (by first | assumption | omega | (simp; omega) | simp_all)) ?_)
       rintro _ _ ⟨y46, rfl, hy46, rfl⟩
       refine ⟨fun _ => .inl trivial, ?_⟩
       refine ahe 16 rfl (by kernel_rfl) ?_
       refine hop_e rfl (eop_callx (i := 0) ca11 rfl (WeakL.refl _) rfl (c_benchmake_Stream_Some (L := [_, _, _, _]) (by first | assumption | omega | (simp; omega) | simp_all) (by first | assumption | omega | (simp; omega) | simp_all) (by first | assumption | omega | (simp; omega) | simp_all)) ?_)
       rintro _ _ ⟨y49, rfl, hy49, rfl⟩
       refine ⟨fun _ => .inl trivial, ?_⟩
       refine ahe 19 rfl (by kernel_rfl) ?_
       refine hop_e rfl (eop_callx (i := 0) ca9 rfl (WeakL.refl _) rfl (c_benchmake_Stream_Pick (L := [_, _, _, _, _]) (by first | assumption | omega | (simp; omega) | simp_all) (by first | assumption | omega | (simp; omega) | simp_all) (by first | assumption | omega | (simp; omega) | simp_all)) ?_)
       rintro _ _ ⟨y52, rfl, hy52, rfl⟩
       refine ⟨fun _ => .inl trivial, ?_⟩
       refine ahp 20 rfl rfl (by kernel_rfl) (by kernel_rfl) (pop_build (cs := [_, _, _, _, _, _, _, _, _]) ty93 pl93 rfl) ?_
       refine ahe 22 rfl (by kernel_rfl) ?_
       refine hop_e0 (eop_store (i := 1) ty93 rfl rfl rfl rfl rfl (Nat.le_of_ble_eq_true rfl) ?_)
       refine ⟨fun _ => .inl trivial, ?_⟩
       refine ahz (by kernel_rfl) ?_
       refine ⟨(b9, (⟨x, no + y29, at1, week3.getD y32 0, match3.getD y32 [], y46, y49, y52, 0⟩ : Play)), ?_, ⟨rfl, trivial⟩, (by repeat (first | exact keeps_refl | refine keeps_upd rfl ?_ | refine keeps_loop rfl rfl ?_)), ?_⟩
       ·exact ⟨src3_sh x (List.mem_of_getElem? hx), match3_sh y32, by simp at hy46; rcases hy46 with rfl | rfl | rfl <;> (unfold Sh; simp), by simp at hy49; rcases hy49 with rfl | rfl | rfl <;> (unfold Sh; simp)⟩
       ·repeat (first | exact List.Perm.nil | refine permTo 0 rfl ?_ | refine permTo 1 rfl ?_ | refine permTo 2 rfl ?_ | refine permTo 3 rfl ?_ | (refine permToE 0 rfl ?hq ?_; (case hq => simp [setL, hcells]; done)) | (refine permToE 1 rfl ?hq ?_; (case hq => simp [setL, hcells]; done)) | (refine permToE 2 rfl ?hq ?_; (case hq => simp [setL, hcells]; done)) | (refine permToE 3 rfl ?hq ?_; (case hq => simp [setL, hcells]; done)) | fail)
     ·intro q9 hq9
      obtain ⟨b9, x9⟩ := q9
      dsimp only at hq9
      refine hw_join [11, 54, 55, 56, 57, 58, 59, 60, 61, 62, 63, 64, 65, 66, 67, 68, 69, 70, 71, 72, 73, 74, 75, 76, 77, 78, 79, 80, 81, 82, 83, 84, 85, 86, 87, 88, 89, 90, 91, 92, 93, 94, 95, 96, 97, 98, 99, 100] (fun (q4 : Play × Nat) => []) (fun (q4 : Play × Nat) => [St b l q4.2, .arr u 9 (out.map ePlay), .cells b9 (hcells (ePlay q4.1))]) (fun (q4 : Play × Nat) => GoodPl1 q4.1 ∧ q4.2 ≤ a2 + 22) ?_ ?_
      ·skip
       refine hw_reg ?_
       refine dp rfl (pop_move rfl) ?_
       refine dp rfl (pop_gtr rfl rfl) ?_
       refine dp rfl (pop_move rfl) ?_
       refine dg rfl rfl (fun hc => ⟨_, OpenTo.refl _, pop_move rfl⟩) ?_
       refine dgx (fun x M' => ∃ (y : Bool) (a3 : Nat), x = .bool y ∧ a3 ≤ (a2 + 5) + 1 ∧ M' = [St b l a3, .arr u 9 (out.map ePlay), .cells b9 (hcells (ePlay x9))]) rfl rfl (fun hc => ⟨_, false, (a2 + 5), rfl, by omega, rfl⟩) (fun hc => ⟨_, OpenTo.upd (t := 57) rfl (hc) (OpenTo.refl _), eop_callx (i := 0) ca53 rfl (WeakL.refl _) rfl (c_benchmake_Stream_Flip (a := (a2 + 5)) (by omega) (by omega)) (fun h M' hh => by
        obtain ⟨y, h1, h2⟩ := hh
        exact ⟨y, (a2 + 5) + 1, h1, by omega, by rw [h2]; rfl⟩)⟩) ?_
       rintro _ _ ⟨y10, a310, rfl, ha310, rfl⟩
       refine dp rfl (pop_picko rfl (.inr ⟨_, rfl, fun h => by simp_all⟩) (.inl rfl)) ?_
       refine dn ?_
       refine hw_cond rfl (fun h5 => ?_) (fun h6 => ?_)
       ·try simp at h5
        refine hw_reg ?_
        refine dp rfl (pop_move rfl) ?_
        refine dp rfl (pop_move rfl) ?_
        refine dp rfl (pop_sub64 rfl rfl (by omega) (by omega)) ?_
        refine de rfl (eop_callx (i := 0) ca32 rfl (WeakL.refl _) rfl (c_benchmake_Stream_Range (by first | assumption | omega | (simp; omega) | simp_all) (by first | assumption | omega | (simp; omega) | simp_all) (by first | assumption | omega | (simp; omega) | simp_all) (by first | assumption | omega | (simp; omega) | simp_all)) ?_)
        rintro _ _ ⟨y63, rfl, hy63, rfl⟩
        refine dp rfl (pop_fieldAddr_raw ty93 rfl ty3 (by decide) rfl) ?_
        refine de0 (eop_store (i := 2) ty3 rfl rfl rfl rfl rfl (Nat.le_of_ble_eq_true rfl) ?_)
        refine dp rfl (pop_fieldAddr_raw ty93 rfl ty3 (by decide) rfl) ?_
        refine de0 (eop_store (i := 2) ty3 rfl rfl rfl rfl rfl (Nat.le_of_ble_eq_true rfl) ?_)
        refine dn ?_
        obtain ⟨s9, n9, t9, w9, m9, p9, st9, c9, u9⟩ := x9
        refine hw_ghost (Ghost.perm (M' := [St b l (a310 + 1), .arr u 9 (out.map ePlay), .cells b9 (hcells (ePlay ⟨s9, n9, t9, w9, m9, p9, st9, 0, y63⟩))]) (by repeat (first | exact List.Perm.nil | refine permTo 0 rfl ?_ | refine permTo 1 rfl ?_ | refine permTo 2 rfl ?_ | refine permTo 3 rfl ?_ | (refine permToE 0 rfl ?hq ?_; (case hq => simp [setL, hcells]; done)) | (refine permToE 1 rfl ?hq ?_; (case hq => simp [setL, hcells]; done)) | (refine permToE 2 rfl ?hq ?_; (case hq => simp [setL, hcells]; done)) | (refine permToE 3 rfl ?hq ?_; (case hq => simp [setL, hcells]; done)) | fail))) ?_
        refine hw_reg ?_
        refine dp rfl (pop_move rfl) ?_
        refine de rfl (eop_lenm (i := 1) (es := out) ty26 rfl rfl ?_)
        refine dp rfl (pop_move rfl) ?_
        refine dn ?_
        refine hw_block ?_
        refine hw_loopw2 [11, 68, 69, 70, 71, 72, 73, 74, 75, 76, 77, 78, 79, 80, 81, 82, 83, 84, 85, 86, 87, 88, 89, 90, 91, 92, 93, 94, 95, 96, 97, 98, 99, 100] (fun (j : Nat) (q3 : Play × Nat) => [(68, .int .i64 j)]) (fun (j : Nat) (q3 : Play × Nat) => [St b l q3.2, .arr u 9 (out.map ePlay), .cells b9 (hcells (ePlay q3.1))]) (fun (j : Nat) (q3 : Play × Nat) => j ≤ out.length ∧ (GoodPl1 q3.1 ∧ q3.2 ≤ a310 + 1 + j)) (fun (j : Nat) (q3 : Play × Nat) => out.length - j) (0) ((⟨s9, n9, t9, w9, m9, p9, st9, 0, y63⟩, a310 + 1)) ?_ ?_ ?_ ?_
        ·exact ⟨Nat.zero_le _, hq9, by dsimp only; omega⟩
        ·exact ⟨rfl, trivial⟩
        ·repeat (first | exact List.Perm.nil | refine permTo 0 rfl ?_ | refine permTo 1 rfl ?_ | refine permTo 2 rfl ?_ | refine permTo 3 rfl ?_ | (refine permToE 0 rfl ?hq ?_; (case hq => simp [setL, hcells]; done)) | (refine permToE 1 rfl ?hq ?_; (case hq => simp [setL, hcells]; done)) | (refine permToE 2 rfl ?hq ?_; (case hq => simp [setL, hcells]; done)) | (refine permToE 3 rfl ?hq ?_; (case hq => simp [setL, hcells]; done)) | fail)
        ·intro j q3 hinv
         obtain ⟨hj, hq3⟩ := hinv
         obtain ⟨⟨s3, n3, t3, w3, m3, p3, st3, c3, u3⟩, a4⟩ := q3
         obtain ⟨hs3, ha4⟩ := hq3
         dsimp only at hs3 ha4
         refine hw_reg ?_
         refine dp rfl (pop_lss rfl rfl) ?_
         refine dn ?_
         refine hw_seq ?_
         refine hw_cond rfl (fun h7 => ?_) (fun h8 => ?_)
         ·try simp at h7
          obtain ⟨z, hz⟩ : ∃ z, out[j]? = some z := ⟨_, List.getElem?_eq_getElem h7⟩
          have hdz := drop_cons hz
          have hgz := g2 z (List.mem_of_getElem? hz)
          refine hw_arrc (i := 1) rfl (fun h0 he => ?_) (fun ob off cap hv hcap => ?_)
          ·exfalso; have := congrArg List.length he; simp at this; subst this; simp at hz
          subst hv
          refine hw_skip ?_
          refine seqQ_n ?_
          refine hw_seq ?_
          refine hw_block ?_
          refine hw_reg ?_
          refine dp rfl (pop_idxraw (j := j) ty26 ty93 rfl rfl rfl (by simp; omega)) ?_
          refine de rfl (eop_load_elw (i := 1) (j := j) (f := ePlay) (es := out) ty93 rfl rfl rfl hz rfl rfl rfl ?_)
          refine de rfl (eop_alloc ty93 rfl fun b11 => ?_)
          refine de0 (eop_storew ty93 rfl rfl rfl rfl rfl ?_)
          refine dn ?_
          refine hw_ghost (Ghost.fc0 11 rfl) ?_
          refine hw_reg ?_
          refine dp rfl ((pop_fieldAddr ty93 rfl ty9 (by decide) rfl)) ?_
          refine dp rfl (pop_load ty9 rfl rfl rfl) ?_
          refine dp rfl (pop_move rfl) ?_
          refine dp rfl (pop_eqls rfl rfl) ?_
          refine dp rfl (pop_move rfl) ?_
          refine dg rfl rfl (fun hc => ⟨_, OpenTo.refl _, (pop_fieldAddr ty93 rfl ty3 (by decide) rfl)⟩) ?_
          refine dg rfl rfl (fun hc => ⟨_, OpenTo.upd (t := 77) rfl (hc) (OpenTo.refl _), pop_load ty3 rfl rfl rfl⟩) ?_
          refine dg rfl rfl (fun hc => ⟨_, OpenTo.refl _, pop_fieldAddr_raw ty93 rfl ty3 (by decide) rfl⟩) ?_
          refine dgl rfl rfl (fun hc => ⟨_, OpenTo.upd (t := 79) rfl (hc) (OpenTo.refl _), eop_load (i := 2) ty3 rfl rfl (.inl ⟨rfl, rfl⟩) ⟨rfl, rfl⟩⟩) ?_
          refine dg rfl rfl (fun hc => ⟨_, OpenTo.upd (t := 80) rfl (hc) (OpenTo.upd (t := 78) rfl (hc) (OpenTo.refl _)), pop_eql rfl rfl⟩) ?_
          refine dp rfl (pop_picko rfl (.inr ⟨_, rfl, fun h => by simp_all⟩) (.inl rfl)) ?_
          refine dp rfl (pop_move rfl) ?_
          refine dg rfl rfl (fun hc => ⟨_, OpenTo.refl _, pop_move rfl⟩) ?_
          refine dgx (fun x M' => ∃ (y : Bool) (a3 : Nat), x = .bool y ∧ a3 ≤ a4 + 1 ∧ M' = [St b l a3, .arr (.slice (some ⟨ob, off, none⟩) (out.map ePlay).length cap) 9 (out.map ePlay), .cells b9 (hcells (ePlay ⟨s3, n3, t3, w3, m3, p3, st3, c3, u3⟩))]) rfl rfl (fun hc => ⟨_, false, a4, rfl, by omega, rfl⟩) (fun hc => ⟨_, OpenTo.upd (t := 84) rfl (hc) (OpenTo.refl _), eop_callx (i := 0) ca53 rfl (WeakL.refl _) rfl (c_benchmake_Stream_Flip (a := a4) (by omega) (by omega)) (fun h M' hh => by
           obtain ⟨y, h1, h2⟩ := hh
           exact ⟨y, a4 + 1, h1, by omega, by rw [h2]; rfl⟩)⟩) ?_
          rintro _ _ ⟨y6, a36, rfl, ha36, rfl⟩
          refine dg rfl rfl (fun hc => ⟨_, OpenTo.upd (t := 85) rfl (hc) (OpenTo.refl _), pop_not rfl⟩) ?_
          refine dp rfl (pop_picko rfl (.inr ⟨_, rfl, fun h => by simp_all⟩) (.inl rfl)) ?_
          refine dn ?_
          refine hw_cond rfl (fun h9 => ?_) (fun h10 => ?_)
          ·try simp at h9
           refine hw_draw1 (fun _ => True) [] mixed ?_
           refine ahp 0 rfl rfl (by kernel_rfl) (by kernel_rfl) ((pop_fieldAddr ty93 rfl ty9 (by decide) rfl)) ?_
           refine ahp 1 rfl rfl (by kernel_rfl) (by kernel_rfl) (pop_load ty9 rfl rfl rfl) ?_
           refine ahp 2 rfl rfl (by kernel_rfl) (by kernel_rfl) ((pop_fieldAddr ty93 rfl ty3 (by decide) rfl)) ?_
           refine ahp 3 rfl rfl (by kernel_rfl) (by kernel_rfl) (pop_load ty3 rfl rfl rfl) ?_
           refine ahp 4 rfl rfl (by kernel_rfl) (by kernel_rfl) ((pop_fieldAddr ty93 rfl ty9 (by decide) rfl)) ?_
           refine ahp 5 rfl rfl (by kernel_rfl) (by kernel_rfl) (pop_load ty9 rfl rfl rfl) ?_
           refine ahp 6 rfl rfl (by kernel_rfl) (by kernel_rfl) ((pop_fieldAddr ty93 rfl ty9 (by decide) rfl)) ?_
           refine ahp 7 rfl rfl (by kernel_rfl) (by kernel_rfl) (pop_load ty9 rfl rfl rfl) ?_
           refine ahp 8 rfl rfl (by kernel_rfl) (by kernel_rfl) (pop_fieldAddr_raw ty93 rfl ty9 (by decide) rfl) ?_
           refine ahe 9 rfl (by kernel_rfl) ?_
           refine hop_e0 (eop_store (i := 2) ty9 rfl rfl rfl rfl rfl (Nat.le_of_ble_eq_true rfl) ?_)
           refine ⟨fun _ => .inl trivial, ?_⟩
           refine ahp 10 rfl rfl (by kernel_rfl) (by kernel_rfl) (pop_fieldAddr_raw ty93 rfl ty3 (by decide) rfl) ?_
           refine ahe 11 rfl (by kernel_rfl) ?_
           refine hop_e0 (eop_store (i := 2) ty3 rfl rfl rfl rfl rfl (Nat.le_of_ble_eq_true rfl) ?_)
           refine ⟨fun _ => .inl trivial, ?_⟩
           refine ahp 12 rfl rfl (by kernel_rfl) (by kernel_rfl) (pop_fieldAddr_raw ty93 rfl ty9 (by decide) rfl) ?_
           refine ahe 13 rfl (by kernel_rfl) ?_
           refine hop_e0 (eop_store (i := 2) ty9 rfl rfl rfl rfl rfl (Nat.le_of_ble_eq_true rfl) ?_)
           refine ⟨fun _ => .inl trivial, ?_⟩
           refine ahp 14 rfl rfl (by kernel_rfl) (by kernel_rfl) (pop_fieldAddr_raw ty93 rfl ty9 (by decide) rfl) ?_
           refine ahe 15 rfl (by kernel_rfl) ?_
           refine hop_e0 (eop_store (i := 2) ty9 rfl rfl rfl rfl rfl (Nat.le_of_ble_eq_true rfl) ?_)
           refine ⟨fun _ => .inl trivial, ?_⟩
           refine ahz (by kernel_rfl) ?_
           refine blockQ_n ?_
           refine seqQ_n ?_
           refine hw_reg1 ?_
           refine dp rfl (pop_add64 rfl rfl (by omega) (by omega)) ?_
           refine dp rfl (pop_move rfl) ?_
           refine dn ?_
           exact ⟨j + 1, (⟨s3, n3, t3, z.Week, z.Match, z.Player, z.Stat, c3, u3⟩, a36), ⟨by omega, ⟨hs3.1, hgz.2.1, hgz.2.2.1, hgz.2.2.2⟩, by dsimp only; omega⟩, by dsimp only; omega, ⟨rfl, trivial⟩, (by repeat (first | exact keeps_refl | refine keeps_upd rfl ?_ | refine keeps_loop rfl rfl ?_)), by repeat (first | exact List.Perm.nil | refine permTo 0 rfl ?_ | refine permTo 1 rfl ?_ | refine permTo 2 rfl ?_ | refine permTo 3 rfl ?_ | (refine permToE 0 rfl ?hq ?_; (case hq => simp [setL, hcells]; done)) | (refine permToE 1 rfl ?hq ?_; (case hq => simp [setL, hcells]; done)) | (refine permToE 2 rfl ?hq ?_; (case hq => simp [setL, hcells]; done)) | (refine permToE 3 rfl ?hq ?_; (case hq => simp [setL, hcells]; done)) | fail)⟩
          ·try simp at h10
           refine hw_skip ?_
           refine blockQ_n ?_
           refine seqQ_n ?_
           refine hw_reg1 ?_
           refine dp rfl (pop_add64 rfl rfl (by omega) (by omega)) ?_
           refine dp rfl (pop_move rfl) ?_
           refine dn ?_
           exact ⟨j + 1, (⟨s3, n3, t3, w3, m3, p3, st3, c3, u3⟩, a36), ⟨by omega, hs3, by dsimp only; omega⟩, by dsimp only; omega, ⟨rfl, trivial⟩, (by repeat (first | exact keeps_refl | refine keeps_upd rfl ?_ | refine keeps_loop rfl rfl ?_)), by repeat (first | exact List.Perm.nil | refine permTo 0 rfl ?_ | refine permTo 1 rfl ?_ | refine permTo 2 rfl ?_ | refine permTo 3 rfl ?_ | (refine permToE 0 rfl ?hq ?_; (case hq => simp [setL, hcells]; done)) | (refine permToE 1 rfl ?hq ?_; (case hq => simp [setL, hcells]; done)) | (refine permToE 2 rfl ?hq ?_; (case hq => simp [setL, hcells]; done)) | (refine permToE 3 rfl ?hq ?_; (case hq => simp [setL, hcells]; done)) | fail)⟩
         ·try simp at h8
          have hnj : out.length ≤ j := by omega
          obtain rfl : j = out.length := by omega
          refine hw_exit ?_
          refine seqQ_x ?_
          refine loopQ2_x ?_
          refine blockQ_eq ?_
          exact ⟨(⟨s3, n3, t3, w3, m3, p3, st3, c3, u3⟩, a4), ⟨hs3, by dsimp only; omega⟩, trivial, (by repeat (first | exact keeps_refl | refine keeps_upd rfl ?_ | refine keeps_loop rfl rfl ?_)), by repeat (first | exact List.Perm.nil | refine permTo 0 rfl ?_ | refine permTo 1 rfl ?_ | refine permTo 2 rfl ?_ | refine permTo 3 rfl ?_ | (refine permToE 0 rfl ?hq ?_; (case hq => simp [setL, hcells]; done)) | (refine permToE 1 rfl ?hq ?_; (case hq => simp [setL, hcells]; done)) | (refine permToE 2 rfl ?hq ?_; (case hq => simp [setL, hcells]; done)) | (refine permToE 3 rfl ?hq ?_; (case hq => simp [setL, hcells]; done)) | fail)⟩
       ·try simp at h6
        refine hw_skip ?_
        exact ⟨(x9, a310), ⟨hq9, by dsimp only; omega⟩, trivial, (by repeat (first | exact keeps_refl | refine keeps_upd rfl ?_ | refine keeps_loop rfl rfl ?_)), by repeat (first | exact List.Perm.nil | refine permTo 0 rfl ?_ | refine permTo 1 rfl ?_ | refine permTo 2 rfl ?_ | refine permTo 3 rfl ?_ | (refine permToE 0 rfl ?hq ?_; (case hq => simp [setL, hcells]; done)) | (refine permToE 1 rfl ?hq ?_; (case hq => simp [setL, hcells]; done)) | (refine permToE 2 rfl ?hq ?_; (case hq => simp [setL, hcells]; done)) | (refine permToE 3 rfl ?hq ?_; (case hq => simp [setL, hcells]; done)) | fail)⟩
      ·intro q4 hq4
       obtain ⟨x5, a5⟩ := q4
       obtain ⟨hx5, ha5⟩ := hq4
       dsimp only at hx5 ha5
       refine hw_ghost (Ghost.fc 9 (i := 2) rfl rfl) ?_
       refine hw_reg ?_
       refine dp rfl (pop_move rfl) ?_
       refine dp rfl (pop_loadw ty93 rfl rfl rfl rfl) ?_
       refine dp rfl (pop_buildSlice (hs := [_]) ty26 ty93 rfl rfl (by decide) (by decide) rfl) ?_
       refine de rfl (eop_append (i := 1) ty26 ty93 rfl rfl rfl rfl rfl (by simp [flat, hcells]) (by simp; omega) fun v104 => ?_)
       refine dp rfl (pop_assign rfl) ?_
       refine dn ?_
       refine hw_reg1 ?_
       refine dp rfl (pop_move rfl) ?_
       refine dp rfl (pop_move rfl) ?_
       refine dp rfl (pop_buildSlice (hs := [_, _, _, _]) ty22 ty3 rfl rfl (by decide) (by decide) rfl) ?_
       refine de rfl (eop_callx (i := 0) ca9 rfl (WeakL.refl _) rfl (c_benchmake_Stream_Pick (L := [_, _, _, _]) (by first | assumption | omega | (simp; omega) | simp_all) (by first | assumption | omega | (simp; omega) | simp_all) (by first | assumption | omega | (simp; omega) | simp_all)) ?_)
       rintro _ _ ⟨y108, rfl, hy108, rfl⟩
       refine dp rfl (pop_add64 rfl rfl (by simp at hy108; omega) (by simp at hy108; omega)) ?_
       refine dp rfl (pop_assign rfl) ?_
       refine dn ?_
       refine blockQ_n ?_
       refine seqQ_n ?_
       refine hw_reg1 ?_
       refine dp rfl (pop_add64 rfl rfl (by omega) (by omega)) ?_
       refine dp rfl (pop_move rfl) ?_
       refine dn ?_
       exact ⟨n + 1, no + y29, at1 + y108, ⟨v104, out ++ [x5], a5 + 1⟩, ⟨by omega, ⟨by simp at hy29; omega, by simp at hy29; omega⟩, ⟨by simp at hy108; omega, by simp at hy108; omega⟩, hq2.add (x := x5) hx5 (by omega)⟩, by dsimp only; omega, ⟨rfl, rfl, rfl, rfl, trivial⟩, (by repeat (first | exact keeps_refl | refine keeps_upd rfl ?_ | refine keeps_loop rfl rfl ?_)), by repeat (first | exact List.Perm.nil | refine permTo 0 rfl ?_ | refine permTo 1 rfl ?_ | refine permTo 2 rfl ?_ | refine permTo 3 rfl ?_ | (refine permToE 0 rfl ?hq ?_; (case hq => simp [setL, hcells]; done)) | (refine permToE 1 rfl ?hq ?_; (case hq => simp [setL, hcells]; done)) | (refine permToE 2 rfl ?hq ?_; (case hq => simp [setL, hcells]; done)) | (refine permToE 3 rfl ?hq ?_; (case hq => simp [setL, hcells]; done)) | fail)⟩
    ·try simp at h4
     refine hw_exit ?_
     refine seqQ_x ?_
     refine loopQ4_x ?_
     refine blockQ_eq ?_
     refine blockQ_n ?_
     refine seqQ_n ?_
     refine hw_reg1 ?_
     refine dp rfl (pop_add64 rfl rfl (by omega) (by omega)) ?_
     refine dp rfl (pop_move rfl) ?_
     refine dn ?_
     exact ⟨k + 1, ⟨u, out, a2⟩, ⟨by omega, ⟨by dsimp only; omega, g2, by dsimp only; omega⟩⟩, by dsimp only; omega, ⟨rfl, rfl, trivial⟩, (by repeat (first | exact keeps_refl | refine keeps_upd rfl ?_ | refine keeps_loop rfl rfl ?_)), by repeat (first | exact List.Perm.nil | refine permTo 0 rfl ?_ | refine permTo 1 rfl ?_ | refine permTo 2 rfl ?_ | refine permTo 3 rfl ?_ | (refine permToE 0 rfl ?hq ?_; (case hq => simp [setL, hcells]; done)) | (refine permToE 1 rfl ?hq ?_; (case hq => simp [setL, hcells]; done)) | (refine permToE 2 rfl ?hq ?_; (case hq => simp [setL, hcells]; done)) | (refine permToE 3 rfl ?hq ?_; (case hq => simp [setL, hcells]; done)) | fail)⟩
  ·try simp at h2
   have hnk : src3.length ≤ k := by omega
   obtain rfl : k = src3.length := by omega
   refine hw_exit ?_
   refine seqQ_x ?_
   refine loopQ2_x ?_
   refine blockQ_eq ?_
   refine seqQ_n ?_
   refine hw_join (12 :: 112 :: 113 :: 114 :: 115 :: 116 :: 117 :: 118 :: 119 :: 120 :: 121 :: 122 :: 123 :: 124 :: 125 :: 126 :: 127 :: 128 :: 129 :: 130 :: 131 :: 132 :: 133 :: 134 :: 135 :: 136 :: 137 :: 138 :: 139 :: 140 :: 141 :: 142 :: 143 :: 144 :: 145 :: 146 :: 147 :: 148 :: 149 :: 150 :: 151 :: 152 :: 153 :: 154 :: 155 :: 156 :: 157 :: 158 :: 159 :: 160 :: 161 :: 162 :: 163 :: 164 :: 165 :: 166 :: 167 :: 168 :: 169 :: 170 :: 171 :: 172 :: 173 :: 174 :: 175 :: 176 :: 177 :: 178 :: 179 :: 180 :: 181 :: 182 :: 183 :: 184 :: 185 :: 186 :: 187 :: 188 :: 189 :: 190 :: 191 :: 192 :: 193 :: 194 :: 195 :: 196 :: 197 :: 198 :: 199 :: 200 :: 201 :: 202 :: 203 :: 204 :: 205 :: 206 :: 207 :: 208 :: 209 :: 210 :: 211 :: 212 :: 213 :: 214 :: 215 :: 216 :: 217 :: 218 :: 219 :: 220 :: 221 :: 222 :: []) (fun (q5 : List Play × Nat) => []) (fun (q5 : List Play × Nat) => [St b l q5.2, .arr u 9 (q5.1.map ePlay)]) (fun (q5 : List Play × Nat) => q5.1.length ≤ 15 ∧ (∀ x ∈ q5.1, GoodPl1 x) ∧ q5.2 ≤ a + 500) ?_ ?_
   ·skip
    refine hw_reg ?_
    refine dp rfl (pop_move rfl) ?_
    refine de rfl (eop_lenm (i := 1) ty26 rfl rfl ?_)
    refine dp rfl (pop_gtr rfl rfl) ?_
    refine dp rfl (pop_move rfl) ?_
    refine dg rfl rfl (fun hc => ⟨_, OpenTo.refl _, pop_move rfl⟩) ?_
    refine dgx (fun x M' => ∃ (y : Bool) (a3 : Nat), x = .bool y ∧ a3 ≤ a1 + 1 ∧ M' = [St b l a3, .arr u 9 (out.map ePlay)]) rfl rfl (fun hc => ⟨_, false, a1, rfl, by omega, rfl⟩) (fun hc => ⟨_, OpenTo.upd (t := 116) rfl (hc) (OpenTo.refl _), eop_callx (i := 0) ca53 rfl (WeakL.refl _) rfl (c_benchmake_Stream_Flip (a := a1) (by omega) (by omega)) (fun h M' hh => by
     obtain ⟨y, h1, h2⟩ := hh
     exact ⟨y, a1 + 1, h1, by omega, by rw [h2]; rfl⟩)⟩) ?_
    rintro _ _ ⟨y, a3, rfl, ha3, rfl⟩
    refine dp rfl (pop_picko rfl (.inr ⟨_, rfl, fun h => by simp_all⟩) (.inl rfl)) ?_
    refine dn ?_
    refine hw_cond rfl (fun h11 => ?_) (fun h12 => ?_)
    ·try simp at h11
     have ho0 : 0 < out.length := by simp_all
     refine hw_arrc (i := 1) rfl (fun h0 he => ?_) (fun ob off cap hv hcap => ?_)
     ·exfalso; have := congrArg List.length he; simp at this; subst this; simp at ho0
     subst hv
     refine hw_reg ?_
     refine dp rfl (pop_move rfl) ?_
     refine dp rfl (pop_move rfl) ?_
     refine dp rfl (pop_move rfl) ?_
     refine de rfl (eop_lenm (i := 1) ty26 rfl rfl ?_)
     refine de rfl (eop_callx (i := 0) ca52 rfl (WeakL.refl _) rfl (c_benchmake_Stream_Next (by first | assumption | omega | (simp; omega) | simp_all) (by first | assumption | omega | (simp; omega) | simp_all)) ?_)
     rintro _ _ ⟨y123, rfl, hy123, rfl⟩
     refine dp rfl (pop_idxraw (j := y123) ty26 ty93 rfl rfl rfl (by simp; omega)) ?_
     refine dp rfl (pop_assign rfl) ?_
     refine dn ?_
     obtain ⟨x, hx⟩ : ∃ x, out[y123]? = some x := ⟨_, List.getElem?_eq_getElem (by omega)⟩
     refine hw_reg ?_
     refine dp rfl (pop_move rfl) ?_
     refine de rfl (eop_callx (i := 0) ca52 rfl (WeakL.refl _) rfl (c_benchmake_Stream_Next (by first | assumption | omega | (simp; omega) | simp_all) (by first | assumption | omega | (simp; omega) | simp_all)) ?_)
     rintro _ _ ⟨y126, rfl, hy126, rfl⟩
     refine dn ?_
     refine hw_block ?_
     refine hw_reg ?_
     refine dp rfl (pop_eql rfl rfl) ?_
     refine dp rfl (pop_assign rfl) ?_
     refine dn ?_
     refine hw_cond rfl (fun h13 => ?_) (fun h14 => ?_)
     ·try simp at h13
      refine hw_draw1 (fun M => ∃ i : Nat, M[i]? = some (.arr (.slice (some ⟨ob, off, none⟩) (out.map ePlay).length cap) 9 (out.map ePlay))) [6, 13] mixed ?_
      refine ahp 0 rfl rfl (by kernel_rfl) (by kernel_rfl) (pop_move rfl) ?_
      refine ahp 1 rfl rfl (by kernel_rfl) (by kernel_rfl) (pop_move rfl) ?_
      refine ahp 2 rfl rfl (by kernel_rfl) (by kernel_rfl) (pop_move rfl) ?_
      refine ahp 3 rfl rfl (by kernel_rfl) (by kernel_rfl) (pop_move rfl) ?_
      refine ahp 4 rfl rfl (by kernel_rfl) (by kernel_rfl) ((pop_nilCheck_raw rfl)) ?_
      refine ahp 5 rfl rfl (by kernel_rfl) (by kernel_rfl) ((pop_fieldAddr_raw ty93 rfl ty9 (by decide) rfl)) ?_
      refine ahl 6 rfl rfl (by kernel_rfl) (by kernel_rfl) (by simp) ⟨1, rfl⟩ (fun M hM => by obtain ⟨i, hi⟩ := hM; exact eop_load_el (i := i) (j := y123) 0 ty9 rfl (by omega) hi hx rfl rfl ⟨rfl, rfl⟩) ?_
      refine ahp 7 rfl rfl (by kernel_rfl) (by kernel_rfl) (pop_buildSlice (hs := [_, _, _]) ty28 ty9 rfl rfl (by decide) (by decide) rfl) ?_
      refine ahp 9 rfl rfl (by kernel_rfl) (by kernel_rfl) (pop_move rfl) ?_
      refine ahp 10 rfl rfl (by kernel_rfl) (by kernel_rfl) (pop_move rfl) ?_
      refine ahp 11 rfl rfl (by kernel_rfl) (by kernel_rfl) ((pop_nilCheck_raw rfl)) ?_
      refine ahp 12 rfl rfl (by kernel_rfl) (by kernel_rfl) ((pop_fieldAddr_raw ty93 rfl ty3 (by decide) rfl)) ?_
      refine ahl 13 rfl rfl (by kernel_rfl) (by kernel_rfl) (by simp) ⟨1, rfl⟩ (fun M hM => by obtain ⟨i, hi⟩ := hM; exact eop_load_el (i := i) (j := y123) 1 ty3 rfl (by omega) hi hx rfl rfl ⟨rfl, rfl⟩) ?_
      refine ahp 14 rfl rfl (by kernel_rfl) (by kernel_rfl) (pop_buildSlice (hs := [_, _, _, _]) ty22 ty3 rfl rfl (by decide) (by decide) rfl) ?_
      refine ahe 8 rfl (by kernel_rfl) ?_
      refine hop_e rfl (eop_callx (i := 0) ca11 rfl (WeakL.refl _) rfl (c_benchmake_Stream_Some (L := [_, _, _]) (by first | assumption | omega | (simp; omega) | simp_all) (by first | assumption | omega | (simp; omega) | simp_all) (by first | assumption | omega | (simp; omega) | simp_all)) ?_)
      rintro _ _ ⟨y167, rfl, hy167, rfl⟩
      refine ⟨fun _ => by first | exact .inl ⟨0, rfl⟩ | exact .inl ⟨1, rfl⟩ | exact .inl ⟨2, rfl⟩ | exact .inr (by simp [Before, Region.binds]), ?_⟩
      refine ahe 15 rfl (by kernel_rfl) ?_
      refine hop_e rfl (eop_callx (i := 0) ca9 rfl (WeakL.refl _) rfl (c_benchmake_Stream_Pick (L := [_, _, _, _]) (by first | assumption | omega | (simp; omega) | simp_all) (by first | assumption | omega | (simp; omega) | simp_all) (by first | assumption | omega | (simp; omega) | simp_all)) ?_)
      rintro _ _ ⟨y174, rfl, hy174, rfl⟩
      refine ⟨fun _ => by first | exact .inl ⟨0, rfl⟩ | exact .inl ⟨1, rfl⟩ | exact .inl ⟨2, rfl⟩ | exact .inr (by simp [Before, Region.binds]), ?_⟩
      refine ahp 16 rfl rfl (by kernel_rfl) (by kernel_rfl) ((pop_nilCheck_raw rfl)) ?_
      refine ahp 17 rfl rfl (by kernel_rfl) (by kernel_rfl) ((pop_fieldAddr_raw ty93 rfl ty9 (by decide) rfl)) ?_
      refine ahe 18 rfl (by kernel_rfl) ?_
      refine hop_e0 (eop_store_arr (i := 1) (j := y123) (f := 0) (y := ePlay x) (y' := ePlay ⟨y167, x.No, x.At, x.Week, x.Match, x.Player, x.Stat, x.Count, x.Undo⟩) ty9 rfl (by omega) rfl rfl (map_get hx) rfl rfl (by simp [hcells]) rfl ?_)
      refine ⟨fun _ => .inr (by simp [Before, Region.binds]), ?_⟩
      refine ahp 19 rfl rfl (by kernel_rfl) (by kernel_rfl) ((pop_nilCheck_raw rfl)) ?_
      refine ahp 20 rfl rfl (by kernel_rfl) (by kernel_rfl) ((pop_fieldAddr_raw ty93 rfl ty3 (by decide) rfl)) ?_
      refine ahe 21 rfl (by kernel_rfl) ?_
      refine hop_e0 (eop_store_arr (i := 1) (j := y123) (f := 1) (y := ePlay ⟨y167, x.No, x.At, x.Week, x.Match, x.Player, x.Stat, x.Count, x.Undo⟩) (y' := ePlay ⟨y167, y174, x.At, x.Week, x.Match, x.Player, x.Stat, x.Count, x.Undo⟩) ty3 rfl (by omega) rfl rfl (set_self (map_get hx)) rfl rfl (by simp [hcells]) rfl ?_)
      refine ⟨fun _ => .inr (by simp [Before, Region.binds]), ?_⟩
      refine ahz (by kernel_rfl) ?_
      refine blockQ_n ?_
      exact ⟨(out.set y123 ⟨y167, y174, x.At, x.Week, x.Match, x.Player, x.Stat, x.Count, x.Undo⟩, a3 + 4), ⟨by simp; omega, all_set (P := GoodPl1) g2 (by
       have hgx := g2 x (List.mem_of_getElem? hx)
       exact ⟨by simp at hy167; rcases hy167 with rfl | rfl | rfl; exact hgx.1; exact nil_sh; (unfold Sh; simp), hgx.2.1, hgx.2.2.1, hgx.2.2.2⟩), by dsimp only; omega⟩, trivial, (by repeat (first | exact keeps_refl | refine keeps_upd rfl ?_ | refine keeps_loop rfl rfl ?_)), by repeat (first | exact List.Perm.nil | refine permTo 0 rfl ?_ | refine permTo 1 rfl ?_ | refine permTo 2 rfl ?_ | refine permTo 3 rfl ?_ | (refine permToE 0 rfl ?hq ?_; (case hq => simp [setL, hcells]; done)) | (refine permToE 1 rfl ?hq ?_; (case hq => simp [setL, hcells]; done)) | (refine permToE 2 rfl ?hq ?_; (case hq => simp [setL, hcells]; done)) | (refine permToE 3 rfl ?hq ?_; (case hq => simp [setL, hcells]; done)) | fail)⟩
     ·try simp at h14
      refine hw_reg ?_
      refine dp rfl (pop_eql rfl rfl) ?_
      refine dp rfl (pop_assign rfl) ?_
      refine dn ?_
      refine hw_cond rfl (fun h15 => ?_) (fun h16 => ?_)
      ·try simp at h15
       refine hw_draw1 (fun M => ∃ i : Nat, M[i]? = some (.arr (.slice (some ⟨ob, off, none⟩) (out.map ePlay).length cap) 9 (out.map ePlay))) [6, 13] mixed ?_
       refine ahp 0 rfl rfl (by kernel_rfl) (by kernel_rfl) (pop_move rfl) ?_
       refine ahp 1 rfl rfl (by kernel_rfl) (by kernel_rfl) (pop_move rfl) ?_
       refine ahp 2 rfl rfl (by kernel_rfl) (by kernel_rfl) (pop_move rfl) ?_
       refine ahp 3 rfl rfl (by kernel_rfl) (by kernel_rfl) (pop_move rfl) ?_
       refine ahp 4 rfl rfl (by kernel_rfl) (by kernel_rfl) ((pop_nilCheck_raw rfl)) ?_
       refine ahp 5 rfl rfl (by kernel_rfl) (by kernel_rfl) ((pop_fieldAddr_raw ty93 rfl ty3 (by decide) rfl)) ?_
       refine ahl 6 rfl rfl (by kernel_rfl) (by kernel_rfl) (by simp) ⟨1, rfl⟩ (fun M hM => by obtain ⟨i, hi⟩ := hM; exact eop_load_el (i := i) (j := y123) 3 ty3 rfl (by omega) hi hx rfl rfl ⟨rfl, rfl⟩) ?_
       refine ahp 7 rfl rfl (by kernel_rfl) (by kernel_rfl) (pop_buildSlice (hs := [_, _, _]) ty22 ty3 rfl rfl (by decide) (by decide) rfl) ?_
       refine ahp 9 rfl rfl (by kernel_rfl) (by kernel_rfl) (pop_move rfl) ?_
       refine ahp 10 rfl rfl (by kernel_rfl) (by kernel_rfl) (pop_move rfl) ?_
       refine ahp 11 rfl rfl (by kernel_rfl) (by kernel_rfl) ((pop_nilCheck_raw rfl)) ?_
       refine ahp 12 rfl rfl (by kernel_rfl) (by kernel_rfl) ((pop_fieldAddr_raw ty93 rfl ty9 (by decide) rfl)) ?_
       refine ahl 13 rfl rfl (by kernel_rfl) (by kernel_rfl) (by simp) ⟨1, rfl⟩ (fun M hM => by obtain ⟨i, hi⟩ := hM; exact eop_load_el (i := i) (j := y123) 4 ty9 rfl (by omega) hi hx rfl rfl ⟨rfl, rfl⟩) ?_
       refine ahp 14 rfl rfl (by kernel_rfl) (by kernel_rfl) (pop_buildSlice (hs := [_, _]) ty28 ty9 rfl rfl (by decide) (by decide) rfl) ?_
       refine ahe 8 rfl (by kernel_rfl) ?_
       refine hop_e rfl (eop_callx (i := 0) ca9 rfl (WeakL.refl _) rfl (c_benchmake_Stream_Pick (L := [_, _, _]) (by first | assumption | omega | (simp; omega) | simp_all) (by first | assumption | omega | (simp; omega) | simp_all) (by first | assumption | omega | (simp; omega) | simp_all)) ?_)
       rintro _ _ ⟨y189, rfl, hy189, rfl⟩
       refine ⟨fun _ => by first | exact .inl ⟨0, rfl⟩ | exact .inl ⟨1, rfl⟩ | exact .inl ⟨2, rfl⟩ | exact .inr (by simp [Before, Region.binds]), ?_⟩
       refine ahe 15 rfl (by kernel_rfl) ?_
       refine hop_e rfl (eop_callx (i := 0) ca11 rfl (WeakL.refl _) rfl (c_benchmake_Stream_Some (L := [_, _]) (by first | assumption | omega | (simp; omega) | simp_all) (by first | assumption | omega | (simp; omega) | simp_all) (by first | assumption | omega | (simp; omega) | simp_all)) ?_)
       rintro _ _ ⟨y196, rfl, hy196, rfl⟩
       refine ⟨fun _ => by first | exact .inl ⟨0, rfl⟩ | exact .inl ⟨1, rfl⟩ | exact .inl ⟨2, rfl⟩ | exact .inr (by simp [Before, Region.binds]), ?_⟩
       refine ahp 16 rfl rfl (by kernel_rfl) (by kernel_rfl) ((pop_nilCheck_raw rfl)) ?_
       refine ahp 17 rfl rfl (by kernel_rfl) (by kernel_rfl) ((pop_fieldAddr_raw ty93 rfl ty3 (by decide) rfl)) ?_
       refine ahe 18 rfl (by kernel_rfl) ?_
       refine hop_e0 (eop_store_arr (i := 1) (j := y123) (f := 3) (y := ePlay x) (y' := ePlay ⟨x.Source, x.No, x.At, y189, x.Match, x.Player, x.Stat, x.Count, x.Undo⟩) ty3 rfl (by omega) rfl rfl (map_get hx) rfl rfl (by simp [hcells]) rfl ?_)
       refine ⟨fun _ => .inr (by simp [Before, Region.binds]), ?_⟩
       refine ahp 19 rfl rfl (by kernel_rfl) (by kernel_rfl) ((pop_nilCheck_raw rfl)) ?_
       refine ahp 20 rfl rfl (by kernel_rfl) (by kernel_rfl) ((pop_fieldAddr_raw ty93 rfl ty9 (by decide) rfl)) ?_
       refine ahe 21 rfl (by kernel_rfl) ?_
       refine hop_e0 (eop_store_arr (i := 1) (j := y123) (f := 4) (y := ePlay ⟨x.Source, x.No, x.At, y189, x.Match, x.Player, x.Stat, x.Count, x.Undo⟩) (y' := ePlay ⟨x.Source, x.No, x.At, y189, y196, x.Player, x.Stat, x.Count, x.Undo⟩) ty9 rfl (by omega) rfl rfl (set_self (map_get hx)) rfl rfl (by simp [hcells]) rfl ?_)
       refine ⟨fun _ => .inr (by simp [Before, Region.binds]), ?_⟩
       refine ahz (by kernel_rfl) ?_
       refine blockQ_n ?_
       exact ⟨(out.set y123 ⟨x.Source, x.No, x.At, y189, y196, x.Player, x.Stat, x.Count, x.Undo⟩, a3 + 4), ⟨by simp; omega, all_set (P := GoodPl1) g2 (by
        have hgx := g2 x (List.mem_of_getElem? hx)
        exact ⟨hgx.1, by simp at hy196; rcases hy196 with rfl | rfl; exact hgx.2.1; exact nil_sh, hgx.2.2.1, hgx.2.2.2⟩), by dsimp only; omega⟩, trivial, (by repeat (first | exact keeps_refl | refine keeps_upd rfl ?_ | refine keeps_loop rfl rfl ?_)), by repeat (first | exact List.Perm.nil | refine permTo 0 rfl ?_ | refine permTo 1 rfl ?_ | refine permTo 2 rfl ?_ | refine permTo 3 rfl ?_ | (refine permToE 0 rfl ?hq ?_; (case hq => simp [setL, hcells]; done)) | (refine permToE 1 rfl ?hq ?_; (case hq => simp [setL, hcells]; done)) | (refine permToE 2 rfl ?hq ?_; (case hq => simp [setL, hcells]; done)) | (refine permToE 3 rfl ?hq ?_; (case hq => simp [setL, hcells]; done)) | fail)⟩
      ·try simp at h16
       refine hw_reg ?_
       refine dp rfl (pop_eql rfl rfl) ?_
       refine dp rfl (pop_assign rfl) ?_
       refine dn ?_
       refine hw_cond rfl (fun h17 => ?_) (fun h18 => ?_)
       ·try simp at h17
        refine hw_draw1 (fun M => ∃ i : Nat, M[i]? = some (.arr (.slice (some ⟨ob, off, none⟩) (out.map ePlay).length cap) 9 (out.map ePlay))) [6, 13] mixed ?_
        refine ahp 0 rfl rfl (by kernel_rfl) (by kernel_rfl) (pop_move rfl) ?_
        refine ahp 1 rfl rfl (by kernel_rfl) (by kernel_rfl) (pop_move rfl) ?_
        refine ahp 2 rfl rfl (by kernel_rfl) (by kernel_rfl) (pop_move rfl) ?_
        refine ahp 3 rfl rfl (by kernel_rfl) (by kernel_rfl) (pop_move rfl) ?_
        refine ahp 4 rfl rfl (by kernel_rfl) (by kernel_rfl) ((pop_nilCheck_raw rfl)) ?_
        refine ahp 5 rfl rfl (by kernel_rfl) (by kernel_rfl) ((pop_fieldAddr_raw ty93 rfl ty3 (by decide) rfl)) ?_
        refine ahl 6 rfl rfl (by kernel_rfl) (by kernel_rfl) (by simp) ⟨1, rfl⟩ (fun M hM => by obtain ⟨i, hi⟩ := hM; exact eop_load_el (i := i) (j := y123) 7 ty3 rfl (by omega) hi hx rfl rfl ⟨rfl, rfl⟩) ?_
        refine ahp 7 rfl rfl (by kernel_rfl) (by kernel_rfl) (pop_buildSlice (hs := [_, _, _]) ty22 ty3 rfl rfl (by decide) (by decide) rfl) ?_
        refine ahp 9 rfl rfl (by kernel_rfl) (by kernel_rfl) (pop_move rfl) ?_
        refine ahp 10 rfl rfl (by kernel_rfl) (by kernel_rfl) (pop_move rfl) ?_
        refine ahp 11 rfl rfl (by kernel_rfl) (by kernel_rfl) ((pop_nilCheck_raw rfl)) ?_
        refine ahp 12 rfl rfl (by kernel_rfl) (by kernel_rfl) ((pop_fieldAddr_raw ty93 rfl ty3 (by decide) rfl)) ?_
        refine ahl 13 rfl rfl (by kernel_rfl) (by kernel_rfl) (by simp) ⟨1, rfl⟩ (fun M hM => by obtain ⟨i, hi⟩ := hM; exact eop_load_el (i := i) (j := y123) 8 ty3 rfl (by omega) hi hx rfl rfl ⟨rfl, rfl⟩) ?_
        refine ahp 14 rfl rfl (by kernel_rfl) (by kernel_rfl) (pop_buildSlice (hs := [_, _, _]) ty22 ty3 rfl rfl (by decide) (by decide) rfl) ?_
        refine ahe 8 rfl (by kernel_rfl) ?_
        refine hop_e rfl (eop_callx (i := 0) ca9 rfl (WeakL.refl _) rfl (c_benchmake_Stream_Pick (L := [_, _, _]) (by first | assumption | omega | (simp; omega) | simp_all) (by first | assumption | omega | (simp; omega) | simp_all) (by first | assumption | omega | (simp; omega) | simp_all)) ?_)
        rintro _ _ ⟨y211, rfl, hy211, rfl⟩
        refine ⟨fun _ => by first | exact .inl ⟨0, rfl⟩ | exact .inl ⟨1, rfl⟩ | exact .inl ⟨2, rfl⟩ | exact .inr (by simp [Before, Region.binds]), ?_⟩
        refine ahe 15 rfl (by kernel_rfl) ?_
        refine hop_e rfl (eop_callx (i := 0) ca9 rfl (WeakL.refl _) rfl (c_benchmake_Stream_Pick (L := [_, _, _]) (by first | assumption | omega | (simp; omega) | simp_all) (by first | assumption | omega | (simp; omega) | simp_all) (by first | assumption | omega | (simp; omega) | simp_all)) ?_)
        rintro _ _ ⟨y218, rfl, hy218, rfl⟩
        refine ⟨fun _ => by first | exact .inl ⟨0, rfl⟩ | exact .inl ⟨1, rfl⟩ | exact .inl ⟨2, rfl⟩ | exact .inr (by simp [Before, Region.binds]), ?_⟩
        refine ahp 16 rfl rfl (by kernel_rfl) (by kernel_rfl) ((pop_nilCheck_raw rfl)) ?_
        refine ahp 17 rfl rfl (by kernel_rfl) (by kernel_rfl) ((pop_fieldAddr_raw ty93 rfl ty3 (by decide) rfl)) ?_
        refine ahe 18 rfl (by kernel_rfl) ?_
        refine hop_e0 (eop_store_arr (i := 1) (j := y123) (f := 7) (y := ePlay x) (y' := ePlay ⟨x.Source, x.No, x.At, x.Week, x.Match, x.Player, x.Stat, y211, x.Undo⟩) ty3 rfl (by omega) rfl rfl (map_get hx) rfl rfl (by simp [hcells]) rfl ?_)
        refine ⟨fun _ => .inr (by simp [Before, Region.binds]), ?_⟩
        refine ahp 19 rfl rfl (by kernel_rfl) (by kernel_rfl) ((pop_nilCheck_raw rfl)) ?_
        refine ahp 20 rfl rfl (by kernel_rfl) (by kernel_rfl) ((pop_fieldAddr_raw ty93 rfl ty3 (by decide) rfl)) ?_
        refine ahe 21 rfl (by kernel_rfl) ?_
        refine hop_e0 (eop_store_arr (i := 1) (j := y123) (f := 8) (y := ePlay ⟨x.Source, x.No, x.At, x.Week, x.Match, x.Player, x.Stat, y211, x.Undo⟩) (y' := ePlay ⟨x.Source, x.No, x.At, x.Week, x.Match, x.Player, x.Stat, y211, y218⟩) ty3 rfl (by omega) rfl rfl (set_self (map_get hx)) rfl rfl (by simp [hcells]) rfl ?_)
        refine ⟨fun _ => .inr (by simp [Before, Region.binds]), ?_⟩
        refine ahz (by kernel_rfl) ?_
        refine blockQ_n ?_
        exact ⟨(out.set y123 ⟨x.Source, x.No, x.At, x.Week, x.Match, x.Player, x.Stat, y211, y218⟩, a3 + 4), ⟨by simp; omega, all_set (P := GoodPl1) g2 (by
         have hgx := g2 x (List.mem_of_getElem? hx)
         exact ⟨hgx.1, hgx.2.1, hgx.2.2.1, hgx.2.2.2⟩), by dsimp only; omega⟩, trivial, (by repeat (first | exact keeps_refl | refine keeps_upd rfl ?_ | refine keeps_loop rfl rfl ?_)), by repeat (first | exact List.Perm.nil | refine permTo 0 rfl ?_ | refine permTo 1 rfl ?_ | refine permTo 2 rfl ?_ | refine permTo 3 rfl ?_ | (refine permToE 0 rfl ?hq ?_; (case hq => simp [setL, hcells]; done)) | (refine permToE 1 rfl ?hq ?_; (case hq => simp [setL, hcells]; done)) | (refine permToE 2 rfl ?hq ?_; (case hq => simp [setL, hcells]; done)) | (refine permToE 3 rfl ?hq ?_; (case hq => simp [setL, hcells]; done)) | fail)⟩
       ·try simp at h18
        refine hw_draw1 (fun M => ∃ i : Nat, M[i]? = some (.arr (.slice (some ⟨ob, off, none⟩) (out.map ePlay).length cap) 9 (out.map ePlay))) [7, 14, 21] mixed ?_
        refine ahp 0 rfl rfl (by kernel_rfl) (by kernel_rfl) (pop_move rfl) ?_
        refine ahp 1 rfl rfl (by kernel_rfl) (by kernel_rfl) (pop_move rfl) ?_
        refine ahp 2 rfl rfl (by kernel_rfl) (by kernel_rfl) (pop_move rfl) ?_
        refine ahp 3 rfl rfl (by kernel_rfl) (by kernel_rfl) (pop_move rfl) ?_
        refine ahp 4 rfl rfl (by kernel_rfl) (by kernel_rfl) (pop_move rfl) ?_
        refine ahp 5 rfl rfl (by kernel_rfl) (by kernel_rfl) ((pop_nilCheck_raw rfl)) ?_
        refine ahp 6 rfl rfl (by kernel_rfl) (by kernel_rfl) ((pop_fieldAddr_raw ty93 rfl ty9 (by decide) rfl)) ?_
        refine ahl 7 rfl rfl (by kernel_rfl) (by kernel_rfl) (by simp) ⟨1, rfl⟩ (fun M hM => by obtain ⟨i, hi⟩ := hM; exact eop_load_el (i := i) (j := y123) 5 ty9 rfl (by omega) hi hx rfl rfl ⟨rfl, rfl⟩) ?_
        refine ahp 8 rfl rfl (by kernel_rfl) (by kernel_rfl) (pop_buildSlice (hs := [_, _]) ty28 ty9 rfl rfl (by decide) (by decide) rfl) ?_
        refine ahp 10 rfl rfl (by kernel_rfl) (by kernel_rfl) (pop_move rfl) ?_
        refine ahp 11 rfl rfl (by kernel_rfl) (by kernel_rfl) (pop_move rfl) ?_
        refine ahp 12 rfl rfl (by kernel_rfl) (by kernel_rfl) ((pop_nilCheck_raw rfl)) ?_
        refine ahp 13 rfl rfl (by kernel_rfl) (by kernel_rfl) ((pop_fieldAddr_raw ty93 rfl ty9 (by decide) rfl)) ?_
        refine ahl 14 rfl rfl (by kernel_rfl) (by kernel_rfl) (by simp) ⟨1, rfl⟩ (fun M hM => by obtain ⟨i, hi⟩ := hM; exact eop_load_el (i := i) (j := y123) 6 ty9 rfl (by omega) hi hx rfl rfl ⟨rfl, rfl⟩) ?_
        refine ahp 15 rfl rfl (by kernel_rfl) (by kernel_rfl) (pop_buildSlice (hs := [_, _]) ty28 ty9 rfl rfl (by decide) (by decide) rfl) ?_
        refine ahp 17 rfl rfl (by kernel_rfl) (by kernel_rfl) (pop_move rfl) ?_
        refine ahp 18 rfl rfl (by kernel_rfl) (by kernel_rfl) (pop_move rfl) ?_
        refine ahp 19 rfl rfl (by kernel_rfl) (by kernel_rfl) ((pop_nilCheck_raw rfl)) ?_
        refine ahp 20 rfl rfl (by kernel_rfl) (by kernel_rfl) ((pop_fieldAddr_raw ty93 rfl ty3 (by decide) rfl)) ?_
        refine ahl 21 rfl rfl (by kernel_rfl) (by kernel_rfl) (by simp) ⟨1, rfl⟩ (fun M hM => by obtain ⟨i, hi⟩ := hM; exact eop_load_el (i := i) (j := y123) 2 ty3 rfl (by omega) hi hx rfl rfl ⟨rfl, rfl⟩) ?_
        refine ahp 22 rfl rfl (by kernel_rfl) (by kernel_rfl) (pop_buildSlice (hs := [_, _]) ty22 ty3 rfl rfl (by decide) (by decide) rfl) ?_
        refine ahe 9 rfl (by kernel_rfl) ?_
        refine hop_e rfl (eop_callx (i := 0) ca11 rfl (WeakL.refl _) rfl (c_benchmake_Stream_Some (L := [_, _]) (by first | assumption | omega | (simp; omega) | simp_all) (by first | assumption | omega | (simp; omega) | simp_all) (by first | assumption | omega | (simp; omega) | simp_all)) ?_)
        rintro _ _ ⟨y136, rfl, hy136, rfl⟩
        refine ⟨fun _ => by first | exact .inl ⟨0, rfl⟩ | exact .inl ⟨1, rfl⟩ | exact .inl ⟨2, rfl⟩ | exact .inr (by simp [Before, Region.binds]), ?_⟩
        refine ahe 16 rfl (by kernel_rfl) ?_
        refine hop_e rfl (eop_callx (i := 0) ca11 rfl (WeakL.refl _) rfl (c_benchmake_Stream_Some (L := [_, _]) (by first | assumption | omega | (simp; omega) | simp_all) (by first | assumption | omega | (simp; omega) | simp_all) (by first | assumption | omega | (simp; omega) | simp_all)) ?_)
        rintro _ _ ⟨y143, rfl, hy143, rfl⟩
        refine ⟨fun _ => by first | exact .inl ⟨0, rfl⟩ | exact .inl ⟨1, rfl⟩ | exact .inl ⟨2, rfl⟩ | exact .inr (by simp [Before, Region.binds]), ?_⟩
        refine ahe 23 rfl (by kernel_rfl) ?_
        refine hop_e rfl (eop_callx (i := 0) ca9 rfl (WeakL.refl _) rfl (c_benchmake_Stream_Pick (L := [_, _]) (by first | assumption | omega | (simp; omega) | simp_all) (by first | assumption | omega | (simp; omega) | simp_all) (by first | assumption | omega | (simp; omega) | simp_all)) ?_)
        rintro _ _ ⟨y150, rfl, hy150, rfl⟩
        refine ⟨fun _ => by first | exact .inl ⟨0, rfl⟩ | exact .inl ⟨1, rfl⟩ | exact .inl ⟨2, rfl⟩ | exact .inr (by simp [Before, Region.binds]), ?_⟩
        refine ahp 24 rfl rfl (by kernel_rfl) (by kernel_rfl) ((pop_nilCheck_raw rfl)) ?_
        refine ahp 25 rfl rfl (by kernel_rfl) (by kernel_rfl) ((pop_fieldAddr_raw ty93 rfl ty9 (by decide) rfl)) ?_
        refine ahe 26 rfl (by kernel_rfl) ?_
        refine hop_e0 (eop_store_arr (i := 1) (j := y123) (f := 5) (y := ePlay x) (y' := ePlay ⟨x.Source, x.No, x.At, x.Week, x.Match, y136, x.Stat, x.Count, x.Undo⟩) ty9 rfl (by omega) rfl rfl (map_get hx) rfl rfl (by simp [hcells]) rfl ?_)
        refine ⟨fun _ => .inr (by simp [Before, Region.binds]), ?_⟩
        refine ahp 27 rfl rfl (by kernel_rfl) (by kernel_rfl) ((pop_nilCheck_raw rfl)) ?_
        refine ahp 28 rfl rfl (by kernel_rfl) (by kernel_rfl) ((pop_fieldAddr_raw ty93 rfl ty9 (by decide) rfl)) ?_
        refine ahe 29 rfl (by kernel_rfl) ?_
        refine hop_e0 (eop_store_arr (i := 1) (j := y123) (f := 6) (y := ePlay ⟨x.Source, x.No, x.At, x.Week, x.Match, y136, x.Stat, x.Count, x.Undo⟩) (y' := ePlay ⟨x.Source, x.No, x.At, x.Week, x.Match, y136, y143, x.Count, x.Undo⟩) ty9 rfl (by omega) rfl rfl (set_self (map_get hx)) rfl rfl (by simp [hcells]) rfl ?_)
        refine ⟨fun _ => .inr (by simp [Before, Region.binds]), ?_⟩
        refine ahp 30 rfl rfl (by kernel_rfl) (by kernel_rfl) ((pop_nilCheck_raw rfl)) ?_
        refine ahp 31 rfl rfl (by kernel_rfl) (by kernel_rfl) ((pop_fieldAddr_raw ty93 rfl ty3 (by decide) rfl)) ?_
        refine ahe 32 rfl (by kernel_rfl) ?_
        refine hop_e0 (eop_store_arr (i := 1) (j := y123) (f := 2) (y := ePlay ⟨x.Source, x.No, x.At, x.Week, x.Match, y136, y143, x.Count, x.Undo⟩) (y' := ePlay ⟨x.Source, x.No, y150, x.Week, x.Match, y136, y143, x.Count, x.Undo⟩) ty3 rfl (by omega) rfl rfl (set_self (set_self (map_get hx))) rfl rfl (by simp [hcells]) rfl ?_)
        refine ⟨fun _ => .inr (by simp [Before, Region.binds]), ?_⟩
        refine ahz (by kernel_rfl) ?_
        refine blockQ_n ?_
        exact ⟨(out.set y123 ⟨x.Source, x.No, y150, x.Week, x.Match, y136, y143, x.Count, x.Undo⟩, a3 + 5), ⟨by simp; omega, all_set (P := GoodPl1) g2 (by
         have hgx := g2 x (List.mem_of_getElem? hx)
         exact ⟨hgx.1, hgx.2.1, by simp at hy136; rcases hy136 with rfl | rfl; exact hgx.2.2.1; (unfold Sh; simp), by simp at hy143; rcases hy143 with rfl | rfl; exact hgx.2.2.2; exact nil_sh⟩), by dsimp only; omega⟩, trivial, (by repeat (first | exact keeps_refl | refine keeps_upd rfl ?_ | refine keeps_loop rfl rfl ?_)), by repeat (first | exact List.Perm.nil | refine permTo 0 rfl ?_ | refine permTo 1 rfl ?_ | refine permTo 2 rfl ?_ | refine permTo 3 rfl ?_ | (refine permToE 0 rfl ?hq ?_; (case hq => simp [setL, hcells]; done)) | (refine permToE 1 rfl ?hq ?_; (case hq => simp [setL, hcells]; done)) | (refine permToE 2 rfl ?hq ?_; (case hq => simp [setL, hcells]; done)) | (refine permToE 3 rfl ?hq ?_; (case hq => simp [setL, hcells]; done)) | fail)⟩
    ·try simp at h12
     refine hw_skip ?_
     exact ⟨(out, a3), ⟨by dsimp only; omega, g2, by dsimp only; omega⟩, trivial, (by repeat (first | exact keeps_refl | refine keeps_upd rfl ?_ | refine keeps_loop rfl rfl ?_)), by repeat (first | exact List.Perm.nil | refine permTo 0 rfl ?_ | refine permTo 1 rfl ?_ | refine permTo 2 rfl ?_ | refine permTo 3 rfl ?_ | (refine permToE 0 rfl ?hq ?_; (case hq => simp [setL, hcells]; done)) | (refine permToE 1 rfl ?hq ?_; (case hq => simp [setL, hcells]; done)) | (refine permToE 2 rfl ?hq ?_; (case hq => simp [setL, hcells]; done)) | (refine permToE 3 rfl ?hq ?_; (case hq => simp [setL, hcells]; done)) | fail)⟩
   ·intro q5 hq5
    obtain ⟨k1, a4⟩ := q5
    dsimp only at hq5
    obtain ⟨q1, q2, q3⟩ := hq5
    refine hw_reg ?_
    refine dp rfl (pop_move rfl) ?_
    refine dp rfl (pop_assign rfl) ?_
    refine dn ?_
    refine hw_ret ?_
    exact ret_g (Ghost.fa 2 (i := 1) rfl rfl) rfl ⟨k1, a4, rfl, ⟨by omega, q2⟩, by omega, rfl⟩

end Go.Proofs.YtihpgpbbpklbbaaGreatDoor
end
section
namespace Go.Proofs.YtihpgpbbpklbbaaGreatDoor
open Go.HL
set_option maxRecDepth 100000
set_option linter.unusedVariables false
set_option linter.unusedSimpArgs false
end Go.Proofs.YtihpgpbbpklbbaaGreatDoor
end
section
namespace Go.Proofs.YtihpgpbbpklbbaaGreatDoor
open Go.HL
set_option maxRecDepth 100000
set_option linter.unusedVariables false
set_option linter.unusedSimpArgs false
end Go.Proofs.YtihpgpbbpklbbaaGreatDoor
end
section
namespace Go.Proofs.YtihpgpbbpklbbaaGreatDoor
open Go.HL
set_option maxRecDepth 100000
set_option linter.unusedVariables false
set_option linter.unusedSimpArgs false
end Go.Proofs.YtihpgpbbpklbbaaGreatDoor
end
section
namespace Go.Proofs.YtihpgpbbpklbbaaGreatDoor
open Go.HL
set_option maxRecDepth 100000
set_option linter.unusedVariables false
set_option linter.unusedSimpArgs false
end Go.Proofs.YtihpgpbbpklbbaaGreatDoor
end
section
namespace Go.Proofs.YtihpgpbbpklbbaaGreatDoor
open Go.HL
set_option maxRecDepth 100000
set_option linter.unusedVariables false
set_option linter.unusedSimpArgs false
end Go.Proofs.YtihpgpbbpklbbaaGreatDoor
end
section
namespace Go.Proofs.YtihpgpbbpklbbaaGreatDoor
open Go.HL
set_option maxRecDepth 100000
set_option linter.unusedVariables false
set_option linter.unusedSimpArgs false
end Go.Proofs.YtihpgpbbpklbbaaGreatDoor
end
section
namespace Go.Proofs.YtihpgpbbpklbbaaGreatDoor
open Go.HL
set_option maxRecDepth 100000
set_option linter.unusedVariables false
set_option linter.unusedSimpArgs false

end Go.Proofs.YtihpgpbbpklbbaaGreatDoor
end
section
namespace Go.Proofs.YtihpgpbbpklbbaaGreatDoor
open Go.HL
set_option maxRecDepth 100000
set_option linter.unusedVariables false
set_option linter.unusedSimpArgs false
end Go.Proofs.YtihpgpbbpklbbaaGreatDoor
end
section
namespace Go.Proofs.YtihpgpbbpklbbaaGreatDoor
open Go.HL
set_option maxRecDepth 100000
set_option linter.unusedVariables false
set_option linter.unusedSimpArgs false
end Go.Proofs.YtihpgpbbpklbbaaGreatDoor
end
section
namespace Go.Proofs.YtihpgpbbpklbbaaGreatDoor
open Go.HL
set_option maxRecDepth 100000
set_option linter.unusedVariables false
set_option linter.unusedSimpArgs false

end Go.Proofs.YtihpgpbbpklbbaaGreatDoor
end
section
namespace Go.Proofs.YtihpgpbbpklbbaaGreatDoor
open Go.HL
set_option maxRecDepth 100000
set_option linter.unusedVariables false
set_option linter.unusedSimpArgs false
end Go.Proofs.YtihpgpbbpklbbaaGreatDoor
end
section
namespace Go.Proofs.YtihpgpbbpklbbaaGreatDoor
open Go.HL
set_option maxRecDepth 100000
set_option linter.unusedVariables false
set_option linter.unusedSimpArgs false
/-- slices.Equal[[]benchwarmer/api.Stat,benchwarmer/api.Stat] -/
theorem c_slices_Equal_api_Stat_api_Stat [Tracks] {l m : List StatS} (hl : l.length ≤ 1000000) : ConP Tryz.prog 84 [eStats l, eStats m] (.bool (eqSts eStat l m)) := by
 refine Con.of_body Tryz.func84 rfl Tryz.ntmps84 rfl rfl ?_
 refine hw_reg ?_
 refine dp rfl (pop_assign rfl) ?_
 refine dn ?_
 refine hw_seq ?_
 refine hw_reg ?_
 refine dp rfl (pop_move rfl) ?_
 refine dp rfl (pop_lenm ty54 rfl) ?_
 refine dp rfl (pop_move rfl) ?_
 refine dp rfl (pop_lenm ty54 rfl) ?_
 refine dp rfl (pop_neq rfl rfl) ?_
 refine dn ?_
 refine hw_cond rfl (fun h1 => ?_) (fun h2 => ?_)
 ·try simp at h1
  refine hw_reg ?_
  refine dp rfl (pop_assign rfl) ?_
  refine dn ?_
  refine hw_ret ?_
  refine ret_p rfl ?_
  show HVal.bool _ = _
  (congr 1; symm; exact eqSts_len (by omega))
 ·try simp at h2
  refine hw_skip ?_
  refine seqQ_n ?_
  refine hw_seq ?_
  refine hw_reg ?_
  refine dp rfl (pop_move rfl) ?_
  refine dp rfl (pop_lenm ty54 rfl) ?_
  refine dp rfl (pop_move rfl) ?_
  refine dn ?_
  refine hw_block ?_
  refine hw_loopw [4, 5, 13, 14, 15, 16, 17, 18, 19, 20, 21, 22, 23, 24, 25] (fun (k : Nat) => [(13, .int .i64 k)]) (fun (k : Nat) => []) (fun (k : Nat) => k ≤ l.length ∧ (l.length = m.length ∧ eqSts eStat l m = eqSts eStat (l.drop k) (m.drop k))) (fun (k : Nat) => l.length - k) (0) ?_ ?_ ?_ ?_
  ·refine ⟨Nat.zero_le _, ?_, rfl⟩
   omega
  ·exact ⟨rfl, trivial⟩
  ·exact List.Perm.refl _
  ·intro k hinv
   obtain ⟨hk, hg⟩ := hinv
   refine hw_reg ?_
   refine dp rfl (pop_lss rfl rfl) ?_
   refine dn ?_
   refine hw_seq ?_
   refine hw_cond rfl (fun h3 => ?_) (fun h4 => ?_)
   ·try simp at h3
    obtain ⟨x, hx⟩ : ∃ x, l[k]? = some x := ⟨_, List.getElem?_eq_getElem h3⟩
    have hdx := drop_cons hx
    obtain ⟨y, hy⟩ : ∃ y, m[k]? = some y := ⟨_, List.getElem?_eq_getElem (by omega)⟩
    rw [hdx, drop_cons hy] at hg
    refine hw_skip ?_
    refine seqQ_n ?_
    refine hw_seq ?_
    refine hw_block ?_
    refine hw_reg ?_
    refine dp rfl (pop_move rfl) ?_
    refine dp rfl (pop_assign rfl) ?_
    refine dn ?_
    refine hw_draw (fun _ => True) [] mixed ?_
    refine ahp 0 rfl rfl (by kernel_rfl) (by kernel_rfl) (pop_move rfl) ?_
    refine ahp 1 rfl rfl (by kernel_rfl) (by kernel_rfl) (pop_move rfl) ?_
    refine ahp 2 rfl rfl (by kernel_rfl) (by kernel_rfl) (pop_idx ty54 ty144 rfl rfl rfl (by assumption)) ?_
    refine ahp 3 rfl rfl (by kernel_rfl) (by kernel_rfl) (pop_loadw ty144 rfl rfl rfl rfl) ?_
    refine ahp 4 rfl rfl (by kernel_rfl) (by kernel_rfl) (pop_move rfl) ?_
    refine ahp 5 rfl rfl (by kernel_rfl) (by kernel_rfl) (pop_move rfl) ?_
    refine ahp 6 rfl rfl (by kernel_rfl) (by kernel_rfl) (pop_idx ty54 ty144 rfl rfl rfl (by assumption)) ?_
    refine ahp 7 rfl rfl (by kernel_rfl) (by kernel_rfl) (pop_loadw ty144 rfl rfl rfl rfl) ?_
    refine ahp 8 rfl rfl (by kernel_rfl) (by kernel_rfl) (pop_neqst ty144 eq144 rfl rfl ⟨rfl, ⟨_, _, _, _, ty9, rfl⟩, ⟨rfl, ⟨_, _, _, _, ty3, rfl⟩, trivial⟩⟩) ?_
    refine ahz (by kernel_rfl) ?_
    refine hw_cond rfl (fun h5 => ?_) (fun h6 => ?_)
    ·try simp at h5
     refine hw_reg ?_
     refine dp rfl (pop_assign rfl) ?_
     refine dn ?_
     refine hw_ret ?_
     refine ret_p rfl ?_
     show HVal.bool _ = _
     (rw [hg.2, eqSts, show eqSt eStat x y = false from h5]; rfl)
    ·try simp at h6
     refine hw_skip ?_
     refine blockQ_n ?_
     refine seqQ_n ?_
     refine hw_reg1 ?_
     refine dp rfl (pop_add64 rfl rfl (by omega) (by omega)) ?_
     refine dp rfl (pop_move rfl) ?_
     refine dn ?_
     refine ⟨k + 1, ?_, ?_, ⟨rfl, trivial⟩, (by repeat (first | exact keeps_refl | refine keeps_upd rfl ?_ | refine keeps_loop rfl rfl ?_)), List.Perm.refl _⟩
     ·refine ⟨by omega, hg.1, ?_⟩
      rw [hg.2, eqSts, show eqSt eStat x y = true from h6]; rfl
     ·dsimp only; omega
   ·try simp at h4
    have hnk : l.length ≤ k := by omega
    obtain rfl : k = l.length := by omega
    rw [drop_all (Nat.le_refl _)] at hg
    refine hw_exit ?_
    refine seqQ_x ?_
    refine loopQ_x ?_
    refine blockQ_eq ?_
    refine seqQ_n ?_
    refine hw_reg ?_
    refine dp rfl (pop_assign rfl) ?_
    refine dn ?_
    refine hw_ret ?_
    refine ret_p rfl ?_
    show HVal.bool _ = _
    (rw [hg.2, drop_all (Nat.le_of_eq hg.1.symm)]; rfl)

/-- benchwarmer/benchref1.byLine -/
theorem c_benchref1_byLine [Tracks] {a b : LineS}  : ConP Tryz.prog 83 [eLine a, eLine b] (.int .i64 (byLn a b)) := by
 refine Con.of_body Tryz.func83 rfl Tryz.ntmps83 rfl rfl ?_
 refine hw_reg ?_
 refine dp rfl (pop_box rfl rfl) ?_
 refine dp rfl (pop_box rfl rfl) ?_
 refine dp rfl (pop_assign rfl) ?_
 refine dn ?_
 refine hw_draw (fun _ => True) [] mixed ?_
 refine ahp 0 rfl rfl (by kernel_rfl) (by kernel_rfl) (pop_fieldAddr ty56 rfl ty9 (by decide) rfl) ?_
 refine ahp 1 rfl rfl (by kernel_rfl) (by kernel_rfl) (pop_load ty9 rfl rfl rfl) ?_
 refine ahp 2 rfl rfl (by kernel_rfl) (by kernel_rfl) (pop_fieldAddr ty56 rfl ty9 (by decide) rfl) ?_
 refine ahp 3 rfl rfl (by kernel_rfl) (by kernel_rfl) (pop_load ty9 rfl rfl rfl) ?_
 refine ahp 4 rfl rfl (by kernel_rfl) (by kernel_rfl) (pop_call ca81 rfl (WeakL.refl _) c_strings_Compare) ?_
 refine ahp 5 rfl rfl (by kernel_rfl) (by kernel_rfl) (pop_fieldAddr ty56 rfl ty3 (by decide) rfl) ?_
 refine ahp 6 rfl rfl (by kernel_rfl) (by kernel_rfl) (pop_load ty3 rfl rfl rfl) ?_
 refine ahp 7 rfl rfl (by kernel_rfl) (by kernel_rfl) (pop_fieldAddr ty56 rfl ty3 (by decide) rfl) ?_
 refine ahp 8 rfl rfl (by kernel_rfl) (by kernel_rfl) (pop_load ty3 rfl rfl rfl) ?_
 refine ahp 9 rfl rfl (by kernel_rfl) (by kernel_rfl) (pop_call ca108 rfl (WeakL.refl _) c_cmp_Compare_int) ?_
 refine ahp 10 rfl rfl (by kernel_rfl) (by kernel_rfl) (pop_buildSlice (hs := [_, _]) ty22 ty3 rfl rfl (by decide) (by decide) rfl) ?_
 refine ahp 11 rfl rfl (by kernel_rfl) (by kernel_rfl) (pop_call ca80 rfl (WeakL.refl _) (c_cmp_Or_int (l := [_, _]) (by simp))) ?_
 refine ahp 12 rfl rfl (by kernel_rfl) (by kernel_rfl) (pop_assign rfl) ?_
 refine ahz (by kernel_rfl) ?_
 refine hw_ret ?_
 refine ret_p rfl ?_
 rfl

/-- benchwarmer/benchref1.SameLine -/
theorem c_benchref1_SameLine [Tracks] {x : LineS} (hs : x.Stats.length ≤ 1000000) : ConP Tryz.prog 27 [eLine x, eLine x] (.bool true) := by
 refine Con.of_body Tryz.func27 rfl Tryz.ntmps27 rfl rfl ?_
 refine hw_reg ?_
 refine dp rfl (pop_box rfl rfl) ?_
 refine dp rfl (pop_box rfl rfl) ?_
 refine dp rfl (pop_assign rfl) ?_
 refine dn ?_
 refine hw_reg ?_
 refine dp rfl (pop_loadw ty56 rfl rfl rfl rfl) ?_
 refine dp rfl (pop_loadw ty56 rfl rfl rfl rfl) ?_
 refine dp rfl (pop_call ca83 rfl (WeakL.refl _) c_benchref1_byLine) ?_
 refine dp rfl (pop_eql rfl rfl) ?_
 refine dp rfl (pop_move rfl) ?_
 refine dg rfl rfl (fun hc => ⟨_, OpenTo.refl _, pop_fieldAddr ty56 rfl ty54 (by decide) rfl⟩) ?_
 refine dg rfl rfl (fun hc => ⟨_, OpenTo.upd (t := 10) rfl (hc) (OpenTo.refl _), pop_load ty54 rfl rfl rfl⟩) ?_
 refine dg rfl rfl (fun hc => ⟨_, OpenTo.refl _, pop_fieldAddr ty56 rfl ty54 (by decide) rfl⟩) ?_
 refine dg rfl rfl (fun hc => ⟨_, OpenTo.upd (t := 12) rfl (hc) (OpenTo.refl _), pop_load ty54 rfl rfl rfl⟩) ?_
 refine dg rfl rfl (fun hc => ⟨_, OpenTo.upd (t := 13) rfl (hc) (OpenTo.upd (t := 11) rfl (hc) (OpenTo.refl _)), pop_call ca84 rfl (WeakL.refl _) (c_slices_Equal_api_Stat_api_Stat (l := x.Stats) (m := x.Stats) hs)⟩) ?_
 refine dp rfl (pop_picko rfl (.inr ⟨_, rfl, fun h => by simp_all⟩) (.inl rfl)) ?_
 refine dp rfl (pop_assign rfl) ?_
 refine dn ?_
 refine hw_ret ?_
 refine ret_p rfl ?_
 show HVal.bool _ = _
 simp [byLn_refl, eqStats_refl]

/-- slices.EqualFunc[[]benchwarmer/api.Line,[]benchwarmer/api.Line,benchwarmer/api.Line,benchwarmer/api.Line] -/
theorem c_EqualFunc_Line [Tracks] {l : List LineS} (hl : l.length ≤ 1000000) (hs : ∀ y ∈ l, y.Stats.length ≤ 1000000) : ConP Tryz.prog 26 [eLines l, eLines l, .fn (.func 27) [] []] (.bool true) := by
 refine Con.of_body Tryz.func26 rfl Tryz.ntmps26 rfl rfl ?_
 refine hw_reg ?_
 refine dp rfl (pop_assign rfl) ?_
 refine dn ?_
 refine hw_seq ?_
 refine hw_reg ?_
 refine dp rfl (pop_move rfl) ?_
 refine dp rfl (pop_lenm ty39 rfl) ?_
 refine dp rfl (pop_move rfl) ?_
 refine dp rfl (pop_lenm ty39 rfl) ?_
 refine dp rfl (pop_neq rfl rfl) ?_
 refine dn ?_
 refine hw_cond rfl (fun h1 => ?_) (fun h1 => ?_)
 ·exfalso
  try simp at h1
  done
 ·try simp at h1
  refine hw_skip ?_
  refine seqQ_n ?_
  refine hw_seq ?_
  refine hw_reg ?_
  refine dp rfl (pop_move rfl) ?_
  refine dp rfl (pop_lenm ty39 rfl) ?_
  refine dp rfl (pop_move rfl) ?_
  refine dn ?_
  refine hw_block ?_
  refine hw_loopw [6, 7, 8, 9, 17, 18, 19, 20, 21, 22, 23, 24, 25, 26, 27, 28, 29, 30, 31] (fun (k : Nat) => [(17, .int .i64 k)]) (fun (k : Nat) => []) (fun (k : Nat) => k ≤ l.length ∧ (True)) (fun (k : Nat) => l.length - k) (0) ?_ ?_ ?_ ?_
  ·exact ⟨Nat.zero_le _, trivial⟩
  ·exact ⟨rfl, trivial⟩
  ·exact List.Perm.refl _
  ·intro k hinv
   obtain ⟨hk, -⟩ := hinv
   refine hw_reg ?_
   refine dp rfl (pop_lss rfl rfl) ?_
   refine dn ?_
   refine hw_seq ?_
   refine hw_cond rfl (fun h2 => ?_) (fun h3 => ?_)
   ·try simp at h2
    obtain ⟨x, hx⟩ : ∃ x, l[k]? = some x := ⟨_, List.getElem?_eq_getElem h2⟩
    have hdx := drop_cons hx
    refine hw_skip ?_
    refine seqQ_n ?_
    refine hw_seq ?_
    refine hw_block ?_
    refine hw_reg ?_
    refine dp rfl (pop_move rfl) ?_
    refine dp rfl (pop_idx ty39 ty56 rfl rfl rfl (by assumption)) ?_
    refine dp rfl (pop_loadw ty56 rfl rfl rfl rfl) ?_
    refine de rfl (eop_alloc ty56 rfl fun b8 => ?_)
    refine dp rfl (pop_assign rfl) ?_
    refine de0 (eop_storew ty56 rfl rfl rfl rfl rfl ?_)
    refine dn ?_
    refine hw_ghost (Ghost.fc0 8 rfl) ?_
    refine hw_reg ?_
    refine dp rfl (pop_move rfl) ?_
    refine dp rfl (pop_move rfl) ?_
    refine dp rfl (pop_idx (j := k) (a := x) ty39 ty56 rfl rfl rfl hx) ?_
    refine dp rfl (pop_loadw ty56 rfl rfl rfl rfl) ?_
    refine de rfl (eop_alloc ty56 rfl fun b9 => ?_)
    refine de0 (eop_storew ty56 rfl rfl rfl rfl rfl ?_)
    refine dn ?_
    refine hw_ghost (Ghost.fc0 9 rfl) ?_
    refine hw_reg ?_
    refine dp rfl (pop_move rfl) ?_
    refine dp rfl (pop_loadw ty56 rfl rfl rfl rfl) ?_
    refine dp rfl (pop_loadw ty56 rfl rfl rfl rfl) ?_
    refine dp rfl (pop_callv ca27 rfl rfl (WeakL.refl _) (c_benchref1_SameLine (hs x (List.mem_of_getElem? hx)))) ?_
    refine dp rfl (pop_not rfl) ?_
    refine dn ?_
    refine hw_cond rfl (fun h4 => ?_) (fun h4 => ?_)
    ·exfalso
     try simp at h4
     done
    ·try simp at h4
     refine hw_skip ?_
     refine blockQ_n ?_
     refine seqQ_n ?_
     refine hw_reg1 ?_
     refine dp rfl (pop_add64 rfl rfl (by omega) (by omega)) ?_
     refine dp rfl (pop_move rfl) ?_
     refine dn ?_
     refine ⟨k + 1, ?_, ?_, ⟨rfl, trivial⟩, (by repeat (first | exact keeps_refl | refine keeps_upd rfl ?_ | refine keeps_loop rfl rfl ?_)), List.Perm.refl _⟩
     ·exact ⟨by omega, trivial⟩
     ·dsimp only; omega
   ·try simp at h3
    have hnk : l.length ≤ k := by omega
    obtain rfl : k = l.length := by omega
    refine hw_exit ?_
    refine seqQ_x ?_
    refine loopQ_x ?_
    refine blockQ_eq ?_
    refine seqQ_n ?_
    refine hw_reg ?_
    refine dp rfl (pop_assign rfl) ?_
    refine dn ?_
    refine hw_ret ?_
    refine ret_p rfl ?_
    rfl
end Go.Proofs.YtihpgpbbpklbbaaGreatDoor
end
section
namespace Go.Proofs.YtihpgpbbpklbbaaGreatDoor
open Go.HL
set_option maxRecDepth 100000
set_option linter.unusedVariables false
set_option linter.unusedSimpArgs false
/-- slices.Equal[[]benchwarmer/api.Apart,benchwarmer/api.Apart] -/
theorem c_slices_Equal_api_Apart_api_Apart [Tracks] {l m : List ApartS} (hl : l.length ≤ 1000000) : ConP Tryz.prog 28 [eAparts l, eAparts m] (.bool (eqSts eApart l m)) := by
 refine Con.of_body Tryz.func28 rfl Tryz.ntmps28 rfl rfl ?_
 refine hw_reg ?_
 refine dp rfl (pop_assign rfl) ?_
 refine dn ?_
 refine hw_seq ?_
 refine hw_reg ?_
 refine dp rfl (pop_move rfl) ?_
 refine dp rfl (pop_lenm ty42 rfl) ?_
 refine dp rfl (pop_move rfl) ?_
 refine dp rfl (pop_lenm ty42 rfl) ?_
 refine dp rfl (pop_neq rfl rfl) ?_
 refine dn ?_
 refine hw_cond rfl (fun h1 => ?_) (fun h2 => ?_)
 ·try simp at h1
  refine hw_reg ?_
  refine dp rfl (pop_assign rfl) ?_
  refine dn ?_
  refine hw_ret ?_
  refine ret_p rfl ?_
  show HVal.bool _ = _
  (congr 1; symm; exact eqSts_len (by omega))
 ·try simp at h2
  refine hw_skip ?_
  refine seqQ_n ?_
  refine hw_seq ?_
  refine hw_reg ?_
  refine dp rfl (pop_move rfl) ?_
  refine dp rfl (pop_lenm ty42 rfl) ?_
  refine dp rfl (pop_move rfl) ?_
  refine dn ?_
  refine hw_block ?_
  refine hw_loopw [4, 5, 13, 14, 15, 16, 17, 18, 19, 20, 21, 22, 23, 24, 25] (fun (k : Nat) => [(13, .int .i64 k)]) (fun (k : Nat) => []) (fun (k : Nat) => k ≤ l.length ∧ (l.length = m.length ∧ eqSts eApart l m = eqSts eApart (l.drop k) (m.drop k))) (fun (k : Nat) => l.length - k) (0) ?_ ?_ ?_ ?_
  ·refine ⟨Nat.zero_le _, ?_, rfl⟩
   omega
  ·exact ⟨rfl, trivial⟩
  ·exact List.Perm.refl _
  ·intro k hinv
   obtain ⟨hk, hg⟩ := hinv
   refine hw_reg ?_
   refine dp rfl (pop_lss rfl rfl) ?_
   refine dn ?_
   refine hw_seq ?_
   refine hw_cond rfl (fun h3 => ?_) (fun h4 => ?_)
   ·try simp at h3
    obtain ⟨x, hx⟩ : ∃ x, l[k]? = some x := ⟨_, List.getElem?_eq_getElem h3⟩
    have hdx := drop_cons hx
    obtain ⟨y, hy⟩ : ∃ y, m[k]? = some y := ⟨_, List.getElem?_eq_getElem (by omega)⟩
    rw [hdx, drop_cons hy] at hg
    refine hw_skip ?_
    refine seqQ_n ?_
    refine hw_seq ?_
    refine hw_block ?_
    refine hw_reg ?_
    refine dp rfl (pop_move rfl) ?_
    refine dp rfl (pop_assign rfl) ?_
    refine dn ?_
    refine hw_draw (fun _ => True) [] mixed ?_
    refine ahp 0 rfl rfl (by kernel_rfl) (by kernel_rfl) (pop_move rfl) ?_
    refine ahp 1 rfl rfl (by kernel_rfl) (by kernel_rfl) (pop_move rfl) ?_
    refine ahp 2 rfl rfl (by kernel_rfl) (by kernel_rfl) (pop_idx ty42 ty60 rfl rfl rfl (by assumption)) ?_
    refine ahp 3 rfl rfl (by kernel_rfl) (by kernel_rfl) (pop_loadw ty60 rfl rfl rfl rfl) ?_
    refine ahp 4 rfl rfl (by kernel_rfl) (by kernel_rfl) (pop_move rfl) ?_
    refine ahp 5 rfl rfl (by kernel_rfl) (by kernel_rfl) (pop_move rfl) ?_
    refine ahp 6 rfl rfl (by kernel_rfl) (by kernel_rfl) (pop_idx ty42 ty60 rfl rfl rfl (by assumption)) ?_
    refine ahp 7 rfl rfl (by kernel_rfl) (by kernel_rfl) (pop_loadw ty60 rfl rfl rfl rfl) ?_
    refine ahp 8 rfl rfl (by kernel_rfl) (by kernel_rfl) (pop_neqst ty60 eq60 rfl rfl ⟨rfl, ⟨_, _, _, _, ty9, rfl⟩, ⟨rfl, ⟨_, _, _, _, ty9, rfl⟩, ⟨rfl, ⟨_, _, _, _, ty9, rfl⟩, ⟨rfl, ⟨_, _, _, _, ty9, rfl⟩, ⟨rfl, ⟨_, _, _, _, ty9, rfl⟩, ⟨rfl, ⟨_, _, _, _, ty3, rfl⟩, ⟨rfl, ⟨_, _, _, _, ty3, rfl⟩, trivial⟩⟩⟩⟩⟩⟩⟩) ?_
    refine ahz (by kernel_rfl) ?_
    refine hw_cond rfl (fun h5 => ?_) (fun h6 => ?_)
    ·try simp at h5
     refine hw_reg ?_
     refine dp rfl (pop_assign rfl) ?_
     refine dn ?_
     refine hw_ret ?_
     refine ret_p rfl ?_
     show HVal.bool _ = _
     (rw [hg.2, eqSts, show eqSt eApart x y = false from h5]; rfl)
    ·try simp at h6
     refine hw_skip ?_
     refine blockQ_n ?_
     refine seqQ_n ?_
     refine hw_reg1 ?_
     refine dp rfl (pop_add64 rfl rfl (by omega) (by omega)) ?_
     refine dp rfl (pop_move rfl) ?_
     refine dn ?_
     refine ⟨k + 1, ?_, ?_, ⟨rfl, trivial⟩, (by repeat (first | exact keeps_refl | refine keeps_upd rfl ?_ | refine keeps_loop rfl rfl ?_)), List.Perm.refl _⟩
     ·refine ⟨by omega, hg.1, ?_⟩
      rw [hg.2, eqSts, show eqSt eApart x y = true from h6]; rfl
     ·dsimp only; omega
   ·try simp at h4
    have hnk : l.length ≤ k := by omega
    obtain rfl : k = l.length := by omega
    rw [drop_all (Nat.le_refl _)] at hg
    refine hw_exit ?_
    refine seqQ_x ?_
    refine loopQ_x ?_
    refine blockQ_eq ?_
    refine seqQ_n ?_
    refine hw_reg ?_
    refine dp rfl (pop_assign rfl) ?_
    refine dn ?_
    refine hw_ret ?_
    refine ret_p rfl ?_
    show HVal.bool _ = _
    (rw [hg.2, drop_all (Nat.le_of_eq hg.1.symm)]; rfl)

/-- benchwarmer/benchlaw1.played -/
theorem c_benchlaw1_played [Tracks]  (hT : Tracks.on = false) : ConP Tryz.prog 29 [] (.bool true) := by
 refine Con.of_body Tryz.func29 rfl Tryz.ntmps29 rfl rfl ?_
 refine hw_reg ?_
 refine dp rfl (pop_assign rfl) ?_
 refine dn ?_
 refine hw_reg ?_
 refine dp rfl (pop_build (cs := [_, _, _, _, _, _, _, _, _]) ty93 pl93 rfl) ?_
 refine dp rfl (pop_buildSlice (hs := [_]) ty26 ty93 rfl rfl (by decide) (by decide) rfl) ?_
 refine dp rfl (pop_buildSlice (hs := [_]) ty28 ty9 rfl rfl (by decide) (by decide) rfl) ?_
 refine dp rfl (pop_call (hs' := [ePlays [play1], eSs [[115]], .int .i64 1, .int .i64 5]) ca16 rfl (WeakL.refl _) (c_play_Lines hT (by decide) (by decide))) ?_
 refine dp rfl (pop_move rfl) ?_
 refine dp rfl (pop_extract rfl rfl) ?_
 refine dp rfl (pop_extract rfl rfl) ?_
 refine dp rfl (pop_assign rfl) ?_
 refine dp rfl (pop_assign rfl) ?_
 refine dn ?_
 simp only [ready_E, ready_L]
 refine hw_reg ?_
 refine dp rfl (pop_move rfl) ?_
 refine dp rfl (pop_eql rfl rfl) ?_
 refine dp rfl (pop_move rfl) ?_
 refine dg rfl rfl (fun hc => ⟨_, OpenTo.refl _, pop_move rfl⟩) ?_
 refine dg rfl rfl (fun hc => ⟨_, OpenTo.upd (t := 13) rfl (hc) (OpenTo.refl _), pop_lenm ty39 rfl⟩) ?_
 refine dg rfl rfl (fun hc => ⟨_, OpenTo.upd (t := 14) rfl (hc) (OpenTo.refl _), pop_eql rfl rfl⟩) ?_
 refine dp rfl (pop_picko rfl (.inr ⟨_, rfl, fun h => by simp_all⟩) (.inl rfl)) ?_
 refine dp rfl (pop_move rfl) ?_
 refine dg rfl rfl (fun hc => ⟨_, OpenTo.refl _, pop_move rfl⟩) ?_
 refine dg rfl rfl (fun hc => ⟨_, OpenTo.upd (t := 18) rfl (hc) (OpenTo.refl _), pop_idx (j := 0) (a := line1) ty39 ty56 rfl rfl rfl rfl⟩) ?_
 refine dg rfl rfl (fun hc => ⟨_, OpenTo.upd (t := 19) rfl (hc) (OpenTo.refl _), pop_loadw ty56 rfl rfl rfl rfl⟩) ?_
 refine dg rfl rfl (fun hc => ⟨_, OpenTo.refl _, pop_build (cs := [_, _]) ty144 pl144 rfl⟩) ?_
 refine dg rfl rfl (fun hc => ⟨_, OpenTo.upd (t := 21) rfl (hc) (OpenTo.refl _), pop_buildSlice (hs := [_]) ty54 ty144 rfl rfl (by decide) (by decide) rfl⟩) ?_
 refine dg rfl rfl (fun hc => ⟨_, OpenTo.upd (t := 22) rfl (hc) (OpenTo.refl _), pop_build (cs := [_, _, _]) ty56 pl56 rfl⟩) ?_
 refine dg rfl rfl (fun hc => ⟨_, OpenTo.upd (t := 23) rfl (hc) (OpenTo.upd (t := 20) rfl (hc) (OpenTo.refl _)), pop_call ca27 rfl (WeakL.refl _) (c_benchref1_SameLine (x := line1) (by decide))⟩) ?_
 refine dp rfl (pop_picko rfl (.inr ⟨_, rfl, fun h => by simp_all⟩) (.inl rfl)) ?_
 refine dp rfl (pop_assign rfl) ?_
 refine dn ?_
 refine hw_ret ?_
 refine ret_p rfl ?_
 rfl

set_option maxHeartbeats 2000000 in
/-- benchwarmer/benchlaw1.LinesMade -/
theorem c_benchlaw1_LinesMade [Tracks] {l : List Int} (hT : Tracks.on = false) : ConP Tryz.prog 3 [.slice 1 (l.map (.int .i64))] (.bool true) := by
 refine Con.of_body Tryz.func3 rfl Tryz.ntmps3 rfl rfl ?_
 refine hw_reg ?_
 refine dp rfl (pop_assign rfl) ?_
 refine dn ?_
 refine hw_reg ?_
 refine dp rfl (pop_move rfl) ?_
 refine dp rfl (pop_build (cs := [_, _]) ty25 pl25 rfl) ?_
 refine de rfl (eop_box rfl rfl fun b => ?_)
 refine dghost (M' := [St b l 0]) rfl ?_
 refine dp rfl (pop_assign rfl) ?_
 refine dn ?_
 refine hw_reg ?_
 refine dp rfl (pop_move rfl) ?_
 refine de rfl (eop_callx (i := 0) ca7 rfl (WeakL.refl _) rfl (c_benchmake_Stream_Told (by first | assumption | omega | (simp; omega) | simp_all)) ?_)
 rintro _ _ ⟨p27, a27, rfl, hp27, ha27, rfl⟩
 refine dp rfl (pop_move rfl) ?_
 refine de rfl (eop_callx (i := 0) ca8 rfl (WeakL.refl _) rfl (c_benchmake_Stream_Trusted (by first | assumption | omega | (simp; omega) | simp_all)) ?_)
 rintro _ _ ⟨t29, a29, rfl, ht29, ha29, rfl⟩
 refine dp rfl (pop_move rfl) ?_
 refine dp rfl (pop_buildSlice (hs := [_, _, _, _, _]) ty22 ty3 rfl rfl (by decide) (by decide) rfl) ?_
 refine de rfl (eop_callx (i := 0) ca9 rfl (WeakL.refl _) rfl (c_benchmake_Stream_Pick (L := [_, _, _, _, _]) (by first | assumption | omega | (simp; omega) | simp_all) (by first | assumption | omega | (simp; omega) | simp_all) (by first | assumption | omega | (simp; omega) | simp_all)) ?_)
 rintro _ _ ⟨y32, rfl, hy32, rfl⟩
 refine dp rfl (pop_move rfl) ?_
 refine de rfl (eop_callx (i := 0) ca10 rfl (WeakL.refl _) rfl (c_benchmake_Stream_Known (by first | assumption | omega | (simp; omega) | simp_all)) ?_)
 rintro _ _ ⟨y34, rfl, rfl⟩
 refine dp rfl (pop_move rfl) ?_
 refine dp rfl (pop_buildSlice (hs := [_, _, _, _, _]) ty28 ty9 rfl rfl (by decide) (by decide) rfl) ?_
 refine de rfl (eop_callx (i := 0) ca11 rfl (WeakL.refl _) rfl (c_benchmake_Stream_Some (L := [_, _, _, _, _]) (by first | assumption | omega | (simp; omega) | simp_all) (by first | assumption | omega | (simp; omega) | simp_all) (by first | assumption | omega | (simp; omega) | simp_all)) ?_)
 rintro _ _ ⟨y37, rfl, hy37, rfl⟩
 refine dp rfl (pop_assign rfl) ?_
 refine dp rfl (pop_assign rfl) ?_
 refine dp rfl (pop_assign rfl) ?_
 refine dp rfl (pop_assign rfl) ?_
 refine dp rfl (pop_assign rfl) ?_
 refine dn ?_
 have hpl := hp27.len
 have htl := ht29.len
 have hl1 : p27.length ≤ 1000000 := by omega
 have ht1 : t29.length ≤ 1000000 := by omega
 have hk37 : y37.length ≤ 1000000 := by simp at hy37; rcases hy37 with rfl | rfl | rfl | rfl | rfl <;> simp
 refine hw_reg ?_
 refine dp rfl (pop_move rfl) ?_
 refine dp rfl (pop_call ca12 rfl (WeakL.refl _) (c_benchref1_PlaysFault hl1 hp27.all)) ?_
 refine dp rfl (pop_move rfl) ?_
 refine dp rfl (pop_call ca13 rfl (WeakL.refl _) (c_benchref1_TrustFault ht1 ht29.all)) ?_
 refine dp rfl (pop_assign rfl) ?_
 refine dp rfl (pop_assign rfl) ?_
 refine dn ?_
 refine hw_seq ?_
 refine hw_reg ?_
 refine dp rfl (pop_move rfl) ?_
 refine dp rfl (pop_call ca14 rfl (WeakL.refl _) (c_play_CheckTrust ht1)) ?_
 refine dp rfl (pop_move rfl) ?_
 refine dp rfl (pop_neq rfl rfl) ?_
 refine dn ?_
 refine hw_cond rfl (fun h1 => ?_) (fun h1 => ?_)
 ·exfalso
  try simp at h1
  done
 ·try simp at h1
  refine hw_skip ?_
  refine seqQ_n ?_
  refine hw_reg ?_
  refine dp rfl (pop_move rfl) ?_
  refine dp rfl (pop_move rfl) ?_
  refine dp rfl (pop_move rfl) ?_
  refine dp rfl (pop_call ca15 rfl (WeakL.refl _) (c_play_Told hT hl1 ht1)) ?_
  refine dp rfl (pop_move rfl) ?_
  refine dp rfl (pop_extract rfl rfl) ?_
  refine dp rfl (pop_extract rfl rfl) ?_
  refine dp rfl (pop_assign rfl) ?_
  refine dp rfl (pop_assign rfl) ?_
  refine dn ?_
  refine hw_reg ?_
  refine dp rfl (pop_move rfl) ?_
  refine dp rfl (pop_move rfl) ?_
  refine dp rfl (pop_move rfl) ?_
  refine dp rfl (pop_move rfl) ?_
  refine dp rfl (pop_call ca16 rfl (WeakL.refl _) (c_play_Lines hT hl1 ht1)) ?_
  refine dp rfl (pop_move rfl) ?_
  refine dp rfl (pop_extract rfl rfl) ?_
  refine dp rfl (pop_extract rfl rfl) ?_
  refine dp rfl (pop_assign rfl) ?_
  refine dp rfl (pop_assign rfl) ?_
  refine dn ?_
  refine hw_reg ?_
  refine dp rfl (pop_move rfl) ?_
  refine dp rfl (pop_move rfl) ?_
  refine dp rfl (pop_move rfl) ?_
  refine dp rfl (pop_call ca17 rfl (WeakL.refl _) (c_play_Disagree hT hl1)) ?_
  refine dp rfl (pop_move rfl) ?_
  refine dp rfl (pop_extract rfl rfl) ?_
  refine dp rfl (pop_extract rfl rfl) ?_
  refine dp rfl (pop_assign rfl) ?_
  refine dp rfl (pop_assign rfl) ?_
  refine dn ?_
  refine hw_reg ?_
  refine dp rfl (pop_move rfl) ?_
  refine dp rfl (pop_move rfl) ?_
  refine dp rfl (pop_move rfl) ?_
  refine dp rfl (pop_call ca19 rfl (WeakL.refl _) c_benchref1_MomentFault) ?_
  refine dp rfl (pop_buildSlice (hs := [_, _, _]) ty124 ty33 rfl rfl (by decide) (by decide) rfl) ?_
  refine dp rfl (pop_call ca18 rfl (WeakL.refl _) (c_cmp_Or_api_Errno (l := [_, _, _]) (by simp))) ?_
  refine dp rfl (pop_assign rfl) ?_
  refine dn ?_
  refine hw_reg ?_
  refine dp rfl (pop_move rfl) ?_
  refine dp rfl (pop_move rfl) ?_
  refine dp rfl (pop_move rfl) ?_
  refine dp rfl (pop_call ca20 rfl (WeakL.refl _) c_benchref1_WeekFault) ?_
  refine dp rfl (pop_move rfl) ?_
  refine dp rfl (pop_call ca19 rfl (WeakL.refl _) c_benchref1_MomentFault) ?_
  refine dp rfl (pop_buildSlice (hs := [_, _, _, _]) ty124 ty33 rfl rfl (by decide) (by decide) rfl) ?_
  refine dp rfl (pop_call ca18 rfl (WeakL.refl _) (c_cmp_Or_api_Errno (l := [_, _, _, _]) (by simp))) ?_
  refine dp rfl (pop_assign rfl) ?_
  refine dn ?_
  refine hw_reg ?_
  refine dp rfl (pop_move rfl) ?_
  refine dp rfl (pop_move rfl) ?_
  refine dp rfl (pop_call ca21 rfl (WeakL.refl _) (c_benchref1_KeyFault hk37)) ?_
  refine dp rfl (pop_move rfl) ?_
  refine dp rfl (pop_call ca19 rfl (WeakL.refl _) c_benchref1_MomentFault) ?_
  refine dp rfl (pop_buildSlice (hs := [_, _, _]) ty124 ty33 rfl rfl (by decide) (by decide) rfl) ?_
  refine dp rfl (pop_call ca18 rfl (WeakL.refl _) (c_cmp_Or_api_Errno (l := [_, _, _]) (by simp))) ?_
  refine dp rfl (pop_assign rfl) ?_
  refine dn ?_
  refine hw_reg ?_
  refine dp rfl (pop_assign rfl) ?_
  refine dn ?_
  refine hw_ghost (Ghost.arr_nil 2) ?_
  refine hw_ghost (Ghost.fa 20 (i := 0) rfl rfl) ?_
  refine hw_reg ?_
  refine dp rfl (pop_assign rfl) ?_
  refine dn ?_
  refine hw_ghost (Ghost.arr_nil 3) ?_
  refine hw_ghost (Ghost.fa 21 (i := 0) rfl rfl) ?_
  refine hw_reg ?_
  refine dp rfl (pop_assign rfl) ?_
  refine dn ?_
  refine hw_ghost (Ghost.arr_nil 7) ?_
  refine hw_ghost (Ghost.fa 22 (i := 0) rfl rfl) ?_
  refine hw_join [20, 89, 90, 91, 92, 93, 94] (fun (z : Unit) => [(20, ePairs (ToldL p27 t29 y34))]) (fun (z : Unit) => [St b l (a29 + 1 + 1 + 1 + 1)]) (fun (z : Unit) => True) ?_ ?_
  ·skip
   refine hw_reg ?_
   refine dp rfl (pop_move rfl) ?_
   refine dp rfl (pop_eql rfl rfl) ?_
   refine dn ?_
   refine hw_cond rfl (fun h2 => ?_) (fun h3 => ?_)
   ·try simp at h2
    have hz := (told_cases p27 t29 y34).resolve_right fun q => q.1 (by simpa using h2)
    refine hw_reg1 ?_
    refine dp rfl (pop_move rfl) ?_
    refine dp rfl (pop_move rfl) ?_
    refine dp rfl (pop_move rfl) ?_
    refine dp rfl (pop_call ca22 rfl (WeakL.refl _) (c_benchref1_ToldOf hl1 ht1)) ?_
    refine dp rfl (pop_assign rfl) ?_
    refine dn ?_
    exact ⟨(), trivial, ⟨congrArg (fun z => some (ePairs z)) hz.2.1.symm, trivial⟩, (by repeat (first | exact keeps_refl | refine keeps_upd rfl ?_ | refine keeps_loop rfl rfl ?_)), List.Perm.refl _⟩
   ·try simp at h3
    refine hw_skip ?_
    have hz := (told_cases p27 t29 y34).resolve_left fun q => absurd q.1 (by simpa using h3)
    exact ⟨(), trivial, ⟨congrArg (fun z => some (ePairs z)) hz.2.1.symm, trivial⟩, (by repeat (first | exact keeps_refl | refine keeps_upd rfl ?_ | refine keeps_loop rfl rfl ?_)), List.Perm.refl _⟩
  ·intro z _
   refine hw_join [18, 21, 95, 96, 97, 98, 99, 100, 101, 102, 103, 104] (fun (z : Unit) => [(21, eLines (LinesL p27 t29 y32 y34)), (18, .int .i64 (LinesE p27 t29 y32 y34))]) (fun (z : Unit) => [St b l (a29 + 1 + 1 + 1 + 1)]) (fun (z : Unit) => True) ?_ ?_
   ·skip
    refine hw_reg ?_
    refine dp rfl (pop_move rfl) ?_
    refine dp rfl (pop_eql rfl rfl) ?_
    refine dn ?_
    refine hw_cond rfl (fun h4 => ?_) (fun h5 => ?_)
    ·try simp at h4
     have hz := (lines_cases p27 t29 y32 y34).resolve_right fun q => q.1 (by simpa using h4)
     refine hw_reg1 ?_
     refine dp rfl (pop_move rfl) ?_
     refine dp rfl (pop_move rfl) ?_
     refine dp rfl (pop_move rfl) ?_
     refine dp rfl (pop_move rfl) ?_
     refine dp rfl (pop_call ca23 rfl (WeakL.refl _) (c_benchref1_LinesOf hz.2.1 ht1)) ?_
     refine dp rfl (pop_move rfl) ?_
     refine dp rfl (pop_extract rfl rfl) ?_
     refine dp rfl (pop_extract rfl rfl) ?_
     refine dp rfl (pop_assign rfl) ?_
     refine dp rfl (pop_assign rfl) ?_
     refine dn ?_
     exact ⟨(), trivial, ⟨congrArg (fun z => some (eLines z)) hz.2.2.1.symm, congrArg (fun z => some (HVal.int .i64 z)) hz.2.2.2.symm, trivial⟩, (by repeat (first | exact keeps_refl | refine keeps_upd rfl ?_ | refine keeps_loop rfl rfl ?_)), List.Perm.refl _⟩
    ·try simp at h5
     refine hw_skip ?_
     have hz := (lines_cases p27 t29 y32 y34).resolve_left fun q => absurd q.1 (by simpa using h5)
     exact ⟨(), trivial, ⟨congrArg (fun z => some (eLines z)) hz.2.1.symm, congrArg (fun z => some (HVal.int .i64 z)) hz.2.2.symm, trivial⟩, (by repeat (first | exact keeps_refl | refine keeps_upd rfl ?_ | refine keeps_loop rfl rfl ?_)), List.Perm.refl _⟩
   ·intro z _
    refine hw_join [22, 105, 106, 107, 108, 109, 110] (fun (z : Unit) => [(22, eAparts (DisL p27 y37 y34))]) (fun (z : Unit) => [St b l (a29 + 1 + 1 + 1 + 1)]) (fun (z : Unit) => True) ?_ ?_
    ·skip
     refine hw_reg ?_
     refine dp rfl (pop_move rfl) ?_
     refine dp rfl (pop_eql rfl rfl) ?_
     refine dn ?_
     refine hw_cond rfl (fun h6 => ?_) (fun h7 => ?_)
     ·try simp at h6
      have hz := (dis_cases p27 y37 y34).resolve_right fun q => q.1 (by simpa using h6)
      refine hw_reg1 ?_
      refine dp rfl (pop_move rfl) ?_
      refine dp rfl (pop_move rfl) ?_
      refine dp rfl (pop_move rfl) ?_
      refine dp rfl (pop_call ca24 rfl (WeakL.refl _) (c_benchref1_DisagreeOf hz.2.1)) ?_
      refine dp rfl (pop_assign rfl) ?_
      refine dn ?_
      exact ⟨(), trivial, ⟨congrArg (fun z => some (eAparts z)) hz.2.2.1.symm, trivial⟩, (by repeat (first | exact keeps_refl | refine keeps_upd rfl ?_ | refine keeps_loop rfl rfl ?_)), List.Perm.refl _⟩
     ·try simp at h7
      refine hw_skip ?_
      have hz := (dis_cases p27 y37 y34).resolve_left fun q => absurd q.1 (by simpa using h7)
      exact ⟨(), trivial, ⟨congrArg (fun z => some (eAparts z)) hz.2.1.symm, trivial⟩, (by repeat (first | exact keeps_refl | refine keeps_upd rfl ?_ | refine keeps_loop rfl rfl ?_)), List.Perm.refl _⟩
    ·intro z _
     refine hw_reg ?_
     refine dp rfl (pop_move rfl) ?_
     refine dp rfl (pop_move rfl) ?_
     refine dp rfl (pop_eql rfl rfl) ?_
     refine dp rfl (pop_move rfl) ?_
     refine dg rfl rfl (fun hc => ⟨_, OpenTo.refl _, pop_move rfl⟩) ?_
     refine dg rfl rfl (fun hc => ⟨_, OpenTo.refl _, pop_move rfl⟩) ?_
     refine dg rfl rfl (fun hc => by have hq := hc; (try simp at hq); exact ⟨_, OpenTo.upd (t := 116) rfl (hc) (OpenTo.upd (t := 115) rfl (hc) (OpenTo.refl _)), pop_call ca25 rfl (WeakL.refl _) (c_slices_Equal_api_Pair_api_Pair (l := (ToldL p27 t29 y34)) (m := (ToldL p27 t29 y34)) (told_bd (by omega)))⟩) ?_
     refine dp rfl (pop_picko rfl (.inr ⟨_, rfl, fun h => by simp_all⟩) (.inl rfl)) ?_
     refine dp rfl (pop_move rfl) ?_
     refine dg rfl rfl (fun hc => ⟨_, OpenTo.refl _, pop_move rfl⟩) ?_
     refine dg rfl rfl (fun hc => ⟨_, OpenTo.refl _, pop_move rfl⟩) ?_
     refine dg rfl rfl (fun hc => ⟨_, OpenTo.upd (t := 121) rfl (hc) (OpenTo.upd (t := 120) rfl (hc) (OpenTo.refl _)), pop_eql rfl rfl⟩) ?_
     refine dp rfl (pop_picko rfl (.inr ⟨_, rfl, fun h => by simp_all⟩) (.inl rfl)) ?_
     refine dp rfl (pop_move rfl) ?_
     refine dg rfl rfl (fun hc => ⟨_, OpenTo.refl _, pop_move rfl⟩) ?_
     refine dg rfl rfl (fun hc => ⟨_, OpenTo.refl _, pop_move rfl⟩) ?_
     refine dg rfl rfl (fun hc => ⟨_, OpenTo.upd (t := 126) rfl (hc) (OpenTo.upd (t := 125) rfl (hc) (OpenTo.refl _)), pop_call ca26 rfl (WeakL.refl _) (c_EqualFunc_Line (l := (LinesL p27 t29 y32 y34)) lines_bd.1 lines_bd.2)⟩) ?_
     refine dp rfl (pop_picko rfl (.inr ⟨_, rfl, fun h => by simp_all⟩) (.inl rfl)) ?_
     refine dp rfl (pop_move rfl) ?_
     refine dg rfl rfl (fun hc => ⟨_, OpenTo.refl _, pop_move rfl⟩) ?_
     refine dg rfl rfl (fun hc => ⟨_, OpenTo.refl _, pop_move rfl⟩) ?_
     refine dg rfl rfl (fun hc => ⟨_, OpenTo.upd (t := 131) rfl (hc) (OpenTo.upd (t := 130) rfl (hc) (OpenTo.refl _)), pop_eql rfl rfl⟩) ?_
     refine dp rfl (pop_picko rfl (.inr ⟨_, rfl, fun h => by simp_all⟩) (.inl rfl)) ?_
     refine dp rfl (pop_move rfl) ?_
     refine dg rfl rfl (fun hc => ⟨_, OpenTo.refl _, pop_move rfl⟩) ?_
     refine dg rfl rfl (fun hc => ⟨_, OpenTo.refl _, pop_move rfl⟩) ?_
     refine dg rfl rfl (fun hc => by have hq := hc; (try simp at hq); exact ⟨_, OpenTo.upd (t := 136) rfl (hc) (OpenTo.upd (t := 135) rfl (hc) (OpenTo.refl _)), pop_call ca28 rfl (WeakL.refl _) (c_slices_Equal_api_Apart_api_Apart (l := (DisL p27 y37 y34)) (m := (DisL p27 y37 y34)) (dis_bd (by omega)))⟩) ?_
     refine dp rfl (pop_picko rfl (.inr ⟨_, rfl, fun h => by simp_all⟩) (.inl rfl)) ?_
     refine dp rfl (pop_move rfl) ?_
     refine dg rfl rfl (fun hc => ⟨_, OpenTo.refl _, pop_call ca29 rfl (WeakL.refl _) (c_benchlaw1_played hT)⟩) ?_
     refine dp rfl (pop_picko rfl (.inr ⟨_, rfl, fun h => by simp_all⟩) (.inl rfl)) ?_
     refine dp rfl (pop_assign rfl) ?_
     refine dn ?_
     refine hw_ret ?_
     have e1 : ToldE p27 t29 y34 = orI [playsE p27, trustE t29, eM y34] := by
      rcases told_cases p27 t29 y34 with q | q
      ·rw [q.2.2, q.1]
      ·exact q.2.2
     have e3 : DisE p27 y37 y34 = orI [playsE p27, if key y37 then 0 else 5, eM y34] := by
      rcases dis_cases p27 y37 y34 with q | q
      ·rw [q.2.2.2, q.1]
      ·exact q.2.2
     refine ret_g Ghost.drop rfl ⟨?_, rfl⟩
     show HVal.bool _ = _
     simp [e1, e3, eqPairs_refl, eqAparts_refl]
end Go.Proofs.YtihpgpbbpklbbaaGreatDoor
end
section
namespace Go.HL
theorem tabI_any (P : Program) (I : Imm) : TabI P I := trivial
end Go.HL
end
