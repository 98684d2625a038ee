/- The statement is proved: the card of the law, out of its function's contract; no conditions. -/
import Derived.Test.YtdjpppifnmjhoaaGreatDoorPOffersComeBack5
import Derived.Ground.Names2Prog
import Derived.Handed
import Derived.LaidMore
import Derived.Lay
import Derived.OpenShut
import Derived.ProofKit
import Derived.SevenTiedAt
import Derived.Shelf.Slices.CompactS
import Derived.Shelf.Slices.Delete
import Derived.Shelf.Sort.Plain
import Derived.Shelf.Strconv.Atoi
import Derived.Shelf.Strconv.Itoa3
import Derived.Shelf.Strings.Count
import Derived.Shelf.Strings.Cut
import Derived.Shelf.Strings.Prefix
import Derived.Shelf.Strings.Split
import Derived.Shelf.Strings.SplitShaped
import Derived.Stop.Joined
import Derived.Test.YtdjpppifnmjhoaaGreatDoorCards
import Derived.Test.YtdjpppifnmjhoaaGreatDoorProg
import Derived.Test.YtdjpppifnmjhoaaGreatDoorTie
set_option linter.unusedVariables false
set_option linter.unusedSimpArgs false
section
namespace Go.Proofs.YtdjpppifnmjhoaaGreatDoor
open Go.HL
set_option maxRecDepth 100000
set_option linter.unusedVariables false
set_option linter.unusedSimpArgs false
/-- benchwarmer/base.Numbers -/
theorem c_base_Numbers [Tracks] {w : List Str} {m : Int} (hw : w.length ≤ 1000000) (hs : ∀ s ∈ w, s.length ≤ 1000000) (hm : m ≤ 17) : ConP Tryz.prog 56 [eSs w, .int .i64 m] (.tup [.slice 1 ((numsL w m).map (.int .i64)), .bool (numsB w m)]) := by
 refine Con.of_body Tryz.func56 rfl Tryz.ntmps56 rfl rfl ?_
 refine hw_reg ?_
 refine dp rfl (pop_assign rfl) ?_
 refine dp rfl (pop_assign rfl) ?_
 refine dn ?_
 refine hw_reg ?_
 refine dp rfl (pop_assign rfl) ?_
 refine dn ?_
 refine hw_ghost (Ghost.arr_nil 1) ?_
 refine hw_seq ?_
 refine hw_reg ?_
 refine dp rfl (pop_move rfl) ?_
 refine dp rfl (pop_lenm ty26 rfl) ?_
 refine dp rfl (pop_move rfl) ?_
 refine dn ?_
 refine hw_block ?_
 refine hw_loopw2 [4, 5, 6, 8, 9, 10, 13, 14, 15, 16, 17, 18, 19, 20, 21, 22, 23, 24, 25, 26, 27, 28, 29] (fun (k : Nat) (u : Value) => [(13, .int .i64 k), (6, .raw u)]) (fun (k : Nat) (u : Value) => [.arr u 1 (((w.take k).map (numR · m)).map (.int .i64))]) (fun (k : Nat) (u : Value) => k ≤ w.length ∧ (numsB w m = numsB (w.drop k) m ∧ (w.take k).all (numB · m) = true)) (fun (k : Nat) (u : Value) => w.length - k) (0) (.slice none 0 0) ?_ ?_ ?_ ?_
 ·exact ⟨Nat.zero_le _, rfl, rfl⟩
 ·exact ⟨rfl, rfl, trivial⟩
 ·exact perm_eq (by simp)
 ·intro k u hinv
  obtain ⟨hk, ⟨hg, hq⟩⟩ := hinv
  refine hw_reg ?_
  refine dp rfl (pop_lss rfl rfl) ?_
  refine dn ?_
  refine hw_seq ?_
  refine hw_cond rfl (fun h1 => ?_) (fun h2 => ?_)
  ·try simp at h1
   obtain ⟨x, hx⟩ : ∃ x, w[k]? = some x := ⟨_, List.getElem?_eq_getElem h1⟩
   have hdx := drop_cons hx
   rw [hdx, numsB_cons] at hg
   refine hw_skip ?_
   refine seqQ_n ?_
   refine hw_seq ?_
   refine hw_block ?_
   refine hw_reg ?_
   refine dp rfl (pop_idx ty26 ty9 rfl rfl rfl (by first | assumption | simp_all)) ?_
   refine dp rfl (pop_load ty9 rfl rfl rfl) ?_
   refine dp rfl (pop_assign rfl) ?_
   refine dn ?_
   refine hw_reg ?_
   refine dp rfl (pop_move rfl) ?_
   refine dp rfl (pop_move rfl) ?_
   refine dp rfl (pop_call ca102 rfl (WeakL.refl _) (c_base_Number_g (hs x (List.mem_of_getElem? hx)) hm)) ?_
   refine dp rfl (pop_move rfl) ?_
   refine dp rfl (pop_extract rfl rfl) ?_
   refine dp rfl (pop_extract rfl rfl) ?_
   refine dp rfl (pop_assign rfl) ?_
   refine dp rfl (pop_assign rfl) ?_
   refine dn ?_
   refine hw_seq ?_
   refine hw_reg ?_
   refine dp rfl (pop_move rfl) ?_
   refine dp rfl (pop_not rfl) ?_
   refine dn ?_
   refine hw_cond rfl (fun h3 => ?_) (fun h4 => ?_)
   ·try simp at h3
    refine hw_reg ?_
    refine dp rfl (pop_assign rfl) ?_
    refine dp rfl (pop_assign rfl) ?_
    refine dn ?_
    refine hw_ret ?_
    first
    | exact ret_gw Ghost.drop rfl (weakNs (numsB_f hg h3)) ⟨rfl, rfl⟩
    | exact ret_g (Ghost.fa 4 (i := 0) rfl rfl) rfl ⟨eqNs hg, rfl⟩
   ·try simp at h4
    refine hw_skip ?_
    refine seqQ_n ?_
    refine hw_reg1 ?_
    refine dp rfl (pop_move rfl) ?_
    refine dp rfl (pop_move rfl) ?_
    refine dp rfl (pop_buildSlice (hs := [_]) ty22 ty3 rfl rfl (by decide) (by decide) rfl) ?_
    refine de rfl (eop_append (i := 0) ty22 ty3 rfl rfl rfl rfl rfl (by simp [flat, hcells]) (by simp; omega) fun v28 => ?_)
    refine dp rfl (pop_assign rfl) ?_
    refine dn ?_
    refine blockQ_n ?_
    refine seqQ_n ?_
    refine hw_reg1 ?_
    refine dp rfl (pop_add64 rfl rfl (by omega) (by omega)) ?_
    refine dp rfl (pop_move rfl) ?_
    refine dn ?_
    exact ⟨k + 1, v28, ⟨by omega, by rw [hg, h4]; rfl, by rw [take_snoc' hx, List.all_append, hq]; simp [h4]⟩, by dsimp only; omega, ⟨rfl, rfl, trivial⟩, (by repeat (first | exact keeps_refl | refine keeps_upd rfl ?_ | refine keeps_loop rfl rfl ?_)), perm_eq (by dsimp only; rw [take_snoc' hx]; simp)⟩
  ·try simp at h2
   have hnk : w.length ≤ k := by omega
   obtain rfl : k = w.length := by omega
   rw [drop_all (Nat.le_refl _)] at hg
   rw [List.take_length]
   rw [List.take_length] at hq
   refine hw_exit ?_
   refine seqQ_x ?_
   refine loopQ2_x ?_
   refine blockQ_eq ?_
   refine seqQ_n ?_
   refine hw_reg ?_
   refine dp rfl (pop_move rfl) ?_
   refine dp rfl (pop_assign rfl) ?_
   refine dp rfl (pop_assign rfl) ?_
   refine dn ?_
   refine hw_ret ?_
   first
   | exact ret_gw Ghost.drop rfl (weakNs (numsB_f hg h3)) ⟨rfl, rfl⟩
   | exact ret_g (Ghost.fa 4 (i := 0) rfl rfl) rfl ⟨eqNs hg, rfl⟩

set_option maxHeartbeats 4000000 in
/-- benchwarmer/trade.Read$1 -/
theorem c_trade_Read_1 [Tracks] {line : Str} {bo : Nat} {v : Value} {ds : List DlV}  (hl : line.length ≤ 1000000) (hps : ds.length ≤ 1000000) (hgs : ∀ p ∈ ds, p.1.Gives.length ≤ 1000000) : Con Tryz.prog 53 [.str line, pAt bo] (.cells bo [.raw v] :: .arr v 5 (ds.map rDl) :: ds.map sDl) (fun x M' => ∃ st', x = .bool (okS ds line) ∧ M' = SDl bo st' ∧ (okS ds line = true → st'.2.map (·.1) = stepD (ds.map (·.1)) line)) := by
 have hct : line.count 32 ≤ line.length := List.count_le_length
 have hsl := spl_len 32 line
 refine Con.of_body Tryz.func53 rfl Tryz.ntmps53 rfl rfl ?_
 refine hw_reg ?_
 refine dp rfl (pop_assign rfl) ?_
 refine dn ?_
 refine hw_reg ?_
 refine dp rfl (pop_move rfl) ?_
 refine dp rfl (pop_move rfl) ?_
 refine dp rfl (pop_call ca55 rfl (WeakL.refl _) (c_strings_Count (s := line) (c := 32))) ?_
 refine dp rfl (pop_add64 rfl rfl (by omega) (by omega)) ?_
 refine dp rfl (pop_call ca54 rfl (WeakL.refl _) (c_base_Words (many := ((line.count 32 : Nat) + 1 : Int)) hl)) ?_
 refine dp rfl (pop_move rfl) ?_
 refine dp rfl (pop_extract rfl rfl) ?_
 refine dp rfl (pop_extract rfl rfl) ?_
 refine dp rfl (pop_assign rfl) ?_
 refine dp rfl (pop_assign rfl) ?_
 refine dn ?_
 refine hw_seq ?_
 refine hw_block ?_
 refine hw_reg ?_
 refine dp rfl (pop_move rfl) ?_
 refine dp rfl (pop_not rfl) ?_
 refine dp rfl (pop_assign rfl) ?_
 refine dn ?_
 refine hw_cond rfl (fun h1 => ?_) (fun h2 => ?_)
 ·try simp at h1
  refine hw_reg ?_
  refine dp rfl (pop_assign rfl) ?_
  refine dn ?_
  refine hw_ret ?_
  first
  | exact ret_q rfl ⟨(v, ds), by rw [okS_f (wo_f h1).1 (wo_f h1).2]; rfl, rfl, fun h => by rw [okS_f (wo_f h1).1 (wo_f h1).2] at h; cases h⟩
  | exact ret_g Ghost.snoc3 rfl ⟨(v53, ds ++ [(odP line, .slice none 0 0)]), by rw [okS_o (hod.trans (by simpa using h5))]; simpa using h5, by simp [SDl, odP, setL, hcells, ofVal, ofVal1], fun _ => step_of (hod.trans (by simpa using h5))⟩
  | exact ret_q rfl ⟨(v, ds), by rw [okS_n5 (hod.trans (by simpa using h6)) hq5]; simpa using h6, rfl, fun h => by rw [okS_n5 (hod.trans (by simpa using h6)) hq5] at h; cases h⟩
  | exact ret_q rfl ⟨(.slice (some ⟨ob, off, none⟩) (ds.map rDl).length cap, ds.set (ds.length - 1) (addG x1 (gvP line), v91)), by rw [okS_g hgv ho0]; rfl, by simp [SDl, sDl, addG, gvP, List.map_set], fun _ => step_gv hgv hx⟩
  | (have hno : okS ds line = false := okS_0 hod (fun hh => by
      have q1 := hh.1.1
      have q2 := hh.1.2
      have q3 := hh.2
      simp [givS] at q1
      simp_all)
     exact ret_q rfl ⟨(v, ds), by rw [hno]; rfl, rfl, fun h => by rw [hno] at h; cases h⟩)
 ·try simp at h2
  obtain ⟨hw1, hw2⟩ := wo_t h2
  simp only [hw1]
  refine hw_reg ?_
  refine dp rfl (pop_move rfl) ?_
  refine dp rfl (pop_idx (j := 0) (a := (spl 32 line).getD 0 []) ty26 ty9 rfl rfl (by omega) (getD_some (by omega))) ?_
  refine dp rfl (pop_load ty9 rfl rfl rfl) ?_
  refine dp rfl (pop_eqls rfl rfl) ?_
  refine dp rfl (pop_move rfl) ?_
  refine dg rfl rfl (fun hc => ⟨_, OpenTo.refl _, pop_move rfl⟩) ?_
  refine dg rfl rfl (fun hc => ⟨_, OpenTo.upd (t := 26) rfl (by first | exact hc | simp_all) (OpenTo.refl _), pop_lenm ty26 rfl⟩) ?_
  refine dg rfl rfl (fun hc => ⟨_, OpenTo.upd (t := 27) rfl (by first | exact hc | simp_all) (OpenTo.refl _), pop_eql rfl rfl⟩) ?_
  refine dp rfl (pop_picko rfl (.inr ⟨_, rfl, fun h => by simp_all⟩) (.inl rfl)) ?_
  refine dp rfl (pop_assign rfl) ?_
  refine dn ?_
  refine hw_cond rfl (fun h3 => ?_) (fun h4 => ?_)
  ·try simp at h3
   have hW : (spl 32 line).getD 0 [] = offerS := by simpa [offerS] using h3.1
   have hq5 : (spl 32 line).length = 5 := by have := h3.2; omega
   have hod := od_is hw2 hW hq5
   obtain ⟨hn1, hn2⟩ := dlN_get hq5
   have hnl := dlN_len hq5
   refine hw_reg ?_
   refine dp rfl (pop_move rfl) ?_
   refine dp rfl (pop_eq (pop_slicem (l := 3) (h := (spl 32 line).length) ty26 ty9 rfl ⟨_, _, rfl, rfl⟩ rfl (by omega) (Nat.le_refl _)) (by rw [List.take_length])) ?_
   refine dp rfl (pop_call ca56 rfl (WeakL.refl _) (c_base_Numbers (w := dlN line) (by omega) (fun s hs => Nat.le_trans (dlN_mem s hs) hl) (by omega))) ?_
   refine dp rfl (pop_move rfl) ?_
   refine dp rfl (pop_extract rfl rfl) ?_
   refine dp rfl (pop_extract rfl rfl) ?_
   refine dp rfl (pop_assign rfl) ?_
   refine dp rfl (pop_assign rfl) ?_
   refine dn ?_
   refine hw_seq ?_
   refine hw_reg ?_
   refine dp rfl (pop_move rfl) ?_
   refine dn ?_
   refine hw_cond rfl (fun h5 => ?_) (fun h6 => ?_)
   ·try simp at h5
    have hnum : numsL (dlN line) 15 = (dlN line).map (numR · 15) := numsL_t (by simpa using h5)
    simp only [hnum]
    refine hw_draw1 (fun M => ∃ i : Nat, M[i]? = some (.cells bo [.raw v])) [0] mixed ?_
    refine ahl 0 rfl rfl (by kernel_rfl) (by kernel_rfl) (by simp) ⟨0, rfl⟩ (fun M hM => by obtain ⟨i, hi⟩ := hM; exact eop_load (i := i) ty30 rfl hi (.inl ⟨rfl, rfl⟩) ⟨rfl, rfl⟩) ?_
    refine ahp 1 rfl rfl (by kernel_rfl) (by kernel_rfl) (pop_move rfl) ?_
    refine ahp 2 rfl rfl (by kernel_rfl) (by kernel_rfl) (pop_idx (j := 1) (a := (spl 32 line).getD 1 []) ty26 ty9 rfl rfl (by omega) (getD_some (by omega))) ?_
    refine ahp 3 rfl rfl (by kernel_rfl) (by kernel_rfl) (pop_load ty9 rfl rfl rfl) ?_
    refine ahp 4 rfl rfl (by kernel_rfl) (by kernel_rfl) (pop_move rfl) ?_
    refine ahp 5 rfl rfl (by kernel_rfl) (by kernel_rfl) (pop_idx (j := 2) (a := (spl 32 line).getD 2 []) ty26 ty9 rfl rfl (by omega) (getD_some (by omega))) ?_
    refine ahp 6 rfl rfl (by kernel_rfl) (by kernel_rfl) (pop_load ty9 rfl rfl rfl) ?_
    refine ahp 7 rfl rfl (by kernel_rfl) (by kernel_rfl) (pop_move rfl) ?_
    refine ahp 8 rfl rfl (by kernel_rfl) (by kernel_rfl) (pop_idx (j := 0) (a := numR ((spl 32 line).getD 3 []) 15) ty22 ty3 rfl rfl rfl hn1) ?_
    refine ahp 9 rfl rfl (by kernel_rfl) (by kernel_rfl) (pop_load ty3 rfl rfl rfl) ?_
    refine ahp 10 rfl rfl (by kernel_rfl) (by kernel_rfl) (pop_move rfl) ?_
    refine ahp 11 rfl rfl (by kernel_rfl) (by kernel_rfl) (pop_idx (j := 1) (a := numR ((spl 32 line).getD 4 []) 15) ty22 ty3 rfl rfl rfl hn2) ?_
    refine ahp 12 rfl rfl (by kernel_rfl) (by kernel_rfl) (pop_load ty3 rfl rfl rfl) ?_
    refine ahp 13 rfl rfl (by kernel_rfl) (by kernel_rfl) (pop_build (cs := [_, _]) ty44 pl44 rfl) ?_
    refine ahp 14 rfl rfl (by kernel_rfl) (by kernel_rfl) (pop_build (cs := [_, _, _, _, _]) ty47 pl47 rfl) ?_
    refine ahp 15 rfl rfl (by kernel_rfl) (by kernel_rfl) (pop_buildSlice (hs := [_]) ty30 ty47 rfl rfl (by decide) (by decide) rfl) ?_
    refine ahe 16 rfl (by kernel_rfl) ?_
    refine hop_e rfl (eop_append (i := 1) ty30 ty47 rfl rfl rfl rfl rfl (by simp [flat, hcells, ofVal, ofVal1]) (by simp; omega) fun v53 => ?_)
    refine ⟨fun _ => .inl ⟨0, rfl⟩, ?_⟩
    refine ahe 17 rfl (by kernel_rfl) ?_
    refine hop_e0 (eop_store (i := 0) ty30 rfl rfl rfl rfl rfl (by simp) ?_)
    refine ⟨fun _ => .inr (by simp [Before, Region.binds]), ?_⟩
    refine ahz (by kernel_rfl) ?_
    refine seqQ_n ?_
    refine hw_reg ?_
    refine dp rfl (pop_move rfl) ?_
    refine dp rfl (pop_assign rfl) ?_
    refine dn ?_
    refine hw_ret ?_
    first
    | exact ret_q rfl ⟨(v, ds), by rw [okS_f (wo_f h1).1 (wo_f h1).2]; rfl, rfl, fun h => by rw [okS_f (wo_f h1).1 (wo_f h1).2] at h; cases h⟩
    | exact ret_g Ghost.snoc3 rfl ⟨(v53, ds ++ [(odP line, .slice none 0 0)]), by rw [okS_o (hod.trans (by simpa using h5))]; simpa using h5, by simp [SDl, odP, setL, hcells, ofVal, ofVal1], fun _ => step_of (hod.trans (by simpa using h5))⟩
    | exact ret_q rfl ⟨(v, ds), by rw [okS_n5 (hod.trans (by simpa using h6)) hq5]; simpa using h6, rfl, fun h => by rw [okS_n5 (hod.trans (by simpa using h6)) hq5] at h; cases h⟩
    | exact ret_q rfl ⟨(.slice (some ⟨ob, off, none⟩) (ds.map rDl).length cap, ds.set (ds.length - 1) (addG x1 (gvP line), v91)), by rw [okS_g hgv ho0]; rfl, by simp [SDl, sDl, addG, gvP, List.map_set], fun _ => step_gv hgv hx⟩
    | (have hno : okS ds line = false := okS_0 hod (fun hh => by
        have q1 := hh.1.1
        have q2 := hh.1.2
        have q3 := hh.2
        simp [givS] at q1
        simp_all)
       exact ret_q rfl ⟨(v, ds), by rw [hno]; rfl, rfl, fun h => by rw [hno] at h; cases h⟩)
   ·try simp at h6
    refine hw_skip ?_
    refine seqQ_n ?_
    refine hw_reg ?_
    refine dp rfl (pop_move rfl) ?_
    refine dp rfl (pop_assign rfl) ?_
    refine dn ?_
    refine hw_ret ?_
    first
    | exact ret_q rfl ⟨(v, ds), by rw [okS_f (wo_f h1).1 (wo_f h1).2]; rfl, rfl, fun h => by rw [okS_f (wo_f h1).1 (wo_f h1).2] at h; cases h⟩
    | exact ret_g Ghost.snoc3 rfl ⟨(v53, ds ++ [(odP line, .slice none 0 0)]), by rw [okS_o (hod.trans (by simpa using h5))]; simpa using h5, by simp [SDl, odP, setL, hcells, ofVal, ofVal1], fun _ => step_of (hod.trans (by simpa using h5))⟩
    | exact ret_q rfl ⟨(v, ds), by rw [okS_n5 (hod.trans (by simpa using h6)) hq5]; simpa using h6, rfl, fun h => by rw [okS_n5 (hod.trans (by simpa using h6)) hq5] at h; cases h⟩
    | exact ret_q rfl ⟨(.slice (some ⟨ob, off, none⟩) (ds.map rDl).length cap, ds.set (ds.length - 1) (addG x1 (gvP line), v91)), by rw [okS_g hgv ho0]; rfl, by simp [SDl, sDl, addG, gvP, List.map_set], fun _ => step_gv hgv hx⟩
    | (have hno : okS ds line = false := okS_0 hod (fun hh => by
        have q1 := hh.1.1
        have q2 := hh.1.2
        have q3 := hh.2
        simp [givS] at q1
        simp_all)
       exact ret_q rfl ⟨(v, ds), by rw [hno]; rfl, rfl, fun h => by rw [hno] at h; cases h⟩)
  ·try simp at h4
   have hod : odB line = false := od_no fun hh => by
    have q1 := hh.1
    have q2 := hh.2
    simp [offerS] at q1
    simp_all
   refine hw_reg ?_
   refine dp rfl (pop_move rfl) ?_
   refine dp rfl (pop_idx (j := 0) (a := (spl 32 line).getD 0 []) ty26 ty9 rfl rfl (by omega) (getD_some (by omega))) ?_
   refine dp rfl (pop_load ty9 rfl rfl rfl) ?_
   refine dp rfl (pop_eqls rfl rfl) ?_
   refine dp rfl (pop_move rfl) ?_
   refine dg rfl rfl (fun hc => ⟨_, OpenTo.refl _, pop_move rfl⟩) ?_
   refine dg rfl rfl (fun hc => ⟨_, OpenTo.upd (t := 61) rfl (by first | exact hc | simp_all) (OpenTo.refl _), pop_lenm ty26 rfl⟩) ?_
   refine dg rfl rfl (fun hc => ⟨_, OpenTo.upd (t := 62) rfl (by first | exact hc | simp_all) (OpenTo.refl _), pop_eql rfl rfl⟩) ?_
   refine dp rfl (pop_picko rfl (.inr ⟨_, rfl, fun h => by simp_all⟩) (.inl rfl)) ?_
   refine dp rfl (pop_move rfl) ?_
   refine dgl rfl rfl (fun hc => ⟨_, OpenTo.refl _, eop_load (i := 0) ty30 rfl rfl (.inl ⟨rfl, rfl⟩) ⟨rfl, rfl⟩⟩) ?_
   refine dgl rfl rfl (fun hc => ⟨_, OpenTo.upd (t := 66) rfl (by first | exact hc | simp_all) (OpenTo.refl _), eop_lenm (i := 1) (es := ds) ty30 rfl rfl ⟨rfl, rfl⟩⟩) ?_
   refine dg rfl rfl (fun hc => ⟨_, OpenTo.upd (t := 67) rfl (by first | exact hc | simp_all) (OpenTo.refl _), pop_gtr rfl rfl⟩) ?_
   refine dp rfl (pop_picko rfl (.inr ⟨_, rfl, fun h => by simp_all⟩) (.inl rfl)) ?_
   refine dp rfl (pop_assign rfl) ?_
   refine dn ?_
   refine hw_cond rfl (fun h7 => ?_) (fun h8 => ?_)
   ·try simp at h7
    have hW : (spl 32 line).getD 0 [] = givS := by simpa [givS] using h7.1.1
    have hq4 : (spl 32 line).length = 4 := by have := h7.1.2; omega
    have hgv := gv_is hw2 hW hq4
    have ho0 : 0 < ds.length := by have := h7.2; omega
    refine hw_arrc (i := 1) rfl (fun h0 he => ?_) (fun ob off cap hv hcap => ?_)
    ·exfalso; have := congrArg List.length he; simp at this; subst this; simp at ho0
    subst hv
    obtain ⟨⟨x1, xv⟩, hx⟩ : ∃ x, ds[ds.length - 1]? = some x := ⟨_, List.getElem?_eq_getElem (by omega)⟩
    have hgx := hgs _ (List.mem_of_getElem? hx)
    dsimp only at hgx
    refine hw_reg ?_
    refine de rfl (eop_load (i := 0) ty30 rfl rfl (.inl ⟨rfl, rfl⟩) ?_)
    refine de rfl (eop_load (i := 0) ty30 rfl rfl (.inl ⟨rfl, rfl⟩) ?_)
    refine de rfl (eop_lenm (i := 1) (es := ds) ty30 rfl rfl ?_)
    refine dp rfl (pop_sub64 rfl rfl (by omega) (by omega)) ?_
    refine dp rfl (pop_idxraw (j := ds.length - 1) ty30 ty47 rfl rfl (by omega) (by simp; omega)) ?_
    refine dp rfl (pop_assign rfl) ?_
    refine dn ?_
    refine hw_draw (fun M => ∃ i : Nat, M[i]? = some (.arr (.slice (some ⟨ob, off, none⟩) (ds.map rDl).length cap) 5 (ds.map rDl))) [4] mixed ?_
    refine ahp 0 rfl rfl (by kernel_rfl) (by kernel_rfl) (pop_move rfl) ?_
    refine ahp 1 rfl rfl (by kernel_rfl) (by kernel_rfl) (pop_move rfl) ?_
    refine ahp 2 rfl rfl (by kernel_rfl) (by kernel_rfl) ((by first | exact pop_nilCheck rfl | exact pop_nilCheck_raw rfl)) ?_
    refine ahp 3 rfl rfl (by kernel_rfl) (by kernel_rfl) ((by first | exact pop_fieldAddr ty47 rfl ty45 (by decide) rfl | exact pop_fieldAddr_raw ty47 rfl ty45 (by decide) rfl)) ?_
    refine ahl 4 rfl rfl (by kernel_rfl) (by kernel_rfl) (by simp) ⟨1, rfl⟩ (fun M hM => by obtain ⟨i, hi⟩ := hM; exact eop_load_el (i := i) (j := ds.length - 1) (y := (x1, xv)) 4 ty45 rfl (by omega) hi hx rfl rfl ⟨rfl, rfl⟩) ?_
    refine ahp 5 rfl rfl (by kernel_rfl) (by kernel_rfl) (pop_move rfl) ?_
    refine ahp 6 rfl rfl (by kernel_rfl) (by kernel_rfl) (pop_idx (j := 1) (a := (spl 32 line).getD 1 []) ty26 ty9 rfl rfl (by omega) (getD_some (by omega))) ?_
    refine ahp 7 rfl rfl (by kernel_rfl) (by kernel_rfl) (pop_load ty9 rfl rfl rfl) ?_
    refine ahp 8 rfl rfl (by kernel_rfl) (by kernel_rfl) (pop_move rfl) ?_
    refine ahp 9 rfl rfl (by kernel_rfl) (by kernel_rfl) (pop_idx (j := 2) (a := (spl 32 line).getD 2 []) ty26 ty9 rfl rfl (by omega) (getD_some (by omega))) ?_
    refine ahp 10 rfl rfl (by kernel_rfl) (by kernel_rfl) (pop_load ty9 rfl rfl rfl) ?_
    refine ahp 11 rfl rfl (by kernel_rfl) (by kernel_rfl) (pop_move rfl) ?_
    refine ahp 12 rfl rfl (by kernel_rfl) (by kernel_rfl) (pop_idx (j := 3) (a := (spl 32 line).getD 3 []) ty26 ty9 rfl rfl (by omega) (getD_some (by omega))) ?_
    refine ahp 13 rfl rfl (by kernel_rfl) (by kernel_rfl) (pop_load ty9 rfl rfl rfl) ?_
    refine ahp 14 rfl rfl (by kernel_rfl) (by kernel_rfl) (pop_build (cs := [_, _, _]) ty69 pl69 rfl) ?_
    refine ahp 15 rfl rfl (by kernel_rfl) (by kernel_rfl) (pop_buildSlice (hs := [_]) ty45 ty69 rfl rfl (by decide) (by decide) rfl) ?_
    refine ahe 16 rfl (by kernel_rfl) ?_
    refine hop_e rfl (eop_append (i := ds.length - 1 + 2) (v := xv) (es := x1.Gives.map eGive) ty45 ty69 rfl rfl rfl rfl (show (ds.map sDl)[ds.length - 1]? = some (.arr xv 3 (x1.Gives.map eGive)) from by rw [List.getElem?_map, hx]; rfl) (by simp [flat, hcells]) (by simp; omega) fun v91 => ?_)
    refine ⟨fun _ => .inl ⟨1, rfl⟩, ?_⟩
    refine ahp 17 rfl rfl (by kernel_rfl) (by kernel_rfl) ((by first | exact pop_nilCheck rfl | exact pop_nilCheck_raw rfl)) ?_
    refine ahp 18 rfl rfl (by kernel_rfl) (by kernel_rfl) ((by first | exact pop_fieldAddr ty47 rfl ty45 (by decide) rfl | exact pop_fieldAddr_raw ty47 rfl ty45 (by decide) rfl)) ?_
    refine ahe 19 rfl (by kernel_rfl) ?_
    refine hop_e0 (eop_store_arr (i := 1) (j := ds.length - 1) (f := 4) (y := rDl (x1, xv)) (y' := rDl (addG x1 (gvP line), v91)) ty45 rfl (by omega) rfl rfl (map_get hx) rfl rfl (by simp [hcells]) rfl ?_)
    refine ⟨fun _ => .inr (by simp [Before, Region.binds]), ?_⟩
    refine ahz (by kernel_rfl) ?_
    refine hw_reg ?_
    refine dp rfl (pop_assign rfl) ?_
    refine dn ?_
    refine hw_ret ?_
    first
    | exact ret_q rfl ⟨(v, ds), by rw [okS_f (wo_f h1).1 (wo_f h1).2]; rfl, rfl, fun h => by rw [okS_f (wo_f h1).1 (wo_f h1).2] at h; cases h⟩
    | exact ret_g Ghost.snoc3 rfl ⟨(v53, ds ++ [(odP line, .slice none 0 0)]), by rw [okS_o (hod.trans (by simpa using h5))]; simpa using h5, by simp [SDl, odP, setL, hcells, ofVal, ofVal1], fun _ => step_of (hod.trans (by simpa using h5))⟩
    | exact ret_q rfl ⟨(v, ds), by rw [okS_n5 (hod.trans (by simpa using h6)) hq5]; simpa using h6, rfl, fun h => by rw [okS_n5 (hod.trans (by simpa using h6)) hq5] at h; cases h⟩
    | exact ret_q rfl ⟨(.slice (some ⟨ob, off, none⟩) (ds.map rDl).length cap, ds.set (ds.length - 1) (addG x1 (gvP line), v91)), by rw [okS_g hgv ho0]; rfl, by simp [SDl, sDl, addG, gvP, List.map_set], fun _ => step_gv hgv hx⟩
    | (have hno : okS ds line = false := okS_0 hod (fun hh => by
        have q1 := hh.1.1
        have q2 := hh.1.2
        have q3 := hh.2
        simp [givS] at q1
        simp_all)
       exact ret_q rfl ⟨(v, ds), by rw [hno]; rfl, rfl, fun h => by rw [hno] at h; cases h⟩)
   ·try simp at h8
    refine hw_skip ?_
    refine blockQ_n ?_
    refine seqQ_n ?_
    refine hw_reg ?_
    refine dp rfl (pop_assign rfl) ?_
    refine dn ?_
    refine hw_ret ?_
    first
    | exact ret_q rfl ⟨(v, ds), by rw [okS_f (wo_f h1).1 (wo_f h1).2]; rfl, rfl, fun h => by rw [okS_f (wo_f h1).1 (wo_f h1).2] at h; cases h⟩
    | exact ret_g Ghost.snoc3 rfl ⟨(v53, ds ++ [(odP line, .slice none 0 0)]), by rw [okS_o (hod.trans (by simpa using h5))]; simpa using h5, by simp [SDl, odP, setL, hcells, ofVal, ofVal1], fun _ => step_of (hod.trans (by simpa using h5))⟩
    | exact ret_q rfl ⟨(v, ds), by rw [okS_n5 (hod.trans (by simpa using h6)) hq5]; simpa using h6, rfl, fun h => by rw [okS_n5 (hod.trans (by simpa using h6)) hq5] at h; cases h⟩
    | exact ret_q rfl ⟨(.slice (some ⟨ob, off, none⟩) (ds.map rDl).length cap, ds.set (ds.length - 1) (addG x1 (gvP line), v91)), by rw [okS_g hgv ho0]; rfl, by simp [SDl, sDl, addG, gvP, List.map_set], fun _ => step_gv hgv hx⟩
    | (have hno : okS ds line = false := okS_0 hod (fun hh => by
        have q1 := hh.1.1
        have q2 := hh.1.2
        have q3 := hh.2
        simp [givS] at q1
        simp_all)
       exact ret_q rfl ⟨(v, ds), by rw [hno]; rfl, rfl, fun h => by rw [hno] at h; cases h⟩)

theorem h_tRead1 [Tracks] {bo : Nat} {text : Str} : ∀ (done : List Str) (s : Str) (st : Value × List DlV), done.length ≤ 1000000 → s.length ≤ 1000000 → (spl 10 text)[done.length]? = some s → InvD text done st → Con Tryz.prog 53 ([.str s] ++ [pAt bo]) (SDl bo st) fun x M' => ∃ st', x = .bool (okT (dvH text) s) ∧ M' = SDl bo st' ∧ (okT (dvH text) s = true → InvD text (done ++ [s]) st') :=
 fun done s st h1 h2 hq hi => (c_trade_Read_1 (v := st.1) (ds := st.2) h2 (Nat.le_trans hi.2.2.1 h1) (fun p hp => Nat.le_trans (hi.2.2.2 p hp) h1)).mono fun x M' ⟨st', hx, hM, hp⟩ => ⟨st', by rw [hx, okS_t hq hi], hM, fun h => hi.next hq (by rw [okS_t hq hi]; exact h) (hp (by rw [okS_t hq hi]; exact h))⟩

/-- benchwarmer/trade.Read -/
theorem c_trade_Read [Tracks] {m : MarketS} {text : Str} (ht : m.Teams.length ≤ 1000000) (ht2 : text.length ≤ 1000000) : ConP Tryz.prog 12 [eMarket m, .str text] (.tup [eDeals (dvP m text), .int .i64 (dvI m text), .int .i64 (dvE m text)]) := by
 obtain ⟨hgl, hga⟩ := dv_gd text
 refine Con.of_body Tryz.func12 rfl Tryz.ntmps12 rfl rfl ?_
 refine hw_reg ?_
 refine dp rfl (pop_box rfl rfl) ?_
 refine dp rfl (pop_assign rfl) ?_
 refine dp rfl (pop_assign rfl) ?_
 refine dp rfl (pop_assign rfl) ?_
 refine dn ?_
 refine hw_seq ?_
 refine hw_reg ?_
 refine dp rfl (pop_loadw ty28 rfl rfl rfl rfl) ?_
 refine dp rfl (pop_call ca51 rfl (WeakL.refl _) (c_trade_CheckMarket (by first | assumption | omega | (simp; omega) | simp_all))) ?_
 refine dp rfl (pop_assign rfl) ?_
 refine dn ?_
 refine hw_reg ?_
 refine dp rfl (pop_move rfl) ?_
 refine dp rfl (pop_neq rfl rfl) ?_
 refine dn ?_
 refine hw_cond rfl (fun h1 => ?_) (fun h2 => ?_)
 ·try simp at h1
  refine hw_reg ?_
  refine dp rfl (pop_move rfl) ?_
  refine dp rfl (pop_assign rfl) ?_
  refine dp rfl (pop_assign rfl) ?_
  refine dp rfl (pop_assign rfl) ?_
  refine dn ?_
  refine hw_ret ?_
  have hR : dealsE m (dvL text) = dealsE m (dvL text) := rfl
  first
  | exact ret_w rfl (weakDv (dv_1 h1).1 h1 (dv_1 h1).2)
  | exact ret_w rfl (weakDv (dv_2 h2 (by omega)).1 (by decide) (dv_2 h2 (by omega)).2)
  | exact ret_gw Ghost.clear rfl (weakDv (dv_3 h2 (by omega) h5).1 (by decide) (dv_3 h2 (by omega) h5).2) ⟨rfl, rfl⟩
  | exact ret_w rfl (weakDv ((dv_4 h2 (by omega) h6).1.trans hR) h7 (dv_4 h2 (by omega) h6).2)
  | exact ret_p rfl (eqDv ((dv_4 h2 (by omega) h6).1.trans (hR.trans h8)) (dv_4 h2 (by omega) h6).2)
 ·try simp at h2
  refine hw_skip ?_
  refine seqQ_n ?_
  refine hw_seq ?_
  refine hw_reg ?_
  refine dp rfl (pop_move rfl) ?_
  refine dp rfl (pop_lens ty9 rfl) ?_
  refine dp rfl (pop_gtr rfl rfl) ?_
  refine dn ?_
  refine hw_cond rfl (fun h3 => ?_) (fun h4 => ?_)
  ·try simp at h3
   refine hw_reg ?_
   refine dp rfl (pop_assign rfl) ?_
   refine dp rfl (pop_assign rfl) ?_
   refine dp rfl (pop_assign rfl) ?_
   refine dn ?_
   refine hw_ret ?_
   have hR : dealsE m (dvL text) = dealsE m (dvL text) := rfl
   first
   | exact ret_w rfl (weakDv (dv_1 h1).1 h1 (dv_1 h1).2)
   | exact ret_w rfl (weakDv (dv_2 h2 (by omega)).1 (by decide) (dv_2 h2 (by omega)).2)
   | exact ret_gw Ghost.clear rfl (weakDv (dv_3 h2 (by omega) h5).1 (by decide) (dv_3 h2 (by omega) h5).2) ⟨rfl, rfl⟩
   | exact ret_w rfl (weakDv ((dv_4 h2 (by omega) h6).1.trans hR) h7 (dv_4 h2 (by omega) h6).2)
   | exact ret_p rfl (eqDv ((dv_4 h2 (by omega) h6).1.trans (hR.trans h8)) (dv_4 h2 (by omega) h6).2)
  ·try simp at h4
   refine hw_skip ?_
   refine seqQ_n ?_
   refine hw_reg ?_
   refine de rfl (eop_alloc ty30 rfl fun b8 => ?_)
   refine dn ?_
   refine hw_ghost (Ghost.arr_nil 5) ?_
   refine hw_reg ?_
   refine dp rfl (pop_move rfl) ?_
   refine dp rfl (pop_makeFunc rfl rfl) ?_
   refine de rfl (eop_callf (M1 := SDl b8 (.slice none 0 0, [])) (R := []) ca52 rfl (WeakL.refl _) (List.Perm.swap _ _ _) (c_base_Each_p (S := SDl b8) (Inv := InvD text) (ok := okT (dvH text)) (caps := [pAt b8]) (st0 := (.slice none 0 0, [])) ca53 h_tRead1 (inv0 text) ht2) ?_)
   rintro _ _ ⟨st2, rfl, rfl, hst2⟩
   refine dp rfl (pop_move rfl) ?_
   refine dp rfl (pop_extract rfl rfl) ?_
   refine dp rfl (pop_extract rfl rfl) ?_
   refine dp rfl (pop_assign rfl) ?_
   refine dp rfl (pop_assign rfl) ?_
   refine dn ?_
   refine hw_seq ?_
   refine hw_reg ?_
   refine dp rfl (pop_move rfl) ?_
   refine dp rfl (pop_not rfl) ?_
   refine dn ?_
   refine hw_cond rfl (fun h5 => ?_) (fun h6 => ?_)
   ·try simp at h5
    refine hw_reg ?_
    refine dp rfl (pop_move rfl) ?_
    refine dp rfl (pop_assign rfl) ?_
    refine dp rfl (pop_assign rfl) ?_
    refine dp rfl (pop_assign rfl) ?_
    refine dn ?_
    refine hw_ret ?_
    have hR : dealsE m (dvL text) = dealsE m (dvL text) := rfl
    first
    | exact ret_w rfl (weakDv (dv_1 h1).1 h1 (dv_1 h1).2)
    | exact ret_w rfl (weakDv (dv_2 h2 (by omega)).1 (by decide) (dv_2 h2 (by omega)).2)
    | exact ret_gw Ghost.clear rfl (weakDv (dv_3 h2 (by omega) h5).1 (by decide) (dv_3 h2 (by omega) h5).2) ⟨rfl, rfl⟩
    | exact ret_w rfl (weakDv ((dv_4 h2 (by omega) h6).1.trans hR) h7 (dv_4 h2 (by omega) h6).2)
    | exact ret_p rfl (eqDv ((dv_4 h2 (by omega) h6).1.trans (hR.trans h8)) (dv_4 h2 (by omega) h6).2)
   ·try simp at h6
    refine hw_skip ?_
    refine seqQ_n ?_
    refine hw_seq ?_
    obtain ⟨v2, ds2⟩ := st2
    have hi1 := (hst2 h6).1
    dsimp only at hi1
    refine hw_ghost (Ghost.of_eq (M' := [.cells b8 [.raw v2]] ++ .arr v2 5 (([] : List DealS).map eDeal ++ ds2.map fun p : DlV => HVal.agg [.str p.1.Id, .str p.1.By, .int .i64 p.1.From, .int .i64 p.1.To, .raw p.2]) :: ds2.map fun p : DlV => MObj.arr p.2 3 ((DealS.Gives p.1).map eGive)) (by rw [List.append_nil]; rfl)) ?_
    refine hw_ghost (Ghost.fz_each (A := [.cells b8 [.raw v2]]) (enc := eDeal) (raw := fun y v => HVal.agg [.str y.Id, .str y.By, .int .i64 y.From, .int .i64 y.To, .raw v]) (cs := fun y v => [HVal.str y.Id, .str y.By, .int .i64 y.From, .int .i64 y.To, .raw v]) (st := DealS.Gives) (eb := eGive) (j := 4) (fun _ _ => rfl) (fun _ _ => rfl) (fun _ _ => rfl) ds2 []) ?_
    refine hw_ghost (Ghost.of_eq (M' := [.cells b8 [.raw v2], .arr v2 5 ((dvL text).map eDeal)]) (by rw [List.nil_append, hi1]; rfl)) ?_
    refine hw_ghost (Ghost.fcell (i := 1) (k := 0) (j := 0) rfl rfl rfl) ?_
    refine hw_ghost (Ghost.of_eq (M' := [.cells b8 [eDeals (dvL text)]]) rfl) ?_
    refine hw_ghost (Ghost.fc 8 (i := 0) rfl rfl) ?_
    refine hw_reg ?_
    refine dp rfl (pop_loadw ty28 rfl rfl rfl rfl) ?_
    refine dp rfl (pop_load ty30 rfl rfl rfl) ?_
    refine dp rfl (pop_call ca47 rfl (WeakL.refl _) (c_trade_CheckOffers (m := m) (l := dvL text) ht (by omega) (fun x hx => by have := (hga x hx).2.1; omega))) ?_
    refine dp rfl (pop_assign rfl) ?_
    refine dn ?_
    refine hw_reg ?_
    refine dp rfl (pop_move rfl) ?_
    refine dp rfl (pop_neq rfl rfl) ?_
    refine dn ?_
    refine hw_cond rfl (fun h7 => ?_) (fun h8 => ?_)
    ·try simp at h7
     refine hw_reg ?_
     refine dp rfl (pop_move rfl) ?_
     refine dp rfl (pop_assign rfl) ?_
     refine dp rfl (pop_assign rfl) ?_
     refine dp rfl (pop_assign rfl) ?_
     refine dn ?_
     refine hw_ret ?_
     have hR : dealsE m (dvL text) = dealsE m (dvL text) := rfl
     first
     | exact ret_w rfl (weakDv (dv_1 h1).1 h1 (dv_1 h1).2)
     | exact ret_w rfl (weakDv (dv_2 h2 (by omega)).1 (by decide) (dv_2 h2 (by omega)).2)
     | exact ret_gw Ghost.clear rfl (weakDv (dv_3 h2 (by omega) h5).1 (by decide) (dv_3 h2 (by omega) h5).2) ⟨rfl, rfl⟩
     | exact ret_w rfl (weakDv ((dv_4 h2 (by omega) h6).1.trans hR) h7 (dv_4 h2 (by omega) h6).2)
     | exact ret_p rfl (eqDv ((dv_4 h2 (by omega) h6).1.trans (hR.trans h8)) (dv_4 h2 (by omega) h6).2)
    ·try simp at h8
     refine hw_skip ?_
     refine seqQ_n ?_
     refine hw_reg ?_
     refine dp rfl (pop_load ty30 rfl rfl rfl) ?_
     refine dp rfl (pop_assign rfl) ?_
     refine dp rfl (pop_assign rfl) ?_
     refine dp rfl (pop_assign rfl) ?_
     refine dn ?_
     refine hw_ret ?_
     have hR : dealsE m (dvL text) = dealsE m (dvL text) := rfl
     first
     | exact ret_w rfl (weakDv (dv_1 h1).1 h1 (dv_1 h1).2)
     | exact ret_w rfl (weakDv (dv_2 h2 (by omega)).1 (by decide) (dv_2 h2 (by omega)).2)
     | exact ret_gw Ghost.clear rfl (weakDv (dv_3 h2 (by omega) h5).1 (by decide) (dv_3 h2 (by omega) h5).2) ⟨rfl, rfl⟩
     | exact ret_w rfl (weakDv ((dv_4 h2 (by omega) h6).1.trans hR) h7 (dv_4 h2 (by omega) h6).2)
     | exact ret_p rfl (eqDv ((dv_4 h2 (by omega) h6).1.trans (hR.trans h8)) (dv_4 h2 (by omega) h6).2)

/-- benchwarmer/trade.Text -/
theorem c_trade_Text [Tracks] {m : MarketS} {l : List DealS} (ht : m.Teams.length ≤ 1000000) (hl : l.length ≤ 1000000) (hx0 : ∀ x ∈ l, x.Gives.length ≤ 1000000) : ConP Tryz.prog 11 [eMarket m, eDeals l] (.tup [.str (dlS m l), .int .i64 (dlE m l)]) := by
 refine Con.of_body Tryz.func11 rfl Tryz.ntmps11 rfl rfl ?_
 refine hw_reg ?_
 refine dp rfl (pop_box rfl rfl) ?_
 refine dp rfl (pop_assign rfl) ?_
 refine dp rfl (pop_assign rfl) ?_
 refine dn ?_
 refine hw_seq ?_
 refine hw_reg ?_
 refine dp rfl (pop_loadw ty28 rfl rfl rfl rfl) ?_
 refine dp rfl (pop_move rfl) ?_
 refine dp rfl (pop_call ca47 rfl (WeakL.refl _) (c_trade_CheckOffers (m := m) (l := l) ht hl hx0)) ?_
 refine dp rfl (pop_assign rfl) ?_
 refine dn ?_
 refine hw_reg ?_
 refine dp rfl (pop_move rfl) ?_
 refine dp rfl (pop_neq rfl rfl) ?_
 refine dn ?_
 refine hw_cond rfl (fun h1 => ?_) (fun h2 => ?_)
 ·try simp at h1
  refine hw_reg ?_
  refine dp rfl (pop_move rfl) ?_
  refine dp rfl (pop_assign rfl) ?_
  refine dp rfl (pop_assign rfl) ?_
  refine dn ?_
  refine hw_ret ?_
  first
  | exact ret_p rfl (dl_1 (by simpa using h1))
  | (refine ret_g Ghost.clear rfl ⟨dl_2 hz ?_, rfl⟩; omega)
  | (refine ret_p rfl (dl_3 hz ?_); omega)
 ·try simp at h2
  refine hw_skip ?_
  refine seqQ_n ?_
  have hz : dealsE m l = 0 := by simpa using h2
  obtain ⟨hl5, hkk⟩ := deals_k hz
  refine hw_reg ?_
  refine de rfl (eop_allocB 5 ty110 rfl fun b7 => ?_)
  refine dn ?_
  refine hw_seq ?_
  refine hw_reg ?_
  refine dp rfl (pop_move rfl) ?_
  refine dp rfl (pop_lenm ty30 rfl) ?_
  refine dp rfl (pop_move rfl) ?_
  refine dn ?_
  refine hw_block ?_
  refine hw_loopw2 [9, 11, 20, 21, 22, 23, 24, 25, 26, 27, 28, 29, 30, 31, 32, 33, 34, 35, 36, 37, 38, 39, 40, 41, 42, 43, 44, 45, 46, 47, 48, 49, 50, 51, 52, 53, 54, 55, 56, 57, 58, 59, 60, 61, 62, 63, 64, 65, 66] (fun (k : Nat) (v : Value) => [(20, .int .i64 k)]) (fun (k : Nat) (v : Value) => [.bld b7 110 5 v v (dlT (l.take k))]) (fun (k : Nat) (v : Value) => k ≤ l.length ∧ (True)) (fun (k : Nat) (v : Value) => l.length - k) (0) (.slice none 0 0) ?_ ?_ ?_ ?_
  ·exact ⟨Nat.zero_le _, trivial⟩
  ·exact ⟨rfl, trivial⟩
  ·exact perm_eq (by simp [dlT, dlL, lnT])
  ·intro k v hinv
   obtain ⟨hk, -⟩ := hinv
   refine hw_reg ?_
   refine dp rfl (pop_lss rfl rfl) ?_
   refine dn ?_
   refine hw_seq ?_
   refine hw_cond rfl (fun h3 => ?_) (fun h4 => ?_)
   ·try simp at h3
    obtain ⟨x, hx⟩ : ∃ x, l[k]? = some x := ⟨_, List.getElem?_eq_getElem h3⟩
    have hdx := drop_cons hx
    obtain ⟨hf1, hf2⟩ := (hkk x (List.mem_of_getElem? hx)).fr
    obtain ⟨hf3, hf4⟩ := (hkk x (List.mem_of_getElem? hx)).to
    have hkx := hkk x (List.mem_of_getElem? hx)
    have a1 := keyS_len hkx.id
    have a2 := keyS_len hkx.by'
    have a3 := itoa15 hkx.fr
    have a4 := itoa15 hkx.to
    have hxg := hkx.len
    have hof := deal_of hkx
    have hTk := dlT_len (l := l.take k) (fun p hp => hkk p (List.mem_of_mem_take hp))
    have hT2 : (l.take k).length ≤ 500 := by rw [List.length_take]; omega
    refine hw_skip ?_
    refine seqQ_n ?_
    refine hw_seq ?_
    refine hw_block ?_
    refine hw_reg ?_
    refine dp rfl (pop_idx ty30 ty47 rfl rfl rfl (by first | assumption | simp_all)) ?_
    refine dp rfl (pop_loadw ty47 rfl rfl rfl rfl) ?_
    refine de rfl (eop_alloc ty47 rfl fun b9 => ?_)
    refine de0 (eop_storew ty47 rfl rfl rfl rfl rfl ?_)
    refine dn ?_
    refine hw_ghost (Ghost.fc0 9 rfl) ?_
    refine hw_draw (fun _ => True) [] mixed ?_
    refine ahp 0 rfl rfl (by kernel_rfl) (by kernel_rfl) (pop_fieldAddr ty47 rfl ty9 (by decide) rfl) ?_
    refine ahp 1 rfl rfl (by kernel_rfl) (by kernel_rfl) (pop_load ty9 rfl rfl rfl) ?_
    refine ahp 2 rfl rfl (by kernel_rfl) (by kernel_rfl) (pop_adds rfl rfl (by simp; omega)) ?_
    refine ahp 3 rfl rfl (by kernel_rfl) (by kernel_rfl) (pop_adds rfl rfl (by simp; omega)) ?_
    refine ahp 4 rfl rfl (by kernel_rfl) (by kernel_rfl) (pop_fieldAddr ty47 rfl ty9 (by decide) rfl) ?_
    refine ahp 5 rfl rfl (by kernel_rfl) (by kernel_rfl) (pop_load ty9 rfl rfl rfl) ?_
    refine ahp 6 rfl rfl (by kernel_rfl) (by kernel_rfl) (pop_adds rfl rfl (by simp; omega)) ?_
    refine ahp 7 rfl rfl (by kernel_rfl) (by kernel_rfl) (pop_adds rfl rfl (by simp; omega)) ?_
    refine ahp 8 rfl rfl (by kernel_rfl) (by kernel_rfl) (pop_fieldAddr ty47 rfl ty44 (by decide) rfl) ?_
    refine ahp 9 rfl rfl (by kernel_rfl) (by kernel_rfl) (pop_fieldAddr ty44 rfl ty3 (by decide) rfl) ?_
    refine ahp 10 rfl rfl (by kernel_rfl) (by kernel_rfl) (pop_load ty3 rfl rfl rfl) ?_
    refine ahp 11 rfl rfl (by kernel_rfl) (by kernel_rfl) (pop_call ca29 rfl (WeakL.refl _) (c_Itoa (by omega) (by omega))) ?_
    refine ahp 12 rfl rfl (by kernel_rfl) (by kernel_rfl) (pop_adds rfl rfl (by simp; omega)) ?_
    refine ahp 13 rfl rfl (by kernel_rfl) (by kernel_rfl) (pop_adds rfl rfl (by simp; omega)) ?_
    refine ahp 14 rfl rfl (by kernel_rfl) (by kernel_rfl) (pop_fieldAddr ty47 rfl ty44 (by decide) rfl) ?_
    refine ahp 15 rfl rfl (by kernel_rfl) (by kernel_rfl) (pop_fieldAddr ty44 rfl ty3 (by decide) rfl) ?_
    refine ahp 16 rfl rfl (by kernel_rfl) (by kernel_rfl) (pop_load ty3 rfl rfl rfl) ?_
    refine ahp 17 rfl rfl (by kernel_rfl) (by kernel_rfl) (pop_call ca29 rfl (WeakL.refl _) (c_Itoa (by omega) (by omega))) ?_
    refine ahp 18 rfl rfl (by kernel_rfl) (by kernel_rfl) (pop_adds rfl rfl (by simp; omega)) ?_
    refine ahp 19 rfl rfl (by kernel_rfl) (by kernel_rfl) (pop_adds rfl rfl (by simp; omega)) ?_
    refine ahe 20 rfl (by kernel_rfl) ?_
    refine hop_e rfl (eop_callx (i := 0) ca48 rfl (WeakL.refl _) rfl (c_strings_Builder_WriteString (by simp; omega)) ?_)
    rintro _ _ ⟨v44, rfl, rfl⟩
    refine ⟨fun _ => .inl trivial, ?_⟩
    refine ahz (by kernel_rfl) ?_
    refine hw_reg ?_
    refine dp rfl (pop_fieldAddr ty47 rfl ty45 (by decide) rfl) ?_
    refine dp rfl (pop_load ty45 rfl rfl rfl) ?_
    refine dp rfl (pop_lenm ty45 rfl) ?_
    refine dp rfl (pop_move rfl) ?_
    refine dn ?_
    refine hw_block ?_
    refine hw_loopw2 [11, 48, 49, 50, 51, 52, 53, 54, 55, 56, 57, 58, 59, 60, 61, 62, 63, 64, 65] (fun (j : Nat) (u : Value) => [(48, .int .i64 j)]) (fun (j : Nat) (u : Value) => [.bld b7 110 5 u u (dlT (l.take k) ++ (jn 32 (offW x) ++ [10]) ++ lnT (((x.Gives.take j).map givW).map (jn 32)))]) (fun (j : Nat) (u : Value) => j ≤ x.Gives.length ∧ (True)) (fun (j : Nat) (u : Value) => x.Gives.length - j) (0) (v44) ?_ ?_ ?_ ?_
    ·exact ⟨Nat.zero_le _, trivial⟩
    ·exact ⟨rfl, trivial⟩
    ·exact perm_eq (by congr 1; simp [offW, jn, offerS, lnT])
    ·intro j u hinv
     obtain ⟨hj, -⟩ := hinv
     refine hw_reg ?_
     refine dp rfl (pop_lss rfl rfl) ?_
     refine dn ?_
     refine hw_seq ?_
     refine hw_cond rfl (fun h5 => ?_) (fun h6 => ?_)
     ·try simp at h5
      obtain ⟨g, hg⟩ : ∃ g, x.Gives[j]? = some g := ⟨_, List.getElem?_eq_getElem h5⟩
      have hdg := drop_cons hg
      obtain ⟨hg1, hg2, hg3⟩ := hkx.gv g (List.mem_of_getElem? hg)
      have b1 := keyS_len hg1
      have b2 := keyS_len hg2
      have b3 := keyS_len hg3
      have hgT := gvT_len hkx j
      refine hw_skip ?_
      refine seqQ_n ?_
      refine hw_seq ?_
      refine hw_block ?_
      refine hw_reg ?_
      refine dp rfl (pop_idx ty45 ty69 rfl rfl rfl (by first | assumption | simp_all)) ?_
      refine dp rfl (pop_loadw ty69 rfl rfl rfl rfl) ?_
      refine de rfl (eop_alloc ty69 rfl fun b11 => ?_)
      refine de0 (eop_storew ty69 rfl rfl rfl rfl rfl ?_)
      refine dn ?_
      refine hw_ghost (Ghost.fc0 11 rfl) ?_
      refine hw_reg1 ?_
      refine dp rfl (pop_fieldAddr ty69 rfl ty9 (by decide) rfl) ?_
      refine dp rfl (pop_load ty9 rfl rfl rfl) ?_
      refine dp rfl (pop_adds rfl rfl (by simp; omega)) ?_
      refine dp rfl (pop_adds rfl rfl (by simp; omega)) ?_
      refine dp rfl (pop_fieldAddr ty69 rfl ty9 (by decide) rfl) ?_
      refine dp rfl (pop_load ty9 rfl rfl rfl) ?_
      refine dp rfl (pop_adds rfl rfl (by simp; omega)) ?_
      refine dp rfl (pop_adds rfl rfl (by simp; omega)) ?_
      refine dp rfl (pop_fieldAddr ty69 rfl ty9 (by decide) rfl) ?_
      refine dp rfl (pop_load ty9 rfl rfl rfl) ?_
      refine dp rfl (pop_adds rfl rfl (by simp; omega)) ?_
      refine dp rfl (pop_adds rfl rfl (by simp; omega)) ?_
      refine de rfl (eop_callx (i := 0) ca48 rfl (WeakL.refl _) rfl (c_strings_Builder_WriteString (by simp only [List.length_append, List.length_cons, List.length_nil]; omega)) ?_)
      rintro _ _ ⟨v64, rfl, rfl⟩
      refine dn ?_
      refine blockQ_n ?_
      refine seqQ_n ?_
      refine hw_reg1 ?_
      refine dp rfl (pop_add64 rfl rfl (by omega) (by omega)) ?_
      refine dp rfl (pop_move rfl) ?_
      refine dn ?_
      exact ⟨j + 1, v64, ⟨by omega, trivial⟩, by dsimp only; omega, ⟨rfl, trivial⟩, (by repeat (first | exact keeps_refl | refine keeps_upd rfl ?_ | refine keeps_loop rfl rfl ?_)), perm_eq (by dsimp only; congr 1; rw [take_snoc' hg]; simp [lnT, givW, jn, givS])⟩
     ·try simp at h6
      have hnj : x.Gives.length ≤ j := by omega
      obtain rfl : j = x.Gives.length := by omega
      refine hw_exit ?_
      refine seqQ_x ?_
      refine loopQ2_x ?_
      refine blockQ_eq ?_
      refine blockQ_n ?_
      refine seqQ_n ?_
      refine hw_reg1 ?_
      refine dp rfl (pop_add64 rfl rfl (by omega) (by omega)) ?_
      refine dp rfl (pop_move rfl) ?_
      refine dn ?_
      exact ⟨k + 1, u, ⟨by omega, trivial⟩, by dsimp only; omega, ⟨rfl, trivial⟩, (by repeat (first | exact keeps_refl | refine keeps_upd rfl ?_ | refine keeps_loop rfl rfl ?_)), perm_eq (by dsimp only; congr 1; rw [take_snoc' hx, dlT_snoc, List.take_length]; simp)⟩
   ·try simp at h4
    have hnk : l.length ≤ k := by omega
    obtain rfl : k = l.length := by omega
    rw [List.take_length]
    refine hw_exit ?_
    refine seqQ_x ?_
    refine loopQ2_x ?_
    refine blockQ_eq ?_
    refine seqQ_n ?_
    refine hw_seq ?_
    refine hw_reg ?_
    refine de rfl (eop_callx (i := 0) ca49 rfl (WeakL.refl _) rfl c_strings_Builder_Len ?_)
    rintro _ _ ⟨rfl, rfl⟩
    refine dp rfl (pop_gtr rfl rfl) ?_
    refine dn ?_
    refine hw_cond rfl (fun h7 => ?_) (fun h8 => ?_)
    ·try simp at h7
     refine hw_reg ?_
     refine dp rfl (pop_assign rfl) ?_
     refine dp rfl (pop_assign rfl) ?_
     refine dn ?_
     refine hw_ret ?_
     first
     | exact ret_p rfl (dl_1 (by simpa using h1))
     | (refine ret_g Ghost.clear rfl ⟨dl_2 hz ?_, rfl⟩; omega)
     | (refine ret_p rfl (dl_3 hz ?_); omega)
    ·try simp at h8
     refine hw_skip ?_
     refine seqQ_n ?_
     refine hw_reg ?_
     refine de rfl (eop_callx (i := 0) ca50 rfl (WeakL.refl _) rfl c_strings_Builder_String ?_)
     rintro _ _ ⟨rfl, rfl⟩
     refine dp rfl (pop_assign rfl) ?_
     refine dp rfl (pop_assign rfl) ?_
     refine dn ?_
     refine hw_ret ?_
     first
     | exact ret_p rfl (dl_1 (by simpa using h1))
     | (refine ret_g Ghost.clear rfl ⟨dl_2 hz ?_, rfl⟩; omega)
     | (refine ret_p rfl (dl_3 hz ?_); omega)

/-- benchwarmer/benchref1.OfferLines -/
theorem c_benchref1_OfferLines [Tracks] {l : List DealS} (hl : l.length ≤ 500) (hkk : ∀ x ∈ l, DealK x) : ConP Tryz.prog 20 [eDeals l] (.str (dlT l)) := by
 refine Con.of_body Tryz.func20 rfl Tryz.ntmps20 rfl rfl ?_
 refine hw_reg ?_
 refine dp rfl (pop_assign rfl) ?_
 refine dn ?_
 refine hw_reg ?_
 refine dp rfl (pop_assign rfl) ?_
 refine dn ?_
 refine hw_seq ?_
 refine hw_reg ?_
 refine dp rfl (pop_move rfl) ?_
 refine dp rfl (pop_lenm ty30 rfl) ?_
 refine dp rfl (pop_move rfl) ?_
 refine dn ?_
 refine hw_block ?_
 refine hw_loopw [3, 5, 7, 10, 11, 12, 13, 14, 15, 16, 17, 18, 19, 20, 21, 22, 23, 24, 25, 26, 27, 28, 29, 30, 31, 32, 33, 34, 35, 36, 37, 38, 39, 40, 41, 42, 43, 44, 45, 46, 47, 48, 49, 50, 51, 52, 53, 54, 55, 56, 57, 58] (fun (k : Nat) => [(10, .int .i64 k), (3, .str (dlT (l.take k)))]) (fun (k : Nat) => []) (fun (k : Nat) => k ≤ l.length ∧ (True)) (fun (k : Nat) => l.length - k) (0) ?_ ?_ ?_ ?_
 ·exact ⟨Nat.zero_le _, trivial⟩
 ·exact ⟨rfl, rfl, trivial⟩
 ·exact List.Perm.refl _
 ·intro k hinv
  obtain ⟨hk, -⟩ := hinv
  refine hw_reg ?_
  refine dp rfl (pop_lss rfl rfl) ?_
  refine dn ?_
  refine hw_seq ?_
  refine hw_cond rfl (fun h1 => ?_) (fun h2 => ?_)
  ·try simp at h1
   obtain ⟨x, hx⟩ : ∃ x, l[k]? = some x := ⟨_, List.getElem?_eq_getElem h1⟩
   have hdx := drop_cons hx
   obtain ⟨hf1, hf2⟩ := (hkk x (List.mem_of_getElem? hx)).fr
   obtain ⟨hf3, hf4⟩ := (hkk x (List.mem_of_getElem? hx)).to
   have hkx := hkk x (List.mem_of_getElem? hx)
   have a1 := keyS_len hkx.id
   have a2 := keyS_len hkx.by'
   have a3 := itoa15 hkx.fr
   have a4 := itoa15 hkx.to
   have hxg := hkx.len
   have hof := deal_of hkx
   have hTk := dlT_len (l := l.take k) (fun p hp => hkk p (List.mem_of_mem_take hp))
   have hT2 : (l.take k).length ≤ 500 := by rw [List.length_take]; omega
   refine hw_skip ?_
   refine seqQ_n ?_
   refine hw_seq ?_
   refine hw_block ?_
   refine hw_reg ?_
   refine dp rfl (pop_idx ty30 ty47 rfl rfl rfl (by first | assumption | simp_all)) ?_
   refine dp rfl (pop_loadw ty47 rfl rfl rfl rfl) ?_
   refine de rfl (eop_alloc ty47 rfl fun b5 => ?_)
   refine de0 (eop_storew ty47 rfl rfl rfl rfl rfl ?_)
   refine dn ?_
   refine hw_ghost (Ghost.fc0 5 rfl) ?_
   refine hw_draw (fun _ => True) [] mixed ?_
   refine ahp 0 rfl rfl (by kernel_rfl) (by kernel_rfl) (pop_move rfl) ?_
   refine ahp 1 rfl rfl (by kernel_rfl) (by kernel_rfl) (pop_fieldAddr ty47 rfl ty9 (by decide) rfl) ?_
   refine ahp 2 rfl rfl (by kernel_rfl) (by kernel_rfl) (pop_load ty9 rfl rfl rfl) ?_
   refine ahp 3 rfl rfl (by kernel_rfl) (by kernel_rfl) (pop_adds rfl rfl (by simp; omega)) ?_
   refine ahp 4 rfl rfl (by kernel_rfl) (by kernel_rfl) (pop_adds rfl rfl (by simp; omega)) ?_
   refine ahp 5 rfl rfl (by kernel_rfl) (by kernel_rfl) (pop_fieldAddr ty47 rfl ty9 (by decide) rfl) ?_
   refine ahp 6 rfl rfl (by kernel_rfl) (by kernel_rfl) (pop_load ty9 rfl rfl rfl) ?_
   refine ahp 7 rfl rfl (by kernel_rfl) (by kernel_rfl) (pop_adds rfl rfl (by simp; omega)) ?_
   refine ahp 8 rfl rfl (by kernel_rfl) (by kernel_rfl) (pop_adds rfl rfl (by simp; omega)) ?_
   refine ahp 9 rfl rfl (by kernel_rfl) (by kernel_rfl) (pop_fieldAddr ty47 rfl ty44 (by decide) rfl) ?_
   refine ahp 10 rfl rfl (by kernel_rfl) (by kernel_rfl) (pop_fieldAddr ty44 rfl ty3 (by decide) rfl) ?_
   refine ahp 11 rfl rfl (by kernel_rfl) (by kernel_rfl) (pop_load ty3 rfl rfl rfl) ?_
   refine ahp 12 rfl rfl (by kernel_rfl) (by kernel_rfl) (pop_call ca29 rfl (WeakL.refl _) (c_Itoa (by omega) (by omega))) ?_
   refine ahp 13 rfl rfl (by kernel_rfl) (by kernel_rfl) (pop_adds rfl rfl (by simp; omega)) ?_
   refine ahp 14 rfl rfl (by kernel_rfl) (by kernel_rfl) (pop_adds rfl rfl (by simp; omega)) ?_
   refine ahp 15 rfl rfl (by kernel_rfl) (by kernel_rfl) (pop_fieldAddr ty47 rfl ty44 (by decide) rfl) ?_
   refine ahp 16 rfl rfl (by kernel_rfl) (by kernel_rfl) (pop_fieldAddr ty44 rfl ty3 (by decide) rfl) ?_
   refine ahp 17 rfl rfl (by kernel_rfl) (by kernel_rfl) (pop_load ty3 rfl rfl rfl) ?_
   refine ahp 18 rfl rfl (by kernel_rfl) (by kernel_rfl) (pop_call ca29 rfl (WeakL.refl _) (c_Itoa (by omega) (by omega))) ?_
   refine ahp 19 rfl rfl (by kernel_rfl) (by kernel_rfl) (pop_adds rfl rfl (by simp; omega)) ?_
   refine ahp 20 rfl rfl (by kernel_rfl) (by kernel_rfl) (pop_adds rfl rfl (by simp; omega)) ?_
   refine ahp 21 rfl rfl (by kernel_rfl) (by kernel_rfl) (pop_adds rfl rfl (by simp; omega)) ?_
   refine ahp 22 rfl rfl (by kernel_rfl) (by kernel_rfl) (pop_assign rfl) ?_
   refine ahz (by kernel_rfl) ?_
   refine hw_reg ?_
   refine dp rfl (pop_fieldAddr ty47 rfl ty45 (by decide) rfl) ?_
   refine dp rfl (pop_load ty45 rfl rfl rfl) ?_
   refine dp rfl (pop_lenm ty45 rfl) ?_
   refine dp rfl (pop_move rfl) ?_
   refine dn ?_
   refine hw_block ?_
   refine hw_loopw [3, 7, 39, 40, 41, 42, 43, 44, 45, 46, 47, 48, 49, 50, 51, 52, 53, 54, 55, 56, 57] (fun (j : Nat) => [(39, .int .i64 j), (3, .str (dlT (l.take k) ++ (jn 32 (offW x) ++ [10]) ++ lnT (((x.Gives.take j).map givW).map (jn 32))))]) (fun (j : Nat) => []) (fun (j : Nat) => j ≤ x.Gives.length ∧ (True)) (fun (j : Nat) => x.Gives.length - j) (0) ?_ ?_ ?_ ?_
   ·exact ⟨Nat.zero_le _, trivial⟩
   ·exact ⟨rfl, congrArg (fun q => some (HVal.str q)) (by simp [offW, jn, offerS, lnT]), trivial⟩
   ·exact List.Perm.refl _
   ·intro j hinv
    obtain ⟨hj, -⟩ := hinv
    refine hw_reg ?_
    refine dp rfl (pop_lss rfl rfl) ?_
    refine dn ?_
    refine hw_seq ?_
    refine hw_cond rfl (fun h3 => ?_) (fun h4 => ?_)
    ·try simp at h3
     obtain ⟨g, hg⟩ : ∃ g, x.Gives[j]? = some g := ⟨_, List.getElem?_eq_getElem h3⟩
     have hdg := drop_cons hg
     obtain ⟨hg1, hg2, hg3⟩ := hkx.gv g (List.mem_of_getElem? hg)
     have b1 := keyS_len hg1
     have b2 := keyS_len hg2
     have b3 := keyS_len hg3
     have hgT := gvT_len hkx j
     refine hw_skip ?_
     refine seqQ_n ?_
     refine hw_seq ?_
     refine hw_block ?_
     refine hw_reg ?_
     refine dp rfl (pop_idx ty45 ty69 rfl rfl rfl (by first | assumption | simp_all)) ?_
     refine dp rfl (pop_loadw ty69 rfl rfl rfl rfl) ?_
     refine de rfl (eop_alloc ty69 rfl fun b7 => ?_)
     refine de0 (eop_storew ty69 rfl rfl rfl rfl rfl ?_)
     refine dn ?_
     refine hw_ghost (Ghost.fc0 7 rfl) ?_
     refine hw_reg1 ?_
     refine dp rfl (pop_move rfl) ?_
     refine dp rfl (pop_fieldAddr ty69 rfl ty9 (by decide) rfl) ?_
     refine dp rfl (pop_load ty9 rfl rfl rfl) ?_
     refine dp rfl (pop_adds rfl rfl (by simp; omega)) ?_
     refine dp rfl (pop_adds rfl rfl (by simp; omega)) ?_
     refine dp rfl (pop_fieldAddr ty69 rfl ty9 (by decide) rfl) ?_
     refine dp rfl (pop_load ty9 rfl rfl rfl) ?_
     refine dp rfl (pop_adds rfl rfl (by simp; omega)) ?_
     refine dp rfl (pop_adds rfl rfl (by simp; omega)) ?_
     refine dp rfl (pop_fieldAddr ty69 rfl ty9 (by decide) rfl) ?_
     refine dp rfl (pop_load ty9 rfl rfl rfl) ?_
     refine dp rfl (pop_adds rfl rfl (by simp; omega)) ?_
     refine dp rfl (pop_adds rfl rfl (by simp; omega)) ?_
     refine dp rfl (pop_adds rfl rfl (by simp only [List.length_append, List.length_cons, List.length_nil]; omega)) ?_
     refine dp rfl (pop_assign rfl) ?_
     refine dn ?_
     refine blockQ_n ?_
     refine seqQ_n ?_
     refine hw_reg1 ?_
     refine dp rfl (pop_add64 rfl rfl (by omega) (by omega)) ?_
     refine dp rfl (pop_move rfl) ?_
     refine dn ?_
     exact ⟨j + 1, ⟨by omega, trivial⟩, by dsimp only; omega, ⟨rfl, congrArg (fun q => some (HVal.str q)) (by rw [take_snoc' hg]; simp [lnT, givW, jn, givS]), trivial⟩, (by repeat (first | exact keeps_refl | refine keeps_upd rfl ?_ | refine keeps_loop rfl rfl ?_)), List.Perm.refl _⟩
    ·try simp at h4
     have hnj : x.Gives.length ≤ j := by omega
     obtain rfl : j = x.Gives.length := by omega
     refine hw_exit ?_
     refine seqQ_x ?_
     refine loopQ_x ?_
     refine blockQ_eq ?_
     refine blockQ_n ?_
     refine seqQ_n ?_
     refine hw_reg1 ?_
     refine dp rfl (pop_add64 rfl rfl (by omega) (by omega)) ?_
     refine dp rfl (pop_move rfl) ?_
     refine dn ?_
     exact ⟨k + 1, ⟨by omega, trivial⟩, by dsimp only; omega, ⟨rfl, congrArg (fun q => some (HVal.str q)) (by rw [take_snoc' hx, dlT_snoc, List.take_length]; simp), trivial⟩, (by repeat (first | exact keeps_refl | refine keeps_upd rfl ?_ | refine keeps_loop rfl rfl ?_)), List.Perm.refl _⟩
  ·try simp at h2
   have hnk : l.length ≤ k := by omega
   obtain rfl : k = l.length := by omega
   rw [List.take_length]
   refine hw_exit ?_
   refine seqQ_x ?_
   refine loopQ_x ?_
   refine blockQ_eq ?_
   refine seqQ_n ?_
   refine hw_reg ?_
   refine dp rfl (pop_move rfl) ?_
   refine dp rfl (pop_assign rfl) ?_
   refine dn ?_
   refine hw_ret ?_
   refine ret_p rfl ?_
   rfl

/-- (*benchwarmer/benchmake.Stream).OfferString -/
theorem c_benchmake_Stream_OfferString [Tracks] {b : Nat} {l : List Int} {a : Nat} {m : MarketS}  (ha : a ≤ 600000) (hm : GoodM m) : Con Tryz.prog 15 [pAt b, eMarket m] [St b l a] (fun x M' => ∃ (t : Str) (a' : Nat), x = .str t ∧ t.length ≤ 200000 ∧ a' ≤ a + 1400 ∧ M' = [St b l a']) := by
 have hm5 := hm.len
 refine Con.of_body Tryz.func15 rfl Tryz.ntmps15 rfl rfl ?_
 refine hw_reg ?_
 refine dp rfl (pop_box rfl rfl) ?_
 refine dp rfl (pop_assign rfl) ?_
 refine dn ?_
 refine hw_reg ?_
 refine dp rfl (pop_assign rfl) ?_
 refine dn ?_
 refine hw_join [5, 6, 7, 8, 9, 10, 11, 12, 13, 14, 15, 16, 17, 18, 19, 20, 21] (fun (q : Str × Nat) => [(5, .str q.1)]) (fun (q : Str × Nat) => [St b l q.2]) (fun (q : Str × Nat) => q.1.length ≤ 5000 ∧ q.2 ≤ a + 1000) ?_ ?_
 ·skip
  refine hw_reg ?_
  refine dp rfl (pop_loadw ty28 rfl rfl rfl rfl) ?_
  refine dp rfl (pop_call ca8 rfl (WeakL.refl _) (c_benchref1_MarketFault (m := m) (by omega) (fun s hs => Nat.le_trans (hm.sh s hs) (by decide)))) ?_
  refine dp rfl (pop_eql rfl rfl) ?_
  refine dn ?_
  refine hw_cond rfl (fun h1 => ?_) (fun h2 => ?_)
  ·try simp at h1
   refine hw_draw (fun _ => True) [] mixed ?_
   refine ahp 0 rfl rfl (by kernel_rfl) (by kernel_rfl) (pop_move rfl) ?_
   refine ahp 1 rfl rfl (by kernel_rfl) (by kernel_rfl) (pop_loadw ty28 rfl rfl rfl rfl) ?_
   refine ahp 2 rfl rfl (by kernel_rfl) (by kernel_rfl) (pop_move rfl) ?_
   refine ahp 3 rfl rfl (by kernel_rfl) (by kernel_rfl) (pop_loadw ty28 rfl rfl rfl rfl) ?_
   refine ahe 4 rfl (by kernel_rfl) ?_
   first
   | refine hop_e rfl (eop_callx (i := 0) ca7 rfl (WeakL.refl _) rfl (c_benchmake_Stream_OwnerList (by first | assumption | omega | (simp; omega) | simp_all) (by first | assumption | omega | (simp; omega) | simp_all)) ?_)
   | refine hop_e rfl (eop_callx (i := 1) ca7 rfl (WeakL.refl _) rfl (c_benchmake_Stream_OwnerList (by first | assumption | omega | (simp; omega) | simp_all) (by first | assumption | omega | (simp; omega) | simp_all)) ?_)
   | refine hop_e rfl (eop_callx (i := 2) ca7 rfl (WeakL.refl _) rfl (c_benchmake_Stream_OwnerList (by first | assumption | omega | (simp; omega) | simp_all) (by first | assumption | omega | (simp; omega) | simp_all)) ?_)
   | refine hop_e rfl (eop_callx (i := 3) ca7 rfl (WeakL.refl _) rfl (c_benchmake_Stream_OwnerList (by first | assumption | omega | (simp; omega) | simp_all) (by first | assumption | omega | (simp; omega) | simp_all)) ?_)
   rintro _ _ ⟨o14, a14, rfl, ho14, ha14, rfl⟩
   refine ⟨fun _ => .inl trivial, ?_⟩
   refine ahe 5 rfl (by kernel_rfl) ?_
   first
   | refine hop_e rfl (eop_callx (i := 0) ca6 rfl (WeakL.refl _) rfl (c_benchmake_Stream_OfferList (by first | assumption | omega | (simp; omega) | simp_all) (by first | assumption | omega | (simp; omega) | simp_all) (by first | assumption | omega | (simp; omega) | simp_all)) ?_)
   | refine hop_e rfl (eop_callx (i := 1) ca6 rfl (WeakL.refl _) rfl (c_benchmake_Stream_OfferList (by first | assumption | omega | (simp; omega) | simp_all) (by first | assumption | omega | (simp; omega) | simp_all) (by first | assumption | omega | (simp; omega) | simp_all)) ?_)
   | refine hop_e rfl (eop_callx (i := 2) ca6 rfl (WeakL.refl _) rfl (c_benchmake_Stream_OfferList (by first | assumption | omega | (simp; omega) | simp_all) (by first | assumption | omega | (simp; omega) | simp_all) (by first | assumption | omega | (simp; omega) | simp_all)) ?_)
   | refine hop_e rfl (eop_callx (i := 3) ca6 rfl (WeakL.refl _) rfl (c_benchmake_Stream_OfferList (by first | assumption | omega | (simp; omega) | simp_all) (by first | assumption | omega | (simp; omega) | simp_all) (by first | assumption | omega | (simp; omega) | simp_all)) ?_)
   rintro _ _ ⟨x15, a15, rfl, hx15, hxo15, ha15, rfl⟩
   refine ⟨fun _ => .inl trivial, ?_⟩
   refine ahp 6 rfl rfl (by kernel_rfl) (by kernel_rfl) (pop_assign rfl) ?_
   refine ahz (by kernel_rfl) ?_
   refine hw_reg ?_
   refine dp rfl (pop_loadw ty28 rfl rfl rfl rfl) ?_
   refine dp rfl (pop_move rfl) ?_
   refine dp rfl (pop_call ca10 rfl (WeakL.refl _) (c_benchref1_OffersFault (m := m) (l := x15) (by omega) (by have := hx15.len; omega) (fun x hx => ⟨(hx15.all x hx).id, Nat.le_trans (hx15.all x hx).len (by decide), (hx15.all x hx).all⟩))) ?_
   refine dp rfl (pop_eql rfl rfl) ?_
   refine dn ?_
   refine hw_cond rfl (fun h3 => ?_) (fun h4 => ?_)
   ·try simp at h3
    have hz : marketE m = 0 := by simpa using h1
    have hkk := (deals_k (m := m) (l := x15) (by rw [← (chk_ok hz [] x15 [] []).2.1]; simpa using h3)).2
    have hft := dlT_few (fun x hx => ⟨hkk x hx, (hx15.all x hx).len⟩) hx15.len
    refine hw_reg1 ?_
    refine dp rfl (pop_move rfl) ?_
    refine dp rfl (pop_call ca20 rfl (WeakL.refl _) (c_benchref1_OfferLines (l := x15) (by have := hx15.len; omega) hkk)) ?_
    refine dp rfl (pop_assign rfl) ?_
    refine dn ?_
    exact ⟨(dlT x15, a15), ⟨by dsimp only; omega, by dsimp only; omega⟩, ⟨rfl, trivial⟩, (by repeat (first | exact keeps_refl | refine keeps_upd rfl ?_ | refine keeps_loop rfl rfl ?_)), perm_eq rfl⟩
   ·try simp at h4
    refine hw_skip ?_
    exact ⟨(_, a15), ⟨by simp, by dsimp only; omega⟩, ⟨rfl, trivial⟩, (by repeat (first | exact keeps_refl | refine keeps_upd rfl ?_ | refine keeps_loop rfl rfl ?_)), perm_eq rfl⟩
  ·try simp at h2
   refine hw_skip ?_
   exact ⟨(_, a), ⟨by simp, by dsimp only; omega⟩, ⟨rfl, trivial⟩, (by repeat (first | exact keeps_refl | refine keeps_upd rfl ?_ | refine keeps_loop rfl rfl ?_)), perm_eq rfl⟩
 ·intro q hq
  obtain ⟨t0, a1⟩ := q
  dsimp only at hq
  obtain ⟨hq1, hq2⟩ := hq
  refine hw_seq ?_
  refine hw_reg ?_
  refine dp rfl (pop_move rfl) ?_
  refine dp rfl (pop_buildSlice (hs := [_, _, _, _]) ty22 ty3 rfl rfl (by decide) (by decide) rfl) ?_
  first
  | refine de rfl (eop_callx (i := 0) ca24 rfl (WeakL.refl _) rfl (c_benchmake_Stream_Pick (L := [_, _, _, _]) (by first | assumption | omega | (simp; omega) | simp_all) (by first | assumption | omega | (simp; omega) | simp_all) (by first | assumption | omega | (simp; omega) | simp_all)) ?_)
  | refine de rfl (eop_callx (i := 1) ca24 rfl (WeakL.refl _) rfl (c_benchmake_Stream_Pick (L := [_, _, _, _]) (by first | assumption | omega | (simp; omega) | simp_all) (by first | assumption | omega | (simp; omega) | simp_all) (by first | assumption | omega | (simp; omega) | simp_all)) ?_)
  | refine de rfl (eop_callx (i := 2) ca24 rfl (WeakL.refl _) rfl (c_benchmake_Stream_Pick (L := [_, _, _, _]) (by first | assumption | omega | (simp; omega) | simp_all) (by first | assumption | omega | (simp; omega) | simp_all) (by first | assumption | omega | (simp; omega) | simp_all)) ?_)
  | refine de rfl (eop_callx (i := 3) ca24 rfl (WeakL.refl _) rfl (c_benchmake_Stream_Pick (L := [_, _, _, _]) (by first | assumption | omega | (simp; omega) | simp_all) (by first | assumption | omega | (simp; omega) | simp_all) (by first | assumption | omega | (simp; omega) | simp_all)) ?_)
  rintro _ _ ⟨y24, rfl, hy24, rfl⟩
  refine dp rfl (pop_move rfl) ?_
  refine dn ?_
  have hy2 : y24 ≤ 2 := by simp at hy24; omega
  refine hw_block ?_
  refine hw_loopw3 [5, 25, 26, 27, 28, 29, 30] (fun (k : Nat) (t : Str) (a2 : Nat) => [(25, .int .i64 (k : Int)), (5, .str t)]) (fun (k : Nat) (t : Str) (a2 : Nat) => [St b l a2]) (fun (k : Nat) (t : Str) (a2 : Nat) => k ≤ 2 ∧ t.length ≤ 5000 + 20 * k ∧ a2 ≤ a1 + 1 + 3 * k) (fun (k : Nat) (t : Str) (a2 : Nat) => 2 - k) (0) (t0) (a1 + 1) ?_ ?_ ?_ ?_
  ·exact ⟨by omega, by omega, by omega⟩
  ·exact ⟨rfl, rfl, trivial⟩
  ·exact perm_eq rfl
  ·intro k t a2 hinv
   obtain ⟨hk, hlt, hat⟩ := hinv
   refine hw_reg ?_
   refine dp rfl (pop_lss rfl rfl) ?_
   refine dn ?_
   refine hw_seq ?_
   refine hw_cond rfl (fun h5 => ?_) (fun h6 => ?_)
   ·try simp at h5
    refine hw_skip ?_
    refine seqQ_n ?_
    refine hw_seq ?_
    refine hw_block ?_
    refine hw_reg1 ?_
    refine dp rfl (pop_move rfl) ?_
    refine dp rfl (pop_move rfl) ?_
    first
    | refine de rfl (eop_callx (i := 0) ca58 rfl (WeakL.refl _) rfl (c_benchmake_Stream_Changed (by first | assumption | omega | (simp; omega) | simp_all) (by first | assumption | omega | (simp; omega) | simp_all) (by first | assumption | omega | (simp; omega) | simp_all)) ?_)
    | refine de rfl (eop_callx (i := 1) ca58 rfl (WeakL.refl _) rfl (c_benchmake_Stream_Changed (by first | assumption | omega | (simp; omega) | simp_all) (by first | assumption | omega | (simp; omega) | simp_all) (by first | assumption | omega | (simp; omega) | simp_all)) ?_)
    | refine de rfl (eop_callx (i := 2) ca58 rfl (WeakL.refl _) rfl (c_benchmake_Stream_Changed (by first | assumption | omega | (simp; omega) | simp_all) (by first | assumption | omega | (simp; omega) | simp_all) (by first | assumption | omega | (simp; omega) | simp_all)) ?_)
    | refine de rfl (eop_callx (i := 3) ca58 rfl (WeakL.refl _) rfl (c_benchmake_Stream_Changed (by first | assumption | omega | (simp; omega) | simp_all) (by first | assumption | omega | (simp; omega) | simp_all) (by first | assumption | omega | (simp; omega) | simp_all)) ?_)
    rintro _ _ ⟨s29, a29, rfl, hs29, ha29, rfl⟩
    refine dp rfl (pop_assign rfl) ?_
    refine dn ?_
    refine blockQ_n ?_
    refine seqQ_n ?_
    refine hw_reg1 ?_
    refine dp rfl (pop_add64 rfl rfl (by omega) (by omega)) ?_
    refine dp rfl (pop_move rfl) ?_
    refine dn ?_
    exact ⟨k + 1, s29, a29, ⟨by omega, by simp at hs29; omega, by omega⟩, by dsimp only; omega, ⟨rfl, rfl, trivial⟩, (by repeat (first | exact keeps_refl | refine keeps_upd rfl ?_ | refine keeps_loop rfl rfl ?_)), perm_eq rfl⟩
   ·try simp at h6
    refine hw_exit ?_
    refine seqQ_x ?_
    refine loopQ3_x ?_
    refine blockQ_eq ?_
    refine seqQ_n ?_
    refine hw_reg ?_
    refine dp rfl (pop_move rfl) ?_
    refine dp rfl (pop_assign rfl) ?_
    refine dn ?_
    refine hw_ret ?_
    exact ret_q rfl ⟨t, a2, rfl, by omega, by omega, rfl⟩
end Go.Proofs.YtdjpppifnmjhoaaGreatDoor
end
section
namespace Go.HL
theorem eqGives_refl : ∀ l : List GiveS, eqSts eGive l l = true
 | [] => rfl
 | a :: r => by simp [eqSts, eqSt, eqGives_refl r, hcells, eqHL, eqH]
theorem dl_ok {m : MarketS} {l : List DealS} (h : dealsE m l = 0) (h2 : (dlT l).length ≤ 200000) : dlE m l = 0 ∧ dlS m l = dlT l := by
 have e : dlE m l = 0 := by unfold dlE; rw [if_neg (by simp [h]), if_neg (by omega)]
 exact ⟨e, by unfold dlS; rw [if_pos e]⟩
theorem deals_again2 {m : MarketS} {text : Str} (h : dvE m text = 0) : dvP m text = dvL text ∧ dlE m (dvL text) = 0 ∧ dlS m (dvL text) = text := by
 obtain ⟨h1, h2, h3, h4⟩ := deals_again h
 obtain ⟨h5, h6⟩ := dl_ok h2 (by rw [h3]; omega)
 exact ⟨h1, h5, by rw [h6, h3]⟩
/-! which offers exclude each other -/
end Go.HL
namespace Go.HL
end Go.HL
end
section
namespace Go.Proofs.YtdjpppifnmjhoaaGreatDoor
open Go.HL
set_option maxRecDepth 100000
set_option linter.unusedVariables false
set_option linter.unusedSimpArgs false

end Go.Proofs.YtdjpppifnmjhoaaGreatDoor
end
section
namespace Go.Proofs.YtdjpppifnmjhoaaGreatDoor
open Go.HL
set_option maxRecDepth 100000
set_option linter.unusedVariables false
set_option linter.unusedSimpArgs false
end Go.Proofs.YtdjpppifnmjhoaaGreatDoor
end
section
namespace Go.Proofs.YtdjpppifnmjhoaaGreatDoor
open Go.HL
set_option maxRecDepth 100000
set_option linter.unusedVariables false
set_option linter.unusedSimpArgs false

end Go.Proofs.YtdjpppifnmjhoaaGreatDoor
end
section
namespace Go.Proofs.YtdjpppifnmjhoaaGreatDoor
open Go.HL
set_option maxRecDepth 100000
set_option linter.unusedVariables false
set_option linter.unusedSimpArgs false

end Go.Proofs.YtdjpppifnmjhoaaGreatDoor
end
section
namespace Go.Proofs.YtdjpppifnmjhoaaGreatDoor
open Go.HL
set_option maxRecDepth 100000
set_option linter.unusedVariables false
set_option linter.unusedSimpArgs false

end Go.Proofs.YtdjpppifnmjhoaaGreatDoor
end
section
namespace Go.Proofs.YtdjpppifnmjhoaaGreatDoor
open Go.HL
set_option maxRecDepth 100000
set_option linter.unusedVariables false
set_option linter.unusedSimpArgs false

end Go.Proofs.YtdjpppifnmjhoaaGreatDoor
end
section
namespace Go.Proofs.YtdjpppifnmjhoaaGreatDoor
open Go.HL
set_option maxRecDepth 100000
set_option linter.unusedVariables false
set_option linter.unusedSimpArgs false
end Go.Proofs.YtdjpppifnmjhoaaGreatDoor
end
section
namespace Go.Proofs.YtdjpppifnmjhoaaGreatDoor
open Go.HL
set_option maxRecDepth 100000
set_option linter.unusedVariables false
set_option linter.unusedSimpArgs false
/-- slices.Equal[[]benchwarmer/api.Give,benchwarmer/api.Give] -/
theorem c_slices_Equal_api_Give_api_Give [Tracks] {l m : List GiveS} (hl : l.length ≤ 1000000) : ConP Tryz.prog 57 [eGives l, eGives m] (.bool (eqSts eGive l m)) := by
 refine Con.of_body Tryz.func57 rfl Tryz.ntmps57 rfl rfl ?_
 refine hw_reg ?_
 refine dp rfl (pop_assign rfl) ?_
 refine dn ?_
 refine hw_seq ?_
 refine hw_reg ?_
 refine dp rfl (pop_move rfl) ?_
 refine dp rfl (pop_lenm ty45 rfl) ?_
 refine dp rfl (pop_move rfl) ?_
 refine dp rfl (pop_lenm ty45 rfl) ?_
 refine dp rfl (pop_neq rfl rfl) ?_
 refine dn ?_
 refine hw_cond rfl (fun h1 => ?_) (fun h2 => ?_)
 ·try simp at h1
  refine hw_reg ?_
  refine dp rfl (pop_assign rfl) ?_
  refine dn ?_
  refine hw_ret ?_
  refine ret_p rfl ?_
  show HVal.bool _ = _
  first | (congr 1; symm; exact eqSts_len (by omega)) | (rw [hg.2, eqSts, show eqSt eGive x y = false from h5]; rfl) | (rw [hg.2, drop_all (Nat.le_of_eq hg.1.symm)]; rfl)
 ·try simp at h2
  refine hw_skip ?_
  refine seqQ_n ?_
  refine hw_seq ?_
  refine hw_reg ?_
  refine dp rfl (pop_move rfl) ?_
  refine dp rfl (pop_lenm ty45 rfl) ?_
  refine dp rfl (pop_move rfl) ?_
  refine dn ?_
  refine hw_block ?_
  refine hw_loopw [4, 5, 13, 14, 15, 16, 17, 18, 19, 20, 21, 22, 23, 24, 25] (fun (k : Nat) => [(13, .int .i64 k)]) (fun (k : Nat) => []) (fun (k : Nat) => k ≤ l.length ∧ (l.length = m.length ∧ eqSts eGive l m = eqSts eGive (l.drop k) (m.drop k))) (fun (k : Nat) => l.length - k) (0) ?_ ?_ ?_ ?_
  ·refine ⟨Nat.zero_le _, ?_, rfl⟩
   omega
  ·exact ⟨rfl, trivial⟩
  ·exact List.Perm.refl _
  ·intro k hinv
   obtain ⟨hk, hg⟩ := hinv
   refine hw_reg ?_
   refine dp rfl (pop_lss rfl rfl) ?_
   refine dn ?_
   refine hw_seq ?_
   refine hw_cond rfl (fun h3 => ?_) (fun h4 => ?_)
   ·try simp at h3
    obtain ⟨x, hx⟩ : ∃ x, l[k]? = some x := ⟨_, List.getElem?_eq_getElem h3⟩
    have hdx := drop_cons hx
    obtain ⟨y, hy⟩ : ∃ y, m[k]? = some y := ⟨_, List.getElem?_eq_getElem (by omega)⟩
    rw [hdx, drop_cons hy] at hg
    refine hw_skip ?_
    refine seqQ_n ?_
    refine hw_seq ?_
    refine hw_block ?_
    refine hw_reg ?_
    refine dp rfl (pop_move rfl) ?_
    refine dp rfl (pop_assign rfl) ?_
    refine dn ?_
    refine hw_draw (fun _ => True) [] mixed ?_
    refine ahp 0 rfl rfl (by kernel_rfl) (by kernel_rfl) (pop_move rfl) ?_
    refine ahp 1 rfl rfl (by kernel_rfl) (by kernel_rfl) (pop_move rfl) ?_
    refine ahp 2 rfl rfl (by kernel_rfl) (by kernel_rfl) (pop_idx ty45 ty69 rfl rfl rfl (by first | assumption | simp_all)) ?_
    refine ahp 3 rfl rfl (by kernel_rfl) (by kernel_rfl) (pop_loadw ty69 rfl rfl rfl rfl) ?_
    refine ahp 4 rfl rfl (by kernel_rfl) (by kernel_rfl) (pop_move rfl) ?_
    refine ahp 5 rfl rfl (by kernel_rfl) (by kernel_rfl) (pop_move rfl) ?_
    refine ahp 6 rfl rfl (by kernel_rfl) (by kernel_rfl) (pop_idx ty45 ty69 rfl rfl rfl (by first | assumption | simp_all)) ?_
    refine ahp 7 rfl rfl (by kernel_rfl) (by kernel_rfl) (pop_loadw ty69 rfl rfl rfl rfl) ?_
    refine ahp 8 rfl rfl (by kernel_rfl) (by kernel_rfl) (pop_neqst ty69 eq69 rfl rfl ⟨rfl, ⟨_, _, _, _, ty9, rfl⟩, ⟨rfl, ⟨_, _, _, _, ty9, rfl⟩, ⟨rfl, ⟨_, _, _, _, ty9, rfl⟩, trivial⟩⟩⟩) ?_
    refine ahz (by kernel_rfl) ?_
    refine hw_cond rfl (fun h5 => ?_) (fun h6 => ?_)
    ·try simp at h5
     refine hw_reg ?_
     refine dp rfl (pop_assign rfl) ?_
     refine dn ?_
     refine hw_ret ?_
     refine ret_p rfl ?_
     show HVal.bool _ = _
     first | (congr 1; symm; exact eqSts_len (by omega)) | (rw [hg.2, eqSts, show eqSt eGive x y = false from h5]; rfl) | (rw [hg.2, drop_all (Nat.le_of_eq hg.1.symm)]; rfl)
    ·try simp at h6
     refine hw_skip ?_
     refine blockQ_n ?_
     refine seqQ_n ?_
     refine hw_reg1 ?_
     refine dp rfl (pop_add64 rfl rfl (by omega) (by omega)) ?_
     refine dp rfl (pop_move rfl) ?_
     refine dn ?_
     refine ⟨k + 1, ?_, ?_, ⟨rfl, trivial⟩, (by repeat (first | exact keeps_refl | refine keeps_upd rfl ?_ | refine keeps_loop rfl rfl ?_)), List.Perm.refl _⟩
     ·refine ⟨by omega, hg.1, ?_⟩
      rw [hg.2, eqSts, show eqSt eGive x y = true from h6]; rfl
     ·dsimp only; omega
   ·try simp at h4
    have hnk : l.length ≤ k := by omega
    obtain rfl : k = l.length := by omega
    rw [drop_all (Nat.le_refl _)] at hg
    refine hw_exit ?_
    refine seqQ_x ?_
    refine loopQ_x ?_
    refine blockQ_eq ?_
    refine seqQ_n ?_
    refine hw_reg ?_
    refine dp rfl (pop_assign rfl) ?_
    refine dn ?_
    refine hw_ret ?_
    refine ret_p rfl ?_
    show HVal.bool _ = _
    first | (congr 1; symm; exact eqSts_len (by omega)) | (rw [hg.2, eqSts, show eqSt eGive x y = false from h5]; rfl) | (rw [hg.2, drop_all (Nat.le_of_eq hg.1.symm)]; rfl)

/-- benchwarmer/benchref1.SameOffer -/
theorem c_benchref1_SameOffer [Tracks] {x : DealS} (hs : x.Gives.length ≤ 1000000) : ConP Tryz.prog 14 [eDeal x, eDeal x] (.bool true) := by
 refine Con.of_body Tryz.func14 rfl Tryz.ntmps14 rfl rfl ?_
 refine hw_reg ?_
 refine dp rfl (pop_box rfl rfl) ?_
 refine dp rfl (pop_box rfl rfl) ?_
 refine dp rfl (pop_assign rfl) ?_
 refine dn ?_
 refine hw_reg ?_
 refine dp rfl (pop_fieldAddr ty47 rfl ty9 (by decide) rfl) ?_
 refine dp rfl (pop_load ty9 rfl rfl rfl) ?_
 refine dp rfl (pop_fieldAddr ty47 rfl ty9 (by decide) rfl) ?_
 refine dp rfl (pop_load ty9 rfl rfl rfl) ?_
 refine dp rfl (pop_eqls rfl rfl) ?_
 refine dp rfl (pop_move rfl) ?_
 refine dg rfl rfl (fun hc => ⟨_, OpenTo.refl _, pop_fieldAddr ty47 rfl ty9 (by decide) rfl⟩) ?_
 refine dg rfl rfl (fun hc => ⟨_, OpenTo.upd (t := 11) rfl (by first | exact hc | simp_all) (OpenTo.refl _), pop_load ty9 rfl rfl rfl⟩) ?_
 refine dg rfl rfl (fun hc => ⟨_, OpenTo.refl _, pop_fieldAddr ty47 rfl ty9 (by decide) rfl⟩) ?_
 refine dg rfl rfl (fun hc => ⟨_, OpenTo.upd (t := 13) rfl (by first | exact hc | simp_all) (OpenTo.refl _), pop_load ty9 rfl rfl rfl⟩) ?_
 refine dg rfl rfl (fun hc => ⟨_, OpenTo.upd (t := 14) rfl (by first | exact hc | simp_all) (OpenTo.upd (t := 12) rfl (by first | exact hc | simp_all) (OpenTo.refl _)), pop_eqls rfl rfl⟩) ?_
 refine dp rfl (pop_picko rfl (.inr ⟨_, rfl, fun h => by simp_all⟩) (.inl rfl)) ?_
 refine dp rfl (pop_move rfl) ?_
 refine dg rfl rfl (fun hc => ⟨_, OpenTo.refl _, pop_fieldAddr ty47 rfl ty44 (by decide) rfl⟩) ?_
 refine dg rfl rfl (fun hc => ⟨_, OpenTo.upd (t := 18) rfl (by first | exact hc | simp_all) (OpenTo.refl _), pop_eq (h' := .agg [.int .i64 x.From, .int .i64 x.To]) (pop_loada ty44 rfl rfl (Nat.le_of_ble_eq_true rfl)) rfl⟩) ?_
 refine dg rfl rfl (fun hc => ⟨_, OpenTo.refl _, pop_fieldAddr ty47 rfl ty44 (by decide) rfl⟩) ?_
 refine dg rfl rfl (fun hc => ⟨_, OpenTo.upd (t := 20) rfl (by first | exact hc | simp_all) (OpenTo.refl _), pop_eq (h' := .agg [.int .i64 x.From, .int .i64 x.To]) (pop_loada ty44 rfl rfl (Nat.le_of_ble_eq_true rfl)) rfl⟩) ?_
 refine dg rfl rfl (fun hc => ⟨_, OpenTo.upd (t := 21) rfl (by first | exact hc | simp_all) (OpenTo.upd (t := 19) rfl (by first | exact hc | simp_all) (OpenTo.refl _)), pop_eqst ty44 eq44 rfl rfl ⟨rfl, ⟨_, _, _, _, ty3, rfl⟩, ⟨rfl, ⟨_, _, _, _, ty3, rfl⟩, trivial⟩⟩⟩) ?_
 refine dp rfl (pop_picko rfl (.inr ⟨_, rfl, fun h => by simp_all⟩) (.inl rfl)) ?_
 refine dp rfl (pop_move rfl) ?_
 refine dg rfl rfl (fun hc => ⟨_, OpenTo.refl _, pop_fieldAddr ty47 rfl ty45 (by decide) rfl⟩) ?_
 refine dg rfl rfl (fun hc => ⟨_, OpenTo.upd (t := 25) rfl (by first | exact hc | simp_all) (OpenTo.refl _), pop_load ty45 rfl rfl rfl⟩) ?_
 refine dg rfl rfl (fun hc => ⟨_, OpenTo.refl _, pop_fieldAddr ty47 rfl ty45 (by decide) rfl⟩) ?_
 refine dg rfl rfl (fun hc => ⟨_, OpenTo.upd (t := 27) rfl (by first | exact hc | simp_all) (OpenTo.refl _), pop_load ty45 rfl rfl rfl⟩) ?_
 refine dg rfl rfl (fun hc => ⟨_, OpenTo.upd (t := 28) rfl (by first | exact hc | simp_all) (OpenTo.upd (t := 26) rfl (by first | exact hc | simp_all) (OpenTo.refl _)), pop_call ca57 rfl (WeakL.refl _) (c_slices_Equal_api_Give_api_Give (l := x.Gives) (m := x.Gives) hs)⟩) ?_
 refine dp rfl (pop_picko rfl (.inr ⟨_, rfl, fun h => by simp_all⟩) (.inl rfl)) ?_
 refine dp rfl (pop_assign rfl) ?_
 refine dn ?_
 refine hw_ret ?_
 refine ret_p rfl ?_
 show HVal.bool _ = _
 simp [eqGives_refl, eqHL, eqH]

/-- slices.EqualFunc[[]benchwarmer/api.Offer,[]benchwarmer/api.Offer,benchwarmer/api.Offer,benchwarmer/api.Offer] -/
theorem c_EqualFunc_Offer [Tracks] {l : List DealS} (hl : l.length ≤ 1000000) (hs : ∀ y ∈ l, y.Gives.length ≤ 1000000) : ConP Tryz.prog 13 [eDeals l, eDeals l, .fn (.func 14) [] []] (.bool true) := by
 refine Con.of_body Tryz.func13 rfl Tryz.ntmps13 rfl rfl ?_
 refine hw_reg ?_
 refine dp rfl (pop_assign rfl) ?_
 refine dn ?_
 refine hw_seq ?_
 refine hw_reg ?_
 refine dp rfl (pop_move rfl) ?_
 refine dp rfl (pop_lenm ty30 rfl) ?_
 refine dp rfl (pop_move rfl) ?_
 refine dp rfl (pop_lenm ty30 rfl) ?_
 refine dp rfl (pop_neq rfl rfl) ?_
 refine dn ?_
 refine hw_cond rfl (fun h1 => ?_) (fun h1 => ?_)
 ·exfalso
  try simp at h1
  done
 ·try simp at h1
  refine hw_skip ?_
  refine seqQ_n ?_
  refine hw_seq ?_
  refine hw_reg ?_
  refine dp rfl (pop_move rfl) ?_
  refine dp rfl (pop_lenm ty30 rfl) ?_
  refine dp rfl (pop_move rfl) ?_
  refine dn ?_
  refine hw_block ?_
  refine hw_loopw [6, 7, 8, 9, 17, 18, 19, 20, 21, 22, 23, 24, 25, 26, 27, 28, 29, 30, 31] (fun (k : Nat) => [(17, .int .i64 k)]) (fun (k : Nat) => []) (fun (k : Nat) => k ≤ l.length ∧ (True)) (fun (k : Nat) => l.length - k) (0) ?_ ?_ ?_ ?_
  ·exact ⟨Nat.zero_le _, trivial⟩
  ·exact ⟨rfl, trivial⟩
  ·exact List.Perm.refl _
  ·intro k hinv
   obtain ⟨hk, -⟩ := hinv
   refine hw_reg ?_
   refine dp rfl (pop_lss rfl rfl) ?_
   refine dn ?_
   refine hw_seq ?_
   refine hw_cond rfl (fun h2 => ?_) (fun h3 => ?_)
   ·try simp at h2
    obtain ⟨x, hx⟩ : ∃ x, l[k]? = some x := ⟨_, List.getElem?_eq_getElem h2⟩
    have hdx := drop_cons hx
    refine hw_skip ?_
    refine seqQ_n ?_
    refine hw_seq ?_
    refine hw_block ?_
    refine hw_reg ?_
    refine dp rfl (pop_move rfl) ?_
    refine dp rfl (pop_idx ty30 ty47 rfl rfl rfl (by first | assumption | simp_all)) ?_
    refine dp rfl (pop_loadw ty47 rfl rfl rfl rfl) ?_
    refine de rfl (eop_alloc ty47 rfl fun b8 => ?_)
    refine dp rfl (pop_assign rfl) ?_
    refine de0 (eop_storew ty47 rfl rfl rfl rfl rfl ?_)
    refine dn ?_
    refine hw_ghost (Ghost.fc0 8 rfl) ?_
    refine hw_reg ?_
    refine dp rfl (pop_move rfl) ?_
    refine dp rfl (pop_move rfl) ?_
    refine dp rfl (pop_idx (j := k) (a := x) ty30 ty47 rfl rfl rfl hx) ?_
    refine dp rfl (pop_loadw ty47 rfl rfl rfl rfl) ?_
    refine de rfl (eop_alloc ty47 rfl fun b9 => ?_)
    refine de0 (eop_storew ty47 rfl rfl rfl rfl rfl ?_)
    refine dn ?_
    refine hw_ghost (Ghost.fc0 9 rfl) ?_
    refine hw_reg ?_
    refine dp rfl (pop_move rfl) ?_
    refine dp rfl (pop_loadw ty47 rfl rfl rfl rfl) ?_
    refine dp rfl (pop_loadw ty47 rfl rfl rfl rfl) ?_
    refine dp rfl (pop_callv ca14 rfl rfl (WeakL.refl _) (c_benchref1_SameOffer (hs x (List.mem_of_getElem? hx)))) ?_
    refine dp rfl (pop_not rfl) ?_
    refine dn ?_
    refine hw_cond rfl (fun h4 => ?_) (fun h4 => ?_)
    ·exfalso
     try simp at h4
     done
    ·try simp at h4
     refine hw_skip ?_
     refine blockQ_n ?_
     refine seqQ_n ?_
     refine hw_reg1 ?_
     refine dp rfl (pop_add64 rfl rfl (by omega) (by omega)) ?_
     refine dp rfl (pop_move rfl) ?_
     refine dn ?_
     refine ⟨k + 1, ?_, ?_, ⟨rfl, trivial⟩, (by repeat (first | exact keeps_refl | refine keeps_upd rfl ?_ | refine keeps_loop rfl rfl ?_)), List.Perm.refl _⟩
     ·exact ⟨by omega, trivial⟩
     ·dsimp only; omega
   ·try simp at h3
    have hnk : l.length ≤ k := by omega
    obtain rfl : k = l.length := by omega
    refine hw_exit ?_
    refine seqQ_x ?_
    refine loopQ_x ?_
    refine blockQ_eq ?_
    refine seqQ_n ?_
    refine hw_reg ?_
    refine dp rfl (pop_assign rfl) ?_
    refine dn ?_
    refine hw_ret ?_
    refine ret_p rfl ?_
    rfl

set_option maxHeartbeats 2000000 in
/-- benchwarmer/benchkeep1.OffersComeBack -/
theorem c_benchkeep1_OffersComeBack [Tracks] {l : List Int} (hT : Tracks.on = false) : ConP Tryz.prog 3 [.slice 1 (l.map (.int .i64))] (.bool true) := by
 refine Con.of_body Tryz.func3 rfl Tryz.ntmps3 rfl rfl ?_
 refine hw_reg ?_
 refine dp rfl (pop_assign rfl) ?_
 refine dn ?_
 refine hw_reg ?_
 refine dp rfl (pop_move rfl) ?_
 refine dp rfl (pop_build (cs := [_, _]) ty25 pl25 rfl) ?_
 refine de rfl (eop_box rfl rfl fun b => ?_)
 refine dghost (M' := [St b l 0]) rfl ?_
 refine dp rfl (pop_assign rfl) ?_
 refine dn ?_
 refine hw_reg ?_
 refine dp rfl (pop_move rfl) ?_
 first
 | refine de rfl (eop_callx (i := 0) ca5 rfl (WeakL.refl _) rfl (c_benchmake_Stream_MarketOf (by first | assumption | omega | (simp; omega) | simp_all)) ?_)
 | refine de rfl (eop_callx (i := 1) ca5 rfl (WeakL.refl _) rfl (c_benchmake_Stream_MarketOf (by first | assumption | omega | (simp; omega) | simp_all)) ?_)
 | refine de rfl (eop_callx (i := 2) ca5 rfl (WeakL.refl _) rfl (c_benchmake_Stream_MarketOf (by first | assumption | omega | (simp; omega) | simp_all)) ?_)
 | refine de rfl (eop_callx (i := 3) ca5 rfl (WeakL.refl _) rfl (c_benchmake_Stream_MarketOf (by first | assumption | omega | (simp; omega) | simp_all)) ?_)
 rintro _ _ ⟨m21, a21, rfl, hm21, ha21, rfl⟩
 refine de rfl (eop_alloc ty28 rfl fun b4 => ?_)
 refine de0 (eop_storew ty28 rfl rfl rfl rfl rfl ?_)
 refine dn ?_
 refine hw_ghost (Ghost.fc0 4 rfl) ?_
 refine hw_draw (fun _ => True) [] mixed ?_
 refine ahp 0 rfl rfl (by kernel_rfl) (by kernel_rfl) (pop_move rfl) ?_
 refine ahp 1 rfl rfl (by kernel_rfl) (by kernel_rfl) (pop_loadw ty28 rfl rfl rfl rfl) ?_
 refine ahp 2 rfl rfl (by kernel_rfl) (by kernel_rfl) (pop_move rfl) ?_
 refine ahp 3 rfl rfl (by kernel_rfl) (by kernel_rfl) (pop_loadw ty28 rfl rfl rfl rfl) ?_
 refine ahe 4 rfl (by kernel_rfl) ?_
 first
 | refine hop_e rfl (eop_callx (i := 0) ca7 rfl (WeakL.refl _) rfl (c_benchmake_Stream_OwnerList (by first | assumption | omega | (simp; omega) | simp_all) (by first | assumption | omega | (simp; omega) | simp_all)) ?_)
 | refine hop_e rfl (eop_callx (i := 1) ca7 rfl (WeakL.refl _) rfl (c_benchmake_Stream_OwnerList (by first | assumption | omega | (simp; omega) | simp_all) (by first | assumption | omega | (simp; omega) | simp_all)) ?_)
 | refine hop_e rfl (eop_callx (i := 2) ca7 rfl (WeakL.refl _) rfl (c_benchmake_Stream_OwnerList (by first | assumption | omega | (simp; omega) | simp_all) (by first | assumption | omega | (simp; omega) | simp_all)) ?_)
 | refine hop_e rfl (eop_callx (i := 3) ca7 rfl (WeakL.refl _) rfl (c_benchmake_Stream_OwnerList (by first | assumption | omega | (simp; omega) | simp_all) (by first | assumption | omega | (simp; omega) | simp_all)) ?_)
 rintro _ _ ⟨o26, a26, rfl, ho26, ha26, rfl⟩
 refine ⟨fun _ => .inl trivial, ?_⟩
 refine ahe 5 rfl (by kernel_rfl) ?_
 first
 | refine hop_e rfl (eop_callx (i := 0) ca6 rfl (WeakL.refl _) rfl (c_benchmake_Stream_OfferList (by first | assumption | omega | (simp; omega) | simp_all) (by first | assumption | omega | (simp; omega) | simp_all) (by first | assumption | omega | (simp; omega) | simp_all)) ?_)
 | refine hop_e rfl (eop_callx (i := 1) ca6 rfl (WeakL.refl _) rfl (c_benchmake_Stream_OfferList (by first | assumption | omega | (simp; omega) | simp_all) (by first | assumption | omega | (simp; omega) | simp_all) (by first | assumption | omega | (simp; omega) | simp_all)) ?_)
 | refine hop_e rfl (eop_callx (i := 2) ca6 rfl (WeakL.refl _) rfl (c_benchmake_Stream_OfferList (by first | assumption | omega | (simp; omega) | simp_all) (by first | assumption | omega | (simp; omega) | simp_all) (by first | assumption | omega | (simp; omega) | simp_all)) ?_)
 | refine hop_e rfl (eop_callx (i := 3) ca6 rfl (WeakL.refl _) rfl (c_benchmake_Stream_OfferList (by first | assumption | omega | (simp; omega) | simp_all) (by first | assumption | omega | (simp; omega) | simp_all) (by first | assumption | omega | (simp; omega) | simp_all)) ?_)
 rintro _ _ ⟨x27, a27, rfl, hx27, hxo27, ha27, rfl⟩
 refine ⟨fun _ => .inl trivial, ?_⟩
 refine ahp 6 rfl rfl (by kernel_rfl) (by kernel_rfl) (pop_assign rfl) ?_
 refine ahz (by kernel_rfl) ?_
 refine hw_seq ?_
 have hm5 := hm21.len
 have hxl := hx27.len
 have hxg : ∀ x ∈ x27, x.Gives.length ≤ 1000000 := fun x hx => Nat.le_trans (hx27.all x hx).len (by decide)
 have hxb : ∀ x ∈ x27, x.Id.length ≤ 1000000 ∧ x.Gives.length ≤ 1000000 ∧ ∀ g ∈ x.Gives, g.Player.length ≤ 1000000 := fun x hx => ⟨(hx27.all x hx).id, hxg x hx, (hx27.all x hx).all⟩
 refine hw_reg ?_
 refine dp rfl (pop_loadw ty28 rfl rfl rfl rfl) ?_
 refine dp rfl (pop_call ca8 rfl (WeakL.refl _) (c_benchref1_MarketFault (m := m21) (by omega) (fun s hs => Nat.le_trans (hm21.sh s hs) (by decide)))) ?_
 refine dp rfl (pop_neq rfl rfl) ?_
 refine dn ?_
 refine hw_cond rfl (fun h1 => ?_) (fun h2 => ?_)
 ·try simp at h1
  refine hw_reg ?_
  refine dp rfl (pop_call ca9 rfl (WeakL.refl _) (c_benchkeep1_ready hT)) ?_
  refine dp rfl (pop_assign rfl) ?_
  refine dn ?_
  refine hw_ret ?_
  refine ret_g Ghost.clear rfl ⟨?_, rfl⟩
  show HVal.bool _ = _
  first | rfl | (simp; done) | (simp_all; done)
 ·try simp at h2
  refine hw_skip ?_
  refine seqQ_n ?_
  refine hw_join [2, 6, 7, 8, 9, 10, 32, 33, 34, 35, 36, 37, 38, 39, 40, 41, 42, 43, 44, 45, 46, 47, 48, 49, 50, 51, 52, 53, 54, 55, 56, 57, 58, 59, 60] (fun (q : Nat) => []) (fun (q : Nat) => [St b l q]) (fun (q : Nat) => q ≤ 1500) ?_ ?_
  ·skip
   refine hw_reg ?_
   refine dp rfl (pop_loadw ty28 rfl rfl rfl rfl) ?_
   refine dp rfl (pop_move rfl) ?_
   refine dp rfl (pop_call ca10 rfl (WeakL.refl _) (c_benchref1_OffersFault (m := m21) (l := x27) (by omega) (by omega) hxb)) ?_
   refine dp rfl (pop_eql rfl rfl) ?_
   refine dn ?_
   refine hw_cond rfl (fun h3 => ?_) (fun h4 => ?_)
   ·try simp at h3
    have hzm : marketE m21 = 0 := by simpa using h2
    have hz : dealsE m21 x27 = 0 := by rw [← (chk_ok hzm [] x27 [] []).2.1]; simpa using h3
    have hkk := (deals_k hz).2
    have hft := dlT_few (fun x hx => ⟨hkk x hx, (hx27.all x hx).len⟩) hx27.len
    obtain ⟨tb1, tb2⟩ := dl_ok hz (by omega)
    obtain ⟨tb3, tb4⟩ := deals_back hz (by omega)
    refine hw_reg ?_
    refine dp rfl (pop_loadw ty28 rfl rfl rfl rfl) ?_
    refine dp rfl (pop_move rfl) ?_
    refine dp rfl (pop_call ca11 rfl (WeakL.refl _) (c_trade_Text (m := m21) (l := x27) (by omega) (by omega) hxg)) ?_
    refine dp rfl (pop_move rfl) ?_
    refine dp rfl (pop_extract rfl rfl) ?_
    refine dp rfl (pop_extract rfl rfl) ?_
    refine dp rfl (pop_assign rfl) ?_
    refine dp rfl (pop_assign rfl) ?_
    refine dn ?_
    simp only [tb1, tb2]
    refine hw_reg ?_
    refine dp rfl (pop_loadw ty28 rfl rfl rfl rfl) ?_
    refine dp rfl (pop_move rfl) ?_
    refine dp rfl (pop_call ca12 rfl (WeakL.refl _) (c_trade_Read (m := m21) (text := dlT x27) (by omega) (by omega))) ?_
    refine dp rfl (pop_move rfl) ?_
    refine dp rfl (pop_extract rfl rfl) ?_
    refine dp rfl (pop_extract rfl rfl) ?_
    refine dp rfl (pop_extract rfl rfl) ?_
    refine dp rfl (pop_assign rfl) ?_
    refine dp rfl (pop_assign rfl) ?_
    refine dp rfl (pop_assign rfl) ?_
    refine dn ?_
    simp only [tb3, tb4]
    refine hw_reg ?_
    refine dp rfl (pop_move rfl) ?_
    refine dp rfl (pop_neq rfl rfl) ?_
    refine dp rfl (pop_move rfl) ?_
    refine dg rfl rfl (fun hc => ⟨_, OpenTo.refl _, pop_move rfl⟩) ?_
    refine dg rfl rfl (fun hc => ⟨_, OpenTo.upd (t := 52) rfl (by first | exact hc | simp_all) (OpenTo.refl _), pop_neq rfl rfl⟩) ?_
    refine dp rfl (pop_picko rfl (.inl rfl) (.inr ⟨_, rfl, fun h => by simp_all⟩)) ?_
    refine dp rfl (pop_move rfl) ?_
    refine dg rfl rfl (fun hc => ⟨_, OpenTo.refl _, pop_move rfl⟩) ?_
    refine dg rfl rfl (fun hc => ⟨_, OpenTo.refl _, pop_move rfl⟩) ?_
    refine dg rfl rfl (fun hc => by have hq := hc; (try simp at hq); exact ⟨_, OpenTo.upd (t := 57) rfl (by first | exact hc | simp_all) (OpenTo.upd (t := 56) rfl (by first | exact hc | simp_all) (OpenTo.refl _)), pop_call ca13 rfl (WeakL.refl _) (c_EqualFunc_Offer (l := x27) (by omega) hxg)⟩) ?_
    refine dg rfl rfl (fun hc => ⟨_, OpenTo.upd (t := 58) rfl (by first | exact hc | simp_all) (OpenTo.refl _), pop_not rfl⟩) ?_
    refine dp rfl (pop_picko rfl (.inl rfl) (.inr ⟨_, rfl, fun h => by simp_all⟩)) ?_
    refine dn ?_
    refine hw_cond rfl (fun h5 => ?_) (fun h5 => ?_)
    ·exfalso
     try simp at h5
     done
    ·try simp at h5
     refine hw_skip ?_
     exact ⟨a27, by omega, trivial, (by repeat (first | exact keeps_refl | refine keeps_upd rfl ?_ | refine keeps_loop rfl rfl ?_)), perm_eq rfl⟩
   ·try simp at h4
    refine hw_skip ?_
    exact ⟨a27, by omega, trivial, (by repeat (first | exact keeps_refl | refine keeps_upd rfl ?_ | refine keeps_loop rfl rfl ?_)), perm_eq rfl⟩
  ·intro q hq
   refine hw_reg ?_
   refine dp rfl (pop_move rfl) ?_
   refine dp rfl (pop_loadw ty28 rfl rfl rfl rfl) ?_
   first
   | refine de rfl (eop_callx (i := 0) ca15 rfl (WeakL.refl _) rfl (c_benchmake_Stream_OfferString (by first | assumption | omega | (simp; omega) | simp_all) (by first | assumption | omega | (simp; omega) | simp_all)) ?_)
   | refine de rfl (eop_callx (i := 1) ca15 rfl (WeakL.refl _) rfl (c_benchmake_Stream_OfferString (by first | assumption | omega | (simp; omega) | simp_all) (by first | assumption | omega | (simp; omega) | simp_all)) ?_)
   | refine de rfl (eop_callx (i := 2) ca15 rfl (WeakL.refl _) rfl (c_benchmake_Stream_OfferString (by first | assumption | omega | (simp; omega) | simp_all) (by first | assumption | omega | (simp; omega) | simp_all)) ?_)
   | refine de rfl (eop_callx (i := 3) ca15 rfl (WeakL.refl _) rfl (c_benchmake_Stream_OfferString (by first | assumption | omega | (simp; omega) | simp_all) (by first | assumption | omega | (simp; omega) | simp_all)) ?_)
   rintro _ _ ⟨t63, a63, rfl, ht63, ha63, rfl⟩
   refine dp rfl (pop_assign rfl) ?_
   refine dn ?_
   refine hw_seq ?_
   refine hw_reg ?_
   refine dp rfl (pop_loadw ty28 rfl rfl rfl rfl) ?_
   refine dp rfl (pop_move rfl) ?_
   refine dp rfl (pop_call ca12 rfl (WeakL.refl _) (c_trade_Read (m := m21) (text := t63) (by omega) (by omega))) ?_
   refine dp rfl (pop_move rfl) ?_
   refine dp rfl (pop_extract rfl rfl) ?_
   refine dp rfl (pop_extract rfl rfl) ?_
   refine dp rfl (pop_extract rfl rfl) ?_
   refine dp rfl (pop_assign rfl) ?_
   refine dp rfl (pop_assign rfl) ?_
   refine dp rfl (pop_assign rfl) ?_
   refine dn ?_
   refine hw_reg ?_
   refine dp rfl (pop_move rfl) ?_
   refine dp rfl (pop_eql rfl rfl) ?_
   refine dn ?_
   refine hw_cond rfl (fun h6 => ?_) (fun h7 => ?_)
   ·try simp at h6
    obtain ⟨q1, q2, q3⟩ := deals_again2 (m := m21) (text := t63) (by simpa using h6)
    simp only [q1]
    refine hw_reg ?_
    refine dp rfl (pop_loadw ty28 rfl rfl rfl rfl) ?_
    refine dp rfl (pop_move rfl) ?_
    refine dp rfl (pop_call ca11 rfl (WeakL.refl _) (c_trade_Text (m := m21) (l := dvL t63) (by omega) (by have := (dv_gd t63).len; omega) (fun x hx => by have := ((dv_gd t63).all x hx).2.1; omega))) ?_
    refine dp rfl (pop_move rfl) ?_
    refine dp rfl (pop_extract rfl rfl) ?_
    refine dp rfl (pop_extract rfl rfl) ?_
    refine dp rfl (pop_assign rfl) ?_
    refine dp rfl (pop_assign rfl) ?_
    refine dn ?_
    simp only [q2, q3]
    refine hw_reg ?_
    refine dp rfl (pop_move rfl) ?_
    refine dp rfl (pop_eql rfl rfl) ?_
    refine dp rfl (pop_move rfl) ?_
    refine dg rfl rfl (fun hc => ⟨_, OpenTo.refl _, pop_move rfl⟩) ?_
    refine dg rfl rfl (fun hc => ⟨_, OpenTo.refl _, pop_move rfl⟩) ?_
    refine dg rfl rfl (fun hc => ⟨_, OpenTo.upd (t := 83) rfl (by first | exact hc | simp_all) (OpenTo.upd (t := 82) rfl (by first | exact hc | simp_all) (OpenTo.refl _)), pop_eqls rfl rfl⟩) ?_
    refine dp rfl (pop_picko rfl (.inr ⟨_, rfl, fun h => by simp_all⟩) (.inl rfl)) ?_
    refine dp rfl (pop_move rfl) ?_
    refine dg rfl rfl (fun hc => ⟨_, OpenTo.refl _, pop_call ca9 rfl (WeakL.refl _) (c_benchkeep1_ready hT)⟩) ?_
    refine dp rfl (pop_picko rfl (.inr ⟨_, rfl, fun h => by simp_all⟩) (.inl rfl)) ?_
    refine dp rfl (pop_assign rfl) ?_
    refine dn ?_
    refine hw_ret ?_
    refine ret_g Ghost.clear rfl ⟨?_, rfl⟩
    show HVal.bool _ = _
    first | rfl | (simp; done) | (simp_all; done)
   ·try simp at h7
    refine hw_skip ?_
    refine seqQ_n ?_
    refine hw_reg ?_
    refine dp rfl (pop_call ca9 rfl (WeakL.refl _) (c_benchkeep1_ready hT)) ?_
    refine dp rfl (pop_assign rfl) ?_
    refine dn ?_
    refine hw_ret ?_
    refine ret_g Ghost.clear rfl ⟨?_, rfl⟩
    show HVal.bool _ = _
    first | rfl | (simp; done) | (simp_all; done)
end Go.Proofs.YtdjpppifnmjhoaaGreatDoor
end
section
namespace Go.HL
open Go
theorem handed_shaped {H : Type} {enc : TypeId × Value → H} {a : Assume} {C : Checked} {os : Os} {f : FuncId} {fn : Func} {s : ChangeSpec} {conds : List PathCond} {apart fresh handsOn again : Bool} {X : World → Array Value → Prop}
 (hX : ∀ (w w' : World) (args : Array Value), w.heap = w'.heap → X w args → X w' args)
 (own : ownKnob C.prog.godebug = none) (started : os.Started) (noInit : C.prog.inits.idxOf? f = none) (hfn : C.prog.funcs[f]? = some fn)
 (witness : ∃ (w : World) (tape : Tape) (i : Input), w.os = os ∧ (w.forCall tape i).Shaped C.prog ∧ i.vars = [] ∧ Input.okWide C.prog (w.forCall tape i) .any w.heap.size f i ∧
   ((s.pre enc C.prog fn conds apart (w.forCall tape i).memory i.args ∧ X (w.forCall tape i).memory i.args) ∧ sizedMet enc C.prog fn (OpenSpec.ofChange s) apart (w.forCall tape i).memory i.args) ∧ a.holds C.prog (lone (Frame.enter C.prog f i.args .normal) [] (w.forCall tape i)))
 (contract : ∀ (W : World) (base : Nat) (args : Array Value) (ds gs : List (DataW H)) (before : List MemPlace),
   (∀ (j : Nat) t v, fn.params[j]? = some t → args[j]? = some v → Value.okWide C.prog W .any base t v) → DataW.Whole enc C.prog fn.params.toList s.vars apart W args.toList ds gs before →
   X W args → W.ShapedOpen C.prog → Calls C.prog f args W fun e W' => ∃ v, e = .returned v ∧ s.post enc C.prog fn apart fresh handsOn again W args v W') :
 ReturnsInHanded a C os f .any (fun w args => (s.pre enc C.prog fn conds apart w args ∧ X w args) ∧ sizedMet enc C.prog fn (OpenSpec.ofChange s) apart w args) (s.post enc C.prog fn apart fresh handsOn again) := by
 refine returnsInHanded_of_calls own started noInit witness fun w tape i _ hsh _ hok hpre _ => ?_
 obtain ⟨_, _, _, fn', hfn', _, _, _, _, hval⟩ := hok
 obtain rfl : fn' = fn := Option.some.inj (hfn'.symm.trans hfn)
 obtain ⟨⟨⟨ds, gs, before, hw, _⟩, hx⟩, _⟩ := hpre
 refine (contract (w.forCall tape i) w.heap.size i.args ds gs before hval (DataW.Whole.of_heap (w' := w.forCall tape i) (by rfl) hw) (hX _ _ _ (by rfl) hx) hsh).mono fun e W' ⟨v, he, hp⟩ => ?_
 subst he
 exact ChangeSpec.post_blind hp
end Go.HL
end
section
namespace Go.Proofs
open Go.Shelf
def Tryz.laysm146_ren : Go.Shelf.Ren := ⟨fun | 146 => 72 | 221 => 115 | 268 => 164 | 138 => 55 | 143 => 101 | 195 => 99 | 197 => 175 | 218 => 100 | 219 => 156 | 260 => 204 | 217 => 136 | 225 => 190 | 224 => 191 | 267 => 192 | 266 => 178 | 314 => 220 | n => n, fun | 9 => 9 | 31 => 26 | 3 => 3 | 4 => 4 | 0 => 0 | 105 => 238 | 21 => 21 | 5 => 5 | 46 => 139 | 119 => 280 | 139 => 283 | 138 => 282 | 146 => 272 | 51 => 185 | n => n, fun | 1 => 0 | 3 => 2 | 4 => 3 | n => n⟩
theorem Tryz.laysm146 : Go.Proofs.LaysM.n146 Tryz.prog Tryz.laysm146_ren := {
 mixed := by kernel_rfl
 f138 := Tryz.func55.trans (congrArg some (by kernel_rfl))
 f143 := Tryz.func101.trans (congrArg some (by kernel_rfl))
 f146 := Tryz.func72.trans (congrArg some (by kernel_rfl))
 f195 := Tryz.func99.trans (congrArg some (by kernel_rfl))
 f197 := Tryz.func175.trans (congrArg some (by kernel_rfl))
 f217 := Tryz.func136.trans (congrArg some (by kernel_rfl))
 f218 := Tryz.func100.trans (congrArg some (by kernel_rfl))
 f219 := Tryz.func156.trans (congrArg some (by kernel_rfl))
 f221 := Tryz.func115.trans (congrArg some (by kernel_rfl))
 f224 := Tryz.func191.trans (congrArg some (by kernel_rfl))
 f225 := Tryz.func190.trans (congrArg some (by kernel_rfl))
 f260 := Tryz.func204.trans (congrArg some (by kernel_rfl))
 f266 := Tryz.func178.trans (congrArg some (by kernel_rfl))
 f267 := Tryz.func192.trans (congrArg some (by kernel_rfl))
 f268 := Tryz.func164.trans (congrArg some (by kernel_rfl))
 f314 := Tryz.func220.trans (congrArg some (by kernel_rfl))
 t0 := Tryz.underlying0
 a0 := Tryz.isAgg0
 z0 := Tryz.sizeOf0
 v0 := Tryz.zeroValue0
 t3 := Tryz.underlying3
 a3 := Tryz.isAgg3
 z3 := Tryz.sizeOf3
 v3 := Tryz.zeroValue3
 t4 := Tryz.underlying4
 a4 := Tryz.isAgg4
 z4 := Tryz.sizeOf4
 v4 := Tryz.zeroValue4
 t5 := Tryz.underlying5
 a5 := Tryz.isAgg5
 z5 := Tryz.sizeOf5
 v5 := Tryz.zeroValue5
 t9 := Tryz.underlying9
 a9 := Tryz.isAgg9
 z9 := Tryz.sizeOf9
 v9 := Tryz.zeroValue9
 t21 := Tryz.underlying21
 a21 := Tryz.isAgg21
 z21 := Tryz.sizeOf21
 v21 := Tryz.zeroValue21
 t31 := Tryz.underlying26
 a31 := Tryz.isAgg26
 z31 := Tryz.sizeOf26
 v31 := Tryz.zeroValue26
 t46 := Tryz.underlying139
 a46 := Tryz.isAgg139
 z46 := Tryz.sizeOf139
 v46 := Tryz.zeroValue139
 t51 := Tryz.underlying185
 a51 := Tryz.isAgg185
 z51 := Tryz.sizeOf185
 v51 := Tryz.zeroValue185
 t105 := Tryz.underlying238
 a105 := Tryz.isAgg238
 z105 := Tryz.sizeOf238
 v105 := Tryz.zeroValue238
 t119 := Tryz.underlying280
 a119 := Tryz.isAgg280
 z119 := Tryz.sizeOf280
 t138 := Tryz.underlying282
 a138 := Tryz.isAgg282
 z138 := Tryz.sizeOf282
 v138 := Tryz.zeroValue282
 t139 := Tryz.underlying283
 a139 := Tryz.isAgg283
 z139 := Tryz.sizeOf283
 v139 := Tryz.zeroValue283
 t146 := Tryz.underlying272
 a146 := Tryz.isAgg272
 z146 := Tryz.sizeOf272
 v146 := Tryz.zeroValue272
 g1 := by kernel_rfl
 g3 := by kernel_rfl
 g4 := by kernel_rfl
 i0 := by kernel_rfl
 i3 := by kernel_rfl
 i4 := by kernel_rfl
 i5 := by kernel_rfl
 i9 := by kernel_rfl
 i21 := by kernel_rfl
 i31 := by kernel_rfl
 i46 := by kernel_rfl
 i51 := by kernel_rfl
 i105 := by kernel_rfl
 i138 := by kernel_rfl
 i139 := by kernel_rfl
 i146 := by kernel_rfl
 m1 := by kernel_rfl
 s1_3 := fun w h => Go.Proofs.cell_of_shapedOpen_int (zero := #[.int .i64 0]) (t := 3) h (of_decide_eq_true (by kernel_rfl)) (by kernel_rfl) rfl (by kernel_rfl) (by kernel_rfl) Tryz.underlying3
 m3 := by kernel_rfl
 m4 := by kernel_rfl }
end Go.Proofs
end
section
namespace Go.Proofs.YtdjpppifnmjhoaaGreatDoor
open Go.ChangeShapes Go.WideShapes Go.ChangeAt Go.RowKit Go.HL
theorem ownOffersComeBack : ownKnob Tryz.prog.godebug = none := by kernel_rfl
theorem laidOutOffersComeBack : laidOutB Tryz.prog = true := by kernel_rfl
theorem cellsOffersComeBack : Tryz.prog.cellsOf 3 = 1 := by kernel_rfl
theorem tabOffersComeBack {W : World} (h : laidMetH Tryz.prog Rows.offersComeBackRow.laid W) (hsh : W.ShapedOpen Tryz.prog) : TabI Tryz.prog (allI W) := by
 rw [MakeChecks.laidMetH_plain _ _ _ (by kernel_rfl)] at h
 letI : Tracks := ⟨false⟩
 exact tabI_of_laid (i := 2) (g := 1) (t := 259) h (by kernel_rfl) (by kernel_rfl) (by kernel_rfl) Tryz.underlying259 Tryz.underlying187 (by kernel_rfl) (by kernel_rfl) (fun g hg => by
  obtain rfl : Tryz.laysm146_ren.g 1 = g := Option.some.inj (Tryz.laysm146.m1.symm.trans hg)
  exact Tryz.laysm146.s1_3 W hsh)
theorem callsOffersComeBack {W : World} (ht : TabI Tryz.prog (allI W)) {a : Option Addr} {len cap : Nat} {H : Type} {enc : TypeId × Value → H} {d0 : DataW H} {p : List MemPlace} (h : DataW.Trod enc Tryz.prog W 0 (fun _ => true) true 22 (.slice a len cap) d0 p) :
 Calls Tryz.prog 3 #[.slice a len cap] W fun e W' => e = .returned (.bool true) ∧ Below W.heap.size W W' := by
 obtain ⟨fuel, hf⟩ := h
 rcases open_ints Tryz.underlying22 Tryz.underlying3 cellsOffersComeBack hf with ⟨hcs, hx⟩ | ⟨a', len', cap', zs, hcs, _, hl, hm, hz, hx, hcell, hwz⟩
 ·simp [Value.cells] at hcs
  obtain ⟨rfl, rfl, rfl⟩ := hcs
  letI : Tracks := ⟨false⟩
  exact conp_law (l := []) (c_benchkeep1_OffersComeBack rfl) ht (.slice0 _ _ _)
 ·simp [Value.cells] at hcs
  obtain ⟨rfl, rfl, rfl⟩ := hcs
  simp only [if_true] at hz
  letI : Tracks := ⟨false⟩
  exact conp_law (l := zs.take len) (c_benchkeep1_OffersComeBack rfl) ht (v_ints hcell (by omega) hl)
set_option maxRecDepth 100000 in
theorem liftedOffersComeBack (os : Os) (started : os.Started) (H : Type) (enc : TypeId × Value → H) :
 ReturnsInHanded {} Tryz.checked os 3 .any (fun w args => (Rows.offersComeBackSpec.pre enc Tryz.prog Tryz.f3 Rows.offersComeBackRow.domain false w args ∧ laidMetH Tryz.prog Rows.offersComeBackRow.laid w) ∧ sizedMet enc Tryz.prog Tryz.f3 (OpenSpec.ofChange Rows.offersComeBackSpec) false w args)
  (Rows.offersComeBackSpec.post enc Tryz.prog Tryz.f3 false true false false) := by
 refine handed_shaped (C := Tryz.checked) (X := fun w _ => laidMetH Tryz.prog Rows.offersComeBackRow.laid w) (fun _ _ _ hh h => h.of_heap hh) ownOffersComeBack started (by kernel_rfl) Tryz.func3
  (ChangeSpec.witness_shaped (enc := enc) (C := Tryz.checked) (os := os) (X := fun w _ => laidMetH Tryz.prog Rows.offersComeBackRow.laid w) false (World.laidAll Tryz.prog os Rows.offersComeBackRow.laid) #[.slice none 0 0] 8 (World.laidAll_os _ _ _)
    (World.shaped_of_ZipB (by kernel_rfl) (by kernel_rfl)) (by kernel_rfl) (by kernel_rfl) (by kernel_rfl)
    (by rw [MakeChecks.laidMetH_plain _ _ _ (by kernel_rfl)]; exact laidMet_laidAll _ (by kernel_rfl) (by kernel_rfl))) ?_
 intro W base args ds gs before hval0 hW hL hsh
 have hval : ∀ (j : Nat) t v, Tryz.f3.params[j]? = some t → args[j]? = some v → Value.okWide Tryz.prog W .any base t v := hval0
 have hW' := hW
 obtain ⟨p, q, hA0, hV, rfl, _, _⟩ := hW
 have hA : DataW.TrodAll enc Tryz.prog W 0 (fun _ => true) true Tryz.f3.params.toList args.toList ds p := hA0
 rw [Tryz.params3] at hA hval
 obtain ⟨v0, d0, rfl, rfl, h0⟩ := trodAll_one hA
 obtain ⟨rfl, rfl⟩ := trodVars_none hV
 obtain ⟨a0, len, cap, rfl⟩ := okWide_slice Tryz.underlying22 (hval 0 22 v0 rfl rfl)
 simp only [List.append_nil] at hW'
 have hlt : ∀ x ∈ p, x.block < W.heap.size := fun x hx => by simpa using hW'.lt x hx
 refine (callsOffersComeBack (tabOffersComeBack hL hsh) h0).mono fun e W' ⟨he, hb⟩ => ?_
 subst he
 have hargs : DataW.Trod enc Tryz.prog W' 0 (fun b => decide (b < W.heap.size)) true 22 (.slice a0 len cap) d0 p :=
  Below.trod laidOutOffersComeBack (by kernel_rfl) (of_decide_eq_true (by kernel_rfl)) h0 hb hlt
 exact ⟨_, rfl, _, _, _, [], p, [], hW', trodAll_mk1 (shut_bool Tryz.underlying4 _), trodAll_mk1 hargs, rfl, hb.frame _, fun h => by cases h⟩
theorem mapsOffersComeBack : mapsRowed Tryz.prog = true := by kernel_rfl
theorem inplOffersComeBack : (Rows.offersComeBackRow.inPlace == Tryz.prog.inPlace 3) = true := by kernel_rfl
theorem unfoOffersComeBack : (Rows.offersComeBackRow.unfollowed == Tryz.prog.unfollowed 3) = true := by kernel_rfl
theorem recuOffersComeBack : (Rows.offersComeBackRow.recurses == Tryz.prog.recurses 3) = true := by kernel_rfl
theorem varsOffersComeBack : (Rows.offersComeBackRow.named == Tryz.prog.varsNamed 3) = true := by kernel_rfl
theorem joinOffersComeBack : joinedFacts Tryz.prog 3 Tryz.f3 Rows.offersComeBackSpec Rows.offersComeBackRow = true := by
 simp only [joinedFacts, Bool.and_eq_true]
 repeat' apply And.intro
 all_goals first
  | with_reducible exact laidOutOffersComeBack
  | with_reducible exact mapsOffersComeBack
  | with_reducible exact inplOffersComeBack
  | with_reducible exact unfoOffersComeBack
  | with_reducible exact recuOffersComeBack
  | with_reducible exact varsOffersComeBack
  | kernel_rfl
theorem lookOffersComeBack : true = Tryz.prog.looks [] := by kernel_rfl
theorem goesOffersComeBack : false = Rows.offersComeBackRow.goesBy Tryz.prog := by kernel_rfl
theorem wfbtOffersComeBack : Rows.offersComeBackRow.wfByText (OpenSpec.ofChange Rows.offersComeBackSpec) = true := by kernel_rfl
theorem mainOffersComeBack : Tryz.prog.mainIs = some ("fea490b9caaa294fbd664e55b8210568bd1793e919865ba4d290413b53a80d50" |> fun h => (true, h.toList)) := by kernel_rfl
theorem stanOffersComeBack : ([22].all fun u => !Tryz.prog.wantsStandIn u) = true := by kernel_rfl
theorem fnamOffersComeBack : Tryz.prog.funcNamed Rows.offersComeBackRow.func = some 3 := by kernel_rfl
theorem holdsOffersComeBack : Rows.OffersComeBackSaid :=
 OpenClaim.holds_of_wide 3 Tryz.f3 rfl rfl rfl rfl rfl rfl rfl ⟨rfl, rfl, rfl, rfl, rfl⟩ rfl rfl rfl rfl rfl fnamOffersComeBack Tryz.func3 joinOffersComeBack
  (of_decide_eq_true (by kernel_rfl)) (by unfold Func.isWrapper; first | (rw [if_pos (by decide +kernel)]; kernel_rfl) | (rw [if_neg (by decide +kernel)]; exact ⟨rfl, rfl⟩))
  (fun os started H enc _ => liftedOffersComeBack os started H enc)
theorem cardOffersComeBack : Rows.OffersComeBackCardSaid :=
 Claim7.holds_tied_plain_at .later [] [.data, .data, .data, .data, .sentinel, .sentinel, .pinned] true (true, "fea490b9caaa294fbd664e55b8210568bd1793e919865ba4d290413b53a80d50") true holdsOffersComeBack (fun _ h => by cases h) wfbtOffersComeBack (fun _ h => by cases h) offersComeBack_row_tie rfl ⟨rfl, rfl⟩ mainOffersComeBack rfl
  (fun f fn hf hfn => by
    obtain rfl : f = 3 := Option.some.inj (fnamOffersComeBack.symm.trans hf) |>.symm
    obtain rfl : fn = Tryz.f3 := (Option.some.inj (Tryz.func3.symm.trans hfn)).symm
    exact ⟨lookOffersComeBack, fun j t ht => by
     rw [Tryz.params3] at ht
     have hm : t ∈ [22] := by simpa using Array.mem_of_getElem? ht
     have hall := stanOffersComeBack
     exact (show Tryz.prog.wantsStandIn t = false by simpa using List.all_eq_true.1 hall t hm)⟩)
  goesOffersComeBack
end Go.Proofs.YtdjpppifnmjhoaaGreatDoor
end
