/- The statement is proved: the card of the law, out of its function's contract; no conditions. -/
import Derived.Test.YtnlfcjoofdjpiaaGreatDoorPart3
import Derived.LaidMore
import Derived.Lay
import Derived.OpenShut
import Derived.ProofKit
import Derived.SevenTiedAt
import Derived.Stop.Joined
import Derived.Test.YtnlfcjoofdjpiaaGreatDoorCards
import Derived.Test.YtnlfcjoofdjpiaaGreatDoorTie
section
namespace Go.Proofs.YtnlfcjoofdjpiaaGreatDoor
open Go.HL
set_option maxRecDepth 100000
set_option linter.unusedVariables false
set_option linter.unusedSimpArgs false
/-- strconv.Itoa of any number -/
theorem c_Itoa {n : Int} (h0 : -9223372036854775808 ≤ n) (h1 : n ≤ 9223372036854775807) : ConP Tryz.prog 23 [.int .i64 n] (.str (Lib.itoa n)) :=
  conp_itoa (by kernel_rfl) fun w ht => Any.strconv_Itoa Tryz.laysm171 n h0 h1 w ht

/-- benchwarmer/value.level -/
theorem c_value_level {l : List Asset} {p : HL.Place} {teams : Int} (hl : l.length ≤ 12) (hm : 0 ≤ p.Many ∧ p.Many ≤ 12) (ht : 1 ≤ teams ∧ teams ≤ 20) : ConP Tryz.prog 34 [eAssets l, ePlace p, .int .i64 teams] (.int .i64 (levelP l p teams)) := by
  have hmt := mul_bd (a := p.Many) (b := teams) (A := 12) (B := 20) hm.1 hm.2 (by omega) ht.2
  have hol := ofP_len l p.Position
  refine Con.of_body Tryz.func34 rfl Tryz.ntmps34 rfl rfl ?_
  refine hw_reg ?_
  refine dp rfl (pop_box rfl rfl) ?_
  refine dp rfl (pop_assign rfl) ?_
  refine dn ?_
  refine hw_reg ?_
  refine dp rfl (pop_move rfl) ?_
  refine dp rfl (pop_fieldAddr ty63 rfl ty9 (by decide) rfl) ?_
  refine dp rfl (pop_load ty9 rfl rfl rfl) ?_
  refine dp rfl (pop_call ca52 rfl (WeakL.refl _) (c_value_of (by first | assumption | omega | (simp; omega) | simp_all))) ?_
  refine dp rfl (pop_assign rfl) ?_
  refine dn ?_
  refine hw_seq ?_
  refine hw_reg ?_
  refine dp rfl (pop_move rfl) ?_
  refine dp rfl (pop_lenm ty26 rfl) ?_
  refine dp rfl (pop_eql rfl rfl) ?_
  refine dn ?_
  refine hw_cond rfl (fun h1 => ?_) (fun h2 => ?_)
  · try simp at h1
    refine hw_reg ?_
    refine dp rfl (pop_assign rfl) ?_
    refine dn ?_
    refine hw_ret ?_
    refine ret_p rfl ?_
    show HVal.int .i64 _ = _
    first | (rw [levelP, levelOf, if_pos (by simp_all)]; done) | (rw [levelP, levelOf, if_neg hne]; done)
  · try simp at h2
    refine hw_skip ?_
    refine seqQ_n ?_
    have hne : (ofP l p.Position).length ≠ 0 := by intro e; apply h2; simpa using e
    refine hw_reg ?_
    refine dp rfl (pop_move rfl) ?_
    refine dp rfl (pop_fieldAddr ty63 rfl ty3 (by decide) rfl) ?_
    refine dp rfl (pop_load ty3 rfl rfl rfl) ?_
    refine dp rfl (pop_move rfl) ?_
    refine dp rfl (pop_mul64 rfl rfl (by omega) (by omega)) ?_
    refine dp rfl (pop_move rfl) ?_
    refine dp rfl (pop_lenm ty26 rfl) ?_
    refine dp rfl (pop_sub64 rfl rfl (by omega) (by omega)) ?_
    refine dp rfl (pop_min rfl rfl) ?_
    refine dp rfl (pop_idx (j := (min (p.Many * teams) (((ofP l p.Position).length : Int) - 1)).toNat) (a := (ofP l p.Position).getD (min (p.Many * teams) (((ofP l p.Position).length : Int) - 1)).toNat asset0) ty26 ty57 rfl rfl (by split <;> omega) (getD_some (by omega))) ?_
    refine dp rfl (pop_fieldAddr ty57 rfl ty3 (by decide) rfl) ?_
    refine dp rfl (pop_load ty3 rfl rfl rfl) ?_
    refine dp rfl (pop_assign rfl) ?_
    refine dn ?_
    refine hw_ret ?_
    refine ret_p rfl ?_
    show HVal.int .i64 _ = _
    first | (rw [levelP, levelOf, if_pos (by simp_all)]; done) | (rw [levelP, levelOf, if_neg hne]; done)

/-- benchwarmer/value.levelsFault -/
theorem c_value_levelsFault {l : List Asset} {p : List HL.Place} {teams : Int} (hl : l.length ≤ 1000000) (hp : p.length ≤ 1000000) : ConP Tryz.prog 33 [eAssets l, ePlaces p, .int .i64 teams] (.int .i64 (lfault l p teams)) := by
  refine Con.of_body Tryz.func33 rfl Tryz.ntmps33 rfl rfl ?_
  refine hw_reg ?_
  refine dp rfl (pop_assign rfl) ?_
  refine dn ?_
  refine hw_reg ?_
  refine dp rfl (pop_move rfl) ?_
  refine dp rfl (pop_call ca9 rfl (WeakL.refl _) (c_value_CheckAssets (by first | assumption | omega | (simp; omega) | simp_all))) ?_
  refine dp rfl (pop_move rfl) ?_
  refine dp rfl (pop_call ca10 rfl (WeakL.refl _) (c_value_CheckPlaces (by first | assumption | omega | (simp; omega) | simp_all))) ?_
  refine dp rfl (pop_buildSlice (hs := [_, _]) ty71 ty31 rfl rfl (by decide) (by decide) rfl) ?_
  refine dp rfl (pop_call ca51 rfl (WeakL.refl _) (c_base_First (l := [_, _]) (by simp))) ?_
  refine dp rfl (pop_assign rfl) ?_
  refine dn ?_
  refine hw_seq ?_
  refine hw_reg ?_
  refine dp rfl (pop_move rfl) ?_
  refine dp rfl (pop_eql rfl rfl) ?_
  refine dp rfl (pop_move rfl) ?_
  refine dg rfl rfl (fun hc => ⟨_, OpenTo.refl _, pop_move rfl⟩) ?_
  refine dg rfl rfl (fun hc => ⟨_, OpenTo.upd (t := 17) rfl (by first | exact hc | simp_all) (OpenTo.refl _), pop_call ca32 rfl (WeakL.refl _) c_base_Out⟩) ?_
  refine dp rfl (pop_picko rfl (.inr ⟨_, rfl, fun h => by simp_all⟩) (.inl rfl)) ?_
  refine dn ?_
  refine hw_cond rfl (fun h1 => ?_) (fun h2 => ?_)
  · try simp at h1
    refine hw_reg1 ?_
    refine dp rfl (pop_assign rfl) ?_
    refine dn ?_
    refine seqQ_n ?_
    refine hw_reg ?_
    refine dp rfl (pop_move rfl) ?_
    refine dp rfl (pop_assign rfl) ?_
    refine dn ?_
    refine hw_ret ?_
    refine ret_p rfl ?_
    show HVal.int .i64 _ = _
    simp_all [lfault, okAP]
  · try simp at h2
    refine hw_skip ?_
    refine seqQ_n ?_
    refine hw_reg ?_
    refine dp rfl (pop_move rfl) ?_
    refine dp rfl (pop_assign rfl) ?_
    refine dn ?_
    refine hw_ret ?_
    refine ret_p rfl ?_
    show HVal.int .i64 _ = _
    simp_all [lfault, okAP]

/-- benchwarmer/value.Levels -/
theorem c_value_Levels {l : List Asset} {p : List HL.Place} {teams : Int} (hl : l.length ≤ 12) (hp : p.length ≤ 1000000) : ConP Tryz.prog 11 [eAssets l, ePlaces p, .int .i64 teams] (.tup [ePairs (if lfault l p teams != 0 then [] else levelsL (fun x => levelP l x teams) p), .int .i64 (lfault l p teams)]) := by
  refine Con.of_body Tryz.func11 rfl Tryz.ntmps11 rfl rfl ?_
  refine hw_reg ?_
  refine dp rfl (pop_assign rfl) ?_
  refine dp rfl (pop_assign rfl) ?_
  refine dn ?_
  refine hw_seq ?_
  refine hw_reg ?_
  refine dp rfl (pop_move rfl) ?_
  refine dp rfl (pop_move rfl) ?_
  refine dp rfl (pop_move rfl) ?_
  refine dp rfl (pop_call ca33 rfl (WeakL.refl _) (c_value_levelsFault (by first | assumption | omega | (simp; omega) | simp_all) (by first | assumption | omega | (simp; omega) | simp_all))) ?_
  refine dp rfl (pop_assign rfl) ?_
  refine dn ?_
  refine hw_reg ?_
  refine dp rfl (pop_move rfl) ?_
  refine dp rfl (pop_neq rfl rfl) ?_
  refine dn ?_
  refine hw_cond rfl (fun h1 => ?_) (fun h2 => ?_)
  · try simp at h1
    refine hw_reg ?_
    refine dp rfl (pop_move rfl) ?_
    refine dp rfl (pop_assign rfl) ?_
    refine dp rfl (pop_assign rfl) ?_
    refine dn ?_
    refine hw_ret ?_
    first
    | (refine ret_w rfl (weak_tup2 ?_ (Weak.refl _))
       rw [if_pos (by simpa using h1)]; exact weak_nil 2)
    | (refine ret_fa (M := []) 6 rfl rfl ?_
       rw [List.take_length, h2]; rfl)
  · try simp at h2
    refine hw_skip ?_
    refine seqQ_n ?_
    refine hw_reg ?_
    refine dp rfl (pop_assign rfl) ?_
    refine dn ?_
    refine hw_seq ?_
    obtain ⟨hok, htm⟩ := lfault_ok h2
    obtain ⟨f1, f2, f3, f4, f5⟩ := okAP_facts hok
    have f6 := okAP_many hok
    refine hw_ghost (Ghost.arr_nil 2) ?_
    refine hw_reg ?_
    refine dp rfl (pop_move rfl) ?_
    refine dp rfl (pop_lenm ty28 rfl) ?_
    refine dp rfl (pop_move rfl) ?_
    refine dn ?_
    refine hw_block ?_
    refine hw_loopw2 [9, 11, 21, 22, 23, 24, 25, 26, 27, 28, 29, 30, 31, 32, 33, 34, 35, 36] (fun (k : Nat) (u : Value) => [(21, .int .i64 k), (9, .raw u)]) (fun (k : Nat) (u : Value) => [.arr u 2 ((levelsL (fun x => levelP l x teams) (p.take k)).map ePair)]) (fun (k : Nat) (u : Value) => k ≤ p.length ∧ (True)) (fun (k : Nat) (u : Value) => p.length - k) (0) (.slice none 0 0) ?_ ?_ ?_ ?_
    · exact ⟨Nat.zero_le _, by simp_all⟩
    · exact ⟨rfl, rfl, trivial⟩
    · exact perm_eq (by simp [levelsL])
    · intro k u hinv
      obtain ⟨hk, -⟩ := hinv
      refine hw_reg ?_
      refine dp rfl (pop_lss rfl rfl) ?_
      refine dn ?_
      refine hw_seq ?_
      refine hw_cond rfl (fun h3 => ?_) (fun h4 => ?_)
      · try simp at h3
        obtain ⟨x, hx⟩ : ∃ x, p[k]? = some x := ⟨_, List.getElem?_eq_getElem h3⟩
        have hdx := drop_cons hx
        refine hw_skip ?_
        refine seqQ_n ?_
        refine hw_seq ?_
        refine hw_block ?_
        refine hw_reg ?_
        refine dp rfl (pop_idx ty28 ty63 rfl rfl rfl (by first | assumption | simp_all)) ?_
        refine dp rfl (pop_loadw ty63 rfl rfl rfl rfl) ?_
        refine de rfl (eop_alloc ty63 rfl fun b11 => ?_)
        refine de0 (eop_storew ty63 rfl rfl rfl rfl rfl ?_)
        refine dn ?_
        refine hw_ghost (Ghost.fc0 11 rfl) ?_
        refine hw_draw1 (fun _ => True) [] mixed ?_
        refine ahp 0 rfl rfl (by kernel_rfl) (by kernel_rfl) (pop_move rfl) ?_
        refine ahp 1 rfl rfl (by kernel_rfl) (by kernel_rfl) (pop_fieldAddr ty63 rfl ty9 (by decide) rfl) ?_
        refine ahp 2 rfl rfl (by kernel_rfl) (by kernel_rfl) (pop_load ty9 rfl rfl rfl) ?_
        refine ahp 3 rfl rfl (by kernel_rfl) (by kernel_rfl) (pop_move rfl) ?_
        refine ahp 4 rfl rfl (by kernel_rfl) (by kernel_rfl) (pop_loadw ty63 rfl rfl rfl rfl) ?_
        refine ahp 5 rfl rfl (by kernel_rfl) (by kernel_rfl) (pop_move rfl) ?_
        have hlb := levelOf_bd (o := ofP l x.Position) (fun y hy => ofP_mem hy) f2 x.Many teams
        refine ahp 6 rfl rfl (by kernel_rfl) (by kernel_rfl) (pop_call ca34 rfl (WeakL.refl _) (c_value_level (l := l) (p := x) (teams := teams) hl (f6 x (List.mem_of_getElem? hx)) htm)) ?_
        refine ahp 7 rfl rfl (by kernel_rfl) (by kernel_rfl) (pop_call ca23 rfl (WeakL.refl _) (c_Itoa (n := levelP l x teams) (by unfold levelP; omega) (by unfold levelP; omega))) ?_
        refine ahp 8 rfl rfl (by kernel_rfl) (by kernel_rfl) (pop_build (cs := [_, _]) ty45 pl45 rfl) ?_
        refine ahp 9 rfl rfl (by kernel_rfl) (by kernel_rfl) (pop_buildSlice (hs := [_]) ty34 ty45 rfl rfl (by decide) (by decide) rfl) ?_
        refine ahe 10 rfl (by kernel_rfl) ?_
        refine hop_e rfl (eop_append (i := 0) ty34 ty45 rfl rfl rfl rfl rfl (by simp [flat, hcells]) (by simp [levelsL]; omega) fun v35 => ?_)
        refine ⟨fun _ => .inl trivial, ?_⟩
        refine ahp 11 rfl rfl (by kernel_rfl) (by kernel_rfl) (pop_assign rfl) ?_
        refine ahz (by kernel_rfl) ?_
        refine blockQ_n ?_
        refine seqQ_n ?_
        refine hw_reg1 ?_
        refine dp rfl (pop_add64 rfl rfl (by omega) (by omega)) ?_
        refine dp rfl (pop_move rfl) ?_
        refine dn ?_
        refine ⟨k + 1, _, ?_, ?_, ⟨rfl, rfl, trivial⟩, (by repeat (first | exact keeps_refl | refine keeps_upd rfl ?_ | refine keeps_loop rfl rfl ?_)), perm_eq (by simp [levelsL, List.take_add_one, hx])⟩
        · exact ⟨by omega, trivial⟩
        · dsimp only; omega
      · try simp at h4
        have hnk : p.length ≤ k := by omega
        obtain rfl : k = p.length := by omega
        refine hw_exit ?_
        refine seqQ_x ?_
        refine loopQ2_x ?_
        refine blockQ_eq ?_
        refine seqQ_n ?_
        refine hw_reg ?_
        refine dp rfl (pop_move rfl) ?_
        refine dp rfl (pop_assign rfl) ?_
        refine dp rfl (pop_assign rfl) ?_
        refine dn ?_
        refine hw_ret ?_
        first
        | (refine ret_w rfl (weak_tup2 ?_ (Weak.refl _))
           rw [if_pos (by simpa using h1)]; exact weak_nil 2)
        | (refine ret_fa (M := []) 6 rfl rfl ?_
           rw [List.take_length, h2]; rfl)

/-- benchwarmer/value.worths$1 -/
theorem c_value_worths_1 {x y : Over}  : ConP Tryz.prog 54 [eOver x, eOver y] (.int .i64 (byWorth x y)) := by
  refine Con.of_body Tryz.func54 rfl Tryz.ntmps54 rfl rfl ?_
  refine hw_reg ?_
  refine dp rfl (pop_box rfl rfl) ?_
  refine dp rfl (pop_box rfl rfl) ?_
  refine dp rfl (pop_assign rfl) ?_
  refine dn ?_
  refine hw_draw (fun _ => True) [] mixed ?_
  refine ahp 0 rfl rfl (by kernel_rfl) (by kernel_rfl) (pop_fieldAddr ty50 rfl ty3 (by decide) rfl) ?_
  refine ahp 1 rfl rfl (by kernel_rfl) (by kernel_rfl) (pop_load ty3 rfl rfl rfl) ?_
  refine ahp 2 rfl rfl (by kernel_rfl) (by kernel_rfl) (pop_fieldAddr ty50 rfl ty3 (by decide) rfl) ?_
  refine ahp 3 rfl rfl (by kernel_rfl) (by kernel_rfl) (pop_load ty3 rfl rfl rfl) ?_
  refine ahp 4 rfl rfl (by kernel_rfl) (by kernel_rfl) (pop_call ca41 rfl (WeakL.refl _) c_cmp_Compare_int) ?_
  refine ahp 5 rfl rfl (by kernel_rfl) (by kernel_rfl) (pop_fieldAddr ty50 rfl ty9 (by decide) rfl) ?_
  refine ahp 6 rfl rfl (by kernel_rfl) (by kernel_rfl) (pop_load ty9 rfl rfl rfl) ?_
  refine ahp 7 rfl rfl (by kernel_rfl) (by kernel_rfl) (pop_fieldAddr ty50 rfl ty9 (by decide) rfl) ?_
  refine ahp 8 rfl rfl (by kernel_rfl) (by kernel_rfl) (pop_load ty9 rfl rfl rfl) ?_
  refine ahp 9 rfl rfl (by kernel_rfl) (by kernel_rfl) (pop_call ca56 rfl (WeakL.refl _) c_strings_Compare) ?_
  refine ahp 10 rfl rfl (by kernel_rfl) (by kernel_rfl) (pop_buildSlice (hs := [_, _]) ty22 ty3 rfl rfl (by decide) (by decide) rfl) ?_
  refine ahp 11 rfl rfl (by kernel_rfl) (by kernel_rfl) (pop_call ca55 rfl (WeakL.refl _) (c_cmp_Or_int (l := [_, _]) (by simp))) ?_
  refine ahp 12 rfl rfl (by kernel_rfl) (by kernel_rfl) (pop_assign rfl) ?_
  refine ahz (by kernel_rfl) ?_
  refine hw_ret ?_
  refine ret_p rfl ?_
  rfl

set_option maxHeartbeats 2000000 in
/-- benchwarmer/value.worths -/
theorem c_value_worths {l : List Asset} {p : List HL.Place} {teams : Int} (hl : l.length ≤ 12) (hp : p.length ≤ 10) (hm : ∀ x ∈ p, 0 ≤ x.Many ∧ x.Many ≤ 12) (ht : 1 ≤ teams ∧ teams ≤ 20) (hv : ∀ x ∈ l, -1000000 ≤ x.Value ∧ x.Value ≤ 1000000) (ho : (overP l p teams).length ≤ 12) : ConP Tryz.prog 35 [eAssets l, ePlaces p, .int .i64 teams] (eOvers (ranked (isort byWorth (overP l p teams)))) := by
  refine Con.of_body Tryz.func35 rfl Tryz.ntmps35 rfl rfl ?_
  refine hw_reg ?_
  refine dp rfl (pop_assign rfl) ?_
  refine dn ?_
  refine hw_reg ?_
  refine dp rfl (pop_assign rfl) ?_
  refine dn ?_
  refine hw_ghost (Ghost.arr_nil 3) ?_
  refine hw_seq ?_
  refine hw_reg ?_
  refine dp rfl (pop_move rfl) ?_
  refine dp rfl (pop_lenm ty28 rfl) ?_
  refine dp rfl (pop_move rfl) ?_
  refine dn ?_
  refine hw_block ?_
  refine hw_loopw2 [7, 9, 10, 12, 16, 17, 18, 19, 20, 21, 22, 23, 24, 25, 26, 27, 28, 29, 30, 31, 32, 33, 34, 35, 36, 37, 38, 39, 40, 41, 42, 43, 44] (fun (i : Nat) (u : Value) => [(16, .int .i64 i), (7, .raw u)]) (fun (i : Nat) (u : Value) => [.arr u 3 ((overP l (p.take i) teams).map eOver)]) (fun (i : Nat) (u : Value) => i ≤ p.length ∧ (True)) (fun (i : Nat) (u : Value) => p.length - i) (0) (.slice none 0 0) ?_ ?_ ?_ ?_
  · exact ⟨Nat.zero_le _, by simp_all⟩
  · exact ⟨rfl, rfl, trivial⟩
  · exact perm_eq (by simp [overP])
  · intro i u hinv
    obtain ⟨hi, -⟩ := hinv
    refine hw_reg ?_
    refine dp rfl (pop_lss rfl rfl) ?_
    refine dn ?_
    refine hw_seq ?_
    refine hw_cond rfl (fun h1 => ?_) (fun h2 => ?_)
    · try simp at h1
      obtain ⟨x, hx⟩ : ∃ x, p[i]? = some x := ⟨_, List.getElem?_eq_getElem h1⟩
      have hdx := drop_cons hx
      refine hw_skip ?_
      refine seqQ_n ?_
      refine hw_seq ?_
      refine hw_block ?_
      refine hw_reg ?_
      refine dp rfl (pop_idx ty28 ty63 rfl rfl rfl (by first | assumption | simp_all)) ?_
      refine dp rfl (pop_loadw ty63 rfl rfl rfl rfl) ?_
      refine de rfl (eop_alloc ty63 rfl fun b9 => ?_)
      refine de0 (eop_storew ty63 rfl rfl rfl rfl rfl ?_)
      refine dn ?_
      refine hw_ghost (Ghost.fc0 9 rfl) ?_
      refine hw_reg ?_
      refine dp rfl (pop_move rfl) ?_
      refine dp rfl (pop_loadw ty63 rfl rfl rfl rfl) ?_
      refine dp rfl (pop_move rfl) ?_
      refine dp rfl (pop_call ca34 rfl (WeakL.refl _) (c_value_level (l := l) (p := x) (teams := teams) hl (hm x (List.mem_of_getElem? hx)) ht)) ?_
      refine dp rfl (pop_assign rfl) ?_
      refine dn ?_
      refine hw_reg ?_
      refine dp rfl (pop_move rfl) ?_
      refine dp rfl ((by first | exact pop_fieldAddr ty63 rfl ty9 (by decide) rfl | exact pop_fieldAddr_raw ty63 rfl ty9 (by decide) rfl)) ?_
      refine dp rfl (pop_load ty9 rfl rfl rfl) ?_
      refine dp rfl (pop_call ca52 rfl (WeakL.refl _) (c_value_of (by first | assumption | omega | (simp; omega) | simp_all))) ?_
      refine dp rfl (pop_lenm ty26 rfl) ?_
      refine dp rfl (pop_move rfl) ?_
      refine dn ?_
      refine hw_block ?_
      refine hw_loopw2 [7, 12, 29, 30, 31, 32, 33, 34, 35, 36, 37, 38, 39, 40, 41, 42, 43] (fun (k : Nat) (w : Value) => [(29, .int .i64 k), (7, .raw w)]) (fun (k : Nat) (w : Value) => [.arr w 3 (((overP l (p.take i) teams) ++ (((ofP l x.Position).take k).map fun y => (⟨y.Player, y.Value - levelP l x teams, 0⟩ : Over))).map eOver)]) (fun (k : Nat) (w : Value) => k ≤ (ofP l x.Position).length ∧ (True)) (fun (k : Nat) (w : Value) => (ofP l x.Position).length - k) (0) (u) ?_ ?_ ?_ ?_
      · exact ⟨Nat.zero_le _, by simp_all⟩
      · exact ⟨rfl, rfl, trivial⟩
      · exact perm_eq (by simp)
      · intro k w hinv
        obtain ⟨hk, -⟩ := hinv
        refine hw_reg ?_
        refine dp rfl (pop_lss rfl rfl) ?_
        refine dn ?_
        refine hw_seq ?_
        refine hw_cond rfl (fun h3 => ?_) (fun h4 => ?_)
        · try simp at h3
          obtain ⟨y, hy⟩ : ∃ y, (ofP l x.Position)[k]? = some y := ⟨_, List.getElem?_eq_getElem h3⟩
          have hdy := drop_cons hy
          refine hw_skip ?_
          refine seqQ_n ?_
          refine hw_seq ?_
          refine hw_block ?_
          refine hw_reg ?_
          refine dp rfl (pop_idx ty26 ty57 rfl rfl rfl (by first | assumption | simp_all)) ?_
          refine dp rfl (pop_loadw ty57 rfl rfl rfl rfl) ?_
          refine de rfl (eop_alloc ty57 rfl fun b12 => ?_)
          refine de0 (eop_storew ty57 rfl rfl rfl rfl rfl ?_)
          refine dn ?_
          refine hw_ghost (Ghost.fc0 12 rfl) ?_
          refine hw_reg1 ?_
          refine dp rfl (pop_move rfl) ?_
          refine dp rfl ((by first | exact pop_fieldAddr ty57 rfl ty9 (by decide) rfl | exact pop_fieldAddr_raw ty57 rfl ty9 (by decide) rfl)) ?_
          refine dp rfl (pop_load ty9 rfl rfl rfl) ?_
          refine dp rfl ((by first | exact pop_fieldAddr ty57 rfl ty3 (by decide) rfl | exact pop_fieldAddr_raw ty57 rfl ty3 (by decide) rfl)) ?_
          refine dp rfl (pop_load ty3 rfl rfl rfl) ?_
          refine dp rfl (pop_move rfl) ?_
          have hlb := levelOf_bd (o := ofP l x.Position) (fun y hy => ofP_mem hy) hv x.Many teams
          have hvy := hv y (ofP_mem (List.mem_of_getElem? hy))
          have hol := ofP_len l x.Position
          have hfl := overP_len hl teams (p.take i)
          have hpi : (p.take i).length ≤ 10 := by simp; omega
          refine dp rfl (pop_sub64 rfl rfl (by unfold levelP; omega) (by unfold levelP; omega)) ?_
          refine dp rfl (pop_build (cs := [_, _, _]) ty50 pl50 rfl) ?_
          refine dp rfl (pop_buildSlice (hs := [_]) ty37 ty50 rfl rfl (by decide) (by decide) rfl) ?_
          refine de rfl (eop_append (i := 0) ty37 ty50 rfl rfl rfl rfl rfl (by simp [flat, hcells, ofVal, ofVal1]) (by simp only [List.length_map, List.length_append, List.length_take, List.length_cons, List.length_nil]; omega) fun v42 => ?_)
          refine dp rfl (pop_assign rfl) ?_
          refine dn ?_
          refine blockQ_n ?_
          refine seqQ_n ?_
          refine hw_reg1 ?_
          refine dp rfl (pop_add64 rfl rfl (by omega) (by omega)) ?_
          refine dp rfl (pop_move rfl) ?_
          refine dn ?_
          refine ⟨k + 1, _, ?_, ?_, ⟨rfl, rfl, trivial⟩, (by repeat (first | exact keeps_refl | refine keeps_upd rfl ?_ | refine keeps_loop rfl rfl ?_)), perm_eq (by simp [List.take_add_one, hy, ofVal, ofVal1])⟩
          · exact ⟨by omega, trivial⟩
          · dsimp only; omega
        · try simp at h4
          have hnk : (ofP l x.Position).length ≤ k := by omega
          obtain rfl : k = (ofP l x.Position).length := by omega
          refine hw_exit ?_
          refine seqQ_x ?_
          refine loopQ2_x ?_
          refine blockQ_eq ?_
          refine blockQ_n ?_
          refine seqQ_n ?_
          refine hw_reg1 ?_
          refine dp rfl (pop_add64 rfl rfl (by omega) (by omega)) ?_
          refine dp rfl (pop_move rfl) ?_
          refine dn ?_
          exact ⟨i + 1, _, ⟨by omega, trivial⟩, by dsimp only; omega, ⟨rfl, rfl, trivial⟩, (by repeat (first | exact keeps_refl | refine keeps_upd rfl ?_ | refine keeps_loop rfl rfl ?_)), perm_eq (by dsimp only; rw [overP_snoc l teams hx, List.take_length])⟩
    · try simp at h2
      have hni : p.length ≤ i := by omega
      obtain rfl : i = p.length := by omega
      refine hw_exit ?_
      refine seqQ_x ?_
      refine loopQ2_x ?_
      refine blockQ_eq ?_
      refine seqQ_n ?_
      rw [List.take_length]
      refine hw_reg ?_
      refine dp rfl (pop_move rfl) ?_
      first
      | refine de rfl (eop_callx (i := 0) ca53 rfl (WeakL.refl _) rfl (c_slices_SortFunc_api_Over_api_Over (l := overP l p teams) (c := byWorth) (caps := []) ca54 (fun x y => c_value_worths_1) ho) ?_)
      | refine de rfl (eop_callx (i := 1) ca53 rfl (WeakL.refl _) rfl (c_slices_SortFunc_api_Over_api_Over (l := overP l p teams) (c := byWorth) (caps := []) ca54 (fun x y => c_value_worths_1) ho) ?_)
      | refine de rfl (eop_callx (i := 2) ca53 rfl (WeakL.refl _) rfl (c_slices_SortFunc_api_Over_api_Over (l := overP l p teams) (c := byWorth) (caps := []) ca54 (fun x y => c_value_worths_1) ho) ?_)
      | refine de rfl (eop_callx (i := 3) ca53 rfl (WeakL.refl _) rfl (c_slices_SortFunc_api_Over_api_Over (l := overP l p teams) (c := byWorth) (caps := []) ca54 (fun x y => c_value_worths_1) ho) ?_)
      rintro _ _ ⟨rfl, rfl⟩
      refine dn ?_
      generalize hW : isort byWorth (overP l p teams) = W
      have hWl : W.length ≤ 12 := by rw [← hW, isort_len]; exact ho
      refine hw_seq ?_
      refine hw_reg ?_
      refine dp rfl (pop_move rfl) ?_
      first
      | refine de rfl (eop_lenm (i := 0) ty37 rfl rfl ?_)
      | refine de rfl (eop_lenm (i := 1) ty37 rfl rfl ?_)
      | refine de rfl (eop_lenm (i := 2) ty37 rfl rfl ?_)
      | refine de rfl (eop_lenm (i := 3) ty37 rfl rfl ?_)
      refine dp rfl (pop_move rfl) ?_
      refine dn ?_
      refine hw_block ?_
      refine hw_loopw [13, 49, 50, 51, 52, 53, 54, 55, 56, 57, 58, 59, 60, 61, 62, 63, 64, 65, 66, 67, 68, 69, 70, 71, 72, 73, 74, 75, 76, 77, 78, 79, 80, 81, 82, 83, 84] (fun (k : Nat) => [(49, .int .i64 k)]) (fun (k : Nat) => [.arr u 3 ((rankTo W k).map eOver)]) (fun (k : Nat) => k ≤ W.length ∧ (True)) (fun (k : Nat) => W.length - k) (0) ?_ ?_ ?_ ?_
      · exact ⟨Nat.zero_le _, by simp_all⟩
      · exact ⟨rfl, trivial⟩
      · exact perm_eq (by rw [rankTo_zero]; rfl)
      · intro k hinv
        obtain ⟨hk, -⟩ := hinv
        refine hw_reg ?_
        refine dp rfl (pop_lss rfl rfl) ?_
        refine dn ?_
        refine hw_seq ?_
        refine hw_cond rfl (fun h5 => ?_) (fun h6 => ?_)
        · try simp at h5
          obtain ⟨x, hx⟩ : ∃ x, W[k]? = some x := ⟨_, List.getElem?_eq_getElem h5⟩
          have hdx := drop_cons hx
          refine hw_arrc (i := 0) rfl (fun h0 he => ?_) (fun b off cap hv hcap => ?_)
          · exfalso
            have h9 : (rankTo W k).length = 0 := by simpa using congrArg List.length he
            rw [rankTo_len] at h9
            omega
          rw [List.length_map, rankTo_len] at hv hcap
          subst hv
          refine hw_skip ?_
          refine seqQ_n ?_
          refine hw_seq ?_
          refine hw_block ?_
          refine hw_reg ?_
          refine dp rfl (pop_move rfl) ?_
          refine dp rfl (pop_assign rfl) ?_
          refine dn ?_
          refine hw_reg ?_
          refine dp rfl (pop_move rfl) ?_
          refine dp rfl (pop_move rfl) ?_
          refine dp rfl (pop_move rfl) ?_
          refine dp rfl (pop_add64 rfl rfl (by omega) (by omega)) ?_
          refine dp rfl (pop_idxraw (j := k) ty37 ty50 rfl rfl rfl (by omega)) ?_
          refine dp rfl ((by first | exact pop_fieldAddr ty50 rfl ty3 (by decide) rfl | exact pop_fieldAddr_raw ty50 rfl ty3 (by decide) rfl)) ?_
          refine de0 (eop_store_arr (i := 0) (j := k) (f := 2) (y := eOver x) (y' := eOver ⟨x.Player, x.Worth, (k : Int) + 1⟩) ty3 rfl (by omega) rfl rfl (map_get ((rankTo_get hx).trans (by simp))) rfl rfl (by simp [hcells]) rfl ?_)
          refine dn ?_
          refine hw_draw (fun M => ∃ i : Nat, M[i]? = some (.arr (.slice (some ⟨b, off, none⟩) W.length cap) 3 (((rankTo W k).map eOver).set k (eOver ⟨x.Player, x.Worth, (k : Int) + 1⟩)))) [7, 13] mixed ?_
          refine ahp 0 rfl rfl (by kernel_rfl) (by kernel_rfl) (pop_move rfl) ?_
          refine ahp 1 rfl rfl (by kernel_rfl) (by kernel_rfl) (pop_gtr rfl rfl) ?_
          refine ahp 2 rfl rfl (by kernel_rfl) (by kernel_rfl) (pop_move rfl) ?_
          refine ahg 3 rfl rfl (by kernel_rfl) (by kernel_rfl) rfl (fun hc => ⟨_, OpenTo.refl _, pop_move rfl⟩) ?_
          refine ahg 4 rfl rfl (by kernel_rfl) (by kernel_rfl) rfl (fun hc => ⟨_, OpenTo.refl _, pop_move rfl⟩) ?_
          refine ahg 5 rfl rfl (by kernel_rfl) (by kernel_rfl) rfl (fun hc => by have hq := hc; (try simp at hq); exact ⟨_, OpenTo.upd (t := 62) rfl (by first | exact hc | simp_all) (OpenTo.upd (t := 61) rfl (by first | exact hc | simp_all) (OpenTo.refl _)), pop_idxraw (j := k) ty37 ty50 rfl rfl rfl (by omega)⟩) ?_
          refine ahg 6 rfl rfl (by kernel_rfl) (by kernel_rfl) rfl (fun hc => ⟨_, OpenTo.upd (t := 63) rfl (by first | exact hc | simp_all) (OpenTo.refl _), (by first | exact pop_fieldAddr ty50 rfl ty3 (by decide) rfl | exact pop_fieldAddr_raw ty50 rfl ty3 (by decide) rfl)⟩) ?_
          refine ahgl 7 rfl rfl (by kernel_rfl) (by kernel_rfl) (by simp) ⟨0, rfl⟩ rfl (fun hc => ⟨_, OpenTo.upd (t := 64) rfl (by first | exact hc | simp_all) (OpenTo.refl _), fun M hM => by
              obtain ⟨i, hi⟩ := hM; exact eop_load_arr (i := i) (j := k) (f := 1) (y := eOver ⟨x.Player, x.Worth, (k : Int) + 1⟩) ty3 rfl (by omega) hi (set_self (map_get (rankTo_get hx))) (.inl ⟨rfl, rfl⟩) ⟨rfl, rfl⟩
            ⟩) ?_
          refine ahg 8 rfl rfl (by kernel_rfl) (by kernel_rfl) rfl (fun hc => ⟨_, OpenTo.refl _, pop_move rfl⟩) ?_
          refine ahg 9 rfl rfl (by kernel_rfl) (by kernel_rfl) rfl (fun hc => ⟨_, OpenTo.refl _, pop_move rfl⟩) ?_
          refine ahg 10 rfl rfl (by kernel_rfl) (by kernel_rfl) rfl (fun hc => by
              have hq : 0 < k := by simpa using hc
              exact ⟨_, OpenTo.upd (t := 67) rfl (by first | exact hc | simp_all) (OpenTo.refl _), pop_sub64 rfl rfl (by omega) (by omega)⟩) ?_
          refine ahg 11 rfl rfl (by kernel_rfl) (by kernel_rfl) rfl (fun hc => by
              have hq : 0 < k := by simpa using hc
              exact ⟨_, OpenTo.upd (t := 68) rfl (by first | exact hc | simp_all) (OpenTo.upd (t := 66) rfl (by first | exact hc | simp_all) (OpenTo.refl _)), pop_idxraw (j := k - 1) ty37 ty50 rfl rfl (by omega) (by omega)⟩) ?_
          refine ahg 12 rfl rfl (by kernel_rfl) (by kernel_rfl) rfl (fun hc => ⟨_, OpenTo.upd (t := 69) rfl (by first | exact hc | simp_all) (OpenTo.refl _), (by first | exact pop_fieldAddr ty50 rfl ty3 (by decide) rfl | exact pop_fieldAddr_raw ty50 rfl ty3 (by decide) rfl)⟩) ?_
          refine ahgl 13 rfl rfl (by kernel_rfl) (by kernel_rfl) (by simp) ⟨0, rfl⟩ rfl (fun hc => ⟨_, OpenTo.upd (t := 70) rfl (by first | exact hc | simp_all) (OpenTo.refl _), fun M hM => by
              have hq : 0 < k := by simpa using hc
              obtain ⟨i, hi⟩ := hM
              have hg1 : W[k - 1]? = some (W.getD (k - 1) over0) := getD_some (by omega)
              exact eop_load_arr (i := i) (j := k - 1) (f := 1) (y := eOver { W.getD (k - 1) over0 with Rank := rankAt W (k - 1) }) ty3 rfl (by omega) hi (by rw [List.getElem?_set_ne (by omega)]; exact map_get ((rankTo_get hg1).trans (by rw [if_pos (by omega)]))) (.inl ⟨rfl, rfl⟩) ⟨rfl, rfl⟩
            ⟩) ?_
          refine ahg 14 rfl rfl (by kernel_rfl) (by kernel_rfl) rfl (fun hc => ⟨_, OpenTo.upd (t := 71) rfl (by first | exact hc | simp_all) (OpenTo.upd (t := 65) rfl (by first | exact hc | simp_all) (OpenTo.refl _)), pop_eql rfl rfl⟩) ?_
          refine ahp 15 rfl rfl (by kernel_rfl) (by kernel_rfl) (pop_picko rfl (.inr ⟨_, rfl, fun h => by simp_all⟩) (.inl rfl)) ?_
          refine ahz (by kernel_rfl) ?_
          refine hw_cond rfl (fun h7 => ?_) (fun h8 => ?_)
          · try simp at h7
            refine hw_reg1 ?_
            refine dp rfl (pop_move rfl) ?_
            refine dp rfl (pop_move rfl) ?_
            refine dp rfl (pop_move rfl) ?_
            refine dp rfl (pop_move rfl) ?_
            refine dp rfl (pop_sub64 rfl rfl (by omega) (by omega)) ?_
            refine dp rfl (pop_idxraw (j := k - 1) ty37 ty50 rfl rfl (by omega) (by omega)) ?_
            refine dp rfl ((by first | exact pop_fieldAddr ty50 rfl ty3 (by decide) rfl | exact pop_fieldAddr_raw ty50 rfl ty3 (by decide) rfl)) ?_
            obtain ⟨hk0, hke⟩ := h7
            have hg1 : W[k - 1]? = some (W.getD (k - 1) over0) := getD_some (by omega)
            refine de rfl (eop_load_arr (i := 0) (j := k - 1) (f := 2) (y := eOver { W.getD (k - 1) over0 with Rank := rankAt W (k - 1) }) ty3 rfl (by omega) rfl (by rw [List.getElem?_set_ne (by omega)]; exact map_get ((rankTo_get hg1).trans (by rw [if_pos (by omega)]))) (.inl ⟨rfl, rfl⟩) ?_)
            refine dp rfl (pop_idxraw (j := k) ty37 ty50 rfl rfl rfl (by omega)) ?_
            refine dp rfl ((by first | exact pop_fieldAddr ty50 rfl ty3 (by decide) rfl | exact pop_fieldAddr_raw ty50 rfl ty3 (by decide) rfl)) ?_
            refine de0 (eop_store_arr (i := 0) (j := k) (f := 2) (y := eOver ⟨x.Player, x.Worth, (k : Int) + 1⟩) (y' := eOver ⟨x.Player, x.Worth, rankAt W (k - 1)⟩) ty3 rfl (by omega) rfl rfl (set_self (map_get (rankTo_get hx))) rfl rfl (by simp [hcells]) rfl ?_)
            refine dn ?_
            refine blockQ_n ?_
            refine seqQ_n ?_
            refine hw_reg1 ?_
            refine dp rfl (pop_add64 rfl rfl (by omega) (by omega)) ?_
            refine dp rfl (pop_move rfl) ?_
            refine dn ?_
            exact ⟨k + 1, ⟨by omega, trivial⟩, by dsimp only; omega, ⟨rfl, trivial⟩, (by repeat (first | exact keeps_refl | refine keeps_upd rfl ?_ | refine keeps_loop rfl rfl ?_)), perm_eq (by dsimp only; rw [rankTo_succ hx, rankAt_old hx hk0 (by simpa [List.getD] using hke), List.map_set]; simp)⟩
          · try simp at h8
            refine hw_skip ?_
            refine blockQ_n ?_
            refine seqQ_n ?_
            refine hw_reg1 ?_
            refine dp rfl (pop_add64 rfl rfl (by omega) (by omega)) ?_
            refine dp rfl (pop_move rfl) ?_
            refine dn ?_
            exact ⟨k + 1, ⟨by omega, trivial⟩, by dsimp only; omega, ⟨rfl, trivial⟩, (by repeat (first | exact keeps_refl | refine keeps_upd rfl ?_ | refine keeps_loop rfl rfl ?_)), perm_eq (by dsimp only; rw [rankTo_succ hx, rankAt_new hx (by simpa [List.getD] using h8), List.map_set]; simp)⟩
        · try simp at h6
          have hnk : W.length ≤ k := by omega
          obtain rfl : k = W.length := by omega
          refine hw_exit ?_
          refine seqQ_x ?_
          refine loopQ_x ?_
          refine blockQ_eq ?_
          refine seqQ_n ?_
          refine hw_reg ?_
          refine dp rfl (pop_move rfl) ?_
          refine dp rfl (pop_assign rfl) ?_
          refine dn ?_
          refine hw_ret ?_
          refine ret_fa (M := []) 6 rfl rfl ?_
          rw [rankTo_all]

/-- benchwarmer/value.Worths -/
theorem c_value_Worths {l : List Asset} {p : List HL.Place} {teams : Int} (hl : l.length ≤ 12) (hp : p.length ≤ 1000000) : ConP Tryz.prog 12 [eAssets l, ePlaces p, .int .i64 teams] (.tup [eOvers (if lfault l p teams != 0 then [] else ranked (isort byWorth (overP l p teams))), .int .i64 (lfault l p teams)]) := by
  refine Con.of_body Tryz.func12 rfl Tryz.ntmps12 rfl rfl ?_
  refine hw_reg ?_
  refine dp rfl (pop_assign rfl) ?_
  refine dp rfl (pop_assign rfl) ?_
  refine dn ?_
  refine hw_seq ?_
  refine hw_reg ?_
  refine dp rfl (pop_move rfl) ?_
  refine dp rfl (pop_move rfl) ?_
  refine dp rfl (pop_move rfl) ?_
  refine dp rfl (pop_call ca33 rfl (WeakL.refl _) (c_value_levelsFault (by first | assumption | omega | (simp; omega) | simp_all) (by first | assumption | omega | (simp; omega) | simp_all))) ?_
  refine dp rfl (pop_assign rfl) ?_
  refine dn ?_
  refine hw_reg ?_
  refine dp rfl (pop_move rfl) ?_
  refine dp rfl (pop_neq rfl rfl) ?_
  refine dn ?_
  refine hw_cond rfl (fun h1 => ?_) (fun h2 => ?_)
  · try simp at h1
    refine hw_reg ?_
    refine dp rfl (pop_move rfl) ?_
    refine dp rfl (pop_assign rfl) ?_
    refine dp rfl (pop_assign rfl) ?_
    refine dn ?_
    refine hw_ret ?_
    first
    | (refine ret_w rfl (weak_tup2 ?_ (Weak.refl _))
       rw [if_pos (by simpa using h1)]; exact weak_nil 3)
    | (refine ret_p rfl ?_
       rw [h2]; rfl)
  · try simp at h2
    refine hw_skip ?_
    refine seqQ_n ?_
    obtain ⟨hok, htm⟩ := lfault_ok h2
    obtain ⟨f1, f2, f3, f4, f5⟩ := okAP_facts hok
    have f6 := okAP_many hok
    have f7 := overP_small (l := l) (checkPlaces_sorted (okAP_ok hok).2) teams
    refine hw_reg ?_
    refine dp rfl (pop_move rfl) ?_
    refine dp rfl (pop_move rfl) ?_
    refine dp rfl (pop_move rfl) ?_
    refine dp rfl (pop_call ca35 rfl (WeakL.refl _) (c_value_worths (l := l) (p := p) (teams := teams) hl f5 f6 htm f2 (by omega))) ?_
    refine dp rfl (pop_assign rfl) ?_
    refine dp rfl (pop_assign rfl) ?_
    refine dn ?_
    refine hw_ret ?_
    first
    | (refine ret_w rfl (weak_tup2 ?_ (Weak.refl _))
       rw [if_pos (by simpa using h1)]; exact weak_nil 3)
    | (refine ret_p rfl ?_
       rw [h2]; rfl)
end Go.Proofs.YtnlfcjoofdjpiaaGreatDoor
end
section
namespace Go.HL
def overRL (l0 : List Asset) (p : List Place) (teams : Int) (l : List Asset) : List Over := l.flatMap fun x => (p.filter (fun y => x.Position == y.Position)).map fun y => ⟨x.Player, x.Value - levelR l0 y teams, 0⟩
theorem overRL_all (l : List Asset) (p : List Place) (teams : Int) : overRL l p teams l = overR l p teams := rfl
theorem overRL_snoc (l0 : List Asset) {l : List Asset} {p : List Place} {i : Nat} {x : Asset} (teams : Int) (h : l[i]? = some x) : overRL l0 p teams (l.take (i + 1)) = overRL l0 p teams (l.take i) ++ (p.filter (fun y => x.Position == y.Position)).map fun y => ⟨x.Player, x.Value - levelR l0 y teams, 0⟩ := by
  rw [take_snoc' h]; simp [overRL]
theorem overRL_len (l0 : List Asset) {p : List Place} (hp : p.length ≤ 10) (teams : Int) : ∀ l : List Asset, (overRL l0 p teams l).length ≤ 10 * l.length
  | [] => by simp [overRL]
  | x :: l => by
    have ih := overRL_len l0 hp teams l
    have h1 := List.length_filter_le (fun y : Place => x.Position == y.Position) p
    have e : overRL l0 p teams (x :: l) = ((p.filter (fun y => x.Position == y.Position)).map fun y => ⟨x.Player, x.Value - levelR l0 y teams, 0⟩) ++ overRL l0 p teams l := by simp [overRL]
    rw [e, List.length_append, List.length_map, List.length_cons, Nat.mul_succ]; omega
theorem overR_small {l : List Asset} {p : List Place} (ha : SortedS (l.map (·.Player))) (hp : SortedS (p.map (·.Position))) (teams : Int) : (overR l p teams).length ≤ l.length := by
  rw [overR_M ha]
  have := (overM_players (sortedS_nodup hp) l teams l).length_le
  simpa using this
/-- How many of the first m are worth more, and one. -/
def rankN (W : List Over) (x : Over) (m : Nat) : Int := 1 + (((W.take m).filter (fun y => decide (x.Worth < y.Worth))).length : Int)
theorem rankN_yes {W : List Over} {x y : Over} {m : Nat} (hy : W[m]? = some y) (h : x.Worth < y.Worth) : rankN W x (m + 1) = rankN W x m + 1 := by
  unfold rankN; rw [take_snoc' hy, List.filter_append]; simp [h]; omega
theorem rankN_no {W : List Over} {x y : Over} {m : Nat} (hy : W[m]? = some y) (h : ¬ x.Worth < y.Worth) : rankN W x (m + 1) = rankN W x m := by
  unfold rankN; rw [take_snoc' hy, List.filter_append]; simp [h]
theorem rankN_bd (W : List Over) (x : Over) (m : Nat) : 1 ≤ rankN W x m ∧ rankN W x m ≤ 1 + W.length := by
  unfold rankN
  have h1 := List.length_filter_le (fun y : Over => decide (x.Worth < y.Worth)) (W.take m)
  have h2 : (W.take m).length ≤ W.length := by simp; omega
  omega
def rankRTo (W : List Over) (k : Nat) : List Over := W.mapIdx fun i x => if i < k then { x with Rank := rankN W x W.length } else x
theorem rankRTo_zero (W : List Over) : rankRTo W 0 = W := by
  unfold rankRTo
  apply List.ext_getElem
  · simp
  · intro i h1 h2; simp
theorem rankRTo_len (W : List Over) (k : Nat) : (rankRTo W k).length = W.length := by simp [rankRTo]
theorem rankRTo_all (W : List Over) : rankRTo W W.length = rankedR W := by
  unfold rankRTo rankedR
  apply List.ext_getElem
  · simp
  · intro i h1 h2
    have : i < W.length := by simpa using h1
    simp [this, rankN]
theorem rankRTo_get {W : List Over} {k i : Nat} {x : Over} (h : W[i]? = some x) : (rankRTo W k)[i]? = some (if i < k then { x with Rank := rankN W x W.length } else x) := by
  unfold rankRTo
  rw [List.getElem?_mapIdx, h]; rfl
theorem rankRTo_succ {W : List Over} {k : Nat} {x : Over} (h : W[k]? = some x) : rankRTo W (k + 1) = (rankRTo W k).set k { x with Rank := rankN W x W.length } := by
  apply List.ext_getElem?
  intro i
  by_cases hi : i = k
  · subst hi
    rw [rankRTo_get h, List.getElem?_set_self (by rw [rankRTo_len]; exact lt_of_get h), if_pos (by omega)]
  · rw [List.getElem?_set_ne (Ne.symm hi)]
    cases hx : W[i]? with
    | none =>
      have hn : W.length ≤ i := by
        rcases Nat.lt_or_ge i W.length with h' | h'
        · rw [List.getElem?_eq_getElem h'] at hx; cases hx
        · exact h'
      rw [List.getElem?_eq_none (by rw [rankRTo_len]; exact hn), List.getElem?_eq_none (by rw [rankRTo_len]; exact hn)]
    | some y =>
      rw [rankRTo_get hx, rankRTo_get hx]
      by_cases hlt : i < k
      · rw [if_pos hlt, if_pos (by omega)]
      · rw [if_neg hlt, if_neg (by omega)]
theorem rankRTo_any {W : List Over} {k m : Nat} {x y : Over} (r : Int) (hx : W[k]? = some x) (hy : W[m]? = some y) : ∃ z, ((rankRTo W k).set k ⟨x.Player, x.Worth, r⟩)[m]? = some z ∧ z.Worth = y.Worth := by
  by_cases hm : m = k
  · subst hm
    rw [hx] at hy; cases hy
    exact ⟨_, List.getElem?_set_self (by rw [rankRTo_len]; exact lt_of_get hx), rfl⟩
  · refine ⟨_, (List.getElem?_set_ne (Ne.symm hm)).trans (rankRTo_get hy), ?_⟩
    split <;> rfl
end Go.HL
end
section
namespace Go.Proofs.YtnlfcjoofdjpiaaGreatDoor
open Go.HL
set_option maxRecDepth 100000
set_option linter.unusedVariables false
set_option linter.unusedSimpArgs false
/-- benchwarmer/benchref1.level -/
theorem c_benchref1_level {l : List Asset} {p : HL.Place} {teams : Int} (hl : l.length ≤ 12) (hm : 0 ≤ p.Many ∧ p.Many ≤ 12) (ht : 1 ≤ teams ∧ teams ≤ 20) : ConP Tryz.prog 44 [eAssets l, ePlace p, .int .i64 teams] (.int .i64 (levelR l p teams)) := by
  have hmt := mul_bd (a := p.Many) (b := teams) (A := 12) (B := 20) hm.1 hm.2 (by omega) ht.2
  have hol := ofR_len l p.Position
  refine Con.of_body Tryz.func44 rfl Tryz.ntmps44 rfl rfl ?_
  refine hw_reg ?_
  refine dp rfl (pop_box rfl rfl) ?_
  refine dp rfl (pop_assign rfl) ?_
  refine dn ?_
  refine hw_reg ?_
  refine dp rfl (pop_move rfl) ?_
  refine dp rfl (pop_fieldAddr ty63 rfl ty9 (by decide) rfl) ?_
  refine dp rfl (pop_load ty9 rfl rfl rfl) ?_
  refine dp rfl (pop_call ca62 rfl (WeakL.refl _) (c_benchref1_of (by first | assumption | omega | (simp; omega) | simp_all))) ?_
  refine dp rfl (pop_assign rfl) ?_
  refine dn ?_
  refine hw_seq ?_
  refine hw_reg ?_
  refine dp rfl (pop_move rfl) ?_
  refine dp rfl (pop_lenm ty26 rfl) ?_
  refine dp rfl (pop_eql rfl rfl) ?_
  refine dn ?_
  refine hw_cond rfl (fun h1 => ?_) (fun h2 => ?_)
  · try simp at h1
    refine hw_reg ?_
    refine dp rfl (pop_assign rfl) ?_
    refine dn ?_
    refine hw_ret ?_
    refine ret_p rfl ?_
    show HVal.int .i64 _ = _
    first | (rw [levelR, levelOf, if_pos (by simp_all)]; done) | (rw [levelR, levelOf, if_neg hne]; done)
  · try simp at h2
    refine hw_skip ?_
    refine seqQ_n ?_
    have hne : (ofR l p.Position).length ≠ 0 := by intro e; apply h2; simpa using e
    refine hw_reg ?_
    refine dp rfl (pop_move rfl) ?_
    refine dp rfl (pop_fieldAddr ty63 rfl ty3 (by decide) rfl) ?_
    refine dp rfl (pop_load ty3 rfl rfl rfl) ?_
    refine dp rfl (pop_move rfl) ?_
    refine dp rfl (pop_mul64 rfl rfl (by omega) (by omega)) ?_
    refine dp rfl (pop_move rfl) ?_
    refine dp rfl (pop_lenm ty26 rfl) ?_
    refine dp rfl (pop_sub64 rfl rfl (by omega) (by omega)) ?_
    refine dp rfl (pop_min rfl rfl) ?_
    refine dp rfl (pop_idx (j := (min (p.Many * teams) (((ofR l p.Position).length : Int) - 1)).toNat) (a := (ofR l p.Position).getD (min (p.Many * teams) (((ofR l p.Position).length : Int) - 1)).toNat asset0) ty26 ty57 rfl rfl (by split <;> omega) (getD_some (by omega))) ?_
    refine dp rfl (pop_fieldAddr ty57 rfl ty3 (by decide) rfl) ?_
    refine dp rfl (pop_load ty3 rfl rfl rfl) ?_
    refine dp rfl (pop_assign rfl) ?_
    refine dn ?_
    refine hw_ret ?_
    refine ret_p rfl ?_
    show HVal.int .i64 _ = _
    first | (rw [levelR, levelOf, if_pos (by simp_all)]; done) | (rw [levelR, levelOf, if_neg hne]; done)

/-- benchwarmer/benchref1.LevelsOf -/
theorem c_benchref1_LevelsOf {l : List Asset} {p : List HL.Place} {teams : Int} (hl : l.length ≤ 12) (hp : p.length ≤ 1000000) (f6 : ∀ x ∈ p, 0 ≤ x.Many ∧ x.Many ≤ 12) (htm : 1 ≤ teams ∧ teams ≤ 20) (f2 : ∀ x ∈ l, -1000000 ≤ x.Value ∧ x.Value ≤ 1000000) : ConP Tryz.prog 19 [eAssets l, ePlaces p, .int .i64 teams] (ePairs (levelsL (fun x => levelR l x teams) p)) := by
  refine Con.of_body Tryz.func19 rfl Tryz.ntmps19 rfl rfl ?_
  refine hw_reg ?_
  refine dp rfl (pop_assign rfl) ?_
  refine dn ?_
  refine hw_reg ?_
  refine dp rfl (pop_assign rfl) ?_
  refine dn ?_
  refine hw_ghost (Ghost.arr_nil 2) ?_
  refine hw_seq ?_
  refine hw_reg ?_
  refine dp rfl (pop_move rfl) ?_
  refine dp rfl (pop_lenm ty28 rfl) ?_
  refine dp rfl (pop_move rfl) ?_
  refine dn ?_
  refine hw_block ?_
  refine hw_loopw2 [7, 9, 12, 13, 14, 15, 16, 17, 18, 19, 20, 21, 22, 23, 24, 25, 26, 27] (fun (k : Nat) (u : Value) => [(12, .int .i64 k), (7, .raw u)]) (fun (k : Nat) (u : Value) => [.arr u 2 ((levelsL (fun x => levelR l x teams) (p.take k)).map ePair)]) (fun (k : Nat) (u : Value) => k ≤ p.length ∧ (True)) (fun (k : Nat) (u : Value) => p.length - k) (0) (.slice none 0 0) ?_ ?_ ?_ ?_
  · exact ⟨Nat.zero_le _, by simp_all⟩
  · exact ⟨rfl, rfl, trivial⟩
  · exact perm_eq (by simp [levelsL])
  · intro k u hinv
    obtain ⟨hk, -⟩ := hinv
    refine hw_reg ?_
    refine dp rfl (pop_lss rfl rfl) ?_
    refine dn ?_
    refine hw_seq ?_
    refine hw_cond rfl (fun h1 => ?_) (fun h2 => ?_)
    · try simp at h1
      obtain ⟨x, hx⟩ : ∃ x, p[k]? = some x := ⟨_, List.getElem?_eq_getElem h1⟩
      have hdx := drop_cons hx
      refine hw_skip ?_
      refine seqQ_n ?_
      refine hw_seq ?_
      refine hw_block ?_
      refine hw_reg ?_
      refine dp rfl (pop_idx ty28 ty63 rfl rfl rfl (by first | assumption | simp_all)) ?_
      refine dp rfl (pop_loadw ty63 rfl rfl rfl rfl) ?_
      refine de rfl (eop_alloc ty63 rfl fun b9 => ?_)
      refine de0 (eop_storew ty63 rfl rfl rfl rfl rfl ?_)
      refine dn ?_
      refine hw_ghost (Ghost.fc0 9 rfl) ?_
      refine hw_draw1 (fun _ => True) [] mixed ?_
      refine ahp 0 rfl rfl (by kernel_rfl) (by kernel_rfl) (pop_move rfl) ?_
      refine ahp 1 rfl rfl (by kernel_rfl) (by kernel_rfl) (pop_fieldAddr ty63 rfl ty9 (by decide) rfl) ?_
      refine ahp 2 rfl rfl (by kernel_rfl) (by kernel_rfl) (pop_load ty9 rfl rfl rfl) ?_
      refine ahp 3 rfl rfl (by kernel_rfl) (by kernel_rfl) (pop_move rfl) ?_
      refine ahp 4 rfl rfl (by kernel_rfl) (by kernel_rfl) (pop_loadw ty63 rfl rfl rfl rfl) ?_
      refine ahp 5 rfl rfl (by kernel_rfl) (by kernel_rfl) (pop_move rfl) ?_
      have hlb := levelOf_bd (o := ofR l x.Position) (fun y hy => ofR_mem hy) f2 x.Many teams
      refine ahp 6 rfl rfl (by kernel_rfl) (by kernel_rfl) (pop_call ca44 rfl (WeakL.refl _) (c_benchref1_level (l := l) (p := x) (teams := teams) hl (f6 x (List.mem_of_getElem? hx)) htm)) ?_
      refine ahp 7 rfl rfl (by kernel_rfl) (by kernel_rfl) (pop_call ca23 rfl (WeakL.refl _) (c_Itoa (n := levelR l x teams) (by unfold levelR; omega) (by unfold levelR; omega))) ?_
      refine ahp 8 rfl rfl (by kernel_rfl) (by kernel_rfl) (pop_build (cs := [_, _]) ty45 pl45 rfl) ?_
      refine ahp 9 rfl rfl (by kernel_rfl) (by kernel_rfl) (pop_buildSlice (hs := [_]) ty34 ty45 rfl rfl (by decide) (by decide) rfl) ?_
      refine ahe 10 rfl (by kernel_rfl) ?_
      refine hop_e rfl (eop_append (i := 0) ty34 ty45 rfl rfl rfl rfl rfl (by simp [flat, hcells]) (by simp [levelsL]; omega) fun v26 => ?_)
      refine ⟨fun _ => .inl trivial, ?_⟩
      refine ahp 11 rfl rfl (by kernel_rfl) (by kernel_rfl) (pop_assign rfl) ?_
      refine ahz (by kernel_rfl) ?_
      refine blockQ_n ?_
      refine seqQ_n ?_
      refine hw_reg1 ?_
      refine dp rfl (pop_add64 rfl rfl (by omega) (by omega)) ?_
      refine dp rfl (pop_move rfl) ?_
      refine dn ?_
      refine ⟨k + 1, _, ?_, ?_, ⟨rfl, rfl, trivial⟩, (by repeat (first | exact keeps_refl | refine keeps_upd rfl ?_ | refine keeps_loop rfl rfl ?_)), perm_eq (by simp [levelsL, List.take_add_one, hx])⟩
      · exact ⟨by omega, trivial⟩
      · dsimp only; omega
    · try simp at h2
      have hnk : p.length ≤ k := by omega
      obtain rfl : k = p.length := by omega
      refine hw_exit ?_
      refine seqQ_x ?_
      refine loopQ2_x ?_
      refine blockQ_eq ?_
      refine seqQ_n ?_
      refine hw_reg ?_
      refine dp rfl (pop_move rfl) ?_
      refine dp rfl (pop_assign rfl) ?_
      refine dn ?_
      refine hw_ret ?_
      refine ret_fa (M := []) 6 rfl rfl ?_
      rw [List.take_length]

/-- benchwarmer/benchref1.WorthsFor$1 -/
theorem c_benchref1_WorthsFor_1 {x y : Over}  : ConP Tryz.prog 46 [eOver x, eOver y] (.int .i64 (byWorthV x y)) := by
  refine Con.of_body Tryz.func46 rfl Tryz.ntmps46 rfl rfl ?_
  refine hw_reg ?_
  refine dp rfl (pop_box rfl rfl) ?_
  refine dp rfl (pop_box rfl rfl) ?_
  refine dp rfl (pop_assign rfl) ?_
  refine dn ?_
  refine hw_reg ?_
  refine dp rfl (pop_fieldAddr ty50 rfl ty3 (by decide) rfl) ?_
  refine dp rfl (pop_load ty3 rfl rfl rfl) ?_
  refine dp rfl (pop_fieldAddr ty50 rfl ty3 (by decide) rfl) ?_
  refine dp rfl (pop_load ty3 rfl rfl rfl) ?_
  refine dp rfl (pop_call ca41 rfl (WeakL.refl _) c_cmp_Compare_int) ?_
  refine dp rfl (pop_assign rfl) ?_
  refine dn ?_
  refine hw_ret ?_
  refine ret_p rfl ?_
  rfl

set_option maxHeartbeats 2000000 in
/-- benchwarmer/benchref1.WorthsFor -/
theorem c_benchref1_WorthsFor {l : List Asset} {p : List HL.Place} {teams : Int} (hl : l.length ≤ 12) (hp : p.length ≤ 10) (hm : ∀ x ∈ p, 0 ≤ x.Many ∧ x.Many ≤ 12) (ht : 1 ≤ teams ∧ teams ≤ 20) (hv : ∀ x ∈ l, -1000000 ≤ x.Value ∧ x.Value ≤ 1000000) (ho : (overR l p teams).length ≤ 12) : ConP Tryz.prog 21 [eAssets l, ePlaces p, .int .i64 teams] (eOvers (rankedR (isort byWorthV (overR l p teams)))) := by
  refine Con.of_body Tryz.func21 rfl Tryz.ntmps21 rfl rfl ?_
  refine hw_reg ?_
  refine dp rfl (pop_assign rfl) ?_
  refine dn ?_
  refine hw_reg ?_
  refine dp rfl (pop_assign rfl) ?_
  refine dn ?_
  refine hw_ghost (Ghost.arr_nil 3) ?_
  refine hw_seq ?_
  refine hw_reg ?_
  refine dp rfl (pop_move rfl) ?_
  refine dp rfl (pop_lenm ty26 rfl) ?_
  refine dp rfl (pop_move rfl) ?_
  refine dn ?_
  refine hw_block ?_
  refine hw_loopw2 [7, 9, 11, 17, 18, 19, 20, 21, 22, 23, 24, 25, 26, 27, 28, 29, 30, 31, 32, 33, 34, 35, 36, 37, 38, 39, 40, 41, 42, 43, 44, 45, 46] (fun (i : Nat) (u : Value) => [(17, .int .i64 i), (7, .raw u)]) (fun (i : Nat) (u : Value) => [.arr u 3 ((overRL l p teams (l.take i)).map eOver)]) (fun (i : Nat) (u : Value) => i ≤ l.length ∧ (True)) (fun (i : Nat) (u : Value) => l.length - i) (0) (.slice none 0 0) ?_ ?_ ?_ ?_
  · exact ⟨Nat.zero_le _, by simp_all⟩
  · exact ⟨rfl, rfl, trivial⟩
  · exact perm_eq (by simp [overRL])
  · intro i u hinv
    obtain ⟨hi, -⟩ := hinv
    refine hw_reg ?_
    refine dp rfl (pop_lss rfl rfl) ?_
    refine dn ?_
    refine hw_seq ?_
    refine hw_cond rfl (fun h1 => ?_) (fun h2 => ?_)
    · try simp at h1
      obtain ⟨x, hx⟩ : ∃ x, l[i]? = some x := ⟨_, List.getElem?_eq_getElem h1⟩
      have hdx := drop_cons hx
      refine hw_skip ?_
      refine seqQ_n ?_
      refine hw_seq ?_
      refine hw_block ?_
      refine hw_reg ?_
      refine dp rfl (pop_idx ty26 ty57 rfl rfl rfl (by first | assumption | simp_all)) ?_
      refine dp rfl (pop_loadw ty57 rfl rfl rfl rfl) ?_
      refine de rfl (eop_alloc ty57 rfl fun b9 => ?_)
      refine de0 (eop_storew ty57 rfl rfl rfl rfl rfl ?_)
      refine dn ?_
      refine hw_ghost (Ghost.fc0 9 rfl) ?_
      refine hw_reg ?_
      refine dp rfl (pop_move rfl) ?_
      refine dp rfl (pop_lenm ty28 rfl) ?_
      refine dp rfl (pop_move rfl) ?_
      refine dn ?_
      refine hw_block ?_
      refine hw_loopw2 [7, 11, 23, 24, 25, 26, 27, 28, 29, 30, 31, 32, 33, 34, 35, 36, 37, 38, 39, 40, 41, 42, 43, 44, 45] (fun (k : Nat) (w : Value) => [(23, .int .i64 k), (7, .raw w)]) (fun (k : Nat) (w : Value) => [.arr w 3 (((overRL l p teams (l.take i)) ++ (((p.take k).filter (fun y => x.Position == y.Position)).map fun y => (⟨x.Player, x.Value - levelR l y teams, 0⟩ : Over))).map eOver)]) (fun (k : Nat) (w : Value) => k ≤ p.length ∧ (True)) (fun (k : Nat) (w : Value) => p.length - k) (0) (u) ?_ ?_ ?_ ?_
      · exact ⟨Nat.zero_le _, by simp_all⟩
      · exact ⟨rfl, rfl, trivial⟩
      · exact perm_eq (by simp)
      · intro k w hinv
        obtain ⟨hk, -⟩ := hinv
        refine hw_reg ?_
        refine dp rfl (pop_lss rfl rfl) ?_
        refine dn ?_
        refine hw_seq ?_
        refine hw_cond rfl (fun h3 => ?_) (fun h4 => ?_)
        · try simp at h3
          obtain ⟨y, hy⟩ : ∃ y, p[k]? = some y := ⟨_, List.getElem?_eq_getElem h3⟩
          have hdy := drop_cons hy
          refine hw_skip ?_
          refine seqQ_n ?_
          refine hw_seq ?_
          refine hw_block ?_
          refine hw_reg ?_
          refine dp rfl (pop_idx ty28 ty63 rfl rfl rfl (by first | assumption | simp_all)) ?_
          refine dp rfl (pop_loadw ty63 rfl rfl rfl rfl) ?_
          refine de rfl (eop_alloc ty63 rfl fun b11 => ?_)
          refine de0 (eop_storew ty63 rfl rfl rfl rfl rfl ?_)
          refine dn ?_
          refine hw_ghost (Ghost.fc0 11 rfl) ?_
          refine hw_reg ?_
          refine dp rfl ((by first | exact pop_fieldAddr ty57 rfl ty9 (by decide) rfl | exact pop_fieldAddr_raw ty57 rfl ty9 (by decide) rfl)) ?_
          refine dp rfl (pop_load ty9 rfl rfl rfl) ?_
          refine dp rfl ((by first | exact pop_fieldAddr ty63 rfl ty9 (by decide) rfl | exact pop_fieldAddr_raw ty63 rfl ty9 (by decide) rfl)) ?_
          refine dp rfl (pop_load ty9 rfl rfl rfl) ?_
          refine dp rfl (pop_eqls rfl rfl) ?_
          refine dn ?_
          refine hw_cond rfl (fun h5 => ?_) (fun h6 => ?_)
          · try simp at h5
            refine hw_draw1 (fun _ => True) [] mixed ?_
            refine ahp 0 rfl rfl (by kernel_rfl) (by kernel_rfl) (pop_move rfl) ?_
            refine ahp 1 rfl rfl (by kernel_rfl) (by kernel_rfl) ((by first | exact pop_fieldAddr ty57 rfl ty9 (by decide) rfl | exact pop_fieldAddr_raw ty57 rfl ty9 (by decide) rfl)) ?_
            refine ahp 2 rfl rfl (by kernel_rfl) (by kernel_rfl) (pop_load ty9 rfl rfl rfl) ?_
            refine ahp 3 rfl rfl (by kernel_rfl) (by kernel_rfl) ((by first | exact pop_fieldAddr ty57 rfl ty3 (by decide) rfl | exact pop_fieldAddr_raw ty57 rfl ty3 (by decide) rfl)) ?_
            refine ahp 4 rfl rfl (by kernel_rfl) (by kernel_rfl) (pop_load ty3 rfl rfl rfl) ?_
            refine ahp 5 rfl rfl (by kernel_rfl) (by kernel_rfl) (pop_move rfl) ?_
            refine ahp 6 rfl rfl (by kernel_rfl) (by kernel_rfl) (pop_loadw ty63 rfl rfl rfl rfl) ?_
            refine ahp 7 rfl rfl (by kernel_rfl) (by kernel_rfl) (pop_move rfl) ?_
            refine ahp 8 rfl rfl (by kernel_rfl) (by kernel_rfl) (pop_call ca44 rfl (WeakL.refl _) (c_benchref1_level (l := l) (p := y) (teams := teams) hl (hm y (List.mem_of_getElem? hy)) ht)) ?_
            have hlb := levelOf_bd (o := ofR l y.Position) (fun z hz => ofR_mem hz) hv y.Many teams
            have hvx := hv x (List.mem_of_getElem? hx)
            have hfl := overRL_len l hp teams (l.take i)
            have hli : (l.take i).length ≤ 12 := by simp; omega
            have hgl : ((p.take k).filter (fun y => x.Position == y.Position)).length ≤ 10 := Nat.le_trans (List.length_filter_le _ _) (by simp; omega)
            refine ahp 9 rfl rfl (by kernel_rfl) (by kernel_rfl) (pop_sub64 rfl rfl (by unfold levelR; omega) (by unfold levelR; omega)) ?_
            refine ahp 10 rfl rfl (by kernel_rfl) (by kernel_rfl) (pop_build (cs := [_, _, _]) ty50 pl50 rfl) ?_
            refine ahp 11 rfl rfl (by kernel_rfl) (by kernel_rfl) (pop_buildSlice (hs := [_]) ty37 ty50 rfl rfl (by decide) (by decide) rfl) ?_
            refine ahe 12 rfl (by kernel_rfl) ?_
            refine hop_e rfl (eop_append (i := 0) ty37 ty50 rfl rfl rfl rfl rfl (by simp [flat, hcells, ofVal, ofVal1]) (by simp only [List.length_map, List.length_append, List.length_cons, List.length_nil]; omega) fun v44 => ?_)
            refine ⟨fun _ => .inl trivial, ?_⟩
            refine ahp 13 rfl rfl (by kernel_rfl) (by kernel_rfl) (pop_assign rfl) ?_
            refine ahz (by kernel_rfl) ?_
            refine blockQ_n ?_
            refine seqQ_n ?_
            refine hw_reg1 ?_
            refine dp rfl (pop_add64 rfl rfl (by omega) (by omega)) ?_
            refine dp rfl (pop_move rfl) ?_
            refine dn ?_
            exact ⟨k + 1, _, ⟨by omega, trivial⟩, by dsimp only; omega, ⟨rfl, rfl, trivial⟩, (by repeat (first | exact keeps_refl | refine keeps_upd rfl ?_ | refine keeps_loop rfl rfl ?_)), perm_eq (by dsimp only; simp [List.take_add_one, hy, List.filter_append, h5, ofVal, ofVal1])⟩
          · try simp at h6
            refine hw_skip ?_
            refine blockQ_n ?_
            refine seqQ_n ?_
            refine hw_reg1 ?_
            refine dp rfl (pop_add64 rfl rfl (by omega) (by omega)) ?_
            refine dp rfl (pop_move rfl) ?_
            refine dn ?_
            exact ⟨k + 1, _, ⟨by omega, trivial⟩, by dsimp only; omega, ⟨rfl, rfl, trivial⟩, (by repeat (first | exact keeps_refl | refine keeps_upd rfl ?_ | refine keeps_loop rfl rfl ?_)), perm_eq (by dsimp only; simp [List.take_add_one, hy, List.filter_append, h6, ofVal, ofVal1])⟩
        · try simp at h4
          have hnk : p.length ≤ k := by omega
          obtain rfl : k = p.length := by omega
          refine hw_exit ?_
          refine seqQ_x ?_
          refine loopQ2_x ?_
          refine blockQ_eq ?_
          refine blockQ_n ?_
          refine seqQ_n ?_
          refine hw_reg1 ?_
          refine dp rfl (pop_add64 rfl rfl (by omega) (by omega)) ?_
          refine dp rfl (pop_move rfl) ?_
          refine dn ?_
          exact ⟨i + 1, _, ⟨by omega, trivial⟩, by dsimp only; omega, ⟨rfl, rfl, trivial⟩, (by repeat (first | exact keeps_refl | refine keeps_upd rfl ?_ | refine keeps_loop rfl rfl ?_)), perm_eq (by dsimp only; rw [overRL_snoc l teams hx, List.take_length])⟩
    · try simp at h2
      have hni : l.length ≤ i := by omega
      obtain rfl : i = l.length := by omega
      refine hw_exit ?_
      refine seqQ_x ?_
      refine loopQ2_x ?_
      refine blockQ_eq ?_
      refine seqQ_n ?_
      rw [List.take_length, overRL_all]
      refine hw_reg ?_
      refine dp rfl (pop_move rfl) ?_
      first
      | refine de rfl (eop_callx (i := 0) ca45 rfl (WeakL.refl _) rfl (c_slices_SortStableFunc_api_Over_api_Over (l := overR l p teams) (c := byWorthV) (caps := []) ca46 (fun x y => c_benchref1_WorthsFor_1) (by omega)) ?_)
      | refine de rfl (eop_callx (i := 1) ca45 rfl (WeakL.refl _) rfl (c_slices_SortStableFunc_api_Over_api_Over (l := overR l p teams) (c := byWorthV) (caps := []) ca46 (fun x y => c_benchref1_WorthsFor_1) (by omega)) ?_)
      | refine de rfl (eop_callx (i := 2) ca45 rfl (WeakL.refl _) rfl (c_slices_SortStableFunc_api_Over_api_Over (l := overR l p teams) (c := byWorthV) (caps := []) ca46 (fun x y => c_benchref1_WorthsFor_1) (by omega)) ?_)
      | refine de rfl (eop_callx (i := 3) ca45 rfl (WeakL.refl _) rfl (c_slices_SortStableFunc_api_Over_api_Over (l := overR l p teams) (c := byWorthV) (caps := []) ca46 (fun x y => c_benchref1_WorthsFor_1) (by omega)) ?_)
      rintro _ _ ⟨rfl, rfl⟩
      refine dn ?_
      generalize hW : isort byWorthV (overR l p teams) = W
      have hWl : W.length ≤ 12 := by rw [← hW, isort_len]; exact ho
      refine hw_seq ?_
      refine hw_reg ?_
      refine dp rfl (pop_move rfl) ?_
      first
      | refine de rfl (eop_lenm (i := 0) ty37 rfl rfl ?_)
      | refine de rfl (eop_lenm (i := 1) ty37 rfl rfl ?_)
      | refine de rfl (eop_lenm (i := 2) ty37 rfl rfl ?_)
      | refine de rfl (eop_lenm (i := 3) ty37 rfl rfl ?_)
      refine dp rfl (pop_move rfl) ?_
      refine dn ?_
      refine hw_block ?_
      refine hw_loopw [12, 14, 51, 52, 53, 54, 55, 56, 57, 58, 59, 60, 61, 62, 63, 64, 65, 66, 67, 68, 69, 70, 71, 72, 73, 74, 75, 76, 77, 78, 79, 80, 81] (fun (k : Nat) => [(51, .int .i64 k)]) (fun (k : Nat) => [.arr u 3 ((rankRTo W k).map eOver)]) (fun (k : Nat) => k ≤ W.length ∧ (True)) (fun (k : Nat) => W.length - k) (0) ?_ ?_ ?_ ?_
      · exact ⟨Nat.zero_le _, by simp_all⟩
      · exact ⟨rfl, trivial⟩
      · exact perm_eq (by rw [rankRTo_zero]; rfl)
      · intro k hinv
        obtain ⟨hk, -⟩ := hinv
        refine hw_reg ?_
        refine dp rfl (pop_lss rfl rfl) ?_
        refine dn ?_
        refine hw_seq ?_
        refine hw_cond rfl (fun h7 => ?_) (fun h8 => ?_)
        · try simp at h7
          obtain ⟨x, hx⟩ : ∃ x, W[k]? = some x := ⟨_, List.getElem?_eq_getElem h7⟩
          have hdx := drop_cons hx
          refine hw_arrc (i := 0) rfl (fun h0 he => ?_) (fun b off cap hv hcap => ?_)
          · exfalso
            have h9 : (rankRTo W k).length = 0 := by simpa using congrArg List.length he
            rw [rankRTo_len] at h9
            omega
          rw [List.length_map, rankRTo_len] at hv hcap
          subst hv
          refine hw_skip ?_
          refine seqQ_n ?_
          refine hw_seq ?_
          refine hw_block ?_
          refine hw_reg ?_
          refine dp rfl (pop_move rfl) ?_
          refine dp rfl (pop_assign rfl) ?_
          refine dn ?_
          refine hw_reg ?_
          refine dp rfl (pop_move rfl) ?_
          refine dp rfl (pop_move rfl) ?_
          refine dp rfl (pop_idxraw (j := k) ty37 ty50 rfl rfl rfl (by omega)) ?_
          refine dp rfl ((by first | exact pop_fieldAddr ty50 rfl ty3 (by decide) rfl | exact pop_fieldAddr_raw ty50 rfl ty3 (by decide) rfl)) ?_
          refine de0 (eop_store_arr (i := 0) (j := k) (f := 2) (y := eOver x) (y' := eOver ⟨x.Player, x.Worth, 1⟩) ty3 rfl (by omega) rfl rfl (map_get ((rankRTo_get hx).trans (by simp))) rfl rfl (by simp [hcells]) rfl ?_)
          refine dn ?_
          refine hw_ghost (Ghost.of_eq (M' := [.arr (.slice (some ⟨b, off, none⟩) W.length cap) 3 (((rankRTo W k).set k ⟨x.Player, x.Worth, rankN W x 0⟩).map eOver)]) (by simp [rankN, List.map_set])) ?_
          refine hw_reg ?_
          refine dp rfl (pop_move rfl) ?_
          refine de rfl (eop_lenm (i := 0) ty37 rfl rfl ?_)
          rw [List.length_set, rankRTo_len]
          refine dp rfl (pop_move rfl) ?_
          refine dn ?_
          refine hw_block ?_
          refine hw_loopw [14, 60, 61, 62, 63, 64, 65, 66, 67, 68, 69, 70, 71, 72, 73, 74, 75, 76, 77, 78, 79, 80] (fun (m : Nat) => [(60, .int .i64 m)]) (fun (m : Nat) => [.arr (.slice (some ⟨b, off, none⟩) W.length cap) 3 (((rankRTo W k).set k ⟨x.Player, x.Worth, rankN W x m⟩).map eOver)]) (fun (m : Nat) => m ≤ W.length ∧ (True)) (fun (m : Nat) => W.length - m) (0) ?_ ?_ ?_ ?_
          · exact ⟨Nat.zero_le _, by simp_all⟩
          · exact ⟨rfl, trivial⟩
          · exact List.Perm.refl _
          · intro m hinv
            obtain ⟨hm, -⟩ := hinv
            refine hw_reg ?_
            refine dp rfl (pop_lss rfl rfl) ?_
            refine dn ?_
            refine hw_seq ?_
            refine hw_cond rfl (fun h9 => ?_) (fun h10 => ?_)
            · try simp at h9
              obtain ⟨y, hy⟩ : ∃ y, W[m]? = some y := ⟨_, List.getElem?_eq_getElem h9⟩
              have hdy := drop_cons hy
              obtain ⟨z, hz, hzw⟩ := rankRTo_any (rankN W x m) hx hy
              refine hw_skip ?_
              refine seqQ_n ?_
              refine hw_seq ?_
              refine hw_block ?_
              refine hw_reg ?_
              refine dp rfl (pop_idxraw (j := m) ty37 ty50 rfl rfl rfl (by omega)) ?_
              refine de rfl (eop_load_elw (i := 0) (j := m) ty50 rfl rfl rfl hz rfl rfl rfl ?_)
              refine de rfl (eop_alloc ty50 rfl fun b14 => ?_)
              refine de0 (eop_storew ty50 rfl rfl rfl rfl rfl ?_)
              refine dn ?_
              refine hw_ghost (Ghost.fc0 14 rfl) ?_
              refine hw_draw (fun M => ∃ i : Nat, M[i]? = some (.arr (.slice (some ⟨b, off, none⟩) W.length cap) 3 (((rankRTo W k).set k ⟨x.Player, x.Worth, rankN W x m⟩).map eOver))) [6] mixed ?_
              refine ahp 0 rfl rfl (by kernel_rfl) (by kernel_rfl) ((by first | exact pop_fieldAddr ty50 rfl ty3 (by decide) rfl | exact pop_fieldAddr_raw ty50 rfl ty3 (by decide) rfl)) ?_
              refine ahp 1 rfl rfl (by kernel_rfl) (by kernel_rfl) (pop_load ty3 rfl rfl rfl) ?_
              refine ahp 2 rfl rfl (by kernel_rfl) (by kernel_rfl) (pop_move rfl) ?_
              refine ahp 3 rfl rfl (by kernel_rfl) (by kernel_rfl) (pop_move rfl) ?_
              refine ahp 4 rfl rfl (by kernel_rfl) (by kernel_rfl) (pop_idxraw (j := k) ty37 ty50 rfl rfl rfl (by omega)) ?_
              refine ahp 5 rfl rfl (by kernel_rfl) (by kernel_rfl) ((by first | exact pop_fieldAddr ty50 rfl ty3 (by decide) rfl | exact pop_fieldAddr_raw ty50 rfl ty3 (by decide) rfl)) ?_
              refine ahl 6 rfl rfl (by kernel_rfl) (by kernel_rfl) (by simp) ⟨0, rfl⟩ (fun M hM => by obtain ⟨i, hi⟩ := hM; exact eop_load_arr (i := i) (j := k) (f := 1) (y := eOver ⟨x.Player, x.Worth, rankN W x m⟩) ty3 rfl (by omega) hi (map_get (set_self (rankRTo_get hx))) (.inl ⟨rfl, rfl⟩) ⟨rfl, rfl⟩) ?_
              refine ahp 7 rfl rfl (by kernel_rfl) (by kernel_rfl) (pop_gtr rfl rfl) ?_
              refine ahz (by kernel_rfl) ?_
              refine hw_cond rfl (fun h11 => ?_) (fun h12 => ?_)
              · try simp at h11
                refine hw_reg1 ?_
                refine dp rfl (pop_move rfl) ?_
                refine dp rfl (pop_move rfl) ?_
                refine dp rfl (pop_idxraw (j := k) ty37 ty50 rfl rfl rfl (by omega)) ?_
                refine dp rfl ((by first | exact pop_fieldAddr ty50 rfl ty3 (by decide) rfl | exact pop_fieldAddr_raw ty50 rfl ty3 (by decide) rfl)) ?_
                have hrb := rankN_bd W x m
                refine de rfl (eop_load_arr (i := 0) (j := k) (f := 2) (y := eOver ⟨x.Player, x.Worth, rankN W x m⟩) ty3 rfl (by omega) rfl (map_get (set_self (rankRTo_get hx))) (.inl ⟨rfl, rfl⟩) ?_)
                refine dp rfl (pop_add64 (m := rankN W x m) (n := 1) rfl rfl (by omega) (by omega)) ?_
                refine dp rfl (pop_idxraw (j := k) ty37 ty50 rfl rfl rfl (by omega)) ?_
                refine dp rfl ((by first | exact pop_fieldAddr ty50 rfl ty3 (by decide) rfl | exact pop_fieldAddr_raw ty50 rfl ty3 (by decide) rfl)) ?_
                refine de0 (eop_store_arr (i := 0) (j := k) (f := 2) (y := eOver ⟨x.Player, x.Worth, rankN W x m⟩) (y' := eOver ⟨x.Player, x.Worth, rankN W x m + 1⟩) ty3 rfl (by omega) rfl rfl (map_get (set_self (rankRTo_get hx))) rfl rfl (by simp [hcells]) rfl ?_)
                refine dn ?_
                refine blockQ_n ?_
                refine seqQ_n ?_
                refine hw_reg1 ?_
                refine dp rfl (pop_add64 rfl rfl (by omega) (by omega)) ?_
                refine dp rfl (pop_move rfl) ?_
                refine dn ?_
                exact ⟨m + 1, ⟨by omega, trivial⟩, by dsimp only; omega, ⟨rfl, trivial⟩, (by repeat (first | exact keeps_refl | refine keeps_upd rfl ?_ | refine keeps_loop rfl rfl ?_)), perm_eq (by dsimp only; rw [rankN_yes hy (by omega)]; simp [List.map_set])⟩
              · try simp at h12
                refine hw_skip ?_
                refine blockQ_n ?_
                refine seqQ_n ?_
                refine hw_reg1 ?_
                refine dp rfl (pop_add64 rfl rfl (by omega) (by omega)) ?_
                refine dp rfl (pop_move rfl) ?_
                refine dn ?_
                exact ⟨m + 1, ⟨by omega, trivial⟩, by dsimp only; omega, ⟨rfl, trivial⟩, (by repeat (first | exact keeps_refl | refine keeps_upd rfl ?_ | refine keeps_loop rfl rfl ?_)), perm_eq (by dsimp only; rw [rankN_no hy (by omega)])⟩
            · try simp at h10
              have hnm : W.length ≤ m := by omega
              obtain rfl : m = W.length := by omega
              refine hw_exit ?_
              refine seqQ_x ?_
              refine loopQ_x ?_
              refine blockQ_eq ?_
              refine blockQ_n ?_
              refine seqQ_n ?_
              refine hw_reg1 ?_
              refine dp rfl (pop_add64 rfl rfl (by omega) (by omega)) ?_
              refine dp rfl (pop_move rfl) ?_
              refine dn ?_
              exact ⟨k + 1, ⟨by omega, trivial⟩, by dsimp only; omega, ⟨rfl, trivial⟩, (by repeat (first | exact keeps_refl | refine keeps_upd rfl ?_ | refine keeps_loop rfl rfl ?_)), perm_eq (by dsimp only; rw [rankRTo_succ hx])⟩
        · try simp at h8
          have hnk : W.length ≤ k := by omega
          obtain rfl : k = W.length := by omega
          refine hw_exit ?_
          refine seqQ_x ?_
          refine loopQ_x ?_
          refine blockQ_eq ?_
          refine seqQ_n ?_
          refine hw_reg ?_
          refine dp rfl (pop_move rfl) ?_
          refine dp rfl (pop_assign rfl) ?_
          refine dn ?_
          refine hw_ret ?_
          refine ret_fa (M := []) 6 rfl rfl ?_
          rw [rankRTo_all]
end Go.Proofs.YtnlfcjoofdjpiaaGreatDoor
end
section
namespace Go.HL
def partS (n s w : Int) : Int := (n * w).tdiv s
def cmpR (n s : Int) (ws : List Int) (a b : Fin ws.length) : Int := cmpI ((n * ws.getD b.1 0).tmod s) ((n * ws.getD a.1 0).tmod s)
def bump (o : List Int) (i : Nat) : List Int := o.set i (o.getD i 0 + 1)
def bumps (o : List Int) {q : Nat} (l : List (Fin q)) : List Int := l.foldl (fun o i => bump o i.1) o
def overS (n : Int) (ws : List Int) : Int := n - (ws.map (partS n ws.sum)).sum
def orderL (n : Int) (ws : List Int) : List (Fin ws.length) := isort (cmpR n ws.sum ws) (List.finRange ws.length)
def sharedL (n : Int) (ws : List Int) : List Int := bumps (ws.map (partS n ws.sum)) ((orderL n ws).take (overS n ws).toNat)
theorem orderL_len (n : Int) (ws : List Int) : (orderL n ws).length = ws.length := by simp [orderL, isort_len]
theorem bump_len (o : List Int) (i : Nat) : (bump o i).length = o.length := by simp [bump]
theorem bumps_snoc (o : List Int) {q : Nat} {l : List (Fin q)} {k : Nat} {i : Fin q} (h : l[k]? = some i) : bumps o (l.take (k + 1)) = bump (bumps o (l.take k)) i.1 := by
  rw [take_snoc' h]; simp [bumps, List.foldl_append]
theorem bumps_len {q : Nat} : ∀ (l : List (Fin q)) (o : List Int), (bumps o l).length = o.length
  | [], _ => rfl
  | i :: l, o => by
    show (bumps (bump o i.1) l).length = _
    rw [bumps_len l, bump_len]
/-- The weights sum to something. -/
theorem sum_pos : ∀ {ws : List Int}, (∀ w ∈ ws, 1 ≤ w) → (ws.length : Int) ≤ ws.sum
  | [], _ => by simp
  | w :: ws, h => by
    have ih := sum_pos (ws := ws) fun y hy => h y (List.mem_cons_of_mem _ hy)
    have := h w (by simp)
    simp only [List.length_cons, List.sum_cons]; omega
theorem sum_le {B : Int} : ∀ {ws : List Int}, (∀ w ∈ ws, w ≤ B) → ws.sum ≤ B * ws.length
  | [], _ => by simp
  | w :: ws, h => by
    have ih := sum_le (B := B) (ws := ws) fun y hy => h y (List.mem_cons_of_mem _ hy)
    have := h w (by simp)
    simp only [List.length_cons, List.sum_cons, Int.natCast_add, Int.mul_add]; omega
theorem part_rem (n s w : Int) : s * partS n s w = n * w - (n * w).tmod s := by
  have := Int.mul_tdiv_add_tmod (n * w) s
  unfold partS; omega
theorem parts_sum (n s : Int) : ∀ ws : List Int, s * (ws.map (partS n s)).sum = n * ws.sum - (ws.map (fun w => (n * w).tmod s)).sum
  | [] => by simp
  | w :: ws => by
    have ih := parts_sum n s ws
    have h := part_rem n s w
    simp only [List.map_cons, List.sum_cons, Int.mul_add]
    omega
theorem rems_bd {n s : Int} (hs : 0 < s) (hn : 0 ≤ n) : ∀ {ws : List Int}, (∀ w ∈ ws, 1 ≤ w) → 0 ≤ (ws.map (fun w => (n * w).tmod s)).sum ∧ (ws.map (fun w => (n * w).tmod s)).sum ≤ s * ws.length
  | [], _ => by simp
  | w :: ws, h => by
    obtain ⟨i1, i2⟩ := rems_bd hs hn (ws := ws) fun y hy => h y (List.mem_cons_of_mem _ hy)
    have hw := h w (by simp)
    have h1 := Int.tmod_nonneg s (Int.mul_nonneg hn (by omega : 0 ≤ w))
    have h2 := Int.tmod_lt_of_pos (n * w) hs
    simp only [List.map_cons, List.sum_cons, List.length_cons, Int.natCast_add, Int.mul_add]
    omega
theorem overS_bd {n : Int} {ws : List Int} (hn : 0 ≤ n) (hl : 1 ≤ ws.length) (hw : ∀ w ∈ ws, 1 ≤ w) : 0 ≤ overS n ws ∧ overS n ws ≤ ws.length := by
  have hs : 0 < ws.sum := by have := sum_pos hw; omega
  obtain ⟨h1, h2⟩ := rems_bd hs hn hw
  have h3 := parts_sum n ws.sum ws
  have h4 : ws.sum * overS n ws = (ws.map (fun w => (n * w).tmod ws.sum)).sum := by
    unfold overS
    rw [Int.mul_sub, h3, Int.mul_comm ws.sum n]; omega
  constructor
  · rcases Int.lt_or_le (overS n ws) 0 with h | h
    · have := Int.mul_neg_of_pos_of_neg hs h; omega
    · exact h
  · exact Int.le_of_mul_le_mul_left (by rw [h4]; exact h2) hs
theorem bump_bd {B : Int} {o : List Int} {i : Nat} (h : ∀ y ∈ o, 0 ≤ y ∧ y ≤ B) (hB : 0 ≤ B) : ∀ y ∈ bump o i, 0 ≤ y ∧ y ≤ B + 1 := fun y hy => by
  rcases List.mem_or_eq_of_mem_set hy with h1 | h1
  · have := h y h1; omega
  · subst h1
    rcases Nat.lt_or_ge i o.length with hi | hi
    · have := h _ (List.mem_of_getElem? (getD_some (d := 0) hi)); omega
    · have : o.getD i 0 = 0 := by simp [List.getD, List.getElem?_eq_none hi]
      omega
theorem bumps_bd {q : Nat} : ∀ (l : List (Fin q)) {B : Int} {o : List Int}, (∀ y ∈ o, 0 ≤ y ∧ y ≤ B) → 0 ≤ B → ∀ y ∈ bumps o l, 0 ≤ y ∧ y ≤ B + l.length
  | [], _, _, h, _, y, hy => by have := h y hy; simp; omega
  | i :: l, B, o, h, hB, y, hy => by
    have := bumps_bd l (bump_bd (i := i.1) h hB) (by omega) y hy
    simp only [List.length_cons, Int.natCast_add]; omega
theorem part_bd {n s w : Int} (hn : 0 ≤ n) (hs : 0 < s) (hw : 0 ≤ w) : 0 ≤ partS n s w ∧ partS n s w ≤ n * w := by
  unfold partS
  have h0 := Int.mul_nonneg hn hw
  refine ⟨Int.tdiv_nonneg h0 (by omega), ?_⟩
  have h3 : ((n * w).tdiv s).natAbs ≤ (n * w).natAbs := by rw [Int.natAbs_tdiv]; exact Nat.div_le_self _ _
  have := Int.tdiv_nonneg h0 (by omega : 0 ≤ s)
  omega
theorem sum_bd {B : Int} : ∀ {l : List Int}, (∀ y ∈ l, 0 ≤ y ∧ y ≤ B) → 0 ≤ l.sum ∧ l.sum ≤ B * l.length
  | [], _ => by simp
  | y :: l, h => by
    have ih := sum_bd (B := B) (l := l) fun z hz => h z (List.mem_cons_of_mem _ hz)
    have := h y (by simp)
    simp only [List.length_cons, List.sum_cons, Int.natCast_add, Int.mul_add]; omega
def idxL (q : Nat) : List Int := (List.range q).map fun (i : Nat) => (i : Int)
theorem idxL_len (q : Nat) : (idxL q).length = q := by simp [idxL]
theorem idxL_get {q k : Nat} (h : k < q) : (idxL q)[k]? = some (k : Int) := by simp [idxL, h]
theorem idxL_fin (q : Nat) : (idxL q).map (HVal.int .i64) = (List.finRange q).map fun i => HVal.int .i64 (i.1 : Int) := by
  unfold idxL
  apply List.ext_getElem
  · simp
  · intro i h1 h2; simp
/-- The first k places are told, the others are nought. -/
def toldTo (l : List Int) (k : Nat) : List Int := l.take k ++ List.replicate (l.length - k) 0
theorem toldTo_zero (l : List Int) : toldTo l 0 = List.replicate l.length 0 := by simp [toldTo]
theorem toldTo_all (l : List Int) : toldTo l l.length = l := by simp [toldTo]
theorem toldTo_eq {l : List Int} {k : Nat} (h : k = l.length) : toldTo l k = l := by subst h; exact toldTo_all l
theorem toldTo_len {l : List Int} {k : Nat} (h : k ≤ l.length) : (toldTo l k).length = l.length := by simp [toldTo]; omega
theorem toldTo_succ {l : List Int} {k : Nat} {x : Int} (h : l[k]? = some x) : toldTo l (k + 1) = (toldTo l k).set k x := by
  have hk := lt_of_get h
  unfold toldTo
  rw [take_snoc' h, List.set_append_right _ _ (by simp; omega), List.length_take, Nat.min_eq_left (by omega), Nat.sub_self]
  rw [show l.length - k = (l.length - (k + 1)) + 1 by omega, List.replicate_succ, List.set_cons_zero]
  simp
theorem toldTo_get {l : List Int} {k : Nat} (h : k < l.length) : (toldTo l k)[k]? = some 0 := by
  unfold toldTo
  rw [List.getElem?_append_right (by simp; omega), List.length_take, Nat.min_eq_left (by omega), Nat.sub_self]
  rw [show l.length - k = (l.length - (k + 1)) + 1 by omega, List.replicate_succ]; rfl
end Go.HL
end
section
namespace Go.Proofs.YtnlfcjoofdjpiaaGreatDoor
open Go.HL
set_option maxRecDepth 100000
set_option linter.unusedVariables false
set_option linter.unusedSimpArgs false
/-- benchwarmer/value.shared$1 -/
theorem c_value_shared_1 {n s : Int} {ws : List Int} {a b : Fin ws.length} (hn : 0 ≤ n ∧ n ≤ 20000000) (hw : ∀ w ∈ ws, 1 ≤ w ∧ w ≤ 2000000) (hs : 0 < s) : ConP Tryz.prog 57 [eIx a, eIx b, .vptr [.int .i64 n] 0, .vptr [.slice 1 (ws.map (HVal.int .i64))] 0, .vptr [.int .i64 s] 0] (.int .i64 (cmpR n s ws a b)) := by
  have hm : ∀ i : Fin ws.length, 0 ≤ n * ws.getD i.1 0 ∧ n * ws.getD i.1 0 ≤ 20000000 * 2000000 := fun i => by
    have h := hw _ (List.mem_of_getElem? (getD_some (d := 0) i.2))
    exact mul_bd hn.1 hn.2 (by omega) h.2
  have hma := hm a
  have hmb := hm b
  refine Con.of_body Tryz.func57 rfl Tryz.ntmps57 rfl rfl ?_
  refine hw_reg ?_
  refine dp rfl (pop_assign rfl) ?_
  refine dn ?_
  refine hw_draw (fun _ => True) [] mixed ?_
  refine ahp 0 rfl rfl (by kernel_rfl) (by kernel_rfl) (pop_load ty3 rfl rfl rfl) ?_
  refine ahp 1 rfl rfl (by kernel_rfl) (by kernel_rfl) (pop_load ty22 rfl rfl rfl) ?_
  refine ahp 2 rfl rfl (by kernel_rfl) (by kernel_rfl) (pop_move rfl) ?_
  refine ahp 3 rfl rfl (by kernel_rfl) (by kernel_rfl) (pop_idx (j := b.1) (a := ws.getD b.1 0) ty22 ty3 rfl rfl rfl (getD_some b.2)) ?_
  refine ahp 4 rfl rfl (by kernel_rfl) (by kernel_rfl) (pop_load ty3 rfl rfl rfl) ?_
  refine ahp 5 rfl rfl (by kernel_rfl) (by kernel_rfl) (pop_mul64 rfl rfl (by omega) (by omega)) ?_
  refine ahp 6 rfl rfl (by kernel_rfl) (by kernel_rfl) (pop_load ty3 rfl rfl rfl) ?_
  refine ahp 7 rfl rfl (by kernel_rfl) (by kernel_rfl) (pop_rem rfl rfl (by omega)) ?_
  refine ahp 8 rfl rfl (by kernel_rfl) (by kernel_rfl) (pop_load ty3 rfl rfl rfl) ?_
  refine ahp 9 rfl rfl (by kernel_rfl) (by kernel_rfl) (pop_load ty22 rfl rfl rfl) ?_
  refine ahp 10 rfl rfl (by kernel_rfl) (by kernel_rfl) (pop_move rfl) ?_
  refine ahp 11 rfl rfl (by kernel_rfl) (by kernel_rfl) (pop_idx (j := a.1) (a := ws.getD a.1 0) ty22 ty3 rfl rfl rfl (getD_some a.2)) ?_
  refine ahp 12 rfl rfl (by kernel_rfl) (by kernel_rfl) (pop_load ty3 rfl rfl rfl) ?_
  refine ahp 13 rfl rfl (by kernel_rfl) (by kernel_rfl) (pop_mul64 rfl rfl (by omega) (by omega)) ?_
  refine ahp 14 rfl rfl (by kernel_rfl) (by kernel_rfl) (pop_load ty3 rfl rfl rfl) ?_
  refine ahp 15 rfl rfl (by kernel_rfl) (by kernel_rfl) (pop_rem rfl rfl (by omega)) ?_
  refine ahp 16 rfl rfl (by kernel_rfl) (by kernel_rfl) (pop_call ca41 rfl (WeakL.refl _) c_cmp_Compare_int) ?_
  refine ahp 17 rfl rfl (by kernel_rfl) (by kernel_rfl) (pop_assign rfl) ?_
  refine ahz (by kernel_rfl) ?_
  refine hw_ret ?_
  refine ret_p rfl ?_
  rfl

set_option maxHeartbeats 2000000 in
/-- benchwarmer/value.shared -/
theorem c_value_shared {n : Int} {ws : List Int} (hn : 0 ≤ n ∧ n ≤ 20000000) (hw : ∀ w ∈ ws, 1 ≤ w ∧ w ≤ 2000000) (hl : 1 ≤ ws.length ∧ ws.length ≤ 12) : ConP Tryz.prog 36 [.int .i64 n, .slice 1 (ws.map (HVal.int .i64))] (.slice 1 ((sharedL n ws).map (HVal.int .i64))) := by
  have hs0 : (ws.length : Int) ≤ ws.sum := sum_pos fun w hq => (hw w hq).1
  have hsp : 0 < ws.sum := by omega
  have hsb : ∀ k, 0 ≤ (ws.take k).sum ∧ (ws.take k).sum ≤ 2000000 * ((ws.take k).length : Int) := fun k => sum_bd fun w hq => by have := hw w (List.mem_of_mem_take hq); omega
  have hpb : ∀ y ∈ ws.map (partS n ws.sum), 0 ≤ y ∧ y ≤ 40000000000000 := fun y hy => by
    obtain ⟨w, hq, rfl⟩ := List.mem_map.1 hy
    have h1 := hw w hq
    have h2 := part_bd (n := n) (s := ws.sum) (w := w) hn.1 hsp (by omega)
    have h3 := mul_bd (a := n) (b := w) (A := 20000000) (B := 2000000) hn.1 hn.2 (by omega) (by omega)
    omega
  have hps : ∀ k, 0 ≤ ((ws.take k).map (partS n ws.sum)).sum ∧ ((ws.take k).map (partS n ws.sum)).sum ≤ 40000000000000 * (((ws.take k).map (partS n ws.sum)).length : Int) := fun k => sum_bd fun y hy => hpb y (by rw [List.map_take] at hy; exact List.mem_of_mem_take hy)
  have hov := overS_bd (n := n) (ws := ws) hn.1 hl.1 (fun w hq => (hw w hq).1)
  have hoe : overS n ws = n - (ws.map (partS n ws.sum)).sum := rfl
  refine Con.of_body Tryz.func36 rfl Tryz.ntmps36 rfl rfl ?_
  refine hw_reg ?_
  refine dp rfl (pop_box rfl rfl) ?_
  refine dp rfl (pop_box rfl rfl) ?_
  refine dp rfl (pop_assign rfl) ?_
  refine dn ?_
  refine hw_reg ?_
  refine de rfl (eop_alloc ty3 rfl fun b5 => ?_)
  first
  | refine de0 (eop_store (i := 0) ty3 rfl rfl rfl rfl rfl (Nat.le_of_ble_eq_true rfl) ?_)
  | refine de0 (eop_store (i := 1) ty3 rfl rfl rfl rfl rfl (Nat.le_of_ble_eq_true rfl) ?_)
  | refine de0 (eop_store (i := 2) ty3 rfl rfl rfl rfl rfl (Nat.le_of_ble_eq_true rfl) ?_)
  | refine de0 (eop_store (i := 3) ty3 rfl rfl rfl rfl rfl (Nat.le_of_ble_eq_true rfl) ?_)
  refine dn ?_
  refine hw_seq ?_
  refine hw_reg ?_
  refine dp rfl (pop_load ty22 rfl rfl rfl) ?_
  refine dp rfl (pop_lenm ty22 rfl) ?_
  refine dp rfl (pop_move rfl) ?_
  refine dn ?_
  refine hw_block ?_
  refine hw_loopw [7, 17, 18, 19, 20, 21, 22, 23, 24] (fun (k : Nat) => [(17, .int .i64 k)]) (fun (k : Nat) => [.cells b5 [.int .i64 (ws.take k).sum]]) (fun (k : Nat) => k ≤ ws.length ∧ (True)) (fun (k : Nat) => ws.length - k) (0) ?_ ?_ ?_ ?_
  · exact ⟨Nat.zero_le _, by simp_all⟩
  · exact ⟨rfl, trivial⟩
  · exact perm_eq rfl
  · intro k hinv
    obtain ⟨hk, -⟩ := hinv
    refine hw_reg ?_
    refine dp rfl (pop_lss rfl rfl) ?_
    refine dn ?_
    refine hw_seq ?_
    refine hw_cond rfl (fun h1 => ?_) (fun h2 => ?_)
    · try simp at h1
      obtain ⟨x, hx⟩ : ∃ x, ws[k]? = some x := ⟨_, List.getElem?_eq_getElem h1⟩
      have hdx := drop_cons hx
      refine hw_skip ?_
      refine seqQ_n ?_
      refine hw_seq ?_
      refine hw_block ?_
      refine hw_reg ?_
      refine dp rfl (pop_idx ty22 ty3 rfl rfl rfl (by first | assumption | simp_all)) ?_
      refine dp rfl (pop_load ty3 rfl rfl rfl) ?_
      refine dp rfl (pop_assign rfl) ?_
      refine dn ?_
      refine hw_reg1 ?_
      first
      | refine de rfl (eop_load (i := 0) ty3 rfl rfl (.inl ⟨rfl, rfl⟩) ?_)
      | refine de rfl (eop_load (i := 1) ty3 rfl rfl (.inl ⟨rfl, rfl⟩) ?_)
      | refine de rfl (eop_load (i := 2) ty3 rfl rfl (.inl ⟨rfl, rfl⟩) ?_)
      | refine de rfl (eop_load (i := 3) ty3 rfl rfl (.inl ⟨rfl, rfl⟩) ?_)
      refine dp rfl (pop_move rfl) ?_
      have hs1 := hsb k
      have hs2 : (ws.take k).length ≤ 12 := by simp; omega
      have hwx := hw x (List.mem_of_getElem? hx)
      refine dp rfl (pop_add64 rfl rfl (by omega) (by omega)) ?_
      first
      | refine de0 (eop_store (i := 0) ty3 rfl rfl rfl rfl rfl (Nat.le_of_ble_eq_true rfl) ?_)
      | refine de0 (eop_store (i := 1) ty3 rfl rfl rfl rfl rfl (Nat.le_of_ble_eq_true rfl) ?_)
      | refine de0 (eop_store (i := 2) ty3 rfl rfl rfl rfl rfl (Nat.le_of_ble_eq_true rfl) ?_)
      | refine de0 (eop_store (i := 3) ty3 rfl rfl rfl rfl rfl (Nat.le_of_ble_eq_true rfl) ?_)
      refine dn ?_
      refine blockQ_n ?_
      refine seqQ_n ?_
      refine hw_reg1 ?_
      refine dp rfl (pop_add64 rfl rfl (by omega) (by omega)) ?_
      refine dp rfl (pop_move rfl) ?_
      refine dn ?_
      refine ⟨k + 1, ?_, ?_, ⟨rfl, trivial⟩, (by repeat (first | exact keeps_refl | refine keeps_upd rfl ?_ | refine keeps_loop rfl rfl ?_)), perm_eq (by show [MObj.cells b5 [HVal.int .i64 ((ws.take k).sum + x)]] = _; dsimp only; rw [take_snoc' hx, List.sum_append]; simp)⟩
      · exact ⟨by omega, trivial⟩
      · dsimp only; omega
    · try simp at h2
      have hnk : ws.length ≤ k := by omega
      obtain rfl : k = ws.length := by omega
      refine hw_ghost (Ghost.fc0 5 rfl) ?_
      rw [List.take_length]
      refine hw_exit ?_
      refine seqQ_x ?_
      refine loopQ_x ?_
      refine blockQ_eq ?_
      refine seqQ_n ?_
      refine hw_join [8, 9, 25, 26, 27, 28, 29, 30] (fun (q : Nat × Nat) => [(8, .raw (.slice (some ⟨q.1, 0, none⟩) ws.length ws.length)), (9, .raw (.slice (some ⟨q.2, 0, none⟩) ws.length ws.length))]) (fun (q : Nat × Nat) => [.arr (.slice (some ⟨q.1, 0, none⟩) ws.length ws.length) 1 (List.replicate ws.length (ofVal (.int .i64 0))), .arr (.slice (some ⟨q.2, 0, none⟩) ws.length ws.length) 1 (List.replicate ws.length (ofVal (.int .i64 0)))]) (fun (q : Nat × Nat) => True) ?_ ?_
      · skip
        refine hw_draw1 (fun _ => True) [] mixed ?_
        refine ahp 0 rfl rfl (by kernel_rfl) (by kernel_rfl) (pop_load ty22 rfl rfl rfl) ?_
        refine ahp 1 rfl rfl (by kernel_rfl) (by kernel_rfl) (pop_lenm ty22 rfl) ?_
        refine ahp 3 rfl rfl (by kernel_rfl) (by kernel_rfl) (pop_load ty22 rfl rfl rfl) ?_
        refine ahp 4 rfl rfl (by kernel_rfl) (by kernel_rfl) (pop_lenm ty22 rfl) ?_
        refine ahe2 2 5 rfl rfl (by kernel_rfl) ?_ ?_
        · skip
          refine hop_e rfl (eop_make (n := ws.length) ty22 ty3 rfl rfl rfl rfl rfl (by omega) fun b27 => ?_)
          refine ⟨fun _ => .inl trivial, ?_⟩
          refine ahp 6 rfl rfl (by kernel_rfl) (by kernel_rfl) (pop_assign rfl) ?_
          refine ahe 5 rfl (by kernel_rfl) ?_
          refine hop_e rfl (eop_make (n := ws.length) ty22 ty3 rfl rfl rfl rfl rfl (by omega) fun b30 => ?_)
          refine ⟨fun _ => .inl trivial, ?_⟩
          refine ahp 7 rfl rfl (by kernel_rfl) (by kernel_rfl) (pop_assign rfl) ?_
          refine ahz (by kernel_rfl) ?_
          refine ⟨(b27, b30), ?_, ⟨rfl, rfl, trivial⟩, (by repeat (first | exact keeps_refl | refine keeps_upd rfl ?_ | refine keeps_loop rfl rfl ?_)), ?_⟩
          · trivial
          · repeat (first | exact List.Perm.nil | refine permTo 0 rfl ?_ | refine permTo 1 rfl ?_ | refine permTo 2 rfl ?_ | refine permTo 3 rfl ?_ | (refine permToE 0 rfl ?hq ?_; (case hq => simp [setL, hcells]; done)) | (refine permToE 1 rfl ?hq ?_; (case hq => simp [setL, hcells]; done)) | (refine permToE 2 rfl ?hq ?_; (case hq => simp [setL, hcells]; done)) | (refine permToE 3 rfl ?hq ?_; (case hq => simp [setL, hcells]; done)) | fail)
        · skip
          refine hop_e rfl (eop_make (n := ws.length) ty22 ty3 rfl rfl rfl rfl rfl (by omega) fun b30 => ?_)
          refine ⟨fun _ => .inl trivial, ?_⟩
          refine ahe 2 rfl (by kernel_rfl) ?_
          refine hop_e rfl (eop_make (n := ws.length) ty22 ty3 rfl rfl rfl rfl rfl (by omega) fun b27 => ?_)
          refine ⟨fun _ => .inl trivial, ?_⟩
          refine ahp 6 rfl rfl (by kernel_rfl) (by kernel_rfl) (pop_assign rfl) ?_
          refine ahp 7 rfl rfl (by kernel_rfl) (by kernel_rfl) (pop_assign rfl) ?_
          refine ahz (by kernel_rfl) ?_
          refine ⟨(b27, b30), ?_, ⟨rfl, rfl, trivial⟩, (by repeat (first | exact keeps_refl | refine keeps_upd rfl ?_ | refine keeps_loop rfl rfl ?_)), ?_⟩
          · trivial
          · repeat (first | exact List.Perm.nil | refine permTo 0 rfl ?_ | refine permTo 1 rfl ?_ | refine permTo 2 rfl ?_ | refine permTo 3 rfl ?_ | (refine permToE 0 rfl ?hq ?_; (case hq => simp [setL, hcells]; done)) | (refine permToE 1 rfl ?hq ?_; (case hq => simp [setL, hcells]; done)) | (refine permToE 2 rfl ?hq ?_; (case hq => simp [setL, hcells]; done)) | (refine permToE 3 rfl ?hq ?_; (case hq => simp [setL, hcells]; done)) | fail)
      · intro q hinv
        obtain - := hinv
        obtain ⟨b8, b9⟩ := q
        refine hw_reg ?_
        refine dp rfl (pop_load ty3 rfl rfl rfl) ?_
        refine dp rfl (pop_assign rfl) ?_
        refine dn ?_
        refine hw_seq ?_
        refine hw_reg ?_
        refine dp rfl (pop_load ty22 rfl rfl rfl) ?_
        refine dp rfl (pop_lenm ty22 rfl) ?_
        refine dp rfl (pop_move rfl) ?_
        refine dn ?_
        refine hw_block ?_
        refine hw_loopw [10, 11, 12, 34, 35, 36, 37, 38, 39, 40, 41, 42, 43, 44, 45, 46, 47, 48, 49, 50, 51, 52, 53, 54, 55, 56, 57] (fun (k : Nat) => [(34, .int .i64 k), (10, .int .i64 (n - ((ws.take k).map (partS n ws.sum)).sum))]) (fun (k : Nat) => [.arr (.slice (some ⟨b8, 0, none⟩) ws.length ws.length) 1 ((toldTo (ws.map (partS n ws.sum)) k).map (HVal.int .i64)), .arr (.slice (some ⟨b9, 0, none⟩) ws.length ws.length) 1 ((toldTo (idxL ws.length) k).map (HVal.int .i64))]) (fun (k : Nat) => k ≤ ws.length ∧ (True)) (fun (k : Nat) => ws.length - k) (0) ?_ ?_ ?_ ?_
        · exact ⟨Nat.zero_le _, by simp_all⟩
        · exact ⟨rfl, some_int (by simp), trivial⟩
        · exact perm_eq (by simp [toldTo_zero, idxL_len, ofVal, ofVal1])
        · intro k hinv
          obtain ⟨hk, -⟩ := hinv
          refine hw_reg ?_
          refine dp rfl (pop_lss rfl rfl) ?_
          refine dn ?_
          refine hw_seq ?_
          refine hw_cond rfl (fun h3 => ?_) (fun h4 => ?_)
          · try simp at h3
            obtain ⟨x, hx⟩ : ∃ x, ws[k]? = some x := ⟨_, List.getElem?_eq_getElem h3⟩
            have hdx := drop_cons hx
            refine hw_skip ?_
            refine seqQ_n ?_
            refine hw_seq ?_
            refine hw_block ?_
            refine hw_reg ?_
            refine dp rfl (pop_move rfl) ?_
            refine dp rfl (pop_idx ty22 ty3 rfl rfl rfl (by first | assumption | simp_all)) ?_
            refine dp rfl (pop_load ty3 rfl rfl rfl) ?_
            refine dp rfl (pop_assign rfl) ?_
            refine dp rfl (pop_assign rfl) ?_
            refine dn ?_
            refine hw_reg ?_
            refine dp rfl (pop_move rfl) ?_
            refine dp rfl (pop_move rfl) ?_
            refine dp rfl (pop_move rfl) ?_
            refine dp rfl (pop_move rfl) ?_
            refine dp rfl (pop_load ty3 rfl rfl rfl) ?_
            refine dp rfl (pop_move rfl) ?_
            have hwx := hw x (List.mem_of_getElem? hx)
            have hmx := mul_bd (a := n) (b := x) (A := 20000000) (B := 2000000) hn.1 hn.2 (by omega) (by omega)
            have hpx := hpb (partS n ws.sum x) (List.mem_map_of_mem (List.mem_of_getElem? hx))
            have hpk := hps k
            have hpl : ((ws.take k).map (partS n ws.sum)).length ≤ 12 := by simp; omega
            have hgp : ((ws.map (partS n ws.sum)))[k]? = some (partS n ws.sum x) := by rw [List.getElem?_map, hx]; rfl
            refine dp rfl (pop_mul64 rfl rfl (by omega) (by omega)) ?_
            refine dp rfl (pop_load ty3 rfl rfl rfl) ?_
            refine dp rfl (pop_quo64 rfl rfl (by omega) (by omega) (by omega)) ?_
            refine dp rfl (pop_move rfl) ?_
            refine dp rfl (pop_idxraw (j := k) ty22 ty3 rfl rfl rfl (by omega)) ?_
            refine de0 (eop_store_elw (f := (HVal.int .i64)) (i := 0) (j := k) (y := 0) (y' := partS n ws.sum x) ty3 rfl rfl rfl rfl (toldTo_get (by simp; omega)) rfl rfl rfl ?_)
            refine dp rfl (pop_idxraw (j := k) ty22 ty3 rfl rfl rfl (by omega)) ?_
            refine de0 (eop_store_elw (f := (HVal.int .i64)) (i := 1) (j := k) (y := 0) (y' := (k : Int)) ty3 rfl rfl rfl rfl (toldTo_get (by rw [idxL_len]; omega)) rfl rfl rfl ?_)
            refine dn ?_
            refine hw_reg1 ?_
            refine dp rfl (pop_move rfl) ?_
            refine dp rfl (pop_move rfl) ?_
            refine dp rfl (pop_move rfl) ?_
            refine dp rfl (pop_idxraw (j := k) ty22 ty3 rfl rfl rfl (by omega)) ?_
            refine de rfl (eop_load_el (i := 0) (j := k) 0 ty3 rfl rfl rfl (set_self (toldTo_get (by simp; omega))) rfl rfl ?_)
            refine dp rfl (pop_sub64 rfl rfl (by omega) (by omega)) ?_
            refine dp rfl (pop_assign rfl) ?_
            refine dn ?_
            refine blockQ_n ?_
            refine seqQ_n ?_
            refine hw_reg1 ?_
            refine dp rfl (pop_add64 rfl rfl (by omega) (by omega)) ?_
            refine dp rfl (pop_move rfl) ?_
            refine dn ?_
            exact ⟨k + 1, ⟨by omega, trivial⟩, by dsimp only; omega, ⟨rfl, some_int (by rw [take_snoc' hx, List.map_append, List.sum_append]; simp; omega), trivial⟩, (by repeat (first | exact keeps_refl | refine keeps_upd rfl ?_ | refine keeps_loop rfl rfl ?_)), perm_eq (by dsimp only; rw [toldTo_succ hgp, toldTo_succ (idxL_get (by omega))]; rfl)⟩
          · try simp at h4
            have hnk : ws.length ≤ k := by omega
            obtain rfl : k = ws.length := by omega
            refine hw_exit ?_
            refine seqQ_x ?_
            refine loopQ_x ?_
            refine blockQ_eq ?_
            refine seqQ_n ?_
            rw [List.take_length]
            refine hw_ghost (Ghost.of_eq (M' := [.arr (.slice (some ⟨b8, 0, none⟩) ws.length ws.length) 1 ((ws.map (partS n ws.sum)).map (HVal.int .i64)), .arr (.slice (some ⟨b9, 0, none⟩) ws.length ws.length) 1 ((List.finRange ws.length).map eIx)]) (by rw [toldTo_eq (l := (ws.map (partS n ws.sum))) (by simp), toldTo_eq (l := idxL ws.length) (idxL_len _).symm, idxL_fin])) ?_
            refine hw_reg ?_
            refine dp rfl (pop_move rfl) ?_
            refine dp rfl (pop_makeFunc rfl rfl) ?_
            refine de rfl (eop_callx (i := 1) ca39 rfl (WeakL.refl _) rfl (c_slices_SortStableFunc_int_int (l := List.finRange ws.length) (c := cmpR n ws.sum ws) (caps := [.vptr [.int .i64 n] 0, .vptr [.slice 1 (ws.map (HVal.int .i64))] 0, .vptr [.int .i64 ws.sum] 0]) ca57 (fun x y => c_value_shared_1 hn hw hsp) (by simp; omega)) ?_)
            rintro _ _ ⟨rfl, rfl⟩
            refine dn ?_
            first
            | refine hw_ghost (Ghost.fa0 9 rfl) ?_
            | refine hw_ghost (Ghost.fa1 9 rfl) ?_
            refine hw_seq ?_
            refine hw_reg ?_
            refine dp rfl (pop_move rfl) ?_
            refine dp rfl (pop_move rfl) ?_
            refine dp rfl (pop_slicem (es := orderL n ws) (f := eIx) (h := (overS n ws).toNat) ty22 ty3 rfl rfl ⟨_, _, rfl, by omega⟩ (by omega) (by rw [orderL_len]; omega)) ?_
            refine dp rfl (pop_lenm ty22 rfl) ?_
            refine dp rfl (pop_move rfl) ?_
            refine dn ?_
            generalize hO : (orderL n ws).take (overS n ws).toNat = O
            have hOl : O.length ≤ 12 := by rw [← hO]; simp [orderL_len]; omega
            refine hw_block ?_
            refine hw_loopw [14, 65, 66, 67, 68, 69, 70, 71, 72, 73, 74, 75] (fun (k : Nat) => [(65, .int .i64 k)]) (fun (k : Nat) => [.arr (.slice (some ⟨b8, 0, none⟩) ws.length ws.length) 1 ((bumps (ws.map (partS n ws.sum)) (O.take k)).map (HVal.int .i64))]) (fun (k : Nat) => k ≤ O.length ∧ (True)) (fun (k : Nat) => O.length - k) (0) ?_ ?_ ?_ ?_
            · exact ⟨Nat.zero_le _, by simp_all⟩
            · exact ⟨rfl, trivial⟩
            · exact perm_eq (by simp [bumps])
            · intro k hinv
              obtain ⟨hk, -⟩ := hinv
              refine hw_reg ?_
              refine dp rfl (pop_lss rfl rfl) ?_
              refine dn ?_
              refine hw_seq ?_
              refine hw_cond rfl (fun h5 => ?_) (fun h6 => ?_)
              · try simp at h5
                obtain ⟨x, hx⟩ : ∃ x, O[k]? = some x := ⟨_, List.getElem?_eq_getElem h5⟩
                have hdx := drop_cons hx
                refine hw_skip ?_
                refine seqQ_n ?_
                refine hw_seq ?_
                refine hw_block ?_
                refine hw_reg ?_
                refine dp rfl (pop_idx ty22 ty3 rfl rfl rfl (by first | assumption | simp_all)) ?_
                refine dp rfl (pop_load ty3 rfl rfl rfl) ?_
                refine dp rfl (pop_assign rfl) ?_
                refine dn ?_
                refine hw_reg1 ?_
                refine dp rfl (pop_move rfl) ?_
                refine dp rfl (pop_move rfl) ?_
                refine dp rfl (pop_idxraw (j := x.1) ty22 ty3 rfl rfl rfl (x.2)) ?_
                have hg : (bumps (ws.map (partS n ws.sum)) (O.take k))[x.1]? = some ((bumps (ws.map (partS n ws.sum)) (O.take k)).getD x.1 0) := getD_some (by rw [bumps_len, List.length_map]; exact x.2)
                have hgb := bumps_bd (O.take k) hpb (by omega) _ (List.mem_of_getElem? hg)
                have hol : (O.take k).length ≤ 12 := by simp; omega
                refine de rfl (eop_load_el (i := 0) (j := x.1) 0 ty3 rfl rfl rfl hg rfl rfl ?_)
                refine dp rfl (pop_add64 rfl rfl (by omega) (by omega)) ?_
                refine dp rfl (pop_idxraw (j := x.1) ty22 ty3 rfl rfl rfl (x.2)) ?_
                refine de0 (eop_store_elw (f := (HVal.int .i64)) (i := 0) (j := x.1) (y' := (bumps (ws.map (partS n ws.sum)) (O.take k)).getD x.1 0 + 1) ty3 rfl rfl rfl rfl hg rfl rfl rfl ?_)
                refine dn ?_
                refine blockQ_n ?_
                refine seqQ_n ?_
                refine hw_reg1 ?_
                refine dp rfl (pop_add64 rfl rfl (by omega) (by omega)) ?_
                refine dp rfl (pop_move rfl) ?_
                refine dn ?_
                refine ⟨k + 1, ?_, ?_, ⟨rfl, trivial⟩, (by repeat (first | exact keeps_refl | refine keeps_upd rfl ?_ | refine keeps_loop rfl rfl ?_)), perm_eq (by dsimp only; rw [bumps_snoc _ hx]; rfl)⟩
                · exact ⟨by omega, trivial⟩
                · dsimp only; omega
              · try simp at h6
                have hnk : O.length ≤ k := by omega
                obtain rfl : k = O.length := by omega
                refine hw_exit ?_
                refine seqQ_x ?_
                refine loopQ_x ?_
                refine blockQ_eq ?_
                refine seqQ_n ?_
                refine hw_reg ?_
                refine dp rfl (pop_move rfl) ?_
                refine dp rfl (pop_assign rfl) ?_
                refine dn ?_
                refine hw_ret ?_
                refine ret_fa (M := []) 4 rfl rfl ?_
                rw [List.take_length, sharedL, hO]
end Go.Proofs.YtnlfcjoofdjpiaaGreatDoor
end
section
namespace Go.HL
def posW (W : List Over) : List Over := W.filter fun x => decide (0 < x.Worth)
def pricePairs (pos : List Over) (S : List Int) : List PairS := S.mapIdx fun i c => ⟨(pos.getD i over0).Player, Lib.itoa (c + 1)⟩
def pricesOf (pos : List Over) (rest : Int) : List PairS := pricePairs pos (sharedL rest (pos.map (·.Worth)))
def pricesE (pos : List Over) (rest : Int) : Int := if pos.length ≠ 0 ∧ rest < 0 then 12 else 0
def pricesL (pos : List Over) (rest : Int) : List PairS := if pos.length = 0 ∨ rest < 0 then [] else pricesOf pos rest
def pLA (lf : Int) (o : Bool) (pos : List Over) (rest : Int) : List PairS := if lf != 0 then [] else if o then [] else pricesL pos rest
def pEA (lf : Int) (o : Bool) (pos : List Over) (rest : Int) : Int := if lf != 0 then lf else if o then 1 else pricesE pos rest
theorem pA1 {lf : Int} {o : Bool} {pos : List Over} {rest : Int} (h : lf ≠ 0) : pLA lf o pos rest = [] ∧ pEA lf o pos rest = lf := by simp [pLA, pEA, h]
theorem pA2 {lf : Int} {o : Bool} {pos : List Over} {rest : Int} (h : lf = 0) (ho : o = true) : pLA lf o pos rest = [] ∧ pEA lf o pos rest = 1 := by simp [pLA, pEA, h, ho]
theorem pA3 {lf : Int} {o : Bool} {pos : List Over} {rest : Int} (h : lf = 0) (ho : o = false) (hp : pos.length ≠ 0) (hr : rest < 0) : pLA lf o pos rest = [] ∧ pEA lf o pos rest = 12 := by
  simp only [pLA, pEA, h, ho, pricesL, pricesE]
  exact ⟨by rw [if_neg (by simp), if_neg (by simp), if_pos (.inr hr)], by rw [if_neg (by simp), if_neg (by simp), if_pos ⟨hp, hr⟩]⟩
theorem pA4 {lf : Int} {o : Bool} {pos : List Over} {rest : Int} (h : lf = 0) (ho : o = false) (hp : pos.length = 0) : pLA lf o pos rest = [] ∧ pEA lf o pos rest = 0 := by
  simp only [pLA, pEA, h, ho, pricesL, pricesE]
  exact ⟨by rw [if_neg (by simp), if_neg (by simp), if_pos (.inl hp)], by rw [if_neg (by simp), if_neg (by simp), if_neg (fun q => q.1 hp)]⟩
theorem pA5 {lf : Int} {o : Bool} {pos : List Over} {rest : Int} (h : lf = 0) (ho : o = false) (hp : pos.length ≠ 0) (hr : ¬ rest < 0) : pLA lf o pos rest = pricesOf pos rest ∧ pEA lf o pos rest = 0 := by
  simp only [pLA, pEA, h, ho, pricesL, pricesE]
  exact ⟨by rw [if_neg (by simp), if_neg (by simp), if_neg (by intro q; rcases q with q | q; exact hp q; exact hr q)], by rw [if_neg (by simp), if_neg (by simp), if_neg (fun q => hr q.2)]⟩
theorem pricePairs_snoc (pos : List Over) {S : List Int} {k : Nat} {c : Int} (h : S[k]? = some c) : pricePairs pos (S.take (k + 1)) = pricePairs pos (S.take k) ++ [⟨(pos.getD k over0).Player, Lib.itoa (c + 1)⟩] := by
  have hk := lt_of_get h
  unfold pricePairs
  rw [take_snoc' h, List.mapIdx_append]
  simp [Nat.min_eq_left (Nat.le_of_lt hk)]
theorem pricePairs_len (pos : List Over) (S : List Int) : (pricePairs pos S).length = S.length := by simp [pricePairs]
theorem sharedL_len (n : Int) (ws : List Int) : (sharedL n ws).length = ws.length := by simp [sharedL, bumps_len]
theorem parts_bd {n : Int} {ws : List Int} (hn : 0 ≤ n ∧ n ≤ 20000000) (hw : ∀ w ∈ ws, 1 ≤ w ∧ w ≤ 2000000) (hl : 1 ≤ ws.length) : ∀ y ∈ ws.map (partS n ws.sum), 0 ≤ y ∧ y ≤ 40000000000000 := fun y hy => by
  have hs0 : (ws.length : Int) ≤ ws.sum := sum_pos fun w hq => (hw w hq).1
  obtain ⟨w, hq, rfl⟩ := List.mem_map.1 hy
  have h1 := hw w hq
  have h2 := part_bd (n := n) (s := ws.sum) (w := w) hn.1 (by omega) (by omega)
  have h3 := mul_bd (a := n) (b := w) (A := 20000000) (B := 2000000) hn.1 hn.2 (by omega) (by omega)
  omega
theorem sharedL_bd {n : Int} {ws : List Int} (hn : 0 ≤ n ∧ n ≤ 20000000) (hw : ∀ w ∈ ws, 1 ≤ w ∧ w ≤ 2000000) (hl : 1 ≤ ws.length ∧ ws.length ≤ 12) : ∀ c ∈ sharedL n ws, 0 ≤ c ∧ c ≤ 40000000000012 := fun c hc => by
  have := bumps_bd ((orderL n ws).take (overS n ws).toNat) (parts_bd hn hw hl.1) (by omega) c hc
  have h2 : (((orderL n ws).take (overS n ws).toNat).length : Int) ≤ 12 := by simp [orderL_len]; omega
  omega
theorem overP_worth {l : List Asset} {p : List Place} {teams : Int} (hv : ∀ x ∈ l, -1000000 ≤ x.Value ∧ x.Value ≤ 1000000) : ∀ x ∈ overP l p teams, x.Worth ≤ 2000000 := fun x hx => by
  unfold overP at hx
  obtain ⟨y, _, hy⟩ := List.mem_flatMap.1 hx
  obtain ⟨a, ha, rfl⟩ := List.mem_map.1 hy
  have h1 := hv a (ofP_mem ha)
  have h2 := levelOf_bd (o := ofP l y.Position) (fun z hz => ofP_mem hz) hv y.Many teams
  unfold levelP
  dsimp only
  omega
theorem ranked_worth {W : List Over} {B : Int} (h : ∀ x ∈ W, x.Worth ≤ B) : ∀ x ∈ ranked W, x.Worth ≤ B := fun x hx => by
  unfold ranked at hx
  obtain ⟨i, hi, rfl⟩ := List.mem_mapIdx.1 hx
  exact h (W[i]) (List.getElem_mem hi)
theorem ranked_len (W : List Over) : (ranked W).length = W.length := by simp [ranked]
theorem posW_bd {W : List Over} (h : ∀ x ∈ W, x.Worth ≤ 2000000) : ∀ w ∈ (posW W).map (·.Worth), 1 ≤ w ∧ w ≤ 2000000 := fun w hw => by
  obtain ⟨x, hx, rfl⟩ := List.mem_map.1 hw
  have hx' := List.mem_filter.1 hx
  have := h x hx'.1
  have h2 : 0 < x.Worth := by simpa using hx'.2
  omega
theorem posW_len (W : List Over) : (posW W).length ≤ W.length := List.length_filter_le _ _
theorem posW_yes {W : List Over} {k : Nat} {x : Over} (hx : W[k]? = some x) (h : 0 < x.Worth) : posW (W.take (k + 1)) = posW (W.take k) ++ [x] := by
  unfold posW; rw [take_snoc' hx, List.filter_append]; simp [h]
theorem posW_no {W : List Over} {k : Nat} {x : Over} (hx : W[k]? = some x) (h : ¬ 0 < x.Worth) : posW (W.take (k + 1)) = posW (W.take k) := by
  unfold posW; rw [take_snoc' hx, List.filter_append]; simp [h]
end Go.HL
end
section
namespace Go.Proofs.YtnlfcjoofdjpiaaGreatDoor
open Go.HL
set_option maxRecDepth 100000
set_option linter.unusedVariables false
set_option linter.unusedSimpArgs false
set_option maxHeartbeats 2000000 in
/-- benchwarmer/value.Prices -/
theorem c_value_Prices {l : List Asset} {p : List HL.Place} {teams budget : Int} (hl : l.length ≤ 12) (hp : p.length ≤ 1000000) : ConP Tryz.prog 13 [eAssets l, ePlaces p, .int .i64 teams, .int .i64 budget] (.tup [ePairs (pLA (lfault l p teams) (out budget 0 1000000) (posW (ranked (isort byWorth (overP l p teams)))) (budget * teams - ((posW (ranked (isort byWorth (overP l p teams)))).length : Int))), .int .i64 (pEA (lfault l p teams) (out budget 0 1000000) (posW (ranked (isort byWorth (overP l p teams)))) (budget * teams - ((posW (ranked (isort byWorth (overP l p teams)))).length : Int)))]) := by
  refine Con.of_body Tryz.func13 rfl Tryz.ntmps13 rfl rfl ?_
  refine hw_reg ?_
  refine dp rfl (pop_assign rfl) ?_
  refine dp rfl (pop_assign rfl) ?_
  refine dn ?_
  refine hw_seq ?_
  refine hw_reg ?_
  refine dp rfl (pop_move rfl) ?_
  refine dp rfl (pop_move rfl) ?_
  refine dp rfl (pop_move rfl) ?_
  refine dp rfl (pop_call ca33 rfl (WeakL.refl _) (c_value_levelsFault (by first | assumption | omega | (simp; omega) | simp_all) (by first | assumption | omega | (simp; omega) | simp_all))) ?_
  refine dp rfl (pop_assign rfl) ?_
  refine dn ?_
  refine hw_reg ?_
  refine dp rfl (pop_move rfl) ?_
  refine dp rfl (pop_neq rfl rfl) ?_
  refine dn ?_
  refine hw_cond rfl (fun h1 => ?_) (fun h2 => ?_)
  · try simp at h1
    refine hw_reg ?_
    refine dp rfl (pop_move rfl) ?_
    refine dp rfl (pop_assign rfl) ?_
    refine dp rfl (pop_assign rfl) ?_
    refine dn ?_
    refine hw_ret ?_
    first
    | (rw [(pA1 (by simpa using h1)).1, (pA1 (by simpa using h1)).2]; exact ret_w rfl (weak_tup2 (weak_nil 2) (Weak.refl _)))
    | (rw [(pA2 h2 (by simpa using h3)).1, (pA2 h2 (by simpa using h3)).2]; exact ret_w rfl (weak_tup2 (weak_nil 2) (Weak.refl _)))
    | (have hq : budget * teams - ((posW W).length : Int) < 0 := by simpa using h9
       rw [(pA3 h2 (by simpa using h4) (by omega) hq).1, (pA3 h2 (by simpa using h4) (by omega) hq).2]; exact ret_w rfl (weak_tup2 (weak_nil 2) (Weak.refl _)))
    | (have hq : (posW W).length = 0 := by simpa using h11
       rw [(pA4 h2 (by simpa using h4) hq).1, (pA4 h2 (by simpa using h4) hq).2]; exact ret_w rfl (weak_tup2 (weak_nil 2) (Weak.refl _)))
    | (have hq : ¬ budget * teams - ((posW W).length : Int) < 0 := by omega
       rw [(pA5 h2 (by simpa using h4) (by omega) hq).1, (pA5 h2 (by simpa using h4) (by omega) hq).2, pricesOf, hS]
       refine ret_fa (M := []) 8 rfl rfl ?_
       rw [List.take_length]; rfl)
  · try simp at h2
    refine hw_skip ?_
    refine seqQ_n ?_
    refine hw_seq ?_
    refine hw_reg ?_
    refine dp rfl (pop_move rfl) ?_
    refine dp rfl (pop_call ca32 rfl (WeakL.refl _) c_base_Out) ?_
    refine dn ?_
    refine hw_cond rfl (fun h3 => ?_) (fun h4 => ?_)
    · try simp at h3
      refine hw_reg ?_
      refine dp rfl (pop_assign rfl) ?_
      refine dp rfl (pop_assign rfl) ?_
      refine dn ?_
      refine hw_ret ?_
      first
      | (rw [(pA1 (by simpa using h1)).1, (pA1 (by simpa using h1)).2]; exact ret_w rfl (weak_tup2 (weak_nil 2) (Weak.refl _)))
      | (rw [(pA2 h2 (by simpa using h3)).1, (pA2 h2 (by simpa using h3)).2]; exact ret_w rfl (weak_tup2 (weak_nil 2) (Weak.refl _)))
      | (have hq : budget * teams - ((posW W).length : Int) < 0 := by simpa using h9
         rw [(pA3 h2 (by simpa using h4) (by omega) hq).1, (pA3 h2 (by simpa using h4) (by omega) hq).2]; exact ret_w rfl (weak_tup2 (weak_nil 2) (Weak.refl _)))
      | (have hq : (posW W).length = 0 := by simpa using h11
         rw [(pA4 h2 (by simpa using h4) hq).1, (pA4 h2 (by simpa using h4) hq).2]; exact ret_w rfl (weak_tup2 (weak_nil 2) (Weak.refl _)))
      | (have hq : ¬ budget * teams - ((posW W).length : Int) < 0 := by omega
         rw [(pA5 h2 (by simpa using h4) (by omega) hq).1, (pA5 h2 (by simpa using h4) (by omega) hq).2, pricesOf, hS]
         refine ret_fa (M := []) 8 rfl rfl ?_
         rw [List.take_length]; rfl)
    · try simp at h4
      refine hw_skip ?_
      refine seqQ_n ?_
      obtain ⟨hok, htm⟩ := lfault_ok h2
      obtain ⟨f1, f2, f3, f4, f5⟩ := okAP_facts hok
      have f6 := okAP_many hok
      have f7 := overP_small (l := l) (checkPlaces_sorted (okAP_ok hok).2) teams
      have hbu := out_f (by simpa using h4)
      have hbt := mul_bd (a := budget) (b := teams) (A := 1000000) (B := 20) hbu.1 hbu.2 (by omega) htm.2
      have hWw := ranked_worth (W := isort byWorth (overP l p teams)) (B := 2000000) (fun x hx => overP_worth f2 x ((isort_mem byWorth).1 hx))
      have hWl : (ranked (isort byWorth (overP l p teams))).length ≤ 12 := by rw [ranked_len, isort_len]; omega
      generalize hW : (ranked (isort byWorth (overP l p teams))) = W at hWw hWl ⊢
      refine hw_reg ?_
      refine dp rfl (pop_assign rfl) ?_
      refine dn ?_
      refine hw_ghost (Ghost.arr_nil 1) ?_
      refine hw_reg ?_
      refine dp rfl (pop_assign rfl) ?_
      refine dn ?_
      refine hw_ghost (Ghost.arr_nil 1) ?_
      refine hw_seq ?_
      refine hw_reg ?_
      refine dp rfl (pop_move rfl) ?_
      refine dp rfl (pop_move rfl) ?_
      refine dp rfl (pop_move rfl) ?_
      refine dp rfl (pop_call ca35 rfl (WeakL.refl _) (by have h := c_value_worths (l := l) (p := p) (teams := teams) hl f5 f6 htm f2 (by omega); rw [hW] at h; exact h)) ?_
      refine dp rfl (pop_lenm ty37 rfl) ?_
      refine dp rfl (pop_move rfl) ?_
      refine dn ?_
      refine hw_block ?_
      refine hw_loopw3 [11, 12, 14, 33, 34, 35, 36, 37, 38, 39, 40, 41, 42, 43, 44, 45, 46, 47, 48, 49, 50] (fun (k : Nat) (u : Value) (w : Value) => [(33, .int .i64 k), (11, .raw u), (12, .raw w)]) (fun (k : Nat) (u : Value) (w : Value) => [.arr u 1 (((posW (W.take k)).map (·.Player)).map HVal.str), .arr w 1 (((posW (W.take k)).map (·.Worth)).map (HVal.int .i64))]) (fun (k : Nat) (u : Value) (w : Value) => k ≤ W.length ∧ (True)) (fun (k : Nat) (u : Value) (w : Value) => W.length - k) (0) (.slice none 0 0) (.slice none 0 0) ?_ ?_ ?_ ?_
      · exact ⟨Nat.zero_le _, by simp_all⟩
      · exact ⟨rfl, rfl, rfl, trivial⟩
      · exact perm_eq rfl
      · intro k u w hinv
        obtain ⟨hk, -⟩ := hinv
        refine hw_reg ?_
        refine dp rfl (pop_lss rfl rfl) ?_
        refine dn ?_
        refine hw_seq ?_
        refine hw_cond rfl (fun h5 => ?_) (fun h6 => ?_)
        · try simp at h5
          obtain ⟨x, hx⟩ : ∃ x, W[k]? = some x := ⟨_, List.getElem?_eq_getElem h5⟩
          have hdx := drop_cons hx
          refine hw_skip ?_
          refine seqQ_n ?_
          refine hw_seq ?_
          refine hw_block ?_
          refine hw_reg ?_
          refine dp rfl (pop_idx ty37 ty50 rfl rfl rfl (by first | assumption | simp_all)) ?_
          refine dp rfl (pop_loadw ty50 rfl rfl rfl rfl) ?_
          refine de rfl (eop_alloc ty50 rfl fun b14 => ?_)
          refine de0 (eop_storew ty50 rfl rfl rfl rfl rfl ?_)
          refine dn ?_
          refine hw_ghost (Ghost.fc0 14 rfl) ?_
          refine hw_reg ?_
          refine dp rfl (pop_fieldAddr ty50 rfl ty3 (by decide) rfl) ?_
          refine dp rfl (pop_load ty3 rfl rfl rfl) ?_
          refine dp rfl (pop_gtr rfl rfl) ?_
          refine dn ?_
          refine hw_cond rfl (fun h7 => ?_) (fun h8 => ?_)
          · try simp at h7
            refine hw_draw1 (fun _ => True) [] mixed ?_
            refine ahp 0 rfl rfl (by kernel_rfl) (by kernel_rfl) (pop_move rfl) ?_
            refine ahp 1 rfl rfl (by kernel_rfl) (by kernel_rfl) (pop_fieldAddr ty50 rfl ty9 (by decide) rfl) ?_
            refine ahp 2 rfl rfl (by kernel_rfl) (by kernel_rfl) (pop_load ty9 rfl rfl rfl) ?_
            refine ahp 3 rfl rfl (by kernel_rfl) (by kernel_rfl) (pop_buildSlice (hs := [_]) ty61 ty9 rfl rfl (by decide) (by decide) rfl) ?_
            refine ahp 5 rfl rfl (by kernel_rfl) (by kernel_rfl) (pop_move rfl) ?_
            refine ahp 6 rfl rfl (by kernel_rfl) (by kernel_rfl) (pop_fieldAddr ty50 rfl ty3 (by decide) rfl) ?_
            refine ahp 7 rfl rfl (by kernel_rfl) (by kernel_rfl) (pop_load ty3 rfl rfl rfl) ?_
            refine ahp 8 rfl rfl (by kernel_rfl) (by kernel_rfl) (pop_buildSlice (hs := [_]) ty22 ty3 rfl rfl (by decide) (by decide) rfl) ?_
            refine ahe 4 rfl (by kernel_rfl) ?_
            have hpl := posW_len (W.take k)
            have hpk : (W.take k).length ≤ 12 := by simp; omega
            refine hop_e rfl (eop_append (i := 0) ty61 ty9 rfl rfl rfl rfl rfl (by simp [flat, hcells]) (by simp only [List.length_map, List.length_cons, List.length_nil]; omega) fun v44 => ?_)
            refine ⟨fun _ => .inl trivial, ?_⟩
            refine ahe 9 rfl (by kernel_rfl) ?_
            refine hop_e rfl (eop_append (i := 1) ty22 ty3 rfl rfl rfl rfl rfl (by simp [flat, hcells]) (by simp only [List.length_map, List.length_cons, List.length_nil]; omega) fun v49 => ?_)
            refine ⟨fun _ => .inl trivial, ?_⟩
            refine ahp 10 rfl rfl (by kernel_rfl) (by kernel_rfl) (pop_assign rfl) ?_
            refine ahp 11 rfl rfl (by kernel_rfl) (by kernel_rfl) (pop_assign rfl) ?_
            refine ahz (by kernel_rfl) ?_
            refine blockQ_n ?_
            refine seqQ_n ?_
            refine hw_reg1 ?_
            refine dp rfl (pop_add64 rfl rfl (by omega) (by omega)) ?_
            refine dp rfl (pop_move rfl) ?_
            refine dn ?_
            exact ⟨k + 1, _, _, ⟨by omega, trivial⟩, by dsimp only; omega, ⟨rfl, rfl, rfl, trivial⟩, (by repeat (first | exact keeps_refl | refine keeps_upd rfl ?_ | refine keeps_loop rfl rfl ?_)), perm_eq (by dsimp only; rw [posW_yes hx (by omega)]; simp)⟩
          · try simp at h8
            refine hw_skip ?_
            refine blockQ_n ?_
            refine seqQ_n ?_
            refine hw_reg1 ?_
            refine dp rfl (pop_add64 rfl rfl (by omega) (by omega)) ?_
            refine dp rfl (pop_move rfl) ?_
            refine dn ?_
            exact ⟨k + 1, _, _, ⟨by omega, trivial⟩, by dsimp only; omega, ⟨rfl, rfl, rfl, trivial⟩, (by repeat (first | exact keeps_refl | refine keeps_upd rfl ?_ | refine keeps_loop rfl rfl ?_)), perm_eq (by dsimp only; rw [posW_no hx (by omega)])⟩
        · try simp at h6
          have hnk : W.length ≤ k := by omega
          obtain rfl : k = W.length := by omega
          rw [List.take_length]
          have hnl := posW_len W
          refine hw_ghost (Ghost.fa0 11 rfl) ?_
          refine hw_ghost (Ghost.fa0 12 rfl) ?_
          refine hw_exit ?_
          refine seqQ_x ?_
          refine loopQ3_x ?_
          refine blockQ_eq ?_
          refine seqQ_n ?_
          refine hw_reg ?_
          refine dp rfl (pop_move rfl) ?_
          refine dp rfl (pop_move rfl) ?_
          refine dp rfl (pop_mul64 rfl rfl (by omega) (by omega)) ?_
          refine dp rfl (pop_move rfl) ?_
          refine dp rfl (pop_eq (pop_lenm ty61 rfl) (show HVal.int .i64 (((posW W).map (·.Player)).length : Int) = .int .i64 ((posW W).length : Int) by rw [List.length_map])) ?_
          refine dp rfl (pop_sub64 rfl rfl (by omega) (by omega)) ?_
          refine dp rfl (pop_assign rfl) ?_
          refine dn ?_
          refine hw_seq ?_
          refine hw_block ?_
          refine hw_reg ?_
          refine dp rfl (pop_move rfl) ?_
          refine dp rfl (pop_lss rfl rfl) ?_
          refine dp rfl (pop_assign rfl) ?_
          refine dn ?_
          refine hw_cond rfl (fun h9 => ?_) (fun h10 => ?_)
          · try simp at h9
            refine hw_reg ?_
            refine dp rfl (pop_assign rfl) ?_
            refine dp rfl (pop_assign rfl) ?_
            refine dn ?_
            refine hw_ret ?_
            first
            | (rw [(pA1 (by simpa using h1)).1, (pA1 (by simpa using h1)).2]; exact ret_w rfl (weak_tup2 (weak_nil 2) (Weak.refl _)))
            | (rw [(pA2 h2 (by simpa using h3)).1, (pA2 h2 (by simpa using h3)).2]; exact ret_w rfl (weak_tup2 (weak_nil 2) (Weak.refl _)))
            | (have hq : budget * teams - ((posW W).length : Int) < 0 := by simpa using h9
               rw [(pA3 h2 (by simpa using h4) (by omega) hq).1, (pA3 h2 (by simpa using h4) (by omega) hq).2]; exact ret_w rfl (weak_tup2 (weak_nil 2) (Weak.refl _)))
            | (have hq : (posW W).length = 0 := by simpa using h11
               rw [(pA4 h2 (by simpa using h4) hq).1, (pA4 h2 (by simpa using h4) hq).2]; exact ret_w rfl (weak_tup2 (weak_nil 2) (Weak.refl _)))
            | (have hq : ¬ budget * teams - ((posW W).length : Int) < 0 := by omega
               rw [(pA5 h2 (by simpa using h4) (by omega) hq).1, (pA5 h2 (by simpa using h4) (by omega) hq).2, pricesOf, hS]
               refine ret_fa (M := []) 8 rfl rfl ?_
               rw [List.take_length]; rfl)
          · try simp at h10
            refine hw_reg ?_
            refine dp rfl (pop_move rfl) ?_
            refine dp rfl (pop_eq (pop_lenm ty61 rfl) (show HVal.int .i64 (((posW W).map (·.Player)).length : Int) = .int .i64 ((posW W).length : Int) by rw [List.length_map])) ?_
            refine dp rfl (pop_eql rfl rfl) ?_
            refine dp rfl (pop_assign rfl) ?_
            refine dn ?_
            refine hw_cond rfl (fun h11 => ?_) (fun h12 => ?_)
            · try simp at h11
              refine hw_reg ?_
              refine dp rfl (pop_assign rfl) ?_
              refine dp rfl (pop_assign rfl) ?_
              refine dn ?_
              refine hw_ret ?_
              first
              | (rw [(pA1 (by simpa using h1)).1, (pA1 (by simpa using h1)).2]; exact ret_w rfl (weak_tup2 (weak_nil 2) (Weak.refl _)))
              | (rw [(pA2 h2 (by simpa using h3)).1, (pA2 h2 (by simpa using h3)).2]; exact ret_w rfl (weak_tup2 (weak_nil 2) (Weak.refl _)))
              | (have hq : budget * teams - ((posW W).length : Int) < 0 := by simpa using h9
                 rw [(pA3 h2 (by simpa using h4) (by omega) hq).1, (pA3 h2 (by simpa using h4) (by omega) hq).2]; exact ret_w rfl (weak_tup2 (weak_nil 2) (Weak.refl _)))
              | (have hq : (posW W).length = 0 := by simpa using h11
                 rw [(pA4 h2 (by simpa using h4) hq).1, (pA4 h2 (by simpa using h4) hq).2]; exact ret_w rfl (weak_tup2 (weak_nil 2) (Weak.refl _)))
              | (have hq : ¬ budget * teams - ((posW W).length : Int) < 0 := by omega
                 rw [(pA5 h2 (by simpa using h4) (by omega) hq).1, (pA5 h2 (by simpa using h4) (by omega) hq).2, pricesOf, hS]
                 refine ret_fa (M := []) 8 rfl rfl ?_
                 rw [List.take_length]; rfl)
            · try simp at h12
              refine hw_skip ?_
              refine blockQ_n ?_
              refine seqQ_n ?_
              have hne : 1 ≤ (posW W).length := by
                rcases Nat.eq_zero_or_pos (posW W).length with h0 | h0
                · exfalso; simp_all
                · exact h0
              have hnw := posW_bd hWw
              have hsl := sharedL_len (budget * teams - ((posW W).length : Int)) ((posW W).map (·.Worth))
              have hsb := sharedL_bd (n := budget * teams - ((posW W).length : Int)) (ws := (posW W).map (·.Worth)) (by omega) hnw (by simp; omega)
              have hsh := c_value_shared (n := budget * teams - ((posW W).length : Int)) (ws := (posW W).map (·.Worth)) (by omega) hnw (by simp; omega)
              rw [List.length_map] at hsl
              refine hw_reg ?_
              refine dp rfl (pop_assign rfl) ?_
              refine dn ?_
              refine hw_ghost (Ghost.arr_nil 2) ?_
              refine hw_seq ?_
              refine hw_reg ?_
              refine dp rfl (pop_move rfl) ?_
              refine dp rfl (pop_move rfl) ?_
              refine dp rfl (pop_call ca36 rfl (WeakL.refl _) hsh) ?_
              refine dp rfl (pop_lenm ty22 rfl) ?_
              refine dp rfl (pop_move rfl) ?_
              refine dn ?_
              generalize hS : sharedL (budget * teams - ((posW W).length : Int)) ((posW W).map (·.Worth)) = S at hsl hsb ⊢
              refine hw_block ?_
              refine hw_loopw2 [16, 17, 18, 68, 69, 70, 71, 72, 73, 74, 75, 76, 77, 78, 79, 80, 81, 82, 83, 84] (fun (k : Nat) (u : Value) => [(68, .int .i64 k), (16, .raw u)]) (fun (k : Nat) (u : Value) => [.arr u 2 ((pricePairs (posW W) (S.take k)).map ePair)]) (fun (k : Nat) (u : Value) => k ≤ S.length ∧ (True)) (fun (k : Nat) (u : Value) => S.length - k) (0) (.slice none 0 0) ?_ ?_ ?_ ?_
              · exact ⟨Nat.zero_le _, by simp_all⟩
              · exact ⟨rfl, rfl, trivial⟩
              · exact perm_eq (by simp [pricePairs])
              · intro k u hinv
                obtain ⟨hk, -⟩ := hinv
                refine hw_reg ?_
                refine dp rfl (pop_lss rfl rfl) ?_
                refine dn ?_
                refine hw_seq ?_
                refine hw_cond rfl (fun h13 => ?_) (fun h14 => ?_)
                · try simp at h13
                  obtain ⟨c, hc⟩ : ∃ c, S[k]? = some c := ⟨_, List.getElem?_eq_getElem h13⟩
                  have hdc := drop_cons hc
                  refine hw_skip ?_
                  refine seqQ_n ?_
                  refine hw_seq ?_
                  refine hw_block ?_
                  refine hw_reg ?_
                  refine dp rfl (pop_move rfl) ?_
                  refine dp rfl (pop_idx ty22 ty3 rfl rfl rfl (by first | assumption | simp_all)) ?_
                  refine dp rfl (pop_load ty3 rfl rfl rfl) ?_
                  refine dp rfl (pop_assign rfl) ?_
                  refine dp rfl (pop_assign rfl) ?_
                  refine dn ?_
                  refine hw_draw1 (fun _ => True) [] mixed ?_
                  refine ahp 0 rfl rfl (by kernel_rfl) (by kernel_rfl) (pop_move rfl) ?_
                  refine ahp 1 rfl rfl (by kernel_rfl) (by kernel_rfl) (pop_move rfl) ?_
                  refine ahp 2 rfl rfl (by kernel_rfl) (by kernel_rfl) (pop_move rfl) ?_
                  refine ahp 3 rfl rfl (by kernel_rfl) (by kernel_rfl) (pop_idx (j := k) (a := ((posW W).getD k over0).Player) ty61 ty9 rfl rfl rfl (map_get (f := fun q : Over => q.Player) (l := posW W) (x := (posW W).getD k over0) (getD_some (by omega)))) ?_
                  refine ahp 4 rfl rfl (by kernel_rfl) (by kernel_rfl) (pop_load ty9 rfl rfl rfl) ?_
                  refine ahp 5 rfl rfl (by kernel_rfl) (by kernel_rfl) (pop_move rfl) ?_
                  have hcb := hsb c (List.mem_of_getElem? hc)
                  refine ahp 6 rfl rfl (by kernel_rfl) (by kernel_rfl) (pop_add64 rfl rfl (by omega) (by omega)) ?_
                  refine ahp 7 rfl rfl (by kernel_rfl) (by kernel_rfl) (pop_call ca23 rfl (WeakL.refl _) (c_Itoa (n := c + 1) (by omega) (by omega))) ?_
                  refine ahp 8 rfl rfl (by kernel_rfl) (by kernel_rfl) (pop_build (cs := [_, _]) ty45 pl45 rfl) ?_
                  refine ahp 9 rfl rfl (by kernel_rfl) (by kernel_rfl) (pop_buildSlice (hs := [_]) ty34 ty45 rfl rfl (by decide) (by decide) rfl) ?_
                  refine ahe 10 rfl (by kernel_rfl) ?_
                  refine hop_e rfl (eop_append (i := 0) ty34 ty45 rfl rfl rfl rfl rfl (by simp [flat, hcells]) (by simp only [List.length_map, List.length_cons, List.length_nil, pricePairs_len, List.length_take]; omega) fun v83 => ?_)
                  refine ⟨fun _ => .inl trivial, ?_⟩
                  refine ahp 11 rfl rfl (by kernel_rfl) (by kernel_rfl) (pop_assign rfl) ?_
                  refine ahz (by kernel_rfl) ?_
                  refine blockQ_n ?_
                  refine seqQ_n ?_
                  refine hw_reg1 ?_
                  refine dp rfl (pop_add64 rfl rfl (by omega) (by omega)) ?_
                  refine dp rfl (pop_move rfl) ?_
                  refine dn ?_
                  refine ⟨k + 1, _, ?_, ?_, ⟨rfl, rfl, trivial⟩, (by repeat (first | exact keeps_refl | refine keeps_upd rfl ?_ | refine keeps_loop rfl rfl ?_)), perm_eq (by dsimp only; rw [pricePairs_snoc _ hc]; simp)⟩
                  · exact ⟨by omega, trivial⟩
                  · dsimp only; omega
                · try simp at h14
                  have hnk : S.length ≤ k := by omega
                  obtain rfl : k = S.length := by omega
                  refine hw_exit ?_
                  refine seqQ_x ?_
                  refine loopQ2_x ?_
                  refine blockQ_eq ?_
                  refine seqQ_n ?_
                  refine hw_reg ?_
                  refine dp rfl (pop_move rfl) ?_
                  refine dp rfl (pop_assign rfl) ?_
                  refine dp rfl (pop_assign rfl) ?_
                  refine dn ?_
                  refine hw_ret ?_
                  first
                  | (rw [(pA1 (by simpa using h1)).1, (pA1 (by simpa using h1)).2]; exact ret_w rfl (weak_tup2 (weak_nil 2) (Weak.refl _)))
                  | (rw [(pA2 h2 (by simpa using h3)).1, (pA2 h2 (by simpa using h3)).2]; exact ret_w rfl (weak_tup2 (weak_nil 2) (Weak.refl _)))
                  | (have hq : budget * teams - ((posW W).length : Int) < 0 := by simpa using h9
                     rw [(pA3 h2 (by simpa using h4) (by omega) hq).1, (pA3 h2 (by simpa using h4) (by omega) hq).2]; exact ret_w rfl (weak_tup2 (weak_nil 2) (Weak.refl _)))
                  | (have hq : (posW W).length = 0 := by simpa using h11
                     rw [(pA4 h2 (by simpa using h4) hq).1, (pA4 h2 (by simpa using h4) hq).2]; exact ret_w rfl (weak_tup2 (weak_nil 2) (Weak.refl _)))
                  | (have hq : ¬ budget * teams - ((posW W).length : Int) < 0 := by omega
                     rw [(pA5 h2 (by simpa using h4) (by omega) hq).1, (pA5 h2 (by simpa using h4) (by omega) hq).2, pricesOf, hS]
                     refine ret_fa (M := []) 8 rfl rfl ?_
                     rw [List.take_length]; rfl)
end Go.Proofs.YtnlfcjoofdjpiaaGreatDoor
end
section
namespace Go.HL
theorem rankedR_len (W : List Over) : (rankedR W).length = W.length := by simp [rankedR]
theorem posW_del (W : List Over) : W.filter (fun x => !(decide (x.Worth ≤ 0))) = posW W := by
  unfold posW
  congr 1
  funext x
  by_cases h : x.Worth ≤ 0
  · simp [h]
  · simp [h]; omega
theorem pR3 {pos : List Over} {rest : Int} (hp : pos.length ≠ 0) (hr : rest < 0) : pricesL pos rest = [] ∧ pricesE pos rest = 12 :=
  ⟨if_pos (.inr hr), if_pos ⟨hp, hr⟩⟩
theorem pR4 {pos : List Over} {rest : Int} (hp : pos.length = 0) : pricesL pos rest = [] ∧ pricesE pos rest = 0 :=
  ⟨if_pos (.inl hp), if_neg (fun q => q.1 hp)⟩
theorem pR5 {pos : List Over} {rest : Int} (hp : pos.length ≠ 0) (hr : ¬ rest < 0) : pricesL pos rest = pricesOf pos rest ∧ pricesE pos rest = 0 :=
  ⟨if_neg (by intro q; rcases q with q | q; exact hp q; exact hr q), if_neg (fun q => hr q.2)⟩
end Go.HL
end
section
namespace Go.Proofs.YtnlfcjoofdjpiaaGreatDoor
open Go.HL
set_option maxRecDepth 100000
set_option linter.unusedVariables false
set_option linter.unusedSimpArgs false
set_option maxHeartbeats 2000000 in
/-- benchwarmer/benchref1.WorthsFor -/
theorem c_benchref1_WorthsFor_a {l : List Asset} {p : List HL.Place} {teams : Int} (hl : l.length ≤ 12) (hp : p.length ≤ 10) (hm : ∀ x ∈ p, 0 ≤ x.Many ∧ x.Many ≤ 12) (ht : 1 ≤ teams ∧ teams ≤ 20) (hv : ∀ x ∈ l, -1000000 ≤ x.Value ∧ x.Value ≤ 1000000) (ho : (overR l p teams).length ≤ 12) : ConA Tryz.prog 21 [eAssets l, ePlaces p, .int .i64 teams] 3 ((rankedR (isort byWorthV (overR l p teams))).map eOver) := by
  refine Con.of_body Tryz.func21 rfl Tryz.ntmps21 rfl rfl ?_
  refine hw_reg ?_
  refine dp rfl (pop_assign rfl) ?_
  refine dn ?_
  refine hw_reg ?_
  refine dp rfl (pop_assign rfl) ?_
  refine dn ?_
  refine hw_ghost (Ghost.arr_nil 3) ?_
  refine hw_seq ?_
  refine hw_reg ?_
  refine dp rfl (pop_move rfl) ?_
  refine dp rfl (pop_lenm ty26 rfl) ?_
  refine dp rfl (pop_move rfl) ?_
  refine dn ?_
  refine hw_block ?_
  refine hw_loopw2 [7, 9, 11, 17, 18, 19, 20, 21, 22, 23, 24, 25, 26, 27, 28, 29, 30, 31, 32, 33, 34, 35, 36, 37, 38, 39, 40, 41, 42, 43, 44, 45, 46] (fun (i : Nat) (u : Value) => [(17, .int .i64 i), (7, .raw u)]) (fun (i : Nat) (u : Value) => [.arr u 3 ((overRL l p teams (l.take i)).map eOver)]) (fun (i : Nat) (u : Value) => i ≤ l.length ∧ (True)) (fun (i : Nat) (u : Value) => l.length - i) (0) (.slice none 0 0) ?_ ?_ ?_ ?_
  · exact ⟨Nat.zero_le _, by simp_all⟩
  · exact ⟨rfl, rfl, trivial⟩
  · exact perm_eq (by simp [overRL])
  · intro i u hinv
    obtain ⟨hi, -⟩ := hinv
    refine hw_reg ?_
    refine dp rfl (pop_lss rfl rfl) ?_
    refine dn ?_
    refine hw_seq ?_
    refine hw_cond rfl (fun h1 => ?_) (fun h2 => ?_)
    · try simp at h1
      obtain ⟨x, hx⟩ : ∃ x, l[i]? = some x := ⟨_, List.getElem?_eq_getElem h1⟩
      have hdx := drop_cons hx
      refine hw_skip ?_
      refine seqQ_n ?_
      refine hw_seq ?_
      refine hw_block ?_
      refine hw_reg ?_
      refine dp rfl (pop_idx ty26 ty57 rfl rfl rfl (by first | assumption | simp_all)) ?_
      refine dp rfl (pop_loadw ty57 rfl rfl rfl rfl) ?_
      refine de rfl (eop_alloc ty57 rfl fun b9 => ?_)
      refine de0 (eop_storew ty57 rfl rfl rfl rfl rfl ?_)
      refine dn ?_
      refine hw_ghost (Ghost.fc0 9 rfl) ?_
      refine hw_reg ?_
      refine dp rfl (pop_move rfl) ?_
      refine dp rfl (pop_lenm ty28 rfl) ?_
      refine dp rfl (pop_move rfl) ?_
      refine dn ?_
      refine hw_block ?_
      refine hw_loopw2 [7, 11, 23, 24, 25, 26, 27, 28, 29, 30, 31, 32, 33, 34, 35, 36, 37, 38, 39, 40, 41, 42, 43, 44, 45] (fun (k : Nat) (w : Value) => [(23, .int .i64 k), (7, .raw w)]) (fun (k : Nat) (w : Value) => [.arr w 3 (((overRL l p teams (l.take i)) ++ (((p.take k).filter (fun y => x.Position == y.Position)).map fun y => (⟨x.Player, x.Value - levelR l y teams, 0⟩ : Over))).map eOver)]) (fun (k : Nat) (w : Value) => k ≤ p.length ∧ (True)) (fun (k : Nat) (w : Value) => p.length - k) (0) (u) ?_ ?_ ?_ ?_
      · exact ⟨Nat.zero_le _, by simp_all⟩
      · exact ⟨rfl, rfl, trivial⟩
      · exact perm_eq (by simp)
      · intro k w hinv
        obtain ⟨hk, -⟩ := hinv
        refine hw_reg ?_
        refine dp rfl (pop_lss rfl rfl) ?_
        refine dn ?_
        refine hw_seq ?_
        refine hw_cond rfl (fun h3 => ?_) (fun h4 => ?_)
        · try simp at h3
          obtain ⟨y, hy⟩ : ∃ y, p[k]? = some y := ⟨_, List.getElem?_eq_getElem h3⟩
          have hdy := drop_cons hy
          refine hw_skip ?_
          refine seqQ_n ?_
          refine hw_seq ?_
          refine hw_block ?_
          refine hw_reg ?_
          refine dp rfl (pop_idx ty28 ty63 rfl rfl rfl (by first | assumption | simp_all)) ?_
          refine dp rfl (pop_loadw ty63 rfl rfl rfl rfl) ?_
          refine de rfl (eop_alloc ty63 rfl fun b11 => ?_)
          refine de0 (eop_storew ty63 rfl rfl rfl rfl rfl ?_)
          refine dn ?_
          refine hw_ghost (Ghost.fc0 11 rfl) ?_
          refine hw_reg ?_
          refine dp rfl ((by first | exact pop_fieldAddr ty57 rfl ty9 (by decide) rfl | exact pop_fieldAddr_raw ty57 rfl ty9 (by decide) rfl)) ?_
          refine dp rfl (pop_load ty9 rfl rfl rfl) ?_
          refine dp rfl ((by first | exact pop_fieldAddr ty63 rfl ty9 (by decide) rfl | exact pop_fieldAddr_raw ty63 rfl ty9 (by decide) rfl)) ?_
          refine dp rfl (pop_load ty9 rfl rfl rfl) ?_
          refine dp rfl (pop_eqls rfl rfl) ?_
          refine dn ?_
          refine hw_cond rfl (fun h5 => ?_) (fun h6 => ?_)
          · try simp at h5
            refine hw_draw1 (fun _ => True) [] mixed ?_
            refine ahp 0 rfl rfl (by kernel_rfl) (by kernel_rfl) (pop_move rfl) ?_
            refine ahp 1 rfl rfl (by kernel_rfl) (by kernel_rfl) ((by first | exact pop_fieldAddr ty57 rfl ty9 (by decide) rfl | exact pop_fieldAddr_raw ty57 rfl ty9 (by decide) rfl)) ?_
            refine ahp 2 rfl rfl (by kernel_rfl) (by kernel_rfl) (pop_load ty9 rfl rfl rfl) ?_
            refine ahp 3 rfl rfl (by kernel_rfl) (by kernel_rfl) ((by first | exact pop_fieldAddr ty57 rfl ty3 (by decide) rfl | exact pop_fieldAddr_raw ty57 rfl ty3 (by decide) rfl)) ?_
            refine ahp 4 rfl rfl (by kernel_rfl) (by kernel_rfl) (pop_load ty3 rfl rfl rfl) ?_
            refine ahp 5 rfl rfl (by kernel_rfl) (by kernel_rfl) (pop_move rfl) ?_
            refine ahp 6 rfl rfl (by kernel_rfl) (by kernel_rfl) (pop_loadw ty63 rfl rfl rfl rfl) ?_
            refine ahp 7 rfl rfl (by kernel_rfl) (by kernel_rfl) (pop_move rfl) ?_
            refine ahp 8 rfl rfl (by kernel_rfl) (by kernel_rfl) (pop_call ca44 rfl (WeakL.refl _) (c_benchref1_level (l := l) (p := y) (teams := teams) hl (hm y (List.mem_of_getElem? hy)) ht)) ?_
            have hlb := levelOf_bd (o := ofR l y.Position) (fun z hz => ofR_mem hz) hv y.Many teams
            have hvx := hv x (List.mem_of_getElem? hx)
            have hfl := overRL_len l hp teams (l.take i)
            have hli : (l.take i).length ≤ 12 := by simp; omega
            have hgl : ((p.take k).filter (fun y => x.Position == y.Position)).length ≤ 10 := Nat.le_trans (List.length_filter_le _ _) (by simp; omega)
            refine ahp 9 rfl rfl (by kernel_rfl) (by kernel_rfl) (pop_sub64 rfl rfl (by unfold levelR; omega) (by unfold levelR; omega)) ?_
            refine ahp 10 rfl rfl (by kernel_rfl) (by kernel_rfl) (pop_build (cs := [_, _, _]) ty50 pl50 rfl) ?_
            refine ahp 11 rfl rfl (by kernel_rfl) (by kernel_rfl) (pop_buildSlice (hs := [_]) ty37 ty50 rfl rfl (by decide) (by decide) rfl) ?_
            refine ahe 12 rfl (by kernel_rfl) ?_
            refine hop_e rfl (eop_append (i := 0) ty37 ty50 rfl rfl rfl rfl rfl (by simp [flat, hcells, ofVal, ofVal1]) (by simp only [List.length_map, List.length_append, List.length_cons, List.length_nil]; omega) fun v44 => ?_)
            refine ⟨fun _ => .inl trivial, ?_⟩
            refine ahp 13 rfl rfl (by kernel_rfl) (by kernel_rfl) (pop_assign rfl) ?_
            refine ahz (by kernel_rfl) ?_
            refine blockQ_n ?_
            refine seqQ_n ?_
            refine hw_reg1 ?_
            refine dp rfl (pop_add64 rfl rfl (by omega) (by omega)) ?_
            refine dp rfl (pop_move rfl) ?_
            refine dn ?_
            exact ⟨k + 1, _, ⟨by omega, trivial⟩, by dsimp only; omega, ⟨rfl, rfl, trivial⟩, (by repeat (first | exact keeps_refl | refine keeps_upd rfl ?_ | refine keeps_loop rfl rfl ?_)), perm_eq (by dsimp only; simp [List.take_add_one, hy, List.filter_append, h5, ofVal, ofVal1])⟩
          · try simp at h6
            refine hw_skip ?_
            refine blockQ_n ?_
            refine seqQ_n ?_
            refine hw_reg1 ?_
            refine dp rfl (pop_add64 rfl rfl (by omega) (by omega)) ?_
            refine dp rfl (pop_move rfl) ?_
            refine dn ?_
            exact ⟨k + 1, _, ⟨by omega, trivial⟩, by dsimp only; omega, ⟨rfl, rfl, trivial⟩, (by repeat (first | exact keeps_refl | refine keeps_upd rfl ?_ | refine keeps_loop rfl rfl ?_)), perm_eq (by dsimp only; simp [List.take_add_one, hy, List.filter_append, h6, ofVal, ofVal1])⟩
        · try simp at h4
          have hnk : p.length ≤ k := by omega
          obtain rfl : k = p.length := by omega
          refine hw_exit ?_
          refine seqQ_x ?_
          refine loopQ2_x ?_
          refine blockQ_eq ?_
          refine blockQ_n ?_
          refine seqQ_n ?_
          refine hw_reg1 ?_
          refine dp rfl (pop_add64 rfl rfl (by omega) (by omega)) ?_
          refine dp rfl (pop_move rfl) ?_
          refine dn ?_
          exact ⟨i + 1, _, ⟨by omega, trivial⟩, by dsimp only; omega, ⟨rfl, rfl, trivial⟩, (by repeat (first | exact keeps_refl | refine keeps_upd rfl ?_ | refine keeps_loop rfl rfl ?_)), perm_eq (by dsimp only; rw [overRL_snoc l teams hx, List.take_length])⟩
    · try simp at h2
      have hni : l.length ≤ i := by omega
      obtain rfl : i = l.length := by omega
      refine hw_exit ?_
      refine seqQ_x ?_
      refine loopQ2_x ?_
      refine blockQ_eq ?_
      refine seqQ_n ?_
      rw [List.take_length, overRL_all]
      refine hw_reg ?_
      refine dp rfl (pop_move rfl) ?_
      first
      | refine de rfl (eop_callx (i := 0) ca45 rfl (WeakL.refl _) rfl (c_slices_SortStableFunc_api_Over_api_Over (l := overR l p teams) (c := byWorthV) (caps := []) ca46 (fun x y => c_benchref1_WorthsFor_1) (by omega)) ?_)
      | refine de rfl (eop_callx (i := 1) ca45 rfl (WeakL.refl _) rfl (c_slices_SortStableFunc_api_Over_api_Over (l := overR l p teams) (c := byWorthV) (caps := []) ca46 (fun x y => c_benchref1_WorthsFor_1) (by omega)) ?_)
      | refine de rfl (eop_callx (i := 2) ca45 rfl (WeakL.refl _) rfl (c_slices_SortStableFunc_api_Over_api_Over (l := overR l p teams) (c := byWorthV) (caps := []) ca46 (fun x y => c_benchref1_WorthsFor_1) (by omega)) ?_)
      | refine de rfl (eop_callx (i := 3) ca45 rfl (WeakL.refl _) rfl (c_slices_SortStableFunc_api_Over_api_Over (l := overR l p teams) (c := byWorthV) (caps := []) ca46 (fun x y => c_benchref1_WorthsFor_1) (by omega)) ?_)
      rintro _ _ ⟨rfl, rfl⟩
      refine dn ?_
      generalize hW : isort byWorthV (overR l p teams) = W
      have hWl : W.length ≤ 12 := by rw [← hW, isort_len]; exact ho
      refine hw_seq ?_
      refine hw_reg ?_
      refine dp rfl (pop_move rfl) ?_
      first
      | refine de rfl (eop_lenm (i := 0) ty37 rfl rfl ?_)
      | refine de rfl (eop_lenm (i := 1) ty37 rfl rfl ?_)
      | refine de rfl (eop_lenm (i := 2) ty37 rfl rfl ?_)
      | refine de rfl (eop_lenm (i := 3) ty37 rfl rfl ?_)
      refine dp rfl (pop_move rfl) ?_
      refine dn ?_
      refine hw_block ?_
      refine hw_loopw [12, 14, 51, 52, 53, 54, 55, 56, 57, 58, 59, 60, 61, 62, 63, 64, 65, 66, 67, 68, 69, 70, 71, 72, 73, 74, 75, 76, 77, 78, 79, 80, 81] (fun (k : Nat) => [(51, .int .i64 k)]) (fun (k : Nat) => [.arr u 3 ((rankRTo W k).map eOver)]) (fun (k : Nat) => k ≤ W.length ∧ (True)) (fun (k : Nat) => W.length - k) (0) ?_ ?_ ?_ ?_
      · exact ⟨Nat.zero_le _, by simp_all⟩
      · exact ⟨rfl, trivial⟩
      · exact perm_eq (by rw [rankRTo_zero]; rfl)
      · intro k hinv
        obtain ⟨hk, -⟩ := hinv
        refine hw_reg ?_
        refine dp rfl (pop_lss rfl rfl) ?_
        refine dn ?_
        refine hw_seq ?_
        refine hw_cond rfl (fun h7 => ?_) (fun h8 => ?_)
        · try simp at h7
          obtain ⟨x, hx⟩ : ∃ x, W[k]? = some x := ⟨_, List.getElem?_eq_getElem h7⟩
          have hdx := drop_cons hx
          refine hw_arrc (i := 0) rfl (fun h0 he => ?_) (fun b off cap hv hcap => ?_)
          · exfalso
            have h9 : (rankRTo W k).length = 0 := by simpa using congrArg List.length he
            rw [rankRTo_len] at h9
            omega
          rw [List.length_map, rankRTo_len] at hv hcap
          subst hv
          refine hw_skip ?_
          refine seqQ_n ?_
          refine hw_seq ?_
          refine hw_block ?_
          refine hw_reg ?_
          refine dp rfl (pop_move rfl) ?_
          refine dp rfl (pop_assign rfl) ?_
          refine dn ?_
          refine hw_reg ?_
          refine dp rfl (pop_move rfl) ?_
          refine dp rfl (pop_move rfl) ?_
          refine dp rfl (pop_idxraw (j := k) ty37 ty50 rfl rfl rfl (by omega)) ?_
          refine dp rfl ((by first | exact pop_fieldAddr ty50 rfl ty3 (by decide) rfl | exact pop_fieldAddr_raw ty50 rfl ty3 (by decide) rfl)) ?_
          refine de0 (eop_store_arr (i := 0) (j := k) (f := 2) (y := eOver x) (y' := eOver ⟨x.Player, x.Worth, 1⟩) ty3 rfl (by omega) rfl rfl (map_get ((rankRTo_get hx).trans (by simp))) rfl rfl (by simp [hcells]) rfl ?_)
          refine dn ?_
          refine hw_ghost (Ghost.of_eq (M' := [.arr (.slice (some ⟨b, off, none⟩) W.length cap) 3 (((rankRTo W k).set k ⟨x.Player, x.Worth, rankN W x 0⟩).map eOver)]) (by simp [rankN, List.map_set])) ?_
          refine hw_reg ?_
          refine dp rfl (pop_move rfl) ?_
          refine de rfl (eop_lenm (i := 0) ty37 rfl rfl ?_)
          rw [List.length_set, rankRTo_len]
          refine dp rfl (pop_move rfl) ?_
          refine dn ?_
          refine hw_block ?_
          refine hw_loopw [14, 60, 61, 62, 63, 64, 65, 66, 67, 68, 69, 70, 71, 72, 73, 74, 75, 76, 77, 78, 79, 80] (fun (m : Nat) => [(60, .int .i64 m)]) (fun (m : Nat) => [.arr (.slice (some ⟨b, off, none⟩) W.length cap) 3 (((rankRTo W k).set k ⟨x.Player, x.Worth, rankN W x m⟩).map eOver)]) (fun (m : Nat) => m ≤ W.length ∧ (True)) (fun (m : Nat) => W.length - m) (0) ?_ ?_ ?_ ?_
          · exact ⟨Nat.zero_le _, by simp_all⟩
          · exact ⟨rfl, trivial⟩
          · exact List.Perm.refl _
          · intro m hinv
            obtain ⟨hm, -⟩ := hinv
            refine hw_reg ?_
            refine dp rfl (pop_lss rfl rfl) ?_
            refine dn ?_
            refine hw_seq ?_
            refine hw_cond rfl (fun h9 => ?_) (fun h10 => ?_)
            · try simp at h9
              obtain ⟨y, hy⟩ : ∃ y, W[m]? = some y := ⟨_, List.getElem?_eq_getElem h9⟩
              have hdy := drop_cons hy
              obtain ⟨z, hz, hzw⟩ := rankRTo_any (rankN W x m) hx hy
              refine hw_skip ?_
              refine seqQ_n ?_
              refine hw_seq ?_
              refine hw_block ?_
              refine hw_reg ?_
              refine dp rfl (pop_idxraw (j := m) ty37 ty50 rfl rfl rfl (by omega)) ?_
              refine de rfl (eop_load_elw (i := 0) (j := m) ty50 rfl rfl rfl hz rfl rfl rfl ?_)
              refine de rfl (eop_alloc ty50 rfl fun b14 => ?_)
              refine de0 (eop_storew ty50 rfl rfl rfl rfl rfl ?_)
              refine dn ?_
              refine hw_ghost (Ghost.fc0 14 rfl) ?_
              refine hw_draw (fun M => ∃ i : Nat, M[i]? = some (.arr (.slice (some ⟨b, off, none⟩) W.length cap) 3 (((rankRTo W k).set k ⟨x.Player, x.Worth, rankN W x m⟩).map eOver))) [6] mixed ?_
              refine ahp 0 rfl rfl (by kernel_rfl) (by kernel_rfl) ((by first | exact pop_fieldAddr ty50 rfl ty3 (by decide) rfl | exact pop_fieldAddr_raw ty50 rfl ty3 (by decide) rfl)) ?_
              refine ahp 1 rfl rfl (by kernel_rfl) (by kernel_rfl) (pop_load ty3 rfl rfl rfl) ?_
              refine ahp 2 rfl rfl (by kernel_rfl) (by kernel_rfl) (pop_move rfl) ?_
              refine ahp 3 rfl rfl (by kernel_rfl) (by kernel_rfl) (pop_move rfl) ?_
              refine ahp 4 rfl rfl (by kernel_rfl) (by kernel_rfl) (pop_idxraw (j := k) ty37 ty50 rfl rfl rfl (by omega)) ?_
              refine ahp 5 rfl rfl (by kernel_rfl) (by kernel_rfl) ((by first | exact pop_fieldAddr ty50 rfl ty3 (by decide) rfl | exact pop_fieldAddr_raw ty50 rfl ty3 (by decide) rfl)) ?_
              refine ahl 6 rfl rfl (by kernel_rfl) (by kernel_rfl) (by simp) ⟨0, rfl⟩ (fun M hM => by obtain ⟨i, hi⟩ := hM; exact eop_load_arr (i := i) (j := k) (f := 1) (y := eOver ⟨x.Player, x.Worth, rankN W x m⟩) ty3 rfl (by omega) hi (map_get (set_self (rankRTo_get hx))) (.inl ⟨rfl, rfl⟩) ⟨rfl, rfl⟩) ?_
              refine ahp 7 rfl rfl (by kernel_rfl) (by kernel_rfl) (pop_gtr rfl rfl) ?_
              refine ahz (by kernel_rfl) ?_
              refine hw_cond rfl (fun h11 => ?_) (fun h12 => ?_)
              · try simp at h11
                refine hw_reg1 ?_
                refine dp rfl (pop_move rfl) ?_
                refine dp rfl (pop_move rfl) ?_
                refine dp rfl (pop_idxraw (j := k) ty37 ty50 rfl rfl rfl (by omega)) ?_
                refine dp rfl ((by first | exact pop_fieldAddr ty50 rfl ty3 (by decide) rfl | exact pop_fieldAddr_raw ty50 rfl ty3 (by decide) rfl)) ?_
                have hrb := rankN_bd W x m
                refine de rfl (eop_load_arr (i := 0) (j := k) (f := 2) (y := eOver ⟨x.Player, x.Worth, rankN W x m⟩) ty3 rfl (by omega) rfl (map_get (set_self (rankRTo_get hx))) (.inl ⟨rfl, rfl⟩) ?_)
                refine dp rfl (pop_add64 (m := rankN W x m) (n := 1) rfl rfl (by omega) (by omega)) ?_
                refine dp rfl (pop_idxraw (j := k) ty37 ty50 rfl rfl rfl (by omega)) ?_
                refine dp rfl ((by first | exact pop_fieldAddr ty50 rfl ty3 (by decide) rfl | exact pop_fieldAddr_raw ty50 rfl ty3 (by decide) rfl)) ?_
                refine de0 (eop_store_arr (i := 0) (j := k) (f := 2) (y := eOver ⟨x.Player, x.Worth, rankN W x m⟩) (y' := eOver ⟨x.Player, x.Worth, rankN W x m + 1⟩) ty3 rfl (by omega) rfl rfl (map_get (set_self (rankRTo_get hx))) rfl rfl (by simp [hcells]) rfl ?_)
                refine dn ?_
                refine blockQ_n ?_
                refine seqQ_n ?_
                refine hw_reg1 ?_
                refine dp rfl (pop_add64 rfl rfl (by omega) (by omega)) ?_
                refine dp rfl (pop_move rfl) ?_
                refine dn ?_
                exact ⟨m + 1, ⟨by omega, trivial⟩, by dsimp only; omega, ⟨rfl, trivial⟩, (by repeat (first | exact keeps_refl | refine keeps_upd rfl ?_ | refine keeps_loop rfl rfl ?_)), perm_eq (by dsimp only; rw [rankN_yes hy (by omega)]; simp [List.map_set])⟩
              · try simp at h12
                refine hw_skip ?_
                refine blockQ_n ?_
                refine seqQ_n ?_
                refine hw_reg1 ?_
                refine dp rfl (pop_add64 rfl rfl (by omega) (by omega)) ?_
                refine dp rfl (pop_move rfl) ?_
                refine dn ?_
                exact ⟨m + 1, ⟨by omega, trivial⟩, by dsimp only; omega, ⟨rfl, trivial⟩, (by repeat (first | exact keeps_refl | refine keeps_upd rfl ?_ | refine keeps_loop rfl rfl ?_)), perm_eq (by dsimp only; rw [rankN_no hy (by omega)])⟩
            · try simp at h10
              have hnm : W.length ≤ m := by omega
              obtain rfl : m = W.length := by omega
              refine hw_exit ?_
              refine seqQ_x ?_
              refine loopQ_x ?_
              refine blockQ_eq ?_
              refine blockQ_n ?_
              refine seqQ_n ?_
              refine hw_reg1 ?_
              refine dp rfl (pop_add64 rfl rfl (by omega) (by omega)) ?_
              refine dp rfl (pop_move rfl) ?_
              refine dn ?_
              exact ⟨k + 1, ⟨by omega, trivial⟩, by dsimp only; omega, ⟨rfl, trivial⟩, (by repeat (first | exact keeps_refl | refine keeps_upd rfl ?_ | refine keeps_loop rfl rfl ?_)), perm_eq (by dsimp only; rw [rankRTo_succ hx])⟩
        · try simp at h8
          have hnk : W.length ≤ k := by omega
          obtain rfl : k = W.length := by omega
          refine hw_exit ?_
          refine seqQ_x ?_
          refine loopQ_x ?_
          refine blockQ_eq ?_
          refine seqQ_n ?_
          refine hw_reg ?_
          refine dp rfl (pop_move rfl) ?_
          refine dp rfl (pop_assign rfl) ?_
          refine dn ?_
          refine hw_ret ?_
          rw [rankRTo_all]
          exact ⟨_, _, Ghost.sub (Sub.refl _), _, _, rfl, Weak.refl _, _, rfl, rfl⟩

/-- benchwarmer/benchref1.PricesOf$1 -/
theorem c_benchref1_PricesOf_1 {x : Over}  : ConP Tryz.prog 38 [eOver x] (.bool (decide (x.Worth ≤ 0))) := by
  refine Con.of_body Tryz.func38 rfl Tryz.ntmps38 rfl rfl ?_
  refine hw_reg ?_
  refine dp rfl (pop_box rfl rfl) ?_
  refine dp rfl (pop_assign rfl) ?_
  refine dn ?_
  refine hw_reg ?_
  refine dp rfl (pop_fieldAddr ty50 rfl ty3 (by decide) rfl) ?_
  refine dp rfl (pop_load ty3 rfl rfl rfl) ?_
  refine dp rfl (pop_leq rfl rfl) ?_
  refine dp rfl (pop_assign rfl) ?_
  refine dn ?_
  refine hw_ret ?_
  refine ret_p rfl ?_
  rfl

/-- benchwarmer/benchref1.PricesOf$2 -/
theorem c_benchref1_PricesOf_2 {n s : Int} {pos : List Over} {a b : Fin (pos.map (fun q : Over => q.Worth)).length} (hn : 0 ≤ n ∧ n ≤ 20000000) (hw : ∀ w ∈ (pos.map (fun q : Over => q.Worth)), 1 ≤ w ∧ w ≤ 2000000) (hs : 0 < s) : ConP Tryz.prog 40 [eIx a, eIx b, .vptr [.int .i64 n] 0, .vptr [.slice 3 (pos.map eOver)] 0, .vptr [.int .i64 s] 0] (.int .i64 (cmpR n s (pos.map (fun q : Over => q.Worth)) a b)) := by
  have hi : ∀ i : Fin (pos.map (fun q : Over => q.Worth)).length, pos[i.1]? = some (pos.getD i.1 over0) := fun i => getD_some (by have := i.2; simpa using this)
  have hg : ∀ i : Fin (pos.map (fun q : Over => q.Worth)).length, (pos.map (fun q : Over => q.Worth)).getD i.1 0 = (pos.getD i.1 over0).Worth := fun i => by
    rw [List.getD_eq_getElem?_getD, List.getElem?_map, hi i]; rfl
  have hm : ∀ i : Fin (pos.map (fun q : Over => q.Worth)).length, 0 ≤ n * (pos.getD i.1 over0).Worth ∧ n * (pos.getD i.1 over0).Worth ≤ 20000000 * 2000000 := fun i => by
    have h := hw _ (List.mem_map_of_mem (List.mem_of_getElem? (hi i)))
    exact mul_bd hn.1 hn.2 (by omega) h.2
  have hma := hm a
  have hmb := hm b
  refine Con.of_body Tryz.func40 rfl Tryz.ntmps40 rfl rfl ?_
  refine hw_reg ?_
  refine dp rfl (pop_assign rfl) ?_
  refine dn ?_
  refine hw_draw (fun _ => True) [] mixed ?_
  refine ahp 0 rfl rfl (by kernel_rfl) (by kernel_rfl) (pop_load ty3 rfl rfl rfl) ?_
  refine ahp 1 rfl rfl (by kernel_rfl) (by kernel_rfl) (pop_load ty37 rfl rfl rfl) ?_
  refine ahp 2 rfl rfl (by kernel_rfl) (by kernel_rfl) (pop_move rfl) ?_
  refine ahp 3 rfl rfl (by kernel_rfl) (by kernel_rfl) (pop_idx (j := b.1) (a := pos.getD b.1 over0) ty37 ty50 rfl rfl rfl (hi b)) ?_
  refine ahp 4 rfl rfl (by kernel_rfl) (by kernel_rfl) (pop_fieldAddr ty50 rfl ty3 (by decide) rfl) ?_
  refine ahp 5 rfl rfl (by kernel_rfl) (by kernel_rfl) (pop_load ty3 rfl rfl rfl) ?_
  refine ahp 6 rfl rfl (by kernel_rfl) (by kernel_rfl) (pop_mul64 rfl rfl (by omega) (by omega)) ?_
  refine ahp 7 rfl rfl (by kernel_rfl) (by kernel_rfl) (pop_load ty3 rfl rfl rfl) ?_
  refine ahp 8 rfl rfl (by kernel_rfl) (by kernel_rfl) (pop_rem rfl rfl (by omega)) ?_
  refine ahp 9 rfl rfl (by kernel_rfl) (by kernel_rfl) (pop_load ty3 rfl rfl rfl) ?_
  refine ahp 10 rfl rfl (by kernel_rfl) (by kernel_rfl) (pop_load ty37 rfl rfl rfl) ?_
  refine ahp 11 rfl rfl (by kernel_rfl) (by kernel_rfl) (pop_move rfl) ?_
  refine ahp 12 rfl rfl (by kernel_rfl) (by kernel_rfl) (pop_idx (j := a.1) (a := pos.getD a.1 over0) ty37 ty50 rfl rfl rfl (hi a)) ?_
  refine ahp 13 rfl rfl (by kernel_rfl) (by kernel_rfl) (pop_fieldAddr ty50 rfl ty3 (by decide) rfl) ?_
  refine ahp 14 rfl rfl (by kernel_rfl) (by kernel_rfl) (pop_load ty3 rfl rfl rfl) ?_
  refine ahp 15 rfl rfl (by kernel_rfl) (by kernel_rfl) (pop_mul64 rfl rfl (by omega) (by omega)) ?_
  refine ahp 16 rfl rfl (by kernel_rfl) (by kernel_rfl) (pop_load ty3 rfl rfl rfl) ?_
  refine ahp 17 rfl rfl (by kernel_rfl) (by kernel_rfl) (pop_rem rfl rfl (by omega)) ?_
  refine ahp 18 rfl rfl (by kernel_rfl) (by kernel_rfl) (pop_call ca41 rfl (WeakL.refl _) c_cmp_Compare_int) ?_
  refine ahp 19 rfl rfl (by kernel_rfl) (by kernel_rfl) (pop_assign rfl) ?_
  refine ahz (by kernel_rfl) ?_
  refine hw_ret ?_
  refine ret_p rfl ?_
  show HVal.int .i64 _ = _
  rw [cmpR, hg a, hg b]

set_option maxHeartbeats 2000000 in
/-- benchwarmer/benchref1.PricesOf -/
theorem c_benchref1_PricesOf {l : List Asset} {p : List HL.Place} {teams budget : Int} (hl0 : l.length ≤ 12) (hp : p.length ≤ 10) (hm : ∀ x ∈ p, 0 ≤ x.Many ∧ x.Many ≤ 12) (ht : 1 ≤ teams ∧ teams ≤ 20) (hv : ∀ x ∈ l, -1000000 ≤ x.Value ∧ x.Value ≤ 1000000) (ho : (overR l p teams).length ≤ 12) (hb : 0 ≤ budget ∧ budget ≤ 1000000) (hr : ∀ x ∈ rankedR (isort byWorthV (overR l p teams)), x.Worth ≤ 2000000) : ConP Tryz.prog 16 [eAssets l, ePlaces p, .int .i64 teams, .int .i64 budget] (.tup [ePairs (pricesL (posW (rankedR (isort byWorthV (overR l p teams)))) (teams * budget - ((posW (rankedR (isort byWorthV (overR l p teams)))).length : Int))), .int .i64 (pricesE (posW (rankedR (isort byWorthV (overR l p teams)))) (teams * budget - ((posW (rankedR (isort byWorthV (overR l p teams)))).length : Int)))]) := by
  refine Con.of_body Tryz.func16 rfl Tryz.ntmps16 rfl rfl ?_
  refine hw_reg ?_
  refine dp rfl (pop_assign rfl) ?_
  refine dp rfl (pop_assign rfl) ?_
  refine dn ?_
  refine hw_reg ?_
  refine dp rfl (pop_move rfl) ?_
  refine dp rfl (pop_move rfl) ?_
  refine dp rfl (pop_move rfl) ?_
  refine de rfl (eop_calla ca21 rfl (WeakL.refl _) (c_benchref1_WorthsFor_a hl0 hp hm ht hv ho) fun v28 => ?_)
  first
  | refine de rfl (eop_callx (i := 0) ca37 rfl (WeakL.refl _) rfl (c_slices_DeleteFunc_api_Over_api_Over (l := rankedR (isort byWorthV (overR l p teams))) (p := fun x => decide (x.Worth ≤ 0)) (caps := []) ca38 (fun x => c_benchref1_PricesOf_1) (by rw [rankedR_len, isort_len]; omega)) ?_)
  | refine de rfl (eop_callx (i := 1) ca37 rfl (WeakL.refl _) rfl (c_slices_DeleteFunc_api_Over_api_Over (l := rankedR (isort byWorthV (overR l p teams))) (p := fun x => decide (x.Worth ≤ 0)) (caps := []) ca38 (fun x => c_benchref1_PricesOf_1) (by rw [rankedR_len, isort_len]; omega)) ?_)
  | refine de rfl (eop_callx (i := 2) ca37 rfl (WeakL.refl _) rfl (c_slices_DeleteFunc_api_Over_api_Over (l := rankedR (isort byWorthV (overR l p teams))) (p := fun x => decide (x.Worth ≤ 0)) (caps := []) ca38 (fun x => c_benchref1_PricesOf_1) (by rw [rankedR_len, isort_len]; omega)) ?_)
  | refine de rfl (eop_callx (i := 3) ca37 rfl (WeakL.refl _) rfl (c_slices_DeleteFunc_api_Over_api_Over (l := rankedR (isort byWorthV (overR l p teams))) (p := fun x => decide (x.Worth ≤ 0)) (caps := []) ca38 (fun x => c_benchref1_PricesOf_1) (by rw [rankedR_len, isort_len]; omega)) ?_)
  rintro _ _ ⟨u29, rfl, rfl⟩
  refine de rfl (eop_alloc ty37 rfl fun b10 => ?_)
  first
  | refine de0 (eop_store (i := 0) ty37 rfl rfl rfl rfl rfl (Nat.le_of_ble_eq_true rfl) ?_)
  | refine de0 (eop_store (i := 1) ty37 rfl rfl rfl rfl rfl (Nat.le_of_ble_eq_true rfl) ?_)
  | refine de0 (eop_store (i := 2) ty37 rfl rfl rfl rfl rfl (Nat.le_of_ble_eq_true rfl) ?_)
  | refine de0 (eop_store (i := 3) ty37 rfl rfl rfl rfl rfl (Nat.le_of_ble_eq_true rfl) ?_)
  refine dn ?_
  first
  | refine hw_ghost (Ghost.fcell (i := 1) (k := 0) (j := 0) rfl rfl rfl) ?_
  | refine hw_ghost (Ghost.fcell (i := 0) (k := 0) (j := 0) rfl rfl rfl) ?_
  refine hw_ghost (Ghost.fc0 10 rfl) ?_
  rw [posW_del]
  generalize hpos : (posW (rankedR (isort byWorthV (overR l p teams)))) = pos at *
  have hpl : pos.length ≤ 12 := by rw [← hpos]; exact Nat.le_trans (posW_len _) (by rw [rankedR_len, isort_len]; exact ho)
  have hw : ∀ w ∈ (pos.map (fun q : Over => q.Worth)), 1 ≤ w ∧ w ≤ 2000000 := by rw [← hpos]; exact posW_bd hr
  have hbt := mul_bd (a := teams) (b := budget) (A := 20) (B := 1000000) (by omega) ht.2 hb.1 hb.2
  refine hw_seq ?_
  refine hw_reg ?_
  refine dp rfl (pop_load ty37 rfl rfl rfl) ?_
  refine dp rfl (pop_lenm ty37 rfl) ?_
  refine dp rfl (pop_eql rfl rfl) ?_
  refine dn ?_
  refine hw_cond rfl (fun h1 => ?_) (fun h2 => ?_)
  · try simp at h1
    refine hw_reg ?_
    refine dp rfl (pop_assign rfl) ?_
    refine dp rfl (pop_assign rfl) ?_
    refine dn ?_
    refine hw_ret ?_
    first
    | (have hq : pos.length = 0 := by simpa using h1
       rw [(pR4 hq).1, (pR4 hq).2]; exact ret_w rfl (weak_tup2 (weak_nil 2) (Weak.refl _)))
    | (have hq : teams * budget - (pos.length : Int) < 0 := by simpa using h3
       rw [(pR3 (by omega) hq).1, (pR3 (by omega) hq).2]; exact ret_w rfl (weak_tup2 (weak_nil 2) (Weak.refl _)))
    | (rw [(pR5 (by omega) (by omega)).1, (pR5 (by omega) (by omega)).2, pricesOf, hS]
       refine ret_fa (M := []) 8 rfl rfl ?_
       rw [List.take_of_length_le (by omega)]; rfl)
  · try simp at h2
    refine hw_skip ?_
    refine seqQ_n ?_
    refine hw_reg ?_
    refine dp rfl (pop_move rfl) ?_
    refine dp rfl (pop_move rfl) ?_
    refine dp rfl (pop_mul64 rfl rfl (by omega) (by omega)) ?_
    refine dp rfl (pop_load ty37 rfl rfl rfl) ?_
    refine dp rfl (pop_lenm ty37 rfl) ?_
    refine dp rfl (pop_sub64 rfl rfl (by omega) (by omega)) ?_
    refine de rfl (eop_alloc ty3 rfl fun b11 => ?_)
    refine de0 (eop_storew ty3 rfl rfl rfl rfl rfl ?_)
    refine dn ?_
    refine hw_ghost (Ghost.fc0 11 rfl) ?_
    refine hw_seq ?_
    refine hw_reg ?_
    refine dp rfl (pop_load ty3 rfl rfl rfl) ?_
    refine dp rfl (pop_lss rfl rfl) ?_
    refine dn ?_
    refine hw_cond rfl (fun h3 => ?_) (fun h4 => ?_)
    · try simp at h3
      refine hw_reg ?_
      refine dp rfl (pop_assign rfl) ?_
      refine dp rfl (pop_assign rfl) ?_
      refine dn ?_
      refine hw_ret ?_
      first
      | (have hq : pos.length = 0 := by simpa using h1
         rw [(pR4 hq).1, (pR4 hq).2]; exact ret_w rfl (weak_tup2 (weak_nil 2) (Weak.refl _)))
      | (have hq : teams * budget - (pos.length : Int) < 0 := by simpa using h3
         rw [(pR3 (by omega) hq).1, (pR3 (by omega) hq).2]; exact ret_w rfl (weak_tup2 (weak_nil 2) (Weak.refl _)))
      | (rw [(pR5 (by omega) (by omega)).1, (pR5 (by omega) (by omega)).2, pricesOf, hS]
         refine ret_fa (M := []) 8 rfl rfl ?_
         rw [List.take_of_length_le (by omega)]; rfl)
    · try simp at h4
      refine hw_skip ?_
      refine seqQ_n ?_
      have hl1 : 1 ≤ pos.length := by
        rcases Nat.eq_zero_or_pos pos.length with h0 | h0
        · exfalso; simp_all
        · exact h0
      generalize hn1 : teams * budget - (pos.length : Int) = n at *
      have hn : 0 ≤ n ∧ n ≤ 20000000 := by omega
      obtain ⟨ws, hws⟩ : ∃ ws : List Int, pos.map (fun q : Over => q.Worth) = ws := ⟨_, rfl⟩
      have hwl : ws.length = pos.length := by rw [← hws]; simp
      rw [hws] at hw
      have hl : 1 ≤ ws.length ∧ ws.length ≤ 12 := by omega
      have hs0 : (ws.length : Int) ≤ ws.sum := sum_pos fun w hq => (hw w hq).1
      have hsp : 0 < ws.sum := by omega
      have hsb : ∀ k, 0 ≤ (ws.take k).sum ∧ (ws.take k).sum ≤ 2000000 * ((ws.take k).length : Int) := fun k => sum_bd fun w hq => by have := hw w (List.mem_of_mem_take hq); omega
      have hpb : ∀ y ∈ ws.map (partS n ws.sum), 0 ≤ y ∧ y ≤ 40000000000000 := fun y hy => by
        obtain ⟨w, hq, rfl⟩ := List.mem_map.1 hy
        have h1 := hw w hq
        have h2 := part_bd (n := n) (s := ws.sum) (w := w) hn.1 hsp (by omega)
        have h3 := mul_bd (a := n) (b := w) (A := 20000000) (B := 2000000) hn.1 hn.2 (by omega) (by omega)
        omega
      have hps : ∀ k, 0 ≤ ((ws.take k).map (partS n ws.sum)).sum ∧ ((ws.take k).map (partS n ws.sum)).sum ≤ 40000000000000 * (((ws.take k).map (partS n ws.sum)).length : Int) := fun k => sum_bd fun y hy => hpb y (by rw [List.map_take] at hy; exact List.mem_of_mem_take hy)
      have hov := overS_bd (n := n) (ws := ws) hn.1 hl.1 (fun w hq => (hw w hq).1)
      have hoe : overS n ws = n - (ws.map (partS n ws.sum)).sum := rfl
      refine hw_reg ?_
      refine de rfl (eop_alloc ty3 rfl fun b12 => ?_)
      first
      | refine de0 (eop_store (i := 0) ty3 rfl rfl rfl rfl rfl (Nat.le_of_ble_eq_true rfl) ?_)
      | refine de0 (eop_store (i := 1) ty3 rfl rfl rfl rfl rfl (Nat.le_of_ble_eq_true rfl) ?_)
      | refine de0 (eop_store (i := 2) ty3 rfl rfl rfl rfl rfl (Nat.le_of_ble_eq_true rfl) ?_)
      | refine de0 (eop_store (i := 3) ty3 rfl rfl rfl rfl rfl (Nat.le_of_ble_eq_true rfl) ?_)
      refine dn ?_
      refine hw_seq ?_
      refine hw_reg ?_
      refine dp rfl (pop_load ty37 rfl rfl rfl) ?_
      refine dp rfl (pop_lenm ty37 rfl) ?_
      refine dp rfl (pop_move rfl) ?_
      refine dn ?_
      refine hw_block ?_
      refine hw_loopw [14, 43, 44, 45, 46, 47, 48, 49, 50, 51] (fun (k : Nat) => [(43, .int .i64 k)]) (fun (k : Nat) => [.cells b12 [.int .i64 (ws.take k).sum]]) (fun (k : Nat) => k ≤ pos.length ∧ (True)) (fun (k : Nat) => pos.length - k) (0) ?_ ?_ ?_ ?_
      · exact ⟨Nat.zero_le _, by simp_all⟩
      · exact ⟨rfl, trivial⟩
      · exact perm_eq rfl
      · intro k hinv
        obtain ⟨hk, -⟩ := hinv
        refine hw_reg ?_
        refine dp rfl (pop_lss rfl rfl) ?_
        refine dn ?_
        refine hw_seq ?_
        refine hw_cond rfl (fun h5 => ?_) (fun h6 => ?_)
        · try simp at h5
          obtain ⟨x, hx⟩ : ∃ x, pos[k]? = some x := ⟨_, List.getElem?_eq_getElem h5⟩
          have hdx := drop_cons hx
          refine hw_skip ?_
          refine seqQ_n ?_
          refine hw_seq ?_
          refine hw_block ?_
          refine hw_reg ?_
          refine dp rfl (pop_idx ty37 ty50 rfl rfl rfl (by first | assumption | simp_all)) ?_
          refine dp rfl (pop_loadw ty50 rfl rfl rfl rfl) ?_
          refine de rfl (eop_alloc ty50 rfl fun b14 => ?_)
          refine de0 (eop_storew ty50 rfl rfl rfl rfl rfl ?_)
          refine dn ?_
          refine hw_ghost (Ghost.fc0 14 rfl) ?_
          refine hw_reg1 ?_
          first
          | refine de rfl (eop_load (i := 0) ty3 rfl rfl (.inl ⟨rfl, rfl⟩) ?_)
          | refine de rfl (eop_load (i := 1) ty3 rfl rfl (.inl ⟨rfl, rfl⟩) ?_)
          | refine de rfl (eop_load (i := 2) ty3 rfl rfl (.inl ⟨rfl, rfl⟩) ?_)
          | refine de rfl (eop_load (i := 3) ty3 rfl rfl (.inl ⟨rfl, rfl⟩) ?_)
          refine dp rfl (pop_fieldAddr ty50 rfl ty3 (by decide) rfl) ?_
          refine dp rfl (pop_load ty3 rfl rfl rfl) ?_
          have hxw : ws[k]? = some x.Worth := by rw [← hws, List.getElem?_map, hx]; rfl
          have hs1 := hsb k
          have hs2 : (ws.take k).length ≤ 12 := by simp; omega
          have hwx := hw _ (List.mem_of_getElem? hxw)
          refine dp rfl (pop_add64 rfl rfl (by omega) (by omega)) ?_
          first
          | refine de0 (eop_store (i := 0) ty3 rfl rfl rfl rfl rfl (Nat.le_of_ble_eq_true rfl) ?_)
          | refine de0 (eop_store (i := 1) ty3 rfl rfl rfl rfl rfl (Nat.le_of_ble_eq_true rfl) ?_)
          | refine de0 (eop_store (i := 2) ty3 rfl rfl rfl rfl rfl (Nat.le_of_ble_eq_true rfl) ?_)
          | refine de0 (eop_store (i := 3) ty3 rfl rfl rfl rfl rfl (Nat.le_of_ble_eq_true rfl) ?_)
          refine dn ?_
          refine blockQ_n ?_
          refine seqQ_n ?_
          refine hw_reg1 ?_
          refine dp rfl (pop_add64 rfl rfl (by omega) (by omega)) ?_
          refine dp rfl (pop_move rfl) ?_
          refine dn ?_
          refine ⟨k + 1, ?_, ?_, ⟨rfl, trivial⟩, (by repeat (first | exact keeps_refl | refine keeps_upd rfl ?_ | refine keeps_loop rfl rfl ?_)), perm_eq (by show [MObj.cells b12 [HVal.int .i64 ((ws.take k).sum + x.Worth)]] = _; dsimp only; rw [take_snoc' hxw, List.sum_append]; simp)⟩
          · exact ⟨by omega, trivial⟩
          · dsimp only; omega
        · try simp at h6
          have hnk : pos.length ≤ k := by omega
          obtain rfl : k = pos.length := by omega
          refine hw_ghost (Ghost.fc0 12 rfl) ?_
          rw [← hwl, List.take_length, hwl]
          refine hw_exit ?_
          refine seqQ_x ?_
          refine loopQ_x ?_
          refine blockQ_eq ?_
          refine seqQ_n ?_
          refine hw_join [15, 16, 17, 52, 53, 54, 55, 56, 57, 58] (fun (q : Nat × Nat) => [(15, .raw (.slice (some ⟨q.1, 0, none⟩) pos.length pos.length)), (16, .raw (.slice (some ⟨q.2, 0, none⟩) pos.length pos.length)), (17, .int .i64 n)]) (fun (q : Nat × Nat) => [.arr (.slice (some ⟨q.1, 0, none⟩) pos.length pos.length) 1 (List.replicate pos.length (ofVal (.int .i64 0))), .arr (.slice (some ⟨q.2, 0, none⟩) pos.length pos.length) 1 (List.replicate pos.length (ofVal (.int .i64 0)))]) (fun (q : Nat × Nat) => True) ?_ ?_
          · skip
            refine hw_draw1 (fun _ => True) [] mixed ?_
            refine ahp 0 rfl rfl (by kernel_rfl) (by kernel_rfl) (pop_load ty37 rfl rfl rfl) ?_
            refine ahp 1 rfl rfl (by kernel_rfl) (by kernel_rfl) (pop_lenm ty37 rfl) ?_
            refine ahp 3 rfl rfl (by kernel_rfl) (by kernel_rfl) (pop_load ty37 rfl rfl rfl) ?_
            refine ahp 4 rfl rfl (by kernel_rfl) (by kernel_rfl) (pop_lenm ty37 rfl) ?_
            refine ahp 6 rfl rfl (by kernel_rfl) (by kernel_rfl) (pop_load ty3 rfl rfl rfl) ?_
            refine ahe2 2 5 rfl rfl (by kernel_rfl) ?_ ?_
            · skip
              refine hop_e rfl (eop_make (n := pos.length) ty22 ty3 rfl rfl rfl rfl rfl (by omega) fun b54 => ?_)
              refine ⟨fun _ => .inl trivial, ?_⟩
              refine ahp 7 rfl rfl (by kernel_rfl) (by kernel_rfl) (pop_assign rfl) ?_
              refine ahe 5 rfl (by kernel_rfl) ?_
              refine hop_e rfl (eop_make (n := pos.length) ty22 ty3 rfl rfl rfl rfl rfl (by omega) fun b57 => ?_)
              refine ⟨fun _ => .inl trivial, ?_⟩
              refine ahp 8 rfl rfl (by kernel_rfl) (by kernel_rfl) (pop_assign rfl) ?_
              refine ahp 9 rfl rfl (by kernel_rfl) (by kernel_rfl) (pop_assign rfl) ?_
              refine ahz (by kernel_rfl) ?_
              refine ⟨(b54, b57), ?_, ⟨rfl, rfl, rfl, trivial⟩, (by repeat (first | exact keeps_refl | refine keeps_upd rfl ?_ | refine keeps_loop rfl rfl ?_)), ?_⟩
              · trivial
              · repeat (first | exact List.Perm.nil | refine permTo 0 rfl ?_ | refine permTo 1 rfl ?_ | refine permTo 2 rfl ?_ | refine permTo 3 rfl ?_ | (refine permToE 0 rfl ?hq ?_; (case hq => simp [setL, hcells]; done)) | (refine permToE 1 rfl ?hq ?_; (case hq => simp [setL, hcells]; done)) | (refine permToE 2 rfl ?hq ?_; (case hq => simp [setL, hcells]; done)) | (refine permToE 3 rfl ?hq ?_; (case hq => simp [setL, hcells]; done)) | fail)
            · skip
              refine hop_e rfl (eop_make (n := pos.length) ty22 ty3 rfl rfl rfl rfl rfl (by omega) fun b57 => ?_)
              refine ⟨fun _ => .inl trivial, ?_⟩
              refine ahe 2 rfl (by kernel_rfl) ?_
              refine hop_e rfl (eop_make (n := pos.length) ty22 ty3 rfl rfl rfl rfl rfl (by omega) fun b54 => ?_)
              refine ⟨fun _ => .inl trivial, ?_⟩
              refine ahp 7 rfl rfl (by kernel_rfl) (by kernel_rfl) (pop_assign rfl) ?_
              refine ahp 8 rfl rfl (by kernel_rfl) (by kernel_rfl) (pop_assign rfl) ?_
              refine ahp 9 rfl rfl (by kernel_rfl) (by kernel_rfl) (pop_assign rfl) ?_
              refine ahz (by kernel_rfl) ?_
              refine ⟨(b54, b57), ?_, ⟨rfl, rfl, rfl, trivial⟩, (by repeat (first | exact keeps_refl | refine keeps_upd rfl ?_ | refine keeps_loop rfl rfl ?_)), ?_⟩
              · trivial
              · repeat (first | exact List.Perm.nil | refine permTo 0 rfl ?_ | refine permTo 1 rfl ?_ | refine permTo 2 rfl ?_ | refine permTo 3 rfl ?_ | (refine permToE 0 rfl ?hq ?_; (case hq => simp [setL, hcells]; done)) | (refine permToE 1 rfl ?hq ?_; (case hq => simp [setL, hcells]; done)) | (refine permToE 2 rfl ?hq ?_; (case hq => simp [setL, hcells]; done)) | (refine permToE 3 rfl ?hq ?_; (case hq => simp [setL, hcells]; done)) | fail)
          · intro q hinv
            obtain - := hinv
            obtain ⟨b8, b9⟩ := q
            refine hw_seq ?_
            refine hw_reg ?_
            refine dp rfl (pop_load ty37 rfl rfl rfl) ?_
            refine dp rfl (pop_lenm ty37 rfl) ?_
            refine dp rfl (pop_move rfl) ?_
            refine dn ?_
            refine hw_block ?_
            refine hw_loopw [17, 18, 19, 61, 62, 63, 64, 65, 66, 67, 68, 69, 70, 71, 72, 73, 74, 75, 76, 77, 78, 79, 80, 81, 82, 83, 84, 85] (fun (k : Nat) => [(61, .int .i64 k), (17, .int .i64 (n - ((ws.take k).map (partS n ws.sum)).sum))]) (fun (k : Nat) => [.arr (.slice (some ⟨b8, 0, none⟩) pos.length pos.length) 1 ((toldTo (ws.map (partS n ws.sum)) k).map (HVal.int .i64)), .arr (.slice (some ⟨b9, 0, none⟩) pos.length pos.length) 1 ((toldTo (idxL pos.length) k).map (HVal.int .i64))]) (fun (k : Nat) => k ≤ pos.length ∧ (True)) (fun (k : Nat) => pos.length - k) (0) ?_ ?_ ?_ ?_
            · exact ⟨Nat.zero_le _, by simp_all⟩
            · exact ⟨rfl, some_int (by simp), trivial⟩
            · exact perm_eq (by simp [toldTo_zero, idxL_len, hwl, ofVal, ofVal1])
            · intro k hinv
              obtain ⟨hk, -⟩ := hinv
              refine hw_reg ?_
              refine dp rfl (pop_lss rfl rfl) ?_
              refine dn ?_
              refine hw_seq ?_
              refine hw_cond rfl (fun h7 => ?_) (fun h8 => ?_)
              · try simp at h7
                obtain ⟨x, hx⟩ : ∃ x, pos[k]? = some x := ⟨_, List.getElem?_eq_getElem h7⟩
                have hdx := drop_cons hx
                refine hw_skip ?_
                refine seqQ_n ?_
                refine hw_seq ?_
                refine hw_block ?_
                refine hw_reg ?_
                refine dp rfl (pop_move rfl) ?_
                refine dp rfl (pop_idx ty37 ty50 rfl rfl rfl (by first | assumption | simp_all)) ?_
                refine dp rfl (pop_loadw ty50 rfl rfl rfl rfl) ?_
                refine de rfl (eop_alloc ty50 rfl fun b19 => ?_)
                refine dp rfl (pop_assign rfl) ?_
                refine de0 (eop_storew ty50 rfl rfl rfl rfl rfl ?_)
                refine dn ?_
                refine hw_ghost (Ghost.fc0 19 rfl) ?_
                refine hw_reg ?_
                refine dp rfl (pop_move rfl) ?_
                refine dp rfl (pop_move rfl) ?_
                refine dp rfl (pop_move rfl) ?_
                refine dp rfl (pop_move rfl) ?_
                refine dp rfl (pop_load ty3 rfl rfl rfl) ?_
                refine dp rfl (pop_fieldAddr ty50 rfl ty3 (by decide) rfl) ?_
                refine dp rfl (pop_load ty3 rfl rfl rfl) ?_
                have hxw : ws[k]? = some x.Worth := by rw [← hws, List.getElem?_map, hx]; rfl
                have hwx := hw _ (List.mem_of_getElem? hxw)
                have hmx := mul_bd (a := n) (b := x.Worth) (A := 20000000) (B := 2000000) hn.1 hn.2 (by omega) (by omega)
                have hpx := hpb (partS n ws.sum x.Worth) (List.mem_map_of_mem (List.mem_of_getElem? hxw))
                have hpk := hps k
                have hpl1 : ((ws.take k).map (partS n ws.sum)).length ≤ 12 := by simp; omega
                have hgp : ((ws.map (partS n ws.sum)))[k]? = some (partS n ws.sum x.Worth) := by rw [List.getElem?_map, hxw]; rfl
                refine dp rfl (pop_mul64 rfl rfl (by omega) (by omega)) ?_
                refine dp rfl (pop_load ty3 rfl rfl rfl) ?_
                refine dp rfl (pop_quo64 rfl rfl (by omega) (by omega) (by omega)) ?_
                refine dp rfl (pop_move rfl) ?_
                refine dp rfl (pop_idxraw (j := k) ty22 ty3 rfl rfl rfl (by omega)) ?_
                refine de0 (eop_store_elw (f := (HVal.int .i64)) (i := 0) (j := k) (y := 0) (y' := partS n ws.sum x.Worth) ty3 rfl rfl rfl rfl (toldTo_get (by simp; omega)) rfl rfl rfl ?_)
                refine dp rfl (pop_idxraw (j := k) ty22 ty3 rfl rfl rfl (by omega)) ?_
                refine de0 (eop_store_elw (f := (HVal.int .i64)) (i := 1) (j := k) (y := 0) (y' := (k : Int)) ty3 rfl rfl rfl rfl (toldTo_get (by rw [idxL_len]; omega)) rfl rfl rfl ?_)
                refine dn ?_
                refine hw_reg1 ?_
                refine dp rfl (pop_move rfl) ?_
                refine dp rfl (pop_move rfl) ?_
                refine dp rfl (pop_move rfl) ?_
                refine dp rfl (pop_idxraw (j := k) ty22 ty3 rfl rfl rfl (by omega)) ?_
                refine de rfl (eop_load_el (i := 0) (j := k) 0 ty3 rfl rfl rfl (set_self (toldTo_get (by simp; omega))) rfl rfl ?_)
                refine dp rfl (pop_sub64 rfl rfl (by omega) (by omega)) ?_
                refine dp rfl (pop_assign rfl) ?_
                refine dn ?_
                refine blockQ_n ?_
                refine seqQ_n ?_
                refine hw_reg1 ?_
                refine dp rfl (pop_add64 rfl rfl (by omega) (by omega)) ?_
                refine dp rfl (pop_move rfl) ?_
                refine dn ?_
                exact ⟨k + 1, ⟨by omega, trivial⟩, by dsimp only; omega, ⟨rfl, some_int (by rw [take_snoc' hxw, List.map_append, List.sum_append]; simp; omega), trivial⟩, (by repeat (first | exact keeps_refl | refine keeps_upd rfl ?_ | refine keeps_loop rfl rfl ?_)), perm_eq (by dsimp only; rw [toldTo_succ hgp, toldTo_succ (idxL_get (by omega))]; rfl)⟩
              · try simp at h8
                have hnk : pos.length ≤ k := by omega
                obtain rfl : k = pos.length := by omega
                refine hw_exit ?_
                refine seqQ_x ?_
                refine loopQ_x ?_
                refine blockQ_eq ?_
                refine seqQ_n ?_
                rw [← hwl, List.take_length, hwl]
                refine hw_ghost (Ghost.of_eq (M' := [.arr (.slice (some ⟨b8, 0, none⟩) pos.length pos.length) 1 ((ws.map (partS n ws.sum)).map (HVal.int .i64)), .arr (.slice (some ⟨b9, 0, none⟩) pos.length pos.length) 1 ((List.finRange (pos.map (fun q : Over => q.Worth)).length).map eIx)]) (by rw [toldTo_eq (l := (ws.map (partS n ws.sum))) (by simp; omega), toldTo_eq (l := idxL pos.length) (idxL_len _).symm, ← hwl, idxL_fin, hws])) ?_
                refine hw_reg ?_
                refine dp rfl (pop_move rfl) ?_
                refine dp rfl (pop_makeFunc rfl rfl) ?_
                subst hws
                refine de rfl (eop_callx (i := 1) ca39 rfl (WeakL.refl _) rfl (c_slices_SortStableFunc_int_int (l := List.finRange (pos.map (fun q : Over => q.Worth)).length) (c := cmpR n (pos.map (fun q : Over => q.Worth)).sum (pos.map (fun q : Over => q.Worth))) (caps := [.vptr [.int .i64 n] 0, .vptr [.slice 3 (pos.map eOver)] 0, .vptr [.int .i64 (pos.map (fun q : Over => q.Worth)).sum] 0]) ca40 (fun x y => c_benchref1_PricesOf_2 hn hw hsp) (by simp; omega)) ?_)
                rintro _ _ ⟨rfl, rfl⟩
                refine dn ?_
                first
                | refine hw_ghost (Ghost.fa0 16 rfl) ?_
                | refine hw_ghost (Ghost.fa1 16 rfl) ?_
                refine hw_seq ?_
                refine hw_reg ?_
                refine dp rfl (pop_move rfl) ?_
                refine dp rfl (pop_move rfl) ?_
                refine dp rfl (pop_slicem (es := orderL n (pos.map (fun q : Over => q.Worth))) (f := eIx) (h := (overS n (pos.map (fun q : Over => q.Worth))).toNat) ty22 ty3 rfl rfl ⟨_, _, rfl, by omega⟩ (by omega) (by rw [orderL_len]; omega)) ?_
                refine dp rfl (pop_lenm ty22 rfl) ?_
                refine dp rfl (pop_move rfl) ?_
                refine dn ?_
                generalize hO : (orderL n (pos.map (fun q : Over => q.Worth))).take (overS n (pos.map (fun q : Over => q.Worth))).toNat = O
                have hOl : O.length ≤ 12 := by rw [← hO]; simp [orderL_len]; omega
                refine hw_block ?_
                refine hw_loopw [21, 93, 94, 95, 96, 97, 98, 99, 100, 101, 102, 103] (fun (k : Nat) => [(93, .int .i64 k)]) (fun (k : Nat) => [.arr (.slice (some ⟨b8, 0, none⟩) pos.length pos.length) 1 ((bumps ((pos.map (fun q : Over => q.Worth)).map (partS n (pos.map (fun q : Over => q.Worth)).sum)) (O.take k)).map (HVal.int .i64))]) (fun (k : Nat) => k ≤ O.length ∧ (True)) (fun (k : Nat) => O.length - k) (0) ?_ ?_ ?_ ?_
                · exact ⟨Nat.zero_le _, by simp_all⟩
                · exact ⟨rfl, trivial⟩
                · exact perm_eq (by simp [bumps])
                · intro k hinv
                  obtain ⟨hk, -⟩ := hinv
                  refine hw_reg ?_
                  refine dp rfl (pop_lss rfl rfl) ?_
                  refine dn ?_
                  refine hw_seq ?_
                  refine hw_cond rfl (fun h9 => ?_) (fun h10 => ?_)
                  · try simp at h9
                    obtain ⟨x, hx⟩ : ∃ x, O[k]? = some x := ⟨_, List.getElem?_eq_getElem h9⟩
                    have hdx := drop_cons hx
                    refine hw_skip ?_
                    refine seqQ_n ?_
                    refine hw_seq ?_
                    refine hw_block ?_
                    refine hw_reg ?_
                    refine dp rfl (pop_idx ty22 ty3 rfl rfl rfl (by first | assumption | simp_all)) ?_
                    refine dp rfl (pop_load ty3 rfl rfl rfl) ?_
                    refine dp rfl (pop_assign rfl) ?_
                    refine dn ?_
                    refine hw_reg1 ?_
                    refine dp rfl (pop_move rfl) ?_
                    refine dp rfl (pop_move rfl) ?_
                    refine dp rfl (pop_idxraw (j := x.1) ty22 ty3 rfl rfl rfl (by have := x.2; omega)) ?_
                    have hg : (bumps ((pos.map (fun q : Over => q.Worth)).map (partS n (pos.map (fun q : Over => q.Worth)).sum)) (O.take k))[x.1]? = some ((bumps ((pos.map (fun q : Over => q.Worth)).map (partS n (pos.map (fun q : Over => q.Worth)).sum)) (O.take k)).getD x.1 0) := getD_some (by rw [bumps_len]; exact Nat.lt_of_lt_of_eq x.2 (by simp))
                    have hgb := bumps_bd (O.take k) hpb (by omega) _ (List.mem_of_getElem? hg)
                    have hol : (O.take k).length ≤ 12 := by simp; omega
                    refine de rfl (eop_load_el (i := 0) (j := x.1) 0 ty3 rfl rfl rfl hg rfl rfl ?_)
                    refine dp rfl (pop_add64 rfl rfl (by omega) (by omega)) ?_
                    refine dp rfl (pop_idxraw (j := x.1) ty22 ty3 rfl rfl rfl (by have := x.2; omega)) ?_
                    refine de0 (eop_store_elw (f := (HVal.int .i64)) (i := 0) (j := x.1) (y' := (bumps ((pos.map (fun q : Over => q.Worth)).map (partS n (pos.map (fun q : Over => q.Worth)).sum)) (O.take k)).getD x.1 0 + 1) ty3 rfl rfl rfl rfl hg rfl rfl rfl ?_)
                    refine dn ?_
                    refine blockQ_n ?_
                    refine seqQ_n ?_
                    refine hw_reg1 ?_
                    refine dp rfl (pop_add64 rfl rfl (by omega) (by omega)) ?_
                    refine dp rfl (pop_move rfl) ?_
                    refine dn ?_
                    refine ⟨k + 1, ?_, ?_, ⟨rfl, trivial⟩, (by repeat (first | exact keeps_refl | refine keeps_upd rfl ?_ | refine keeps_loop rfl rfl ?_)), perm_eq (by dsimp only; rw [bumps_snoc _ hx]; rfl)⟩
                    · exact ⟨by omega, trivial⟩
                    · dsimp only; omega
                  · try simp at h10
                    have hnk : O.length ≤ k := by omega
                    obtain rfl : k = O.length := by omega
                    rw [List.take_length, ← hO, ← sharedL]
                    refine hw_ghost (Ghost.fa0 15 rfl) ?_
                    have hsl := sharedL_len n (pos.map (fun q : Over => q.Worth))
                    have hsb1 := sharedL_bd hn hw hl
                    generalize hS : sharedL n (pos.map (fun q : Over => q.Worth)) = S at hsl hsb1 ⊢
                    refine hw_exit ?_
                    refine seqQ_x ?_
                    refine loopQ_x ?_
                    refine blockQ_eq ?_
                    refine seqQ_n ?_
                    refine hw_reg ?_
                    refine dp rfl (pop_assign rfl) ?_
                    refine dn ?_
                    refine hw_ghost (Ghost.arr_nil 2) ?_
                    refine hw_seq ?_
                    refine hw_reg ?_
                    refine dp rfl (pop_load ty37 rfl rfl rfl) ?_
                    refine dp rfl (pop_lenm ty37 rfl) ?_
                    refine dp rfl (pop_move rfl) ?_
                    refine dn ?_
                    refine hw_block ?_
                    refine hw_loopw2 [22, 23, 24, 106, 107, 108, 109, 110, 111, 112, 113, 114, 115, 116, 117, 118, 119, 120, 121, 122, 123] (fun (k : Nat) (u : Value) => [(106, .int .i64 k), (22, .raw u)]) (fun (k : Nat) (u : Value) => [.arr u 2 ((pricePairs pos (S.take k)).map ePair)]) (fun (k : Nat) (u : Value) => k ≤ pos.length ∧ (True)) (fun (k : Nat) (u : Value) => pos.length - k) (0) (.slice none 0 0) ?_ ?_ ?_ ?_
                    · exact ⟨Nat.zero_le _, by simp_all⟩
                    · exact ⟨rfl, rfl, trivial⟩
                    · exact perm_eq (by simp [pricePairs])
                    · intro k u hinv
                      obtain ⟨hk, -⟩ := hinv
                      refine hw_reg ?_
                      refine dp rfl (pop_lss rfl rfl) ?_
                      refine dn ?_
                      refine hw_seq ?_
                      refine hw_cond rfl (fun h11 => ?_) (fun h12 => ?_)
                      · try simp at h11
                        obtain ⟨x, hx⟩ : ∃ x, pos[k]? = some x := ⟨_, List.getElem?_eq_getElem h11⟩
                        have hdx := drop_cons hx
                        refine hw_skip ?_
                        refine seqQ_n ?_
                        refine hw_seq ?_
                        refine hw_block ?_
                        refine hw_reg ?_
                        refine dp rfl (pop_move rfl) ?_
                        refine dp rfl (pop_idx ty37 ty50 rfl rfl rfl (by first | assumption | simp_all)) ?_
                        refine dp rfl (pop_loadw ty50 rfl rfl rfl rfl) ?_
                        refine de rfl (eop_alloc ty50 rfl fun b24 => ?_)
                        refine dp rfl (pop_assign rfl) ?_
                        refine de0 (eop_storew ty50 rfl rfl rfl rfl rfl ?_)
                        refine dn ?_
                        refine hw_ghost (Ghost.fc0 24 rfl) ?_
                        refine hw_draw1 (fun _ => True) [] mixed ?_
                        refine ahp 0 rfl rfl (by kernel_rfl) (by kernel_rfl) (pop_move rfl) ?_
                        refine ahp 1 rfl rfl (by kernel_rfl) (by kernel_rfl) (pop_fieldAddr ty50 rfl ty9 (by decide) rfl) ?_
                        refine ahp 2 rfl rfl (by kernel_rfl) (by kernel_rfl) (pop_load ty9 rfl rfl rfl) ?_
                        refine ahp 3 rfl rfl (by kernel_rfl) (by kernel_rfl) (pop_move rfl) ?_
                        refine ahp 4 rfl rfl (by kernel_rfl) (by kernel_rfl) (pop_move rfl) ?_
                        refine ahp 5 rfl rfl (by kernel_rfl) (by kernel_rfl) (pop_idx (j := k) (a := S.getD k 0) ty22 ty3 rfl rfl rfl (getD_some (by omega))) ?_
                        refine ahp 6 rfl rfl (by kernel_rfl) (by kernel_rfl) (pop_load ty3 rfl rfl rfl) ?_
                        have hcb := hsb1 _ (List.mem_of_getElem? (getD_some (l := S) (k := k) (d := 0) (by omega)))
                        refine ahp 7 rfl rfl (by kernel_rfl) (by kernel_rfl) (pop_add64 rfl rfl (by omega) (by omega)) ?_
                        refine ahp 8 rfl rfl (by kernel_rfl) (by kernel_rfl) (pop_call ca23 rfl (WeakL.refl _) (c_Itoa (n := S.getD k 0 + 1) (by omega) (by omega))) ?_
                        refine ahp 9 rfl rfl (by kernel_rfl) (by kernel_rfl) (pop_build (cs := [_, _]) ty45 pl45 rfl) ?_
                        refine ahp 10 rfl rfl (by kernel_rfl) (by kernel_rfl) (pop_buildSlice (hs := [_]) ty34 ty45 rfl rfl (by decide) (by decide) rfl) ?_
                        refine ahe 11 rfl (by kernel_rfl) ?_
                        refine hop_e rfl (eop_append (i := 0) ty34 ty45 rfl rfl rfl rfl rfl (by simp [flat, hcells]) (by simp only [List.length_map, List.length_cons, List.length_nil, pricePairs_len, List.length_take]; omega) fun v122 => ?_)
                        refine ⟨fun _ => .inl trivial, ?_⟩
                        refine ahp 12 rfl rfl (by kernel_rfl) (by kernel_rfl) (pop_assign rfl) ?_
                        refine ahz (by kernel_rfl) ?_
                        refine blockQ_n ?_
                        refine seqQ_n ?_
                        refine hw_reg1 ?_
                        refine dp rfl (pop_add64 rfl rfl (by omega) (by omega)) ?_
                        refine dp rfl (pop_move rfl) ?_
                        refine dn ?_
                        refine ⟨k + 1, _, ?_, ?_, ⟨rfl, rfl, trivial⟩, (by repeat (first | exact keeps_refl | refine keeps_upd rfl ?_ | refine keeps_loop rfl rfl ?_)), perm_eq (by dsimp only; rw [pricePairs_snoc _ (getD_some (l := S) (k := k) (d := 0) (by omega))]; simp [List.getD, hx])⟩
                        · exact ⟨by omega, trivial⟩
                        · dsimp only; omega
                      · try simp at h12
                        have hnk : pos.length ≤ k := by omega
                        obtain rfl : k = pos.length := by omega
                        refine hw_exit ?_
                        refine seqQ_x ?_
                        refine loopQ2_x ?_
                        refine blockQ_eq ?_
                        refine seqQ_n ?_
                        refine hw_reg ?_
                        refine dp rfl (pop_move rfl) ?_
                        refine dp rfl (pop_assign rfl) ?_
                        refine dp rfl (pop_assign rfl) ?_
                        refine dn ?_
                        refine hw_ret ?_
                        first
                        | (have hq : pos.length = 0 := by simpa using h1
                           rw [(pR4 hq).1, (pR4 hq).2]; exact ret_w rfl (weak_tup2 (weak_nil 2) (Weak.refl _)))
                        | (have hq : teams * budget - (pos.length : Int) < 0 := by simpa using h3
                           rw [(pR3 (by omega) hq).1, (pR3 (by omega) hq).2]; exact ret_w rfl (weak_tup2 (weak_nil 2) (Weak.refl _)))
                        | (rw [(pR5 (by omega) (by omega)).1, (pR5 (by omega) (by omega)).2, pricesOf, hS]
                           refine ret_fa (M := []) 8 rfl rfl ?_
                           rw [List.take_of_length_le (by omega)]; rfl)
end Go.Proofs.YtnlfcjoofdjpiaaGreatDoor
end
section
namespace Go.HL
def eqSt {α : Type} (e : α → HVal) (a b : α) : Bool := eqHL (hcells (e a)) (hcells (e b))
def eqSts {α : Type} (e : α → HVal) : List α → List α → Bool
  | [], [] => true
  | a :: l, b :: m => eqSt e a b && eqSts e l m
  | _, _ => false
theorem eqSts_len {α : Type} {e : α → HVal} : ∀ {l m : List α}, l.length ≠ m.length → eqSts e l m = false
  | [], [], h => absurd rfl h
  | [], _ :: _, _ => rfl
  | _ :: _, [], _ => rfl
  | a :: l, b :: m, h => by
    rw [eqSts, eqSts_len (by intro q; apply h; simp [q])]; simp
theorem eqPairs_refl : ∀ l : List PairS, eqSts ePair l l = true
  | [] => rfl
  | a :: r => by simp [eqSts, eqSt, eqPairs_refl r, hcells, eqHL, eqH]
theorem eqOvers_refl : ∀ l : List Over, eqSts eOver l l = true
  | [] => rfl
  | a :: r => by simp [eqSts, eqSt, eqOvers_refl r, hcells, eqHL, eqH]
end Go.HL
end
section
namespace Go.Proofs.YtnlfcjoofdjpiaaGreatDoor
open Go.HL
set_option maxRecDepth 100000
set_option linter.unusedVariables false
set_option linter.unusedSimpArgs false
/-- slices.Equal[[]benchwarmer/api.Pair,benchwarmer/api.Pair] -/
theorem c_slices_Equal_api_Pair_api_Pair {l m : List PairS} (hl : l.length ≤ 1000000) : ConP Tryz.prog 17 [ePairs l, ePairs m] (.bool (eqSts ePair l m)) := by
  refine Con.of_body Tryz.func17 rfl Tryz.ntmps17 rfl rfl ?_
  refine hw_reg ?_
  refine dp rfl (pop_assign rfl) ?_
  refine dn ?_
  refine hw_seq ?_
  refine hw_reg ?_
  refine dp rfl (pop_move rfl) ?_
  refine dp rfl (pop_lenm ty34 rfl) ?_
  refine dp rfl (pop_move rfl) ?_
  refine dp rfl (pop_lenm ty34 rfl) ?_
  refine dp rfl (pop_neq rfl rfl) ?_
  refine dn ?_
  refine hw_cond rfl (fun h1 => ?_) (fun h2 => ?_)
  · try simp at h1
    refine hw_reg ?_
    refine dp rfl (pop_assign rfl) ?_
    refine dn ?_
    refine hw_ret ?_
    refine ret_p rfl ?_
    show HVal.bool _ = _
    first | (congr 1; symm; exact eqSts_len (by omega)) | (rw [hg.2, eqSts, show eqSt ePair x y = false from h5]; rfl) | (rw [hg.2, drop_all (Nat.le_of_eq hg.1.symm)]; rfl)
  · try simp at h2
    refine hw_skip ?_
    refine seqQ_n ?_
    refine hw_seq ?_
    refine hw_reg ?_
    refine dp rfl (pop_move rfl) ?_
    refine dp rfl (pop_lenm ty34 rfl) ?_
    refine dp rfl (pop_move rfl) ?_
    refine dn ?_
    refine hw_block ?_
    refine hw_loopw [4, 5, 13, 14, 15, 16, 17, 18, 19, 20, 21, 22, 23, 24, 25] (fun (k : Nat) => [(13, .int .i64 k)]) (fun (k : Nat) => []) (fun (k : Nat) => k ≤ l.length ∧ (l.length = m.length ∧ eqSts ePair l m = eqSts ePair (l.drop k) (m.drop k))) (fun (k : Nat) => l.length - k) (0) ?_ ?_ ?_ ?_
    · refine ⟨Nat.zero_le _, ?_, rfl⟩
      omega
    · exact ⟨rfl, trivial⟩
    · exact List.Perm.refl _
    · intro k hinv
      obtain ⟨hk, hg⟩ := hinv
      refine hw_reg ?_
      refine dp rfl (pop_lss rfl rfl) ?_
      refine dn ?_
      refine hw_seq ?_
      refine hw_cond rfl (fun h3 => ?_) (fun h4 => ?_)
      · try simp at h3
        obtain ⟨x, hx⟩ : ∃ x, l[k]? = some x := ⟨_, List.getElem?_eq_getElem h3⟩
        have hdx := drop_cons hx
        obtain ⟨y, hy⟩ : ∃ y, m[k]? = some y := ⟨_, List.getElem?_eq_getElem (by omega)⟩
        rw [hdx, drop_cons hy] at hg
        refine hw_skip ?_
        refine seqQ_n ?_
        refine hw_seq ?_
        refine hw_block ?_
        refine hw_reg ?_
        refine dp rfl (pop_move rfl) ?_
        refine dp rfl (pop_assign rfl) ?_
        refine dn ?_
        refine hw_draw (fun _ => True) [] mixed ?_
        refine ahp 0 rfl rfl (by kernel_rfl) (by kernel_rfl) (pop_move rfl) ?_
        refine ahp 1 rfl rfl (by kernel_rfl) (by kernel_rfl) (pop_move rfl) ?_
        refine ahp 2 rfl rfl (by kernel_rfl) (by kernel_rfl) (pop_idx ty34 ty45 rfl rfl rfl (by first | assumption | simp_all)) ?_
        refine ahp 3 rfl rfl (by kernel_rfl) (by kernel_rfl) (pop_loadw ty45 rfl rfl rfl rfl) ?_
        refine ahp 4 rfl rfl (by kernel_rfl) (by kernel_rfl) (pop_move rfl) ?_
        refine ahp 5 rfl rfl (by kernel_rfl) (by kernel_rfl) (pop_move rfl) ?_
        refine ahp 6 rfl rfl (by kernel_rfl) (by kernel_rfl) (pop_idx ty34 ty45 rfl rfl rfl (by first | assumption | simp_all)) ?_
        refine ahp 7 rfl rfl (by kernel_rfl) (by kernel_rfl) (pop_loadw ty45 rfl rfl rfl rfl) ?_
        refine ahp 8 rfl rfl (by kernel_rfl) (by kernel_rfl) (pop_neqst ty45 eq45 rfl rfl ⟨rfl, ⟨_, _, _, _, ty9, rfl⟩, ⟨rfl, ⟨_, _, _, _, ty9, rfl⟩, trivial⟩⟩) ?_
        refine ahz (by kernel_rfl) ?_
        refine hw_cond rfl (fun h5 => ?_) (fun h6 => ?_)
        · try simp at h5
          refine hw_reg ?_
          refine dp rfl (pop_assign rfl) ?_
          refine dn ?_
          refine hw_ret ?_
          refine ret_p rfl ?_
          show HVal.bool _ = _
          first | (congr 1; symm; exact eqSts_len (by omega)) | (rw [hg.2, eqSts, show eqSt ePair x y = false from h5]; rfl) | (rw [hg.2, drop_all (Nat.le_of_eq hg.1.symm)]; rfl)
        · try simp at h6
          refine hw_skip ?_
          refine blockQ_n ?_
          refine seqQ_n ?_
          refine hw_reg1 ?_
          refine dp rfl (pop_add64 rfl rfl (by omega) (by omega)) ?_
          refine dp rfl (pop_move rfl) ?_
          refine dn ?_
          refine ⟨k + 1, ?_, ?_, ⟨rfl, trivial⟩, (by repeat (first | exact keeps_refl | refine keeps_upd rfl ?_ | refine keeps_loop rfl rfl ?_)), List.Perm.refl _⟩
          · refine ⟨by omega, hg.1, ?_⟩
            rw [hg.2, eqSts, show eqSt ePair x y = true from h6]; rfl
          · dsimp only; omega
      · try simp at h4
        have hnk : l.length ≤ k := by omega
        obtain rfl : k = l.length := by omega
        rw [drop_all (Nat.le_refl _)] at hg
        refine hw_exit ?_
        refine seqQ_x ?_
        refine loopQ_x ?_
        refine blockQ_eq ?_
        refine seqQ_n ?_
        refine hw_reg ?_
        refine dp rfl (pop_assign rfl) ?_
        refine dn ?_
        refine hw_ret ?_
        refine ret_p rfl ?_
        show HVal.bool _ = _
        first | (congr 1; symm; exact eqSts_len (by omega)) | (rw [hg.2, eqSts, show eqSt ePair x y = false from h5]; rfl) | (rw [hg.2, drop_all (Nat.le_of_eq hg.1.symm)]; rfl)

/-- slices.Equal[[]benchwarmer/api.Over,benchwarmer/api.Over] -/
theorem c_slices_Equal_api_Over_api_Over {l m : List Over} (hl : l.length ≤ 1000000) : ConP Tryz.prog 20 [eOvers l, eOvers m] (.bool (eqSts eOver l m)) := by
  refine Con.of_body Tryz.func20 rfl Tryz.ntmps20 rfl rfl ?_
  refine hw_reg ?_
  refine dp rfl (pop_assign rfl) ?_
  refine dn ?_
  refine hw_seq ?_
  refine hw_reg ?_
  refine dp rfl (pop_move rfl) ?_
  refine dp rfl (pop_lenm ty37 rfl) ?_
  refine dp rfl (pop_move rfl) ?_
  refine dp rfl (pop_lenm ty37 rfl) ?_
  refine dp rfl (pop_neq rfl rfl) ?_
  refine dn ?_
  refine hw_cond rfl (fun h1 => ?_) (fun h2 => ?_)
  · try simp at h1
    refine hw_reg ?_
    refine dp rfl (pop_assign rfl) ?_
    refine dn ?_
    refine hw_ret ?_
    refine ret_p rfl ?_
    show HVal.bool _ = _
    first | (congr 1; symm; exact eqSts_len (by omega)) | (rw [hg.2, eqSts, show eqSt eOver x y = false from h5]; rfl) | (rw [hg.2, drop_all (Nat.le_of_eq hg.1.symm)]; rfl)
  · try simp at h2
    refine hw_skip ?_
    refine seqQ_n ?_
    refine hw_seq ?_
    refine hw_reg ?_
    refine dp rfl (pop_move rfl) ?_
    refine dp rfl (pop_lenm ty37 rfl) ?_
    refine dp rfl (pop_move rfl) ?_
    refine dn ?_
    refine hw_block ?_
    refine hw_loopw [4, 5, 13, 14, 15, 16, 17, 18, 19, 20, 21, 22, 23, 24, 25] (fun (k : Nat) => [(13, .int .i64 k)]) (fun (k : Nat) => []) (fun (k : Nat) => k ≤ l.length ∧ (l.length = m.length ∧ eqSts eOver l m = eqSts eOver (l.drop k) (m.drop k))) (fun (k : Nat) => l.length - k) (0) ?_ ?_ ?_ ?_
    · refine ⟨Nat.zero_le _, ?_, rfl⟩
      omega
    · exact ⟨rfl, trivial⟩
    · exact List.Perm.refl _
    · intro k hinv
      obtain ⟨hk, hg⟩ := hinv
      refine hw_reg ?_
      refine dp rfl (pop_lss rfl rfl) ?_
      refine dn ?_
      refine hw_seq ?_
      refine hw_cond rfl (fun h3 => ?_) (fun h4 => ?_)
      · try simp at h3
        obtain ⟨x, hx⟩ : ∃ x, l[k]? = some x := ⟨_, List.getElem?_eq_getElem h3⟩
        have hdx := drop_cons hx
        obtain ⟨y, hy⟩ : ∃ y, m[k]? = some y := ⟨_, List.getElem?_eq_getElem (by omega)⟩
        rw [hdx, drop_cons hy] at hg
        refine hw_skip ?_
        refine seqQ_n ?_
        refine hw_seq ?_
        refine hw_block ?_
        refine hw_reg ?_
        refine dp rfl (pop_move rfl) ?_
        refine dp rfl (pop_assign rfl) ?_
        refine dn ?_
        refine hw_draw (fun _ => True) [] mixed ?_
        refine ahp 0 rfl rfl (by kernel_rfl) (by kernel_rfl) (pop_move rfl) ?_
        refine ahp 1 rfl rfl (by kernel_rfl) (by kernel_rfl) (pop_move rfl) ?_
        refine ahp 2 rfl rfl (by kernel_rfl) (by kernel_rfl) (pop_idx ty37 ty50 rfl rfl rfl (by first | assumption | simp_all)) ?_
        refine ahp 3 rfl rfl (by kernel_rfl) (by kernel_rfl) (pop_loadw ty50 rfl rfl rfl rfl) ?_
        refine ahp 4 rfl rfl (by kernel_rfl) (by kernel_rfl) (pop_move rfl) ?_
        refine ahp 5 rfl rfl (by kernel_rfl) (by kernel_rfl) (pop_move rfl) ?_
        refine ahp 6 rfl rfl (by kernel_rfl) (by kernel_rfl) (pop_idx ty37 ty50 rfl rfl rfl (by first | assumption | simp_all)) ?_
        refine ahp 7 rfl rfl (by kernel_rfl) (by kernel_rfl) (pop_loadw ty50 rfl rfl rfl rfl) ?_
        refine ahp 8 rfl rfl (by kernel_rfl) (by kernel_rfl) (pop_neqst ty50 eq50 rfl rfl ⟨rfl, ⟨_, _, _, _, ty9, rfl⟩, ⟨rfl, ⟨_, _, _, _, ty3, rfl⟩, ⟨rfl, ⟨_, _, _, _, ty3, rfl⟩, trivial⟩⟩⟩) ?_
        refine ahz (by kernel_rfl) ?_
        refine hw_cond rfl (fun h5 => ?_) (fun h6 => ?_)
        · try simp at h5
          refine hw_reg ?_
          refine dp rfl (pop_assign rfl) ?_
          refine dn ?_
          refine hw_ret ?_
          refine ret_p rfl ?_
          show HVal.bool _ = _
          first | (congr 1; symm; exact eqSts_len (by omega)) | (rw [hg.2, eqSts, show eqSt eOver x y = false from h5]; rfl) | (rw [hg.2, drop_all (Nat.le_of_eq hg.1.symm)]; rfl)
        · try simp at h6
          refine hw_skip ?_
          refine blockQ_n ?_
          refine seqQ_n ?_
          refine hw_reg1 ?_
          refine dp rfl (pop_add64 rfl rfl (by omega) (by omega)) ?_
          refine dp rfl (pop_move rfl) ?_
          refine dn ?_
          refine ⟨k + 1, ?_, ?_, ⟨rfl, trivial⟩, (by repeat (first | exact keeps_refl | refine keeps_upd rfl ?_ | refine keeps_loop rfl rfl ?_)), List.Perm.refl _⟩
          · refine ⟨by omega, hg.1, ?_⟩
            rw [hg.2, eqSts, show eqSt eOver x y = true from h6]; rfl
          · dsimp only; omega
      · try simp at h4
        have hnk : l.length ≤ k := by omega
        obtain rfl : k = l.length := by omega
        rw [drop_all (Nat.le_refl _)] at hg
        refine hw_exit ?_
        refine seqQ_x ?_
        refine loopQ_x ?_
        refine blockQ_eq ?_
        refine seqQ_n ?_
        refine hw_reg ?_
        refine dp rfl (pop_assign rfl) ?_
        refine dn ?_
        refine hw_ret ?_
        refine ret_p rfl ?_
        show HVal.bool _ = _
        first | (congr 1; symm; exact eqSts_len (by omega)) | (rw [hg.2, eqSts, show eqSt eOver x y = false from h5]; rfl) | (rw [hg.2, drop_all (Nat.le_of_eq hg.1.symm)]; rfl)

/-- benchwarmer/benchlaw1.valued -/
theorem c_benchlaw1_valued   : ConP Tryz.prog 18 [] (.bool true) := by
  refine Con.of_body Tryz.func18 rfl Tryz.ntmps18 rfl rfl ?_
  refine hw_reg ?_
  refine dp rfl (pop_assign rfl) ?_
  refine dn ?_
  refine hw_reg ?_
  refine dp rfl (pop_build (cs := [_, _, _]) ty57 pl57 rfl) ?_
  refine dp rfl (pop_buildSlice (hs := [_]) ty26 ty57 rfl rfl (by decide) (by decide) rfl) ?_
  refine dp rfl (pop_build (cs := [_, _]) ty63 pl63 rfl) ?_
  refine dp rfl (pop_buildSlice (hs := [_]) ty28 ty63 rfl rfl (by decide) (by decide) rfl) ?_
  refine dp rfl (pop_call ca42 rfl (WeakL.refl _) (c_value_Fielded (l := [asset1]) (p := [place1]) (by decide) (by decide))) ?_
  refine dp rfl (pop_move rfl) ?_
  refine dp rfl (pop_extract rfl rfl) ?_
  refine dp rfl (pop_extract rfl rfl) ?_
  refine dp rfl (pop_extract rfl rfl) ?_
  refine dp rfl (pop_assign rfl) ?_
  refine dp rfl (pop_assign rfl) ?_
  refine dp rfl (pop_assign rfl) ?_
  refine dn ?_
  simp only [one_ok, one_sum, one_names]
  refine hw_reg ?_
  refine dp rfl (pop_move rfl) ?_
  refine dp rfl (pop_eql rfl rfl) ?_
  refine dp rfl (pop_move rfl) ?_
  refine dg rfl rfl (fun hc => ⟨_, OpenTo.refl _, pop_move rfl⟩) ?_
  refine dg rfl rfl (fun hc => ⟨_, OpenTo.upd (t := 16) rfl (by first | exact hc | simp_all) (OpenTo.refl _), pop_eql rfl rfl⟩) ?_
  refine dp rfl (pop_picko rfl (.inr ⟨_, rfl, fun h => by simp_all⟩) (.inl rfl)) ?_
  refine dp rfl (pop_move rfl) ?_
  refine dg rfl rfl (fun hc => ⟨_, OpenTo.refl _, pop_move rfl⟩) ?_
  refine dg rfl rfl (fun hc => ⟨_, OpenTo.refl _, pop_buildSlice (hs := [_]) ty61 ty9 rfl rfl (by decide) (by decide) rfl⟩) ?_
  refine dg rfl rfl (fun hc => ⟨_, OpenTo.upd (t := 21) rfl (by first | exact hc | simp_all) (OpenTo.upd (t := 20) rfl (by first | exact hc | simp_all) (OpenTo.refl _)), pop_call ca43 rfl (WeakL.refl _) (c_slices_Equal_string_string (l := [[97]]) (m := [[97]]) (by decide))⟩) ?_
  refine dp rfl (pop_picko rfl (.inr ⟨_, rfl, fun h => by simp_all⟩) (.inl rfl)) ?_
  refine dp rfl (pop_assign rfl) ?_
  refine dn ?_
  refine hw_ret ?_
  refine ret_p rfl ?_
  rfl
end Go.Proofs.YtnlfcjoofdjpiaaGreatDoor
end
section
namespace Go.HL
theorem lfE (l : List Asset) (p : List Place) (teams : Int) : orI [checkAssets l, checkPlaces p, if out teams 1 20 then 1 else 0] = lfault l p teams := by
  unfold lfault okAP
  by_cases h1 : checkAssets l = 0 <;> by_cases h2 : checkPlaces p = 0 <;> simp [orI, h1, h2]
theorem pos_ref {l : List Asset} {p : List Place} {teams : Int} (h : lfault l p teams = 0) : rankedR (isort byWorthV (overR l p teams)) = ranked (isort byWorth (overP l p teams)) := by
  obtain ⟨hok, _⟩ := lfault_ok h
  obtain ⟨f1, f2, f3, f4, f5⟩ := okAP_facts hok
  rw [worths_ref f1 (checkPlaces_sorted (okAP_ok hok).2), ranked_ref (worths_sorted _)]
theorem levels_ref {l : List Asset} {p : List Place} {teams : Int} (h : lfault l p teams = 0) : levelsL (fun x => levelR l x teams) p = levelsL (fun x => levelP l x teams) p := by
  obtain ⟨hok, _⟩ := lfault_ok h
  obtain ⟨f1, f2, f3, f4, f5⟩ := okAP_facts hok
  unfold levelsL
  congr 1
  funext x
  dsimp only; rw [levelR_P f1]
theorem orO {a : Int} {o : Bool} (h : orI [a, if o then 1 else 0] = 0) : a = 0 ∧ o = false := by
  obtain ⟨h1, h2⟩ := orI_zero h
  refine ⟨h1, ?_⟩
  cases o with
  | false => rfl
  | true => simp at h2
theorem prices_facts {l : List Asset} {p : List Place} {teams : Int} (hl : l.length ≤ 12) (h : lfault l p teams = 0) : p.length ≤ 10 ∧ (∀ x ∈ p, 0 ≤ x.Many ∧ x.Many ≤ 12) ∧ (1 ≤ teams ∧ teams ≤ 20) ∧ (∀ x ∈ l, -1000000 ≤ x.Value ∧ x.Value ≤ 1000000) ∧ (overR l p teams).length ≤ 12 ∧ (∀ x ∈ rankedR (isort byWorthV (overR l p teams)), x.Worth ≤ 2000000) := by
  obtain ⟨hok, htm⟩ := lfault_ok h
  obtain ⟨f1, f2, f3, f4, f5⟩ := okAP_facts hok
  refine ⟨f5, okAP_many hok, htm, f2, Nat.le_trans (overR_small f1 (checkPlaces_sorted (okAP_ok hok).2) teams) hl, ?_⟩
  rw [pos_ref h]
  exact ranked_worth (fun x hx => overP_worth f2 x ((isort_mem byWorth).1 hx))
theorem pLA_len (lf : Int) (o : Bool) (pos : List Over) (rest : Int) : (pLA lf o pos rest).length ≤ pos.length := by
  unfold pLA pricesL
  split
  · simp
  · split
    · simp
    · split
      · simp
      · rw [pricesOf, pricePairs_len, sharedL_len, List.length_map]; exact Nat.le_refl _
theorem posP_len {l : List Asset} (hl : l.length ≤ 12) (p : List Place) (teams : Int) : (posW (ranked (isort byWorth (overP l p teams)))).length ≤ 12 * p.length := by
  refine Nat.le_trans (posW_len _) ?_
  rw [ranked_len, isort_len]; exact overP_len hl teams p
end Go.HL
end
section
namespace Go.HL
def wA (l : List Asset) (p : List Place) (t : Int) : List Over := ranked (isort byWorth (overP l p t))
def wB (l : List Asset) (p : List Place) (t : Int) : List Over := rankedR (isort byWorthV (overR l p t))
def lA (l : List Asset) (p : List Place) (t : Int) : List PairS := if lfault l p t != 0 then [] else levelsL (fun x => levelP l x t) p
def lB (l : List Asset) (p : List Place) (t : Int) : List PairS := levelsL (fun x => levelR l x t) p
def yA (l : List Asset) (p : List Place) (t : Int) : List Over := if lfault l p t != 0 then [] else wA l p t
def plA (l : List Asset) (p : List Place) (t b : Int) : List PairS := pLA (lfault l p t) (out b 0 1000000) (posW (wA l p t)) (b * t - ((posW (wA l p t)).length : Int))
def peA (l : List Asset) (p : List Place) (t b : Int) : Int := pEA (lfault l p t) (out b 0 1000000) (posW (wA l p t)) (b * t - ((posW (wA l p t)).length : Int))
def oneE (l : List Asset) (p : List Place) (t b : Int) : Int := orI [lfault l p t, if out b 0 1000000 then 1 else 0]
def plB (l : List Asset) (p : List Place) (t b : Int) : List PairS := pricesL (posW (wB l p t)) (b * t - ((posW (wB l p t)).length : Int))
def peB (l : List Asset) (p : List Place) (t b : Int) : Int := pricesE (posW (wB l p t)) (b * t - ((posW (wB l p t)).length : Int))
theorem wB_wA {l : List Asset} {p : List Place} {t : Int} (h : lfault l p t = 0) : wB l p t = wA l p t := pos_ref h
theorem lB_lA {l : List Asset} {p : List Place} {t : Int} (h : lfault l p t = 0) : lB l p t = lA l p t := by
  unfold lB lA; rw [levels_ref h]; simp [h]
theorem yA_wA {l : List Asset} {p : List Place} {t : Int} (h : lfault l p t = 0) : yA l p t = wA l p t := by simp [yA, h]
theorem one_ok' {l : List Asset} {p : List Place} {t b : Int} (h : oneE l p t b = 0) : lfault l p t = 0 ∧ out b 0 1000000 = false := orO h
theorem join1 {l : List Asset} {p : List Place} {t b : Int} (h : oneE l p t b = 0) : plB l p t b = plA l p t b ∧ peB l p t b = peA l p t b := by
  obtain ⟨h1, h2⟩ := one_ok' h
  unfold plB plA peB peA
  rw [wB_wA h1]
  simp [pLA, pEA, h1, h2]
theorem join2 {l : List Asset} {p : List Place} {t b : Int} (h : oneE l p t b ≠ 0) : [] = plA l p t b ∧ oneE l p t b = peA l p t b := by
  unfold plA peA
  unfold oneE at *
  by_cases h1 : lfault l p t = 0
  · by_cases h2 : out b 0 1000000 = true
    · simp [pLA, pEA, h1, h2, orI]
    · exfalso; apply h; simp [orI, h1, h2]
  · have hn : (lfault l p t != 0) = true := by simpa using h1
    simp [pLA, pEA, h1, orI]
theorem plA_len {l : List Asset} {p : List Place} {t b : Int} (hl : l.length ≤ 12) (hp : p.length ≤ 1000) : (plA l p t b).length ≤ 1000000 :=
  Nat.le_trans (pLA_len _ _ _ _) (Nat.le_trans (posP_len hl _ _) (by omega))
theorem lA_len {l : List Asset} {p : List Place} {t : Int} (hp : p.length ≤ 1000) : (lA l p t).length ≤ 1000000 := by
  unfold lA levelsL; split
  · simp
  · simp; omega
theorem yA_len {l : List Asset} {p : List Place} {t : Int} (hl : l.length ≤ 12) (hp : p.length ≤ 1000) : (yA l p t).length ≤ 1000000 := by
  unfold yA wA; split
  · simp
  · rw [ranked_len, isort_len]; exact Nat.le_trans (overP_len hl t p) (by omega)
theorem lA_nil {l : List Asset} {p : List Place} {t : Int} (h : ¬ lfault l p t = 0) : lA l p t = [] := by simp [lA, h]
theorem yA_nil {l : List Asset} {p : List Place} {t : Int} (h : ¬ lfault l p t = 0) : yA l p t = [] := by simp [yA, h]
end Go.HL
end
section
namespace Go.Proofs.YtnlfcjoofdjpiaaGreatDoor
open Go.HL
set_option maxRecDepth 100000
set_option linter.unusedVariables false
set_option linter.unusedSimpArgs false
theorem w_Levels {l : List Asset} {p : List HL.Place} {teams : Int} (hl : l.length ≤ 12) (hp : p.length ≤ 1000000) : ConP Tryz.prog 11 [eAssets l, ePlaces p, .int .i64 teams] (.tup [ePairs (lA l p teams), .int .i64 (lfault l p teams)]) := c_value_Levels hl hp
theorem w_Worths {l : List Asset} {p : List HL.Place} {teams : Int} (hl : l.length ≤ 12) (hp : p.length ≤ 1000000) : ConP Tryz.prog 12 [eAssets l, ePlaces p, .int .i64 teams] (.tup [eOvers (yA l p teams), .int .i64 (lfault l p teams)]) := c_value_Worths hl hp
theorem w_Prices {l : List Asset} {p : List HL.Place} {teams budget : Int} (hl : l.length ≤ 12) (hp : p.length ≤ 1000000) : ConP Tryz.prog 13 [eAssets l, ePlaces p, .int .i64 teams, .int .i64 budget] (.tup [ePairs (plA l p teams budget), .int .i64 (peA l p teams budget)]) := c_value_Prices hl hp
theorem w_PricesOf {l : List Asset} {p : List HL.Place} {teams budget : Int} (hl : l.length ≤ 12) (h : oneE l p teams budget = 0) : ConP Tryz.prog 16 [eAssets l, ePlaces p, .int .i64 teams, .int .i64 budget] (.tup [ePairs (plA l p teams budget), .int .i64 (peA l p teams budget)]) := by
  obtain ⟨hz1, hz2⟩ := one_ok' h
  obtain ⟨g1, g2, g3, g4, g5, g6⟩ := prices_facts hl hz1
  have := c_benchref1_PricesOf (budget := budget) hl g1 g2 g3 g4 g5 (out_f hz2) g6
  rw [Int.mul_comm teams budget] at this
  rw [← (join1 h).1, ← (join1 h).2]
  exact this
theorem w_LevelsOf {l : List Asset} {p : List HL.Place} {teams : Int} (hl : l.length ≤ 12) (h : lfault l p teams = 0) : ConP Tryz.prog 19 [eAssets l, ePlaces p, .int .i64 teams] (ePairs (lA l p teams)) := by
  obtain ⟨g1, g2, g3, g4, g5, g6⟩ := prices_facts hl h
  rw [← lB_lA h]
  exact c_benchref1_LevelsOf hl (by omega) g2 g3 g4
theorem w_WorthsFor {l : List Asset} {p : List HL.Place} {teams : Int} (hl : l.length ≤ 12) (h : lfault l p teams = 0) : ConP Tryz.prog 21 [eAssets l, ePlaces p, .int .i64 teams] (eOvers (yA l p teams)) := by
  obtain ⟨g1, g2, g3, g4, g5, g6⟩ := prices_facts hl h
  rw [yA_wA h, ← wB_wA h]
  exact c_benchref1_WorthsFor hl g1 g2 g3 g4 g5


set_option maxHeartbeats 2000000 in
/-- benchwarmer/benchlaw1.WorthsTold -/
theorem c_benchlaw1_WorthsTold {l : List Int}  : ConP Tryz.prog 3 [.slice 1 (l.map (.int .i64))] (.bool true) := by
  refine Con.of_body Tryz.func3 rfl Tryz.ntmps3 rfl rfl ?_
  refine hw_reg ?_
  refine dp rfl (pop_assign rfl) ?_
  refine dn ?_
  refine hw_reg ?_
  refine dp rfl (pop_move rfl) ?_
  refine dp rfl (pop_build (cs := [_, _]) ty25 pl25 rfl) ?_
  refine de rfl (eop_box rfl rfl fun b => ?_)
  refine dghost (M' := [St b l 0]) rfl ?_
  refine dp rfl (pop_assign rfl) ?_
  refine dn ?_
  refine hw_reg ?_
  refine dp rfl (pop_move rfl) ?_
  first
  | refine de rfl (eop_callx (i := 0) ca4 rfl (WeakL.refl _) rfl (c_benchmake_Stream_AssetList (by first | assumption | omega | (simp; omega) | simp_all) (by first | assumption | omega | (simp; omega) | simp_all)) ?_)
  | refine de rfl (eop_callx (i := 1) ca4 rfl (WeakL.refl _) rfl (c_benchmake_Stream_AssetList (by first | assumption | omega | (simp; omega) | simp_all) (by first | assumption | omega | (simp; omega) | simp_all)) ?_)
  | refine de rfl (eop_callx (i := 2) ca4 rfl (WeakL.refl _) rfl (c_benchmake_Stream_AssetList (by first | assumption | omega | (simp; omega) | simp_all) (by first | assumption | omega | (simp; omega) | simp_all)) ?_)
  | refine de rfl (eop_callx (i := 3) ca4 rfl (WeakL.refl _) rfl (c_benchmake_Stream_AssetList (by first | assumption | omega | (simp; omega) | simp_all) (by first | assumption | omega | (simp; omega) | simp_all)) ?_)
  rintro _ _ ⟨l23, a23, rfl, hl23, ha23, rfl⟩
  refine dp rfl (pop_move rfl) ?_
  first
  | refine de rfl (eop_callx (i := 0) ca5 rfl (WeakL.refl _) rfl (c_benchmake_Stream_PlaceList (by first | assumption | omega | (simp; omega) | simp_all)) ?_)
  | refine de rfl (eop_callx (i := 1) ca5 rfl (WeakL.refl _) rfl (c_benchmake_Stream_PlaceList (by first | assumption | omega | (simp; omega) | simp_all)) ?_)
  | refine de rfl (eop_callx (i := 2) ca5 rfl (WeakL.refl _) rfl (c_benchmake_Stream_PlaceList (by first | assumption | omega | (simp; omega) | simp_all)) ?_)
  | refine de rfl (eop_callx (i := 3) ca5 rfl (WeakL.refl _) rfl (c_benchmake_Stream_PlaceList (by first | assumption | omega | (simp; omega) | simp_all)) ?_)
  rintro _ _ ⟨p25, a25, rfl, hp25, ha25, rfl⟩
  refine dp rfl (pop_move rfl) ?_
  refine dp rfl (pop_buildSlice (hs := [_, _, _, _, _, _]) ty22 ty3 rfl rfl (by decide) (by decide) rfl) ?_
  first
  | refine de rfl (eop_callx (i := 0) ca6 rfl (WeakL.refl _) rfl (c_benchmake_Stream_Pick (L := [_, _, _, _, _, _]) (by first | assumption | omega | (simp; omega) | simp_all) (by first | assumption | omega | (simp; omega) | simp_all) (by first | assumption | omega | (simp; omega) | simp_all)) ?_)
  | refine de rfl (eop_callx (i := 1) ca6 rfl (WeakL.refl _) rfl (c_benchmake_Stream_Pick (L := [_, _, _, _, _, _]) (by first | assumption | omega | (simp; omega) | simp_all) (by first | assumption | omega | (simp; omega) | simp_all) (by first | assumption | omega | (simp; omega) | simp_all)) ?_)
  | refine de rfl (eop_callx (i := 2) ca6 rfl (WeakL.refl _) rfl (c_benchmake_Stream_Pick (L := [_, _, _, _, _, _]) (by first | assumption | omega | (simp; omega) | simp_all) (by first | assumption | omega | (simp; omega) | simp_all) (by first | assumption | omega | (simp; omega) | simp_all)) ?_)
  | refine de rfl (eop_callx (i := 3) ca6 rfl (WeakL.refl _) rfl (c_benchmake_Stream_Pick (L := [_, _, _, _, _, _]) (by first | assumption | omega | (simp; omega) | simp_all) (by first | assumption | omega | (simp; omega) | simp_all) (by first | assumption | omega | (simp; omega) | simp_all)) ?_)
  rintro _ _ ⟨y28, rfl, hy28, rfl⟩
  refine dp rfl (pop_move rfl) ?_
  refine dp rfl (pop_buildSlice (hs := [_, _, _, _, _, _]) ty22 ty3 rfl rfl (by decide) (by decide) rfl) ?_
  first
  | refine de rfl (eop_callx (i := 0) ca6 rfl (WeakL.refl _) rfl (c_benchmake_Stream_Pick (L := [_, _, _, _, _, _]) (by first | assumption | omega | (simp; omega) | simp_all) (by first | assumption | omega | (simp; omega) | simp_all) (by first | assumption | omega | (simp; omega) | simp_all)) ?_)
  | refine de rfl (eop_callx (i := 1) ca6 rfl (WeakL.refl _) rfl (c_benchmake_Stream_Pick (L := [_, _, _, _, _, _]) (by first | assumption | omega | (simp; omega) | simp_all) (by first | assumption | omega | (simp; omega) | simp_all) (by first | assumption | omega | (simp; omega) | simp_all)) ?_)
  | refine de rfl (eop_callx (i := 2) ca6 rfl (WeakL.refl _) rfl (c_benchmake_Stream_Pick (L := [_, _, _, _, _, _]) (by first | assumption | omega | (simp; omega) | simp_all) (by first | assumption | omega | (simp; omega) | simp_all) (by first | assumption | omega | (simp; omega) | simp_all)) ?_)
  | refine de rfl (eop_callx (i := 3) ca6 rfl (WeakL.refl _) rfl (c_benchmake_Stream_Pick (L := [_, _, _, _, _, _]) (by first | assumption | omega | (simp; omega) | simp_all) (by first | assumption | omega | (simp; omega) | simp_all) (by first | assumption | omega | (simp; omega) | simp_all)) ?_)
  rintro _ _ ⟨y31, rfl, hy31, rfl⟩
  refine dp rfl (pop_assign rfl) ?_
  refine dp rfl (pop_assign rfl) ?_
  refine dp rfl (pop_assign rfl) ?_
  refine dp rfl (pop_assign rfl) ?_
  refine dn ?_
  have hn1 : l23.length ≤ 12 := Nat.le_trans hl23.len (by omega)
  have hn2 : p25.length ≤ 1000 := Nat.le_trans hp25.len (by omega)
  have hs1 := hl23.all
  have hs2 := hp25.all
  refine hw_reg ?_
  refine dp rfl (pop_move rfl) ?_
  refine dp rfl (pop_call ca7 rfl (WeakL.refl _) (c_benchref1_AssetsFault (by first | assumption | omega | (simp; omega) | simp_all) (by first | assumption | omega | (simp; omega) | simp_all))) ?_
  refine dp rfl (pop_move rfl) ?_
  refine dp rfl (pop_call ca8 rfl (WeakL.refl _) (c_benchref1_PlacesFault (by first | assumption | omega | (simp; omega) | simp_all) (by first | assumption | omega | (simp; omega) | simp_all))) ?_
  refine dp rfl (pop_assign rfl) ?_
  refine dp rfl (pop_assign rfl) ?_
  refine dn ?_
  refine hw_seq ?_
  refine hw_reg ?_
  refine dp rfl (pop_move rfl) ?_
  refine dp rfl (pop_call ca9 rfl (WeakL.refl _) (c_value_CheckAssets (by first | assumption | omega | (simp; omega) | simp_all))) ?_
  refine dp rfl (pop_move rfl) ?_
  refine dp rfl (pop_neq rfl rfl) ?_
  refine dp rfl (pop_move rfl) ?_
  refine dg rfl rfl (fun hc => ⟨_, OpenTo.refl _, pop_move rfl⟩) ?_
  refine dg rfl rfl (fun hc => by have hq := hc; (try simp at hq); exact ⟨_, OpenTo.upd (t := 41) rfl (by first | exact hc | simp_all) (OpenTo.refl _), pop_call ca10 rfl (WeakL.refl _) (c_value_CheckPlaces (by first | assumption | omega | (simp; omega) | simp_all))⟩) ?_
  refine dg rfl rfl (fun hc => ⟨_, OpenTo.refl _, pop_move rfl⟩) ?_
  refine dg rfl rfl (fun hc => ⟨_, OpenTo.upd (t := 43) rfl (by first | exact hc | simp_all) (OpenTo.upd (t := 42) rfl (by first | exact hc | simp_all) (OpenTo.refl _)), pop_neq rfl rfl⟩) ?_
  refine dp rfl (pop_picko rfl (.inl rfl) (.inr ⟨_, rfl, fun h => by simp_all⟩)) ?_
  refine dn ?_
  refine hw_cond rfl (fun h1 => ?_) (fun h1 => ?_)
  · exfalso
    try simp at h1
    done
  · try simp at h1
    refine hw_skip ?_
    refine seqQ_n ?_
    refine hw_reg ?_
    refine dp rfl (pop_move rfl) ?_
    refine dp rfl (pop_move rfl) ?_
    refine dp rfl (pop_move rfl) ?_
    refine dp rfl (pop_call ca11 rfl (WeakL.refl _) (w_Levels hn1 (by omega))) ?_
    refine dp rfl (pop_move rfl) ?_
    refine dp rfl (pop_extract rfl rfl) ?_
    refine dp rfl (pop_extract rfl rfl) ?_
    refine dp rfl (pop_assign rfl) ?_
    refine dp rfl (pop_assign rfl) ?_
    refine dn ?_
    refine hw_reg ?_
    refine dp rfl (pop_move rfl) ?_
    refine dp rfl (pop_move rfl) ?_
    refine dp rfl (pop_move rfl) ?_
    refine dp rfl (pop_call ca12 rfl (WeakL.refl _) (w_Worths hn1 (by omega))) ?_
    refine dp rfl (pop_move rfl) ?_
    refine dp rfl (pop_extract rfl rfl) ?_
    refine dp rfl (pop_extract rfl rfl) ?_
    refine dp rfl (pop_assign rfl) ?_
    refine dp rfl (pop_assign rfl) ?_
    refine dn ?_
    refine hw_reg ?_
    refine dp rfl (pop_move rfl) ?_
    refine dp rfl (pop_move rfl) ?_
    refine dp rfl (pop_move rfl) ?_
    refine dp rfl (pop_move rfl) ?_
    refine dp rfl (pop_call ca13 rfl (WeakL.refl _) (w_Prices hn1 (by omega))) ?_
    refine dp rfl (pop_move rfl) ?_
    refine dp rfl (pop_extract rfl rfl) ?_
    refine dp rfl (pop_extract rfl rfl) ?_
    refine dp rfl (pop_assign rfl) ?_
    refine dp rfl (pop_assign rfl) ?_
    refine dn ?_
    refine hw_reg ?_
    refine dp rfl (pop_move rfl) ?_
    refine dp rfl (pop_move rfl) ?_
    refine dp rfl (pop_move rfl) ?_
    refine dp rfl (pop_call ca15 rfl (WeakL.refl _) c_benchref1_SpanFault) ?_
    refine dp rfl (pop_buildSlice (hs := [_, _, _]) ty71 ty31 rfl rfl (by decide) (by decide) rfl) ?_
    refine dp rfl (pop_eq (h' := .int .i64 (lfault l23 p25 y28)) (pop_call ca14 rfl (WeakL.refl _) (c_cmp_Or_api_Errno (l := [_, _, _]) (by simp))) (congrArg _ (lfE _ _ _))) ?_
    refine dp rfl (pop_assign rfl) ?_
    refine dn ?_
    refine hw_reg ?_
    refine dp rfl (pop_move rfl) ?_
    refine dp rfl (pop_move rfl) ?_
    refine dp rfl (pop_call ca15 rfl (WeakL.refl _) c_benchref1_SpanFault) ?_
    refine dp rfl (pop_buildSlice (hs := [_, _]) ty71 ty31 rfl rfl (by decide) (by decide) rfl) ?_
    refine dp rfl (pop_eq (h' := .int .i64 (oneE l23 p25 y28 y31)) (pop_call ca14 rfl (WeakL.refl _) (c_cmp_Or_api_Errno (l := [_, _]) (by simp))) rfl) ?_
    refine dp rfl (pop_assign rfl) ?_
    refine dn ?_
    refine hw_reg ?_
    refine dp rfl (pop_assign rfl) ?_
    refine dn ?_
    refine hw_ghost (Ghost.arr_nil 2) ?_
    refine hw_ghost (Ghost.fa0 18 rfl) ?_
    refine hw_join [17, 18, 79, 80, 81, 82, 83, 84, 85, 86, 87, 88] (fun (q : Unit) => [(18, ePairs (plA l23 p25 y28 y31)), (17, .int .i64 (peA l23 p25 y28 y31))]) (fun (q : Unit) => [St b l (a25 + 1 + 1)]) (fun (q : Unit) => True) ?_ ?_
    · skip
      refine hw_reg ?_
      refine dp rfl (pop_move rfl) ?_
      refine dp rfl (pop_eql rfl rfl) ?_
      refine dn ?_
      refine hw_cond rfl (fun h2 => ?_) (fun h3 => ?_)
      · try simp at h2
        refine hw_reg1 ?_
        refine dp rfl (pop_move rfl) ?_
        refine dp rfl (pop_move rfl) ?_
        refine dp rfl (pop_move rfl) ?_
        refine dp rfl (pop_move rfl) ?_
        refine dp rfl (pop_call ca16 rfl (WeakL.refl _) (w_PricesOf hn1 h2)) ?_
        refine dp rfl (pop_move rfl) ?_
        refine dp rfl (pop_extract rfl rfl) ?_
        refine dp rfl (pop_extract rfl rfl) ?_
        refine dp rfl (pop_assign rfl) ?_
        refine dp rfl (pop_assign rfl) ?_
        refine dn ?_
        exact ⟨(), trivial, ⟨rfl, rfl, trivial⟩, (by repeat (first | exact keeps_refl | refine keeps_upd rfl ?_ | refine keeps_loop rfl rfl ?_)), List.Perm.refl _⟩
      · try simp at h3
        refine hw_skip ?_
        rw [← (join2 (by simpa using h3)).1, ← (join2 (by simpa using h3)).2]
        exact ⟨(), trivial, ⟨rfl, rfl, trivial⟩, (by repeat (first | exact keeps_refl | refine keeps_upd rfl ?_ | refine keeps_loop rfl rfl ?_)), List.Perm.refl _⟩
    · intro q hq
      refine hw_seq ?_
      refine hw_reg ?_
      refine dp rfl (pop_move rfl) ?_
      refine dp rfl (pop_move rfl) ?_
      refine dp rfl (pop_neq rfl rfl) ?_
      refine dp rfl (pop_move rfl) ?_
      refine dg rfl rfl (fun hc => ⟨_, OpenTo.refl _, pop_move rfl⟩) ?_
      refine dg rfl rfl (fun hc => ⟨_, OpenTo.refl _, pop_move rfl⟩) ?_
      refine dg rfl rfl (fun hc => ⟨_, OpenTo.upd (t := 94) rfl (by first | exact hc | simp_all) (OpenTo.upd (t := 93) rfl (by first | exact hc | simp_all) (OpenTo.refl _)), pop_call ca17 rfl (WeakL.refl _) (c_slices_Equal_api_Pair_api_Pair (plA_len hn1 hn2))⟩) ?_
      refine dg rfl rfl (fun hc => ⟨_, OpenTo.upd (t := 95) rfl (by first | exact hc | simp_all) (OpenTo.refl _), pop_not rfl⟩) ?_
      refine dp rfl (pop_picko rfl (.inl rfl) (.inr ⟨_, rfl, fun h => by simp_all⟩)) ?_
      refine dn ?_
      refine hw_cond rfl (fun h4 => ?_) (fun h4 => ?_)
      · exfalso
        try simp at h4
        simp [eqPairs_refl] at h4
      · try simp at h4
        refine hw_skip ?_
        refine seqQ_n ?_
        refine hw_seq ?_
        refine hw_reg ?_
        refine dp rfl (pop_move rfl) ?_
        refine dp rfl (pop_neq rfl rfl) ?_
        refine dn ?_
        refine hw_cond rfl (fun h5 => ?_) (fun h6 => ?_)
        · try simp at h5
          rw [lA_nil h5, yA_nil h5]
          refine hw_reg ?_
          refine dp rfl (pop_move rfl) ?_
          refine dp rfl (pop_move rfl) ?_
          refine dp rfl (pop_eql rfl rfl) ?_
          refine dp rfl (pop_move rfl) ?_
          refine dg rfl rfl (fun hc => ⟨_, OpenTo.refl _, pop_move rfl⟩) ?_
          refine dg rfl rfl (fun hc => ⟨_, OpenTo.refl _, pop_move rfl⟩) ?_
          refine dg rfl rfl (fun hc => ⟨_, OpenTo.upd (t := 105) rfl (by first | exact hc | simp_all) (OpenTo.upd (t := 104) rfl (by first | exact hc | simp_all) (OpenTo.refl _)), pop_eql rfl rfl⟩) ?_
          refine dp rfl (pop_picko rfl (.inr ⟨_, rfl, fun h => by simp_all⟩) (.inl rfl)) ?_
          refine dp rfl (pop_move rfl) ?_
          refine dg rfl rfl (fun hc => ⟨_, OpenTo.refl _, pop_move rfl⟩) ?_
          refine dg rfl rfl (fun hc => ⟨_, OpenTo.upd (t := 109) rfl (by first | exact hc | simp_all) (OpenTo.refl _), pop_lenm ty34 rfl⟩) ?_
          refine dg rfl rfl (fun hc => ⟨_, OpenTo.refl _, pop_move rfl⟩) ?_
          refine dg rfl rfl (fun hc => ⟨_, OpenTo.upd (t := 111) rfl (by first | exact hc | simp_all) (OpenTo.refl _), pop_lenm ty37 rfl⟩) ?_
          refine dg rfl rfl (fun hc => ⟨_, OpenTo.upd (t := 112) rfl (by first | exact hc | simp_all) (OpenTo.upd (t := 110) rfl (by first | exact hc | simp_all) (OpenTo.refl _)), pop_add64 rfl rfl (by simp) (by simp)⟩) ?_
          refine dg rfl rfl (fun hc => ⟨_, OpenTo.upd (t := 113) rfl (by first | exact hc | simp_all) (OpenTo.refl _), pop_eql rfl rfl⟩) ?_
          refine dp rfl (pop_picko rfl (.inr ⟨_, rfl, fun h => by simp_all⟩) (.inl rfl)) ?_
          refine dp rfl (pop_move rfl) ?_
          refine dg rfl rfl (fun hc => ⟨_, OpenTo.refl _, pop_call ca18 rfl (WeakL.refl _) c_benchlaw1_valued⟩) ?_
          refine dp rfl (pop_picko rfl (.inr ⟨_, rfl, fun h => by simp_all⟩) (.inl rfl)) ?_
          refine dp rfl (pop_assign rfl) ?_
          refine dn ?_
          refine hw_ret ?_
          refine ret_g Ghost.drop rfl ⟨?_, rfl⟩
          show HVal.bool _ = _
          first | (simp [eqPairs_refl, eqOvers_refl, h6]; done) | (simp [eqPairs_refl, eqOvers_refl]; done)
        · try simp at h6
          refine hw_skip ?_
          refine seqQ_n ?_
          refine hw_reg ?_
          refine dp rfl (pop_move rfl) ?_
          refine dp rfl (pop_eql rfl rfl) ?_
          refine dp rfl (pop_move rfl) ?_
          refine dg rfl rfl (fun hc => ⟨_, OpenTo.refl _, pop_move rfl⟩) ?_
          refine dg rfl rfl (fun hc => ⟨_, OpenTo.refl _, pop_move rfl⟩) ?_
          refine dg rfl rfl (fun hc => ⟨_, OpenTo.refl _, pop_move rfl⟩) ?_
          refine dg rfl rfl (fun hc => ⟨_, OpenTo.refl _, pop_move rfl⟩) ?_
          refine dg rfl rfl (fun hc => ⟨_, OpenTo.upd (t := 125) rfl (by first | exact hc | simp_all) (OpenTo.upd (t := 124) rfl (by first | exact hc | simp_all) (OpenTo.upd (t := 123) rfl (by first | exact hc | simp_all) (OpenTo.refl _))), pop_call ca19 rfl (WeakL.refl _) (w_LevelsOf hn1 h6)⟩) ?_
          refine dg rfl rfl (fun hc => ⟨_, OpenTo.upd (t := 126) rfl (by first | exact hc | simp_all) (OpenTo.upd (t := 122) rfl (by first | exact hc | simp_all) (OpenTo.refl _)), pop_call ca17 rfl (WeakL.refl _) (c_slices_Equal_api_Pair_api_Pair (lA_len hn2))⟩) ?_
          refine dp rfl (pop_picko rfl (.inr ⟨_, rfl, fun h => by simp_all⟩) (.inl rfl)) ?_
          refine dp rfl (pop_move rfl) ?_
          refine dg rfl rfl (fun hc => ⟨_, OpenTo.refl _, pop_move rfl⟩) ?_
          refine dg rfl rfl (fun hc => ⟨_, OpenTo.upd (t := 130) rfl (by first | exact hc | simp_all) (OpenTo.refl _), pop_eql rfl rfl⟩) ?_
          refine dp rfl (pop_picko rfl (.inr ⟨_, rfl, fun h => by simp_all⟩) (.inl rfl)) ?_
          refine dp rfl (pop_move rfl) ?_
          refine dg rfl rfl (fun hc => ⟨_, OpenTo.refl _, pop_move rfl⟩) ?_
          refine dg rfl rfl (fun hc => ⟨_, OpenTo.refl _, pop_move rfl⟩) ?_
          refine dg rfl rfl (fun hc => ⟨_, OpenTo.refl _, pop_move rfl⟩) ?_
          refine dg rfl rfl (fun hc => ⟨_, OpenTo.refl _, pop_move rfl⟩) ?_
          refine dg rfl rfl (fun hc => ⟨_, OpenTo.upd (t := 137) rfl (by first | exact hc | simp_all) (OpenTo.upd (t := 136) rfl (by first | exact hc | simp_all) (OpenTo.upd (t := 135) rfl (by first | exact hc | simp_all) (OpenTo.refl _))), pop_call ca21 rfl (WeakL.refl _) (w_WorthsFor hn1 h6)⟩) ?_
          refine dg rfl rfl (fun hc => ⟨_, OpenTo.upd (t := 138) rfl (by first | exact hc | simp_all) (OpenTo.upd (t := 134) rfl (by first | exact hc | simp_all) (OpenTo.refl _)), pop_call ca20 rfl (WeakL.refl _) (c_slices_Equal_api_Over_api_Over (yA_len hn1 hn2))⟩) ?_
          refine dp rfl (pop_picko rfl (.inr ⟨_, rfl, fun h => by simp_all⟩) (.inl rfl)) ?_
          refine dp rfl (pop_move rfl) ?_
          refine dg rfl rfl (fun hc => ⟨_, OpenTo.refl _, pop_call ca18 rfl (WeakL.refl _) c_benchlaw1_valued⟩) ?_
          refine dp rfl (pop_picko rfl (.inr ⟨_, rfl, fun h => by simp_all⟩) (.inl rfl)) ?_
          refine dp rfl (pop_assign rfl) ?_
          refine dn ?_
          refine hw_ret ?_
          refine ret_g Ghost.drop rfl ⟨?_, rfl⟩
          show HVal.bool _ = _
          first | (simp [eqPairs_refl, eqOvers_refl, h6]; done) | (simp [eqPairs_refl, eqOvers_refl]; done)
end Go.Proofs.YtnlfcjoofdjpiaaGreatDoor
end
section
namespace Go.Proofs.YtnlfcjoofdjpiaaGreatDoor
open Go.ChangeShapes Go.WideShapes Go.ChangeAt Go.RowKit Go.HL
theorem ownWorthsTold : ownKnob Tryz.prog.godebug = none := by kernel_rfl
theorem laidOutWorthsTold : laidOutB Tryz.prog = true := by kernel_rfl
theorem cellsWorthsTold : Tryz.prog.cellsOf 3 = 1 := by kernel_rfl
theorem tabWorthsTold {W : World} (h : laidMetH Tryz.prog Rows.worthsToldRow.laid W) : TabI Tryz.prog (allI W) := by
  rw [MakeChecks.laidMetH_plain _ _ _ (by kernel_rfl)] at h
  exact tabI_of_laid (i := 2) (g := 1) (t := 134) h (by kernel_rfl) (by kernel_rfl) (by kernel_rfl) Tryz.underlying134 Tryz.underlying110 (by kernel_rfl) (by kernel_rfl)
theorem callsWorthsTold {W : World} (ht : TabI Tryz.prog (allI W)) {a : Option Addr} {len cap : Nat} {H : Type} {enc : TypeId × Value → H} {d0 : DataW H} {p : List MemPlace} (h : DataW.Trod enc Tryz.prog W 0 (fun _ => true) true 22 (.slice a len cap) d0 p) :
    Calls Tryz.prog 3 #[.slice a len cap] W fun e W' => e = .returned (.bool true) ∧ Below W.heap.size W W' := by
  obtain ⟨fuel, hf⟩ := h
  rcases open_ints Tryz.underlying22 Tryz.underlying3 cellsWorthsTold hf with ⟨hcs, hx⟩ | ⟨a', len', cap', zs, hcs, _, hl, hm, hz, hx, hcell, hwz⟩
  · simp [Value.cells] at hcs
    obtain ⟨rfl, rfl, rfl⟩ := hcs
    exact conp_law (l := []) c_benchlaw1_WorthsTold ht (.slice0 _ _ _)
  · simp [Value.cells] at hcs
    obtain ⟨rfl, rfl, rfl⟩ := hcs
    simp only [if_true] at hz
    exact conp_law (l := zs.take len) c_benchlaw1_WorthsTold ht (v_ints hcell (by omega) hl)
set_option maxRecDepth 100000 in
theorem liftedWorthsTold (os : Os) (started : os.Started) (H : Type) (enc : TypeId × Value → H) :
    ReturnsInHanded {} Tryz.checked os 3 .any (fun w args => (Rows.worthsToldSpec.pre enc Tryz.prog Tryz.f3 Rows.worthsToldRow.domain false w args ∧ laidMetH Tryz.prog Rows.worthsToldRow.laid w) ∧ sizedMet enc Tryz.prog Tryz.f3 (OpenSpec.ofChange Rows.worthsToldSpec) false w args)
      (Rows.worthsToldSpec.post enc Tryz.prog Tryz.f3 false true false false) := by
  refine returnsInHanded_of_change_and (C := Tryz.checked) (X := fun w _ => laidMetH Tryz.prog Rows.worthsToldRow.laid w) (fun _ _ _ hh h => h.of_heap hh) ownWorthsTold started (by kernel_rfl) Tryz.func3
    (ChangeSpec.witness_shaped (enc := enc) (C := Tryz.checked) (os := os) (X := fun w _ => laidMetH Tryz.prog Rows.worthsToldRow.laid w) false (World.laidAll Tryz.prog os Rows.worthsToldRow.laid) #[.slice none 0 0] 8 (World.laidAll_os _ _ _)
      (World.shaped_of_ZipB (by kernel_rfl) (by kernel_rfl)) (by kernel_rfl) (by kernel_rfl) (by kernel_rfl)
      (by rw [MakeChecks.laidMetH_plain _ _ _ (by kernel_rfl)]; exact laidMet_laidAll _ (by kernel_rfl) (by kernel_rfl))) ?_
  intro W base args ds gs before hval0 hW _ _ hL _
  have hval : ∀ (j : Nat) t v, Tryz.f3.params[j]? = some t → args[j]? = some v → Value.okWide Tryz.prog W .any base t v := hval0
  have hW' := hW
  obtain ⟨p, q, hA0, hV, rfl, _, _⟩ := hW
  have hA : DataW.TrodAll enc Tryz.prog W 0 (fun _ => true) true Tryz.f3.params.toList args.toList ds p := hA0
  rw [Tryz.params3] at hA hval
  obtain ⟨v0, d0, rfl, rfl, h0⟩ := trodAll_one hA
  obtain ⟨rfl, rfl⟩ := trodVars_none hV
  obtain ⟨a0, len, cap, rfl⟩ := okWide_slice Tryz.underlying22 (hval 0 22 v0 rfl rfl)
  simp only [List.append_nil] at hW'
  have hlt : ∀ x ∈ p, x.block < W.heap.size := fun x hx => by simpa using hW'.lt x hx
  refine (callsWorthsTold (tabWorthsTold hL) h0).mono fun e W' ⟨he, hb⟩ => ?_
  subst he
  have hargs : DataW.Trod enc Tryz.prog W' 0 (fun b => decide (b < W.heap.size)) true 22 (.slice a0 len cap) d0 p :=
    Below.trod laidOutWorthsTold (by kernel_rfl) (of_decide_eq_true (by kernel_rfl)) h0 hb hlt
  exact ⟨_, rfl, _, _, _, [], p, [], hW', trodAll_mk1 (shut_bool Tryz.underlying4 _), trodAll_mk1 hargs, rfl, hb.frame _, fun h => by cases h⟩
theorem holdsWorthsTold : Rows.WorthsToldSaid :=
  OpenClaim.holds_of_wide 3 Tryz.f3 rfl rfl rfl rfl rfl rfl rfl ⟨rfl, rfl, rfl, rfl, rfl⟩ rfl rfl rfl rfl rfl (by kernel_rfl) Tryz.func3 (by kernel_rfl)
    (of_decide_eq_true (by kernel_rfl)) (by unfold Func.isWrapper; first | (rw [if_pos (by decide +kernel)]; kernel_rfl) | (rw [if_neg (by decide +kernel)]; exact ⟨rfl, rfl⟩))
    (fun os started H enc _ => liftedWorthsTold os started H enc)
theorem cardWorthsTold : Rows.WorthsToldCardSaid :=
  Claim7.holds_tied_plain_at .later [] [.data, .data, .data, .data, .pinned] true (true, "dbb541db6f8fc7d38c0f4ba6fe3c757d94dd4ae7039f456fcb680d028b8e0aa7") false holdsWorthsTold (fun _ h => by cases h) (by kernel_rfl) (fun _ h => by cases h) worthsTold_row_tie rfl ⟨rfl, rfl⟩ (by kernel_rfl) rfl
    (fun f fn hf hfn => by
      obtain rfl : f = 3 := Option.some.inj ((show Tryz.prog.funcNamed Rows.worthsToldRow.func = some 3 by kernel_rfl).symm.trans hf) |>.symm
      obtain rfl : fn = Tryz.f3 := (Option.some.inj (Tryz.func3.symm.trans hfn)).symm
      exact ⟨by kernel_rfl, fun j t ht => by
        rw [Tryz.params3] at ht
        have hm : t ∈ [22] := by simpa using Array.mem_of_getElem? ht
        have hall : ([22].all fun u => !Tryz.prog.wantsStandIn u) = true := by kernel_rfl
        exact (show Tryz.prog.wantsStandIn t = false by simpa using List.all_eq_true.1 hall t hm)⟩)
    (by kernel_rfl)
end Go.Proofs.YtnlfcjoofdjpiaaGreatDoor
end
