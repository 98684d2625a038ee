/- The statement is proved: the card of the law, out of its function's contract; no conditions. -/
import Derived.Test.YtmgbigiegjlieaaGreatDoorPPickTexts3
import Derived.Ground.Names2Prog
import Derived.Handed
import Derived.LaidMore
import Derived.Laws.Cover4
import Derived.Lay
import Derived.OpenShut
import Derived.ProofKit
import Derived.SevenTiedAt
import Derived.Shelf.Slices.CompactS
import Derived.Shelf.Slices.Delete
import Derived.Shelf.Sort.Plain
import Derived.Shelf.Strconv.Atoi
import Derived.Shelf.Strconv.Itoa3
import Derived.Shelf.Strings.Count
import Derived.Shelf.Strings.Cut
import Derived.Shelf.Strings.Prefix
import Derived.Shelf.Strings.Split
import Derived.Shelf.Strings.SplitShaped
import Derived.Stop.Joined
import Derived.Test.YtmgbigiegjlieaaGreatDoorCards
import Derived.Test.YtmgbigiegjlieaaGreatDoorProg
import Derived.Test.YtmgbigiegjlieaaGreatDoorTie
set_option linter.unusedVariables false
set_option linter.unusedSimpArgs false
section
namespace Go.Proofs.YtmgbigiegjlieaaGreatDoor
open Go.HL
set_option maxRecDepth 100000
set_option linter.unusedVariables false
set_option linter.unusedSimpArgs false
/-- benchwarmer/base.Each -/
theorem c_base_Each [Tracks] {σ : Type} {S : σ → List MObj} {Inv : List Str → σ → Prop} {ok : Str → Bool} {fid : FuncId} {caps : List HVal} {st0 : σ} {text : Str}  (hca : Callable Tryz.prog fid) (hp : ∀ (done : List Str) (s : Str) (st : σ), done.length ≤ 1000000 → s.length ≤ 1000000 → Inv done st → Con Tryz.prog fid ([.str s] ++ caps) (S st) fun x M' => ∃ st', x = .bool (ok s) ∧ M' = S st' ∧ (ok s = true → Inv (done ++ [s]) st')) (h0 : Inv [] st0) (ht : text.length ≤ 1000000) : Con Tryz.prog 36 [.str text, .fn (.func fid) [] caps] (S st0) (fun x M' => ∃ st', x = .tup [.int .i64 (goL ok 0 (spl 10 text)).1, .bool (goL ok 0 (spl 10 text)).2] ∧ M' = S st' ∧ ((goL ok 0 (spl 10 text)).2 = true → Inv (lns text) st')) := by
 have hll := linesL_many text
 refine Con.of_body Tryz.func36 rfl Tryz.ntmps36 rfl rfl ?_
 refine hw_reg ?_
 refine dp rfl (pop_assign rfl) ?_
 refine dp rfl (pop_assign rfl) ?_
 refine dn ?_
 refine hw_reg ?_
 refine dp rfl (pop_move rfl) ?_
 refine dp rfl (pop_call ca65 rfl (WeakL.refl _) (c_base_Lines (by first | assumption | omega | (simp; omega) | simp_all))) ?_
 refine dp rfl (pop_move rfl) ?_
 refine dp rfl (pop_extract rfl rfl) ?_
 refine dp rfl (pop_extract rfl rfl) ?_
 refine dp rfl (pop_assign rfl) ?_
 refine dp rfl (pop_assign rfl) ?_
 refine dn ?_
 refine hw_seq ?_
 refine hw_reg ?_
 refine dp rfl (pop_move rfl) ?_
 refine dp rfl (pop_lenm ty26 rfl) ?_
 refine dp rfl (pop_move rfl) ?_
 refine dn ?_
 refine hw_block ?_
 refine hw_loopw2 [4, 5, 8, 9, 17, 18, 19, 20, 21, 22, 23, 24, 25, 26, 27, 28, 29, 30, 31, 32, 33, 34, 35, 36, 37, 38] (fun (k : Nat) (st : σ) => [(17, .int .i64 k)]) (fun (k : Nat) (st : σ) => (S st)) (fun (k : Nat) (st : σ) => k ≤ (linesL text).length ∧ (Inv ((linesL text).take k) st ∧ goL ok 0 (spl 10 text) = eachP ok (linesE text) (linesL text).length k ((linesL text).drop k))) (fun (k : Nat) (st : σ) => (linesL text).length - k) (0) (st0) ?_ ?_ ?_ ?_
 ·exact ⟨Nat.zero_le _, h0, (eachP_goL ok text).symm⟩
 ·exact ⟨rfl, trivial⟩
 ·exact perm_eq rfl
 ·intro k st hinv
  obtain ⟨hk, ⟨hq, hg⟩⟩ := hinv
  refine hw_reg ?_
  refine dp rfl (pop_lss rfl rfl) ?_
  refine dn ?_
  refine hw_seq ?_
  refine hw_cond rfl (fun h1 => ?_) (fun h2 => ?_)
  ·try simp at h1
   obtain ⟨x, hx⟩ : ∃ x, (linesL text)[k]? = some x := ⟨_, List.getElem?_eq_getElem h1⟩
   have hdx := drop_cons hx
   rw [hdx, eachP_cons] at hg
   refine hw_skip ?_
   refine seqQ_n ?_
   refine hw_seq ?_
   refine hw_block ?_
   refine hw_reg ?_
   refine dp rfl (pop_move rfl) ?_
   refine dp rfl (pop_idx ty26 ty9 rfl rfl rfl (by first | assumption | simp_all)) ?_
   refine dp rfl (pop_load ty9 rfl rfl rfl) ?_
   refine dp rfl (pop_assign rfl) ?_
   refine dp rfl (pop_assign rfl) ?_
   refine dn ?_
   refine hw_reg ?_
   refine dp rfl (pop_move rfl) ?_
   refine dp rfl (pop_not rfl) ?_
   refine dp rfl (pop_move rfl) ?_
   refine dg rfl rfl (fun hc => ⟨_, OpenTo.refl _, pop_move rfl⟩) ?_
   refine dg rfl rfl (fun hc => ⟨_, OpenTo.refl _, pop_move rfl⟩) ?_
   refine dg rfl rfl (fun hc => ⟨_, OpenTo.upd (t := 26) rfl (by first | exact hc | simp_all) (OpenTo.refl _), pop_lenm ty26 rfl⟩) ?_
   refine dg rfl rfl (fun hc => by have hq := hc; (try simp at hq); exact ⟨_, OpenTo.upd (t := 27) rfl (by first | exact hc | simp_all) (OpenTo.refl _), pop_sub64 rfl rfl (by omega) (by omega)⟩) ?_
   refine dg rfl rfl (fun hc => ⟨_, OpenTo.upd (t := 28) rfl (by first | exact hc | simp_all) (OpenTo.upd (t := 25) rfl (by first | exact hc | simp_all) (OpenTo.refl _)), pop_eql rfl rfl⟩) ?_
   refine dp rfl (pop_picko rfl (.inr ⟨_, rfl, fun h => by simp_all⟩) (.inl rfl)) ?_
   refine dp rfl (pop_move rfl) ?_
   refine dg rfl rfl (fun hc => ⟨_, OpenTo.refl _, pop_move rfl⟩) ?_
   refine dg rfl rfl (fun hc => ⟨_, OpenTo.refl _, pop_move rfl⟩) ?_
   refine dgx (fun xq M' => ∃ st', xq = .bool (ok x) ∧ M' = S st' ∧ ((!(linesE text) && decide ((k : Int) = ((linesL text).length : Int) - 1)) = false → ok x = true → Inv ((linesL text).take k ++ [x]) st')) rfl rfl (fun hc => ⟨_, st, rfl, rfl, fun h => (by simp_all)⟩) (fun hc => ⟨_, OpenTo.upd (t := 33) rfl (by first | exact hc | simp_all) (OpenTo.upd (t := 32) rfl (by first | exact hc | simp_all) (OpenTo.refl _)), EOp.mono (fun _ _ ⟨st', h1, h2, h3⟩ => ⟨st', h1, h2, fun _ => h3⟩) (eop_callv hca rfl rfl (WeakL.refl _) (hp ((linesL text).take k) x st (by rw [List.length_take]; omega) (Nat.le_trans (linesL_len x (List.mem_of_getElem? hx)) ht) hq))⟩) ?_
   rintro _ _ ⟨st2, rfl, rfl, hst2⟩
   refine dg rfl rfl (fun hc => ⟨_, OpenTo.upd (t := 34) rfl (by first | exact hc | simp_all) (OpenTo.refl _), pop_not rfl⟩) ?_
   refine dp rfl (pop_picko rfl (.inl rfl) (.inr ⟨_, rfl, fun h => by simp_all⟩)) ?_
   refine dn ?_
   refine hw_cond rfl (fun h3 => ?_) (fun h4 => ?_)
   ·try simp at h3
    refine hw_reg ?_
    refine dp rfl (pop_move rfl) ?_
    refine dp rfl (pop_assign rfl) ?_
    refine dp rfl (pop_assign rfl) ?_
    refine dn ?_
    refine hw_ret ?_
    first
    | (have hgf : goL ok 0 (spl 10 text) = ((k : Int), false) := hg.trans (if_pos (by simp; simpa using h3))
       exact ret_q rfl ⟨st2, by rw [hgf]; rfl, rfl, fun h => by rw [hgf] at h; cases h⟩)
    | (refine ret_q rfl ⟨st, ?_, rfl, fun h => ?_⟩
       ·rw [hg]; rfl
       ·rw [eachP_true h]; exact hq)
   ·try simp at h4
    refine hw_skip ?_
    refine blockQ_n ?_
    refine seqQ_n ?_
    refine hw_reg1 ?_
    refine dp rfl (pop_add64 rfl rfl (by omega) (by omega)) ?_
    refine dp rfl (pop_move rfl) ?_
    refine dn ?_
    exact ⟨k + 1, st2, ⟨by omega, (by simp_all [take_snoc' hx]), (by simp_all)⟩, by dsimp only; omega, ⟨rfl, trivial⟩, (by repeat (first | exact keeps_refl | refine keeps_upd rfl ?_ | refine keeps_loop rfl rfl ?_)), perm_eq rfl⟩
  ·try simp at h2
   have hnk : (linesL text).length ≤ k := by omega
   obtain rfl : k = (linesL text).length := by omega
   rw [drop_all (Nat.le_refl _)] at hg
   rw [List.take_length] at hq
   refine hw_exit ?_
   refine seqQ_x ?_
   refine loopQ2_x ?_
   refine blockQ_eq ?_
   refine seqQ_n ?_
   refine hw_reg ?_
   refine dp rfl (pop_assign rfl) ?_
   refine dp rfl (pop_assign rfl) ?_
   refine dn ?_
   refine hw_ret ?_
   first
   | (have hgf : goL ok 0 (spl 10 text) = ((k : Int), false) := hg.trans (if_pos (by simp; simpa using h3))
      exact ret_q rfl ⟨st2, by rw [hgf]; rfl, rfl, fun h => by rw [hgf] at h; cases h⟩)
   | (refine ret_q rfl ⟨st, ?_, rfl, fun h => ?_⟩
      ·rw [hg]; rfl
      ·rw [eachP_true h]; exact hq)

/-- benchwarmer/benchref1.Lines -/
theorem c_benchref1_Lines [Tracks] {σ : Type} {S : σ → List MObj} {Inv : List Str → σ → Prop} {ok : Str → Bool} {fid : FuncId} {caps : List HVal} {st0 : σ} {text : Str}  (hca : Callable Tryz.prog fid) (hp : ∀ (done : List Str) (s : Str) (st : σ), done.length ≤ 1000000 → s.length ≤ 1000000 → Inv done st → Con Tryz.prog fid ([.str s] ++ caps) (S st) fun x M' => ∃ st', x = .bool (ok s) ∧ M' = S st' ∧ (ok s = true → Inv (done ++ [s]) st')) (h0 : Inv [] st0) (ht : text.length ≤ 1000000) : Con Tryz.prog 39 [.str text, .fn (.func fid) [] caps] (S st0) (fun x M' => ∃ st', x = .tup [.int .i64 (goL ok 0 (spl 10 text)).1, .bool (goL ok 0 (spl 10 text)).2] ∧ M' = S st' ∧ ((goL ok 0 (spl 10 text)).2 = true → Inv (lns text) st')) := by
 refine Con.of_body Tryz.func39 rfl Tryz.ntmps39 rfl rfl ?_
 refine hw_reg ?_
 refine dp rfl (pop_assign rfl) ?_
 refine dp rfl (pop_assign rfl) ?_
 refine dn ?_
 refine hw_seq ?_
 refine hw_reg ?_
 refine dp rfl (pop_assign rfl) ?_
 refine dn ?_
 refine hw_block ?_
 refine hw_loopw4 [0, 4, 5, 6, 7, 8, 9, 10, 11, 12, 13, 14, 15, 16, 17, 18, 19, 20, 21, 22, 23, 24, 25, 26, 27, 28, 29] (fun (k : Nat) (t : Str) (st : σ) (done : List Str) => [(6, .int .i64 (k : Int)), (0, .str t)]) (fun (k : Nat) (t : Str) (st : σ) (done : List Str) => (S st)) (fun (k : Nat) (t : Str) (st : σ) (done : List Str) => goL ok 0 (spl 10 text) = goL ok k (spl 10 t) ∧ lns text = done ++ lns t ∧ Inv done st ∧ done.length = k ∧ k + t.length ≤ text.length) (fun (k : Nat) (t : Str) (st : σ) (done : List Str) => t.length) (0) (text) (st0) ([]) ?_ ?_ ?_ ?_
 ·exact ⟨rfl, rfl, h0, rfl, by omega⟩
 ·exact ⟨rfl, rfl, trivial⟩
 ·exact perm_eq rfl
 ·intro k t st done hinv
  obtain ⟨hg, hl, hq, hk, hlen⟩ := hinv
  refine hw_seq ?_
  refine hw_reg ?_
  refine dp rfl (pop_move rfl) ?_
  refine dp rfl (pop_neqs rfl rfl) ?_
  refine dn ?_
  refine hw_cond rfl (fun h1 => ?_) (fun h2 => ?_)
  ·try simp at h1
   obtain ⟨hc1, hc2, hc3⟩ := cutF_len 10 t
   refine hw_skip ?_
   refine seqQ_n ?_
   refine hw_seq ?_
   refine hw_block ?_
   refine hw_reg ?_
   refine dp rfl (pop_move rfl) ?_
   refine dp rfl (pop_call ca70 rfl (WeakL.refl _) (c_strings_Cut (c := 10) (by omega))) ?_
   refine dp rfl (pop_move rfl) ?_
   refine dp rfl (pop_extract rfl rfl) ?_
   refine dp rfl (pop_extract rfl rfl) ?_
   refine dp rfl (pop_extract rfl rfl) ?_
   refine dp rfl (pop_assign rfl) ?_
   refine dp rfl (pop_assign rfl) ?_
   refine dp rfl (pop_assign rfl) ?_
   refine dn ?_
   refine hw_seq ?_
   refine hw_reg ?_
   refine dp rfl (pop_move rfl) ?_
   refine dp rfl (pop_not rfl) ?_
   refine dp rfl (pop_move rfl) ?_
   refine dg rfl rfl (fun hc => ⟨_, OpenTo.refl _, pop_move rfl⟩) ?_
   refine dg rfl rfl (fun hc => ⟨_, OpenTo.refl _, pop_move rfl⟩) ?_
   refine dgx (fun xq M' => ∃ st', xq = .bool (ok (cutF 10 t).1) ∧ M' = S st' ∧ ((cutF 10 t).2.2 = true → ok (cutF 10 t).1 = true → Inv (done ++ [(cutF 10 t).1]) st')) rfl rfl (fun hc => ⟨_, st, rfl, rfl, fun h => (by simp_all)⟩) (fun hc => ⟨_, OpenTo.upd (t := 24) rfl (by first | exact hc | simp_all) (OpenTo.upd (t := 23) rfl (by first | exact hc | simp_all) (OpenTo.refl _)), EOp.mono (fun _ _ ⟨st', h1, h2, h3⟩ => ⟨st', h1, h2, fun _ => h3⟩) (eop_callv hca rfl rfl (WeakL.refl _) (hp done (cutF 10 t).1 st (by omega) (by omega) hq))⟩) ?_
   rintro _ _ ⟨st2, rfl, rfl, hst2⟩
   refine dg rfl rfl (fun hc => ⟨_, OpenTo.upd (t := 25) rfl (by first | exact hc | simp_all) (OpenTo.refl _), pop_not rfl⟩) ?_
   refine dp rfl (pop_picko rfl (.inl rfl) (.inr ⟨_, rfl, fun h => by simp_all⟩)) ?_
   refine dn ?_
   refine hw_cond rfl (fun h3 => ?_) (fun h4 => ?_)
   ·try simp at h3
    refine hw_reg ?_
    refine dp rfl (pop_move rfl) ?_
    refine dp rfl (pop_assign rfl) ?_
    refine dp rfl (pop_assign rfl) ?_
    refine dn ?_
    refine hw_ret ?_
    first
    | (have hgf : goL ok 0 (spl 10 text) = ((k : Int), false) := hg.trans (goL_f h1 (fun hh => by simpa [hh] using h3))
       exact ret_q rfl ⟨st2, by rw [hgf]; rfl, rfl, fun h => by rw [hgf] at h; cases h⟩)
    | (subst h2
       exact ret_q rfl ⟨st, by rw [hg]; rfl, rfl, fun h => by rw [hl]; simpa [lns, spl] using hq⟩)
   ·try simp at h4
    refine hw_skip ?_
    refine seqQ_n ?_
    refine hw_reg1 ?_
    refine dp rfl (pop_move rfl) ?_
    refine dp rfl (pop_assign rfl) ?_
    refine dn ?_
    refine blockQ_n ?_
    refine seqQ_n ?_
    refine hw_reg1 ?_
    refine dp rfl (pop_move rfl) ?_
    refine dp rfl (pop_add64 rfl rfl (by omega) (by omega)) ?_
    refine dp rfl (pop_assign rfl) ?_
    refine dn ?_
    obtain ⟨h4a, h4b⟩ := h4
    have hc4 := hc3 h4a
    exact ⟨k + 1, (cutF 10 t).2.1, st2, done ++ [(cutF 10 t).1], ⟨hg.trans ((goL_cut h1 h4a).trans (if_pos h4b)), by rw [hl, lns_cut h4a]; simp, hst2 h4a h4b, by simp [hk], by omega⟩, by dsimp only; omega, ⟨rfl, rfl, trivial⟩, (by repeat (first | exact keeps_refl | refine keeps_upd rfl ?_ | refine keeps_loop rfl rfl ?_)), perm_eq rfl⟩
  ·try simp at h2
   refine hw_exit ?_
   refine seqQ_x ?_
   refine loopQ4_x ?_
   refine blockQ_eq ?_
   refine seqQ_n ?_
   refine hw_reg ?_
   refine dp rfl (pop_assign rfl) ?_
   refine dp rfl (pop_assign rfl) ?_
   refine dn ?_
   refine hw_ret ?_
   first
   | (have hgf : goL ok 0 (spl 10 text) = ((k : Int), false) := hg.trans (goL_f h1 (fun hh => by simpa [hh] using h3))
      exact ret_q rfl ⟨st2, by rw [hgf]; rfl, rfl, fun h => by rw [hgf] at h; cases h⟩)
   | (subst h2
      exact ret_q rfl ⟨st, by rw [hg]; rfl, rfl, fun h => by rw [hl]; simpa [lns, spl] using hq⟩)
end Go.Proofs.YtmgbigiegjlieaaGreatDoor
end
section
namespace Go.HL
def pickF (p : Pick) : Int := if out p.No 0 600 then 1 else if !(key p.Team) || !(key p.Player) then 5 else if !(moment p.At) then 1 else 0
def pickFs : List Pick → Int
 | [] => 0
 | p :: r => if pickF p ≠ 0 then pickF p else pickFs r
def pickLE (l : List Pick) : Int := if (600 : Int) < (l.length : Int) then 2 else pickFs l
theorem pickFs_cons (p : Pick) (r : List Pick) : pickFs (p :: r) = if pickF p ≠ 0 then pickF p else pickFs r := rfl
def autoS : Str := [97, 117, 116, 111]
def pickW (p : Pick) : List Str := [Lib.itoa p.No, p.Team, p.Player, Lib.itoa p.At] ++ (if p.Auto then [autoS] else [])
def pickLn (p : Pick) : Str := jn 32 (pickW p) ++ [10]
def pickT (l : List Pick) : Str := (l.map pickLn).flatten
theorem pickT_snoc (l : List Pick) (p : Pick) : pickT (l ++ [p]) = pickT l ++ pickLn p := by simp [pickT]
theorem pickLE_z {l : List Pick} (h : pickLE l = 0) : l.length ≤ 600 ∧ pickFs l = 0 := by
 unfold pickLE at h
 split at h
 ·cases h
 ·exact ⟨by omega, h⟩
theorem pickFs_z : ∀ {l : List Pick}, pickFs l = 0 → ∀ p ∈ l, pickF p = 0
 | [], _, p, hp => by cases hp
 | q :: r, h, p, hp => by
   rw [pickFs_cons] at h
   by_cases hq : pickF q = 0
   ·rw [if_neg (by simp [hq])] at h
    rcases List.mem_cons.1 hp with rfl | hp
    ·exact hq
    ·exact pickFs_z h p hp
   ·rw [if_pos hq] at h; exact absurd h hq
theorem pickF_z {p : Pick} (h : pickF p = 0) : (0 ≤ p.No ∧ p.No ≤ 600) ∧ key p.Team = true ∧ key p.Player = true ∧ (0 ≤ p.At ∧ p.At ≤ 345686399999) := by
 unfold pickF at h
 split at h
 ·cases h
 ·rename_i h1
  split at h
  ·cases h
  ·rename_i h2
   split at h
   ·cases h
   ·rename_i h3
    have a1 := out_f (by simpa using h1 : out p.No 0 600 = false)
    have a3 := out_f (by simpa [moment] using h3 : out p.At 0 345686399999 = false)
    simp at h2
    exact ⟨a1, h2.1, h2.2, a3⟩
theorem key_len {s : Str} (h : key s = true) : s.length ≤ 40 := by
 unfold key keyHd at h
 simp only [Bool.and_eq_true, decide_eq_true_eq] at h
 exact h.1.1.1.2
theorem itoa_nat_len {n : Int} (h0 : 0 ≤ n) (h : n < 10000000000000) : (Lib.itoa n).length ≤ 13 := by
 obtain ⟨u, rfl⟩ : ∃ u : Nat, n = (u : Int) := ⟨n.toNat, by omega⟩
 rw [Lib.itoa_nonneg, Lib.decDigits_length]; exact nDigits_le 12 u (by omega)
theorem pickLn_eq (p : Pick) : pickLn p = Lib.itoa p.No ++ [32] ++ p.Team ++ [32] ++ p.Player ++ [32] ++ Lib.itoa p.At ++ (if p.Auto then 32 :: autoS else []) ++ [10] := by
 unfold pickLn pickW
 cases p.Auto <;> simp [jn]
theorem pickLn_len {p : Pick} (h : pickF p = 0) : (pickLn p).length ≤ 120 := by
 obtain ⟨h1, h2, h3, h4⟩ := pickF_z h
 have a1 := itoa_nat_len h1.1 (by omega)
 have a2 := itoa_nat_len h4.1 (by omega)
 have a3 := key_len h2
 have a4 := key_len h3
 rw [pickLn_eq]
 have : (if p.Auto then 32 :: autoS else ([] : Str)).length ≤ 5 := by split <;> simp [autoS]
 simp only [List.length_append, List.length_cons, List.length_nil]
 omega
theorem pickT_len {l : List Pick} : (∀ p ∈ l, pickF p = 0) → (pickT l).length ≤ 120 * l.length := by
 induction l with
 | nil => intro _; simp [pickT]
 | cons p r ih =>
   intro h
   have h1 := pickLn_len (h p (by simp))
   have h2 := ih fun q hq => h q (by simp [hq])
   simp only [pickT, List.map_cons, List.flatten_cons, List.length_append, List.length_cons] at h2 ⊢
   omega
theorem pickW_len (p : Pick) : (pickW p).length ≤ 5 := by unfold pickW; cases p.Auto <;> simp
def textS (l : List Pick) : Str := if pickLE l = 0 then pickT l else []
/-- A line as a pick, and whether it is one. -/
def rpC (line : Str) : Bool := (spl 32 line).all (fun w => !w.isEmpty) && !(out ((spl 32 line).length : Int) 4 5)
def rpB (line : Str) : Bool := rpC line && (numB ((spl 32 line).getD 0 []) 15 && numB ((spl 32 line).getD 3 []) 15) && (!(((((spl 32 line).length : Nat) : Int) == 5)) || ((spl 32 line).getD 4 [] == autoS))
def pickZ : Pick := ⟨0, [], [], 0, false⟩
def rpP (line : Str) : Pick := if rpC line then ⟨numR ((spl 32 line).getD 0 []) 15, (spl 32 line).getD 1 [], (spl 32 line).getD 2 [], numR ((spl 32 line).getD 3 []) 15, ((((spl 32 line).length : Nat) : Int) == 5)⟩ else pickZ
theorem wordsB_n (line : Str) : wordsB line ((line.count 32 : Nat) + 1 : Int) = (spl 32 line).all (fun w => !w.isEmpty) := by
 unfold wordsB; rw [spl_len]; simp
theorem rpC_t {line : Str} (h : wordsB line ((line.count 32 : Nat) + 1 : Int) = true ∧ out ((wordsL line ((line.count 32 : Nat) + 1 : Int)).length : Int) 4 5 = false) :
 wordsL line ((line.count 32 : Nat) + 1 : Int) = spl 32 line ∧ wordsB line ((line.count 32 : Nat) + 1 : Int) = true ∧ rpC line = true ∧ 4 ≤ (spl 32 line).length ∧ (spl 32 line).length ≤ 5 := by
 obtain ⟨h1, h2⟩ := h
 have e : wordsL line ((line.count 32 : Nat) + 1 : Int) = spl 32 line := by unfold wordsL; rw [if_pos h1]
 rw [e] at h2
 have h3 := out_f h2
 refine ⟨e, h1, ?_, by omega, by omega⟩
 unfold rpC
 rw [← wordsB_n, h1, h2]; rfl
theorem rpC_f {line : Str} (h : wordsB line ((line.count 32 : Nat) + 1 : Int) = true → out ((wordsL line ((line.count 32 : Nat) + 1 : Int)).length : Int) 4 5 = true) : rpC line = false := by
 unfold rpC
 rw [← wordsB_n]
 cases h1 : wordsB line ((line.count 32 : Nat) + 1 : Int) with
 | false => rfl
 | true =>
   have h2 := h h1
   unfold wordsL at h2
   rw [if_pos h1] at h2
   rw [h2]; rfl
theorem rp_f {line : Str} (h : rpC line = false) : rpB line = false ∧ rpP line = pickZ := by
 simp [rpB, rpP, h]
theorem spl_getD_len {line : Str} (j : Nat) : ((spl 32 line).getD j []).length ≤ line.length := by
 rw [List.getD_eq_getElem?_getD]
 cases h : (spl 32 line)[j]? with
 | none => simp
 | some x => exact spl_mem_len 32 line x (List.mem_of_getElem? h)
theorem contains_nil (l : List Str) : l.contains [] = !(l.all fun w => !w.isEmpty) := by
 induction l with
 | nil => rfl
 | cons x r ih =>
   rw [List.contains_cons, ih, List.all_cons]
   cases x <;> simp
/-- The reference's line: what it refuses, and what it takes. -/
theorem rr_f {line : Str} (h : (spl 32 line).contains [] = false → ((spl 32 line).length : Int) ≠ 4 ∧ (((spl 32 line).length : Int) = 5 → (spl 32 line).getD 4 [] ≠ autoS)) : rpB line = false := by
 unfold rpB rpC
 rw [contains_nil] at h
 cases ha : (spl 32 line).all (fun w => !w.isEmpty) with
 | false => rfl
 | true =>
   rw [ha] at h
   obtain ⟨h1, h2⟩ := h rfl
   by_cases h5 : ((spl 32 line).length : Int) = 5
   ·have h3 := h2 h5
    have : ((spl 32 line).getD 4 [] == autoS) = false := by rw [beq_eq_false_iff_ne]; exact h3
    have e5 : ((((spl 32 line).length : Nat) : Int) == 5) = true := by simpa using h5
    rw [this, e5]; simp
   ·have : out ((spl 32 line).length : Int) 4 5 = true := by
     unfold out; simp; omega
    rw [this]; rfl
theorem rr_t {line : Str} (h : (spl 32 line).contains [] = false ∧ (((spl 32 line).length : Int) = 4 ∨ (((spl 32 line).length : Int) = 5 ∧ (spl 32 line).getD 4 [] = autoS))) :
 (4 ≤ (spl 32 line).length ∧ (spl 32 line).length ≤ 5) ∧ rpC line = true ∧ rpB line = intsB [(spl 32 line).getD 0 [], (spl 32 line).getD 3 []] 15 := by
 obtain ⟨h1, h2⟩ := h
 rw [contains_nil, Bool.not_eq_false'] at h1
 have hl : 4 ≤ (spl 32 line).length ∧ (spl 32 line).length ≤ 5 := by omega
 have ho : out ((spl 32 line).length : Int) 4 5 = false := by unfold out; simp; omega
 have hc : rpC line = true := by unfold rpC; rw [h1, ho]; rfl
 refine ⟨hl, hc, ?_⟩
 unfold rpB
 rw [hc, (num_int _ _).1, (num_int _ _).1]
 have h5 : (!(((((spl 32 line).length : Nat) : Int) == 5)) || ((spl 32 line).getD 4 [] == autoS)) = true := by
  rcases h2 with h2 | ⟨h2, h3⟩
  ·have : ((((spl 32 line).length : Nat) : Int) == 5) = false := by rw [beq_eq_false_iff_ne]; omega
   rw [this]; rfl
  ·rw [h3]; simp
 rw [h5]
 simp [intsB]
theorem rr_g {line : Str} (h : [] ∈ spl 32 line ∨ ¬((spl 32 line).length : Int) = 4 ∧ (¬((spl 32 line).length : Int) = 5 ∨ ¬(spl 32 line)[4]?.getD [] = [97, 117, 116, 111])) : rpB line = false := by
 refine rr_f fun hc => ?_
 rcases h with h | ⟨h1, h2⟩
 ·rw [List.contains_iff_mem.2 h] at hc; cases hc
 ·refine ⟨h1, fun h5 e => ?_⟩
  rcases h2 with h2 | h2
  ·exact h2 h5
  ·rw [List.getD_eq_getElem?_getD] at e; exact h2 e
theorem rr_t' {line : Str} (h : ¬[] ∈ spl 32 line ∧ (¬((spl 32 line).length : Int) = 4 → ((spl 32 line).length : Int) = 5 ∧ (spl 32 line)[4]?.getD [] = [97, 117, 116, 111])) :
 (4 ≤ (spl 32 line).length ∧ (spl 32 line).length ≤ 5) ∧ rpC line = true ∧ rpB line = intsB [(spl 32 line).getD 0 [], (spl 32 line).getD 3 []] 15 := by
 obtain ⟨h1, h2⟩ := h
 refine rr_t ⟨?_, ?_⟩
 ·cases hc : (spl 32 line).contains [] with
  | false => rfl
  | true => exact absurd (List.contains_iff_mem.1 hc) h1
 ·by_cases h4 : ((spl 32 line).length : Int) = 4
  ·exact .inl h4
  ·obtain ⟨a, b⟩ := h2 h4
   exact .inr ⟨a, by rw [List.getD_eq_getElem?_getD]; exact b⟩
theorem rr_p {line : Str} (hc : rpC line = true) (h : rpB line = true) : rpP line = ⟨intR ((spl 32 line).getD 0 []) 15, (spl 32 line).getD 1 [], (spl 32 line).getD 2 [], intR ((spl 32 line).getD 3 []) 15, ((((spl 32 line).length : Nat) : Int) == 5)⟩ ∧
 intsL [(spl 32 line).getD 0 [], (spl 32 line).getD 3 []] 15 = [intR ((spl 32 line).getD 0 []) 15, intR ((spl 32 line).getD 3 []) 15] := by
 unfold rpB at h
 simp only [Bool.and_eq_true] at h
 obtain ⟨⟨_, h1, h2⟩, _⟩ := h
 have n1 := num_int ((spl 32 line).getD 0 []) 15
 have n2 := num_int ((spl 32 line).getD 3 []) 15
 obtain ⟨a1, a2⟩ := n1.2 h1
 obtain ⟨b1, b2⟩ := n2.2 h2
 refine ⟨?_, ?_⟩
 ·unfold rpP; rw [if_pos hc, a1, a2, b1, b2]
 ·unfold intsL
  rw [if_pos (by simp only [intsB, List.all_cons, List.all_nil, ← n1.1, ← n2.1, h1, h2]; rfl)]; rfl
/-- What is read of a text. -/
def prB (text : Str) : Bool := (goL rpB 0 (spl 10 text)).2
def prL (text : Str) : List Pick := (lns text).map rpP
def prE (text : Str) : Int := if (200000 : Int) < (text.length : Int) then 2 else if prB text then pickLE (prL text) else 9
def prI (text : Str) : Int := if (200000 : Int) < (text.length : Int) then 0 else if prB text then 0 else (goL rpB 0 (spl 10 text)).1
def prP (text : Str) : List Pick := if prE text = 0 then prL text else []
end Go.HL
end
section
namespace Go.HL
variable {P : Program}
theorem eop_buildSliceA [Tracks] {e : Env} {dst : Option Tmp} {ty : TypeId} {pos : String} {af : Array Edge} {g : Option (Nat × Bool)} {M : List MObj} {K : HVal → List MObj → Prop} {t el : TypeId} {size bytes sz b2 n : Nat} {zero z2 : Value} {d : TD} {parts : Array (Nat × Operand)} {hs : List HVal}
 (hf : Fits P t (.slice el) size bytes zero) (hel : Fits P el d sz b2 z2) (hz : z2.cells.size = sz) (hn : parts.toList.length = n) (hsz : n * sz ≤ 16777216) (h0 : n * sz ≠ 0)
 (hr : partsL e sz 0 parts.toList = some hs) (hk : ∀ v, K (.raw v) (.arr v sz hs :: M)) : EOp P e M ⟨dst, .buildSlice t n parts, ty, pos, af, g⟩ K :=
 EOp.of_run fun I F a w ho hs' => by
  let zr : Array Value := (Array.range (n * sz)).map (z2.cells[· % z2.cells.size]!)
  obtain ⟨rc, h1, h2, h3, h4, h5, h6⟩ := partsL_run (I := I) (f := a.eval) parts.toList 0 hs zr hr (fun x hx h hh => ho.one (by simpa [Op.operands] using hx) hh) (by simp [zr, hn])
  have hl : hs.length = n := by omega
  have hpos : 0 < sz := by
   rcases Nat.eq_zero_or_pos sz with h | h
   ·rw [h] at h0; simp at h0
   ·exact h
  have hnle : n ≤ n * sz := Nat.le_mul_of_pos_right n hpos
  refine ⟨.slice (some ⟨w.heap.size, 0, none⟩) n n, .raw (.slice (some ⟨w.heap.size, 0, none⟩) n n), _, push w (.cells rc el (0, 0)), I, ?_, .refl I, hk _, .raw _ rfl, ?_⟩
  ·have hp : (parts.map fun x => (x.1, a.eval x.2)).toList = parts.toList.map fun p => (p.1, a.eval p.2) := by simp
   have hle : ¬ n * sz > 2 ^ 24 := by omega
   simp only [execOp, Instr.buildSlice, Sem.run_bind, run_underlying hf.slice, Result.andThen_ok, hel.run_sizeOf]
   rw [if_neg hle]
   simp only [Sem.run_pure, Result.andThen_ok]
   rw [if_neg h0]
   simp only [Sem.run_bind, hel.run_zero, Result.andThen_ok, Sem.run_pure, hp]
   have h1' : Instr.fill (fun i => some (i * sz, sz)) ((Array.range (n * sz)).map fun x => z2.cells[x % z2.cells.size]!) (parts.toList.map fun p => (p.1, a.eval p.2)) = some rc := h1
   rw [h1']
   simp [newRow]
  ·have hrc : rc.size = n * sz := by rw [h2]; simp [zr]
   exact hs'.new_own (.cells rc el (0, 0)) (.arr (.slice (some ⟨w.heap.size, 0, none⟩) n n) sz hs) rfl (.inr ⟨w.heap.size, 0, n, rc, el, (0, 0), by rw [hl], by simp [push], Free.zero _, h5, ⟨by omega, by omega⟩, by omega, fun i j x c v b1 b2 b3 => h6 i j x c v b1 b2 (by simpa using b3)⟩)
end Go.HL
end
section
namespace Go.Proofs.YtmgbigiegjlieaaGreatDoor
open Go.HL
set_option maxRecDepth 100000
set_option linter.unusedVariables false
set_option linter.unusedSimpArgs false
/-- benchwarmer/draft.pickFault -/
theorem c_draft_pickFault [Tracks] {p : Pick}  : ConP Tryz.prog 62 [ePick p] (.int .i64 (pickF p)) := by
 refine Con.of_body Tryz.func62 rfl Tryz.ntmps62 rfl rfl ?_
 refine hw_reg ?_
 refine dp rfl (pop_box rfl rfl) ?_
 refine dp rfl (pop_assign rfl) ?_
 refine dn ?_
 refine hw_seq ?_
 refine hw_block ?_
 refine hw_reg ?_
 refine dp rfl (pop_fieldAddr ty36 rfl ty3 (by decide) rfl) ?_
 refine dp rfl (pop_load ty3 rfl rfl rfl) ?_
 refine dp rfl (pop_call ca68 rfl (WeakL.refl _) c_base_Out) ?_
 refine dp rfl (pop_assign rfl) ?_
 refine dn ?_
 refine hw_cond rfl (fun h1 => ?_) (fun h2 => ?_)
 ·try simp at h1
  refine hw_reg ?_
  refine dp rfl (pop_assign rfl) ?_
  refine dn ?_
  refine hw_ret ?_
  refine ret_p rfl ?_
  show HVal.int .i64 _ = _
  unfold pickF
  simp_all
 ·try simp at h2
  refine hw_reg ?_
  refine dp rfl (pop_fieldAddr ty36 rfl ty9 (by decide) rfl) ?_
  refine dp rfl (pop_load ty9 rfl rfl rfl) ?_
  refine dp rfl (pop_call ca104 rfl (WeakL.refl _) c_base_Key) ?_
  refine dp rfl (pop_not rfl) ?_
  refine dp rfl (pop_move rfl) ?_
  refine dg rfl rfl (fun hc => ⟨_, OpenTo.refl _, pop_fieldAddr ty36 rfl ty9 (by decide) rfl⟩) ?_
  refine dg rfl rfl (fun hc => ⟨_, OpenTo.upd (t := 13) rfl (by first | exact hc | simp_all) (OpenTo.refl _), pop_load ty9 rfl rfl rfl⟩) ?_
  refine dg rfl rfl (fun hc => ⟨_, OpenTo.upd (t := 14) rfl (by first | exact hc | simp_all) (OpenTo.refl _), pop_call ca104 rfl (WeakL.refl _) c_base_Key⟩) ?_
  refine dg rfl rfl (fun hc => ⟨_, OpenTo.upd (t := 15) rfl (by first | exact hc | simp_all) (OpenTo.refl _), pop_not rfl⟩) ?_
  refine dp rfl (pop_picko rfl (.inl rfl) (.inr ⟨_, rfl, fun h => by simp_all⟩)) ?_
  refine dp rfl (pop_assign rfl) ?_
  refine dn ?_
  refine hw_cond rfl (fun h3 => ?_) (fun h4 => ?_)
  ·try simp at h3
   refine hw_reg ?_
   refine dp rfl (pop_assign rfl) ?_
   refine dn ?_
   refine hw_ret ?_
   refine ret_p rfl ?_
   show HVal.int .i64 _ = _
   unfold pickF
   simp_all
  ·try simp at h4
   refine hw_reg ?_
   refine dp rfl (pop_fieldAddr ty36 rfl ty3 (by decide) rfl) ?_
   refine dp rfl (pop_load ty3 rfl rfl rfl) ?_
   refine dp rfl (pop_call ca80 rfl (WeakL.refl _) c_base_Moment) ?_
   refine dp rfl (pop_not rfl) ?_
   refine dp rfl (pop_assign rfl) ?_
   refine dn ?_
   refine hw_cond rfl (fun h5 => ?_) (fun h6 => ?_)
   ·try simp at h5
    refine hw_reg ?_
    refine dp rfl (pop_assign rfl) ?_
    refine dn ?_
    refine hw_ret ?_
    refine ret_p rfl ?_
    show HVal.int .i64 _ = _
    unfold pickF
    simp_all
   ·try simp at h6
    refine hw_skip ?_
    refine blockQ_n ?_
    refine seqQ_n ?_
    refine hw_reg ?_
    refine dp rfl (pop_assign rfl) ?_
    refine dn ?_
    refine hw_ret ?_
    refine ret_p rfl ?_
    show HVal.int .i64 _ = _
    unfold pickF
    simp_all

/-- benchwarmer/draft.listFault -/
theorem c_draft_listFault [Tracks] {l : List Pick} (hl : l.length ≤ 1000000) : ConP Tryz.prog 30 [ePicks l] (.int .i64 (pickLE l)) := by
 refine Con.of_body Tryz.func30 rfl Tryz.ntmps30 rfl rfl ?_
 refine hw_reg ?_
 refine dp rfl (pop_assign rfl) ?_
 refine dn ?_
 refine hw_seq ?_
 refine hw_reg ?_
 refine dp rfl (pop_move rfl) ?_
 refine dp rfl (pop_lenm ty30 rfl) ?_
 refine dp rfl (pop_gtr rfl rfl) ?_
 refine dn ?_
 refine hw_cond rfl (fun h1 => ?_) (fun h2 => ?_)
 ·try simp at h1
  refine hw_reg ?_
  refine dp rfl (pop_assign rfl) ?_
  refine dn ?_
  refine hw_ret ?_
  refine ret_p rfl ?_
  show HVal.int .i64 _ = _
  first | (rw [pickLE, if_pos h1]; done) | (rw [hg, pickFs_cons, if_pos h5]; done) | (rw [hg]; rfl)
 ·try simp at h2
  refine hw_skip ?_
  refine seqQ_n ?_
  refine hw_seq ?_
  refine hw_reg ?_
  refine dp rfl (pop_move rfl) ?_
  refine dp rfl (pop_lenm ty30 rfl) ?_
  refine dp rfl (pop_move rfl) ?_
  refine dn ?_
  refine hw_block ?_
  refine hw_loopw [2, 4, 5, 11, 12, 13, 14, 15, 16, 17, 18, 19, 20] (fun (k : Nat) => [(11, .int .i64 k)]) (fun (k : Nat) => []) (fun (k : Nat) => k ≤ l.length ∧ (pickLE l = pickFs (l.drop k))) (fun (k : Nat) => l.length - k) (0) ?_ ?_ ?_ ?_
  ·refine ⟨Nat.zero_le _, ?_⟩
   rw [pickLE, if_neg (by omega)]; rfl
  ·exact ⟨rfl, trivial⟩
  ·exact List.Perm.refl _
  ·intro k hinv
   obtain ⟨hk, hg⟩ := hinv
   refine hw_reg ?_
   refine dp rfl (pop_lss rfl rfl) ?_
   refine dn ?_
   refine hw_seq ?_
   refine hw_cond rfl (fun h3 => ?_) (fun h4 => ?_)
   ·try simp at h3
    obtain ⟨x, hx⟩ : ∃ x, l[k]? = some x := ⟨_, List.getElem?_eq_getElem h3⟩
    have hdx := drop_cons hx
    rw [hdx] at hg
    refine hw_skip ?_
    refine seqQ_n ?_
    refine hw_seq ?_
    refine hw_block ?_
    refine hw_reg ?_
    refine dp rfl (pop_idx ty30 ty36 rfl rfl rfl (by first | assumption | simp_all)) ?_
    refine dp rfl (pop_loadw ty36 rfl rfl rfl rfl) ?_
    refine de rfl (eop_alloc ty36 rfl fun b4 => ?_)
    refine de0 (eop_storew ty36 rfl rfl rfl rfl rfl ?_)
    refine dn ?_
    refine hw_ghost (Ghost.fc0 4 rfl) ?_
    refine hw_reg ?_
    refine dp rfl (pop_loadw ty36 rfl rfl rfl rfl) ?_
    refine dp rfl (pop_call ca62 rfl (WeakL.refl _) c_draft_pickFault) ?_
    refine dp rfl (pop_assign rfl) ?_
    refine dn ?_
    refine hw_reg ?_
    refine dp rfl (pop_move rfl) ?_
    refine dp rfl (pop_neq rfl rfl) ?_
    refine dn ?_
    refine hw_cond rfl (fun h5 => ?_) (fun h6 => ?_)
    ·try simp at h5
     refine hw_reg ?_
     refine dp rfl (pop_move rfl) ?_
     refine dp rfl (pop_assign rfl) ?_
     refine dn ?_
     refine hw_ret ?_
     refine ret_p rfl ?_
     show HVal.int .i64 _ = _
     first | (rw [pickLE, if_pos h1]; done) | (rw [hg, pickFs_cons, if_pos h5]; done) | (rw [hg]; rfl)
    ·try simp at h6
     refine hw_skip ?_
     refine blockQ_n ?_
     refine seqQ_n ?_
     refine hw_reg1 ?_
     refine dp rfl (pop_add64 rfl rfl (by omega) (by omega)) ?_
     refine dp rfl (pop_move rfl) ?_
     refine dn ?_
     refine ⟨k + 1, ?_, ?_, ⟨rfl, trivial⟩, (by repeat (first | exact keeps_refl | refine keeps_upd rfl ?_ | refine keeps_loop rfl rfl ?_)), List.Perm.refl _⟩
     ·refine ⟨by omega, ?_⟩
      rw [hg, pickFs_cons, if_neg (by simpa using h6)]
     ·dsimp only; omega
   ·try simp at h4
    have hnk : l.length ≤ k := by omega
    obtain rfl : k = l.length := by omega
    rw [drop_all (Nat.le_refl _)] at hg
    refine hw_exit ?_
    refine seqQ_x ?_
    refine loopQ_x ?_
    refine blockQ_eq ?_
    refine seqQ_n ?_
    refine hw_reg ?_
    refine dp rfl (pop_assign rfl) ?_
    refine dn ?_
    refine hw_ret ?_
    refine ret_p rfl ?_
    show HVal.int .i64 _ = _
    first | (rw [pickLE, if_pos h1]; done) | (rw [hg, pickFs_cons, if_pos h5]; done) | (rw [hg]; rfl)

/-- benchwarmer/benchref1.Key -/
theorem c_benchref1_Key_u [Tracks] {s : Str}  : ConP Tryz.prog 28 [.str s] (.bool (key s)) := by
 refine Con.of_body Tryz.func28 rfl Tryz.ntmps28 rfl rfl ?_
 refine hw_reg ?_
 refine dp rfl (pop_assign rfl) ?_
 refine dn ?_
 refine hw_reg ?_
 refine dp rfl (pop_move rfl) ?_
 refine dp rfl (pop_lens ty9 rfl) ?_
 refine dp rfl (pop_call ca27 rfl (WeakL.refl _) c_benchref1_in) ?_
 refine dp rfl (pop_move rfl) ?_
 refine dg rfl rfl (fun hc => ⟨_, OpenTo.refl _, pop_move rfl⟩) ?_
 refine dg rfl rfl (fun hc => by
  have hs40 := out_f (n := (s.length : Int)) (lo := 1) (hi := 40) (by simpa using hc)
  exact ⟨_, OpenTo.upd (t := 7) rfl (by first | exact hc | simp_all) (OpenTo.refl _), pop_call ca59 rfl (WeakL.refl _) (c_strings_Trim (l := cut38) (by omega) (by decide) (by decide) (by decide))⟩) ?_
 refine dg rfl rfl (fun hc => ⟨_, OpenTo.upd (t := 8) rfl (by first | exact hc | simp_all) (OpenTo.refl _), pop_eqls rfl rfl⟩) ?_
 refine dp rfl (pop_picko rfl (.inr ⟨_, rfl, fun h => by simp_all⟩) (.inl rfl)) ?_
 refine dp rfl (pop_move rfl) ?_
 refine dg rfl rfl (fun hc => ⟨_, OpenTo.refl _, pop_move rfl⟩) ?_
 refine dg rfl rfl (fun hc => ⟨_, OpenTo.upd (t := 12) rfl (by first | exact hc | simp_all) (OpenTo.refl _), pop_indexs (j := 0) (b := s.headD 0) ty9 rfl rfl rfl (hd0 (by rintro rfl; simp [out] at hc))⟩) ?_
 refine dg rfl rfl (fun hc => ⟨_, OpenTo.upd (t := 13) rfl (by first | exact hc | simp_all) (OpenTo.refl _), pop_call ca60 rfl (WeakL.refl _) c_strings_IndexByte⟩) ?_
 refine dg rfl rfl (fun hc => ⟨_, OpenTo.upd (t := 14) rfl (by first | exact hc | simp_all) (OpenTo.refl _), pop_geq rfl rfl⟩) ?_
 refine dp rfl (pop_picko rfl (.inr ⟨_, rfl, fun h => by simp_all⟩) (.inl rfl)) ?_
 refine dp rfl (pop_assign rfl) ?_
 refine dn ?_
 refine hw_ret ?_
 refine ret_p rfl ?_
 show HVal.bool _ = _
 rw [key_ref]
 simp [cut38, small26]

/-- benchwarmer/benchref1.PickListFault -/
theorem c_benchref1_PickListFault [Tracks] {l : List Pick} (hl : l.length ≤ 1000000) : ConP Tryz.prog 10 [ePicks l] (.int .i64 (pickLE l)) := by
 refine Con.of_body Tryz.func10 rfl Tryz.ntmps10 rfl rfl ?_
 refine hw_reg ?_
 refine dp rfl (pop_assign rfl) ?_
 refine dn ?_
 refine hw_seq ?_
 refine hw_reg ?_
 refine dp rfl (pop_move rfl) ?_
 refine dp rfl (pop_lenm ty30 rfl) ?_
 refine dp rfl (pop_gtr rfl rfl) ?_
 refine dn ?_
 refine hw_cond rfl (fun h1 => ?_) (fun h2 => ?_)
 ·try simp at h1
  refine hw_reg ?_
  refine dp rfl (pop_assign rfl) ?_
  refine dn ?_
  refine hw_ret ?_
  refine ret_p rfl ?_
  show HVal.int .i64 _ = _
  first | (rw [pickLE, if_pos h1]; done) | (rw [hg, pickFs_cons]; simp_all [pickF]; done) | (rw [hg]; rfl)
 ·try simp at h2
  refine hw_skip ?_
  refine seqQ_n ?_
  refine hw_seq ?_
  refine hw_reg ?_
  refine dp rfl (pop_move rfl) ?_
  refine dp rfl (pop_lenm ty30 rfl) ?_
  refine dp rfl (pop_move rfl) ?_
  refine dn ?_
  refine hw_block ?_
  refine hw_loopw [2, 4, 10, 11, 12, 13, 14, 15, 16, 17, 18, 19, 20, 21, 22, 23, 24, 25, 26, 27, 28, 29, 30, 31, 32, 33, 34, 35] (fun (k : Nat) => [(10, .int .i64 k)]) (fun (k : Nat) => []) (fun (k : Nat) => k ≤ l.length ∧ (pickLE l = pickFs (l.drop k))) (fun (k : Nat) => l.length - k) (0) ?_ ?_ ?_ ?_
  ·refine ⟨Nat.zero_le _, ?_⟩
   rw [pickLE, if_neg (by omega)]; rfl
  ·exact ⟨rfl, trivial⟩
  ·exact List.Perm.refl _
  ·intro k hinv
   obtain ⟨hk, hg⟩ := hinv
   refine hw_reg ?_
   refine dp rfl (pop_lss rfl rfl) ?_
   refine dn ?_
   refine hw_seq ?_
   refine hw_cond rfl (fun h3 => ?_) (fun h4 => ?_)
   ·try simp at h3
    obtain ⟨x, hx⟩ : ∃ x, l[k]? = some x := ⟨_, List.getElem?_eq_getElem h3⟩
    have hdx := drop_cons hx
    rw [hdx] at hg
    refine hw_skip ?_
    refine seqQ_n ?_
    refine hw_seq ?_
    refine hw_block ?_
    refine hw_reg ?_
    refine dp rfl (pop_idx ty30 ty36 rfl rfl rfl (by first | assumption | simp_all)) ?_
    refine dp rfl (pop_loadw ty36 rfl rfl rfl rfl) ?_
    refine de rfl (eop_alloc ty36 rfl fun b4 => ?_)
    refine de0 (eop_storew ty36 rfl rfl rfl rfl rfl ?_)
    refine dn ?_
    refine hw_ghost (Ghost.fc0 4 rfl) ?_
    refine hw_block ?_
    refine hw_reg ?_
    refine dp rfl (pop_fieldAddr ty36 rfl ty3 (by decide) rfl) ?_
    refine dp rfl (pop_load ty3 rfl rfl rfl) ?_
    refine dp rfl (pop_call ca27 rfl (WeakL.refl _) c_benchref1_in) ?_
    refine dp rfl (pop_not rfl) ?_
    refine dp rfl (pop_assign rfl) ?_
    refine dn ?_
    refine hw_cond rfl (fun h5 => ?_) (fun h6 => ?_)
    ·try simp at h5
     refine hw_reg ?_
     refine dp rfl (pop_assign rfl) ?_
     refine dn ?_
     refine hw_ret ?_
     refine ret_p rfl ?_
     show HVal.int .i64 _ = _
     first | (rw [pickLE, if_pos h1]; done) | (rw [hg, pickFs_cons]; simp_all [pickF]; done) | (rw [hg]; rfl)
    ·try simp at h6
     refine hw_reg ?_
     refine dp rfl (pop_fieldAddr ty36 rfl ty9 (by decide) rfl) ?_
     refine dp rfl (pop_load ty9 rfl rfl rfl) ?_
     refine dp rfl (pop_call ca28 rfl (WeakL.refl _) c_benchref1_Key_u) ?_
     refine dp rfl (pop_not rfl) ?_
     refine dp rfl (pop_move rfl) ?_
     refine dg rfl rfl (fun hc => ⟨_, OpenTo.refl _, pop_fieldAddr ty36 rfl ty9 (by decide) rfl⟩) ?_
     refine dg rfl rfl (fun hc => ⟨_, OpenTo.upd (t := 25) rfl (by first | exact hc | simp_all) (OpenTo.refl _), pop_load ty9 rfl rfl rfl⟩) ?_
     refine dg rfl rfl (fun hc => ⟨_, OpenTo.upd (t := 26) rfl (by first | exact hc | simp_all) (OpenTo.refl _), pop_call ca28 rfl (WeakL.refl _) c_benchref1_Key_u⟩) ?_
     refine dg rfl rfl (fun hc => ⟨_, OpenTo.upd (t := 27) rfl (by first | exact hc | simp_all) (OpenTo.refl _), pop_not rfl⟩) ?_
     refine dp rfl (pop_picko rfl (.inl rfl) (.inr ⟨_, rfl, fun h => by simp_all⟩)) ?_
     refine dp rfl (pop_assign rfl) ?_
     refine dn ?_
     refine hw_cond rfl (fun h7 => ?_) (fun h8 => ?_)
     ·try simp at h7
      refine hw_reg ?_
      refine dp rfl (pop_assign rfl) ?_
      refine dn ?_
      refine hw_ret ?_
      refine ret_p rfl ?_
      show HVal.int .i64 _ = _
      first | (rw [pickLE, if_pos h1]; done) | (rw [hg, pickFs_cons]; simp_all [pickF]; done) | (rw [hg]; rfl)
     ·try simp at h8
      refine hw_reg ?_
      refine dp rfl (pop_fieldAddr ty36 rfl ty3 (by decide) rfl) ?_
      refine dp rfl (pop_load ty3 rfl rfl rfl) ?_
      refine dp rfl (pop_call ca29 rfl (WeakL.refl _) c_benchref1_MomentFault) ?_
      refine dp rfl (pop_neq rfl rfl) ?_
      refine dp rfl (pop_assign rfl) ?_
      refine dn ?_
      refine hw_cond rfl (fun h9 => ?_) (fun h10 => ?_)
      ·try simp at h9
       refine hw_reg ?_
       refine dp rfl (pop_assign rfl) ?_
       refine dn ?_
       refine hw_ret ?_
       refine ret_p rfl ?_
       show HVal.int .i64 _ = _
       first | (rw [pickLE, if_pos h1]; done) | (rw [hg, pickFs_cons]; simp_all [pickF]; done) | (rw [hg]; rfl)
      ·try simp at h10
       refine hw_skip ?_
       refine blockQ_n ?_
       refine blockQ_n ?_
       refine seqQ_n ?_
       refine hw_reg1 ?_
       refine dp rfl (pop_add64 rfl rfl (by omega) (by omega)) ?_
       refine dp rfl (pop_move rfl) ?_
       refine dn ?_
       refine ⟨k + 1, ?_, ?_, ⟨rfl, trivial⟩, (by repeat (first | exact keeps_refl | refine keeps_upd rfl ?_ | refine keeps_loop rfl rfl ?_)), List.Perm.refl _⟩
       ·refine ⟨by omega, ?_⟩
        rw [hg, pickFs_cons]
        simp_all [pickF]
       ·dsimp only; omega
   ·try simp at h4
    have hnk : l.length ≤ k := by omega
    obtain rfl : k = l.length := by omega
    rw [drop_all (Nat.le_refl _)] at hg
    refine hw_exit ?_
    refine seqQ_x ?_
    refine loopQ_x ?_
    refine blockQ_eq ?_
    refine seqQ_n ?_
    refine hw_reg ?_
    refine dp rfl (pop_assign rfl) ?_
    refine dn ?_
    refine hw_ret ?_
    refine ret_p rfl ?_
    show HVal.int .i64 _ = _
    first | (rw [pickLE, if_pos h1]; done) | (rw [hg, pickFs_cons]; simp_all [pickF]; done) | (rw [hg]; rfl)
end Go.Proofs.YtmgbigiegjlieaaGreatDoor
end
section
namespace Go.Proofs.YtmgbigiegjlieaaGreatDoor
open Go.HL
set_option maxRecDepth 100000
set_option linter.unusedVariables false
set_option linter.unusedSimpArgs false
/-- benchwarmer/draft.readPick -/
theorem c_draft_readPick [Tracks] {line : Str} (hl : line.length ≤ 1000000) : ConP Tryz.prog 38 [.str line] (.tup [ePick (rpP line), .bool (rpB line)]) := by
 have hct : line.count 32 ≤ line.length := List.count_le_length
 refine Con.of_bodyc Tryz.func38 rfl Tryz.ntmps38 rfl rfl ?_
 refine hw_reg ?_
 refine de rfl (eop_alloc ty36 rfl fun b2 => ?_)
 refine dp rfl (pop_assign rfl) ?_
 refine dn ?_
 refine hw_reg ?_
 refine dp rfl (pop_move rfl) ?_
 refine dp rfl (pop_move rfl) ?_
 refine dp rfl (pop_call ca67 rfl (WeakL.refl _) (c_strings_Count (s := line) (c := 32))) ?_
 refine dp rfl (pop_add64 rfl rfl (by omega) (by omega)) ?_
 refine dp rfl (pop_call ca66 rfl (WeakL.refl _) (c_base_Words (many := ((line.count 32 : Nat) + 1 : Int)) hl)) ?_
 refine dp rfl (pop_move rfl) ?_
 refine dp rfl (pop_extract rfl rfl) ?_
 refine dp rfl (pop_extract rfl rfl) ?_
 refine dp rfl (pop_assign rfl) ?_
 refine dp rfl (pop_assign rfl) ?_
 refine dn ?_
 refine hw_seq ?_
 refine hw_reg ?_
 refine dp rfl (pop_move rfl) ?_
 refine dp rfl (pop_not rfl) ?_
 refine dp rfl (pop_move rfl) ?_
 refine dg rfl rfl (fun hc => ⟨_, OpenTo.refl _, pop_move rfl⟩) ?_
 refine dg rfl rfl (fun hc => ⟨_, OpenTo.upd (t := 21) rfl (by first | exact hc | simp_all) (OpenTo.refl _), pop_lenm ty26 rfl⟩) ?_
 refine dg rfl rfl (fun hc => ⟨_, OpenTo.upd (t := 22) rfl (by first | exact hc | simp_all) (OpenTo.refl _), pop_call ca68 rfl (WeakL.refl _) c_base_Out⟩) ?_
 refine dp rfl (pop_picko rfl (.inl rfl) (.inr ⟨_, rfl, fun h => by simp_all⟩)) ?_
 refine dn ?_
 refine hw_cond rfl (fun h1 => ?_) (fun h2 => ?_)
 ·try simp at h1
  refine hw_reg ?_
  refine dp rfl (pop_build (cs := [_, _, _, _, _]) ty36 pl36 rfl) ?_
  first
  | refine de0 (eop_store (i := 0) ty36 rfl rfl rfl rfl rfl (Nat.le_of_ble_eq_true rfl) ?_)
  | refine de0 (eop_store (i := 1) ty36 rfl rfl rfl rfl rfl (Nat.le_of_ble_eq_true rfl) ?_)
  | refine de0 (eop_store (i := 2) ty36 rfl rfl rfl rfl rfl (Nat.le_of_ble_eq_true rfl) ?_)
  | refine de0 (eop_store (i := 3) ty36 rfl rfl rfl rfl rfl (Nat.le_of_ble_eq_true rfl) ?_)
  refine dp rfl (pop_assign rfl) ?_
  refine dn ?_
  refine hw_ret ?_
  refine ⟨_, _, Ghost.fc0 2 rfl, [_, _], _, ⟨⟨_, _, _, _, _, rfl, ty36, .inr ⟨rfl, rfl, rfl⟩⟩, ⟨rfl, trivial⟩⟩, Weak.refl _, ?_, rfl⟩
  show HVal.tup _ = _
  first | (rw [(rp_f (rpC_f (fun hh => by simpa [hh] using h1))).1, (rp_f (rpC_f (fun hh => by simpa [hh] using h1))).2]; rfl) | (simp_all [rpB, rpP, autoS, setL, hcells, ofVal, ofVal1]; done)
 ·try simp at h2
  refine hw_skip ?_
  refine seqQ_n ?_
  obtain ⟨hw1, hw2, hw3, hw4, hw5⟩ := rpC_t h2
  simp only [hw1, hw2]
  refine hw_reg ?_
  refine dp rfl (pop_move rfl) ?_
  refine dp rfl (pop_idx (j := 0) (a := (spl 32 line).getD 0 []) ty26 ty9 rfl rfl (by omega) (getD_some (by omega))) ?_
  refine dp rfl (pop_load ty9 rfl rfl rfl) ?_
  refine dp rfl (pop_call ca69 rfl (WeakL.refl _) (c_base_Number_g (Nat.le_trans (spl_getD_len 0) hl) (by omega))) ?_
  refine dp rfl (pop_move rfl) ?_
  refine dp rfl (pop_extract rfl rfl) ?_
  refine dp rfl (pop_extract rfl rfl) ?_
  refine dp rfl (pop_assign rfl) ?_
  refine dp rfl (pop_assign rfl) ?_
  refine dn ?_
  refine hw_reg ?_
  refine dp rfl (pop_move rfl) ?_
  refine dp rfl (pop_idx (j := 3) (a := (spl 32 line).getD 3 []) ty26 ty9 rfl rfl (by omega) (getD_some (by omega))) ?_
  refine dp rfl (pop_load ty9 rfl rfl rfl) ?_
  refine dp rfl (pop_call ca69 rfl (WeakL.refl _) (c_base_Number_g (Nat.le_trans (spl_getD_len 3) hl) (by omega))) ?_
  refine dp rfl (pop_move rfl) ?_
  refine dp rfl (pop_extract rfl rfl) ?_
  refine dp rfl (pop_extract rfl rfl) ?_
  refine dp rfl (pop_assign rfl) ?_
  refine dp rfl (pop_assign rfl) ?_
  refine dn ?_
  refine hw_draw (fun _ => True) [] mixed ?_
  refine ahp 0 rfl rfl (by kernel_rfl) (by kernel_rfl) (pop_move rfl) ?_
  refine ahp 1 rfl rfl (by kernel_rfl) (by kernel_rfl) (pop_move rfl) ?_
  refine ahp 2 rfl rfl (by kernel_rfl) (by kernel_rfl) (pop_idx (j := 1) (a := (spl 32 line).getD 1 []) ty26 ty9 rfl rfl (by omega) (getD_some (by omega))) ?_
  refine ahp 3 rfl rfl (by kernel_rfl) (by kernel_rfl) (pop_load ty9 rfl rfl rfl) ?_
  refine ahp 4 rfl rfl (by kernel_rfl) (by kernel_rfl) (pop_move rfl) ?_
  refine ahp 5 rfl rfl (by kernel_rfl) (by kernel_rfl) (pop_idx (j := 2) (a := (spl 32 line).getD 2 []) ty26 ty9 rfl rfl (by omega) (getD_some (by omega))) ?_
  refine ahp 6 rfl rfl (by kernel_rfl) (by kernel_rfl) (pop_load ty9 rfl rfl rfl) ?_
  refine ahp 7 rfl rfl (by kernel_rfl) (by kernel_rfl) (pop_move rfl) ?_
  refine ahp 8 rfl rfl (by kernel_rfl) (by kernel_rfl) (pop_move rfl) ?_
  refine ahp 9 rfl rfl (by kernel_rfl) (by kernel_rfl) (pop_lenm ty26 rfl) ?_
  refine ahp 10 rfl rfl (by kernel_rfl) (by kernel_rfl) (pop_eql rfl rfl) ?_
  refine ahp 11 rfl rfl (by kernel_rfl) (by kernel_rfl) (pop_build (cs := [_, _, _, _, _]) ty36 pl36 rfl) ?_
  refine ahe 12 rfl (by kernel_rfl) ?_
  refine hop_e rfl (eop_alloc ty36 rfl fun b9 => ?_)
  refine ⟨fun _ => .inl trivial, ?_⟩
  refine ahe 13 rfl (by kernel_rfl) ?_
  refine hop_e0 (eop_storew ty36 rfl rfl rfl rfl rfl ?_)
  refine ⟨fun _ => .inl trivial, ?_⟩
  refine ahz (by kernel_rfl) ?_
  refine hw_ghost (Ghost.fc0 9 rfl) ?_
  refine hw_draw (fun _ => True) [] mixed ?_
  refine ahp 0 rfl rfl (by kernel_rfl) (by kernel_rfl) (pop_loadw ty36 rfl rfl rfl rfl) ?_
  refine ahp 1 rfl rfl (by kernel_rfl) (by kernel_rfl) (pop_move rfl) ?_
  refine ahp 2 rfl rfl (by kernel_rfl) (by kernel_rfl) (pop_move rfl) ?_
  refine ahg 3 rfl rfl (by kernel_rfl) (by kernel_rfl) rfl (fun hc => ⟨_, OpenTo.refl _, pop_move rfl⟩) ?_
  refine ahp 4 rfl rfl (by kernel_rfl) (by kernel_rfl) (pop_picko rfl (.inr ⟨_, rfl, fun h => by simp_all⟩) (.inl rfl)) ?_
  refine ahp 5 rfl rfl (by kernel_rfl) (by kernel_rfl) (pop_move rfl) ?_
  refine ahg 6 rfl rfl (by kernel_rfl) (by kernel_rfl) rfl (fun hc => ⟨_, OpenTo.refl _, pop_fieldAddr ty36 rfl ty4 (by decide) rfl⟩) ?_
  refine ahg 7 rfl rfl (by kernel_rfl) (by kernel_rfl) rfl (fun hc => ⟨_, OpenTo.upd (t := 58) rfl (by first | exact hc | simp_all) (OpenTo.refl _), pop_load ty4 rfl rfl rfl⟩) ?_
  refine ahg 8 rfl rfl (by kernel_rfl) (by kernel_rfl) rfl (fun hc => ⟨_, OpenTo.upd (t := 59) rfl (by first | exact hc | simp_all) (OpenTo.refl _), pop_not rfl⟩) ?_
  refine ahg 9 rfl rfl (by kernel_rfl) (by kernel_rfl) rfl (fun hc => ⟨_, OpenTo.upd (t := 60) rfl (by first | exact hc | simp_all) (OpenTo.refl _), pop_move rfl⟩) ?_
  refine ahg 10 rfl rfl (by kernel_rfl) (by kernel_rfl) rfl (fun hc => ⟨_, OpenTo.refl _, pop_move rfl⟩) ?_
  refine ahg 11 rfl rfl (by kernel_rfl) (by kernel_rfl) rfl (fun hc => by have hq := hc; (try simp at hq); exact ⟨_, OpenTo.upd (t := 62) rfl (by first | exact hc | simp_all) (OpenTo.refl _), pop_idx (j := 4) (a := (spl 32 line).getD 4 []) ty26 ty9 rfl rfl (by omega) (getD_some (by omega))⟩) ?_
  refine ahg 12 rfl rfl (by kernel_rfl) (by kernel_rfl) rfl (fun hc => ⟨_, OpenTo.upd (t := 63) rfl (by first | exact hc | simp_all) (OpenTo.refl _), pop_load ty9 rfl rfl rfl⟩) ?_
  refine ahg 13 rfl rfl (by kernel_rfl) (by kernel_rfl) rfl (fun hc => ⟨_, OpenTo.upd (t := 64) rfl (by first | exact hc | simp_all) (OpenTo.refl _), pop_eqls rfl rfl⟩) ?_
  refine ahg 14 rfl rfl (by kernel_rfl) (by kernel_rfl) rfl (fun hc => ⟨_, OpenTo.upd (t := 61) rfl (by first | exact hc | simp_all) (OpenTo.refl _), pop_picko rfl (.inl rfl) (.inr ⟨_, rfl, fun h => by simp_all⟩)⟩) ?_
  refine ahp 15 rfl rfl (by kernel_rfl) (by kernel_rfl) (pop_picko rfl (.inr ⟨_, rfl, fun h => by simp_all⟩) (.inl rfl)) ?_
  refine ahe 16 rfl (by kernel_rfl) ?_
  first
  | refine hop_e0 (eop_store (i := 0) ty36 rfl rfl rfl rfl rfl (Nat.le_of_ble_eq_true rfl) ?_)
  | refine hop_e0 (eop_store (i := 1) ty36 rfl rfl rfl rfl rfl (Nat.le_of_ble_eq_true rfl) ?_)
  | refine hop_e0 (eop_store (i := 2) ty36 rfl rfl rfl rfl rfl (Nat.le_of_ble_eq_true rfl) ?_)
  | refine hop_e0 (eop_store (i := 3) ty36 rfl rfl rfl rfl rfl (Nat.le_of_ble_eq_true rfl) ?_)
  refine ⟨fun _ => .inl trivial, ?_⟩
  refine ahp 17 rfl rfl (by kernel_rfl) (by kernel_rfl) (pop_assign rfl) ?_
  refine ahz (by kernel_rfl) ?_
  refine hw_ret ?_
  refine ⟨_, _, Ghost.fc0 2 rfl, [_, _], _, ⟨⟨_, _, _, _, _, rfl, ty36, .inr ⟨rfl, rfl, rfl⟩⟩, ⟨rfl, trivial⟩⟩, Weak.refl _, ?_, rfl⟩
  show HVal.tup _ = _
  first | (rw [(rp_f (rpC_f (fun hh => by simpa [hh] using h1))).1, (rp_f (rpC_f (fun hh => by simpa [hh] using h1))).2]; rfl) | (simp_all [rpB, rpP, autoS, setL, hcells, ofVal, ofVal1]; done)
end Go.Proofs.YtmgbigiegjlieaaGreatDoor
end
section
namespace Go.Proofs.YtmgbigiegjlieaaGreatDoor
open Go.HL
set_option maxRecDepth 100000
set_option linter.unusedVariables false
set_option linter.unusedSimpArgs false
/-- benchwarmer/draft.Read$1 -/
theorem c_draft_Read_1 [Tracks] {line : Str} {bo : Nat} {v : Value} {ps : List Pick}  (hl : line.length ≤ 1000000) (hps : ps.length ≤ 1000000) : Con Tryz.prog 37 [.str line, pAt bo] [.cells bo [.raw v], .arr v 5 (ps.map ePick)] (fun x M' => ∃ v', x = .bool (rpB line) ∧ M' = [.cells bo [.raw v'], .arr v' 5 ((ps ++ [rpP line]).map ePick)]) := by
 refine Con.of_body Tryz.func37 rfl Tryz.ntmps37 rfl rfl ?_
 refine hw_reg ?_
 refine dp rfl (pop_assign rfl) ?_
 refine dn ?_
 refine hw_reg ?_
 refine dp rfl (pop_move rfl) ?_
 refine dp rfl (pop_call ca38 rfl (WeakL.refl _) (c_draft_readPick (by first | assumption | omega | (simp; omega) | simp_all))) ?_
 refine dp rfl (pop_move rfl) ?_
 refine dp rfl (pop_extract rfl rfl) ?_
 refine dp rfl (pop_extract rfl rfl) ?_
 refine de rfl (eop_alloc ty36 rfl fun b4 => ?_)
 refine de0 (eop_storew ty36 rfl rfl rfl rfl rfl ?_)
 refine dp rfl (pop_assign rfl) ?_
 refine dn ?_
 refine hw_ghost (Ghost.fc0 4 rfl) ?_
 refine hw_reg ?_
 refine de rfl (eop_load (i := 0) ty30 rfl rfl (.inl ⟨rfl, rfl⟩) ?_)
 refine dp rfl (pop_loadw ty36 rfl rfl rfl rfl) ?_
 refine dp rfl (pop_buildSlice (hs := [_]) ty30 ty36 rfl rfl (by decide) (by decide) rfl) ?_
 refine de rfl (eop_append (i := 1) ty30 ty36 rfl rfl rfl rfl rfl (by simp [flat, hcells]) (by simp; omega) fun v14 => ?_)
 refine de0 (eop_store (i := 0) ty30 rfl rfl rfl rfl rfl (by simp) ?_)
 refine dn ?_
 refine hw_reg ?_
 refine dp rfl (pop_move rfl) ?_
 refine dp rfl (pop_assign rfl) ?_
 refine dn ?_
 refine hw_ret ?_
 exact ret_q rfl ⟨v14, rfl, by simp [setL, hcells]⟩

/-- benchwarmer/benchref1.PicksRead$1 -/
theorem c_benchref1_PicksRead_1 [Tracks] {line : Str} {bo : Nat} {v : Value} {ps : List Pick}  (hl : line.length ≤ 1000000) (hps : ps.length ≤ 1000000) : Con Tryz.prog 40 [.str line, pAt bo] [.cells bo [.raw v], .arr v 5 (ps.map ePick)] (fun x M' => ∃ v' ps', x = .bool (rpB line) ∧ M' = [.cells bo [.raw v'], .arr v' 5 (ps'.map ePick)] ∧ (rpB line = true → ps' = ps ++ [rpP line])) := by
 have hct : line.count 32 ≤ line.length := List.count_le_length
 have hsl := spl_len 32 line
 refine Con.of_body Tryz.func40 rfl Tryz.ntmps40 rfl rfl ?_
 refine hw_reg ?_
 refine dp rfl (pop_assign rfl) ?_
 refine dn ?_
 refine hw_reg ?_
 refine dp rfl (pop_move rfl) ?_
 refine dp rfl (pop_call ca41 rfl (WeakL.refl _) (c_strings_Split (c := 32) (by omega))) ?_
 refine dp rfl (pop_assign rfl) ?_
 refine dn ?_
 refine hw_seq ?_
 refine hw_reg ?_
 refine dp rfl (pop_move rfl) ?_
 refine dp rfl (pop_call ca42 rfl (WeakL.refl _) (c_slices_Contains_string_string (l := spl 32 line) (by omega))) ?_
 refine dp rfl (pop_move rfl) ?_
 refine dg rfl rfl (fun hc => ⟨_, OpenTo.refl _, pop_move rfl⟩) ?_
 refine dg rfl rfl (fun hc => ⟨_, OpenTo.upd (t := 12) rfl (by first | exact hc | simp_all) (OpenTo.refl _), pop_lenm ty26 rfl⟩) ?_
 refine dg rfl rfl (fun hc => ⟨_, OpenTo.upd (t := 13) rfl (by first | exact hc | simp_all) (OpenTo.refl _), pop_neq rfl rfl⟩) ?_
 refine dg rfl rfl (fun hc => ⟨_, OpenTo.upd (t := 14) rfl (by first | exact hc | simp_all) (OpenTo.refl _), pop_move rfl⟩) ?_
 refine dg rfl rfl (fun hc => ⟨_, OpenTo.refl _, pop_move rfl⟩) ?_
 refine dg rfl rfl (fun hc => ⟨_, OpenTo.upd (t := 16) rfl (by first | exact hc | simp_all) (OpenTo.refl _), pop_lenm ty26 rfl⟩) ?_
 refine dg rfl rfl (fun hc => ⟨_, OpenTo.upd (t := 17) rfl (by first | exact hc | simp_all) (OpenTo.refl _), pop_neq rfl rfl⟩) ?_
 refine dg rfl rfl (fun hc => ⟨_, OpenTo.upd (t := 18) rfl (by first | exact hc | simp_all) (OpenTo.refl _), pop_move rfl⟩) ?_
 refine dg rfl rfl (fun hc => ⟨_, OpenTo.refl _, pop_move rfl⟩) ?_
 refine dg rfl rfl (fun hc => by have hq := hc; (try simp at hq); exact ⟨_, OpenTo.upd (t := 20) rfl (by first | exact hc | simp_all) (OpenTo.refl _), pop_idx (j := 4) (a := (spl 32 line).getD 4 []) ty26 ty9 rfl rfl (by omega) (getD_some (by omega))⟩) ?_
 refine dg rfl rfl (fun hc => ⟨_, OpenTo.upd (t := 21) rfl (by first | exact hc | simp_all) (OpenTo.refl _), pop_load ty9 rfl rfl rfl⟩) ?_
 refine dg rfl rfl (fun hc => ⟨_, OpenTo.upd (t := 22) rfl (by first | exact hc | simp_all) (OpenTo.refl _), pop_neqs rfl rfl⟩) ?_
 refine dg rfl rfl (fun hc => ⟨_, OpenTo.upd (t := 19) rfl (by first | exact hc | simp_all) (OpenTo.refl _), pop_picko rfl (.inl rfl) (.inr ⟨_, rfl, fun h => by simp_all⟩)⟩) ?_
 refine dg rfl rfl (fun hc => ⟨_, OpenTo.upd (t := 15) rfl (by first | exact hc | simp_all) (OpenTo.refl _), pop_picko rfl (.inr ⟨_, rfl, fun h => by simp_all⟩) (.inl rfl)⟩) ?_
 refine dp rfl (pop_picko rfl (.inl rfl) (.inr ⟨_, rfl, fun h => by simp_all⟩)) ?_
 refine dn ?_
 refine hw_cond rfl (fun h1 => ?_) (fun h2 => ?_)
 ·try simp at h1
  refine hw_reg ?_
  refine dp rfl (pop_assign rfl) ?_
  refine dn ?_
  refine hw_ret ?_
  first
  | exact ret_q rfl ⟨v, ps, by rw [rr_g h1]; rfl, rfl, fun h => by rw [rr_g h1] at h; cases h⟩
  | exact ret_q rfl ⟨q.1, q.2, by rw [hw2], rfl, hq⟩
 ·try simp at h2
  refine hw_skip ?_
  refine seqQ_n ?_
  obtain ⟨⟨hw4, hw5⟩, hw1, hw2⟩ := rr_t' h2
  refine hw_draw (fun _ => True) [] mixed ?_
  refine ahp 0 rfl rfl (by kernel_rfl) (by kernel_rfl) (pop_move rfl) ?_
  refine ahp 1 rfl rfl (by kernel_rfl) (by kernel_rfl) (pop_idx (j := 0) (a := (spl 32 line).getD 0 []) ty26 ty9 rfl rfl (by omega) (getD_some (by omega))) ?_
  refine ahp 2 rfl rfl (by kernel_rfl) (by kernel_rfl) (pop_load ty9 rfl rfl rfl) ?_
  refine ahp 3 rfl rfl (by kernel_rfl) (by kernel_rfl) (pop_move rfl) ?_
  refine ahp 4 rfl rfl (by kernel_rfl) (by kernel_rfl) (pop_idx (j := 3) (a := (spl 32 line).getD 3 []) ty26 ty9 rfl rfl (by omega) (getD_some (by omega))) ?_
  refine ahp 5 rfl rfl (by kernel_rfl) (by kernel_rfl) (pop_load ty9 rfl rfl rfl) ?_
  refine ahp 6 rfl rfl (by kernel_rfl) (by kernel_rfl) (pop_buildSlice (hs := [_, _]) ty26 ty9 rfl rfl (by decide) (by decide) rfl) ?_
  refine ahp 7 rfl rfl (by kernel_rfl) (by kernel_rfl) (pop_call ca43 rfl (WeakL.refl _) (c_benchref1_Ints (w := [(spl 32 line).getD 0 [], (spl 32 line).getD 3 []]) (by simp) (by intro s hs; simp only [List.mem_cons, List.not_mem_nil, or_false] at hs; rcases hs with rfl | rfl <;> exact Nat.le_trans (spl_getD_len _) hl) (by omega))) ?_
  refine ahp 8 rfl rfl (by kernel_rfl) (by kernel_rfl) (pop_move rfl) ?_
  refine ahp 9 rfl rfl (by kernel_rfl) (by kernel_rfl) (pop_extract rfl rfl) ?_
  refine ahp 10 rfl rfl (by kernel_rfl) (by kernel_rfl) (pop_extract rfl rfl) ?_
  refine ahp 11 rfl rfl (by kernel_rfl) (by kernel_rfl) (pop_assign rfl) ?_
  refine ahp 12 rfl rfl (by kernel_rfl) (by kernel_rfl) (pop_assign rfl) ?_
  refine ahz (by kernel_rfl) ?_
  refine hw_join [38, 39, 40, 41, 42, 43, 44, 45, 46, 47, 48, 49, 50, 51, 52, 53, 54, 55, 56, 57] (fun (q : Value × List Pick) => []) (fun (q : Value × List Pick) => [.cells bo [.raw q.1], .arr q.1 5 (q.2.map ePick)]) (fun (q : Value × List Pick) => rpB line = true → q.2 = ps ++ [rpP line]) ?_ ?_
  ·skip
   refine hw_reg ?_
   refine dp rfl (pop_move rfl) ?_
   refine dn ?_
   refine hw_cond rfl (fun h3 => ?_) (fun h4 => ?_)
   ·try simp at h3
    have hb : rpB line = true := by rw [hw2]; simpa using h3
    obtain ⟨hp1, hp2⟩ := rr_p hw1 hb
    simp only [hp2]
    refine hw_draw1 (fun M => ∃ i : Nat, M[i]? = some (.cells bo [.raw v])) [0] mixed ?_
    refine ahl 0 rfl rfl (by kernel_rfl) (by kernel_rfl) (by simp) ⟨0, rfl⟩ (fun M hM => by obtain ⟨i, hi⟩ := hM; exact eop_load (i := i) ty30 rfl hi (.inl ⟨rfl, rfl⟩) ⟨rfl, rfl⟩) ?_
    refine ahp 1 rfl rfl (by kernel_rfl) (by kernel_rfl) (pop_move rfl) ?_
    refine ahp 2 rfl rfl (by kernel_rfl) (by kernel_rfl) (pop_idx (j := 0) (a := intR ((spl 32 line).getD 0 []) 15) ty22 ty3 rfl rfl (by simp) rfl) ?_
    refine ahp 3 rfl rfl (by kernel_rfl) (by kernel_rfl) (pop_load ty3 rfl rfl rfl) ?_
    refine ahp 4 rfl rfl (by kernel_rfl) (by kernel_rfl) (pop_move rfl) ?_
    refine ahp 5 rfl rfl (by kernel_rfl) (by kernel_rfl) (pop_idx (j := 1) (a := (spl 32 line).getD 1 []) ty26 ty9 rfl rfl (by omega) (getD_some (by omega))) ?_
    refine ahp 6 rfl rfl (by kernel_rfl) (by kernel_rfl) (pop_load ty9 rfl rfl rfl) ?_
    refine ahp 7 rfl rfl (by kernel_rfl) (by kernel_rfl) (pop_move rfl) ?_
    refine ahp 8 rfl rfl (by kernel_rfl) (by kernel_rfl) (pop_idx (j := 2) (a := (spl 32 line).getD 2 []) ty26 ty9 rfl rfl (by omega) (getD_some (by omega))) ?_
    refine ahp 9 rfl rfl (by kernel_rfl) (by kernel_rfl) (pop_load ty9 rfl rfl rfl) ?_
    refine ahp 10 rfl rfl (by kernel_rfl) (by kernel_rfl) (pop_move rfl) ?_
    refine ahp 11 rfl rfl (by kernel_rfl) (by kernel_rfl) (pop_idx (j := 1) (a := intR ((spl 32 line).getD 3 []) 15) ty22 ty3 rfl rfl (by simp) rfl) ?_
    refine ahp 12 rfl rfl (by kernel_rfl) (by kernel_rfl) (pop_load ty3 rfl rfl rfl) ?_
    refine ahp 13 rfl rfl (by kernel_rfl) (by kernel_rfl) (pop_move rfl) ?_
    refine ahp 14 rfl rfl (by kernel_rfl) (by kernel_rfl) (pop_lenm ty26 rfl) ?_
    refine ahp 15 rfl rfl (by kernel_rfl) (by kernel_rfl) (pop_eql rfl rfl) ?_
    refine ahp 16 rfl rfl (by kernel_rfl) (by kernel_rfl) (pop_build (cs := [_, _, _, _, _]) ty36 pl36 rfl) ?_
    refine ahp 17 rfl rfl (by kernel_rfl) (by kernel_rfl) (pop_buildSlice (hs := [_]) ty30 ty36 rfl rfl (by decide) (by decide) rfl) ?_
    refine ahe 18 rfl (by kernel_rfl) ?_
    refine hop_e rfl (eop_append (i := 1) ty30 ty36 rfl rfl rfl rfl rfl (by simp [flat, hcells]) (by simp; omega) fun v57 => ?_)
    refine ⟨fun _ => .inl ⟨0, rfl⟩, ?_⟩
    refine ahe 19 rfl (by kernel_rfl) ?_
    refine hop_e0 (eop_store (i := 0) ty30 rfl rfl rfl rfl rfl (by simp) ?_)
    refine ⟨fun _ => .inr (by simp [Before, Region.binds]), ?_⟩
    refine ahz (by kernel_rfl) ?_
    exact ⟨(v57, ps ++ [rpP line]), fun _ => rfl, trivial, (by repeat (first | exact keeps_refl | refine keeps_upd rfl ?_ | refine keeps_loop rfl rfl ?_)), by rw [hp1]; repeat (first | exact List.Perm.nil | refine permTo 0 rfl ?_ | refine permTo 1 rfl ?_ | refine permTo 2 rfl ?_ | refine permTo 3 rfl ?_ | (refine permToE 0 rfl ?hq ?_; (case hq => simp [setL, hcells]; done)) | (refine permToE 1 rfl ?hq ?_; (case hq => simp [setL, hcells]; done)) | (refine permToE 2 rfl ?hq ?_; (case hq => simp [setL, hcells]; done)) | (refine permToE 3 rfl ?hq ?_; (case hq => simp [setL, hcells]; done)) | fail)⟩
   ·try simp at h4
    refine hw_skip ?_
    exact ⟨(v, ps), fun h => absurd (hw2.symm.trans h) (by simpa using h4), trivial, (by repeat (first | exact keeps_refl | refine keeps_upd rfl ?_ | refine keeps_loop rfl rfl ?_)), by repeat (first | exact List.Perm.nil | refine permTo 0 rfl ?_ | refine permTo 1 rfl ?_ | refine permTo 2 rfl ?_ | refine permTo 3 rfl ?_ | (refine permToE 0 rfl ?hq ?_; (case hq => simp [setL, hcells]; done)) | (refine permToE 1 rfl ?hq ?_; (case hq => simp [setL, hcells]; done)) | (refine permToE 2 rfl ?hq ?_; (case hq => simp [setL, hcells]; done)) | (refine permToE 3 rfl ?hq ?_; (case hq => simp [setL, hcells]; done)) | fail)⟩
  ·intro q hq
   refine hw_reg ?_
   refine dp rfl (pop_move rfl) ?_
   refine dp rfl (pop_assign rfl) ?_
   refine dn ?_
   refine hw_ret ?_
   first
   | exact ret_q rfl ⟨v, ps, by rw [rr_g h1]; rfl, rfl, fun h => by rw [rr_g h1] at h; cases h⟩
   | exact ret_q rfl ⟨q.1, q.2, by rw [hw2], rfl, hq⟩
end Go.Proofs.YtmgbigiegjlieaaGreatDoor
end
section
namespace Go.HL
def SPk (bo : Nat) (q : Value × List Pick) : List MObj := [.cells bo [.raw q.1], .arr q.1 5 (q.2.map ePick)]
theorem weakPk [Tracks] {text : Str} {i e : Int} (h1 : prE text = e) (he : e ≠ 0) (h2 : prI text = i) : Weak (.tup [.raw (.slice none 0 0), .int .i64 i, .int .i64 e]) (.tup [ePicks (prP text), .int .i64 (prI text), .int .i64 (prE text)]) := by
 have : prP text = [] := by unfold prP; rw [if_neg (by rw [h1]; exact he)]
 rw [this, h1, h2]; exact weak_tup3 (weak_nil 5) (Weak.refl _) (Weak.refl _)
theorem eqPk {text : Str} (h1 : prE text = 0) (h2 : prI text = 0) : HVal.tup [ePicks (prL text), .int .i64 0, .int .i64 0] = .tup [ePicks (prP text), .int .i64 (prI text), .int .i64 (prE text)] := by
 have : prP text = prL text := by unfold prP; rw [if_pos h1]
 rw [this, h1, h2]
theorem pr_1 {text : Str} (h : (200000 : Int) < (text.length : Int)) : prE text = 2 ∧ prI text = 0 := by
 unfold prE prI; rw [if_pos h, if_pos h]; exact ⟨rfl, rfl⟩
theorem pr_2 {text : Str} (h : (text.length : Int) ≤ 200000) (h2 : (goL rpB 0 (spl 10 text)).2 = false) : prE text = 9 ∧ prI text = (goL rpB 0 (spl 10 text)).1 := by
 have h' : ¬ (200000 : Int) < (text.length : Int) := by omega
 unfold prE prI prB; simp only [h', if_false, h2]; exact ⟨rfl, rfl⟩
theorem pr_3 {text : Str} (h : (text.length : Int) ≤ 200000) (h2 : (goL rpB 0 (spl 10 text)).2 = true) : prE text = pickLE (prL text) ∧ prI text = 0 := by
 have h' : ¬ (200000 : Int) < (text.length : Int) := by omega
 unfold prE prI prB; simp only [h', if_false, h2]; exact ⟨rfl, rfl⟩
theorem lns_len (text : Str) : (lns text).length ≤ text.length := by
 unfold lns; rw [List.length_dropLast, spl_len]; simp only [Nat.add_sub_cancel]; exact List.count_le_length
theorem prL_len (text : Str) : (prL text).length ≤ text.length := by
 unfold prL; rw [List.length_map]; exact lns_len text
theorem prP_len (text : Str) : (prP text).length ≤ text.length := by
 unfold prP; split
 ·exact prL_len text
 ·simp
end Go.HL
end
section
namespace Go.Proofs.YtmgbigiegjlieaaGreatDoor
open Go.HL
set_option maxRecDepth 100000
set_option linter.unusedVariables false
set_option linter.unusedSimpArgs false
theorem h_Read1 [Tracks] {bo : Nat} : ∀ (done : List Str) (s : Str) (st : Value × List Pick), done.length ≤ 1000000 → s.length ≤ 1000000 → st.2 = done.map rpP → Con Tryz.prog 37 ([.str s] ++ [pAt bo]) (SPk bo st) fun x M' => ∃ st', x = .bool (rpB s) ∧ M' = SPk bo st' ∧ (rpB s = true → st'.2 = (done ++ [s]).map rpP) :=
 fun done s st h1 h2 h3 => (c_draft_Read_1 h2 (by rw [h3, List.length_map]; exact h1)).mono fun x M' ⟨v', hx, hM⟩ => ⟨(v', st.2 ++ [rpP s]), hx, hM, fun _ => by simp [h3]⟩

theorem h_PicksRead1 [Tracks] {bo : Nat} : ∀ (done : List Str) (s : Str) (st : Value × List Pick), done.length ≤ 1000000 → s.length ≤ 1000000 → st.2 = done.map rpP → Con Tryz.prog 40 ([.str s] ++ [pAt bo]) (SPk bo st) fun x M' => ∃ st', x = .bool (rpB s) ∧ M' = SPk bo st' ∧ (rpB s = true → st'.2 = (done ++ [s]).map rpP) :=
 fun done s st h1 h2 h3 => (c_benchref1_PicksRead_1 h2 (by rw [h3, List.length_map]; exact h1)).mono fun x M' ⟨v', ps', hx, hM, hp⟩ => ⟨(v', ps'), hx, hM, fun h => by rw [hp h, h3]; simp⟩

/-- benchwarmer/draft.Read -/
theorem c_draft_Read [Tracks] {text : Str} (ht : text.length ≤ 1000000) : ConP Tryz.prog 14 [.str text] (.tup [ePicks (prP text), .int .i64 (prI text), .int .i64 (prE text)]) := by
 have hpl := prL_len text
 refine Con.of_body Tryz.func14 rfl Tryz.ntmps14 rfl rfl ?_
 refine hw_reg ?_
 refine dp rfl (pop_assign rfl) ?_
 refine dp rfl (pop_assign rfl) ?_
 refine dp rfl (pop_assign rfl) ?_
 refine dn ?_
 refine hw_seq ?_
 refine hw_reg ?_
 refine dp rfl (pop_move rfl) ?_
 refine dp rfl (pop_lens ty9 rfl) ?_
 refine dp rfl (pop_gtr rfl rfl) ?_
 refine dn ?_
 refine hw_cond rfl (fun h1 => ?_) (fun h2 => ?_)
 ·try simp at h1
  refine hw_reg ?_
  refine dp rfl (pop_assign rfl) ?_
  refine dp rfl (pop_assign rfl) ?_
  refine dp rfl (pop_assign rfl) ?_
  refine dn ?_
  refine hw_ret ?_
  first
  | exact ret_w rfl (weakPk (pr_1 h1).1 (by decide) (pr_1 h1).2)
  | exact ret_gw Ghost.clear rfl (weakPk (pr_2 (by omega) h3).1 (by decide) (pr_2 (by omega) h3).2) ⟨rfl, rfl⟩
  | exact ret_w rfl (weakPk (pr_3 (by omega) h4).1 h5 (pr_3 (by omega) h4).2)
  | exact ret_p rfl (eqPk ((pr_3 (by omega) h4).1.trans h6) (pr_3 (by omega) h4).2)
 ·try simp at h2
  refine hw_skip ?_
  refine seqQ_n ?_
  refine hw_reg ?_
  refine de rfl (eop_alloc ty30 rfl fun b5 => ?_)
  refine dn ?_
  refine hw_ghost (Ghost.arr_nil 5) ?_
  refine hw_reg ?_
  refine dp rfl (pop_move rfl) ?_
  refine dp rfl (pop_makeFunc rfl rfl) ?_
  refine de rfl (eop_callf (M1 := SPk b5 (.slice none 0 0, [])) (R := []) ca36 rfl (WeakL.refl _) (List.Perm.swap _ _ _) (c_base_Each (S := SPk b5) (Inv := fun done st => st.2 = done.map rpP) (ok := rpB) (caps := [pAt b5]) (st0 := (.slice none 0 0, [])) ca37 h_Read1 rfl ht) ?_)
  rintro _ _ ⟨st2, rfl, rfl, hst2⟩
  refine dp rfl (pop_move rfl) ?_
  refine dp rfl (pop_extract rfl rfl) ?_
  refine dp rfl (pop_extract rfl rfl) ?_
  refine dp rfl (pop_assign rfl) ?_
  refine dp rfl (pop_assign rfl) ?_
  refine dn ?_
  refine hw_seq ?_
  refine hw_reg ?_
  refine dp rfl (pop_move rfl) ?_
  refine dp rfl (pop_not rfl) ?_
  refine dn ?_
  refine hw_cond rfl (fun h3 => ?_) (fun h4 => ?_)
  ·try simp at h3
   refine hw_reg ?_
   refine dp rfl (pop_move rfl) ?_
   refine dp rfl (pop_assign rfl) ?_
   refine dp rfl (pop_assign rfl) ?_
   refine dp rfl (pop_assign rfl) ?_
   refine dn ?_
   refine hw_ret ?_
   first
   | exact ret_w rfl (weakPk (pr_1 h1).1 (by decide) (pr_1 h1).2)
   | exact ret_gw Ghost.clear rfl (weakPk (pr_2 (by omega) h3).1 (by decide) (pr_2 (by omega) h3).2) ⟨rfl, rfl⟩
   | exact ret_w rfl (weakPk (pr_3 (by omega) h4).1 h5 (pr_3 (by omega) h4).2)
   | exact ret_p rfl (eqPk ((pr_3 (by omega) h4).1.trans h6) (pr_3 (by omega) h4).2)
  ·try simp at h4
   refine hw_skip ?_
   refine seqQ_n ?_
   refine hw_seq ?_
   obtain ⟨v2, ps2⟩ := st2
   obtain rfl : ps2 = prL text := hst2 h4
   refine hw_ghost (Ghost.of_eq (M' := [.cells b5 [.raw v2], .arr v2 5 ((prL text).map ePick)]) rfl) ?_
   refine hw_ghost (Ghost.fcell (i := 1) (k := 0) (j := 0) rfl rfl rfl) ?_
   refine hw_ghost (Ghost.of_eq (M' := [.cells b5 [ePicks (prL text)]]) rfl) ?_
   refine hw_ghost (Ghost.fc 5 (i := 0) rfl rfl) ?_
   refine hw_reg ?_
   refine dp rfl (pop_load ty30 rfl rfl rfl) ?_
   refine dp rfl (pop_call ca30 rfl (WeakL.refl _) (c_draft_listFault (l := prL text) (by omega))) ?_
   refine dp rfl (pop_assign rfl) ?_
   refine dn ?_
   refine hw_reg ?_
   refine dp rfl (pop_move rfl) ?_
   refine dp rfl (pop_neq rfl rfl) ?_
   refine dn ?_
   refine hw_cond rfl (fun h5 => ?_) (fun h6 => ?_)
   ·try simp at h5
    refine hw_reg ?_
    refine dp rfl (pop_move rfl) ?_
    refine dp rfl (pop_assign rfl) ?_
    refine dp rfl (pop_assign rfl) ?_
    refine dp rfl (pop_assign rfl) ?_
    refine dn ?_
    refine hw_ret ?_
    first
    | exact ret_w rfl (weakPk (pr_1 h1).1 (by decide) (pr_1 h1).2)
    | exact ret_gw Ghost.clear rfl (weakPk (pr_2 (by omega) h3).1 (by decide) (pr_2 (by omega) h3).2) ⟨rfl, rfl⟩
    | exact ret_w rfl (weakPk (pr_3 (by omega) h4).1 h5 (pr_3 (by omega) h4).2)
    | exact ret_p rfl (eqPk ((pr_3 (by omega) h4).1.trans h6) (pr_3 (by omega) h4).2)
   ·try simp at h6
    refine hw_skip ?_
    refine seqQ_n ?_
    refine hw_reg ?_
    refine dp rfl (pop_load ty30 rfl rfl rfl) ?_
    refine dp rfl (pop_assign rfl) ?_
    refine dp rfl (pop_assign rfl) ?_
    refine dp rfl (pop_assign rfl) ?_
    refine dn ?_
    refine hw_ret ?_
    first
    | exact ret_w rfl (weakPk (pr_1 h1).1 (by decide) (pr_1 h1).2)
    | exact ret_gw Ghost.clear rfl (weakPk (pr_2 (by omega) h3).1 (by decide) (pr_2 (by omega) h3).2) ⟨rfl, rfl⟩
    | exact ret_w rfl (weakPk (pr_3 (by omega) h4).1 h5 (pr_3 (by omega) h4).2)
    | exact ret_p rfl (eqPk ((pr_3 (by omega) h4).1.trans h6) (pr_3 (by omega) h4).2)

/-- benchwarmer/benchref1.PicksRead -/
theorem c_benchref1_PicksRead [Tracks] {text : Str} (ht : text.length ≤ 1000000) : ConP Tryz.prog 15 [.str text] (.tup [ePicks (prP text), .int .i64 (prI text), .int .i64 (prE text)]) := by
 have hpl := prL_len text
 refine Con.of_body Tryz.func15 rfl Tryz.ntmps15 rfl rfl ?_
 refine hw_reg ?_
 refine dp rfl (pop_assign rfl) ?_
 refine dp rfl (pop_assign rfl) ?_
 refine dp rfl (pop_assign rfl) ?_
 refine dn ?_
 refine hw_seq ?_
 refine hw_reg ?_
 refine dp rfl (pop_move rfl) ?_
 refine dp rfl (pop_lens ty9 rfl) ?_
 refine dp rfl (pop_gtr rfl rfl) ?_
 refine dn ?_
 refine hw_cond rfl (fun h1 => ?_) (fun h2 => ?_)
 ·try simp at h1
  refine hw_reg ?_
  refine dp rfl (pop_assign rfl) ?_
  refine dp rfl (pop_assign rfl) ?_
  refine dp rfl (pop_assign rfl) ?_
  refine dn ?_
  refine hw_ret ?_
  first
  | exact ret_w rfl (weakPk (pr_1 h1).1 (by decide) (pr_1 h1).2)
  | exact ret_gw Ghost.clear rfl (weakPk (pr_2 (by omega) h3).1 (by decide) (pr_2 (by omega) h3).2) ⟨rfl, rfl⟩
  | exact ret_w rfl (weakPk (pr_3 (by omega) h4).1 h5 (pr_3 (by omega) h4).2)
  | exact ret_p rfl (eqPk ((pr_3 (by omega) h4).1.trans h6) (pr_3 (by omega) h4).2)
 ·try simp at h2
  refine hw_skip ?_
  refine seqQ_n ?_
  refine hw_reg ?_
  refine de rfl (eop_alloc ty30 rfl fun b5 => ?_)
  refine dn ?_
  refine hw_ghost (Ghost.arr_nil 5) ?_
  refine hw_reg ?_
  refine dp rfl (pop_move rfl) ?_
  refine dp rfl (pop_makeFunc rfl rfl) ?_
  refine de rfl (eop_callf (M1 := SPk b5 (.slice none 0 0, [])) (R := []) ca39 rfl (WeakL.refl _) (List.Perm.swap _ _ _) (c_benchref1_Lines (S := SPk b5) (Inv := fun done st => st.2 = done.map rpP) (ok := rpB) (caps := [pAt b5]) (st0 := (.slice none 0 0, [])) ca40 h_PicksRead1 rfl ht) ?_)
  rintro _ _ ⟨st2, rfl, rfl, hst2⟩
  refine dp rfl (pop_move rfl) ?_
  refine dp rfl (pop_extract rfl rfl) ?_
  refine dp rfl (pop_extract rfl rfl) ?_
  refine dp rfl (pop_assign rfl) ?_
  refine dp rfl (pop_assign rfl) ?_
  refine dn ?_
  refine hw_seq ?_
  refine hw_reg ?_
  refine dp rfl (pop_move rfl) ?_
  refine dp rfl (pop_not rfl) ?_
  refine dn ?_
  refine hw_cond rfl (fun h3 => ?_) (fun h4 => ?_)
  ·try simp at h3
   refine hw_reg ?_
   refine dp rfl (pop_move rfl) ?_
   refine dp rfl (pop_assign rfl) ?_
   refine dp rfl (pop_assign rfl) ?_
   refine dp rfl (pop_assign rfl) ?_
   refine dn ?_
   refine hw_ret ?_
   first
   | exact ret_w rfl (weakPk (pr_1 h1).1 (by decide) (pr_1 h1).2)
   | exact ret_gw Ghost.clear rfl (weakPk (pr_2 (by omega) h3).1 (by decide) (pr_2 (by omega) h3).2) ⟨rfl, rfl⟩
   | exact ret_w rfl (weakPk (pr_3 (by omega) h4).1 h5 (pr_3 (by omega) h4).2)
   | exact ret_p rfl (eqPk ((pr_3 (by omega) h4).1.trans h6) (pr_3 (by omega) h4).2)
  ·try simp at h4
   refine hw_skip ?_
   refine seqQ_n ?_
   refine hw_seq ?_
   obtain ⟨v2, ps2⟩ := st2
   obtain rfl : ps2 = prL text := hst2 h4
   refine hw_ghost (Ghost.of_eq (M' := [.cells b5 [.raw v2], .arr v2 5 ((prL text).map ePick)]) rfl) ?_
   refine hw_ghost (Ghost.fcell (i := 1) (k := 0) (j := 0) rfl rfl rfl) ?_
   refine hw_ghost (Ghost.of_eq (M' := [.cells b5 [ePicks (prL text)]]) rfl) ?_
   refine hw_ghost (Ghost.fc 5 (i := 0) rfl rfl) ?_
   refine hw_reg ?_
   refine dp rfl (pop_load ty30 rfl rfl rfl) ?_
   refine dp rfl (pop_call ca10 rfl (WeakL.refl _) (c_benchref1_PickListFault (l := prL text) (by omega))) ?_
   refine dp rfl (pop_assign rfl) ?_
   refine dn ?_
   refine hw_reg ?_
   refine dp rfl (pop_move rfl) ?_
   refine dp rfl (pop_neq rfl rfl) ?_
   refine dn ?_
   refine hw_cond rfl (fun h5 => ?_) (fun h6 => ?_)
   ·try simp at h5
    refine hw_reg ?_
    refine dp rfl (pop_move rfl) ?_
    refine dp rfl (pop_assign rfl) ?_
    refine dp rfl (pop_assign rfl) ?_
    refine dp rfl (pop_assign rfl) ?_
    refine dn ?_
    refine hw_ret ?_
    first
    | exact ret_w rfl (weakPk (pr_1 h1).1 (by decide) (pr_1 h1).2)
    | exact ret_gw Ghost.clear rfl (weakPk (pr_2 (by omega) h3).1 (by decide) (pr_2 (by omega) h3).2) ⟨rfl, rfl⟩
    | exact ret_w rfl (weakPk (pr_3 (by omega) h4).1 h5 (pr_3 (by omega) h4).2)
    | exact ret_p rfl (eqPk ((pr_3 (by omega) h4).1.trans h6) (pr_3 (by omega) h4).2)
   ·try simp at h6
    refine hw_skip ?_
    refine seqQ_n ?_
    refine hw_reg ?_
    refine dp rfl (pop_load ty30 rfl rfl rfl) ?_
    refine dp rfl (pop_assign rfl) ?_
    refine dp rfl (pop_assign rfl) ?_
    refine dp rfl (pop_assign rfl) ?_
    refine dn ?_
    refine hw_ret ?_
    first
    | exact ret_w rfl (weakPk (pr_1 h1).1 (by decide) (pr_1 h1).2)
    | exact ret_gw Ghost.clear rfl (weakPk (pr_2 (by omega) h3).1 (by decide) (pr_2 (by omega) h3).2) ⟨rfl, rfl⟩
    | exact ret_w rfl (weakPk (pr_3 (by omega) h4).1 h5 (pr_3 (by omega) h4).2)
    | exact ret_p rfl (eqPk ((pr_3 (by omega) h4).1.trans h6) (pr_3 (by omega) h4).2)
end Go.Proofs.YtmgbigiegjlieaaGreatDoor
end
section
namespace Go.Proofs.YtmgbigiegjlieaaGreatDoor
open Go.HL
set_option maxRecDepth 100000
set_option linter.unusedVariables false
set_option linter.unusedSimpArgs false
/-- benchwarmer/draft.Text -/
theorem c_draft_Text [Tracks] {l : List Pick} (hl : l.length ≤ 1000000) : ConP Tryz.prog 11 [ePicks l] (.tup [.str (textS l), .int .i64 (pickLE l)]) := by
 refine Con.of_body Tryz.func11 rfl Tryz.ntmps11 rfl rfl ?_
 refine hw_reg ?_
 refine dp rfl (pop_assign rfl) ?_
 refine dp rfl (pop_assign rfl) ?_
 refine dn ?_
 refine hw_seq ?_
 refine hw_reg ?_
 refine dp rfl (pop_move rfl) ?_
 refine dp rfl (pop_call ca30 rfl (WeakL.refl _) (c_draft_listFault (by first | assumption | omega | (simp; omega) | simp_all))) ?_
 refine dp rfl (pop_assign rfl) ?_
 refine dn ?_
 refine hw_reg ?_
 refine dp rfl (pop_move rfl) ?_
 refine dp rfl (pop_neq rfl rfl) ?_
 refine dn ?_
 refine hw_cond rfl (fun h1 => ?_) (fun h2 => ?_)
 ·try simp at h1
  refine hw_reg ?_
  refine dp rfl (pop_move rfl) ?_
  refine dp rfl (pop_assign rfl) ?_
  refine dp rfl (pop_assign rfl) ?_
  refine dn ?_
  refine hw_ret ?_
  refine ret_p rfl ?_
  show HVal.tup _ = _
  first | (rw [textS, if_neg h1]; rfl) | (rw [textS, if_pos h2, h2]; rfl)
 ·try simp at h2
  refine hw_skip ?_
  refine seqQ_n ?_
  obtain ⟨hl6, hz⟩ := pickLE_z h2
  refine hw_reg ?_
  refine de rfl (eop_allocB 5 ty65 rfl fun b5 => ?_)
  refine dn ?_
  refine hw_seq ?_
  refine hw_reg ?_
  refine dp rfl (pop_move rfl) ?_
  refine dp rfl (pop_lenm ty30 rfl) ?_
  refine dp rfl (pop_move rfl) ?_
  refine dn ?_
  refine hw_block ?_
  refine hw_loopw2 [7, 15, 16, 17, 18, 19, 20, 21, 22, 23, 24, 25, 26, 27, 28, 29, 30, 31, 32, 33, 34, 35, 36, 37, 38, 39, 40] (fun (k : Nat) (v : Value) => [(15, .int .i64 k)]) (fun (k : Nat) (v : Value) => [.bld b5 65 5 v v (pickT (l.take k))]) (fun (k : Nat) (v : Value) => k ≤ l.length ∧ (True)) (fun (k : Nat) (v : Value) => l.length - k) (0) (.slice none 0 0) ?_ ?_ ?_ ?_
  ·exact ⟨Nat.zero_le _, trivial⟩
  ·exact ⟨rfl, trivial⟩
  ·exact perm_eq (by simp [pickT])
  ·intro k v hinv
   obtain ⟨hk, -⟩ := hinv
   refine hw_reg ?_
   refine dp rfl (pop_lss rfl rfl) ?_
   refine dn ?_
   refine hw_seq ?_
   refine hw_cond rfl (fun h3 => ?_) (fun h4 => ?_)
   ·try simp at h3
    obtain ⟨x, hx⟩ : ∃ x, l[k]? = some x := ⟨_, List.getElem?_eq_getElem h3⟩
    have hdx := drop_cons hx
    have hpx := pickFs_z hz x (List.mem_of_getElem? hx)
    obtain ⟨hx1, hx2, hx3, hx4⟩ := pickF_z hpx
    have a1 := itoa_nat_len hx1.1 (by omega)
    have a2 := itoa_nat_len hx4.1 (by omega)
    have a3 := key_len hx2
    have a4 := key_len hx3
    have hTk := pickT_len (l := l.take k) (fun p hp => pickFs_z hz p (List.mem_of_mem_take hp))
    have hT2 : (l.take k).length ≤ 600 := by rw [List.length_take]; omega
    refine hw_skip ?_
    refine seqQ_n ?_
    refine hw_seq ?_
    refine hw_block ?_
    refine hw_reg ?_
    refine dp rfl (pop_idx ty30 ty36 rfl rfl rfl (by first | assumption | simp_all)) ?_
    refine dp rfl (pop_loadw ty36 rfl rfl rfl rfl) ?_
    refine de rfl (eop_alloc ty36 rfl fun b7 => ?_)
    refine de0 (eop_storew ty36 rfl rfl rfl rfl rfl ?_)
    refine dn ?_
    refine hw_ghost (Ghost.fc0 7 rfl) ?_
    refine hw_draw (fun _ => True) [] mixed ?_
    refine ahp 0 rfl rfl (by kernel_rfl) (by kernel_rfl) (pop_fieldAddr ty36 rfl ty3 (by decide) rfl) ?_
    refine ahp 1 rfl rfl (by kernel_rfl) (by kernel_rfl) (pop_load ty3 rfl rfl rfl) ?_
    refine ahp 2 rfl rfl (by kernel_rfl) (by kernel_rfl) (pop_call ca21 rfl (WeakL.refl _) (c_Itoa (by omega) (by omega))) ?_
    refine ahp 3 rfl rfl (by kernel_rfl) (by kernel_rfl) (pop_adds rfl rfl (by simp; omega)) ?_
    refine ahp 4 rfl rfl (by kernel_rfl) (by kernel_rfl) (pop_fieldAddr ty36 rfl ty9 (by decide) rfl) ?_
    refine ahp 5 rfl rfl (by kernel_rfl) (by kernel_rfl) (pop_load ty9 rfl rfl rfl) ?_
    refine ahp 6 rfl rfl (by kernel_rfl) (by kernel_rfl) (pop_adds rfl rfl (by simp; omega)) ?_
    refine ahp 7 rfl rfl (by kernel_rfl) (by kernel_rfl) (pop_adds rfl rfl (by simp; omega)) ?_
    refine ahp 8 rfl rfl (by kernel_rfl) (by kernel_rfl) (pop_fieldAddr ty36 rfl ty9 (by decide) rfl) ?_
    refine ahp 9 rfl rfl (by kernel_rfl) (by kernel_rfl) (pop_load ty9 rfl rfl rfl) ?_
    refine ahp 10 rfl rfl (by kernel_rfl) (by kernel_rfl) (pop_adds rfl rfl (by simp; omega)) ?_
    refine ahp 11 rfl rfl (by kernel_rfl) (by kernel_rfl) (pop_adds rfl rfl (by simp; omega)) ?_
    refine ahp 12 rfl rfl (by kernel_rfl) (by kernel_rfl) (pop_fieldAddr ty36 rfl ty3 (by decide) rfl) ?_
    refine ahp 13 rfl rfl (by kernel_rfl) (by kernel_rfl) (pop_load ty3 rfl rfl rfl) ?_
    refine ahp 14 rfl rfl (by kernel_rfl) (by kernel_rfl) (pop_call ca21 rfl (WeakL.refl _) (c_Itoa (by omega) (by omega))) ?_
    refine ahp 15 rfl rfl (by kernel_rfl) (by kernel_rfl) (pop_adds rfl rfl (by simp; omega)) ?_
    refine ahe 16 rfl (by kernel_rfl) ?_
    refine hop_e rfl (eop_callx (i := 0) ca31 rfl (WeakL.refl _) rfl (c_strings_Builder_WriteString (by simp; omega)) ?_)
    rintro _ _ ⟨v35, rfl, rfl⟩
    refine ⟨fun _ => .inl trivial, ?_⟩
    refine ahz (by kernel_rfl) ?_
    refine hw_join [36, 37, 38] (fun (q : Value × Str) => []) (fun (q : Value × Str) => [.bld b5 65 5 q.1 q.1 q.2]) (fun (q : Value × Str) => q.2 ++ [10] = pickT (l.take (k + 1))) ?_ ?_
    ·skip
     refine hw_reg ?_
     refine dp rfl (pop_fieldAddr ty36 rfl ty4 (by decide) rfl) ?_
     refine dp rfl (pop_load ty4 rfl rfl rfl) ?_
     refine dn ?_
     refine hw_cond rfl (fun h5 => ?_) (fun h6 => ?_)
     ·try simp at h5
      refine hw_reg1 ?_
      refine de rfl (eop_callx (i := 0) ca31 rfl (WeakL.refl _) rfl (c_strings_Builder_WriteString (by simp; omega)) ?_)
      rintro _ _ ⟨v38, rfl, rfl⟩
      refine dn ?_
      exact ⟨(v38, _), by dsimp only; rw [take_snoc' hx, pickT_snoc, pickLn_eq, h5]; simp [autoS], trivial, (by repeat (first | exact keeps_refl | refine keeps_upd rfl ?_ | refine keeps_loop rfl rfl ?_)), perm_eq rfl⟩
     ·try simp at h6
      refine hw_skip ?_
      exact ⟨(v35, _), by dsimp only; rw [take_snoc' hx, pickT_snoc, pickLn_eq, h6]; simp, trivial, (by repeat (first | exact keeps_refl | refine keeps_upd rfl ?_ | refine keeps_loop rfl rfl ?_)), perm_eq rfl⟩
    ·intro q hq
     refine hw_reg1 ?_
     refine de rfl (eop_callx (i := 0) ca31 rfl (WeakL.refl _) rfl (c_strings_Builder_WriteString (by have hqT := congrArg List.length hq; have hT3 := pickT_len (l := l.take (k + 1)) (fun p hp => pickFs_z hz p (List.mem_of_mem_take hp)); simp at hqT hT3 ⊢; omega)) ?_)
     rintro _ _ ⟨v39, rfl, rfl⟩
     refine dn ?_
     refine blockQ_n ?_
     refine seqQ_n ?_
     refine hw_reg1 ?_
     refine dp rfl (pop_add64 rfl rfl (by omega) (by omega)) ?_
     refine dp rfl (pop_move rfl) ?_
     refine dn ?_
     exact ⟨k + 1, v39, ⟨by omega, trivial⟩, by dsimp only; omega, ⟨rfl, trivial⟩, (by repeat (first | exact keeps_refl | refine keeps_upd rfl ?_ | refine keeps_loop rfl rfl ?_)), perm_eq (by dsimp only; rw [hq]; rfl)⟩
   ·try simp at h4
    have hnk : l.length ≤ k := by omega
    obtain rfl : k = l.length := by omega
    rw [List.take_length]
    have hTl := pickT_len (l := l) (pickFs_z hz)
    refine hw_exit ?_
    refine seqQ_x ?_
    refine loopQ2_x ?_
    refine blockQ_eq ?_
    refine seqQ_n ?_
    refine hw_seq ?_
    refine hw_reg ?_
    refine de rfl (eop_callx (i := 0) ca32 rfl (WeakL.refl _) rfl c_strings_Builder_Len ?_)
    rintro _ _ ⟨rfl, rfl⟩
    refine dp rfl (pop_gtr rfl rfl) ?_
    refine dn ?_
    refine hw_cond rfl (fun h7 => ?_) (fun h7 => ?_)
    ·exfalso
     try simp at h7
     omega
    ·try simp at h7
     refine hw_skip ?_
     refine seqQ_n ?_
     refine hw_reg ?_
     refine de rfl (eop_callx (i := 0) ca33 rfl (WeakL.refl _) rfl c_strings_Builder_String ?_)
     rintro _ _ ⟨rfl, rfl⟩
     refine dp rfl (pop_assign rfl) ?_
     refine dp rfl (pop_assign rfl) ?_
     refine dn ?_
     refine hw_ret ?_
     refine ret_p rfl ?_
     show HVal.tup _ = _
     first | (rw [textS, if_neg h1]; rfl) | (rw [textS, if_pos h2, h2]; rfl)
end Go.Proofs.YtmgbigiegjlieaaGreatDoor
end
section
namespace Go.HL
variable {P : Program}
/-- What a rune reads as. -/
def runeS (m : Int) : List UInt8 := (Utf8.encode m).data.toList
theorem runeS_len (m : Int) : (runeS m).length ≤ 4 := by
 show (Utf8.encode m).data.toList.length ≤ 4
 rw [Array.length_toList]; exact encode_size_le m
theorem pop_runeS [Tracks] {e : Env} {dst : Option Tmp} {ty : TypeId} {pos : String} {af : Array Edge} {g : Option (Nat × Bool)} {x : Operand} {t d' : TypeId} {k : IntKind} {m : Int} {s1 s2 b1 b2 : Nat} {z1 z2 : Value} {ds : TD} (hs : Fits P t ds s1 b1 z1) (hf : Fits P d' .str s2 b2 z2) (hx : evalO e x = some (.int k m)) :
 POp P e ⟨dst, .convert t d' x, ty, pos, af, g⟩ (.str (runeS m)) :=
 POp.of_val fun I a w ho => ⟨.string (Utf8.encode m), by
  have h1 := (ho.one (x := x) (by simp [Op.operands]) hx).int_inv
  obtain ⟨u, hu, _⟩ := hs.underlying
  simp only [execOp, h1, convert, Sem.run_bind, run_underlying hu, run_underlying hf.strD, Result.andThen_ok, Sem.run_pure, Conv.intToString], by
  have : Value.string (Utf8.encode m) = .string ⟨(runeS m).toArray⟩ := by simp [runeS]
  rw [this]; exact .str _⟩
end Go.HL
end
section
namespace Go.Proofs.YtmgbigiegjlieaaGreatDoor
open Go.HL
set_option maxRecDepth 100000
set_option linter.unusedVariables false
set_option linter.unusedSimpArgs false
/-- benchwarmer/benchref1.PickLines -/
theorem c_benchref1_PickLines [Tracks] {l : List Pick} (hT : Tracks.on = false) (hz0 : pickLE l = 0) : ConP Tryz.prog 12 [ePicks l] (.str (pickT l)) := by
 obtain ⟨hl6, hz⟩ := pickLE_z hz0
 refine Con.of_body Tryz.func12 rfl Tryz.ntmps12 rfl rfl ?_
 refine hw_reg ?_
 refine dp rfl (pop_assign rfl) ?_
 refine dn ?_
 refine hw_reg ?_
 refine de rfl (eop_allocB 5 ty65 rfl fun b3 => ?_)
 refine dn ?_
 refine hw_seq ?_
 refine hw_reg ?_
 refine dp rfl (pop_move rfl) ?_
 refine dp rfl (pop_lenm ty30 rfl) ?_
 refine dp rfl (pop_move rfl) ?_
 refine dn ?_
 refine hw_block ?_
 refine hw_loopw2 [5, 6, 9, 10, 11, 12, 13, 14, 15, 16, 17, 18, 19, 20, 21, 22, 23, 24, 25, 26, 27, 28, 29, 30, 31, 32, 33] (fun (k : Nat) (v : Value) => [(9, .int .i64 k)]) (fun (k : Nat) (v : Value) => [.bld b3 65 5 v v (pickT (l.take k))]) (fun (k : Nat) (v : Value) => k ≤ l.length ∧ (True)) (fun (k : Nat) (v : Value) => l.length - k) (0) (.slice none 0 0) ?_ ?_ ?_ ?_
 ·exact ⟨Nat.zero_le _, trivial⟩
 ·exact ⟨rfl, trivial⟩
 ·exact perm_eq (by simp [pickT])
 ·intro k v hinv
  obtain ⟨hk, -⟩ := hinv
  refine hw_reg ?_
  refine dp rfl (pop_lss rfl rfl) ?_
  refine dn ?_
  refine hw_seq ?_
  refine hw_cond rfl (fun h1 => ?_) (fun h2 => ?_)
  ·try simp at h1
   obtain ⟨x, hx⟩ : ∃ x, l[k]? = some x := ⟨_, List.getElem?_eq_getElem h1⟩
   have hdx := drop_cons hx
   have hpx := pickFs_z hz x (List.mem_of_getElem? hx)
   obtain ⟨hx1, hx2, hx3, hx4⟩ := pickF_z hpx
   have a1 := itoa_nat_len hx1.1 (by omega)
   have a2 := itoa_nat_len hx4.1 (by omega)
   have a3 := key_len hx2
   have a4 := key_len hx3
   have hTk := pickT_len (l := l.take k) (fun p hp => pickFs_z hz p (List.mem_of_mem_take hp))
   have hT2 : (l.take k).length ≤ 600 := by rw [List.length_take]; omega
   have hLn := pickLn_len hpx
   rw [pickLn, List.length_append] at hLn
   simp only [List.length_cons, List.length_nil] at hLn
   refine hw_skip ?_
   refine seqQ_n ?_
   refine hw_seq ?_
   refine hw_block ?_
   refine hw_reg ?_
   refine dp rfl (pop_idx ty30 ty36 rfl rfl rfl (by first | assumption | simp_all)) ?_
   refine dp rfl (pop_loadw ty36 rfl rfl rfl rfl) ?_
   refine de rfl (eop_alloc ty36 rfl fun b5 => ?_)
   refine de0 (eop_storew ty36 rfl rfl rfl rfl rfl ?_)
   refine dn ?_
   refine hw_ghost (Ghost.fc0 5 rfl) ?_
   refine hw_draw (fun _ => True) [] mixed ?_
   refine ahp 0 rfl rfl (by kernel_rfl) (by kernel_rfl) ((by first | exact pop_fieldAddr ty36 rfl ty3 (by decide) rfl | exact pop_fieldAddr_raw ty36 rfl ty3 (by decide) rfl)) ?_
   refine ahp 1 rfl rfl (by kernel_rfl) (by kernel_rfl) (pop_load ty3 rfl rfl rfl) ?_
   refine ahp 2 rfl rfl (by kernel_rfl) (by kernel_rfl) (pop_call ca21 rfl (WeakL.refl _) (c_Itoa (by omega) (by omega))) ?_
   refine ahp 3 rfl rfl (by kernel_rfl) (by kernel_rfl) ((by first | exact pop_fieldAddr ty36 rfl ty9 (by decide) rfl | exact pop_fieldAddr_raw ty36 rfl ty9 (by decide) rfl)) ?_
   refine ahp 4 rfl rfl (by kernel_rfl) (by kernel_rfl) (pop_load ty9 rfl rfl rfl) ?_
   refine ahp 5 rfl rfl (by kernel_rfl) (by kernel_rfl) ((by first | exact pop_fieldAddr ty36 rfl ty9 (by decide) rfl | exact pop_fieldAddr_raw ty36 rfl ty9 (by decide) rfl)) ?_
   refine ahp 6 rfl rfl (by kernel_rfl) (by kernel_rfl) (pop_load ty9 rfl rfl rfl) ?_
   refine ahp 7 rfl rfl (by kernel_rfl) (by kernel_rfl) ((by first | exact pop_fieldAddr ty36 rfl ty3 (by decide) rfl | exact pop_fieldAddr_raw ty36 rfl ty3 (by decide) rfl)) ?_
   refine ahp 8 rfl rfl (by kernel_rfl) (by kernel_rfl) (pop_load ty3 rfl rfl rfl) ?_
   refine ahp 9 rfl rfl (by kernel_rfl) (by kernel_rfl) (pop_call ca21 rfl (WeakL.refl _) (c_Itoa (by omega) (by omega))) ?_
   refine ahe 10 rfl (by kernel_rfl) ?_
   refine hop_e rfl (eop_buildSliceA (hs := [_, _, _, _]) ty26 ty9 rfl rfl (by decide) (by decide) rfl fun v23 => ?_)
   refine ⟨fun _ => .inl trivial, ?_⟩
   refine ahp 11 rfl rfl (by kernel_rfl) (by kernel_rfl) (pop_assign rfl) ?_
   refine ahz (by kernel_rfl) ?_
   refine hw_join [6, 24, 25, 26, 27, 28] (fun (q : Value × List Str) => [(6, .raw q.1)]) (fun (q : Value × List Str) => [.arr q.1 1 (q.2.map .str), .bld b3 65 5 v v (pickT (l.take k))]) (fun (q : Value × List Str) => q.2 = pickW x) ?_ ?_
   ·skip
    refine hw_reg ?_
    refine dp rfl ((by first | exact pop_fieldAddr ty36 rfl ty4 (by decide) rfl | exact pop_fieldAddr_raw ty36 rfl ty4 (by decide) rfl)) ?_
    refine dp rfl (pop_load ty4 rfl rfl rfl) ?_
    refine dn ?_
    refine hw_cond rfl (fun h3 => ?_) (fun h4 => ?_)
    ·try simp at h3
     refine hw_reg1 ?_
     refine dp rfl (pop_move rfl) ?_
     refine dp rfl (pop_buildSlice (hs := [_]) ty26 ty9 rfl rfl (by decide) (by decide) rfl) ?_
     refine de rfl (eop_append (i := 0) ty26 ty9 rfl rfl rfl rfl rfl (by simp [flat, hcells, ofVal, ofVal1]) (by simp) fun v28 => ?_)
     refine dp rfl (pop_assign rfl) ?_
     refine dn ?_
     exact ⟨(v28, [Lib.itoa x.No, x.Team, x.Player, Lib.itoa x.At] ++ [autoS]), by dsimp only; rw [pickW, h3]; rfl, ⟨rfl, trivial⟩, (by repeat (first | exact keeps_refl | refine keeps_upd rfl ?_ | refine keeps_loop rfl rfl ?_)), perm_eq rfl⟩
    ·try simp at h4
     refine hw_skip ?_
     exact ⟨(v23, [Lib.itoa x.No, x.Team, x.Player, Lib.itoa x.At]), by dsimp only; rw [pickW, h4]; rfl, ⟨rfl, trivial⟩, (by repeat (first | exact keeps_refl | refine keeps_upd rfl ?_ | refine keeps_loop rfl rfl ?_)), perm_eq rfl⟩
   ·intro q hq
    obtain ⟨u, ws⟩ := q
    dsimp only at hq
    subst hq
    refine hw_ghost (Ghost.fa 6 (i := 0) rfl rfl) ?_
    refine hw_ghost (Ghost.of_eq (M' := [.bld b3 65 5 v v (pickT (l.take k))]) rfl) ?_
    refine hw_reg1 ?_
    refine dp rfl (pop_move rfl) ?_
    refine dp rfl (pop_call ca34 rfl (WeakL.refl _) (c_strings_Join hT (l := pickW x) (c := 32) (by omega) (by have := pickW_len x; omega))) ?_
    refine dp rfl (pop_adds rfl rfl (by simp; omega)) ?_
    refine de rfl (eop_callx (i := 0) ca31 rfl (WeakL.refl _) rfl (c_strings_Builder_WriteString (by simp; omega)) ?_)
    rintro _ _ ⟨v32, rfl, rfl⟩
    refine dn ?_
    refine blockQ_n ?_
    refine seqQ_n ?_
    refine hw_reg1 ?_
    refine dp rfl (pop_add64 rfl rfl (by omega) (by omega)) ?_
    refine dp rfl (pop_move rfl) ?_
    refine dn ?_
    exact ⟨k + 1, v32, ⟨by omega, trivial⟩, by dsimp only; omega, ⟨rfl, trivial⟩, (by repeat (first | exact keeps_refl | refine keeps_upd rfl ?_ | refine keeps_loop rfl rfl ?_)), perm_eq (by dsimp only; rw [take_snoc' hx, pickT_snoc]; rfl)⟩
  ·try simp at h2
   have hnk : l.length ≤ k := by omega
   obtain rfl : k = l.length := by omega
   rw [List.take_length]
   refine hw_exit ?_
   refine seqQ_x ?_
   refine loopQ2_x ?_
   refine blockQ_eq ?_
   refine seqQ_n ?_
   refine hw_reg ?_
   refine de rfl (eop_callx (i := 0) ca33 rfl (WeakL.refl _) rfl c_strings_Builder_String ?_)
   rintro _ _ ⟨rfl, rfl⟩
   refine dp rfl (pop_assign rfl) ?_
   refine dn ?_
   refine hw_ret ?_
   refine ret_p rfl ?_
   rfl

/-- (*benchwarmer/benchmake.Stream).Changed -/
theorem c_benchmake_Stream_Changed [Tracks] {b : Nat} {l : List Int} {a : Nat} {t w : Str} (ha : a ≤ 900000) (ht : t.length ≤ 1000000) (hw : w.length ≤ 1000000) : Con Tryz.prog 35 [pAt b, .str t, .str w] [St b l a] (fun x M' => ∃ (y : Str) (a' : Nat), x = .str y ∧ y.length ≤ t.length + w.length + 4 ∧ a' ≤ a + 3 ∧ M' = [St b l a']) := by
 refine Con.of_body Tryz.func35 rfl Tryz.ntmps35 rfl rfl ?_
 refine hw_reg ?_
 refine dp rfl (pop_assign rfl) ?_
 refine dn ?_
 refine hw_seq ?_
 refine hw_reg ?_
 refine dp rfl (pop_move rfl) ?_
 refine dp rfl (pop_eqls rfl rfl) ?_
 refine dp rfl (pop_move rfl) ?_
 refine dg rfl rfl (fun hc => ⟨_, OpenTo.refl _, pop_move rfl⟩) ?_
 refine dg rfl rfl (fun hc => ⟨_, OpenTo.upd (t := 12) rfl (by first | exact hc | simp_all) (OpenTo.refl _), pop_eqls rfl rfl⟩) ?_
 refine dp rfl (pop_picko rfl (.inl rfl) (.inr ⟨_, rfl, fun h => by simp_all⟩)) ?_
 refine dn ?_
 refine hw_cond rfl (fun h1 => ?_) (fun h2 => ?_)
 ·try simp at h1
  refine hw_reg ?_
  refine dp rfl (pop_move rfl) ?_
  refine dp rfl (pop_assign rfl) ?_
  refine dn ?_
  refine hw_ret ?_
  first
  | exact ret_q rfl ⟨_, a, rfl, by omega, by omega, rfl⟩
  | (refine ret_q rfl ⟨_, a + 1 + 1 + 1, rfl, ?_, by omega, rfl⟩
     simp only [List.length_append, List.length_drop, List.length_take]
     (try simp only [List.getD_eq_getElem?_getD])
     omega)
 ·try simp at h2
  refine hw_skip ?_
  refine seqQ_n ?_
  refine hw_reg ?_
  refine dp rfl (pop_move rfl) ?_
  refine dp rfl (pop_move rfl) ?_
  refine dp rfl (pop_lens ty9 rfl) ?_
  first
  | refine de rfl (eop_callx (i := 0) ca22 rfl (WeakL.refl _) rfl (c_benchmake_Stream_Next (by first | assumption | omega | (simp; omega) | simp_all) (by first | assumption | omega | (simp; omega) | simp_all)) ?_)
  | refine de rfl (eop_callx (i := 1) ca22 rfl (WeakL.refl _) rfl (c_benchmake_Stream_Next (by first | assumption | omega | (simp; omega) | simp_all) (by first | assumption | omega | (simp; omega) | simp_all)) ?_)
  | refine de rfl (eop_callx (i := 2) ca22 rfl (WeakL.refl _) rfl (c_benchmake_Stream_Next (by first | assumption | omega | (simp; omega) | simp_all) (by first | assumption | omega | (simp; omega) | simp_all)) ?_)
  | refine de rfl (eop_callx (i := 3) ca22 rfl (WeakL.refl _) rfl (c_benchmake_Stream_Next (by first | assumption | omega | (simp; omega) | simp_all) (by first | assumption | omega | (simp; omega) | simp_all)) ?_)
  rintro _ _ ⟨y19, rfl, hy19, rfl⟩
  refine dp rfl (pop_assign rfl) ?_
  refine dn ?_
  have hlt : y19 < t.length := by have := List.length_pos_iff.2 h2.1; omega
  have hwp := List.length_pos_iff.2 h2.2
  refine hw_reg ?_
  refine dp rfl (pop_move rfl) ?_
  refine dp rfl (pop_move rfl) ?_
  refine dp rfl (pop_move rfl) ?_
  refine dp rfl (pop_lens ty9 rfl) ?_
  first
  | refine de rfl (eop_callx (i := 0) ca22 rfl (WeakL.refl _) rfl (c_benchmake_Stream_Next (by first | assumption | omega | (simp; omega) | simp_all) (by first | assumption | omega | (simp; omega) | simp_all)) ?_)
  | refine de rfl (eop_callx (i := 1) ca22 rfl (WeakL.refl _) rfl (c_benchmake_Stream_Next (by first | assumption | omega | (simp; omega) | simp_all) (by first | assumption | omega | (simp; omega) | simp_all)) ?_)
  | refine de rfl (eop_callx (i := 2) ca22 rfl (WeakL.refl _) rfl (c_benchmake_Stream_Next (by first | assumption | omega | (simp; omega) | simp_all) (by first | assumption | omega | (simp; omega) | simp_all)) ?_)
  | refine de rfl (eop_callx (i := 3) ca22 rfl (WeakL.refl _) rfl (c_benchmake_Stream_Next (by first | assumption | omega | (simp; omega) | simp_all) (by first | assumption | omega | (simp; omega) | simp_all)) ?_)
  rintro _ _ ⟨y24, rfl, hy24, rfl⟩
  refine dp rfl (pop_indexs (j := y24) (b := w.getD y24 0) ty9 rfl rfl rfl (getD_some (by omega))) ?_
  refine dp rfl (pop_assign rfl) ?_
  refine dn ?_
  refine hw_seq ?_
  have hru : (runeS (IntKind.i32.wrap (((w[y24]?.getD 0).toNat : Nat) : Int))).length ≤ 4 := runeS_len _
  refine hw_reg ?_
  refine dp rfl (pop_move rfl) ?_
  first
  | refine de rfl (eop_callx (i := 0) ca22 rfl (WeakL.refl _) rfl (c_benchmake_Stream_Next (by first | assumption | omega | (simp; omega) | simp_all) (by first | assumption | omega | (simp; omega) | simp_all)) ?_)
  | refine de rfl (eop_callx (i := 1) ca22 rfl (WeakL.refl _) rfl (c_benchmake_Stream_Next (by first | assumption | omega | (simp; omega) | simp_all) (by first | assumption | omega | (simp; omega) | simp_all)) ?_)
  | refine de rfl (eop_callx (i := 2) ca22 rfl (WeakL.refl _) rfl (c_benchmake_Stream_Next (by first | assumption | omega | (simp; omega) | simp_all) (by first | assumption | omega | (simp; omega) | simp_all)) ?_)
  | refine de rfl (eop_callx (i := 3) ca22 rfl (WeakL.refl _) rfl (c_benchmake_Stream_Next (by first | assumption | omega | (simp; omega) | simp_all) (by first | assumption | omega | (simp; omega) | simp_all)) ?_)
  rintro _ _ ⟨y27, rfl, hy27, rfl⟩
  refine dn ?_
  refine hw_block ?_
  refine hw_reg ?_
  refine dp rfl (pop_eql rfl rfl) ?_
  refine dp rfl (pop_assign rfl) ?_
  refine dn ?_
  refine hw_cond rfl (fun h3 => ?_) (fun h4 => ?_)
  ·try simp at h3
   refine hw_draw (fun _ => True) [] mixed ?_
   refine ahp 0 rfl rfl (by kernel_rfl) (by kernel_rfl) (pop_move rfl) ?_
   refine ahp 1 rfl rfl (by kernel_rfl) (by kernel_rfl) (pop_move rfl) ?_
   refine ahp 2 rfl rfl (by kernel_rfl) (by kernel_rfl) (pop_slices ty9 rfl rfl ⟨_, _, rfl, rfl⟩ (by omega) (by omega)) ?_
   refine ahp 3 rfl rfl (by kernel_rfl) (by kernel_rfl) (pop_move rfl) ?_
   refine ahp 4 rfl rfl (by kernel_rfl) (by kernel_rfl) (pop_conv ty5 ty21 rfl) ?_
   refine ahp 5 rfl rfl (by kernel_rfl) (by kernel_rfl) (pop_runeS ty21 ty9 rfl) ?_
   refine ahp 6 rfl rfl (by kernel_rfl) (by kernel_rfl) (pop_adds rfl rfl (by first | assumption | (simp; omega))) ?_
   refine ahp 7 rfl rfl (by kernel_rfl) (by kernel_rfl) (pop_move rfl) ?_
   refine ahp 8 rfl rfl (by kernel_rfl) (by kernel_rfl) (pop_move rfl) ?_
   refine ahp 9 rfl rfl (by kernel_rfl) (by kernel_rfl) (pop_add64 rfl rfl (by omega) (by omega)) ?_
   refine ahp 10 rfl rfl (by kernel_rfl) (by kernel_rfl) (pop_slices (l := y19 + 1) (h := t.length) ty9 rfl ⟨_, _, rfl, by omega⟩ rfl (by omega) (by omega)) ?_
   refine ahp 11 rfl rfl (by kernel_rfl) (by kernel_rfl) (pop_adds rfl rfl (by first | assumption | (simp; omega))) ?_
   refine ahp 12 rfl rfl (by kernel_rfl) (by kernel_rfl) (pop_assign rfl) ?_
   refine ahz (by kernel_rfl) ?_
   refine hw_ret ?_
   first
   | exact ret_q rfl ⟨_, a, rfl, by omega, by omega, rfl⟩
   | (refine ret_q rfl ⟨_, a + 1 + 1 + 1, rfl, ?_, by omega, rfl⟩
      simp only [List.length_append, List.length_drop, List.length_take]
      (try simp only [List.getD_eq_getElem?_getD])
      omega)
  ·try simp at h4
   refine hw_reg ?_
   refine dp rfl (pop_eql rfl rfl) ?_
   refine dp rfl (pop_assign rfl) ?_
   refine dn ?_
   refine hw_cond rfl (fun h5 => ?_) (fun h6 => ?_)
   ·try simp at h5
    refine hw_draw (fun _ => True) [] mixed ?_
    refine ahp 0 rfl rfl (by kernel_rfl) (by kernel_rfl) (pop_move rfl) ?_
    refine ahp 1 rfl rfl (by kernel_rfl) (by kernel_rfl) (pop_move rfl) ?_
    refine ahp 2 rfl rfl (by kernel_rfl) (by kernel_rfl) (pop_slices ty9 rfl rfl ⟨_, _, rfl, rfl⟩ (by omega) (by omega)) ?_
    refine ahp 3 rfl rfl (by kernel_rfl) (by kernel_rfl) (pop_move rfl) ?_
    refine ahp 4 rfl rfl (by kernel_rfl) (by kernel_rfl) (pop_conv ty5 ty21 rfl) ?_
    refine ahp 5 rfl rfl (by kernel_rfl) (by kernel_rfl) (pop_runeS ty21 ty9 rfl) ?_
    refine ahp 6 rfl rfl (by kernel_rfl) (by kernel_rfl) (pop_adds rfl rfl (by first | assumption | (simp; omega))) ?_
    refine ahp 7 rfl rfl (by kernel_rfl) (by kernel_rfl) (pop_move rfl) ?_
    refine ahp 8 rfl rfl (by kernel_rfl) (by kernel_rfl) (pop_move rfl) ?_
    refine ahp 9 rfl rfl (by kernel_rfl) (by kernel_rfl) (pop_slices ty9 rfl ⟨_, _, rfl, rfl⟩ rfl (by omega) (by omega)) ?_
    refine ahp 10 rfl rfl (by kernel_rfl) (by kernel_rfl) (pop_adds rfl rfl (by first | assumption | (simp; omega))) ?_
    refine ahp 11 rfl rfl (by kernel_rfl) (by kernel_rfl) (pop_assign rfl) ?_
    refine ahz (by kernel_rfl) ?_
    refine hw_ret ?_
    first
    | exact ret_q rfl ⟨_, a, rfl, by omega, by omega, rfl⟩
    | (refine ret_q rfl ⟨_, a + 1 + 1 + 1, rfl, ?_, by omega, rfl⟩
       simp only [List.length_append, List.length_drop, List.length_take]
       (try simp only [List.getD_eq_getElem?_getD])
       omega)
   ·try simp at h6
    refine hw_skip ?_
    refine blockQ_n ?_
    refine seqQ_n ?_
    refine hw_draw (fun _ => True) [] mixed ?_
    refine ahp 0 rfl rfl (by kernel_rfl) (by kernel_rfl) (pop_move rfl) ?_
    refine ahp 1 rfl rfl (by kernel_rfl) (by kernel_rfl) (pop_move rfl) ?_
    refine ahp 2 rfl rfl (by kernel_rfl) (by kernel_rfl) (pop_slices ty9 rfl rfl ⟨_, _, rfl, rfl⟩ (by omega) (by omega)) ?_
    refine ahp 3 rfl rfl (by kernel_rfl) (by kernel_rfl) (pop_move rfl) ?_
    refine ahp 4 rfl rfl (by kernel_rfl) (by kernel_rfl) (pop_move rfl) ?_
    refine ahp 5 rfl rfl (by kernel_rfl) (by kernel_rfl) (pop_add64 rfl rfl (by omega) (by omega)) ?_
    refine ahp 6 rfl rfl (by kernel_rfl) (by kernel_rfl) (pop_slices (l := y19 + 1) (h := t.length) ty9 rfl ⟨_, _, rfl, by omega⟩ rfl (by omega) (by omega)) ?_
    refine ahp 7 rfl rfl (by kernel_rfl) (by kernel_rfl) (pop_adds rfl rfl (by first | assumption | (simp; omega))) ?_
    refine ahp 8 rfl rfl (by kernel_rfl) (by kernel_rfl) (pop_assign rfl) ?_
    refine ahz (by kernel_rfl) ?_
    refine hw_ret ?_
    first
    | exact ret_q rfl ⟨_, a, rfl, by omega, by omega, rfl⟩
    | (refine ret_q rfl ⟨_, a + 1 + 1 + 1, rfl, ?_, by omega, rfl⟩
       simp only [List.length_append, List.length_drop, List.length_take]
       (try simp only [List.getD_eq_getElem?_getD])
       omega)

/-- (*benchwarmer/benchmake.Stream).PickString -/
theorem c_benchmake_Stream_PickString [Tracks] {b : Nat} {l : List Int} {a : Nat}  (hT : Tracks.on = false) (ha : a ≤ 600000) : Con Tryz.prog 13 [pAt b] [St b l a] (fun x M' => ∃ (t : Str) (a' : Nat), x = .str t ∧ t.length ≤ 200000 ∧ a' ≤ a + 200 ∧ M' = [St b l a']) := by
 refine Con.of_body Tryz.func13 rfl Tryz.ntmps13 rfl rfl ?_
 refine hw_reg ?_
 refine dp rfl (pop_assign rfl) ?_
 refine dn ?_
 refine hw_reg ?_
 refine dp rfl (pop_move rfl) ?_
 first
 | refine de rfl (eop_callx (i := 0) ca5 rfl (WeakL.refl _) rfl (c_benchmake_Stream_RoomOf (by first | assumption | omega | (simp; omega) | simp_all)) ?_)
 | refine de rfl (eop_callx (i := 1) ca5 rfl (WeakL.refl _) rfl (c_benchmake_Stream_RoomOf (by first | assumption | omega | (simp; omega) | simp_all)) ?_)
 | refine de rfl (eop_callx (i := 2) ca5 rfl (WeakL.refl _) rfl (c_benchmake_Stream_RoomOf (by first | assumption | omega | (simp; omega) | simp_all)) ?_)
 | refine de rfl (eop_callx (i := 3) ca5 rfl (WeakL.refl _) rfl (c_benchmake_Stream_RoomOf (by first | assumption | omega | (simp; omega) | simp_all)) ?_)
 rintro _ _ ⟨r7, a7, rfl, hr7, ha7, rfl⟩
 refine de rfl (eop_alloc ty28 rfl fun b3 => ?_)
 refine de0 (eop_storew ty28 rfl rfl rfl rfl rfl ?_)
 refine dn ?_
 refine hw_ghost (Ghost.fc0 3 rfl) ?_
 refine hw_reg ?_
 refine dp rfl (pop_assign rfl) ?_
 refine dn ?_
 refine hw_join [4, 5, 8, 9, 10, 11, 12, 13, 14, 15] (fun (q : Str × Nat) => [(4, .str q.1)]) (fun (q : Str × Nat) => [St b l q.2]) (fun (q : Str × Nat) => q.1.length ≤ 1200 ∧ q.2 ≤ a + 120) ?_ ?_
 ·skip
  refine hw_reg ?_
  refine dp rfl (pop_move rfl) ?_
  refine dp rfl (pop_loadw ty28 rfl rfl rfl rfl) ?_
  refine de rfl (eop_callx (i := 0) (hs' := [pAt b, eRoom r7, eKeeps [], eSwaps []]) ca6 rfl ⟨Weak.refl _, Weak.refl _, weak_nil _, weak_nil _, trivial⟩ rfl (c_benchmake_Stream_PickList (ks := []) (ss := []) (by omega) hr7 (by simp) (by simp)) ?_)
  rintro _ _ ⟨p10, a10, rfl, hp10, ha10, rfl⟩
  have hpl := hp10.len
  refine dp rfl (pop_assign rfl) ?_
  refine dn ?_
  refine hw_reg ?_
  refine dp rfl (pop_move rfl) ?_
  refine dp rfl (pop_call ca10 rfl (WeakL.refl _) (c_benchref1_PickListFault (l := p10) (by omega))) ?_
  refine dp rfl (pop_eql rfl rfl) ?_
  refine dn ?_
  refine hw_cond rfl (fun h1 => ?_) (fun h2 => ?_)
  ·try simp at h1
   refine hw_reg1 ?_
   refine dp rfl (pop_move rfl) ?_
   refine dp rfl (pop_call ca12 rfl (WeakL.refl _) (c_benchref1_PickLines (l := p10) hT (by simpa using h1))) ?_
   refine dp rfl (pop_assign rfl) ?_
   refine dn ?_
   exact ⟨(pickT p10, a10), ⟨by have h5 := pickT_len (pickFs_z (pickLE_z (by simpa using h1)).2); dsimp only; omega, by dsimp only; omega⟩, ⟨rfl, trivial⟩, (by repeat (first | exact keeps_refl | refine keeps_upd rfl ?_ | refine keeps_loop rfl rfl ?_)), perm_eq rfl⟩
  ·try simp at h2
   refine hw_skip ?_
   exact ⟨(_, a10), ⟨by simp, by dsimp only; omega⟩, ⟨rfl, trivial⟩, (by repeat (first | exact keeps_refl | refine keeps_upd rfl ?_ | refine keeps_loop rfl rfl ?_)), perm_eq rfl⟩
 ·intro q hq
  obtain ⟨t0, a1⟩ := q
  dsimp only at hq
  obtain ⟨hq1, hq2⟩ := hq
  refine hw_seq ?_
  refine hw_reg ?_
  refine dp rfl (pop_move rfl) ?_
  refine dp rfl (pop_buildSlice (hs := [_, _, _, _]) ty22 ty3 rfl rfl (by decide) (by decide) rfl) ?_
  first
  | refine de rfl (eop_callx (i := 0) ca20 rfl (WeakL.refl _) rfl (c_benchmake_Stream_Pick (L := [_, _, _, _]) (by first | assumption | omega | (simp; omega) | simp_all) (by first | assumption | omega | (simp; omega) | simp_all) (by first | assumption | omega | (simp; omega) | simp_all)) ?_)
  | refine de rfl (eop_callx (i := 1) ca20 rfl (WeakL.refl _) rfl (c_benchmake_Stream_Pick (L := [_, _, _, _]) (by first | assumption | omega | (simp; omega) | simp_all) (by first | assumption | omega | (simp; omega) | simp_all) (by first | assumption | omega | (simp; omega) | simp_all)) ?_)
  | refine de rfl (eop_callx (i := 2) ca20 rfl (WeakL.refl _) rfl (c_benchmake_Stream_Pick (L := [_, _, _, _]) (by first | assumption | omega | (simp; omega) | simp_all) (by first | assumption | omega | (simp; omega) | simp_all) (by first | assumption | omega | (simp; omega) | simp_all)) ?_)
  | refine de rfl (eop_callx (i := 3) ca20 rfl (WeakL.refl _) rfl (c_benchmake_Stream_Pick (L := [_, _, _, _]) (by first | assumption | omega | (simp; omega) | simp_all) (by first | assumption | omega | (simp; omega) | simp_all) (by first | assumption | omega | (simp; omega) | simp_all)) ?_)
  rintro _ _ ⟨y18, rfl, hy18, rfl⟩
  refine dp rfl (pop_move rfl) ?_
  refine dn ?_
  have hy2 : y18 ≤ 2 := by simp at hy18; omega
  refine hw_block ?_
  refine hw_loopw3 [4, 19, 20, 21, 22, 23, 24] (fun (k : Nat) (t : Str) (a2 : Nat) => [(19, .int .i64 (k : Int)), (4, .str t)]) (fun (k : Nat) (t : Str) (a2 : Nat) => [St b l a2]) (fun (k : Nat) (t : Str) (a2 : Nat) => k ≤ 2 ∧ t.length ≤ 1200 + 20 * k ∧ a2 ≤ a1 + 1 + 3 * k) (fun (k : Nat) (t : Str) (a2 : Nat) => 2 - k) (0) (t0) (a1 + 1) ?_ ?_ ?_ ?_
  ·exact ⟨by omega, by omega, by omega⟩
  ·exact ⟨rfl, rfl, trivial⟩
  ·exact perm_eq rfl
  ·intro k t a2 hinv
   obtain ⟨hk, hlt, hat⟩ := hinv
   refine hw_reg ?_
   refine dp rfl (pop_lss rfl rfl) ?_
   refine dn ?_
   refine hw_seq ?_
   refine hw_cond rfl (fun h3 => ?_) (fun h4 => ?_)
   ·try simp at h3
    refine hw_skip ?_
    refine seqQ_n ?_
    refine hw_seq ?_
    refine hw_block ?_
    refine hw_reg1 ?_
    refine dp rfl (pop_move rfl) ?_
    refine dp rfl (pop_move rfl) ?_
    first
    | refine de rfl (eop_callx (i := 0) ca35 rfl (WeakL.refl _) rfl (c_benchmake_Stream_Changed (by first | assumption | omega | (simp; omega) | simp_all) (by first | assumption | omega | (simp; omega) | simp_all) (by first | assumption | omega | (simp; omega) | simp_all)) ?_)
    | refine de rfl (eop_callx (i := 1) ca35 rfl (WeakL.refl _) rfl (c_benchmake_Stream_Changed (by first | assumption | omega | (simp; omega) | simp_all) (by first | assumption | omega | (simp; omega) | simp_all) (by first | assumption | omega | (simp; omega) | simp_all)) ?_)
    | refine de rfl (eop_callx (i := 2) ca35 rfl (WeakL.refl _) rfl (c_benchmake_Stream_Changed (by first | assumption | omega | (simp; omega) | simp_all) (by first | assumption | omega | (simp; omega) | simp_all) (by first | assumption | omega | (simp; omega) | simp_all)) ?_)
    | refine de rfl (eop_callx (i := 3) ca35 rfl (WeakL.refl _) rfl (c_benchmake_Stream_Changed (by first | assumption | omega | (simp; omega) | simp_all) (by first | assumption | omega | (simp; omega) | simp_all) (by first | assumption | omega | (simp; omega) | simp_all)) ?_)
    rintro _ _ ⟨s23, a23, rfl, hs23, ha23, rfl⟩
    refine dp rfl (pop_assign rfl) ?_
    refine dn ?_
    refine blockQ_n ?_
    refine seqQ_n ?_
    refine hw_reg1 ?_
    refine dp rfl (pop_add64 rfl rfl (by omega) (by omega)) ?_
    refine dp rfl (pop_move rfl) ?_
    refine dn ?_
    exact ⟨k + 1, s23, a23, ⟨by omega, by simp at hs23; omega, by omega⟩, by dsimp only; omega, ⟨rfl, rfl, trivial⟩, (by repeat (first | exact keeps_refl | refine keeps_upd rfl ?_ | refine keeps_loop rfl rfl ?_)), perm_eq rfl⟩
   ·try simp at h4
    refine hw_exit ?_
    refine seqQ_x ?_
    refine loopQ3_x ?_
    refine blockQ_eq ?_
    refine seqQ_n ?_
    refine hw_reg ?_
    refine dp rfl (pop_move rfl) ?_
    refine dp rfl (pop_assign rfl) ?_
    refine dn ?_
    refine hw_ret ?_
    exact ret_q rfl ⟨t, a2, rfl, by omega, by omega, rfl⟩
end Go.Proofs.YtmgbigiegjlieaaGreatDoor
end
section
namespace Go.Proofs.YtmgbigiegjlieaaGreatDoor
open Go.HL
set_option maxRecDepth 100000
set_option linter.unusedVariables false
set_option linter.unusedSimpArgs false
/-- benchwarmer/benchlaw1.drafted -/
theorem c_benchlaw1_drafted [Tracks]   : ConP Tryz.prog 17 [] (.bool true) := by
 refine Con.of_body Tryz.func17 rfl Tryz.ntmps17 rfl rfl ?_
 refine hw_reg ?_
 refine dp rfl (pop_assign rfl) ?_
 refine dn ?_
 refine hw_reg ?_
 refine dp rfl (pop_buildSlice (hs := [_, _]) ty26 ty9 rfl rfl (by decide) (by decide) rfl) ?_
 refine dp rfl (pop_buildSlice (hs := [_, _, _, _]) ty26 ty9 rfl rfl (by decide) (by decide) rfl) ?_
 refine dp rfl (pop_build (cs := [_, _, _, _, _, _]) ty28 pl28 rfl) ?_
 refine de rfl (eop_alloc ty28 rfl fun b1 => ?_)
 refine de0 (eop_storew ty28 rfl rfl rfl rfl rfl ?_)
 refine dn ?_
 refine hw_ghost (Ghost.fc0 1 rfl) ?_
 refine hw_reg ?_
 refine dp rfl (pop_loadw ty28 rfl rfl rfl rfl) ?_
 refine dp rfl (pop_call (hs' := [eRoom room1, eSwaps []]) ca44 rfl ⟨Weak.refl _, weak_nil 3, trivial⟩ (c_draft_Turns (r := room1) (s := []) (by decide) (by decide) (by decide))) ?_
 refine dp rfl (pop_move rfl) ?_
 refine dp rfl (pop_extract rfl rfl) ?_
 refine dp rfl (pop_extract rfl rfl) ?_
 refine dp rfl (pop_assign rfl) ?_
 refine dp rfl (pop_assign rfl) ?_
 refine dn ?_
 refine hw_reg ?_
 refine dp rfl (pop_move rfl) ?_
 refine dp rfl (pop_eql rfl rfl) ?_
 refine dp rfl (pop_move rfl) ?_
 refine dg rfl rfl (fun hc => ⟨_, OpenTo.refl _, pop_move rfl⟩) ?_
 refine dg rfl rfl (fun hc => ⟨_, OpenTo.refl _, pop_buildSlice (hs := [_, _, _, _]) ty26 ty9 rfl rfl (by decide) (by decide) rfl⟩) ?_
 refine dg rfl rfl (fun hc => ⟨_, OpenTo.upd (t := 16) rfl (by first | exact hc | simp_all) (OpenTo.upd (t := 15) rfl (by first | exact hc | simp_all) (OpenTo.refl _)), pop_call ca45 rfl (WeakL.refl _) (c_slices_Equal_string_string (l := turnTeams room1 []) (m := [[97], [98], [98], [97]]) (by rw [room1_turns]; decide))⟩) ?_
 refine dp rfl (pop_picko rfl (.inr ⟨_, rfl, fun h => by simp_all⟩) (.inl rfl)) ?_
 refine dp rfl (pop_assign rfl) ?_
 refine dn ?_
 refine hw_ret ?_
 refine ret_p rfl ?_
 rw [room1_turns, room1_ok]
 rfl
end Go.Proofs.YtmgbigiegjlieaaGreatDoor
end
section
namespace Go.Proofs.YtmgbigiegjlieaaGreatDoor
open Go.HL
set_option maxRecDepth 100000
set_option linter.unusedVariables false
set_option linter.unusedSimpArgs false
set_option maxHeartbeats 4000000 in
/-- (*benchwarmer/benchmake.Stream).PickList -/
theorem c_benchmake_Stream_PickList_a [Tracks] {b : Nat} {l : List Int} {a : Nat} {r : Room} {ks : List Keep} {ss : List Swap} (ha : a ≤ 700000) (hr : GoodRoom r) (hk0 : ks.length ≤ 1000000) (hl0 : ss.length ≤ 1000000) : Con Tryz.prog 6 [pAt b, eRoom r, eKeeps ks, eSwaps ss] [St b l a] (fun x M' => ∃ v k a', x = .raw v ∧ GoodPicks k ∧ a' ≤ a + 100 ∧ M' = [St b l a', .arr v 5 (k.map ePick)]) := by
 have ht := hr.t4
 have hp := hr.p20
 refine Con.of_body Tryz.func6 rfl Tryz.ntmps6 rfl rfl ?_
 refine hw_reg ?_
 refine dp rfl (pop_box rfl rfl) ?_
 refine dp rfl (pop_assign rfl) ?_
 refine dn ?_
 refine hw_seq ?_
 refine hw_reg ?_
 refine dp rfl (pop_loadw ty28 rfl rfl rfl rfl) ?_
 refine dp rfl (pop_move rfl) ?_
 refine dp rfl (pop_move rfl) ?_
 refine dp rfl (pop_eq (pop_call ca24 rfl (WeakL.refl _) (c_benchref1_OpenFault (by omega) (by omega) hr.ts hr.ps hk0 hl0)) (congrArg (HVal.int .i64) (openFault_ref r ks ss))) ?_
 refine dp rfl (pop_neq rfl rfl) ?_
 refine dn ?_
 refine hw_cond rfl (fun h1 => ?_) (fun h2 => ?_)
 ·try simp at h1
  refine hw_reg ?_
  refine dp rfl (pop_assign rfl) ?_
  refine dn ?_
  refine hw_ret ?_
  first
  | exact ret_g ((Ghost.arr_nil 5).trans (Ghost.perm (List.Perm.swap _ _ _))) rfl ⟨_, [], a, rfl, ⟨by simp⟩, by omega, rfl⟩
  | exact ret_q rfl ⟨_, k1, a4, rfl, ⟨by omega⟩, by omega, rfl⟩
 ·try simp at h2
  refine hw_skip ?_
  refine seqQ_n ?_
  refine hw_reg ?_
  refine dp rfl (pop_assign rfl) ?_
  refine dn ?_
  have hof : openFault r ks ss = 0 := by simpa using h2
  refine hw_ghost (Ghost.arr_nil 5) ?_
  refine hw_reg ?_
  refine dp rfl ((by first | exact pop_fieldAddr ty28 rfl ty3 (by decide) rfl | exact pop_fieldAddr_raw ty28 rfl ty3 (by decide) rfl)) ?_
  refine dp rfl (pop_load ty3 rfl rfl rfl) ?_
  refine dp rfl (pop_assign rfl) ?_
  refine dn ?_
  refine hw_joing [9, 10, 11, 12, 21, 22, 23, 24, 25, 26, 27, 28, 29, 30, 31, 32, 33, 34, 35, 36, 37, 38, 39, 40, 41, 42, 43, 44, 45, 46, 47, 48, 49, 50, 51, 52, 53, 54, 55, 56] (fun (q : GL Pick) => [(9, .raw q.u)]) (fun (q : GL Pick) => [St b l q.a, .arr q.u 5 (q.out.map ePick)]) (fun (q : GL Pick) => q.out.length ≤ 8 ∧ q.a ≤ a + 30) ?_ ?_
  ·skip
   refine hw_reg ?_
   refine dp rfl (pop_move rfl) ?_
   first
   | refine de rfl (eop_callx (i := 0) ca19 rfl (WeakL.refl _) rfl (c_benchmake_Stream_Range (by first | assumption | omega | (simp; omega) | simp_all) (by first | assumption | omega | (simp; omega) | simp_all) (by first | assumption | omega | (simp; omega) | simp_all) (by first | assumption | omega | (simp; omega) | simp_all)) ?_)
   | refine de rfl (eop_callx (i := 1) ca19 rfl (WeakL.refl _) rfl (c_benchmake_Stream_Range (by first | assumption | omega | (simp; omega) | simp_all) (by first | assumption | omega | (simp; omega) | simp_all) (by first | assumption | omega | (simp; omega) | simp_all) (by first | assumption | omega | (simp; omega) | simp_all)) ?_)
   | refine de rfl (eop_callx (i := 2) ca19 rfl (WeakL.refl _) rfl (c_benchmake_Stream_Range (by first | assumption | omega | (simp; omega) | simp_all) (by first | assumption | omega | (simp; omega) | simp_all) (by first | assumption | omega | (simp; omega) | simp_all) (by first | assumption | omega | (simp; omega) | simp_all)) ?_)
   | refine de rfl (eop_callx (i := 3) ca19 rfl (WeakL.refl _) rfl (c_benchmake_Stream_Range (by first | assumption | omega | (simp; omega) | simp_all) (by first | assumption | omega | (simp; omega) | simp_all) (by first | assumption | omega | (simp; omega) | simp_all) (by first | assumption | omega | (simp; omega) | simp_all)) ?_)
   rintro _ _ ⟨y22, rfl, hy22, rfl⟩
   refine dp rfl (pop_move rfl) ?_
   refine dn ?_
   refine hw_block ?_
   refine hw_loopw3 [9, 10, 11, 12, 23, 24, 25, 26, 27, 28, 29, 30, 31, 32, 33, 34, 35, 36, 37, 38, 39, 40, 41, 42, 43, 44, 45, 46, 47, 48, 49, 50, 51, 52, 53, 54, 55, 56] (fun (k : Nat) (at1 : Int) (q : GL Pick) => [(23, .int .i64 (k : Int)), (9, .raw q.u), (10, .int .i64 at1)]) (fun (k : Nat) (at1 : Int) (q : GL Pick) => [St b l q.a, .arr q.u 5 (q.out.map ePick)]) (fun (k : Nat) (at1 : Int) (q : GL Pick) => k ≤ 8 ∧ (q.out.length ≤ k ∧ q.out.length ≤ (freeP r ks ss).length) ∧ q.a ≤ a + 1 + 3 * k) (fun (k : Nat) (at1 : Int) (q : GL Pick) => 8 - k) (0) (r.Start) (⟨.slice none 0 0, [], a + 1⟩) ?_ ?_ ?_ ?_
   ·exact ⟨by omega, ⟨by simp, by simp⟩, by dsimp only; omega⟩
   ·exact ⟨rfl, rfl, rfl, trivial⟩
   ·repeat (first | exact List.Perm.nil | refine permTo 0 rfl ?_ | refine permTo 1 rfl ?_ | refine permTo 2 rfl ?_ | refine permTo 3 rfl ?_ | (refine permToE 0 rfl ?hq ?_; (case hq => simp [setL, hcells]; done)) | (refine permToE 1 rfl ?hq ?_; (case hq => simp [setL, hcells]; done)) | (refine permToE 2 rfl ?hq ?_; (case hq => simp [setL, hcells]; done)) | (refine permToE 3 rfl ?hq ?_; (case hq => simp [setL, hcells]; done)) | fail)
   ·intro k at1 q hinv
    obtain ⟨hk, hq, hqa⟩ := hinv
    obtain ⟨u, out, a2⟩ := q
    dsimp only at hq hqa
    obtain ⟨g1, g2⟩ := hq
    refine hw_reg ?_
    refine dp rfl (pop_lss rfl rfl) ?_
    refine dn ?_
    refine hw_seq ?_
    refine hw_cond rfl (fun h3 => ?_) (fun h4 => ?_)
    ·try simp at h3
     have hk8 : k < 8 := by omega
     refine hw_skip ?_
     refine seqQ_n ?_
     refine hw_seq ?_
     refine hw_block ?_
     refine hw_reg ?_
     refine dp rfl (pop_loadw ty28 rfl rfl rfl rfl) ?_
     refine dp rfl (pop_move rfl) ?_
     refine dp rfl (pop_move rfl) ?_
     refine dp rfl (pop_move rfl) ?_
     refine de rfl (eop_callw (hs' := [eRoom r, eKeeps ks, eSwaps ss, ePicks out]) ca25 rfl ⟨.refl, .refl, .refl, .arr (i := 1) rfl, trivial⟩ (c_benchref1_NextOf hof hk0 hl0 g2) rfl ?_)
     refine dp rfl (pop_move rfl) ?_
     refine dp rfl (pop_extract rfl rfl) ?_
     refine dp rfl (pop_extract rfl rfl) ?_
     refine de rfl (eop_alloc ty36 rfl fun b11 => ?_)
     first
     | refine de0 (eop_store (i := 0) ty36 rfl rfl rfl rfl rfl (Nat.le_of_ble_eq_true rfl) ?_)
     | refine de0 (eop_store (i := 1) ty36 rfl rfl rfl rfl rfl (Nat.le_of_ble_eq_true rfl) ?_)
     | refine de0 (eop_store (i := 2) ty36 rfl rfl rfl rfl rfl (Nat.le_of_ble_eq_true rfl) ?_)
     | refine de0 (eop_store (i := 3) ty36 rfl rfl rfl rfl rfl (Nat.le_of_ble_eq_true rfl) ?_)
     refine dp rfl (pop_assign rfl) ?_
     refine dn ?_
     refine hw_seq ?_
     refine hw_reg ?_
     refine dp rfl (pop_move rfl) ?_
     refine dp rfl (pop_not rfl) ?_
     refine dn ?_
     refine hw_cond rfl (fun h5 => ?_) (fun h6 => ?_)
     ·try simp at h5
      refine hw_exit ?_
      refine seqQ_x ?_
      refine blockQ_ne rfl ?_
      refine seqQ_x ?_
      refine loopQ3_x ?_
      refine blockQ_eq ?_
      refine joinG_n Ghost.drop ?_
      refine joinG_z ⟨u, out, a2⟩ ⟨by dsimp only; omega, by dsimp only; omega⟩ ⟨rfl, trivial⟩ (by repeat (first | exact keeps_refl | refine keeps_upd rfl ?_ | refine keeps_loop rfl rfl ?_)) ?_
      repeat (first | exact List.Perm.nil | refine permTo 0 rfl ?_ | refine permTo 1 rfl ?_ | refine permTo 2 rfl ?_ | refine permTo 3 rfl ?_ | (refine permToE 0 rfl ?hq ?_; (case hq => simp [setL, hcells]; done)) | (refine permToE 1 rfl ?hq ?_; (case hq => simp [setL, hcells]; done)) | (refine permToE 2 rfl ?hq ?_; (case hq => simp [setL, hcells]; done)) | (refine permToE 3 rfl ?hq ?_; (case hq => simp [setL, hcells]; done)) | fail)
     ·try simp at h6
      refine hw_skip ?_
      refine seqQ_n ?_
      have hLl : out.length < (freeP r ks ss).length := by omega
      have hln := left_ne hof hLl
      have hlm : (leftL r ks out).length ≤ r.Players.length := List.length_filter_le _ _
      refine hw_reg ?_
      refine dp rfl (pop_move rfl) ?_
      refine dp rfl (pop_move rfl) ?_
      refine dp rfl (pop_buildSlice (hs := [_, _, _]) ty22 ty3 rfl rfl (by decide) (by decide) rfl) ?_
      first
      | refine de rfl (eop_callx (i := 0) ca20 rfl (WeakL.refl _) rfl (c_benchmake_Stream_Pick (L := [_, _, _]) (by first | assumption | omega | (simp; omega) | simp_all) (by first | assumption | omega | (simp; omega) | simp_all) (by first | assumption | omega | (simp; omega) | simp_all)) ?_)
      | refine de rfl (eop_callx (i := 1) ca20 rfl (WeakL.refl _) rfl (c_benchmake_Stream_Pick (L := [_, _, _]) (by first | assumption | omega | (simp; omega) | simp_all) (by first | assumption | omega | (simp; omega) | simp_all) (by first | assumption | omega | (simp; omega) | simp_all)) ?_)
      | refine de rfl (eop_callx (i := 2) ca20 rfl (WeakL.refl _) rfl (c_benchmake_Stream_Pick (L := [_, _, _]) (by first | assumption | omega | (simp; omega) | simp_all) (by first | assumption | omega | (simp; omega) | simp_all) (by first | assumption | omega | (simp; omega) | simp_all)) ?_)
      | refine de rfl (eop_callx (i := 3) ca20 rfl (WeakL.refl _) rfl (c_benchmake_Stream_Pick (L := [_, _, _]) (by first | assumption | omega | (simp; omega) | simp_all) (by first | assumption | omega | (simp; omega) | simp_all) (by first | assumption | omega | (simp; omega) | simp_all)) ?_)
      rintro _ _ ⟨y38, rfl, hy38, rfl⟩
      refine dp rfl (pop_add rfl rfl) ?_
      refine dp rfl (pop_assign rfl) ?_
      refine dn ?_
      refine hw_reg ?_
      refine dp rfl (pop_move rfl) ?_
      refine dp rfl (pop_loadw ty28 rfl rfl rfl rfl) ?_
      refine dp rfl (pop_move rfl) ?_
      refine dp rfl (pop_move rfl) ?_
      refine de rfl (EOp.fz (eop_callba (hs' := [eRoom r, eKeeps ks, ePicks out]) ca26 rfl ⟨.weak (Weak.refl _), .weak (Weak.refl _), .arr (i := 2) rfl, trivial⟩ (c_benchref1_LeftOf_a (by omega) hk0 (by omega)) (fun y hy => by obtain ⟨z, _, rfl⟩ := List.mem_map.1 hy; rfl) fun v => ⟨v, rfl, rfl⟩) ?_)
      first
      | refine de rfl (eop_callx (i := 0) ca9 rfl (WeakL.refl _) rfl (c_benchmake_Stream_Some (by first | assumption | omega | (simp; omega) | simp_all) (by first | assumption | omega | (simp; omega) | simp_all) (by first | assumption | omega | (simp; omega) | simp_all)) ?_)
      | refine de rfl (eop_callx (i := 1) ca9 rfl (WeakL.refl _) rfl (c_benchmake_Stream_Some (by first | assumption | omega | (simp; omega) | simp_all) (by first | assumption | omega | (simp; omega) | simp_all) (by first | assumption | omega | (simp; omega) | simp_all)) ?_)
      | refine de rfl (eop_callx (i := 2) ca9 rfl (WeakL.refl _) rfl (c_benchmake_Stream_Some (by first | assumption | omega | (simp; omega) | simp_all) (by first | assumption | omega | (simp; omega) | simp_all) (by first | assumption | omega | (simp; omega) | simp_all)) ?_)
      | refine de rfl (eop_callx (i := 3) ca9 rfl (WeakL.refl _) rfl (c_benchmake_Stream_Some (by first | assumption | omega | (simp; omega) | simp_all) (by first | assumption | omega | (simp; omega) | simp_all) (by first | assumption | omega | (simp; omega) | simp_all)) ?_)
      rintro _ _ ⟨y45, rfl, hy45, rfl⟩
      refine dp rfl (pop_move rfl) ?_
      refine dp rfl (pop_move rfl) ?_
      first
      | refine de rfl (eop_callx (i := 0) ca7 rfl (WeakL.refl _) rfl (c_benchmake_Stream_Flip (by first | assumption | omega | (simp; omega) | simp_all) (by first | assumption | omega | (simp; omega) | simp_all)) ?_)
      | refine de rfl (eop_callx (i := 1) ca7 rfl (WeakL.refl _) rfl (c_benchmake_Stream_Flip (by first | assumption | omega | (simp; omega) | simp_all) (by first | assumption | omega | (simp; omega) | simp_all)) ?_)
      | refine de rfl (eop_callx (i := 2) ca7 rfl (WeakL.refl _) rfl (c_benchmake_Stream_Flip (by first | assumption | omega | (simp; omega) | simp_all) (by first | assumption | omega | (simp; omega) | simp_all)) ?_)
      | refine de rfl (eop_callx (i := 3) ca7 rfl (WeakL.refl _) rfl (c_benchmake_Stream_Flip (by first | assumption | omega | (simp; omega) | simp_all) (by first | assumption | omega | (simp; omega) | simp_all)) ?_)
      rintro _ _ ⟨y48, rfl, rfl⟩
      refine dp rfl (pop_fieldAddr_raw ty36 rfl ty9 (by decide) rfl) ?_
      first
      | refine de0 (eop_store (i := 0) ty9 rfl rfl rfl rfl rfl (Nat.le_of_ble_eq_true rfl) ?_)
      | refine de0 (eop_store (i := 1) ty9 rfl rfl rfl rfl rfl (Nat.le_of_ble_eq_true rfl) ?_)
      | refine de0 (eop_store (i := 2) ty9 rfl rfl rfl rfl rfl (Nat.le_of_ble_eq_true rfl) ?_)
      | refine de0 (eop_store (i := 3) ty9 rfl rfl rfl rfl rfl (Nat.le_of_ble_eq_true rfl) ?_)
      refine dp rfl (pop_fieldAddr_raw ty36 rfl ty3 (by decide) rfl) ?_
      first
      | refine de0 (eop_store (i := 0) ty3 rfl rfl rfl rfl rfl (Nat.le_of_ble_eq_true rfl) ?_)
      | refine de0 (eop_store (i := 1) ty3 rfl rfl rfl rfl rfl (Nat.le_of_ble_eq_true rfl) ?_)
      | refine de0 (eop_store (i := 2) ty3 rfl rfl rfl rfl rfl (Nat.le_of_ble_eq_true rfl) ?_)
      | refine de0 (eop_store (i := 3) ty3 rfl rfl rfl rfl rfl (Nat.le_of_ble_eq_true rfl) ?_)
      refine dp rfl (pop_fieldAddr_raw ty36 rfl ty4 (by decide) rfl) ?_
      first
      | refine de0 (eop_store (i := 0) ty4 rfl rfl rfl rfl rfl (Nat.le_of_ble_eq_true rfl) ?_)
      | refine de0 (eop_store (i := 1) ty4 rfl rfl rfl rfl rfl (Nat.le_of_ble_eq_true rfl) ?_)
      | refine de0 (eop_store (i := 2) ty4 rfl rfl rfl rfl rfl (Nat.le_of_ble_eq_true rfl) ?_)
      | refine de0 (eop_store (i := 3) ty4 rfl rfl rfl rfl rfl (Nat.le_of_ble_eq_true rfl) ?_)
      refine dn ?_
      refine hw_ghost (Ghost.of_eq (M' := [St b l (a2 + 1 + 1 + 1), .cells b11 (hcells (ePick ⟨(nextP r ks ss out).No, (nextP r ks ss out).Team, y45, IntKind.wrap .i64 (at1 + y38), y48⟩)), .arr u 5 (out.map ePick)]) rfl) ?_
      refine hw_ghost (Ghost.fc 11 (i := 1) rfl rfl) ?_
      refine hw_reg1 ?_
      refine dp rfl (pop_move rfl) ?_
      refine dp rfl (pop_loadw ty36 rfl rfl rfl rfl) ?_
      refine dp rfl (pop_buildSlice (hs := [_]) ty30 ty36 rfl rfl (by decide) (by decide) rfl) ?_
      refine de rfl (eop_append (i := 1) ty30 ty36 rfl rfl rfl rfl rfl (by simp [flat, hcells]) (by simp; omega) fun v55 => ?_)
      refine dp rfl (pop_assign rfl) ?_
      refine dn ?_
      refine blockQ_n ?_
      refine seqQ_n ?_
      refine hw_reg1 ?_
      refine dp rfl (pop_add64 rfl rfl (by omega) (by omega)) ?_
      refine dp rfl (pop_move rfl) ?_
      refine dn ?_
      exact ⟨k + 1, IntKind.wrap .i64 (at1 + y38), ⟨v55, out ++ [⟨(nextP r ks ss out).No, (nextP r ks ss out).Team, y45, IntKind.wrap .i64 (at1 + y38), y48⟩], a2 + 3⟩, ⟨by omega, ⟨by simp; omega, by simp; omega⟩, by dsimp only; omega⟩, by dsimp only; omega, ⟨rfl, rfl, rfl, trivial⟩, (by repeat (first | exact keeps_refl | refine keeps_upd rfl ?_ | refine keeps_loop rfl rfl ?_)), by repeat (first | exact List.Perm.nil | refine permTo 0 rfl ?_ | refine permTo 1 rfl ?_ | refine permTo 2 rfl ?_ | refine permTo 3 rfl ?_ | (refine permToE 0 rfl ?hq ?_; (case hq => simp [setL, hcells]; done)) | (refine permToE 1 rfl ?hq ?_; (case hq => simp [setL, hcells]; done)) | (refine permToE 2 rfl ?hq ?_; (case hq => simp [setL, hcells]; done)) | (refine permToE 3 rfl ?hq ?_; (case hq => simp [setL, hcells]; done)) | fail)⟩
    ·try simp at h4
     refine hw_exit ?_
     refine seqQ_x ?_
     refine loopQ3_x ?_
     refine blockQ_eq ?_
     refine joinG_z ⟨u, out, a2⟩ ⟨by dsimp only; omega, by dsimp only; omega⟩ ⟨rfl, trivial⟩ (by repeat (first | exact keeps_refl | refine keeps_upd rfl ?_ | refine keeps_loop rfl rfl ?_)) ?_
     repeat (first | exact List.Perm.nil | refine permTo 0 rfl ?_ | refine permTo 1 rfl ?_ | refine permTo 2 rfl ?_ | refine permTo 3 rfl ?_ | (refine permToE 0 rfl ?hq ?_; (case hq => simp [setL, hcells]; done)) | (refine permToE 1 rfl ?hq ?_; (case hq => simp [setL, hcells]; done)) | (refine permToE 2 rfl ?hq ?_; (case hq => simp [setL, hcells]; done)) | (refine permToE 3 rfl ?hq ?_; (case hq => simp [setL, hcells]; done)) | fail)
  ·intro q hq3
   obtain ⟨u, out, a2⟩ := q
   dsimp only at hq3
   obtain ⟨g1, g3⟩ := hq3
   refine hw_join (13 :: 57 :: 58 :: 59 :: 60 :: 61 :: 62 :: 63 :: 64 :: 65 :: 66 :: 67 :: 68 :: 69 :: 70 :: 71 :: 72 :: 73 :: 74 :: 75 :: 76 :: 77 :: 78 :: 79 :: 80 :: 81 :: 82 :: 83 :: 84 :: 85 :: 86 :: 87 :: 88 :: 89 :: 90 :: 91 :: 92 :: 93 :: 94 :: 95 :: 96 :: 97 :: 98 :: 99 :: 100 :: 101 :: 102 :: 103 :: 104 :: 105 :: 106 :: 107 :: 108 :: 109 :: 110 :: 111 :: 112 :: 113 :: 114 :: 115 :: 116 :: 117 :: 118 :: 119 :: 120 :: 121 :: 122 :: 123 :: 124 :: 125 :: []) (fun (q : List Pick × Nat) => []) (fun (q : List Pick × Nat) => [St b l q.2, .arr u 5 (q.1.map ePick)]) (fun (q : List Pick × Nat) => q.1.length ≤ 8 ∧ q.2 ≤ a + 100) ?_ ?_
   ·skip
    refine hw_reg ?_
    refine dp rfl (pop_move rfl) ?_
    first
    | refine de rfl (eop_lenm (i := 0) ty30 rfl rfl ?_)
    | refine de rfl (eop_lenm (i := 1) ty30 rfl rfl ?_)
    | refine de rfl (eop_lenm (i := 2) ty30 rfl rfl ?_)
    | refine de rfl (eop_lenm (i := 3) ty30 rfl rfl ?_)
    refine dp rfl (pop_gtr rfl rfl) ?_
    refine dp rfl (pop_move rfl) ?_
    refine dg rfl rfl (fun hc => ⟨_, OpenTo.refl _, pop_move rfl⟩) ?_
    refine dgx (fun x M' => ∃ (y : Bool) (a3 : Nat), x = .bool y ∧ a3 ≤ a2 + 1 ∧ M' = [St b l a3, .arr u 5 (out.map ePick)]) rfl rfl (fun hc => ⟨_, false, a2, rfl, by omega, rfl⟩) (fun hc => ⟨_, OpenTo.upd (t := 61) rfl (by first | exact hc | simp_all) (OpenTo.refl _), eop_callx (i := 0) ca7 rfl (WeakL.refl _) rfl (c_benchmake_Stream_Flip (a := a2) (by omega) (by omega)) (fun h M' hh => by
     obtain ⟨y, h1, h2⟩ := hh
     exact ⟨y, a2 + 1, h1, by omega, by rw [h2]; rfl⟩)⟩) ?_
    rintro _ _ ⟨y, a3, rfl, ha3, rfl⟩
    refine dp rfl (pop_picko rfl (.inr ⟨_, rfl, fun h => by simp_all⟩) (.inl rfl)) ?_
    refine dn ?_
    refine hw_cond rfl (fun h7 => ?_) (fun h8 => ?_)
    ·try simp at h7
     have ho0 : 0 < out.length := by simp_all
     refine hw_arrc (i := 1) rfl (fun h0 he => ?_) (fun ob off cap hv hcap => ?_)
     ·exfalso; have := congrArg List.length he; simp at this; subst this; simp at ho0
     subst hv
     refine hw_reg ?_
     refine dp rfl (pop_move rfl) ?_
     refine dp rfl (pop_move rfl) ?_
     refine dp rfl (pop_move rfl) ?_
     first
     | refine de rfl (eop_lenm (i := 0) ty30 rfl rfl ?_)
     | refine de rfl (eop_lenm (i := 1) ty30 rfl rfl ?_)
     | refine de rfl (eop_lenm (i := 2) ty30 rfl rfl ?_)
     | refine de rfl (eop_lenm (i := 3) ty30 rfl rfl ?_)
     first
     | refine de rfl (eop_callx (i := 0) ca22 rfl (WeakL.refl _) rfl (c_benchmake_Stream_Next (by first | assumption | omega | (simp; omega) | simp_all) (by first | assumption | omega | (simp; omega) | simp_all)) ?_)
     | refine de rfl (eop_callx (i := 1) ca22 rfl (WeakL.refl _) rfl (c_benchmake_Stream_Next (by first | assumption | omega | (simp; omega) | simp_all) (by first | assumption | omega | (simp; omega) | simp_all)) ?_)
     | refine de rfl (eop_callx (i := 2) ca22 rfl (WeakL.refl _) rfl (c_benchmake_Stream_Next (by first | assumption | omega | (simp; omega) | simp_all) (by first | assumption | omega | (simp; omega) | simp_all)) ?_)
     | refine de rfl (eop_callx (i := 3) ca22 rfl (WeakL.refl _) rfl (c_benchmake_Stream_Next (by first | assumption | omega | (simp; omega) | simp_all) (by first | assumption | omega | (simp; omega) | simp_all)) ?_)
     rintro _ _ ⟨y68, rfl, hy68, rfl⟩
     refine dp rfl (pop_idxraw (j := y68) ty30 ty36 rfl rfl rfl (by simp; omega)) ?_
     refine dp rfl (pop_assign rfl) ?_
     refine dn ?_
     obtain ⟨x, hx⟩ : ∃ x, out[y68]? = some x := ⟨_, List.getElem?_eq_getElem (by omega)⟩
     obtain ⟨x0, hx0⟩ : ∃ x, out[0]? = some x := ⟨_, List.getElem?_eq_getElem (by omega)⟩
     refine hw_reg ?_
     refine dp rfl (pop_move rfl) ?_
     first
     | refine de rfl (eop_callx (i := 0) ca22 rfl (WeakL.refl _) rfl (c_benchmake_Stream_Next (by first | assumption | omega | (simp; omega) | simp_all) (by first | assumption | omega | (simp; omega) | simp_all)) ?_)
     | refine de rfl (eop_callx (i := 1) ca22 rfl (WeakL.refl _) rfl (c_benchmake_Stream_Next (by first | assumption | omega | (simp; omega) | simp_all) (by first | assumption | omega | (simp; omega) | simp_all)) ?_)
     | refine de rfl (eop_callx (i := 2) ca22 rfl (WeakL.refl _) rfl (c_benchmake_Stream_Next (by first | assumption | omega | (simp; omega) | simp_all) (by first | assumption | omega | (simp; omega) | simp_all)) ?_)
     | refine de rfl (eop_callx (i := 3) ca22 rfl (WeakL.refl _) rfl (c_benchmake_Stream_Next (by first | assumption | omega | (simp; omega) | simp_all) (by first | assumption | omega | (simp; omega) | simp_all)) ?_)
     rintro _ _ ⟨y71, rfl, hy71, rfl⟩
     refine dn ?_
     refine hw_block ?_
     refine hw_reg ?_
     refine dp rfl (pop_eql rfl rfl) ?_
     refine dp rfl (pop_assign rfl) ?_
     refine dn ?_
     refine hw_cond rfl (fun h9 => ?_) (fun h10 => ?_)
     ·try simp at h9
      refine hw_draw1 (fun M => ∃ i : Nat, M[i]? = some (.arr (.slice (some ⟨ob, off, none⟩) (out.map ePick).length cap) 5 (out.map ePick))) [6, 10, 18] mixed ?_
      refine ahp 0 rfl rfl (by kernel_rfl) (by kernel_rfl) (pop_move rfl) ?_
      refine ahp 1 rfl rfl (by kernel_rfl) (by kernel_rfl) (pop_move rfl) ?_
      refine ahp 2 rfl rfl (by kernel_rfl) (by kernel_rfl) (pop_move rfl) ?_
      refine ahp 3 rfl rfl (by kernel_rfl) (by kernel_rfl) (pop_move rfl) ?_
      refine ahp 4 rfl rfl (by kernel_rfl) (by kernel_rfl) ((by first | exact pop_nilCheck rfl | exact pop_nilCheck_raw rfl)) ?_
      refine ahp 5 rfl rfl (by kernel_rfl) (by kernel_rfl) ((by first | exact pop_fieldAddr ty36 rfl ty3 (by decide) rfl | exact pop_fieldAddr_raw ty36 rfl ty3 (by decide) rfl)) ?_
      refine ahl 6 rfl rfl (by kernel_rfl) (by kernel_rfl) (by simp) ⟨1, rfl⟩ (fun M hM => by obtain ⟨i, hi⟩ := hM; exact eop_load_el (i := i) (j := y68) 0 ty3 rfl (by omega) hi hx rfl rfl ⟨rfl, rfl⟩) ?_
      refine ahp 7 rfl rfl (by kernel_rfl) (by kernel_rfl) (pop_move rfl) ?_
      refine ahp 8 rfl rfl (by kernel_rfl) (by kernel_rfl) ((by first | exact pop_nilCheck rfl | exact pop_nilCheck_raw rfl)) ?_
      refine ahp 9 rfl rfl (by kernel_rfl) (by kernel_rfl) ((by first | exact pop_fieldAddr ty36 rfl ty3 (by decide) rfl | exact pop_fieldAddr_raw ty36 rfl ty3 (by decide) rfl)) ?_
      refine ahl 10 rfl rfl (by kernel_rfl) (by kernel_rfl) (by simp) ⟨1, rfl⟩ (fun M hM => by obtain ⟨i, hi⟩ := hM; exact eop_load_el (i := i) (j := y68) 0 ty3 rfl (by omega) hi hx rfl rfl ⟨rfl, rfl⟩) ?_
      refine ahp 11 rfl rfl (by kernel_rfl) (by kernel_rfl) (pop_add rfl rfl) ?_
      refine ahp 12 rfl rfl (by kernel_rfl) (by kernel_rfl) (pop_buildSlice (hs := [_, _, _]) ty22 ty3 rfl rfl (by decide) (by decide) rfl) ?_
      refine ahp 14 rfl rfl (by kernel_rfl) (by kernel_rfl) (pop_move rfl) ?_
      refine ahp 15 rfl rfl (by kernel_rfl) (by kernel_rfl) (pop_move rfl) ?_
      refine ahp 16 rfl rfl (by kernel_rfl) (by kernel_rfl) ((by first | exact pop_nilCheck rfl | exact pop_nilCheck_raw rfl)) ?_
      refine ahp 17 rfl rfl (by kernel_rfl) (by kernel_rfl) ((by first | exact pop_fieldAddr ty36 rfl ty9 (by decide) rfl | exact pop_fieldAddr_raw ty36 rfl ty9 (by decide) rfl)) ?_
      refine ahl 18 rfl rfl (by kernel_rfl) (by kernel_rfl) (by simp) ⟨1, rfl⟩ (fun M hM => by obtain ⟨i, hi⟩ := hM; exact eop_load_el (i := i) (j := y68) 1 ty9 rfl (by omega) hi hx rfl rfl ⟨rfl, rfl⟩) ?_
      refine ahp 19 rfl rfl (by kernel_rfl) (by kernel_rfl) (pop_buildSlice (hs := [_, _, _]) ty26 ty9 rfl rfl (by decide) (by decide) rfl) ?_
      refine ahe 13 rfl (by kernel_rfl) ?_
      first
      | refine hop_e rfl (eop_callx (i := 0) ca20 rfl (WeakL.refl _) rfl (c_benchmake_Stream_Pick (L := [_, _, _]) (by first | assumption | omega | (simp; omega) | simp_all) (by first | assumption | omega | (simp; omega) | simp_all) (by first | assumption | omega | (simp; omega) | simp_all)) ?_)
      | refine hop_e rfl (eop_callx (i := 1) ca20 rfl (WeakL.refl _) rfl (c_benchmake_Stream_Pick (L := [_, _, _]) (by first | assumption | omega | (simp; omega) | simp_all) (by first | assumption | omega | (simp; omega) | simp_all) (by first | assumption | omega | (simp; omega) | simp_all)) ?_)
      | refine hop_e rfl (eop_callx (i := 2) ca20 rfl (WeakL.refl _) rfl (c_benchmake_Stream_Pick (L := [_, _, _]) (by first | assumption | omega | (simp; omega) | simp_all) (by first | assumption | omega | (simp; omega) | simp_all) (by first | assumption | omega | (simp; omega) | simp_all)) ?_)
      | refine hop_e rfl (eop_callx (i := 3) ca20 rfl (WeakL.refl _) rfl (c_benchmake_Stream_Pick (L := [_, _, _]) (by first | assumption | omega | (simp; omega) | simp_all) (by first | assumption | omega | (simp; omega) | simp_all) (by first | assumption | omega | (simp; omega) | simp_all)) ?_)
      rintro _ _ ⟨y102, rfl, hy102, rfl⟩
      refine ⟨fun _ => by first | exact .inl ⟨0, rfl⟩ | exact .inl ⟨1, rfl⟩ | exact .inl ⟨2, rfl⟩ | exact .inr (by simp [Before, Region.binds]), ?_⟩
      refine ahe 20 rfl (by kernel_rfl) ?_
      first
      | refine hop_e rfl (eop_callx (i := 0) ca9 rfl (WeakL.refl _) rfl (c_benchmake_Stream_Some (L := [_, _, _]) (by first | assumption | omega | (simp; omega) | simp_all) (by first | assumption | omega | (simp; omega) | simp_all) (by first | assumption | omega | (simp; omega) | simp_all)) ?_)
      | refine hop_e rfl (eop_callx (i := 1) ca9 rfl (WeakL.refl _) rfl (c_benchmake_Stream_Some (L := [_, _, _]) (by first | assumption | omega | (simp; omega) | simp_all) (by first | assumption | omega | (simp; omega) | simp_all) (by first | assumption | omega | (simp; omega) | simp_all)) ?_)
      | refine hop_e rfl (eop_callx (i := 2) ca9 rfl (WeakL.refl _) rfl (c_benchmake_Stream_Some (L := [_, _, _]) (by first | assumption | omega | (simp; omega) | simp_all) (by first | assumption | omega | (simp; omega) | simp_all) (by first | assumption | omega | (simp; omega) | simp_all)) ?_)
      | refine hop_e rfl (eop_callx (i := 3) ca9 rfl (WeakL.refl _) rfl (c_benchmake_Stream_Some (L := [_, _, _]) (by first | assumption | omega | (simp; omega) | simp_all) (by first | assumption | omega | (simp; omega) | simp_all) (by first | assumption | omega | (simp; omega) | simp_all)) ?_)
      rintro _ _ ⟨y109, rfl, hy109, rfl⟩
      refine ⟨fun _ => by first | exact .inl ⟨0, rfl⟩ | exact .inl ⟨1, rfl⟩ | exact .inl ⟨2, rfl⟩ | exact .inr (by simp [Before, Region.binds]), ?_⟩
      refine ahp 21 rfl rfl (by kernel_rfl) (by kernel_rfl) ((by first | exact pop_nilCheck rfl | exact pop_nilCheck_raw rfl)) ?_
      refine ahp 22 rfl rfl (by kernel_rfl) (by kernel_rfl) ((by first | exact pop_fieldAddr ty36 rfl ty3 (by decide) rfl | exact pop_fieldAddr_raw ty36 rfl ty3 (by decide) rfl)) ?_
      refine ahe 23 rfl (by kernel_rfl) ?_
      refine hop_e0 (eop_store_arr (i := 1) (j := y68) (f := 0) (y := ePick x) (y' := ePick ⟨y102, x.Team, x.Player, x.At, x.Auto⟩) ty3 rfl (by omega) rfl rfl (map_get hx) rfl rfl (by simp [hcells]) rfl ?_)
      refine ⟨fun _ => .inr (by simp [Before, Region.binds]), ?_⟩
      refine ahp 24 rfl rfl (by kernel_rfl) (by kernel_rfl) ((by first | exact pop_nilCheck rfl | exact pop_nilCheck_raw rfl)) ?_
      refine ahp 25 rfl rfl (by kernel_rfl) (by kernel_rfl) ((by first | exact pop_fieldAddr ty36 rfl ty9 (by decide) rfl | exact pop_fieldAddr_raw ty36 rfl ty9 (by decide) rfl)) ?_
      refine ahe 26 rfl (by kernel_rfl) ?_
      refine hop_e0 (eop_store_arr (i := 1) (j := y68) (f := 1) (y := ePick ⟨y102, x.Team, x.Player, x.At, x.Auto⟩) (y' := ePick ⟨y102, y109, x.Player, x.At, x.Auto⟩) ty9 rfl (by omega) rfl rfl (set_self (map_get hx)) rfl rfl (by simp [hcells]) rfl ?_)
      refine ⟨fun _ => .inr (by simp [Before, Region.binds]), ?_⟩
      refine ahz (by kernel_rfl) ?_
      refine blockQ_n ?_
      exact ⟨(out.set y68 ⟨y102, y109, x.Player, x.At, x.Auto⟩, a3 + 4), ⟨by simp; omega, by dsimp only; omega⟩, trivial, (by repeat (first | exact keeps_refl | refine keeps_upd rfl ?_ | refine keeps_loop rfl rfl ?_)), by repeat (first | exact List.Perm.nil | refine permTo 0 rfl ?_ | refine permTo 1 rfl ?_ | refine permTo 2 rfl ?_ | refine permTo 3 rfl ?_ | (refine permToE 0 rfl ?hq ?_; (case hq => simp [setL, hcells]; done)) | (refine permToE 1 rfl ?hq ?_; (case hq => simp [setL, hcells]; done)) | (refine permToE 2 rfl ?hq ?_; (case hq => simp [setL, hcells]; done)) | (refine permToE 3 rfl ?hq ?_; (case hq => simp [setL, hcells]; done)) | fail)⟩
     ·try simp at h10
      refine hw_reg ?_
      refine dp rfl (pop_eql rfl rfl) ?_
      refine dp rfl (pop_assign rfl) ?_
      refine dn ?_
      refine hw_cond rfl (fun h11 => ?_) (fun h12 => ?_)
      ·try simp at h11
       refine hw_reg1 ?_
       refine dp rfl (pop_move rfl) ?_
       refine dp rfl (pop_move rfl) ?_
       refine dp rfl (pop_move rfl) ?_
       refine dp rfl (pop_idxraw (j := 0) ty30 ty36 rfl rfl rfl (by simp; omega)) ?_
       refine dp rfl ((by first | exact pop_fieldAddr ty36 rfl ty9 (by decide) rfl | exact pop_fieldAddr_raw ty36 rfl ty9 (by decide) rfl)) ?_
       refine de rfl (eop_load_el (i := 1) (j := 0) 2 ty9 rfl (by omega) rfl hx0 rfl rfl ?_)
       refine dp rfl (pop_buildSlice (hs := [_, _]) ty26 ty9 rfl rfl (by decide) (by decide) rfl) ?_
       first
       | refine de rfl (eop_callx (i := 0) ca9 rfl (WeakL.refl _) rfl (c_benchmake_Stream_Some (L := [_, _]) (by first | assumption | omega | (simp; omega) | simp_all) (by first | assumption | omega | (simp; omega) | simp_all) (by first | assumption | omega | (simp; omega) | simp_all)) ?_)
       | refine de rfl (eop_callx (i := 1) ca9 rfl (WeakL.refl _) rfl (c_benchmake_Stream_Some (L := [_, _]) (by first | assumption | omega | (simp; omega) | simp_all) (by first | assumption | omega | (simp; omega) | simp_all) (by first | assumption | omega | (simp; omega) | simp_all)) ?_)
       | refine de rfl (eop_callx (i := 2) ca9 rfl (WeakL.refl _) rfl (c_benchmake_Stream_Some (L := [_, _]) (by first | assumption | omega | (simp; omega) | simp_all) (by first | assumption | omega | (simp; omega) | simp_all) (by first | assumption | omega | (simp; omega) | simp_all)) ?_)
       | refine de rfl (eop_callx (i := 3) ca9 rfl (WeakL.refl _) rfl (c_benchmake_Stream_Some (L := [_, _]) (by first | assumption | omega | (simp; omega) | simp_all) (by first | assumption | omega | (simp; omega) | simp_all) (by first | assumption | omega | (simp; omega) | simp_all)) ?_)
       rintro _ _ ⟨y123, rfl, hy123, rfl⟩
       refine dp rfl ((by first | exact pop_nilCheck rfl | exact pop_nilCheck_raw rfl)) ?_
       refine dp rfl ((by first | exact pop_fieldAddr ty36 rfl ty9 (by decide) rfl | exact pop_fieldAddr_raw ty36 rfl ty9 (by decide) rfl)) ?_
       refine de0 (eop_store_arr (i := 1) (j := y68) (f := 2) (y := ePick x) (y' := ePick ⟨x.No, x.Team, y123, x.At, x.Auto⟩) ty9 rfl (by omega) rfl rfl (map_get hx) rfl rfl (by simp [hcells]) rfl ?_)
       refine dn ?_
       refine blockQ_n ?_
       exact ⟨(out.set y68 ⟨x.No, x.Team, y123, x.At, x.Auto⟩, a3 + 3), ⟨by simp; omega, by dsimp only; omega⟩, trivial, (by repeat (first | exact keeps_refl | refine keeps_upd rfl ?_ | refine keeps_loop rfl rfl ?_)), by repeat (first | exact List.Perm.nil | refine permTo 0 rfl ?_ | refine permTo 1 rfl ?_ | refine permTo 2 rfl ?_ | refine permTo 3 rfl ?_ | (refine permToE 0 rfl ?hq ?_; (case hq => simp [setL, hcells]; done)) | (refine permToE 1 rfl ?hq ?_; (case hq => simp [setL, hcells]; done)) | (refine permToE 2 rfl ?hq ?_; (case hq => simp [setL, hcells]; done)) | (refine permToE 3 rfl ?hq ?_; (case hq => simp [setL, hcells]; done)) | fail)⟩
      ·try simp at h12
       refine hw_draw1 (fun M => ∃ i : Nat, M[i]? = some (.arr (.slice (some ⟨ob, off, none⟩) (out.map ePick).length cap) 5 (out.map ePick))) [5, 10] mixed ?_
       refine ahp 0 rfl rfl (by kernel_rfl) (by kernel_rfl) (pop_move rfl) ?_
       refine ahp 1 rfl rfl (by kernel_rfl) (by kernel_rfl) (pop_move rfl) ?_
       refine ahp 2 rfl rfl (by kernel_rfl) (by kernel_rfl) (pop_move rfl) ?_
       refine ahp 3 rfl rfl (by kernel_rfl) (by kernel_rfl) ((by first | exact pop_nilCheck rfl | exact pop_nilCheck_raw rfl)) ?_
       refine ahp 4 rfl rfl (by kernel_rfl) (by kernel_rfl) ((by first | exact pop_fieldAddr ty36 rfl ty3 (by decide) rfl | exact pop_fieldAddr_raw ty36 rfl ty3 (by decide) rfl)) ?_
       refine ahl 5 rfl rfl (by kernel_rfl) (by kernel_rfl) (by simp) ⟨1, rfl⟩ (fun M hM => by obtain ⟨i, hi⟩ := hM; exact eop_load_el (i := i) (j := y68) 3 ty3 rfl (by omega) hi hx rfl rfl ⟨rfl, rfl⟩) ?_
       refine ahp 6 rfl rfl (by kernel_rfl) (by kernel_rfl) (pop_sub rfl rfl) ?_
       refine ahp 7 rfl rfl (by kernel_rfl) (by kernel_rfl) (pop_move rfl) ?_
       refine ahp 8 rfl rfl (by kernel_rfl) (by kernel_rfl) ((by first | exact pop_nilCheck rfl | exact pop_nilCheck_raw rfl)) ?_
       refine ahp 9 rfl rfl (by kernel_rfl) (by kernel_rfl) ((by first | exact pop_fieldAddr ty36 rfl ty3 (by decide) rfl | exact pop_fieldAddr_raw ty36 rfl ty3 (by decide) rfl)) ?_
       refine ahl 10 rfl rfl (by kernel_rfl) (by kernel_rfl) (by simp) ⟨1, rfl⟩ (fun M hM => by obtain ⟨i, hi⟩ := hM; exact eop_load_el (i := i) (j := y68) 3 ty3 rfl (by omega) hi hx rfl rfl ⟨rfl, rfl⟩) ?_
       refine ahp 11 rfl rfl (by kernel_rfl) (by kernel_rfl) (pop_buildSlice (hs := [_, _, _]) ty22 ty3 rfl rfl (by decide) (by decide) rfl) ?_
       refine ahe 12 rfl (by kernel_rfl) ?_
       first
       | refine hop_e rfl (eop_callx (i := 0) ca20 rfl (WeakL.refl _) rfl (c_benchmake_Stream_Pick (L := [_, _, _]) (by first | assumption | omega | (simp; omega) | simp_all) (by first | assumption | omega | (simp; omega) | simp_all) (by first | assumption | omega | (simp; omega) | simp_all)) ?_)
       | refine hop_e rfl (eop_callx (i := 1) ca20 rfl (WeakL.refl _) rfl (c_benchmake_Stream_Pick (L := [_, _, _]) (by first | assumption | omega | (simp; omega) | simp_all) (by first | assumption | omega | (simp; omega) | simp_all) (by first | assumption | omega | (simp; omega) | simp_all)) ?_)
       | refine hop_e rfl (eop_callx (i := 2) ca20 rfl (WeakL.refl _) rfl (c_benchmake_Stream_Pick (L := [_, _, _]) (by first | assumption | omega | (simp; omega) | simp_all) (by first | assumption | omega | (simp; omega) | simp_all) (by first | assumption | omega | (simp; omega) | simp_all)) ?_)
       | refine hop_e rfl (eop_callx (i := 3) ca20 rfl (WeakL.refl _) rfl (c_benchmake_Stream_Pick (L := [_, _, _]) (by first | assumption | omega | (simp; omega) | simp_all) (by first | assumption | omega | (simp; omega) | simp_all) (by first | assumption | omega | (simp; omega) | simp_all)) ?_)
       rintro _ _ ⟨y84, rfl, hy84, rfl⟩
       refine ⟨fun _ => by first | exact .inl ⟨0, rfl⟩ | exact .inl ⟨1, rfl⟩ | exact .inl ⟨2, rfl⟩ | exact .inr (by simp [Before, Region.binds]), ?_⟩
       refine ahp 13 rfl rfl (by kernel_rfl) (by kernel_rfl) ((by first | exact pop_nilCheck rfl | exact pop_nilCheck_raw rfl)) ?_
       refine ahp 14 rfl rfl (by kernel_rfl) (by kernel_rfl) ((by first | exact pop_fieldAddr ty36 rfl ty3 (by decide) rfl | exact pop_fieldAddr_raw ty36 rfl ty3 (by decide) rfl)) ?_
       refine ahe 15 rfl (by kernel_rfl) ?_
       refine hop_e0 (eop_store_arr (i := 1) (j := y68) (f := 3) (y := ePick x) (y' := ePick ⟨x.No, x.Team, x.Player, y84, x.Auto⟩) ty3 rfl (by omega) rfl rfl (map_get hx) rfl rfl (by simp [hcells]) rfl ?_)
       refine ⟨fun _ => .inr (by simp [Before, Region.binds]), ?_⟩
       refine ahz (by kernel_rfl) ?_
       refine blockQ_n ?_
       exact ⟨(out.set y68 ⟨x.No, x.Team, x.Player, y84, x.Auto⟩, a3 + 3), ⟨by simp; omega, by dsimp only; omega⟩, trivial, (by repeat (first | exact keeps_refl | refine keeps_upd rfl ?_ | refine keeps_loop rfl rfl ?_)), by repeat (first | exact List.Perm.nil | refine permTo 0 rfl ?_ | refine permTo 1 rfl ?_ | refine permTo 2 rfl ?_ | refine permTo 3 rfl ?_ | (refine permToE 0 rfl ?hq ?_; (case hq => simp [setL, hcells]; done)) | (refine permToE 1 rfl ?hq ?_; (case hq => simp [setL, hcells]; done)) | (refine permToE 2 rfl ?hq ?_; (case hq => simp [setL, hcells]; done)) | (refine permToE 3 rfl ?hq ?_; (case hq => simp [setL, hcells]; done)) | fail)⟩
    ·try simp at h8
     refine hw_skip ?_
     exact ⟨(out, a3), ⟨by dsimp only; omega, by dsimp only; omega⟩, trivial, (by repeat (first | exact keeps_refl | refine keeps_upd rfl ?_ | refine keeps_loop rfl rfl ?_)), by repeat (first | exact List.Perm.nil | refine permTo 0 rfl ?_ | refine permTo 1 rfl ?_ | refine permTo 2 rfl ?_ | refine permTo 3 rfl ?_ | (refine permToE 0 rfl ?hq ?_; (case hq => simp [setL, hcells]; done)) | (refine permToE 1 rfl ?hq ?_; (case hq => simp [setL, hcells]; done)) | (refine permToE 2 rfl ?hq ?_; (case hq => simp [setL, hcells]; done)) | (refine permToE 3 rfl ?hq ?_; (case hq => simp [setL, hcells]; done)) | fail)⟩
   ·intro q hq3
    obtain ⟨k1, a4⟩ := q
    dsimp only at hq3
    obtain ⟨q1, q3⟩ := hq3
    refine hw_reg ?_
    refine dp rfl (pop_move rfl) ?_
    refine dp rfl (pop_assign rfl) ?_
    refine dn ?_
    refine hw_ret ?_
    first
    | exact ret_g ((Ghost.arr_nil 5).trans (Ghost.perm (List.Perm.swap _ _ _))) rfl ⟨_, [], a, rfl, ⟨by simp⟩, by omega, rfl⟩
    | exact ret_q rfl ⟨_, k1, a4, rfl, ⟨by omega⟩, by omega, rfl⟩

set_option maxHeartbeats 2000000 in
/-- benchwarmer/benchlaw1.PickTexts -/
theorem c_benchlaw1_PickTexts [Tracks] {l : List Int} (hT : Tracks.on = false) : ConP Tryz.prog 3 [.slice 1 (l.map (.int .i64))] (.bool true) := by
 refine Con.of_body Tryz.func3 rfl Tryz.ntmps3 rfl rfl ?_
 refine hw_reg ?_
 refine dp rfl (pop_assign rfl) ?_
 refine dn ?_
 refine hw_reg ?_
 refine dp rfl (pop_move rfl) ?_
 refine dp rfl (pop_build (cs := [_, _]) ty25 pl25 rfl) ?_
 refine de rfl (eop_box rfl rfl fun b => ?_)
 refine dghost (M' := [St b l 0]) rfl ?_
 refine dp rfl (pop_assign rfl) ?_
 refine dn ?_
 refine hw_reg ?_
 refine dp rfl (pop_move rfl) ?_
 first
 | refine de rfl (eop_callx (i := 0) ca5 rfl (WeakL.refl _) rfl (c_benchmake_Stream_RoomOf (by first | assumption | omega | (simp; omega) | simp_all)) ?_)
 | refine de rfl (eop_callx (i := 1) ca5 rfl (WeakL.refl _) rfl (c_benchmake_Stream_RoomOf (by first | assumption | omega | (simp; omega) | simp_all)) ?_)
 | refine de rfl (eop_callx (i := 2) ca5 rfl (WeakL.refl _) rfl (c_benchmake_Stream_RoomOf (by first | assumption | omega | (simp; omega) | simp_all)) ?_)
 | refine de rfl (eop_callx (i := 3) ca5 rfl (WeakL.refl _) rfl (c_benchmake_Stream_RoomOf (by first | assumption | omega | (simp; omega) | simp_all)) ?_)
 rintro _ _ ⟨r20, a20, rfl, hr20, ha20, rfl⟩
 refine de rfl (eop_alloc ty28 rfl fun b4 => ?_)
 refine de0 (eop_storew ty28 rfl rfl rfl rfl rfl ?_)
 refine dn ?_
 refine hw_ghost (Ghost.fc0 4 rfl) ?_
 refine hw_reg ?_
 refine dp rfl (pop_move rfl) ?_
 refine dp rfl (pop_loadw ty28 rfl rfl rfl rfl) ?_
 refine de rfl (eop_callx (i := 0) (hs' := [pAt b, eRoom r20, eKeeps [], eSwaps []]) ca6 rfl ⟨Weak.refl _, Weak.refl _, weak_nil _, weak_nil _, trivial⟩ rfl (c_benchmake_Stream_PickList_a (ks := []) (ss := []) (by omega) hr20 (by simp) (by simp)) ?_)
 rintro _ _ ⟨u5, p, a5, rfl, hp5, ha5, rfl⟩
 have hpl := hp5.len
 refine dp rfl (pop_assign rfl) ?_
 refine dn ?_
 refine hw_join [24, 25, 26, 27, 28, 29, 30, 31, 32, 33, 34, 35, 36, 37, 38, 39, 40, 41, 42, 43, 44, 45, 46, 47, 48, 49, 50, 51, 52, 53, 54, 55] (fun (q : GL Pick) => [(5, .raw q.u)]) (fun (q : GL Pick) => [St b l q.a, .arr q.u 5 (q.out.map ePick)]) (fun (q : GL Pick) => q.out.length ≤ 10 ∧ q.a ≤ 500) ?_ ?_
 ·skip
  refine hw_reg ?_
  refine dp rfl (pop_move rfl) ?_
  refine de rfl (eop_lenm (i := 1) (es := p) ty30 rfl rfl ?_)
  refine dp rfl (pop_gtr rfl rfl) ?_
  refine dp rfl (pop_move rfl) ?_
  refine dg rfl rfl (fun hc => ⟨_, OpenTo.refl _, pop_move rfl⟩) ?_
  refine dgx (fun x M' => ∃ (y : Bool) (a3 : Nat), x = .bool y ∧ a3 ≤ a5 + 1 ∧ M' = [St b l a3, .arr u5 5 (p.map ePick)]) rfl rfl (fun hc => ⟨_, false, a5, rfl, by omega, rfl⟩) (fun hc => ⟨_, OpenTo.upd (t := 28) rfl (by first | exact hc | simp_all) (OpenTo.refl _), eop_callx (i := 0) ca7 rfl (WeakL.refl _) rfl (c_benchmake_Stream_Flip (a := a5) (by omega) (by omega)) (fun h M' hh => by
   obtain ⟨y, h1, h2⟩ := hh
   exact ⟨y, a5 + 1, h1, by omega, by rw [h2]; rfl⟩)⟩) ?_
  rintro _ _ ⟨y, a3, rfl, ha3, rfl⟩
  refine dp rfl (pop_picko rfl (.inr ⟨_, rfl, fun h => by simp_all⟩) (.inl rfl)) ?_
  refine dn ?_
  refine hw_cond rfl (fun h1 => ?_) (fun h2 => ?_)
  ·try simp at h1
   have ho0 : 0 < p.length := by simp_all
   refine hw_arrc (i := 1) rfl (fun h0 he => ?_) (fun ob off cap hv hcap => ?_)
   ·exfalso; have := congrArg List.length he; simp at this; subst this; simp at ho0
   subst hv
   obtain ⟨x, hx⟩ : ∃ x, p[0]? = some x := ⟨_, List.getElem?_eq_getElem ho0⟩
   refine hw_draw1 (fun M => ∃ i : Nat, M[i]? = some (.arr (.slice (some ⟨ob, off, none⟩) (p.map ePick).length cap) 5 (p.map ePick))) [9, 16] mixed ?_
   refine ahp 0 rfl rfl (by kernel_rfl) (by kernel_rfl) (pop_move rfl) ?_
   refine ahp 1 rfl rfl (by kernel_rfl) (by kernel_rfl) (pop_move rfl) ?_
   refine ahp 2 rfl rfl (by kernel_rfl) (by kernel_rfl) (pop_move rfl) ?_
   refine ahp 3 rfl rfl (by kernel_rfl) (by kernel_rfl) (pop_move rfl) ?_
   refine ahp 5 rfl rfl (by kernel_rfl) (by kernel_rfl) (pop_move rfl) ?_
   refine ahp 6 rfl rfl (by kernel_rfl) (by kernel_rfl) (pop_move rfl) ?_
   refine ahp 7 rfl rfl (by kernel_rfl) (by kernel_rfl) (pop_idxraw (j := 0) ty30 ty36 rfl rfl rfl (by simp; omega)) ?_
   refine ahp 8 rfl rfl (by kernel_rfl) (by kernel_rfl) ((by first | exact pop_fieldAddr ty36 rfl ty9 (by decide) rfl | exact pop_fieldAddr_raw ty36 rfl ty9 (by decide) rfl)) ?_
   refine ahl 9 rfl rfl (by kernel_rfl) (by kernel_rfl) (by simp) ⟨1, rfl⟩ (fun M hM => by obtain ⟨i, hi⟩ := hM; exact eop_load_el (i := i) (j := 0) 1 ty9 rfl (by omega) hi hx rfl rfl ⟨rfl, rfl⟩) ?_
   refine ahp 10 rfl rfl (by kernel_rfl) (by kernel_rfl) (pop_buildSlice (hs := [_, _]) ty26 ty9 rfl rfl (by decide) (by decide) rfl) ?_
   refine ahp 12 rfl rfl (by kernel_rfl) (by kernel_rfl) (pop_move rfl) ?_
   refine ahp 13 rfl rfl (by kernel_rfl) (by kernel_rfl) (pop_move rfl) ?_
   refine ahp 14 rfl rfl (by kernel_rfl) (by kernel_rfl) (pop_idxraw (j := 0) ty30 ty36 rfl rfl rfl (by simp; omega)) ?_
   refine ahp 15 rfl rfl (by kernel_rfl) (by kernel_rfl) ((by first | exact pop_fieldAddr ty36 rfl ty9 (by decide) rfl | exact pop_fieldAddr_raw ty36 rfl ty9 (by decide) rfl)) ?_
   refine ahl 16 rfl rfl (by kernel_rfl) (by kernel_rfl) (by simp) ⟨1, rfl⟩ (fun M hM => by obtain ⟨i, hi⟩ := hM; exact eop_load_el (i := i) (j := 0) 2 ty9 rfl (by omega) hi hx rfl rfl ⟨rfl, rfl⟩) ?_
   refine ahp 17 rfl rfl (by kernel_rfl) (by kernel_rfl) (pop_buildSlice (hs := [_, _]) ty26 ty9 rfl rfl (by decide) (by decide) rfl) ?_
   refine ahe 4 rfl (by kernel_rfl) ?_
   first
   | refine hop_e rfl (eop_callx (i := 0) ca8 rfl (WeakL.refl _) rfl (c_benchmake_Stream_Odd (by first | assumption | omega | (simp; omega) | simp_all) (by first | assumption | omega | (simp; omega) | simp_all) (by first | assumption | omega | (simp; omega) | simp_all) (by first | assumption | omega | (simp; omega) | simp_all)) ?_)
   | refine hop_e rfl (eop_callx (i := 1) ca8 rfl (WeakL.refl _) rfl (c_benchmake_Stream_Odd (by first | assumption | omega | (simp; omega) | simp_all) (by first | assumption | omega | (simp; omega) | simp_all) (by first | assumption | omega | (simp; omega) | simp_all) (by first | assumption | omega | (simp; omega) | simp_all)) ?_)
   | refine hop_e rfl (eop_callx (i := 2) ca8 rfl (WeakL.refl _) rfl (c_benchmake_Stream_Odd (by first | assumption | omega | (simp; omega) | simp_all) (by first | assumption | omega | (simp; omega) | simp_all) (by first | assumption | omega | (simp; omega) | simp_all) (by first | assumption | omega | (simp; omega) | simp_all)) ?_)
   | refine hop_e rfl (eop_callx (i := 3) ca8 rfl (WeakL.refl _) rfl (c_benchmake_Stream_Odd (by first | assumption | omega | (simp; omega) | simp_all) (by first | assumption | omega | (simp; omega) | simp_all) (by first | assumption | omega | (simp; omega) | simp_all) (by first | assumption | omega | (simp; omega) | simp_all)) ?_)
   rintro _ _ ⟨y35, rfl, rfl⟩
   refine ⟨fun _ => by first | exact .inl ⟨0, rfl⟩ | exact .inl ⟨1, rfl⟩ | exact .inl ⟨2, rfl⟩ | exact .inr (by simp [Before, Region.binds]), ?_⟩
   refine ahe 11 rfl (by kernel_rfl) ?_
   first
   | refine hop_e rfl (eop_callx (i := 0) ca9 rfl (WeakL.refl _) rfl (c_benchmake_Stream_Some (L := [_, _]) (by first | assumption | omega | (simp; omega) | simp_all) (by first | assumption | omega | (simp; omega) | simp_all) (by first | assumption | omega | (simp; omega) | simp_all)) ?_)
   | refine hop_e rfl (eop_callx (i := 1) ca9 rfl (WeakL.refl _) rfl (c_benchmake_Stream_Some (L := [_, _]) (by first | assumption | omega | (simp; omega) | simp_all) (by first | assumption | omega | (simp; omega) | simp_all) (by first | assumption | omega | (simp; omega) | simp_all)) ?_)
   | refine hop_e rfl (eop_callx (i := 2) ca9 rfl (WeakL.refl _) rfl (c_benchmake_Stream_Some (L := [_, _]) (by first | assumption | omega | (simp; omega) | simp_all) (by first | assumption | omega | (simp; omega) | simp_all) (by first | assumption | omega | (simp; omega) | simp_all)) ?_)
   | refine hop_e rfl (eop_callx (i := 3) ca9 rfl (WeakL.refl _) rfl (c_benchmake_Stream_Some (L := [_, _]) (by first | assumption | omega | (simp; omega) | simp_all) (by first | assumption | omega | (simp; omega) | simp_all) (by first | assumption | omega | (simp; omega) | simp_all)) ?_)
   rintro _ _ ⟨y42, rfl, hy42, rfl⟩
   refine ⟨fun _ => by first | exact .inl ⟨0, rfl⟩ | exact .inl ⟨1, rfl⟩ | exact .inl ⟨2, rfl⟩ | exact .inr (by simp [Before, Region.binds]), ?_⟩
   refine ahe 18 rfl (by kernel_rfl) ?_
   first
   | refine hop_e rfl (eop_callx (i := 0) ca9 rfl (WeakL.refl _) rfl (c_benchmake_Stream_Some (L := [_, _]) (by first | assumption | omega | (simp; omega) | simp_all) (by first | assumption | omega | (simp; omega) | simp_all) (by first | assumption | omega | (simp; omega) | simp_all)) ?_)
   | refine hop_e rfl (eop_callx (i := 1) ca9 rfl (WeakL.refl _) rfl (c_benchmake_Stream_Some (L := [_, _]) (by first | assumption | omega | (simp; omega) | simp_all) (by first | assumption | omega | (simp; omega) | simp_all) (by first | assumption | omega | (simp; omega) | simp_all)) ?_)
   | refine hop_e rfl (eop_callx (i := 2) ca9 rfl (WeakL.refl _) rfl (c_benchmake_Stream_Some (L := [_, _]) (by first | assumption | omega | (simp; omega) | simp_all) (by first | assumption | omega | (simp; omega) | simp_all) (by first | assumption | omega | (simp; omega) | simp_all)) ?_)
   | refine hop_e rfl (eop_callx (i := 3) ca9 rfl (WeakL.refl _) rfl (c_benchmake_Stream_Some (L := [_, _]) (by first | assumption | omega | (simp; omega) | simp_all) (by first | assumption | omega | (simp; omega) | simp_all) (by first | assumption | omega | (simp; omega) | simp_all)) ?_)
   rintro _ _ ⟨y49, rfl, hy49, rfl⟩
   refine ⟨fun _ => by first | exact .inl ⟨0, rfl⟩ | exact .inl ⟨1, rfl⟩ | exact .inl ⟨2, rfl⟩ | exact .inr (by simp [Before, Region.binds]), ?_⟩
   refine ahp 19 rfl rfl (by kernel_rfl) (by kernel_rfl) (pop_idxraw (j := 0) ty30 ty36 rfl rfl rfl (by simp; omega)) ?_
   refine ahp 20 rfl rfl (by kernel_rfl) (by kernel_rfl) ((by first | exact pop_fieldAddr ty36 rfl ty3 (by decide) rfl | exact pop_fieldAddr_raw ty36 rfl ty3 (by decide) rfl)) ?_
   refine ahe 21 rfl (by kernel_rfl) ?_
   refine hop_e0 (eop_store_arr (i := 1) (j := 0) (f := 0) (y := ePick x) (y' := ePick ⟨y35, x.Team, x.Player, x.At, x.Auto⟩) ty3 rfl (by omega) rfl rfl (map_get hx) rfl rfl (by simp [hcells]) rfl ?_)
   refine ⟨fun _ => .inr (by simp [Before, Region.binds]), ?_⟩
   refine ahp 22 rfl rfl (by kernel_rfl) (by kernel_rfl) (pop_idxraw (j := 0) ty30 ty36 rfl rfl rfl (by simp; omega)) ?_
   refine ahp 23 rfl rfl (by kernel_rfl) (by kernel_rfl) ((by first | exact pop_fieldAddr ty36 rfl ty9 (by decide) rfl | exact pop_fieldAddr_raw ty36 rfl ty9 (by decide) rfl)) ?_
   refine ahe 24 rfl (by kernel_rfl) ?_
   refine hop_e0 (eop_store_arr (i := 1) (j := 0) (f := 1) (y := ePick ⟨y35, x.Team, x.Player, x.At, x.Auto⟩) (y' := ePick ⟨y35, y42, x.Player, x.At, x.Auto⟩) ty9 rfl (by omega) rfl rfl (set_self (map_get hx)) rfl rfl (by simp [hcells]) rfl ?_)
   refine ⟨fun _ => .inr (by simp [Before, Region.binds]), ?_⟩
   refine ahp 25 rfl rfl (by kernel_rfl) (by kernel_rfl) (pop_idxraw (j := 0) ty30 ty36 rfl rfl rfl (by simp; omega)) ?_
   refine ahp 26 rfl rfl (by kernel_rfl) (by kernel_rfl) ((by first | exact pop_fieldAddr ty36 rfl ty9 (by decide) rfl | exact pop_fieldAddr_raw ty36 rfl ty9 (by decide) rfl)) ?_
   refine ahe 27 rfl (by kernel_rfl) ?_
   refine hop_e0 (eop_store_arr (i := 1) (j := 0) (f := 2) (y := ePick ⟨y35, y42, x.Player, x.At, x.Auto⟩) (y' := ePick ⟨y35, y42, y49, x.At, x.Auto⟩) ty9 rfl (by omega) rfl rfl (set_self (set_self (map_get hx))) rfl rfl (by simp [hcells]) rfl ?_)
   refine ⟨fun _ => .inr (by simp [Before, Region.binds]), ?_⟩
   refine ahz (by kernel_rfl) ?_
   exact ⟨⟨.slice (some ⟨ob, off, none⟩) (p.map ePick).length cap, p.set 0 ⟨y35, y42, y49, x.At, x.Auto⟩, a3 + 2 + 1 + 1⟩, ⟨by simp; omega, by dsimp only; omega⟩, ⟨rfl, trivial⟩, (by repeat (first | exact keeps_refl | refine keeps_upd rfl ?_ | refine keeps_loop rfl rfl ?_)), by repeat (first | exact List.Perm.nil | refine permTo 0 rfl ?_ | refine permTo 1 rfl ?_ | refine permTo 2 rfl ?_ | refine permTo 3 rfl ?_ | (refine permToE 0 rfl ?hq ?_; (case hq => simp [setL, hcells]; done)) | (refine permToE 1 rfl ?hq ?_; (case hq => simp [setL, hcells]; done)) | (refine permToE 2 rfl ?hq ?_; (case hq => simp [setL, hcells]; done)) | (refine permToE 3 rfl ?hq ?_; (case hq => simp [setL, hcells]; done)) | fail)⟩
  ·try simp at h2
   refine hw_skip ?_
   exact ⟨⟨u5, p, a3⟩, ⟨by dsimp only; omega, by dsimp only; omega⟩, ⟨rfl, trivial⟩, (by repeat (first | exact keeps_refl | refine keeps_upd rfl ?_ | refine keeps_loop rfl rfl ?_)), by repeat (first | exact List.Perm.nil | refine permTo 0 rfl ?_ | refine permTo 1 rfl ?_ | refine permTo 2 rfl ?_ | refine permTo 3 rfl ?_ | (refine permToE 0 rfl ?hq ?_; (case hq => simp [setL, hcells]; done)) | (refine permToE 1 rfl ?hq ?_; (case hq => simp [setL, hcells]; done)) | (refine permToE 2 rfl ?hq ?_; (case hq => simp [setL, hcells]; done)) | (refine permToE 3 rfl ?hq ?_; (case hq => simp [setL, hcells]; done)) | fail)⟩
 ·intro q hq
  obtain ⟨u, p, a6⟩ := q
  dsimp only at hq
  obtain ⟨hpl, ha6⟩ := hq
  refine hw_ghost (Ghost.fa 5 (i := 1) rfl rfl) ?_
  refine hw_reg ?_
  refine dp rfl (pop_move rfl) ?_
  refine dp rfl (pop_call ca10 rfl (WeakL.refl _) (c_benchref1_PickListFault (l := p) (by omega))) ?_
  refine dp rfl (pop_assign rfl) ?_
  refine dn ?_
  refine hw_reg ?_
  refine dp rfl (pop_move rfl) ?_
  refine dp rfl (pop_call ca11 rfl (WeakL.refl _) (c_draft_Text (l := p) (by omega))) ?_
  refine dp rfl (pop_move rfl) ?_
  refine dp rfl (pop_extract rfl rfl) ?_
  refine dp rfl (pop_extract rfl rfl) ?_
  refine dp rfl (pop_assign rfl) ?_
  refine dp rfl (pop_assign rfl) ?_
  refine dn ?_
  refine hw_seq ?_
  refine hw_reg ?_
  refine dp rfl (pop_move rfl) ?_
  refine dp rfl (pop_move rfl) ?_
  refine dp rfl (pop_neq rfl rfl) ?_
  refine dp rfl (pop_move rfl) ?_
  refine dg rfl rfl (fun hc => ⟨_, OpenTo.refl _, pop_move rfl⟩) ?_
  refine dg rfl rfl (fun hc => ⟨_, OpenTo.upd (t := 67) rfl (by first | exact hc | simp_all) (OpenTo.refl _), pop_eql rfl rfl⟩) ?_
  refine dg rfl rfl (fun hc => ⟨_, OpenTo.upd (t := 68) rfl (by first | exact hc | simp_all) (OpenTo.refl _), pop_move rfl⟩) ?_
  refine dg rfl rfl (fun hc => ⟨_, OpenTo.refl _, pop_move rfl⟩) ?_
  refine dg rfl rfl (fun hc => ⟨_, OpenTo.refl _, pop_move rfl⟩) ?_
  refine dg rfl rfl (fun hc => by
   have hz : pickLE p = 0 := by simpa using hc
   exact ⟨_, OpenTo.upd (t := 71) rfl (by first | exact hc | simp_all) (OpenTo.refl _), pop_call ca12 rfl (WeakL.refl _) (c_benchref1_PickLines (l := p) hT hz)⟩) ?_
  refine dg rfl rfl (fun hc => ⟨_, OpenTo.upd (t := 72) rfl (by first | exact hc | simp_all) (OpenTo.upd (t := 70) rfl (by first | exact hc | simp_all) (OpenTo.refl _)), pop_neqs rfl rfl⟩) ?_
  refine dg rfl rfl (fun hc => ⟨_, OpenTo.upd (t := 69) rfl (by first | exact hc | simp_all) (OpenTo.refl _), pop_picko rfl (.inr ⟨_, rfl, fun h => by simp_all⟩) (.inl rfl)⟩) ?_
  refine dp rfl (pop_picko rfl (.inl rfl) (.inr ⟨_, rfl, fun h => by simp_all⟩)) ?_
  refine dp rfl (pop_move rfl) ?_
  refine dg rfl rfl (fun hc => ⟨_, OpenTo.refl _, pop_move rfl⟩) ?_
  refine dg rfl rfl (fun hc => ⟨_, OpenTo.upd (t := 77) rfl (by first | exact hc | simp_all) (OpenTo.refl _), pop_neq rfl rfl⟩) ?_
  refine dg rfl rfl (fun hc => ⟨_, OpenTo.upd (t := 78) rfl (by first | exact hc | simp_all) (OpenTo.refl _), pop_move rfl⟩) ?_
  refine dg rfl rfl (fun hc => ⟨_, OpenTo.refl _, pop_move rfl⟩) ?_
  refine dg rfl rfl (fun hc => ⟨_, OpenTo.upd (t := 80) rfl (by first | exact hc | simp_all) (OpenTo.refl _), pop_neqs rfl rfl⟩) ?_
  refine dg rfl rfl (fun hc => ⟨_, OpenTo.upd (t := 79) rfl (by first | exact hc | simp_all) (OpenTo.refl _), pop_picko rfl (.inr ⟨_, rfl, fun h => by simp_all⟩) (.inl rfl)⟩) ?_
  refine dp rfl (pop_picko rfl (.inl rfl) (.inr ⟨_, rfl, fun h => by simp_all⟩)) ?_
  refine dn ?_
  refine hw_cond rfl (fun h3 => ?_) (fun h3 => ?_)
  ·exfalso
   try simp at h3
   by_cases h0 : pickLE p = 0 <;> simp_all [textS]
  ·try simp at h3
   refine hw_skip ?_
   refine seqQ_n ?_
   refine hw_reg ?_
   refine dp rfl (pop_move rfl) ?_
   first
   | refine de rfl (eop_callx (i := 0) ca13 rfl (WeakL.refl _) rfl (c_benchmake_Stream_PickString (by first | assumption | omega | (simp; omega) | simp_all) (by first | assumption | omega | (simp; omega) | simp_all)) ?_)
   | refine de rfl (eop_callx (i := 1) ca13 rfl (WeakL.refl _) rfl (c_benchmake_Stream_PickString (by first | assumption | omega | (simp; omega) | simp_all) (by first | assumption | omega | (simp; omega) | simp_all)) ?_)
   | refine de rfl (eop_callx (i := 2) ca13 rfl (WeakL.refl _) rfl (c_benchmake_Stream_PickString (by first | assumption | omega | (simp; omega) | simp_all) (by first | assumption | omega | (simp; omega) | simp_all)) ?_)
   | refine de rfl (eop_callx (i := 3) ca13 rfl (WeakL.refl _) rfl (c_benchmake_Stream_PickString (by first | assumption | omega | (simp; omega) | simp_all) (by first | assumption | omega | (simp; omega) | simp_all)) ?_)
   rintro _ _ ⟨t85, a85, rfl, ht85, ha85, rfl⟩
   refine dp rfl (pop_assign rfl) ?_
   refine dn ?_
   refine hw_reg ?_
   refine dp rfl (pop_move rfl) ?_
   refine dp rfl (pop_call ca14 rfl (WeakL.refl _) (c_draft_Read (text := t85) (by omega))) ?_
   refine dp rfl (pop_move rfl) ?_
   refine dp rfl (pop_extract rfl rfl) ?_
   refine dp rfl (pop_extract rfl rfl) ?_
   refine dp rfl (pop_extract rfl rfl) ?_
   refine dp rfl (pop_assign rfl) ?_
   refine dp rfl (pop_assign rfl) ?_
   refine dp rfl (pop_assign rfl) ?_
   refine dn ?_
   refine hw_reg ?_
   refine dp rfl (pop_move rfl) ?_
   refine dp rfl (pop_call ca15 rfl (WeakL.refl _) (c_benchref1_PicksRead (text := t85) (by omega))) ?_
   refine dp rfl (pop_move rfl) ?_
   refine dp rfl (pop_extract rfl rfl) ?_
   refine dp rfl (pop_extract rfl rfl) ?_
   refine dp rfl (pop_extract rfl rfl) ?_
   refine dp rfl (pop_assign rfl) ?_
   refine dp rfl (pop_assign rfl) ?_
   refine dp rfl (pop_assign rfl) ?_
   refine dn ?_
   have hpp : (prP t85).length ≤ 1000000 := Nat.le_trans (prP_len t85) (by omega)
   refine hw_reg ?_
   refine dp rfl (pop_move rfl) ?_
   refine dp rfl (pop_move rfl) ?_
   refine dp rfl (pop_eql rfl rfl) ?_
   refine dp rfl (pop_move rfl) ?_
   refine dg rfl rfl (fun hc => ⟨_, OpenTo.refl _, pop_move rfl⟩) ?_
   refine dg rfl rfl (fun hc => ⟨_, OpenTo.refl _, pop_move rfl⟩) ?_
   refine dg rfl rfl (fun hc => ⟨_, OpenTo.upd (t := 103) rfl (by first | exact hc | simp_all) (OpenTo.upd (t := 102) rfl (by first | exact hc | simp_all) (OpenTo.refl _)), pop_eql rfl rfl⟩) ?_
   refine dp rfl (pop_picko rfl (.inr ⟨_, rfl, fun h => by simp_all⟩) (.inl rfl)) ?_
   refine dp rfl (pop_move rfl) ?_
   refine dg rfl rfl (fun hc => ⟨_, OpenTo.refl _, pop_move rfl⟩) ?_
   refine dg rfl rfl (fun hc => ⟨_, OpenTo.refl _, pop_move rfl⟩) ?_
   refine dg rfl rfl (fun hc => by have hq := hc; (try simp at hq); exact ⟨_, OpenTo.upd (t := 108) rfl (by first | exact hc | simp_all) (OpenTo.upd (t := 107) rfl (by first | exact hc | simp_all) (OpenTo.refl _)), pop_call ca16 rfl (WeakL.refl _) (c_slices_Equal_api_Pick_api_Pick (by first | assumption | omega | (simp; omega) | simp_all))⟩) ?_
   refine dp rfl (pop_picko rfl (.inr ⟨_, rfl, fun h => by simp_all⟩) (.inl rfl)) ?_
   refine dp rfl (pop_move rfl) ?_
   refine dg rfl rfl (fun hc => ⟨_, OpenTo.refl _, pop_call ca17 rfl (WeakL.refl _) c_benchlaw1_drafted⟩) ?_
   refine dp rfl (pop_picko rfl (.inr ⟨_, rfl, fun h => by simp_all⟩) (.inl rfl)) ?_
   refine dp rfl (pop_assign rfl) ?_
   refine dn ?_
   refine hw_ret ?_
   refine ret_g Ghost.clear rfl ⟨?_, rfl⟩
   show HVal.bool _ = _
   simp_all [eqPicks_refl]
end Go.Proofs.YtmgbigiegjlieaaGreatDoor
end
section
namespace Go.HL
open Go
theorem handed_shaped {H : Type} {enc : TypeId × Value → H} {a : Assume} {C : Checked} {os : Os} {f : FuncId} {fn : Func} {s : ChangeSpec} {conds : List PathCond} {apart fresh handsOn again : Bool} {X : World → Array Value → Prop}
 (hX : ∀ (w w' : World) (args : Array Value), w.heap = w'.heap → X w args → X w' args)
 (own : ownKnob C.prog.godebug = none) (started : os.Started) (noInit : C.prog.inits.idxOf? f = none) (hfn : C.prog.funcs[f]? = some fn)
 (witness : ∃ (w : World) (tape : Tape) (i : Input), w.os = os ∧ (w.forCall tape i).Shaped C.prog ∧ i.vars = [] ∧ Input.okWide C.prog (w.forCall tape i) .any w.heap.size f i ∧
   ((s.pre enc C.prog fn conds apart (w.forCall tape i).memory i.args ∧ X (w.forCall tape i).memory i.args) ∧ sizedMet enc C.prog fn (OpenSpec.ofChange s) apart (w.forCall tape i).memory i.args) ∧ a.holds C.prog (lone (Frame.enter C.prog f i.args .normal) [] (w.forCall tape i)))
 (contract : ∀ (W : World) (base : Nat) (args : Array Value) (ds gs : List (DataW H)) (before : List MemPlace),
   (∀ (j : Nat) t v, fn.params[j]? = some t → args[j]? = some v → Value.okWide C.prog W .any base t v) → DataW.Whole enc C.prog fn.params.toList s.vars apart W args.toList ds gs before →
   X W args → W.ShapedOpen C.prog → Calls C.prog f args W fun e W' => ∃ v, e = .returned v ∧ s.post enc C.prog fn apart fresh handsOn again W args v W') :
 ReturnsInHanded a C os f .any (fun w args => (s.pre enc C.prog fn conds apart w args ∧ X w args) ∧ sizedMet enc C.prog fn (OpenSpec.ofChange s) apart w args) (s.post enc C.prog fn apart fresh handsOn again) := by
 refine returnsInHanded_of_calls own started noInit witness fun w tape i _ hsh _ hok hpre _ => ?_
 obtain ⟨_, _, _, fn', hfn', _, _, _, _, hval⟩ := hok
 obtain rfl : fn' = fn := Option.some.inj (hfn'.symm.trans hfn)
 obtain ⟨⟨⟨ds, gs, before, hw, _⟩, hx⟩, _⟩ := hpre
 refine (contract (w.forCall tape i) w.heap.size i.args ds gs before hval (DataW.Whole.of_heap (w' := w.forCall tape i) (by rfl) hw) (hX _ _ _ (by rfl) hx) hsh).mono fun e W' ⟨v, he, hp⟩ => ?_
 subst he
 exact ChangeSpec.post_blind hp
end Go.HL
end
section
namespace Go.Proofs
open Go.Shelf
def Tryz.laysm146_ren : Go.Shelf.Ren := ⟨fun | 146 => 41 | 221 => 71 | 268 => 114 | 138 => 67 | 143 => 110 | 195 => 108 | 197 => 140 | 218 => 109 | 219 => 146 | 260 => 169 | 217 => 103 | 225 => 173 | 224 => 174 | 267 => 175 | 266 => 143 | 314 => 202 | n => n, fun | 9 => 9 | 31 => 26 | 3 => 3 | 4 => 4 | 0 => 0 | 105 => 188 | 21 => 21 | 5 => 5 | 46 => 208 | 119 => 231 | 139 => 234 | 138 => 233 | 146 => 236 | 51 => 211 | n => n, fun | 1 => 0 | 3 => 2 | 4 => 3 | n => n⟩
theorem Tryz.laysm146 : Go.Proofs.LaysM.n146 Tryz.prog Tryz.laysm146_ren := {
 mixed := by kernel_rfl
 f138 := Tryz.func67.trans (congrArg some (by kernel_rfl))
 f143 := Tryz.func110.trans (congrArg some (by kernel_rfl))
 f146 := Tryz.func41.trans (congrArg some (by kernel_rfl))
 f195 := Tryz.func108.trans (congrArg some (by kernel_rfl))
 f197 := Tryz.func140.trans (congrArg some (by kernel_rfl))
 f217 := Tryz.func103.trans (congrArg some (by kernel_rfl))
 f218 := Tryz.func109.trans (congrArg some (by kernel_rfl))
 f219 := Tryz.func146.trans (congrArg some (by kernel_rfl))
 f221 := Tryz.func71.trans (congrArg some (by kernel_rfl))
 f224 := Tryz.func174.trans (congrArg some (by kernel_rfl))
 f225 := Tryz.func173.trans (congrArg some (by kernel_rfl))
 f260 := Tryz.func169.trans (congrArg some (by kernel_rfl))
 f266 := Tryz.func143.trans (congrArg some (by kernel_rfl))
 f267 := Tryz.func175.trans (congrArg some (by kernel_rfl))
 f268 := Tryz.func114.trans (congrArg some (by kernel_rfl))
 f314 := Tryz.func202.trans (congrArg some (by kernel_rfl))
 t0 := Tryz.underlying0
 a0 := Tryz.isAgg0
 z0 := Tryz.sizeOf0
 v0 := Tryz.zeroValue0
 t3 := Tryz.underlying3
 a3 := Tryz.isAgg3
 z3 := Tryz.sizeOf3
 v3 := Tryz.zeroValue3
 t4 := Tryz.underlying4
 a4 := Tryz.isAgg4
 z4 := Tryz.sizeOf4
 v4 := Tryz.zeroValue4
 t5 := Tryz.underlying5
 a5 := Tryz.isAgg5
 z5 := Tryz.sizeOf5
 v5 := Tryz.zeroValue5
 t9 := Tryz.underlying9
 a9 := Tryz.isAgg9
 z9 := Tryz.sizeOf9
 v9 := Tryz.zeroValue9
 t21 := Tryz.underlying21
 a21 := Tryz.isAgg21
 z21 := Tryz.sizeOf21
 v21 := Tryz.zeroValue21
 t31 := Tryz.underlying26
 a31 := Tryz.isAgg26
 z31 := Tryz.sizeOf26
 v31 := Tryz.zeroValue26
 t46 := Tryz.underlying208
 a46 := Tryz.isAgg208
 z46 := Tryz.sizeOf208
 v46 := Tryz.zeroValue208
 t51 := Tryz.underlying211
 a51 := Tryz.isAgg211
 z51 := Tryz.sizeOf211
 v51 := Tryz.zeroValue211
 t105 := Tryz.underlying188
 a105 := Tryz.isAgg188
 z105 := Tryz.sizeOf188
 v105 := Tryz.zeroValue188
 t119 := Tryz.underlying231
 a119 := Tryz.isAgg231
 z119 := Tryz.sizeOf231
 t138 := Tryz.underlying233
 a138 := Tryz.isAgg233
 z138 := Tryz.sizeOf233
 v138 := Tryz.zeroValue233
 t139 := Tryz.underlying234
 a139 := Tryz.isAgg234
 z139 := Tryz.sizeOf234
 v139 := Tryz.zeroValue234
 t146 := Tryz.underlying236
 a146 := Tryz.isAgg236
 z146 := Tryz.sizeOf236
 v146 := Tryz.zeroValue236
 g1 := by kernel_rfl
 g3 := by kernel_rfl
 g4 := by kernel_rfl
 i0 := by kernel_rfl
 i3 := by kernel_rfl
 i4 := by kernel_rfl
 i5 := by kernel_rfl
 i9 := by kernel_rfl
 i21 := by kernel_rfl
 i31 := by kernel_rfl
 i46 := by kernel_rfl
 i51 := by kernel_rfl
 i105 := by kernel_rfl
 i138 := by kernel_rfl
 i139 := by kernel_rfl
 i146 := by kernel_rfl
 m1 := by kernel_rfl
 s1_3 := fun w h => Go.Proofs.cell_of_shapedOpen_int (zero := #[.int .i64 0]) (t := 3) h (of_decide_eq_true (by kernel_rfl)) (by kernel_rfl) rfl (by kernel_rfl) (by kernel_rfl) Tryz.underlying3
 m3 := by kernel_rfl
 m4 := by kernel_rfl }
end Go.Proofs
end
section
namespace Go.Proofs.YtmgbigiegjlieaaGreatDoor
open Go.ChangeShapes Go.WideShapes Go.ChangeAt Go.RowKit Go.HL
theorem ownPickTexts : ownKnob Tryz.prog.godebug = none := by kernel_rfl
theorem laidOutPickTexts : laidOutB Tryz.prog = true := by kernel_rfl
theorem cellsPickTexts : Tryz.prog.cellsOf 3 = 1 := by kernel_rfl
theorem tabPickTexts {W : World} (h : laidMetH Tryz.prog Rows.pickTextsRow.laid W) (hsh : W.ShapedOpen Tryz.prog) : TabI Tryz.prog (allI W) := by
 rw [MakeChecks.laidMetH_plain _ _ _ (by kernel_rfl)] at h
 letI : Tracks := ⟨false⟩
 exact tabI_of_laid (i := 2) (g := 1) (t := 210) h (by kernel_rfl) (by kernel_rfl) (by kernel_rfl) Tryz.underlying210 Tryz.underlying179 (by kernel_rfl) (by kernel_rfl) (fun g hg => by
  obtain rfl : Tryz.laysm146_ren.g 1 = g := Option.some.inj (Tryz.laysm146.m1.symm.trans hg)
  exact Tryz.laysm146.s1_3 W hsh)
theorem callsPickTexts {W : World} (ht : TabI Tryz.prog (allI W)) {a : Option Addr} {len cap : Nat} {H : Type} {enc : TypeId × Value → H} {d0 : DataW H} {p : List MemPlace} (h : DataW.Trod enc Tryz.prog W 0 (fun _ => true) true 22 (.slice a len cap) d0 p) :
 Calls Tryz.prog 3 #[.slice a len cap] W fun e W' => e = .returned (.bool true) ∧ Below W.heap.size W W' := by
 obtain ⟨fuel, hf⟩ := h
 rcases open_ints Tryz.underlying22 Tryz.underlying3 cellsPickTexts hf with ⟨hcs, hx⟩ | ⟨a', len', cap', zs, hcs, _, hl, hm, hz, hx, hcell, hwz⟩
 ·simp [Value.cells] at hcs
  obtain ⟨rfl, rfl, rfl⟩ := hcs
  letI : Tracks := ⟨false⟩
  exact conp_law (l := []) (c_benchlaw1_PickTexts rfl) ht (.slice0 _ _ _)
 ·simp [Value.cells] at hcs
  obtain ⟨rfl, rfl, rfl⟩ := hcs
  simp only [if_true] at hz
  letI : Tracks := ⟨false⟩
  exact conp_law (l := zs.take len) (c_benchlaw1_PickTexts rfl) ht (v_ints hcell (by omega) hl)
set_option maxRecDepth 100000 in
theorem liftedPickTexts (os : Os) (started : os.Started) (H : Type) (enc : TypeId × Value → H) :
 ReturnsInHanded {} Tryz.checked os 3 .any (fun w args => (Rows.pickTextsSpec.pre enc Tryz.prog Tryz.f3 Rows.pickTextsRow.domain false w args ∧ laidMetH Tryz.prog Rows.pickTextsRow.laid w) ∧ sizedMet enc Tryz.prog Tryz.f3 (OpenSpec.ofChange Rows.pickTextsSpec) false w args)
  (Rows.pickTextsSpec.post enc Tryz.prog Tryz.f3 false true false false) := by
 refine handed_shaped (C := Tryz.checked) (X := fun w _ => laidMetH Tryz.prog Rows.pickTextsRow.laid w) (fun _ _ _ hh h => h.of_heap hh) ownPickTexts started (by kernel_rfl) Tryz.func3
  (ChangeSpec.witness_shaped (enc := enc) (C := Tryz.checked) (os := os) (X := fun w _ => laidMetH Tryz.prog Rows.pickTextsRow.laid w) false (World.laidAll Tryz.prog os Rows.pickTextsRow.laid) #[.slice none 0 0] 8 (World.laidAll_os _ _ _)
    (World.shaped_of_ZipB (by kernel_rfl) (by kernel_rfl)) (by kernel_rfl) (by kernel_rfl) (by kernel_rfl)
    (by rw [MakeChecks.laidMetH_plain _ _ _ (by kernel_rfl)]; exact laidMet_laidAll _ (by kernel_rfl) (by kernel_rfl))) ?_
 intro W base args ds gs before hval0 hW hL hsh
 have hval : ∀ (j : Nat) t v, Tryz.f3.params[j]? = some t → args[j]? = some v → Value.okWide Tryz.prog W .any base t v := hval0
 have hW' := hW
 obtain ⟨p, q, hA0, hV, rfl, _, _⟩ := hW
 have hA : DataW.TrodAll enc Tryz.prog W 0 (fun _ => true) true Tryz.f3.params.toList args.toList ds p := hA0
 rw [Tryz.params3] at hA hval
 obtain ⟨v0, d0, rfl, rfl, h0⟩ := trodAll_one hA
 obtain ⟨rfl, rfl⟩ := trodVars_none hV
 obtain ⟨a0, len, cap, rfl⟩ := okWide_slice Tryz.underlying22 (hval 0 22 v0 rfl rfl)
 simp only [List.append_nil] at hW'
 have hlt : ∀ x ∈ p, x.block < W.heap.size := fun x hx => by simpa using hW'.lt x hx
 refine (callsPickTexts (tabPickTexts hL hsh) h0).mono fun e W' ⟨he, hb⟩ => ?_
 subst he
 have hargs : DataW.Trod enc Tryz.prog W' 0 (fun b => decide (b < W.heap.size)) true 22 (.slice a0 len cap) d0 p :=
  Below.trod laidOutPickTexts (by kernel_rfl) (of_decide_eq_true (by kernel_rfl)) h0 hb hlt
 exact ⟨_, rfl, _, _, _, [], p, [], hW', trodAll_mk1 (shut_bool Tryz.underlying4 _), trodAll_mk1 hargs, rfl, hb.frame _, fun h => by cases h⟩
theorem mapsPickTexts : mapsRowed Tryz.prog = true := by kernel_rfl
theorem inplPickTexts : (Rows.pickTextsRow.inPlace == Tryz.prog.inPlace 3) = true := by kernel_rfl
theorem unfoPickTexts : (Rows.pickTextsRow.unfollowed == Tryz.prog.unfollowed 3) = true := by kernel_rfl
theorem recuPickTexts : (Rows.pickTextsRow.recurses == Tryz.prog.recurses 3) = true := by kernel_rfl
theorem varsPickTexts : (Rows.pickTextsRow.named == Tryz.prog.varsNamed 3) = true := by kernel_rfl
theorem joinPickTexts : joinedFacts Tryz.prog 3 Tryz.f3 Rows.pickTextsSpec Rows.pickTextsRow = true := by
 simp only [joinedFacts, Bool.and_eq_true]
 repeat' apply And.intro
 all_goals first
  | with_reducible exact laidOutPickTexts
  | with_reducible exact mapsPickTexts
  | with_reducible exact inplPickTexts
  | with_reducible exact unfoPickTexts
  | with_reducible exact recuPickTexts
  | with_reducible exact varsPickTexts
  | kernel_rfl
theorem lookPickTexts : true = Tryz.prog.looks [] := by kernel_rfl
theorem goesPickTexts : false = Rows.pickTextsRow.goesBy Tryz.prog := by kernel_rfl
theorem wfbtPickTexts : Rows.pickTextsRow.wfByText (OpenSpec.ofChange Rows.pickTextsSpec) = true := by kernel_rfl
theorem mainPickTexts : Tryz.prog.mainIs = some ("84caebd230ff65d55bc244a135fbaf26e87a70ca7922309009c0c1f643d3cf49" |> fun h => (true, h.toList)) := by kernel_rfl
theorem stanPickTexts : ([22].all fun u => !Tryz.prog.wantsStandIn u) = true := by kernel_rfl
theorem fnamPickTexts : Tryz.prog.funcNamed Rows.pickTextsRow.func = some 3 := by kernel_rfl
theorem holdsPickTexts : Rows.PickTextsSaid :=
 OpenClaim.holds_of_wide 3 Tryz.f3 rfl rfl rfl rfl rfl rfl rfl ⟨rfl, rfl, rfl, rfl, rfl⟩ rfl rfl rfl rfl rfl fnamPickTexts Tryz.func3 joinPickTexts
  (of_decide_eq_true (by kernel_rfl)) (by unfold Func.isWrapper; first | (rw [if_pos (by decide +kernel)]; kernel_rfl) | (rw [if_neg (by decide +kernel)]; exact ⟨rfl, rfl⟩))
  (fun os started H enc _ => liftedPickTexts os started H enc)
theorem cardPickTexts : Rows.PickTextsCardSaid :=
 Claim7.holds_tied_plain_at .later [] [.data, .data, .data, .data, .sentinel, .sentinel, .pinned] true (true, "84caebd230ff65d55bc244a135fbaf26e87a70ca7922309009c0c1f643d3cf49") true holdsPickTexts (fun _ h => by cases h) wfbtPickTexts (fun _ h => by cases h) pickTexts_row_tie rfl ⟨rfl, rfl⟩ mainPickTexts rfl
  (fun f fn hf hfn => by
    obtain rfl : f = 3 := Option.some.inj (fnamPickTexts.symm.trans hf) |>.symm
    obtain rfl : fn = Tryz.f3 := (Option.some.inj (Tryz.func3.symm.trans hfn)).symm
    exact ⟨lookPickTexts, fun j t ht => by
     rw [Tryz.params3] at ht
     have hm : t ∈ [22] := by simpa using Array.mem_of_getElem? ht
     have hall := stanPickTexts
     exact (show Tryz.prog.wantsStandIn t = false by simpa using List.all_eq_true.1 hall t hm)⟩)
  goesPickTexts
end Go.Proofs.YtmgbigiegjlieaaGreatDoor
end
