/- Part 3 of the proof: a program logic, contracts of functions and plain facts; no conditions. -/
import Derived.Test.YtbihpphgoaflfaaGreatDoorPChancesWeighed2
import Derived.Ground.GgzProg
import Derived.Ground.Names2Prog
import Derived.Ground.SlgmProg
import Derived.Ground.SlsfProg
import Derived.Shelf.SlIter.Collect
import Derived.Shelf.SlIter.Keys
import Derived.Shelf.SlIter.Sorted
import Derived.Shelf.SlIterI.Collect
import Derived.Shelf.SlIterI.Keys
import Derived.Shelf.SlIterI.Sorted
import Derived.Shelf.SlSortCmp.NoneTotal
import Derived.Shelf.Slices.CompactS
import Derived.Shelf.Slices.Delete
import Derived.Shelf.Sort.Plain
import Derived.Shelf.SortM.Plain
import Derived.Shelf.SortM.SortNone
import Derived.Shelf.Strconv.Atoi
import Derived.Shelf.Strconv.Itoa3
import Derived.Shelf.Strings.Prefix
import Derived.Test.YtbihpphgoaflfaaGreatDoorProg
set_option linter.unusedVariables false
set_option linter.unusedSimpArgs false
section
namespace Go.Proofs.YtbihpphgoaflfaaGreatDoor
open Go.HL
set_option maxRecDepth 100000
set_option linter.unusedVariables false
set_option linter.unusedSimpArgs false
theorem ok3 [Tracks] : KeyOk Tryz.prog 3 (fun x : Int => HVal.int .i64 x) := keyOk_int ty3

set_option maxHeartbeats 1000000 in
/-- benchwarmer/value.spread -/
theorem c_value_spread [Tracks] {h : List HopeS} (hl : h.length ≤ 1000000) (ok : ∀ x ∈ h, HopeOk x) : Con Tryz.prog 39 [eHopes h] [] (fun x M' => ∃ (o : Option Nat) (L : NW), x = .tup [.raw (.map o), .int .i64 (spreadE h)] ∧ M' = mapO o L ∧ (spreadE h = 0 → ∃ b, o = some b ∧ L.Perm (cz h))) := by
 refine Con.of_body Tryz.func39 rfl Tryz.ntmps39 rfl rfl ?_
 refine hw_reg ?_
 refine dp rfl (pop_assign rfl) ?_
 refine dp rfl (pop_assign rfl) ?_
 refine dn ?_
 refine hw_seq ?_
 refine hw_reg ?_
 refine dp rfl (pop_move rfl) ?_
 refine dp rfl (pop_call ca41 rfl (WeakL.refl _) (c_value_product (by first | assumption | omega | (simp; omega) | simp_all) (by first | assumption | omega | (simp; omega) | simp_all))) ?_
 refine dp rfl (pop_gtr rfl rfl) ?_
 refine dn ?_
 refine hw_cond rfl (fun h1 => ?_) (fun h2 => ?_)
 ·try simp at h1
  refine hw_reg ?_
  refine dp rfl (pop_assign rfl) ?_
  refine dp rfl (pop_assign rfl) ?_
  refine dn ?_
  refine hw_ret ?_
  first
  | (have q : 1000000000000 < prodP h 1 := by simpa using h1
     have e : spreadE h = 12 := by rw [spreadE, if_pos q]
     exact ret_g Ghost.clear rfl ⟨none, [], by rw [e]; rfl, rfl, fun e0 => by omega⟩)
  | (have q : ¬ 1000000000000 < prodP h 1 := by omega
     have q2 : 20000 < (cz h).length := by
      have := hL.length_eq
      simp only [iM_len] at *
      omega
     have e : spreadE h = 12 := by rw [spreadE, if_neg q, if_pos q2]
     exact ret_g Ghost.clear rfl ⟨none, [], by rw [e]; rfl, rfl, fun e0 => by omega⟩)
  | (have q : ¬ 1000000000000 < prodP h 1 := by omega
     have q2 : ¬ 20000 < (cz h).length := by
      have := hL.length_eq
      simp only [iM_len] at *
      omega
     have e : spreadE h = 0 := by rw [spreadE, if_neg q, if_neg q2]
     exact ret_g (Ghost.perm (List.Perm.refl _)) rfl ⟨some b, L, by rw [e]; rfl, rfl, fun _ => ⟨b, rfl, hL⟩⟩)
 ·try simp at h2
  refine hw_skip ?_
  refine seqQ_n ?_
  have hpo := prodP_one ok
  have hpT : prodT h ≤ 1000000000000 := by
   have q : prodP h 1 ≤ 1000000000000 := by simpa using h2
   have := hpo.1 q
   omega
  refine hw_reg ?_
  refine de rfl (eop_makeMap fun m15 => ?_)
  refine de0 (EOp.insert (eop_updatekA (i := 0) (s := (0 : Int)) (v := (1 : Int)) (L := []) (ek := HVal.int .i64) (f := HVal.int .i64) ty68 ok3 rfl rfl rfl rfl ?_))
  refine dp rfl (pop_move rfl) ?_
  refine dp rfl (pop_assign rfl) ?_
  refine dn ?_
  refine hw_seq ?_
  refine hw_reg ?_
  refine dp rfl (pop_move rfl) ?_
  refine dp rfl (pop_lenm ty26 rfl) ?_
  refine dp rfl (pop_move rfl) ?_
  refine dn ?_
  refine hw_block ?_
  refine hw_loopw3 [4, 6, 7, 8, 9, 11, 19, 20, 21, 22, 23, 24, 25, 26, 27, 28, 29, 30, 31, 32, 33, 34, 35, 36, 37, 38, 39, 40, 41, 42, 43, 44, 45, 46, 47, 48, 49, 50, 51] (fun (k : Nat) (b : Nat) (L : NW) => [(19, .int .i64 k), (4, .raw (.map (some b)))]) (fun (k : Nat) (b : Nat) (L : NW) => [.map b (iM L)]) (fun (k : Nat) (b : Nat) (L : NW) => k ≤ h.length ∧ (L.Perm (cz (h.take k)))) (fun (k : Nat) (b : Nat) (L : NW) => h.length - k) (0) (m15) ([(0, 1)]) ?_ ?_ ?_ ?_
  ·exact ⟨Nat.zero_le _, List.Perm.refl _⟩
  ·exact ⟨rfl, rfl, trivial⟩
  ·exact List.Perm.refl _
  ·intro k b L hinv
   obtain ⟨hk, hL⟩ := hinv
   refine hw_reg ?_
   refine dp rfl (pop_lss rfl rfl) ?_
   refine dn ?_
   refine hw_seq ?_
   refine hw_cond rfl (fun h3 => ?_) (fun h4 => ?_)
   ·try simp at h3
    obtain ⟨x, hx⟩ : ∃ x, h[k]? = some x := ⟨_, List.getElem?_eq_getElem h3⟩
    have hdx := drop_cons hx
    have hxo := ok x (List.mem_of_getElem? hx)
    have hxl := hxo.len
    have hcz := cz_pos (take_ok ok k)
    have hLp : PosW L := fun p hp => hcz.1 p (hL.mem_iff.1 hp)
    have hLt : tot L = prodT (h.take k) := by rw [tot_perm hL, hcz.2]
    have hLb : BdP (100000 * (h.take k).length) L := fun p hp => cz_bd (take_ok ok k) p (hL.mem_iff.1 hp)
    have hkl : (h.take k).length ≤ 1000000 := by rw [List.length_take]; omega
    have hTk : tot L * sumW x.Outs ≤ 1000000000000 := by rw [hLt, ← prodT_snoc, ← take_snoc' hx]; have := (prodT_take ok (k + 1)).2; omega
    refine hw_skip ?_
    refine seqQ_n ?_
    refine hw_seq ?_
    refine hw_block ?_
    refine hw_reg ?_
    refine dp rfl (pop_idx ty26 ty49 rfl rfl rfl (by first | assumption | simp_all)) ?_
    refine dp rfl (pop_loadw ty49 rfl rfl rfl rfl) ?_
    refine de rfl (eop_alloc ty49 rfl fun b6 => ?_)
    refine de0 (eop_storew ty49 rfl rfl rfl rfl rfl ?_)
    refine dn ?_
    refine hw_ghost (Ghost.fc0 6 rfl) ?_
    refine hw_reg ?_
    refine de rfl (eop_makeMap fun m23 => ?_)
    refine dp rfl (pop_assign rfl) ?_
    refine dn ?_
    refine hw_seq ?_
    refine hw_reg ?_
    refine dp rfl (pop_move rfl) ?_
    refine de rfl (eop_range (i := 1) ty68 rfl rfl fun r => ?_)
    refine dn ?_
    refine hw_block ?_
    refine hw_loopw2 [8, 9, 11, 26, 27, 28, 29, 30, 31, 32, 33, 34, 35, 36, 37, 38, 39, 40, 41, 42, 43, 44, 45, 46, 47, 48, 49] (fun (vis : List Nat) (E : List (Int × Int)) => []) (fun (vis : List Nat) (E : List (Int × Int)) => [.map m23 (iM (sumM (expand E x.Outs))), .iter r b (iM L) vis]) (fun (vis : List Nat) (E : List (Int × Int)) => VisOk (L) vis E ∧ (True)) (fun (vis : List Nat) (E : List (Int × Int)) => (L).length - vis.length) ([]) ([]) ?_ ?_ ?_ ?_
    ·exact ⟨VisOk.nil _, trivial⟩
    ·exact trivial
    ·exact perm_eq rfl
    ·intro vis E hinv
     obtain ⟨hvis, -⟩ := hinv
     refine hw_reg ?_
     refine de rfl (eop_nextA (i := 1) (L := L) (enc := (fun p : Int × Int => (HVal.int .i64 p.1, HVal.int .i64 p.2))) rfl rfl (kk_em _ _ _) hvis.nd hvis.lt fun cb R vis' hnx => ?_)
     refine dp rfl (pop_extract rfl rfl) ?_
     refine dn ?_
     refine hw_seq ?_
     refine hw_cond rfl (fun h5 => ?_) (fun h6 => ?_)
     ·try simp at h5
      obtain ⟨j, q, hq, hj, rfl⟩ := hnx.t h5
      have hroom := hvis.room hq hj
      have hstep := hvis.step hq hj
      have hqm := List.mem_of_getElem? hq
      refine hw_skip ?_
      refine seqQ_n ?_
      refine hw_block ?_
      refine hw_reg ?_
      refine de rfl (eop_entryA (i := 1) (L := L) (enc := (fun p : Int × Int => (HVal.int .i64 p.1, HVal.int .i64 p.2))) rfl rfl (kk_em _ _ _) hq ?_)
      refine dp rfl (pop_extract rfl rfl) ?_
      refine dp rfl (pop_extract rfl rfl) ?_
      refine dp rfl (pop_assign rfl) ?_
      refine dp rfl (pop_assign rfl) ?_
      refine dn ?_
      refine hw_reg ?_
      refine dp rfl (pop_fieldAddr ty49 rfl ty37 (by decide) rfl) ?_
      refine dp rfl (pop_load ty37 rfl rfl rfl) ?_
      refine dp rfl (pop_lenm ty37 rfl) ?_
      refine dp rfl (pop_move rfl) ?_
      refine dn ?_
      refine hw_block ?_
      refine hw_loopw [11, 34, 35, 36, 37, 38, 39, 40, 41, 42, 43, 44, 45, 46, 47, 48, 49] (fun (i : Nat) => [(34, .int .i64 i)]) (fun (i : Nat) => [.map m23 (iM (sumM (expand E x.Outs ++ HL.one q (x.Outs.take i)))), .iter r b (iM L) (vis ++ [j])]) (fun (i : Nat) => i ≤ x.Outs.length ∧ (True)) (fun (i : Nat) => x.Outs.length - i) (0) ?_ ?_ ?_ ?_
      ·exact ⟨Nat.zero_le _, trivial⟩
      ·exact ⟨rfl, trivial⟩
      ·exact perm_eq (by simp [HL.one])
      ·intro i hinv
       obtain ⟨hi, -⟩ := hinv
       refine hw_reg ?_
       refine dp rfl (pop_lss rfl rfl) ?_
       refine dn ?_
       refine hw_seq ?_
       refine hw_cond rfl (fun h7 => ?_) (fun h8 => ?_)
       ·try simp at h7
        obtain ⟨y, hy⟩ : ∃ y, x.Outs[i]? = some y := ⟨_, List.getElem?_eq_getElem h7⟩
        have hdy := drop_cons hy
        have hmb := mid_bd hLp hxo.bdw hstep hy (q.1 + y.Points)
        have hqb := hLb q hqm
        have hyb := hxo.bd y (List.mem_of_getElem? hy)
        refine hw_skip ?_
        refine seqQ_n ?_
        refine hw_seq ?_
        refine hw_block ?_
        refine hw_reg ?_
        refine dp rfl (pop_idx ty37 ty44 rfl rfl rfl (by first | assumption | simp_all)) ?_
        refine dp rfl (pop_loadw ty44 rfl rfl rfl rfl) ?_
        refine de rfl (eop_alloc ty44 rfl fun b11 => ?_)
        refine de0 (eop_storew ty44 rfl rfl rfl rfl rfl ?_)
        refine dn ?_
        refine hw_ghost (Ghost.fc0 11 rfl) ?_
        refine hw_reg1 ?_
        refine dp rfl (pop_move rfl) ?_
        refine dp rfl (pop_move rfl) ?_
        refine dp rfl (pop_fieldAddr ty44 rfl ty3 (by decide) rfl) ?_
        refine dp rfl (pop_load ty3 rfl rfl rfl) ?_
        refine dp rfl (pop_add64 rfl rfl (by omega) (by omega)) ?_
        refine de rfl (eop_lookupkA (i := 0) (s := q.1 + y.Points) (z0 := (0 : Int)) (f := HVal.int .i64) (L := sumM (expand E x.Outs ++ HL.one q (x.Outs.take i))) ty68 ok3 ty3 rfl rfl rfl rfl ?_)
        refine dp rfl (pop_move rfl) ?_
        refine dp rfl (pop_fieldAddr ty44 rfl ty3 (by decide) rfl) ?_
        refine dp rfl (pop_load ty3 rfl rfl rfl) ?_
        refine dp rfl (pop_mul64 rfl rfl (by omega) (by omega)) ?_
        refine dp rfl (pop_add64 rfl rfl (by omega) (by omega)) ?_
        refine de0 (eop_updatekA (i := 0) (s := q.1 + y.Points) (v := (alk (q.1 + y.Points) (sumM (expand E x.Outs ++ HL.one q (x.Outs.take i)))).getD 0 + q.2 * y.Weight) (f := HVal.int .i64) (L := sumM (expand E x.Outs ++ HL.one q (x.Outs.take i))) ty68 ok3 rfl rfl rfl rfl ?_)
        refine dn ?_
        refine blockQ_n ?_
        refine seqQ_n ?_
        refine hw_reg1 ?_
        refine dp rfl (pop_add64 rfl rfl (by omega) (by omega)) ?_
        refine dp rfl (pop_move rfl) ?_
        refine dn ?_
        exact ⟨i + 1, ⟨by omega, trivial⟩, by dsimp only; omega, ⟨rfl, trivial⟩, (by repeat (first | exact keeps_refl | refine keeps_upd rfl ?_ | refine keeps_loop rfl rfl ?_)), perm_eq (by dsimp only; rw [one_snoc q hy, ← List.append_assoc, sumM_snoc]; rfl)⟩
       ·try simp at h8
        have hni : x.Outs.length ≤ i := by omega
        obtain rfl : i = x.Outs.length := by omega
        rw [List.take_length]
        refine hw_exit ?_
        refine seqQ_x ?_
        refine loopQ_x ?_
        refine blockQ_eq ?_
        refine blockQ_n ?_
        exact ⟨_, E ++ [q], ⟨hstep, trivial⟩, by dsimp only; rw [List.length_append]; simp only [List.length_cons, List.length_nil]; omega, trivial, (by repeat (first | exact keeps_refl | refine keeps_upd rfl ?_ | refine keeps_loop rfl rfl ?_)), perm_eq (by dsimp only; rw [expand_snoc])⟩
     ·try simp at h6
      obtain ⟨rfl, hlen⟩ := hnx.f h6
      have hEp := hvis.done hlen
      refine hw_exit ?_
      refine seqQ_x ?_
      refine loopQ2_x ?_
      refine blockQ_eq ?_
      refine seqQ_n ?_
      refine hw_ghost (Ghost.iterOver (i := 1) rfl) ?_
      refine hw_ghost (Ghost.of_eq (M' := [.map m23 (iM (sumM (expand E x.Outs))), .map b (iM L)]) rfl) ?_
      refine hw_ghost (Ghost.trans (Ghost.perm (List.Perm.swap _ _ _)) Ghost.drop) ?_
      refine hw_reg1 ?_
      refine dp rfl (pop_move rfl) ?_
      refine dp rfl (pop_assign rfl) ?_
      refine dn ?_
      refine blockQ_n ?_
      refine seqQ_n ?_
      refine hw_reg1 ?_
      refine dp rfl (pop_add64 rfl rfl (by omega) (by omega)) ?_
      refine dp rfl (pop_move rfl) ?_
      refine dn ?_
      exact ⟨k + 1, m23, sumM (expand E x.Outs), ⟨by omega, by rw [cz_snoc hx]; exact sumM_perm (expand_perm (hEp.trans hL) _)⟩, by dsimp only; omega, ⟨rfl, rfl, trivial⟩, (by repeat (first | exact keeps_refl | refine keeps_upd rfl ?_ | refine keeps_loop rfl rfl ?_)), perm_eq rfl⟩
   ·try simp at h4
    have hnk : h.length ≤ k := by omega
    obtain rfl : k = h.length := by omega
    rw [List.take_length] at hL
    refine hw_exit ?_
    refine seqQ_x ?_
    refine loopQ3_x ?_
    refine blockQ_eq ?_
    refine seqQ_n ?_
    refine hw_seq ?_
    refine hw_reg ?_
    refine dp rfl (pop_move rfl) ?_
    first
    | refine de rfl (eop_maplen (i := 0) ty68 rfl rfl ?_)
    | refine de rfl (eop_maplen (i := 1) ty68 rfl rfl ?_)
    | refine de rfl (eop_maplen (i := 2) ty68 rfl rfl ?_)
    | refine de rfl (eop_maplen (i := 3) ty68 rfl rfl ?_)
    refine dp rfl (pop_gtr rfl rfl) ?_
    refine dn ?_
    refine hw_cond rfl (fun h9 => ?_) (fun h10 => ?_)
    ·try simp at h9
     refine hw_reg ?_
     refine dp rfl (pop_assign rfl) ?_
     refine dp rfl (pop_assign rfl) ?_
     refine dn ?_
     refine hw_ret ?_
     first
     | (have q : 1000000000000 < prodP h 1 := by simpa using h1
        have e : spreadE h = 12 := by rw [spreadE, if_pos q]
        exact ret_g Ghost.clear rfl ⟨none, [], by rw [e]; rfl, rfl, fun e0 => by omega⟩)
     | (have q : ¬ 1000000000000 < prodP h 1 := by omega
        have q2 : 20000 < (cz h).length := by
         have := hL.length_eq
         simp only [iM_len] at *
         omega
        have e : spreadE h = 12 := by rw [spreadE, if_neg q, if_pos q2]
        exact ret_g Ghost.clear rfl ⟨none, [], by rw [e]; rfl, rfl, fun e0 => by omega⟩)
     | (have q : ¬ 1000000000000 < prodP h 1 := by omega
        have q2 : ¬ 20000 < (cz h).length := by
         have := hL.length_eq
         simp only [iM_len] at *
         omega
        have e : spreadE h = 0 := by rw [spreadE, if_neg q, if_neg q2]
        exact ret_g (Ghost.perm (List.Perm.refl _)) rfl ⟨some b, L, by rw [e]; rfl, rfl, fun _ => ⟨b, rfl, hL⟩⟩)
    ·try simp at h10
     refine hw_skip ?_
     refine seqQ_n ?_
     refine hw_reg ?_
     refine dp rfl (pop_move rfl) ?_
     refine dp rfl (pop_assign rfl) ?_
     refine dp rfl (pop_assign rfl) ?_
     refine dn ?_
     refine hw_ret ?_
     first
     | (have q : 1000000000000 < prodP h 1 := by simpa using h1
        have e : spreadE h = 12 := by rw [spreadE, if_pos q]
        exact ret_g Ghost.clear rfl ⟨none, [], by rw [e]; rfl, rfl, fun e0 => by omega⟩)
     | (have q : ¬ 1000000000000 < prodP h 1 := by omega
        have q2 : 20000 < (cz h).length := by
         have := hL.length_eq
         simp only [iM_len] at *
         omega
        have e : spreadE h = 12 := by rw [spreadE, if_neg q, if_pos q2]
        exact ret_g Ghost.clear rfl ⟨none, [], by rw [e]; rfl, rfl, fun e0 => by omega⟩)
     | (have q : ¬ 1000000000000 < prodP h 1 := by omega
        have q2 : ¬ 20000 < (cz h).length := by
         have := hL.length_eq
         simp only [iM_len] at *
         omega
        have e : spreadE h = 0 := by rw [spreadE, if_neg q, if_neg q2]
        exact ret_g (Ghost.perm (List.Perm.refl _)) rfl ⟨some b, L, by rw [e]; rfl, rfl, fun _ => ⟨b, rfl, hL⟩⟩)
end Go.Proofs.YtbihpphgoaflfaaGreatDoor
end
section
namespace Go.HL
def hE (h : List HopeS) : Int := if hopesE h ≠ 0 then hopesE h else spreadE h
theorem BdP.smallO {h : List HopeS} {L : NW} (hl : h.length ≤ 12) (ok : ∀ x ∈ h, HopeOk x) (hL : L.Perm (cz h)) : BdP 1200000 L := fun p hp => by
 have := cz_bd ok p (hL.mem_iff.1 hp)
 omega
end Go.HL
end
section
namespace Go.Proofs.YtbihpphgoaflfaaGreatDoor
open Go.HL
set_option maxRecDepth 100000
set_option linter.unusedVariables false
set_option linter.unusedSimpArgs false
end Go.Proofs.YtbihpphgoaflfaaGreatDoor
end
section
namespace Go.Proofs
open Go.Shelf
def Tryz.lays190_ren : Go.Shelf.Ren := ⟨fun | 190 => 108 | 125 => 84 | 258 => 160 | 128 => 117 | 129 => 118 | 302 => 187 | 303 => 188 | 304 => 189 | 305 => 190 | 306 => 191 | 307 => 192 | 308 => 193 | 309 => 194 | 310 => 195 | 333 => 216 | 329 => 162 | 330 => 163 | 334 => 217 | 335 => 218 | 336 => 219 | 344 => 232 | n => n, fun | 31 => 77 | 9 => 9 | 3 => 3 | 46 => 128 | 0 => 0 | 51 => 165 | 53 => 93 | 4 => 4 | 183 => 158 | 182 => 157 | 131 => 162 | 5 => 5 | 218 => 211 | 222 => 215 | 228 => 244 | 229 => 245 | n => n, fun | n => n⟩
theorem Tryz.lays190 : Go.Proofs.Lays.n190 Tryz.prog Tryz.lays190_ren := {
 mixed := by kernel_rfl
 f125 := Tryz.func84.trans (congrArg some (by kernel_rfl))
 f128 := Tryz.func117.trans (congrArg some (by kernel_rfl))
 f129 := Tryz.func118.trans (congrArg some (by kernel_rfl))
 f190 := Tryz.func108.trans (congrArg some (by kernel_rfl))
 f258 := Tryz.func160.trans (congrArg some (by kernel_rfl))
 f302 := Tryz.func187.trans (congrArg some (by kernel_rfl))
 f303 := Tryz.func188.trans (congrArg some (by kernel_rfl))
 f304 := Tryz.func189.trans (congrArg some (by kernel_rfl))
 f305 := Tryz.func190.trans (congrArg some (by kernel_rfl))
 f306 := Tryz.func191.trans (congrArg some (by kernel_rfl))
 f307 := Tryz.func192.trans (congrArg some (by kernel_rfl))
 f308 := Tryz.func193.trans (congrArg some (by kernel_rfl))
 f309 := Tryz.func194.trans (congrArg some (by kernel_rfl))
 f310 := Tryz.func195.trans (congrArg some (by kernel_rfl))
 f329 := Tryz.func162.trans (congrArg some (by kernel_rfl))
 f330 := Tryz.func163.trans (congrArg some (by kernel_rfl))
 f333 := Tryz.func216.trans (congrArg some (by kernel_rfl))
 f334 := Tryz.func217.trans (congrArg some (by kernel_rfl))
 f335 := Tryz.func218.trans (congrArg some (by kernel_rfl))
 f336 := Tryz.func219.trans (congrArg some (by kernel_rfl))
 f344 := Tryz.func232.trans (congrArg some (by kernel_rfl))
 t0 := Tryz.underlying0
 a0 := Tryz.isAgg0
 z0 := Tryz.sizeOf0
 v0 := Tryz.zeroValue0
 t3 := Tryz.underlying3
 a3 := Tryz.isAgg3
 z3 := Tryz.sizeOf3
 v3 := Tryz.zeroValue3
 t4 := Tryz.underlying4
 a4 := Tryz.isAgg4
 z4 := Tryz.sizeOf4
 v4 := Tryz.zeroValue4
 t5 := Tryz.underlying5
 a5 := Tryz.isAgg5
 z5 := Tryz.sizeOf5
 v5 := Tryz.zeroValue5
 t9 := Tryz.underlying9
 a9 := Tryz.isAgg9
 z9 := Tryz.sizeOf9
 v9 := Tryz.zeroValue9
 t31 := Tryz.underlying77
 a31 := Tryz.isAgg77
 z31 := Tryz.sizeOf77
 v31 := Tryz.zeroValue77
 t46 := Tryz.underlying128
 a46 := Tryz.isAgg128
 z46 := Tryz.sizeOf128
 v46 := Tryz.zeroValue128
 t51 := Tryz.underlying165
 a51 := Tryz.isAgg165
 z51 := Tryz.sizeOf165
 v51 := Tryz.zeroValue165
 t53 := Tryz.underlying93
 a53 := Tryz.isAgg93
 z53 := Tryz.sizeOf93
 v53 := Tryz.zeroValue93
 t131 := Tryz.underlying162
 a131 := Tryz.isAgg162
 z131 := Tryz.sizeOf162
 v131 := Tryz.zeroValue162
 t182 := Tryz.underlying157
 a182 := Tryz.isAgg157
 z182 := Tryz.sizeOf157
 v182 := Tryz.zeroValue157
 t183 := Tryz.underlying158
 a183 := Tryz.isAgg158
 z183 := Tryz.sizeOf158
 v183 := Tryz.zeroValue158
 t218 := Tryz.underlying211
 a218 := Tryz.isAgg211
 z218 := Tryz.sizeOf211
 v218 := Tryz.zeroValue211
 t222 := Tryz.underlying215
 a222 := Tryz.isAgg215
 z222 := Tryz.sizeOf215
 v222 := Tryz.zeroValue215
 t228 := Tryz.underlying244
 a228 := Tryz.isAgg244
 z228 := Tryz.sizeOf244
 v228 := Tryz.zeroValue244
 t229 := Tryz.underlying245
 a229 := Tryz.isAgg245
 z229 := Tryz.sizeOf245
 v229 := Tryz.zeroValue245 }
def Tryz.lays171_ren : Go.Shelf.Ren := ⟨fun | 171 => 33 | 243 => 67 | 246 => 93 | 283 => 132 | 284 => 133 | 285 => 134 | 286 => 135 | 129 => 118 | 317 => 173 | 318 => 174 | 319 => 175 | 320 => 176 | 337 => 201 | 338 => 202 | n => n, fun | 3 => 3 | 9 => 9 | 2 => 2 | 4 => 4 | 171 => 189 | 0 => 0 | 53 => 93 | 37 => 191 | 5 => 5 | 173 => 192 | 212 => 230 | 51 => 165 | 20 => 20 | 213 => 231 | 46 => 128 | 232 => 268 | 233 => 269 | n => n, fun | 17 => 1 | 18 => 4 | 19 => 5 | n => n⟩
theorem Tryz.lays171 : Go.Proofs.Lays.n171 Tryz.prog Tryz.lays171_ren := {
 mixed := by kernel_rfl
 f129 := Tryz.func118.trans (congrArg some (by kernel_rfl))
 f171 := Tryz.func33.trans (congrArg some (by kernel_rfl))
 f243 := Tryz.func67.trans (congrArg some (by kernel_rfl))
 f246 := Tryz.func93.trans (congrArg some (by kernel_rfl))
 f283 := Tryz.func132.trans (congrArg some (by kernel_rfl))
 f284 := Tryz.func133.trans (congrArg some (by kernel_rfl))
 f285 := Tryz.func134.trans (congrArg some (by kernel_rfl))
 f286 := Tryz.func135.trans (congrArg some (by kernel_rfl))
 f317 := Tryz.func173.trans (congrArg some (by kernel_rfl))
 f318 := Tryz.func174.trans (congrArg some (by kernel_rfl))
 f319 := Tryz.func175.trans (congrArg some (by kernel_rfl))
 f320 := Tryz.func176.trans (congrArg some (by kernel_rfl))
 f337 := Tryz.func201.trans (congrArg some (by kernel_rfl))
 f338 := Tryz.func202.trans (congrArg some (by kernel_rfl))
 t0 := Tryz.underlying0
 a0 := Tryz.isAgg0
 z0 := Tryz.sizeOf0
 v0 := Tryz.zeroValue0
 t2 := Tryz.underlying2
 a2 := Tryz.isAgg2
 z2 := Tryz.sizeOf2
 v2 := Tryz.zeroValue2
 t3 := Tryz.underlying3
 a3 := Tryz.isAgg3
 z3 := Tryz.sizeOf3
 v3 := Tryz.zeroValue3
 t4 := Tryz.underlying4
 a4 := Tryz.isAgg4
 z4 := Tryz.sizeOf4
 v4 := Tryz.zeroValue4
 t5 := Tryz.underlying5
 a5 := Tryz.isAgg5
 z5 := Tryz.sizeOf5
 v5 := Tryz.zeroValue5
 t9 := Tryz.underlying9
 a9 := Tryz.isAgg9
 z9 := Tryz.sizeOf9
 v9 := Tryz.zeroValue9
 t20 := Tryz.underlying20
 a20 := Tryz.isAgg20
 z20 := Tryz.sizeOf20
 v20 := Tryz.zeroValue20
 t37 := Tryz.underlying191
 a37 := Tryz.isAgg191
 z37 := Tryz.sizeOf191
 v37 := Tryz.zeroValue191
 t46 := Tryz.underlying128
 a46 := Tryz.isAgg128
 z46 := Tryz.sizeOf128
 v46 := Tryz.zeroValue128
 t51 := Tryz.underlying165
 a51 := Tryz.isAgg165
 z51 := Tryz.sizeOf165
 v51 := Tryz.zeroValue165
 t53 := Tryz.underlying93
 a53 := Tryz.isAgg93
 z53 := Tryz.sizeOf93
 v53 := Tryz.zeroValue93
 t171 := Tryz.underlying189
 a171 := Tryz.isAgg189
 z171 := Tryz.sizeOf189
 v171 := Tryz.zeroValue189
 t173 := Tryz.underlying192
 a173 := Tryz.isAgg192
 z173 := Tryz.sizeOf192
 v173 := Tryz.zeroValue192
 t212 := Tryz.underlying230
 a212 := Tryz.isAgg230
 z212 := Tryz.sizeOf230
 v212 := Tryz.zeroValue230
 t213 := Tryz.underlying231
 a213 := Tryz.isAgg231
 z213 := Tryz.sizeOf231
 t232 := Tryz.underlying268
 a232 := Tryz.isAgg268
 z232 := Tryz.sizeOf268
 v232 := Tryz.zeroValue268
 t233 := Tryz.underlying269
 a233 := Tryz.isAgg269
 z233 := Tryz.sizeOf269
 v233 := Tryz.zeroValue269
 g17 := by kernel_rfl
 g18 := by kernel_rfl
 g19 := by kernel_rfl }
def Tryz.lays189_ren : Go.Shelf.Ren := ⟨fun | 189 => 72 | 125 => 84 | 257 => 103 | 128 => 117 | 129 => 118 | 294 => 141 | 295 => 142 | 296 => 143 | 297 => 144 | 298 => 145 | 299 => 146 | 216 => 147 | 300 => 148 | 301 => 149 | 328 => 180 | 329 => 162 | 330 => 163 | 331 => 181 | 332 => 182 | 215 => 105 | 343 => 206 | n => n, fun | 28 => 22 | 3 => 3 | 46 => 128 | 0 => 0 | 51 => 165 | 53 => 93 | 4 => 4 | 183 => 158 | 182 => 157 | 131 => 162 | 5 => 5 | 9 => 9 | 218 => 211 | 222 => 215 | 228 => 244 | 229 => 245 | n => n, fun | n => n⟩
theorem Tryz.lays189 : Go.Proofs.Lays.n189 Tryz.prog Tryz.lays189_ren := {
 mixed := by kernel_rfl
 f125 := Tryz.func84.trans (congrArg some (by kernel_rfl))
 f128 := Tryz.func117.trans (congrArg some (by kernel_rfl))
 f129 := Tryz.func118.trans (congrArg some (by kernel_rfl))
 f189 := Tryz.func72.trans (congrArg some (by kernel_rfl))
 f215 := Tryz.func105.trans (congrArg some (by kernel_rfl))
 f216 := Tryz.func147.trans (congrArg some (by kernel_rfl))
 f257 := Tryz.func103.trans (congrArg some (by kernel_rfl))
 f294 := Tryz.func141.trans (congrArg some (by kernel_rfl))
 f295 := Tryz.func142.trans (congrArg some (by kernel_rfl))
 f296 := Tryz.func143.trans (congrArg some (by kernel_rfl))
 f297 := Tryz.func144.trans (congrArg some (by kernel_rfl))
 f298 := Tryz.func145.trans (congrArg some (by kernel_rfl))
 f299 := Tryz.func146.trans (congrArg some (by kernel_rfl))
 f300 := Tryz.func148.trans (congrArg some (by kernel_rfl))
 f301 := Tryz.func149.trans (congrArg some (by kernel_rfl))
 f328 := Tryz.func180.trans (congrArg some (by kernel_rfl))
 f329 := Tryz.func162.trans (congrArg some (by kernel_rfl))
 f330 := Tryz.func163.trans (congrArg some (by kernel_rfl))
 f331 := Tryz.func181.trans (congrArg some (by kernel_rfl))
 f332 := Tryz.func182.trans (congrArg some (by kernel_rfl))
 f343 := Tryz.func206.trans (congrArg some (by kernel_rfl))
 t0 := Tryz.underlying0
 a0 := Tryz.isAgg0
 z0 := Tryz.sizeOf0
 v0 := Tryz.zeroValue0
 t3 := Tryz.underlying3
 a3 := Tryz.isAgg3
 z3 := Tryz.sizeOf3
 v3 := Tryz.zeroValue3
 t4 := Tryz.underlying4
 a4 := Tryz.isAgg4
 z4 := Tryz.sizeOf4
 v4 := Tryz.zeroValue4
 t5 := Tryz.underlying5
 a5 := Tryz.isAgg5
 z5 := Tryz.sizeOf5
 v5 := Tryz.zeroValue5
 t9 := Tryz.underlying9
 a9 := Tryz.isAgg9
 z9 := Tryz.sizeOf9
 v9 := Tryz.zeroValue9
 t28 := Tryz.underlying22
 a28 := Tryz.isAgg22
 z28 := Tryz.sizeOf22
 v28 := Tryz.zeroValue22
 t46 := Tryz.underlying128
 a46 := Tryz.isAgg128
 z46 := Tryz.sizeOf128
 v46 := Tryz.zeroValue128
 t51 := Tryz.underlying165
 a51 := Tryz.isAgg165
 z51 := Tryz.sizeOf165
 v51 := Tryz.zeroValue165
 t53 := Tryz.underlying93
 a53 := Tryz.isAgg93
 z53 := Tryz.sizeOf93
 v53 := Tryz.zeroValue93
 t131 := Tryz.underlying162
 a131 := Tryz.isAgg162
 z131 := Tryz.sizeOf162
 v131 := Tryz.zeroValue162
 t182 := Tryz.underlying157
 a182 := Tryz.isAgg157
 z182 := Tryz.sizeOf157
 v182 := Tryz.zeroValue157
 t183 := Tryz.underlying158
 a183 := Tryz.isAgg158
 z183 := Tryz.sizeOf158
 v183 := Tryz.zeroValue158
 t218 := Tryz.underlying211
 a218 := Tryz.isAgg211
 z218 := Tryz.sizeOf211
 v218 := Tryz.zeroValue211
 t222 := Tryz.underlying215
 a222 := Tryz.isAgg215
 z222 := Tryz.sizeOf215
 v222 := Tryz.zeroValue215
 t228 := Tryz.underlying244
 a228 := Tryz.isAgg244
 z228 := Tryz.sizeOf244
 v228 := Tryz.zeroValue244
 t229 := Tryz.underlying245
 a229 := Tryz.isAgg245
 z229 := Tryz.sizeOf245
 v229 := Tryz.zeroValue245 }
end Go.Proofs
end
section
namespace Go.Proofs
open Go.Shelf
def Tryz.g43_ren : Go.Shelf.Ren := ⟨fun | 7 => 43 | 10 => 73 | n => n, fun | 23 => 68 | 26 => 3 | 3 => 3 | 28 => 74 | 0 => 0 | 27 => 73 | 33 => 29 | 4 => 4 | n => n, fun | n => n⟩
theorem Tryz.g43 : Go.Proofs.SlLaysZI.n7 Tryz.prog Tryz.g43_ren := {
 mixed := by kernel_rfl
 f7 := ⟨Tryz.f43.name, by decide, Tryz.func43.trans (congrArg some (by kernel_rfl))⟩
 f10 := ⟨Tryz.f73.name, by decide, Tryz.func73.trans (congrArg some (by kernel_rfl))⟩
 t0 := Tryz.underlying0
 a0 := Tryz.isAgg0
 z0 := Tryz.sizeOf0
 v0 := Tryz.zeroValue0
 t4 := Tryz.underlying4
 a4 := Tryz.isAgg4
 z4 := Tryz.sizeOf4
 v4 := Tryz.zeroValue4
 t23 := Tryz.underlying68
 a23 := Tryz.isAgg68
 z23 := Tryz.sizeOf68
 v23 := Tryz.zeroValue68
 t26 := Tryz.underlying3
 a26 := Tryz.isAgg3
 z26 := Tryz.sizeOf3
 v26 := Tryz.zeroValue3
 t27 := Tryz.underlying73
 a27 := Tryz.isAgg73
 z27 := Tryz.sizeOf73
 v27 := Tryz.zeroValue73
 t28 := Tryz.underlying74
 a28 := Tryz.isAgg74
 z28 := Tryz.sizeOf74
 v28 := Tryz.zeroValue74
 t33 := Tryz.underlying29
 a33 := Tryz.isAgg29
 z33 := Tryz.sizeOf29
 v33 := Tryz.zeroValue29 }
def Tryz.g42_ren : Go.Shelf.Ren := ⟨fun | 6 => 42 | 8 => 71 | 9 => 72 | 11 => 102 | 13 => 84 | 12 => 103 | 23 => 117 | 24 => 118 | 14 => 141 | 15 => 142 | 16 => 143 | 17 => 144 | 18 => 145 | 19 => 146 | 20 => 147 | 21 => 148 | 22 => 149 | 25 => 180 | 26 => 162 | 27 => 163 | 28 => 181 | 29 => 182 | 30 => 105 | 31 => 206 | n => n, fun | 26 => 3 | 28 => 74 | 24 => 22 | 0 => 0 | 3 => 3 | 37 => 128 | 48 => 165 | 50 => 93 | 4 => 4 | 40 => 158 | 39 => 157 | 45 => 162 | 5 => 5 | 9 => 9 | 51 => 211 | 55 => 215 | 57 => 244 | 58 => 245 | 33 => 29 | n => n, fun | n => n⟩
theorem Tryz.g42 : Go.Proofs.SlLaysZI.n6 Tryz.prog Tryz.g42_ren := {
 mixed := by kernel_rfl
 f6 := ⟨Tryz.f42.name, by decide, Tryz.func42.trans (congrArg some (by kernel_rfl))⟩
 f8 := ⟨Tryz.f71.name, by decide, Tryz.func71.trans (congrArg some (by kernel_rfl))⟩
 f11 := ⟨Tryz.f102.name, by decide, Tryz.func102.trans (congrArg some (by kernel_rfl))⟩
 t0 := Tryz.underlying0
 a0 := Tryz.isAgg0
 z0 := Tryz.sizeOf0
 v0 := Tryz.zeroValue0
 t24 := Tryz.underlying22
 a24 := Tryz.isAgg22
 z24 := Tryz.sizeOf22
 v24 := Tryz.zeroValue22
 t26 := Tryz.underlying3
 a26 := Tryz.isAgg3
 z26 := Tryz.sizeOf3
 v26 := Tryz.zeroValue3
 t28 := Tryz.underlying74
 a28 := Tryz.isAgg74
 z28 := Tryz.sizeOf74
 v28 := Tryz.zeroValue74
 i26 := by kernel_rfl }
def Tryz.g74_ren : Go.Shelf.Ren := ⟨fun | 6 => 74 | 15 => 84 | 14 => 104 | 28 => 117 | 29 => 118 | 20 => 150 | 21 => 151 | 22 => 152 | 23 => 153 | 24 => 154 | 25 => 155 | 26 => 156 | 27 => 157 | 46 => 183 | 47 => 162 | 48 => 163 | 49 => 184 | 50 => 185 | 57 => 207 | n => n, fun | 22 => 37 | 24 => 44 | 25 => 122 | 3 => 3 | 39 => 128 | 0 => 0 | 53 => 165 | 55 => 93 | 4 => 4 | 46 => 158 | 45 => 157 | 50 => 162 | 5 => 5 | 9 => 9 | 66 => 211 | 70 => 215 | 76 => 244 | 77 => 245 | n => n, fun | n => n⟩
theorem Tryz.g74 : Go.Proofs.SlLaysF0.n6 Tryz.prog Tryz.g74_ren := {
 mixed := by kernel_rfl
 f6 := ⟨Tryz.f74.name, by decide, Tryz.func74.trans (congrArg some (by kernel_rfl))⟩
 f14 := ⟨Tryz.f104.name, by decide, Tryz.func104.trans (congrArg some (by kernel_rfl))⟩
 f15 := Tryz.func84.trans (congrArg some (by kernel_rfl))
 f20 := ⟨Tryz.f150.name, by decide, Tryz.func150.trans (congrArg some (by kernel_rfl))⟩
 f21 := ⟨Tryz.f151.name, by decide, Tryz.func151.trans (congrArg some (by kernel_rfl))⟩
 f22 := ⟨Tryz.f152.name, by decide, Tryz.func152.trans (congrArg some (by kernel_rfl))⟩
 f23 := ⟨Tryz.f153.name, by decide, Tryz.func153.trans (congrArg some (by kernel_rfl))⟩
 f24 := ⟨Tryz.f154.name, by decide, Tryz.func154.trans (congrArg some (by kernel_rfl))⟩
 f25 := ⟨Tryz.f155.name, by decide, Tryz.func155.trans (congrArg some (by kernel_rfl))⟩
 f26 := ⟨Tryz.f156.name, by decide, Tryz.func156.trans (congrArg some (by kernel_rfl))⟩
 f27 := ⟨Tryz.f157.name, by decide, Tryz.func157.trans (congrArg some (by kernel_rfl))⟩
 f28 := Tryz.func117.trans (congrArg some (by kernel_rfl))
 f29 := Tryz.func118.trans (congrArg some (by kernel_rfl))
 f46 := ⟨Tryz.f183.name, by decide, Tryz.func183.trans (congrArg some (by kernel_rfl))⟩
 f47 := Tryz.func162.trans (congrArg some (by kernel_rfl))
 f48 := Tryz.func163.trans (congrArg some (by kernel_rfl))
 f49 := ⟨Tryz.f184.name, by decide, Tryz.func184.trans (congrArg some (by kernel_rfl))⟩
 f50 := ⟨Tryz.f185.name, by decide, Tryz.func185.trans (congrArg some (by kernel_rfl))⟩
 f57 := ⟨Tryz.f207.name, by decide, Tryz.func207.trans (congrArg some (by kernel_rfl))⟩
 t0 := Tryz.underlying0
 a0 := Tryz.isAgg0
 z0 := Tryz.sizeOf0
 v0 := Tryz.zeroValue0
 t3 := Tryz.underlying3
 a3 := Tryz.isAgg3
 z3 := Tryz.sizeOf3
 v3 := Tryz.zeroValue3
 t4 := Tryz.underlying4
 a4 := Tryz.isAgg4
 z4 := Tryz.sizeOf4
 v4 := Tryz.zeroValue4
 t5 := Tryz.underlying5
 a5 := Tryz.isAgg5
 z5 := Tryz.sizeOf5
 v5 := Tryz.zeroValue5
 t9 := Tryz.underlying9
 a9 := Tryz.isAgg9
 z9 := Tryz.sizeOf9
 v9 := Tryz.zeroValue9
 t22 := Tryz.underlying37
 a22 := Tryz.isAgg37
 z22 := Tryz.sizeOf37
 v22 := Tryz.zeroValue37
 t25 := Tryz.underlying122
 a25 := Tryz.isAgg122
 z25 := Tryz.sizeOf122
 v25 := Tryz.zeroValue122
 t39 := Tryz.underlying128
 a39 := Tryz.isAgg128
 z39 := Tryz.sizeOf128
 v39 := Tryz.zeroValue128
 t45 := Tryz.underlying157
 a45 := Tryz.isAgg157
 z45 := Tryz.sizeOf157
 v45 := Tryz.zeroValue157
 t46 := Tryz.underlying158
 a46 := Tryz.isAgg158
 z46 := Tryz.sizeOf158
 v46 := Tryz.zeroValue158
 t50 := Tryz.underlying162
 a50 := Tryz.isAgg162
 z50 := Tryz.sizeOf162
 v50 := Tryz.zeroValue162
 t53 := Tryz.underlying165
 a53 := Tryz.isAgg165
 z53 := Tryz.sizeOf165
 v53 := Tryz.zeroValue165
 t55 := Tryz.underlying93
 a55 := Tryz.isAgg93
 z55 := Tryz.sizeOf93
 v55 := Tryz.zeroValue93
 t66 := Tryz.underlying211
 a66 := Tryz.isAgg211
 z66 := Tryz.sizeOf211
 v66 := Tryz.zeroValue211
 t70 := Tryz.underlying215
 a70 := Tryz.isAgg215
 z70 := Tryz.sizeOf215
 v70 := Tryz.zeroValue215
 t76 := Tryz.underlying244
 a76 := Tryz.isAgg244
 z76 := Tryz.sizeOf244
 v76 := Tryz.zeroValue244
 t77 := Tryz.underlying245
 a77 := Tryz.isAgg245
 z77 := Tryz.sizeOf245
 v77 := Tryz.zeroValue245 }
end Go.Proofs
end
section
namespace Go.HL
open Go.Proofs Go.RowKit Go.Maps Go.Sort Go.Shelf
section
variable {P : Program}
def anyR (H : Type) : Value → Option (DataW H × List MemPlace) := fun _ => some (.nil, [])
theorem nodup_born {es : Array MapEntry} {clk : Nat} (h : BornOk es clk) : (es.toList.map (·.born)).Nodup := by
 refine List.pairwise_iff_getElem.2 fun i j hi hj hij e => ?_
 rw [List.getElem_map, List.getElem_map] at e
 rw [List.length_map, Array.length_toList] at hi hj
 have := h.2 i j es[i] es[j] (Array.getElem?_eq_getElem hi) (Array.getElem?_eq_getElem hj) (by simpa using e)
 omega
end
end Go.HL
end
section
namespace Go.HL
open Go.Proofs Go.RowKit Go.Maps Go.Sort Go.Shelf
section
variable {P : Program}
theorem map_keysI {I : Imm} {w : World} {b : Nat} {α : Type} {f : α → HVal} {L : List (Int × α)} (hm : MSat I w (.map b (kk (HVal.int .i64) (em f L)))) :
 ∃ es clk, w.heap[b]? = some (.map es clk) ∧ BornOk es clk ∧ es.size = L.length ∧ es.toList.map (·.key) = L.map fun p => encZ p.1 := by
 obtain ⟨es, clk, h1, ⟨h2, h4⟩, h3⟩ := hm
 have hl : es.size = L.length := by rw [h2]; simp [kk]
 refine ⟨es, clk, h1, h4, hl, List.ext_getElem? fun i => ?_⟩
 rw [List.getElem?_map, List.getElem?_map]
 rcases Nat.lt_or_ge i L.length with h | h
 ·have a1 : L[i]? = some L[i] := List.getElem?_eq_getElem h
  have a2 : es[i]? = some es[i] := Array.getElem?_eq_getElem (by omega)
  have a3 : (kk (HVal.int .i64) (em f L))[i]? = some (.int .i64 L[i].1, f L[i].2) := by simp [kk, a1]
  have a4 := (h3 i _ _ a3 a2).1.int_inv
  rw [a1, Array.getElem?_toList, a2]
  simp only [Option.map_some, Option.some.injEq]
  rw [a4]
  try rfl
 ·rw [List.getElem?_eq_none h, List.getElem?_eq_none (by rw [Array.length_toList]; omega)]; rfl
theorem owns_of_mapI {I : Imm} {w : World} {b : Nat} {α : Type} {f : α → HVal} {L : List (Int × α)} {k : TypeId} (hk : P.underlying k = some (.int .i64)) (hm : MSat I w (.map b (kk (HVal.int .i64) (em f L)))) (hn : ANodup L)
 (hl : ∀ p ∈ L, (-4611686018427387904 ≤ p.1 ∧ p.1 ≤ 4611686018427387904)) (hs : L.length ≤ 1000000) : ∃ D : DataW Unit, w.ownsMap P k (anyR Unit) b L.length D ∧ (intKeys D).Perm (L.map (·.1)) ∧ Maps.size D = L.length := by
 obtain ⟨es, clk, h1, h2, h3, h4⟩ := map_keysI hm
 have hx : ∀ x ∈ es.toList, ∃ p ∈ L, x.key = encZ p.1 := fun x hx => by
  have := List.mem_map_of_mem (f := (·.key)) hx
  rw [h4] at this
  obtain ⟨p, hp, e⟩ := List.mem_map.1 this
  exact ⟨p, hp, e.symm⟩
 have hrd : ∀ x ∈ es.toList, ∀ p ∈ L, x.key = encZ p.1 → WideElems.rd P k (anyR Unit) x = some (.int .i64 p.1, .nil) := fun x _ p hp e => by
  have := hl p hp
  have hw : (Lit.int .i64 p.1).wf = true := by
   show (decide (IntKind.i64.min ≤ p.1) && decide (p.1 ≤ IntKind.i64.max)) = true
   rw [Bool.and_eq_true, decide_eq_true_eq, decide_eq_true_eq]
   have h1 : IntKind.i64.min = -9223372036854775808 := rfl
   have h2 : IntKind.i64.max = 9223372036854775807 := rfl
   omega
  have := keyOf_int_mk (P := P) (k := k) hk (a := p.1) hw
  simp [WideElems.rd, e, anyR, this]
 have hkeys : es.toList.map (fun x => intOf (WideElems.rg P k (anyR Unit) x).1) = L.map (·.1) := by
  have e2 : es.toList.map (fun x => intOf (WideElems.rg P k (anyR Unit) x).1) = (es.toList.map (·.key)).map fun v => match v with | .int _ z => z | _ => 0 := by
   rw [List.map_map]
   refine List.map_congr_left fun x hx' => ?_
   obtain ⟨p, hp, e⟩ := hx x hx'
   rw [WideElems.rg_of (hrd x hx' p hp e)]
   simp [e, encZ, intOf]
  rw [e2, h4, List.map_map]
  refine List.map_congr_left fun p _ => ?_
  simp [encZ]
 have hml : maxLen = 9223372036854775807 := by rfl
 refine ⟨_, ⟨es, clk, h1, ⟨by omega, ⟨fun x hx' => ?_, nodup_born h2, ?_⟩, fun x hx' => ?_⟩, by omega, rfl⟩, ?_, ?_⟩
 ·obtain ⟨i, hi⟩ := List.getElem?_of_mem hx'
  exact h2.1 i x (by simpa using hi)
 ·rw [h4]
  have : (L.map fun p => encZ p.1) = (L.map (·.1)).map encZ := by rw [List.map_map]; rfl
  rw [this]
  exact List.Pairwise.map encZ (fun a b hab e => hab (encZ_inj e)) hn
 ·obtain ⟨p, hp, e⟩ := hx x hx'
  exact ⟨_, hrd x hx' p hp e⟩
 ·show ((List.foldr DataW.insert [] _).map fun p => intOf p.1).Perm _
  rw [← hkeys]
  have := (WideShapes.sorted_perm (es.toList.map (WideElems.rg P k (anyR Unit)))).map fun p => intOf p.1
  rw [List.map_map] at this
  exact this
 ·show (List.foldr DataW.insert [] _).length = _
  rw [(WideShapes.sorted_perm _).length_eq, List.length_map, Array.length_toList, h3]
theorem con_keysI [Tracks] {ρ : Ren} (L : SlLaysZI.n7 P ρ) {b : Nat} : Con P (ρ.f 7) [.raw (.map (some b))] [] fun x M' => ∃ bx, x = .fn (.func (ρ.f 10)) [] [.raw (.pointer (some ⟨bx, 0, none⟩))] ∧ M' = [.cells bx [.raw (.map (some b))]] := by
 intro I F w args ha hs
 obtain ⟨u, rfl, hu⟩ := ha.one
 obtain rfl := hu.raw_inv
 refine ((callsIn_wide (n := 1)).1 (AnyZI.keys_in L Fence.wide 1 trivial rfl (some b) w)).mono ?_
 rintro _ w' ⟨rfl, rfl⟩
 refine ⟨_, _, _, I, rfl, .refl I, ⟨w.heap.size, rfl, rfl⟩, .fn rfl rfl (fun j c v h _ => by simp at h) (fun j c v h1 h2 => ?_), ?_⟩
 ·exact (VL.cons (.raw _ rfl) VL.nil : VL I [.raw (.pointer (some ⟨w.heap.size, 0, none⟩))] [.pointer (some ⟨w.heap.size, 0, none⟩)]).2 j c v h1 (by simpa using h2)
 ·exact hs.new_own _ _ rfl ⟨#[.map (some b)], ρ.t 23, (0, 0), by simp, Free.zero _, VL.cons (.raw _ rfl) VL.nil⟩
theorem con_sortedI [Tracks] (hT : Tracks.on = false) {ρ ρk : Ren} (L : SlLaysZI.n6 P ρ) (Lk : SlLaysZI.n7 P ρk) (hsort : ∀ m, AnyZI.SortsIn P ρ Fence.wide m)
 (e9 : ∀ args w, (callFunc (ρ.f 9) args).run P w = .ok (.enter (ρ.f 9) args) w) (eg : ∀ args w, (callFunc (ρk.f 10) args).run P w = .ok (.enter (ρk.f 10) args) w)
 {α : Type} {f : α → HVal} {l : List (Int × α)} (hn : ANodup l) (hl : ∀ p ∈ l, (-4611686018427387904 ≤ p.1 ∧ p.1 ≤ 4611686018427387904)) (hs : l.length ≤ 1000000) {b bx : Nat} :
 Con P (ρ.f 6) [.fn (.func (ρk.f 10)) [] [.raw (.pointer (some ⟨bx, 0, none⟩))]] [.cells bx [.raw (.map (some b))], .map b (kk (HVal.int .i64) (em f l))] fun x M' => ∃ v, x = .raw v ∧ M' = [.arr v 1 ((sortI (l.map (·.1))).map (.int .i64)), .map b (kk (HVal.int .i64) (em f l))] := by
 intro I F w args ha hsat
 obtain ⟨u, rfl, hu⟩ := ha.one
 obtain ⟨v1, v2, rfl, hv1, hv2, hc⟩ : ∃ v1 v2, u = .func (.func (ρk.f 10)) v1 v2 ∧ v1 = #[] ∧ v2.size = 1 ∧ ∀ (j : Nat) (c : HVal) (v : Value), [HVal.raw (.pointer (some ⟨bx, 0, none⟩))][j]? = some c → v2[j]? = some v → V I c v := by
  cases hu with
  | fn h1 h2 h3 h4 => exact ⟨_, _, rfl, Array.eq_empty_of_size_eq_zero (by simpa using h1), by simpa using h2, h4⟩
 subst hv1
 obtain rfl : v2 = #[.pointer (some ⟨bx, 0, none⟩)] := by
  match v2, hv2 with
  | ⟨[y]⟩, _ => have := (hc 0 _ y rfl rfl).raw_inv; rw [this]
 obtain ⟨rc, el, fr, c1, c2, c3⟩ := hsat.obj (.cells bx [.raw (.map (some b))]) (by simp)
 have hmap := hsat.obj (.map b (kk (HVal.int .i64) (em f l))) (by simp)
 obtain ⟨D, d1, d2, d3⟩ := owns_of_mapI (k := ρk.t 26) (by exact Lk.t26) hmap hn hl hs
 have hbx : bx < w.heap.size := (Array.getElem?_eq_some_iff.1 c1).1
 have hcell : w.cell? ⟨bx, 0, none⟩ = some (.map (some b)) := by
  have := c3.1
  match rc, this, c1, c3 with
  | ⟨[y]⟩, _, c1, c3 =>
    have hy := c3.head.raw_inv
    subst hy
    simp [World.cell?, c1]
 have hseq := AnyZI.keys_gives (ρ := ρk) { Lk with } Fence.wide 2 trivial rfl (by omega) bx b l.length D w hbx hcell d1
 have cS := AnyZI.sorted_in L Fence.wide 5 trivial trivial trivial trivial rfl (by omega) (hsort _) e9 (ρk.f 10) #[.pointer (some ⟨bx, 0, none⟩)] trivial eg _ _ (by rw [d3]; exact Nat.le_trans hs (by decide)) (by rw [d3]; omega) w hseq
 refine ((callsIn_wide (n := 5)).1 cS).mono ?_
 rintro e w' ⟨v, ss, rfl, hS, hrow, hnil, hb⟩
 have hss : (ss.mergeSort fun x y => decide (x ≤ y)) = sortI (l.map (·.1)) := mergeSort_of_perm_i (hS.trans d2)
 rw [hss] at hrow
 have hlen : ss.length = (sortI (l.map (·.1))).length := by rw [sortI_len, (hS.trans d2).length_eq]
 have hmem : MSat I w' (.arr v 1 ((sortI (l.map (·.1))).map (.int .i64))) := by
  rcases hrow.2 with ⟨rfl, hz⟩ | ⟨gb, cap, cur, rfl, hbase, hgb, r1, r2, r3, r4⟩
  ·refine .inl ⟨rfl, ?_⟩
   have : sortI (l.map (·.1)) = [] := List.length_eq_zero_iff.1 (by omega)
   rw [this]; rfl
  ·refine .inr ⟨gb, 0, cap, cur, _, _, by rw [List.length_map, ← hlen], hgb, Free.zero _, fun e he => ?_, ⟨by rw [List.length_map]; omega, Nat.le_trans r2 (by decide)⟩, by omega, fun i j e c y h1 h2 h3 => ?_⟩
   ·obtain ⟨s, _, rfl⟩ := List.mem_map.1 he; rfl
   ·rw [List.getElem?_map] at h1
    cases hq : (sortI (l.map (·.1)))[i]? with
    | none => rw [hq] at h1; cases h1
    | some s =>
      rw [hq] at h1
      simp only [Option.map_some, Option.some.injEq] at h1
      subst h1
      have hj : j = 0 := by
       cases j with
       | zero => rfl
       | succ j => simp [hcells] at h2
      subst hj
      simp only [hcells, List.getElem?_cons_zero, Option.some.injEq] at h2
      subst h2
      have hi := lt_of_get hq
      have h4 : (cur.toList.take (ss.length * 1))[i]? = some (encZ s) := by rw [r4, List.getElem?_map, hq]; rfl
      rw [List.getElem?_take_of_lt (by omega), Array.getElem?_toList] at h4
      have e0 : 0 + i * 1 + 0 = i := by omega
      rw [e0, h4] at h3
      cases h3
      exact .int _ s
 have hown : ∀ k, v.ownBlock = some k → w.heap.size ≤ k ∧ k < w'.heap.size := hrow.lt
 refine ⟨v, .raw v, _, I, rfl, .refl I, ⟨v, rfl, rfl⟩, ?_, ?_⟩
 ·rcases hrow.2 with ⟨rfl, _⟩ | ⟨gb, cap, cur, rfl, _⟩
  ·exact .raw _ rfl
  ·exact .raw _ rfl
 ·refine hsat.change (m' := .arr v 1 _) (fun k hk _ => hb.block k hk) (fun k hk => .inr ?_) ?_ hmem hb.os hb.output hb.tape (fun ht => by rw [hT] at ht; cases ht)
  ·rcases hrow.2 with ⟨rfl, _⟩ | ⟨gb, cap, cur, rfl, hbase, _⟩
   ·simp [MObj.blocks] at hk
   ·simp [MObj.blocks] at hk; omega
  ·rcases hrow.2 with ⟨rfl, _⟩ | ⟨gb, cap, cur, rfl, hbase, _⟩ <;> simp [MObj.blocks]
end
end Go.HL
end
section
namespace Go.HL
variable {P : Program}
open Go.Sort Go.Proofs Go.Shelf Go.RowKit
theorem grown_of_sat [Tracks] {w w' : World} {J : Imm} {M : List MObj} (hT : Tracks.on = true) (hl : Le (allI w) J) (hs : Sat P J M w') : ∃ q os, w' = grow (w.drewN q) os := by
 have hb := below_of_sat hl hs
 have hd : w.drawn ≤ w'.drawn := Nat.le_trans (hl.low hT) (hs.low hT)
 refine ⟨w'.drawn - w.drawn, w'.heap.extract w.heap.size w'.heap.size, ?_⟩
 have hh : w'.heap = w.heap ++ w'.heap.extract w.heap.size w'.heap.size := by
  apply Array.ext_getElem?
  intro i
  by_cases hi : i < w.heap.size
  ·rw [Array.getElem?_append_left hi]; exact hb.block i hi
  ·rw [Array.getElem?_append_right (by omega), Array.getElem?_extract]
   have := hb.size
   split
   ·congr 1; omega
   ·rw [Array.getElem?_eq_none (by omega)]
 have h1 := hb.os
 have h2 := hb.tape
 have h3 := hb.output
 obtain ⟨a1, a2, a3, a4, a5⟩ := w'
 obtain ⟨b1, b2, b3, b4, b5⟩ := w
 simp only at h1 h2 h3 hd hh
 subst h1 h2 h3
 simp only [grow, World.drewN, World.mk.injEq]
 exact ⟨hh, trivial, by omega, trivial, trivial⟩
theorem ConP.calls [Tracks] {f : FuncId} {hargs : List HVal} {h : HVal} (hT : Tracks.on = true) (hc : ConP P f hargs h) {w : World} (ht : TabI P (allI w)) {args : List Value} (ha : VL (allI w) hargs args) :
 Calls P f args.toArray w fun e w' => ∃ v, e = .returned v ∧ V (allI w') h v ∧ ∃ q os, w' = grow (w.drewN q) os := by
 refine (hc (allI w) [] w args ha (sat_now ht)).mono ?_
 rintro e w' ⟨v, x, M', J, rfl, hle, ⟨rfl, rfl⟩, hV, hs⟩
 exact ⟨v, rfl, hV.mono hs.le_all, grown_of_sat hT hle hs⟩
@[reducible] def trackOn : Tracks := ⟨true⟩
/-- A row of cells that reads as an element. -/
abbrev RowT {A : Type} (I : Imm) (e : A → HVal) (k : Nat) : Type := { p : A × List Value // p.2.length = k ∧ (∀ v ∈ p.2, v.oneCell' = true) ∧ VL I (hcells (e p.1)) p.2 }
theorem rows_ex [Tracks] {A : Type} {I : Imm} {e : A → HVal} {k : Nat} (hk : ∀ x, (hcells (e x)).length = k) (hf : ∀ x, flat (hcells (e x)) = true) {rc : Array Value} : ∀ (l : List A) (off : Nat), off + l.length * k ≤ rc.size →
 (∀ (i j : Nat) (x : A) (c : HVal) (v : Value), l[i]? = some x → (hcells (e x))[j]? = some c → rc[off + i * k + j]? = some v → V I c v) →
 ∃ d : List (RowT I e k), d.map (·.1.1) = l ∧ ∀ (i j : Nat) (p : RowT I e k), d[i]? = some p → j < k → rc[off + i * k + j]? = p.1.2[j]?
 | [], off, _, _ => ⟨[], rfl, fun i j p h => by simp at h⟩
 | x :: l, off, hb, hV => by
   have hb' : off + k + l.length * k ≤ rc.size := by simp [Nat.add_mul] at hb; omega
   obtain ⟨d, h1, h2⟩ := rows_ex hk hf l (off + k) hb' fun i j y c v a1 a2 a3 => hV (i + 1) j y c v (by simpa using a1) a2 (by rw [Nat.add_mul, Nat.one_mul]; rw [show off + (i * k + k) + j = off + k + i * k + j by omega]; exact a3)
   have hlen : (rc.extract off (off + k)).toList.length = k := by simp; omega
   have hg : ∀ j, j < k → (rc.extract off (off + k)).toList[j]? = rc[off + j]? := fun j hj => by
    rw [Array.getElem?_toList, Array.getElem?_extract, if_pos (by omega)]
   have hvl : VL I (hcells (e x)) (rc.extract off (off + k)).toList := ⟨by rw [hlen, hk], fun j c v a1 a2 => by
    have hj : j < k := by have := lt_of_get a1; rw [hk] at this; exact this
    rw [hg j hj] at a2
    exact hV 0 j x c v rfl a1 (by simpa using a2)⟩
   refine ⟨⟨(x, (rc.extract off (off + k)).toList), hlen, flat_one hvl (hf x), hvl⟩ :: d, by simp [h1], fun i j p hp hj => ?_⟩
   cases i with
   | zero =>
     simp only [List.getElem?_cons_zero, Option.some.injEq] at hp
     subst hp
     simp only [Nat.zero_mul, Nat.add_zero]
     exact (hg j hj).symm
   | succ i =>
     simp only [List.getElem?_cons_succ] at hp
     rw [← h2 i j p hp hj, Nat.add_mul, Nat.one_mul]
     congr 1; omega
section
variable {A : Type} {e : A → HVal} {k : Nat}
theorem sortW_get {α : Type} [Inhabited α] {enc : α → List Value} {w : World} {b off m : Nat} {dk : Array α} {os : Array Obj} {c : Nat} (hc : c < w.heap.size) (hb : c ≠ b) : (sortWorldK enc k w b off m dk os).heap[c]? = w.heap[c]? := by
 simp only [sortWorldK, grow, putRowK, putRow, mapBlock, Sort.ahead]
 rw [Array.getElem?_append_left (by simpa using hc), Array.getElem?_modify, if_neg (Ne.symm hb)]
theorem sortW_blk {α : Type} [Inhabited α] {enc : α → List Value} {w : World} {b off m : Nat} {dk : Array α} {os : Array Obj} {rc : Array Value} {el : TypeId} {fr : Nat × Nat} (hb : w.heap[b]? = some (.cells rc el fr)) :
 (sortWorldK enc k w b off m dk os).heap[b]? = some (.cells (putCells id off (flatK enc k dk) rc) el fr) := by
 have hlt : b < w.heap.size := lt_of_get' hb
 simp only [sortWorldK, grow, putRowK, putRow, mapBlock, Sort.ahead]
 rw [Array.getElem?_append_left (by simpa using hlt), Array.getElem?_modify, if_pos rfl, hb]
 rfl
where
 lt_of_get' {α : Type} {a : Array α} {i : Nat} {x : α} (h : a[i]? = some x) : i < a.size := by
  rcases Nat.lt_or_ge i a.size with h' | h'
  ·exact h'
  ·simp [Array.getElem?_eq_none h'] at h
theorem flatK_get {α : Type} [Inhabited α] {enc : α → List Value} (hk : ∀ x, (enc x).length = k) {dk : Array α} {i j : Nat} {x : α} (hx : dk[i]? = some x) (hj : j < k) : some ((flatK enc k dk)[i * k + j]!) = (enc x)[j]? := by
 have hi : i < dk.size := by
  rcases Nat.lt_or_ge i dk.size with h' | h'
  ·exact h'
  ·simp [Array.getElem?_eq_none h'] at hx
 have hle : (i + 1) * k ≤ dk.size * k := Nat.mul_le_mul_right _ hi
 rw [Nat.add_mul, Nat.one_mul] at hle
 rw [get_flatK enc k dk _ (by omega)]
 have e1 : (i * k + j) / k = i := by rw [Nat.mul_comm, Nat.mul_add_div (by omega), Nat.div_eq_of_lt hj]; rfl
 have e2 : (i * k + j) % k = j := by rw [Nat.mul_comm, Nat.mul_add_mod, Nat.mod_eq_of_lt hj]
 rw [e1, e2]
 have e3 : dk[i]! = x := by rw [getElem!_pos dk i hi]; rw [Array.getElem?_eq_getElem hi] at hx; exact Option.some.inj hx
 rw [e3]
 have hjl : j < (enc x).length := by rw [hk]; exact hj
 rw [List.getElem?_eq_getElem hjl, getElem!_pos (enc x) j hjl]
set_option maxHeartbeats 1000000 in
/-- slices.SortFunc: a permutation that is sorted. -/
theorem con_sortf [Tracks] {ρ : Ren} (L : SlLaysF0.n6 P ρ) (aE : ∀ w, (isAgg (ρ.t 24)).run P w = .ok true w) (zE : ∀ w, (Go.sizeOf (ρ.t 24)).run P w = .ok k w) (hk : ∀ x, (hcells (e x)).length = k) (ha : ∀ x, e x = .agg (hcells (e x))) (hf : ∀ x, flat (hcells (e x)) = true)
 {c : A → A → Int} (hO : SWO (ltOf c)) {g : FuncId} (hg : Callable P g) {cap : List HVal} (hc : ∀ x y, @ConP trackOn P g (e x :: e y :: cap) (.int .i64 (c x y))) {l : List A} (hl : l.length ≤ 1000000) {v : Value} :
 Con P (ρ.f 6) [.raw v, .fn (.func g) [] cap] [.arr v k (l.map e)] fun x M' => ∃ l' : List A, x = .tup [] ∧ l'.Perm l ∧ l'.Pairwise (fun a b => ¬ c b a < 0) ∧ M' = [.arr v k (l'.map e)] := by
 intro I F w args hargs hs
 obtain ⟨n1, n2⟩ := hargs
 match args, n1, n2 with
 | [u, fv], _, n2 =>
   obtain rfl : u = v := (n2 0 _ _ rfl rfl).raw_inv
   obtain ⟨f1, cb, rfl, f2, f3⟩ := (n2 1 _ _ rfl rfl).fn_inv
   have hf1 : f1 = #[] := by have := f2.1; simp at this; exact this
   subst hf1
   by_cases h0 : l = []
   ·subst h0
    have hu : ∃ p cp, u = .slice p 0 cp := by
     rcases hs.obj (.arr u k (([] : List A).map e)) (by simp) with ⟨rfl, _⟩ | ⟨b, off, cp, rc, el, fr, rfl, _⟩
     ·exact ⟨_, _, rfl⟩
     ·exact ⟨_, _, rfl⟩
    obtain ⟨p, cp, rfl⟩ := hu
    refine (AnyF.slices_SortFunc_none L p cp _ w).mono ?_
    rintro _ _ ⟨rfl, rfl⟩
    exact ⟨_, .tup [], _, I, rfl, .refl I, ⟨[], rfl, .refl _, .nil, rfl⟩, .tup (by simp) (fun j c v h _ => by simp at h), hs⟩
   ·rcases hs.obj (.arr u k (l.map e)) (by simp) with ⟨_, hn⟩ | ⟨b, off, cp, rc, el, fr, rfl, _⟩
    ·simp at hn; exact absurd hn h0
    ·rw [List.length_map] at hs ⊢
     obtain ⟨_, rc, el, fr, h2, h3, h4, h5, h6, h7⟩ := arr_some hs
     rw [List.length_map] at h5
     have hblt : b < w.heap.size := sortW_blk.lt_of_get' h2
     have hsz : off + l.length * k ≤ rc.size := by
      have : l.length * k ≤ cp * k := Nat.mul_le_mul_right _ h5.1
      omega
     obtain ⟨d, d1, d2⟩ := rows_ex (I := I) (e := e) hk hf (rc := rc) l off hsz fun i j x c v a1 a2 a3 => h7 i j (e x) c v (by simp [a1]) a2 a3
     have dl : d.length = l.length := by rw [← d1]; simp
     obtain ⟨p0, hp0⟩ : ∃ p, d[0]? = some p := ⟨_, List.getElem?_eq_getElem (by have := List.length_pos_iff.2 h0; omega)⟩
     haveI : Inhabited (RowT I e k) := ⟨p0⟩
     have hkr : ∀ x : RowT I e k, (x.1.2).length = k := fun x => x.2.1
     have hH : HoldsK (fun x : RowT I e k => x.1.2) k w b off d.toArray := fun j hj => by
      simp only [size_flatK, List.size_toArray, dl] at hj
      have hk0 : 0 < k := by rcases Nat.eq_zero_or_pos k with h | h; (subst h; simp at hj); exact h
      have hi : j / k < d.length := by rw [dl]; exact Nat.div_lt_of_lt_mul (by rw [Nat.mul_comm]; exact hj)
      have hjk := Nat.mod_lt j hk0
      have hdj : j / k * k + j % k = j := by rw [Nat.mul_comm]; exact Nat.div_add_mod j k
      have hg1 := d2 (j / k) (j % k) d[j / k] (List.getElem?_eq_getElem hi) hjk
      have hg2 := flatK_get (enc := fun x : RowT I e k => x.1.2) (k := k) hkr (dk := d.toArray) (i := j / k) (j := j % k) (x := d[j / k]) (by simp [hi]) hjk
      rw [hdj] at hg2
      constructor
      ·rw [cell_of h2]
       rw [show off + j = off + j / k * k + j % k by omega, hg1, ← hg2]; rfl
      ·simp only [World.frozen?, h2]
       have := h3 (off + j) (by omega)
       simpa using this
     have hle : ∀ (m : Nat) (dk : Array (RowT I e k)) (os : Array Obj), Le I (allI (sortWorldK (fun x : RowT I e k => x.1.2) k w b off m dk os)) := fun m dk os =>
      ⟨fun c o ho => by
       have hcb : c ≠ b := fun hh => by
        subst hh
        have := hs.apart c (by simp [blocks, MObj.blocks])
        rw [this] at ho; cases ho
       have h9 := hs.imm c o ho
       show (sortWorldK _ k w b off m dk os).heap[c]? = some o
       rw [sortW_get (sortW_blk.lt_of_get' h9) hcb]; exact h9, hs.os, hs.output, hs.tape, fun ht => Nat.le_trans (hs.low ht) (Nat.le_add_right _ _)⟩
     have hcmp : CmpLays P g cb (fun x : RowT I e k => x.1.2) k (fun x y => c x.1.1 y.1.1) b off d.toArray.size w := fun m os dk _ x y => by
      have hI := hle m dk os
      have hxa : ∀ z : RowT I e k, V (allI (sortWorldK (fun x : RowT I e k => x.1.2) k w b off m dk os)) (e z.1.1) (.agg z.1.2.toArray) := fun z => by
       rw [ha]; exact V.mk_agg (by simpa using z.2.2.2.mono hI)
      have e9 : (#[Value.agg x.1.2.toArray, .agg y.1.2.toArray] ++ cb) = (Value.agg x.1.2.toArray :: .agg y.1.2.toArray :: cb.toList).toArray := by simp
      rw [e9]
      refine (@ConP.calls P trackOn g _ _ rfl (hc x.1.1 y.1.1) _ (hs.tab.mono hI) _ (VL.cons (hxa x) (VL.cons (hxa y) (f3.mono hI)))).mono ?_
      rintro _ w' ⟨u, rfl, hu, q, os', rfl⟩
      exact ⟨by rw [hu.int_inv], q, os', rfl⟩
     have hO' : SWO (ltOf fun x y : RowT I e k => c x.1.1 y.1.1) := ⟨fun x => hO.irrefl x.1.1, fun x y z => hO.trans x.1.1 y.1.1 z.1.1, fun x y z => hO.ntrans x.1.1 y.1.1 z.1.1⟩
     have hrun := AnyQ.slices_SortFunc L k aE zE (fun x : RowT I e k => x.1.2) hkr (fun x => x.2.2.1) (fun x y => c x.1.1 y.1.1) hO' g cb b off cp d.toArray w (run_callFunc hg) hcmp hH hblt (by simp; omega)
     rw [List.size_toArray, dl] at hrun
     refine hrun.mono ?_
     rintro _ w' ⟨rfl, d', m, os, ⟨q1, _, q3⟩, q4, rfl⟩
     simp only [List.size_toArray, dl] at q1
     have q3' : d'.toList.Perm d := by
      have e1 : (d'.extract 0 l.length) = d' := by rw [← q1]; exact Array.extract_size
      have e2 : (d.toArray.extract 0 l.length) = d.toArray := by have := Array.extract_size (xs := d.toArray); rw [List.size_toArray, dl] at this; exact this
      rw [e1, e2] at q3; simpa using q3
     refine ⟨_, .tup [], [.arr (.slice (some ⟨b, off, none⟩) l.length cp) k ((d'.toList.map (·.1.1)).map e)], I, rfl, .refl I, ⟨d'.toList.map (·.1.1), rfl, by rw [← d1]; exact q3'.map _, ?_, rfl⟩, .tup (by simp) (fun j c v h _ => by simp at h), ?_⟩
     ·refine List.pairwise_iff_getElem.2 fun i j hi hj hij => ?_
      simp only [List.length_map, Array.length_toList] at hi hj
      have := q4 i j (Nat.zero_le _) hij (by omega)
      rw [getElem!_pos d' i hi, getElem!_pos d' j hj] at this
      simp only [ltOf, decide_eq_false_iff_not] at this
      simpa using this
     ·have hchg : ∀ x, x < w.heap.size → x ∉ (MObj.arr (.slice (some ⟨b, off, none⟩) l.length cp) k (l.map e)).blocks → (sortWorldK (fun x : RowT I e k => x.1.2) k w b off m d' os).heap[x]? = w.heap[x]? := fun x hx hnx => sortW_get hx fun hh => hnx (by rw [hh]; simp [MObj.blocks])
      refine hs.change (m' := .arr (.slice (some ⟨b, off, none⟩) l.length cp) k ((d'.toList.map (·.1.1)).map e)) hchg (fun x hx => .inl hx) (by simp [MObj.blocks]) ?_ rfl rfl rfl (fun _ => Nat.le_add_right _ _)
      refine .inr ⟨b, off, cp, putCells id off (flatK (fun x : RowT I e k => x.1.2) k d') rc, el, fr, by simp [q1], sortW_blk h2, by simpa [putCells] using h3, ?_, by simp [q1]; exact h5, by simpa [putCells] using h6, ?_⟩
      ·intro y hy; obtain ⟨z, _, rfl⟩ := List.mem_map.1 hy; exact hk z
      ·intro i j y z v a1 a2 a3
       rw [List.map_map, List.getElem?_map] at a1
       cases hq : d'.toList[i]? with
       | none => rw [hq] at a1; simp at a1
       | some r =>
         rw [hq] at a1
         simp only [Option.map_some, Function.comp_apply, Option.some.injEq] at a1
         subst a1
         have hj : j < k := by have := lt_of_get a2; rw [hk] at this; exact this
         have hi : i < l.length := by have := lt_of_get hq; simp at this; omega
         have hle : (i + 1) * k ≤ l.length * k := Nat.mul_le_mul_right _ hi
         rw [Nat.add_mul, Nat.one_mul] at hle
         have hr : off + i * k + j < rc.size := by omega
         rw [putCells, Array.getElem?_mapIdx, Array.getElem?_eq_getElem hr, Option.map_some, if_pos ⟨by omega, by rw [size_flatK, q1]; omega⟩] at a3
         rw [show off + i * k + j - off = i * k + j by omega] at a3
         have hg2 := flatK_get (enc := fun x : RowT I e k => x.1.2) (k := k) hkr (dk := d') (i := i) (j := j) (x := r) (by simpa using hq) hj
         rw [show (id (flatK (fun x : RowT I e k => x.1.2) k d')[i * k + j]!) = (flatK (fun x : RowT I e k => x.1.2) k d')[i * k + j]! from rfl, hg2] at a3
         exact r.2.2.2.2 j z v a2 a3
end
end Go.HL
end
section
namespace Go.HL
section
variable {P : Program} {e : Env} {dst : Option Tmp} {ty : TypeId} {pos : String} {af : Array Edge} {g : Option (Nat × Bool)} {M : List MObj} {K : HVal → List MObj → Prop}
end
end Go.HL
end
section
namespace Go.HL
variable {P : Program}
/-- A frozen map keyed by strings. -/
abbrev hsm (L : SMap) : HVal := .hmap (L.map fun p => .str p.1) (L.map (·.2))
abbrev hset (S : List (List UInt8)) : HVal := hsm (mset S)
theorem sk_fst (L : SMap) : (sk L).map (·.1) = L.map fun p => HVal.str p.1 := by simp [sk, Function.comp_def]
theorem sk_snd (L : SMap) : (sk L).map (·.2) = L.map (·.2) := by simp [sk, Function.comp_def]
section
variable {e : Env} {dst : Option Tmp} {ty : TypeId} {pos : String} {af : Array Edge} {g : Option (Nat × Bool)}
end
/-- h, seen as h' while it is only read; objects may hold others. -/
inductive Bow (M : List MObj) : HVal → HVal → Prop
 | weak {h h' : HVal} (hw : Weak h h') : Bow M h h'
 | arr {i : Nat} {v : Value} {sz : Nat} {es : List HVal} (hm : M[i]? = some (.arr v sz es)) : Bow M (.raw v) (.slice sz es)
 | cells {i b off : Nat} {cs cs' : List HVal} (hm : M[i]? = some (.cells b cs)) (hl : cs.length = cs'.length) (h : ∀ (j : Nat) (c c' : HVal), cs[j]? = some c → cs'[j]? = some c' → Bow M c c') : Bow M (.raw (.pointer (some ⟨b, off, none⟩))) (.vptr cs' off)
 | map {i b : Nat} {L : SMap} (hm : M[i]? = some (.map b (sk L))) : Bow M (.raw (.map (some b))) (hsm L)
 | vptr {off : Nat} {l l' : List HVal} (hl : l.length = l'.length) (h : ∀ (j : Nat) (c c' : HVal), l[j]? = some c → l'[j]? = some c' → Bow M c c') : Bow M (.vptr l off) (.vptr l' off)
 | fn {f : Fn} {c1 l l' : List HVal} (hl : l.length = l'.length) (h : ∀ (j : Nat) (c c' : HVal), l[j]? = some c → l'[j]? = some c' → Bow M c c') : Bow M (.fn f c1 l) (.fn f c1 l')
theorem Bow.refl {M : List MObj} {h : HVal} : Bow M h h := .weak (Weak.refl _)
theorem V.vptr_inv' {I : Imm} {cs : List HVal} {off : Nat} {v : Value} (h : V I (.vptr cs off) v) : ∃ b base rc el fr, v = .pointer (some ⟨b, base + off, none⟩) ∧ I.heap b = some (.cells rc el fr) ∧ base + cs.length ≤ rc.size ∧
 ∀ (j : Nat) (c : HVal) (v : Value), cs[j]? = some c → rc[base + j]? = some v → V I c v := by
 cases h with
 | vptr h1 h2 h3 => exact ⟨_, _, _, _, _, rfl, h1, h2, h3⟩
theorem Bow.v [Tracks] {M : List MObj} {I : Imm} {F : List MObj} {w : World} {h h' : HVal} (hb : Bow M h h') (hs : Sat P I (M ++ F) w) : ∀ {v : Value}, V I h v → V (allI w) h' v := by
 induction hb with
 | weak hw => intro v hv; exact hw _ _ (hv.mono hs.le_all)
 | arr hm => intro v hv; exact (Bor.arr hm).v hs hv
 | @cells i b off cs cs' hm hl _ ih =>
   intro v hv
   rw [hv.raw_inv]
   obtain ⟨rc, el, fr, h2, h3, h4⟩ := hs.obj _ (List.mem_append_left _ (List.mem_of_getElem? hm))
   have := V.vptr (I := allI w) (cs := cs') (off := off) (base := 0) h2 (by have := h4.1; simp at this; omega) fun j c v a1 a2 => by
    have hj := lt_of_get a1
    have hj' := List.getElem?_eq_getElem (l := cs) (i := j) (by omega)
    exact ih j _ c hj' a1 (h4.2 j _ v hj' (by simpa using a2))
   rwa [Nat.zero_add] at this
 | @map i b L hm =>
   intro v hv
   rw [hv.raw_inv]
   obtain ⟨es, clk, h1, h2, h3⟩ := hs.obj _ (List.mem_append_left _ (List.mem_of_getElem? hm))
   have hn : es.size = L.length := by simpa [sk] using h2.1
   refine .hmap (I := allI w) h1 (by simp [hn]) (by simp [hn]) (fun j c m a1 a2 => ?_) (fun j c m a1 a2 => ?_)
   ·rw [← sk_fst, List.getElem?_map] at a1
    cases hq : (sk L)[j]? with
    | none => rw [hq] at a1; simp at a1
    | some p => rw [hq] at a1; simp at a1; subst a1; exact ((h3 j p m hq a2).1).mono hs.le_all
   ·rw [← sk_snd, List.getElem?_map] at a1
    cases hq : (sk L)[j]? with
    | none => rw [hq] at a1; simp at a1
    | some p => rw [hq] at a1; simp at a1; subst a1; exact ((h3 j p m hq a2).2).mono hs.le_all
 | @vptr off l l' hl _ ih =>
   intro v hv
   obtain ⟨b, base, rc, el, fr, rfl, h1, h2, h3⟩ := hv.vptr_inv'
   refine .vptr (I := allI w) (hs.imm _ _ h1) (by omega) fun j c u a1 a2 => ?_
   have hj := lt_of_get a1
   have hj' := List.getElem?_eq_getElem (l := l) (i := j) (by omega)
   exact ih j _ c hj' a1 (h3 j _ u hj' a2)
 | @fn f c1 l l' hl _ ih =>
   intro v hv
   cases hv with
   | fn g1 g2 g3 g4 =>
     refine .fn g1 (by omega) (fun j c u a1 a2 => (g3 j c u a1 a2).mono hs.le_all) fun j c u a1 a2 => ?_
     have hj := lt_of_get a1
     have hj' := List.getElem?_eq_getElem (l := l) (i := j) (by omega)
     exact ih j _ c hj' a1 (g4 j _ u hj' a2)
end Go.HL
end
section
namespace Go.HL
variable {P : Program}
theorem EOp.fz [Tracks] {e : Env} {M : List MObj} {o : Oper} {K : HVal → List MObj → Prop} {sz : Nat} {es : List HVal} (h : EOp P e M o fun x M' => ∃ v, x = .raw v ∧ M' = .arr v sz es :: M) (hk : K (.slice sz es) M) : EOp P e M o K := fun I F a w ho hs =>
 Oper.wp_noQ (fun _ _ ⟨v, x, M', J, h1, h2, ⟨u, h3, h4⟩, h5, h6⟩ => by
  subst h3 h4
  obtain ⟨J', g1, g2, g3⟩ := Sat.freeze_arr (M := M ++ F) h6
  exact ⟨v, _, M, J', h1, h2.trans g1, hk, by rw [h5.raw_inv]; exact g3, g2⟩) (h I F a w ho hs)
theorem EOp.fzi [Tracks] {e : Env} {M N : List MObj} {o : Oper} {K : HVal → List MObj → Prop} {sz : Nat} {es : List HVal} (i : Nat) (h : EOp P e M o fun x M' => ∃ v, x = .raw v ∧ M'[i]? = some (.arr v sz es) ∧ M'.eraseIdx i = N) (hk : K (.slice sz es) N) : EOp P e M o K := fun I F a w ho hs =>
 Oper.wp_noQ (fun _ _ ⟨v, x, M', J, h1, h2, ⟨u, h3, h4, h5⟩, h6, h7⟩ => by
  subst h3 h5
  obtain ⟨J', g1, g2, g3⟩ := (h7.pull h4).freeze_arr
  exact ⟨v, _, _, J', h1, h2.trans g1, hk, by rw [h6.raw_inv]; exact g3, g2⟩) (h I F a w ho hs)
end Go.HL
end
section
namespace Go.Proofs.YtbihpphgoaflfaaGreatDoor
open Go.HL
set_option maxRecDepth 100000
set_option linter.unusedVariables false
set_option linter.unusedSimpArgs false
theorem sortsInI [Tracks] (m : Nat) : Go.Proofs.AnyZI.SortsIn Tryz.prog Tryz.g42_ren Fence.wide m :=
 ⟨fun blk off cap ss W hH hblk hsz => callsIn_wide.2 (Any.slices_Sort_int Tryz.lays189 blk off cap ss W hH hblk hsz), fun p cap W => callsIn_wide.2 (Any.slices_Sort_int_none Tryz.lays189 p cap W)⟩
theorem c_keysI [Tracks] {b : Nat} : Con Tryz.prog 43 [.raw (.map (some b))] [] fun x M' => ∃ bx, x = .fn (.func 73) [] [.raw (.pointer (some ⟨bx, 0, none⟩))] ∧ M' = [.cells bx [.raw (.map (some b))]] :=
 con_keysI (ρ := Tryz.g43_ren) Tryz.g43
theorem c_sortedI [Tracks] (hT : Tracks.on = false) {α : Type} {f : α → HVal} {l : List (Int × α)} (hn : ANodup l) (hl : ∀ p ∈ l, (-4611686018427387904 ≤ p.1 ∧ p.1 ≤ 4611686018427387904)) (hs : l.length ≤ 1000000) {b bx : Nat} :
 Con Tryz.prog 42 [.fn (.func 73) [] [.raw (.pointer (some ⟨bx, 0, none⟩))]] [.cells bx [.raw (.map (some b))], .map b (kk (HVal.int .i64) (em f l))] fun x M' => ∃ v, x = .raw v ∧ M' = [.arr v 1 ((sortI (l.map (·.1))).map (.int .i64)), .map b (kk (HVal.int .i64) (em f l))] :=
 con_sortedI hT (ρ := Tryz.g42_ren) (ρk := Tryz.g43_ren) Tryz.g42 Tryz.g43 sortsInI (enters_of Tryz.func72 (by kernel_rfl) rfl) (enters_of Tryz.func73 (by kernel_rfl) rfl) hn hl hs

end Go.Proofs.YtbihpphgoaflfaaGreatDoor
end
section
namespace Go.Proofs.YtbihpphgoaflfaaGreatDoor
open Go.HL
set_option maxRecDepth 100000
set_option linter.unusedVariables false
set_option linter.unusedSimpArgs false
/-- slices.SortFunc -/
theorem c_sort_Outcome [Tracks] {c : OutS → OutS → Int} (hO : Go.Sort.SWO (Go.Proofs.ltOf c)) {g : FuncId} (hg : Callable Tryz.prog g) {cap : List HVal} (hc : ∀ x y, @ConP trackOn Tryz.prog g (eOut x :: eOut y :: cap) (.int .i64 (c x y))) {l : List OutS} (hl : l.length ≤ 1000000) {v : Value} :
 Con Tryz.prog 74 [.raw v, .fn (.func g) [] cap] [.arr v 2 (l.map eOut)] fun x M' => ∃ l' : List OutS, x = .tup [] ∧ l'.Perm l ∧ l'.Pairwise (fun a b => ¬ c b a < 0) ∧ M' = [.arr v 2 (l'.map eOut)] :=
 con_sortf (e := eOut) Tryz.g74 (Tryz.isAgg44) (Tryz.sizeOf44) (fun _ => rfl) (fun _ => rfl) (fun _ => rfl) hO hg hc hl

/-- benchwarmer/benchref1.spreadOf$1 -/
theorem c_benchref1_spreadOf_1 [Tracks] {a b : OutS}  : ConP Tryz.prog 75 [eOut a, eOut b] (.int .i64 (byPts a b)) := by
 refine Con.of_body Tryz.func75 rfl Tryz.ntmps75 rfl rfl ?_
 refine hw_reg ?_
 refine dp rfl (pop_box rfl rfl) ?_
 refine dp rfl (pop_box rfl rfl) ?_
 refine dp rfl (pop_assign rfl) ?_
 refine dn ?_
 refine hw_reg ?_
 refine dp rfl (pop_fieldAddr ty44 rfl ty3 (by decide) rfl) ?_
 refine dp rfl (pop_load ty3 rfl rfl rfl) ?_
 refine dp rfl (pop_fieldAddr ty44 rfl ty3 (by decide) rfl) ?_
 refine dp rfl (pop_load ty3 rfl rfl rfl) ?_
 refine dp rfl (pop_call ca76 rfl (WeakL.refl _) c_cmp_Compare_int) ?_
 refine dp rfl (pop_assign rfl) ?_
 refine dn ?_
 refine hw_ret ?_
 refine ret_p rfl ?_
 rfl

set_option maxHeartbeats 1000000 in
/-- benchwarmer/benchref1.spreadOf -/
theorem c_benchref1_spreadOf [Tracks] {h : List HopeS} (hl : h.length ≤ 1000000) (ok : ∀ x ∈ h, HopeOk x) (hpT : prodT h ≤ 1000000000000) (hcl : (cz h).length ≤ 1000000) : ConP Tryz.prog 45 [eHopes h] (.slice 2 ((spreadL h).map eOut)) := by
 refine Con.of_body Tryz.func45 rfl Tryz.ntmps45 rfl rfl ?_
 refine hw_reg ?_
 refine dp rfl (pop_assign rfl) ?_
 refine dn ?_
 refine hw_reg ?_
 refine de rfl (eop_makeMap fun m14 => ?_)
 refine de0 (EOp.insert (eop_updatekA (i := 0) (s := (0 : Int)) (v := (1 : Int)) (L := []) (ek := HVal.int .i64) (f := HVal.int .i64) ty68 ok3 rfl rfl rfl rfl ?_))
 refine dp rfl (pop_move rfl) ?_
 refine dp rfl (pop_assign rfl) ?_
 refine dn ?_
 refine hw_seq ?_
 refine hw_reg ?_
 refine dp rfl (pop_move rfl) ?_
 refine dp rfl (pop_lenm ty26 rfl) ?_
 refine dp rfl (pop_move rfl) ?_
 refine dn ?_
 refine hw_block ?_
 refine hw_loopw3 [3, 5, 6, 7, 8, 10, 18, 19, 20, 21, 22, 23, 24, 25, 26, 27, 28, 29, 30, 31, 32, 33, 34, 35, 36, 37, 38, 39, 40, 41, 42, 43, 44, 45, 46, 47, 48, 49, 50] (fun (k : Nat) (b : Nat) (L : NW) => [(18, .int .i64 k), (3, .raw (.map (some b)))]) (fun (k : Nat) (b : Nat) (L : NW) => [.map b (iM L)]) (fun (k : Nat) (b : Nat) (L : NW) => k ≤ h.length ∧ (L.Perm (cz (h.take k)))) (fun (k : Nat) (b : Nat) (L : NW) => h.length - k) (0) (m14) ([(0, 1)]) ?_ ?_ ?_ ?_
 ·exact ⟨Nat.zero_le _, List.Perm.refl _⟩
 ·exact ⟨rfl, rfl, trivial⟩
 ·exact List.Perm.refl _
 ·intro k b L hinv
  obtain ⟨hk, hL⟩ := hinv
  refine hw_reg ?_
  refine dp rfl (pop_lss rfl rfl) ?_
  refine dn ?_
  refine hw_seq ?_
  refine hw_cond rfl (fun h1 => ?_) (fun h2 => ?_)
  ·try simp at h1
   obtain ⟨x, hx⟩ : ∃ x, h[k]? = some x := ⟨_, List.getElem?_eq_getElem h1⟩
   have hdx := drop_cons hx
   have hxo := ok x (List.mem_of_getElem? hx)
   have hxl := hxo.len
   have hcz := cz_pos (take_ok ok k)
   have hLp : PosW L := fun p hp => hcz.1 p (hL.mem_iff.1 hp)
   have hLt : tot L = prodT (h.take k) := by rw [tot_perm hL, hcz.2]
   have hLb : BdP (100000 * (h.take k).length) L := fun p hp => cz_bd (take_ok ok k) p (hL.mem_iff.1 hp)
   have hkl : (h.take k).length ≤ 1000000 := by rw [List.length_take]; omega
   have hTk : tot L * sumW x.Outs ≤ 1000000000000 := by rw [hLt, ← prodT_snoc, ← take_snoc' hx]; have := (prodT_take ok (k + 1)).2; omega
   refine hw_skip ?_
   refine seqQ_n ?_
   refine hw_seq ?_
   refine hw_block ?_
   refine hw_reg ?_
   refine dp rfl (pop_idx ty26 ty49 rfl rfl rfl (by first | assumption | simp_all)) ?_
   refine dp rfl (pop_loadw ty49 rfl rfl rfl rfl) ?_
   refine de rfl (eop_alloc ty49 rfl fun b5 => ?_)
   refine de0 (eop_storew ty49 rfl rfl rfl rfl rfl ?_)
   refine dn ?_
   refine hw_ghost (Ghost.fc0 5 rfl) ?_
   refine hw_reg ?_
   refine de rfl (eop_makeMap fun m22 => ?_)
   refine dp rfl (pop_assign rfl) ?_
   refine dn ?_
   refine hw_seq ?_
   refine hw_reg ?_
   refine dp rfl (pop_move rfl) ?_
   refine de rfl (eop_range (i := 1) ty68 rfl rfl fun r => ?_)
   refine dn ?_
   refine hw_block ?_
   refine hw_loopw2 [7, 8, 10, 25, 26, 27, 28, 29, 30, 31, 32, 33, 34, 35, 36, 37, 38, 39, 40, 41, 42, 43, 44, 45, 46, 47, 48] (fun (vis : List Nat) (E : List (Int × Int)) => []) (fun (vis : List Nat) (E : List (Int × Int)) => [.map m22 (iM (sumM (expand E x.Outs))), .iter r b (iM L) vis]) (fun (vis : List Nat) (E : List (Int × Int)) => VisOk (L) vis E ∧ (True)) (fun (vis : List Nat) (E : List (Int × Int)) => (L).length - vis.length) ([]) ([]) ?_ ?_ ?_ ?_
   ·exact ⟨VisOk.nil _, trivial⟩
   ·exact trivial
   ·exact perm_eq rfl
   ·intro vis E hinv
    obtain ⟨hvis, -⟩ := hinv
    refine hw_reg ?_
    refine de rfl (eop_nextA (i := 1) (L := L) (enc := (fun p : Int × Int => (HVal.int .i64 p.1, HVal.int .i64 p.2))) rfl rfl (kk_em _ _ _) hvis.nd hvis.lt fun cb R vis' hnx => ?_)
    refine dp rfl (pop_extract rfl rfl) ?_
    refine dn ?_
    refine hw_seq ?_
    refine hw_cond rfl (fun h3 => ?_) (fun h4 => ?_)
    ·try simp at h3
     obtain ⟨j, q, hq, hj, rfl⟩ := hnx.t h3
     have hroom := hvis.room hq hj
     have hstep := hvis.step hq hj
     have hqm := List.mem_of_getElem? hq
     refine hw_skip ?_
     refine seqQ_n ?_
     refine hw_block ?_
     refine hw_reg ?_
     refine de rfl (eop_entryA (i := 1) (L := L) (enc := (fun p : Int × Int => (HVal.int .i64 p.1, HVal.int .i64 p.2))) rfl rfl (kk_em _ _ _) hq ?_)
     refine dp rfl (pop_extract rfl rfl) ?_
     refine dp rfl (pop_extract rfl rfl) ?_
     refine dp rfl (pop_assign rfl) ?_
     refine dp rfl (pop_assign rfl) ?_
     refine dn ?_
     refine hw_reg ?_
     refine dp rfl ((by first | exact pop_fieldAddr ty49 rfl ty37 (by decide) rfl | exact pop_fieldAddr_raw ty49 rfl ty37 (by decide) rfl)) ?_
     refine dp rfl (pop_load ty37 rfl rfl rfl) ?_
     refine dp rfl (pop_lenm ty37 rfl) ?_
     refine dp rfl (pop_move rfl) ?_
     refine dn ?_
     refine hw_block ?_
     refine hw_loopw [10, 33, 34, 35, 36, 37, 38, 39, 40, 41, 42, 43, 44, 45, 46, 47, 48] (fun (i : Nat) => [(33, .int .i64 i)]) (fun (i : Nat) => [.map m22 (iM (sumM (expand E x.Outs ++ HL.one q (x.Outs.take i)))), .iter r b (iM L) (vis ++ [j])]) (fun (i : Nat) => i ≤ x.Outs.length ∧ (True)) (fun (i : Nat) => x.Outs.length - i) (0) ?_ ?_ ?_ ?_
     ·exact ⟨Nat.zero_le _, trivial⟩
     ·exact ⟨rfl, trivial⟩
     ·exact perm_eq (by simp [HL.one])
     ·intro i hinv
      obtain ⟨hi, -⟩ := hinv
      refine hw_reg ?_
      refine dp rfl (pop_lss rfl rfl) ?_
      refine dn ?_
      refine hw_seq ?_
      refine hw_cond rfl (fun h5 => ?_) (fun h6 => ?_)
      ·try simp at h5
       obtain ⟨y, hy⟩ : ∃ y, x.Outs[i]? = some y := ⟨_, List.getElem?_eq_getElem h5⟩
       have hdy := drop_cons hy
       have hmb := mid_bd hLp hxo.bdw hstep hy (q.1 + y.Points)
       have hqb := hLb q hqm
       have hyb := hxo.bd y (List.mem_of_getElem? hy)
       refine hw_skip ?_
       refine seqQ_n ?_
       refine hw_seq ?_
       refine hw_block ?_
       refine hw_reg ?_
       refine dp rfl (pop_idx ty37 ty44 rfl rfl rfl (by first | assumption | simp_all)) ?_
       refine dp rfl (pop_loadw ty44 rfl rfl rfl rfl) ?_
       refine de rfl (eop_alloc ty44 rfl fun b10 => ?_)
       refine de0 (eop_storew ty44 rfl rfl rfl rfl rfl ?_)
       refine dn ?_
       refine hw_ghost (Ghost.fc0 10 rfl) ?_
       refine hw_reg1 ?_
       refine dp rfl (pop_move rfl) ?_
       refine dp rfl (pop_move rfl) ?_
       refine dp rfl ((by first | exact pop_fieldAddr ty44 rfl ty3 (by decide) rfl | exact pop_fieldAddr_raw ty44 rfl ty3 (by decide) rfl)) ?_
       refine dp rfl (pop_load ty3 rfl rfl rfl) ?_
       refine dp rfl (pop_add64 rfl rfl (by omega) (by omega)) ?_
       refine de rfl (eop_lookupkA (i := 0) (s := q.1 + y.Points) (z0 := (0 : Int)) (f := HVal.int .i64) (L := sumM (expand E x.Outs ++ HL.one q (x.Outs.take i))) ty68 ok3 ty3 rfl rfl rfl rfl ?_)
       refine dp rfl (pop_move rfl) ?_
       refine dp rfl ((by first | exact pop_fieldAddr ty44 rfl ty3 (by decide) rfl | exact pop_fieldAddr_raw ty44 rfl ty3 (by decide) rfl)) ?_
       refine dp rfl (pop_load ty3 rfl rfl rfl) ?_
       refine dp rfl (pop_mul64 rfl rfl (by omega) (by omega)) ?_
       refine dp rfl (pop_add64 rfl rfl (by omega) (by omega)) ?_
       refine de0 (eop_updatekA (i := 0) (s := q.1 + y.Points) (v := (alk (q.1 + y.Points) (sumM (expand E x.Outs ++ HL.one q (x.Outs.take i)))).getD 0 + q.2 * y.Weight) (f := HVal.int .i64) (L := sumM (expand E x.Outs ++ HL.one q (x.Outs.take i))) ty68 ok3 rfl rfl rfl rfl ?_)
       refine dn ?_
       refine blockQ_n ?_
       refine seqQ_n ?_
       refine hw_reg1 ?_
       refine dp rfl (pop_add64 rfl rfl (by omega) (by omega)) ?_
       refine dp rfl (pop_move rfl) ?_
       refine dn ?_
       exact ⟨i + 1, ⟨by omega, trivial⟩, by dsimp only; omega, ⟨rfl, trivial⟩, (by repeat (first | exact keeps_refl | refine keeps_upd rfl ?_ | refine keeps_loop rfl rfl ?_)), perm_eq (by dsimp only; rw [one_snoc q hy, ← List.append_assoc, sumM_snoc]; rfl)⟩
      ·try simp at h6
       have hni : x.Outs.length ≤ i := by omega
       obtain rfl : i = x.Outs.length := by omega
       rw [List.take_length]
       refine hw_exit ?_
       refine seqQ_x ?_
       refine loopQ_x ?_
       refine blockQ_eq ?_
       refine blockQ_n ?_
       exact ⟨_, E ++ [q], ⟨hstep, trivial⟩, by dsimp only; rw [List.length_append]; simp only [List.length_cons, List.length_nil]; omega, trivial, (by repeat (first | exact keeps_refl | refine keeps_upd rfl ?_ | refine keeps_loop rfl rfl ?_)), perm_eq (by dsimp only; rw [expand_snoc])⟩
    ·try simp at h4
     obtain ⟨rfl, hlen⟩ := hnx.f h4
     have hEp := hvis.done hlen
     refine hw_exit ?_
     refine seqQ_x ?_
     refine loopQ2_x ?_
     refine blockQ_eq ?_
     refine seqQ_n ?_
     refine hw_ghost (Ghost.iterOver (i := 1) rfl) ?_
     refine hw_ghost (Ghost.of_eq (M' := [.map m22 (iM (sumM (expand E x.Outs))), .map b (iM L)]) rfl) ?_
     refine hw_ghost (Ghost.trans (Ghost.perm (List.Perm.swap _ _ _)) Ghost.drop) ?_
     refine hw_reg1 ?_
     refine dp rfl (pop_move rfl) ?_
     refine dp rfl (pop_assign rfl) ?_
     refine dn ?_
     refine blockQ_n ?_
     refine seqQ_n ?_
     refine hw_reg1 ?_
     refine dp rfl (pop_add64 rfl rfl (by omega) (by omega)) ?_
     refine dp rfl (pop_move rfl) ?_
     refine dn ?_
     exact ⟨k + 1, m22, sumM (expand E x.Outs), ⟨by omega, by rw [cz_snoc hx]; exact sumM_perm (expand_perm (hEp.trans hL) _)⟩, by dsimp only; omega, ⟨rfl, rfl, trivial⟩, (by repeat (first | exact keeps_refl | refine keeps_upd rfl ?_ | refine keeps_loop rfl rfl ?_)), perm_eq rfl⟩
  ·try simp at h2
   have hnk : h.length ≤ k := by omega
   obtain rfl : k = h.length := by omega
   rw [List.take_length] at hL
   refine hw_exit ?_
   refine seqQ_x ?_
   refine loopQ3_x ?_
   refine blockQ_eq ?_
   refine seqQ_n ?_
   have hLl : L.length ≤ 1000000 := by rw [hL.length_eq]; exact hcl
   refine hw_reg ?_
   refine dp rfl (pop_assign rfl) ?_
   refine dn ?_
   refine hw_ghost (Ghost.arr_nil 2) ?_
   refine hw_seq ?_
   refine hw_reg ?_
   refine dp rfl (pop_move rfl) ?_
   refine de rfl (eop_range (i := 1) ty68 rfl rfl fun r => ?_)
   refine dn ?_
   refine hw_block ?_
   refine hw_loopw3 [11, 12, 13, 53, 54, 55, 56, 57, 58, 59, 60, 61, 62, 63] (fun (vis : List Nat) (E : List (Int × Int)) (u : Value) => [(11, .raw u)]) (fun (vis : List Nat) (E : List (Int × Int)) (u : Value) => [.arr u 2 ((E.map toOut).map eOut), .iter r b (iM L) vis]) (fun (vis : List Nat) (E : List (Int × Int)) (u : Value) => VisOk (L) vis E ∧ (True)) (fun (vis : List Nat) (E : List (Int × Int)) (u : Value) => (L).length - vis.length) ([]) ([]) (.slice none 0 0) ?_ ?_ ?_ ?_
   ·exact ⟨VisOk.nil _, trivial⟩
   ·exact ⟨rfl, trivial⟩
   ·exact perm_eq rfl
   ·intro vis E u hinv
    obtain ⟨hvis, -⟩ := hinv
    refine hw_reg ?_
    refine de rfl (eop_nextA (i := 1) (L := L) (enc := (fun p : Int × Int => (HVal.int .i64 p.1, HVal.int .i64 p.2))) rfl rfl (kk_em _ _ _) hvis.nd hvis.lt fun cb R vis' hnx => ?_)
    refine dp rfl (pop_extract rfl rfl) ?_
    refine dn ?_
    refine hw_seq ?_
    refine hw_cond rfl (fun h7 => ?_) (fun h8 => ?_)
    ·try simp at h7
     obtain ⟨j, q, hq, hj, rfl⟩ := hnx.t h7
     have hroom := hvis.room hq hj
     have hstep := hvis.step hq hj
     have hqm := List.mem_of_getElem? hq
     refine hw_skip ?_
     refine seqQ_n ?_
     refine hw_block ?_
     refine hw_reg ?_
     refine de rfl (eop_entryA (i := 1) (L := L) (enc := (fun p : Int × Int => (HVal.int .i64 p.1, HVal.int .i64 p.2))) rfl rfl (kk_em _ _ _) hq ?_)
     refine dp rfl (pop_extract rfl rfl) ?_
     refine dp rfl (pop_extract rfl rfl) ?_
     refine dp rfl (pop_assign rfl) ?_
     refine dp rfl (pop_assign rfl) ?_
     refine dn ?_
     refine hw_reg1 ?_
     refine dp rfl (pop_move rfl) ?_
     refine dp rfl (pop_move rfl) ?_
     refine dp rfl (pop_move rfl) ?_
     refine dp rfl (pop_build (cs := [_, _]) ty44 pl44 rfl) ?_
     refine dp rfl (pop_buildSlice (hs := [_]) ty37 ty44 rfl rfl (by decide) (by decide) rfl) ?_
     refine de rfl (eop_append (i := 0) ty37 ty44 rfl rfl rfl rfl rfl (by simp [flat, hcells]) (by have := hvis.len; simp only [List.length_map, List.length_cons, List.length_nil]; omega) fun v63 => ?_)
     refine dp rfl (pop_assign rfl) ?_
     refine dn ?_
     refine blockQ_n ?_
     exact ⟨_, E ++ [q], v63, ⟨hstep, trivial⟩, by dsimp only; rw [List.length_append]; simp only [List.length_cons, List.length_nil]; omega, ⟨rfl, trivial⟩, (by repeat (first | exact keeps_refl | refine keeps_upd rfl ?_ | refine keeps_loop rfl rfl ?_)), perm_eq (by dsimp only; simp [toOut])⟩
    ·try simp at h8
     obtain ⟨rfl, hlen⟩ := hnx.f h8
     have hEp := hvis.done hlen
     refine hw_exit ?_
     refine seqQ_x ?_
     refine loopQ3_x ?_
     refine blockQ_eq ?_
     refine seqQ_n ?_
     refine hw_ghost (Ghost.iterOver (i := 1) rfl) ?_
     refine hw_ghost (Ghost.of_eq (M' := [.arr u 2 ((E.map toOut).map eOut), .map b (iM L)]) rfl) ?_
     refine hw_reg ?_
     refine dp rfl (pop_move rfl) ?_
     refine de rfl (eop_callf (M1 := [.arr u 2 ((E.map toOut).map eOut)]) (R := [.map b (iM L)]) ca74 rfl (WeakL.refl _) (List.Perm.refl _) (c_sort_Outcome (c := byPts) (swo_cmp byPts_cmp) ca75 (fun _ _ => @c_benchref1_spreadOf_1 trackOn _ _) (l := E.map toOut) (by rw [List.length_map, hEp.length_eq]; exact hLl)) ?_)
     rintro _ _ ⟨Y, rfl, hYp, hYs, rfl⟩
     obtain rfl := spread_of (hEp.trans hL) hYp hYs
     refine dn ?_
     refine hw_ghost (Ghost.fa 11 (i := 0) rfl rfl) ?_
     refine hw_reg ?_
     refine dp rfl (pop_move rfl) ?_
     refine dp rfl (pop_assign rfl) ?_
     refine dn ?_
     refine hw_ret ?_
     refine ret_g Ghost.clear rfl ⟨rfl, rfl⟩
end Go.Proofs.YtbihpphgoaflfaaGreatDoor
end
section
namespace Go.HL
end Go.HL
end
section
namespace Go.Proofs.YtbihpphgoaflfaaGreatDoor
open Go.HL
set_option maxRecDepth 100000
set_option linter.unusedVariables false
set_option linter.unusedSimpArgs false
/-- benchwarmer/benchref1.SpreadOf -/
theorem c_benchref1_SpreadOf [Tracks] {h : List HopeS} (hl : h.length ≤ 1000000) (ok : ∀ x ∈ h, HopeOk x) (hcl : (cz h).length ≤ 1000000) : ConP Tryz.prog 16 [eHopes h] (.tup [.slice 2 ((if spreadE h ≠ 0 then [] else spreadL h).map eOut), .int .i64 (spreadE h)]) := by
 refine Con.of_body Tryz.func16 rfl Tryz.ntmps16 rfl rfl ?_
 refine hw_reg ?_
 refine dp rfl (pop_assign rfl) ?_
 refine dp rfl (pop_assign rfl) ?_
 refine dn ?_
 refine hw_seq ?_
 refine hw_reg ?_
 refine dp rfl (pop_move rfl) ?_
 refine dp rfl (pop_call ca44 rfl (WeakL.refl _) (c_benchref1_ways (h := h) hl ok)) ?_
 refine dp rfl (pop_gtr rfl rfl) ?_
 refine dn ?_
 refine hw_cond rfl (fun h1 => ?_) (fun h2 => ?_)
 ·try simp at h1
  refine hw_reg ?_
  refine dp rfl (pop_assign rfl) ?_
  refine dp rfl (pop_assign rfl) ?_
  refine dn ?_
  refine hw_ret ?_
  first
  | (have q : 1000000000000 < prodP h 1 := by simpa using h1
     have e : spreadE h = 12 := by rw [spreadE, if_pos q]
     exact ret_w rfl (weak_tup2 (by rw [if_pos (by rw [e]; decide)]; exact weak_nil 2) (by rw [e]; exact Weak.refl _)))
  | (have q : ¬ 1000000000000 < prodP h 1 := by omega
     have q2 : 20000 < (cz h).length := by
      have := spreadL_len h
      omega
     have e : spreadE h = 12 := by rw [spreadE, if_neg q, if_pos q2]
     exact ret_w rfl (weak_tup2 (by rw [if_pos (by rw [e]; decide)]; exact weak_nil 2) (by rw [e]; exact Weak.refl _)))
  | (have q : ¬ 1000000000000 < prodP h 1 := by omega
     have q2 : ¬ 20000 < (cz h).length := by
      have := spreadL_len h
      omega
     have e : spreadE h = 0 := by rw [spreadE, if_neg q, if_neg q2]
     refine ret_p rfl ?_
     rw [e]; rfl)
 ·try simp at h2
  refine hw_skip ?_
  refine seqQ_n ?_
  have hpo := prodP_one ok
  have hpT : prodT h ≤ 1000000000000 := by
   have q : prodP h 1 ≤ 1000000000000 := by simpa using h2
   have := hpo.1 q
   omega
  refine hw_reg ?_
  refine dp rfl (pop_move rfl) ?_
  refine dp rfl (pop_call ca45 rfl (WeakL.refl _) (c_benchref1_spreadOf (h := h) hl ok hpT hcl)) ?_
  refine dp rfl (pop_assign rfl) ?_
  refine dn ?_
  refine hw_seq ?_
  refine hw_reg ?_
  refine dp rfl (pop_move rfl) ?_
  refine dp rfl (pop_lenm ty37 rfl) ?_
  refine dp rfl (pop_gtr rfl rfl) ?_
  refine dn ?_
  refine hw_cond rfl (fun h3 => ?_) (fun h4 => ?_)
  ·try simp at h3
   refine hw_reg ?_
   refine dp rfl (pop_assign rfl) ?_
   refine dp rfl (pop_assign rfl) ?_
   refine dn ?_
   refine hw_ret ?_
   first
   | (have q : 1000000000000 < prodP h 1 := by simpa using h1
      have e : spreadE h = 12 := by rw [spreadE, if_pos q]
      exact ret_w rfl (weak_tup2 (by rw [if_pos (by rw [e]; decide)]; exact weak_nil 2) (by rw [e]; exact Weak.refl _)))
   | (have q : ¬ 1000000000000 < prodP h 1 := by omega
      have q2 : 20000 < (cz h).length := by
       have := spreadL_len h
       omega
      have e : spreadE h = 12 := by rw [spreadE, if_neg q, if_pos q2]
      exact ret_w rfl (weak_tup2 (by rw [if_pos (by rw [e]; decide)]; exact weak_nil 2) (by rw [e]; exact Weak.refl _)))
   | (have q : ¬ 1000000000000 < prodP h 1 := by omega
      have q2 : ¬ 20000 < (cz h).length := by
       have := spreadL_len h
       omega
      have e : spreadE h = 0 := by rw [spreadE, if_neg q, if_neg q2]
      refine ret_p rfl ?_
      rw [e]; rfl)
  ·try simp at h4
   refine hw_skip ?_
   refine seqQ_n ?_
   refine hw_reg ?_
   refine dp rfl (pop_move rfl) ?_
   refine dp rfl (pop_assign rfl) ?_
   refine dp rfl (pop_assign rfl) ?_
   refine dn ?_
   refine hw_ret ?_
   first
   | (have q : 1000000000000 < prodP h 1 := by simpa using h1
      have e : spreadE h = 12 := by rw [spreadE, if_pos q]
      exact ret_w rfl (weak_tup2 (by rw [if_pos (by rw [e]; decide)]; exact weak_nil 2) (by rw [e]; exact Weak.refl _)))
   | (have q : ¬ 1000000000000 < prodP h 1 := by omega
      have q2 : 20000 < (cz h).length := by
       have := spreadL_len h
       omega
      have e : spreadE h = 12 := by rw [spreadE, if_neg q, if_pos q2]
      exact ret_w rfl (weak_tup2 (by rw [if_pos (by rw [e]; decide)]; exact weak_nil 2) (by rw [e]; exact Weak.refl _)))
   | (have q : ¬ 1000000000000 < prodP h 1 := by omega
      have q2 : ¬ 20000 < (cz h).length := by
       have := spreadL_len h
       omega
      have e : spreadE h = 0 := by rw [spreadE, if_neg q, if_neg q2]
      refine ret_p rfl ?_
      rw [e]; rfl)

end Go.Proofs.YtbihpphgoaflfaaGreatDoor
end
section
namespace Go.HL
theorem cmpE_a {a b : List HopeS} (e : spreadE a ≠ 0) : cmpE a b = spreadE a := by rw [cmpE, if_pos e]
theorem cmpE_b {a b : List HopeS} (e0 : spreadE a = 0) (e : spreadE b ≠ 0) : cmpE a b = spreadE b := by rw [cmpE, if_neg (by rw [e0]; simp), if_pos e]
theorem cmpE_f {a b : List HopeS} (e0 : spreadE a = 0) (e1 : spreadE b = 0) (f : most < prodP a 1 * prodP b 1) : cmpE a b = 12 := by rw [cmpE, if_neg (by rw [e0]; simp), if_neg (by rw [e1]; simp), if_pos f]
theorem cmpE_0 {a b : List HopeS} (e0 : spreadE a = 0) (e1 : spreadE b = 0) (f : ¬ most < prodP a 1 * prodP b 1) : cmpE a b = 0 := by rw [cmpE, if_neg (by rw [e0]; simp), if_neg (by rw [e1]; simp), if_neg f]
theorem PosO.le {Y : List OutS} (h : PosO Y) {q : OutS} (hq : q ∈ Y) : q.Weight ≤ sumW Y := by
 induction Y with
 | nil => cases hq
 | cons x Y ih =>
   have h1 := (three_pos 0 h.tail).2.2.2
   have h2 := h x List.mem_cons_self
   rcases List.mem_cons.1 hq with rfl | hq
   ·simp only [sumW]; omega
   ·have := ih h.tail hq; simp only [sumW]; omega
/-- In the midst of the double walk. -/
theorem cmp_mid {X Y : List OutS} (hX : PosO X) (hY : PosO Y) {B : Int} (hB : sumW X * sumW Y ≤ B) {p q : OutS} {k i : Nat} (hp : X[k]? = some p) (hq : Y[i]? = some q) (n : Int) :
 (0 ≤ p.Weight * belowW n (Y.take i) ∧ p.Weight * belowW n (Y.take i) ≤ B) ∧ (0 ≤ p.Weight * atW n (Y.take i) ∧ p.Weight * atW n (Y.take i) ≤ B) ∧ (0 ≤ p.Weight * overW n (Y.take i) ∧ p.Weight * overW n (Y.take i) ≤ B) ∧ 0 ≤ p.Weight * q.Weight ∧ p.Weight * q.Weight ≤ B := by
 have h1 := hX p (List.mem_of_getElem? hp)
 have h2 := hX.le (List.mem_of_getElem? hp)
 have h3 := hY q (List.mem_of_getElem? hq)
 have h4 := hY.le (List.mem_of_getElem? hq)
 have h5 := three_pos n (hY.take i)
 have h6 := three_W n (Y.take i)
 have h7 := (sumW_takeO hY i).2
 have h8 := (three_pos 0 hY).2.2.2
 have key : ∀ v : Int, 0 ≤ v → v ≤ sumW Y → 0 ≤ p.Weight * v ∧ p.Weight * v ≤ B := fun v v0 v1 =>
  ⟨Int.mul_nonneg (by omega) v0, Int.le_trans (Int.mul_le_mul h2 v1 v0 (by omega)) hB⟩
 exact ⟨key _ h5.1 (by omega), key _ h5.2.1 (by omega), key _ h5.2.2.1 (by omega), key _ (by omega) h4⟩
theorem sum_prod {a b : List HopeS} (oa : ∀ x ∈ a, HopeOk x) (ob : ∀ x ∈ b, HopeOk x) (e : cmpE a b = 0) : sumW (spreadL a) * sumW (spreadL b) = prodP a 1 * prodP b 1 := by
 obtain ⟨ea, eb, _⟩ := cmpE_ok e
 rw [spreadL_sum oa, spreadL_sum ob, ← (spreadE_prod oa ea).1, ← (spreadE_prod ob eb).1]
end Go.HL
end
section
namespace Go.HL
section
variable {P : Program} {ops : Array Oper} {n : Nat} {S : List MObj → Prop} {ld : List Nat} {K : Env → List MObj → Prop} {e : Env} {M : List MObj} {listed : Array Bool} {fuel : Nat} {d : Nat} {op : Op} {ty : TypeId} {pos : String} {af : Array Edge} {h : HVal}
/-- A load under a guard out of owned objects of which S knows enough is taken first. -/
theorem ahgl [Tracks] (i : Nat) {j : Nat} {want c : Bool} (hi : ops[i]? = some ⟨some d, op, ty, pos, af, some (j, want)⟩) (hd : Nat.blt d n = true) (hf : Region.free .any ops listed i = true) (hr : (Region.ready .any ops listed).contains i = true) (hl : i ∈ ld) (hS : S M)
 (hg : guardC ops e j want = some c) (hp : c = true → ∃ e2, OpenTo e e2 ∧ ∀ M, S M → EOp P e2 M ⟨some d, op, ty, pos, af, some (j, want)⟩ fun x M' => x = h ∧ M' = M)
 (k : HAny P ops n S ld K fuel (listed.setIfInBounds i true) (upd e d (.opt c h)) M) : HAny P ops n S ld K (fuel + 1) listed e M :=
 HAny.first (T := S) hi (fun t ht => by simp at ht; subst ht; exact blt_lt hd) (.inr ⟨rfl, hl⟩) fuel listed e M (Region.free_spec hi hf) (by simpa using hr)
  ⟨c, hg, fun hc M hM => by
   obtain ⟨e2, h1, h2⟩ := hp hc
   intro I F a w ho hs
   exact Oper.wp_noQ (fun _ _ ⟨v, x, M', J, h3, h4, ⟨e1, e3⟩, h5, h6⟩ => ⟨v, .opt c h, M, J, h3, h4, ⟨rfl, rfl⟩, .opt (fun _ => e1 ▸ h5) (fun hf => by rw [hc] at hf; cases hf), e3 ▸ h6⟩) (h2 M hM I F a w (ho.open h1) hs),
   fun hc => ⟨h, by rw [hc]⟩⟩ hS k
end
theorem wrap8 {x : Nat} (h : x < 16) : IntKind.wrap .u8 (x : Int) = (x : Int) := by
 have : (List.range 16).all (fun x => IntKind.wrap .u8 (x : Int) == (x : Int)) = true := by decide
 simpa using List.all_eq_true.1 this x (List.mem_range.2 h)
theorem wrapu64 {x : Nat} (h : x < 16) : IntKind.wrap .u64 (x : Int) = (x : Int) := by
 have : (List.range 16).all (fun x => IntKind.wrap .u64 (x : Int) == (x : Int)) = true := by decide
 simpa using List.all_eq_true.1 this x (List.mem_range.2 h)
theorem some_int {k : IntKind} {a b : Int} (h : a = b) : some (HVal.int k a) = some (.int k b) := by rw [h]
section
variable {α : Type} {c : α → α → Int}
theorem isort_take1 (l : List α) : isort c (l.take 1) ++ l.drop 1 = l := by
 cases l with
 | nil => rfl
 | cons x r => simp [isort, insB, insF]
theorem get_mid {A R : List α} {x : α} : (A ++ x :: R)[A.length]? = some x := by simp
theorem get_before {A R : List α} {x : α} (h : 0 < A.length) : (A ++ x :: R)[A.length - 1]? = some ((A[A.length - 1]?).getD x) := by
 rw [List.getElem?_append_left (by omega), List.getElem?_eq_getElem (by omega)]
 simp [List.getElem?_eq_getElem (show A.length - 1 < A.length by omega)]
theorem snoc_of {A : List α} (h : 0 < A.length) : ∃ B y, A = B ++ [y] := by
 have hne : A ≠ [] := fun e => by subst e; simp at h
 exact ⟨_, _, (List.dropLast_concat_getLast hne).symm⟩
theorem getD_snoc {A : List α} {y d : α} : ((A ++ [y])[(A ++ [y]).length - 1]?).getD d = y := by simp
theorem swap_mid {A R : List α} {x y : α} : (((A ++ [y]) ++ x :: R).set (A ++ [y]).length y).set ((A ++ [y]).length - 1) x = A ++ x :: y :: R := by
 have e1 : ((A ++ [y]) ++ x :: R).set (A ++ [y]).length y = (A ++ [y]) ++ y :: R := by rw [List.set_append_right _ _ (Nat.le_refl _)]; simp
 rw [e1, List.append_assoc]
 have e2 : (A ++ [y]).length - 1 = A.length := by simp
 rw [e2, List.set_append_right _ _ (Nat.le_refl _)]
 simp
/-- The inner loop ends. -/
theorem ins_exit {l A B : List α} {x : α} {k : Nat} (hx : l[k]? = some x) (hB : insB c x (isort c (l.take k)) = insB c x A ++ B) (h : 0 < A.length → ¬ c x ((A[A.length - 1]?).getD x) < 0) : A ++ x :: (B ++ l.drop (k + 1)) = isort c (l.take (k + 1)) ++ l.drop (k + 1) := by
 rw [take_snoc' hx, isort_snoc, hB]
 rcases Nat.eq_zero_or_pos A.length with h0 | h0
 ·obtain rfl := List.length_eq_zero_iff.1 h0
  simp [insB_nil]
 ·obtain ⟨A', y, rfl⟩ := snoc_of h0
  have := h h0
  rw [getD_snoc] at this
  rw [insB_snoc, if_neg this]; simp
theorem ins_step {A B : List α} {x y : α} {S : List α} (hB : insB c x S = insB c x (A ++ [y]) ++ B) (h : c x y < 0) : insB c x S = insB c x A ++ (y :: B) := by
 rw [hB, insB_snoc, if_pos h]; simp
end
end Go.HL
namespace Go.HL
section
variable {α : Type} {p : α → Bool}
/-- What slices.DeleteFunc has done when it looks at place j. -/
structure DelInv (p : α → Bool) (l : List α) (j : Nat) (D : List α) : Prop where
 len : D.length = l.length
 jle : j ≤ l.length
 lt : ((l.take j).filter (fun x => !p x)).length < j
 kept : D.take ((l.take j).filter (fun x => !p x)).length = (l.take j).filter (fun x => !p x)
 rest : D.drop j = l.drop j
theorem filter_snoc {l : List α} {j : Nat} {x : α} (hx : l[j]? = some x) : (l.take (j + 1)).filter (fun x => !p x) = (l.take j).filter (fun x => !p x) ++ if p x then [] else [x] := by
 rw [take_snoc' hx, List.filter_append]
 by_cases h : p x <;> simp [h]
theorem DelInv.get {l D : List α} {j : Nat} {x : α} (h : DelInv p l j D) (hx : l[j]? = some x) : D[j]? = some x := by
 have h1 := congrArg (fun t => t[0]?) h.rest
 simp only [List.getElem?_drop, Nat.add_zero] at h1
 rw [h1]; exact hx
theorem DelInv.drop1 {l D : List α} {j : Nat} (h : DelInv p l j D) : D.drop (j + 1) = l.drop (j + 1) := by
 have := congrArg (List.drop 1) h.rest
 simpa [List.drop_drop] using this
theorem DelInv.skip {l D : List α} {j : Nat} {x : α} (h : DelInv p l j D) (hx : l[j]? = some x) (hp : p x = true) : DelInv p l (j + 1) D ∧ ((l.take (j + 1)).filter (fun x => !p x)).length = ((l.take j).filter (fun x => !p x)).length := by
 have e := filter_snoc (p := p) hx
 rw [if_pos hp, List.append_nil] at e
 refine ⟨⟨h.len, by have := lt_of_get hx; omega, by rw [e]; have := h.lt; omega, by rw [e]; exact h.kept, h.drop1⟩, by rw [e]⟩
theorem DelInv.keep {l D : List α} {j : Nat} {x : α} (h : DelInv p l j D) (hx : l[j]? = some x) (hp : p x = false) :
 DelInv p l (j + 1) (D.set ((l.take j).filter (fun x => !p x)).length x) ∧ ((l.take (j + 1)).filter (fun x => !p x)).length = ((l.take j).filter (fun x => !p x)).length + 1 := by
 have e := filter_snoc (p := p) hx
 rw [if_neg (by simp [hp])] at e
 have hlt := h.lt
 have hj := lt_of_get hx
 have hl := h.len
 have el : ((l.take (j + 1)).filter (fun x => !p x)).length = ((l.take j).filter (fun x => !p x)).length + 1 := by rw [e]; simp
 refine ⟨⟨by simp [hl], by omega, by omega, ?_, ?_⟩, el⟩
 ·rw [el, e]
  have hk := h.kept
  generalize ((l.take j).filter (fun x => !p x)) = F at *
  rw [take_snoc' (List.getElem?_set_self (by omega)), List.take_set_of_le (Nat.le_refl _), hk]
 ·rw [List.drop_set_of_lt (by omega)]; exact h.drop1
theorem idxF_found (p : α → Bool) : ∀ (l : List α) (k : Int), 0 ≤ k → idxF p l k ≠ -1 → ∃ i : Nat, idxF p l k = k + i ∧ i < l.length ∧ (∃ x, l[i]? = some x ∧ p x = true) ∧ ∀ y ∈ l.take i, p y = false
 | [], k, _, h => by simp [idxF] at h
 | x :: r, k, h0, h => by
   by_cases hx : p x = true
   ·exact ⟨0, by simp [idxF, hx], by simp, ⟨x, rfl, hx⟩, by simp⟩
   ·have e : idxF p (x :: r) k = idxF p r (k + 1) := by simp [idxF, hx]
    rw [e] at h ⊢
    obtain ⟨i, h1, h2, ⟨y, h3, h4⟩, h5⟩ := idxF_found p r (k + 1) (by omega) h
    refine ⟨i + 1, by rw [h1]; simp; omega, by simp; omega, ⟨y, by simpa using h3, h4⟩, fun z hz => ?_⟩
    simp only [List.take_succ_cons, List.mem_cons] at hz
    rcases hz with rfl | hz
    ·simpa using hx
    ·exact h5 z hz
theorem idxF_none (p : α → Bool) : ∀ (l : List α) (k : Int), 0 ≤ k → idxF p l k = -1 → l.filter (fun x => !p x) = l
 | [], _, _, _ => rfl
 | x :: r, k, h0, h => by
   by_cases hx : p x = true
   ·simp [idxF, hx] at h; omega
   ·have e : idxF p (x :: r) k = idxF p r (k + 1) := by simp [idxF, hx]
    rw [e] at h
    rw [List.filter_cons, if_pos (by simp [hx]), idxF_none p r (k + 1) (by omega) h]
theorem DelInv.start {l : List α} {i : Nat} {x : α} (hi : i < l.length) (hx : l[i]? = some x) (hp : p x = true) (hb : ∀ y ∈ l.take i, p y = false) : DelInv p l (i + 1) l ∧ ((l.take (i + 1)).filter (fun x => !p x)).length = i := by
 have e := filter_snoc (p := p) hx
 rw [if_pos hp, List.append_nil, (List.filter_eq_self (l := l.take i) (p := fun x => !p x)).2 (fun y hy => by simp [hb y hy])] at e
 have hl : (l.take i).length = i := by simp; omega
 refine ⟨⟨rfl, by omega, by rw [e]; omega, by rw [e, hl], rfl⟩, by rw [e, hl]⟩
theorem DelInv.done {l D : List α} (h : DelInv p l l.length D) : D.take (l.filter (fun x => !p x)).length = l.filter (fun x => !p x) := by
 have := h.kept
 rwa [List.take_length] at this
end
theorem slOff_or {cap off sz m n : Nat} (h1 : m ≤ n) (h2 : n ≤ cap) : n - m = 0 ∨ slOff cap off sz m = off + m * sz := by
 unfold slOff
 by_cases h : cap = m
 ·exact .inl (by omega)
 ·exact .inr (by rw [if_neg h])
end Go.HL
namespace Go.HL
end Go.HL
end
section
namespace Go.Proofs.YtbihpphgoaflfaaGreatDoor
open Go.HL
set_option maxRecDepth 100000
set_option linter.unusedVariables false
set_option linter.unusedSimpArgs false
set_option maxHeartbeats 1000000 in
/-- benchwarmer/benchref1.ChancesOf -/
theorem c_benchref1_ChancesOf [Tracks] {a b : List HopeS} (hla : a.length ≤ 1000000) (h0a : hopesE a = 0) (hca : (cz a).length ≤ 1000000) (hlb : b.length ≤ 1000000) (h0b : hopesE b = 0) (hcb : (cz b).length ≤ 1000000) : ConP Tryz.prog 27 [eHopes a, eHopes b] (.tup [eChance (if cmpE a b ≠ 0 then chance0 else chanceOf a b), .int .i64 (cmpE a b)]) := by
 obtain ⟨hla12, oka⟩ := hopes_ok h0a
 obtain ⟨hlb12, okb⟩ := hopes_ok h0b
 have hpa := (prodP_one oka).2.2
 have hpb := (prodP_one okb).2.2
 have hpa1 : prodP a 1 ≤ 1000000000001 := hpa.2
 have hpb1 : prodP b 1 ≤ 1000000000001 := hpb.2
 have hm0 : 0 ≤ prodP a 1 * prodP b 1 := Int.mul_nonneg (by omega) (by omega)
 have hm1 : 0 < prodP a 1 * prodP b 1 := Int.mul_pos (by omega) (by omega)
 refine Con.of_bodyc Tryz.func27 rfl Tryz.ntmps27 rfl rfl ?_
 refine hw_reg ?_
 refine de rfl (eop_alloc ty52 rfl fun b4 => ?_)
 refine dp rfl (pop_assign rfl) ?_
 refine dn ?_
 refine hw_reg ?_
 refine dp rfl (pop_move rfl) ?_
 refine dp rfl (pop_call ca16 rfl (WeakL.refl _) (c_benchref1_SpreadOf (h := a) hla oka hca)) ?_
 refine dp rfl (pop_move rfl) ?_
 refine dp rfl (pop_extract rfl rfl) ?_
 refine dp rfl (pop_extract rfl rfl) ?_
 refine dp rfl (pop_assign rfl) ?_
 refine dp rfl (pop_assign rfl) ?_
 refine dn ?_
 refine hw_seq ?_
 refine hw_reg ?_
 refine dp rfl (pop_move rfl) ?_
 refine dp rfl (pop_neq rfl rfl) ?_
 refine dn ?_
 refine hw_cond rfl (fun h1 => ?_) (fun h2 => ?_)
 ·try simp at h1
  have hsa : spreadE a ≠ 0 := by simpa using h1
  refine hw_reg ?_
  refine dp rfl (pop_build (cs := [_, _, _, _, _, _]) ty52 pl52 rfl) ?_
  refine dp rfl (pop_move rfl) ?_
  refine de0 (eop_store (i := 0) ty52 rfl rfl rfl rfl rfl (Nat.le_of_ble_eq_true rfl) ?_)
  refine dp rfl (pop_assign rfl) ?_
  refine dn ?_
  refine hw_ret ?_
  refine ⟨_, _, Ghost.fc0 4 rfl, [_, _], _, ⟨⟨_, _, _, _, _, rfl, ty52, .inr ⟨rfl, rfl, rfl⟩⟩, ⟨rfl, trivial⟩⟩, Weak.refl _, ?_, rfl⟩
  first
  | (have q := hc0; rw [if_neg (show ¬ (cmpE a b ≠ 0) from by rw [hc0]; simp), hc0]; rfl)
  | (have q := hfull
     have e := cmpE_f hsa0 hsb0 hfull
     rw [if_pos (show cmpE a b ≠ 0 from by rw [e]; decide), e]; rfl)
  | (have q := hsb
     have e := cmpE_b hsa0 hsb
     rw [if_pos (show cmpE a b ≠ 0 from by rw [e]; exact hsb), e]; rfl)
  | (have q := hsa
     have e := cmpE_a (b := b) hsa
     rw [if_pos (show cmpE a b ≠ 0 from by rw [e]; exact hsa), e]; rfl)
 ·try simp at h2
  refine hw_skip ?_
  refine seqQ_n ?_
  have hsa0 : spreadE a = 0 := by simpa using h2
  rw [if_neg (show ¬ (spreadE a ≠ 0) from by rw [hsa0]; simp)]
  refine hw_reg ?_
  refine dp rfl (pop_move rfl) ?_
  refine dp rfl (pop_call ca16 rfl (WeakL.refl _) (c_benchref1_SpreadOf (h := b) hlb okb hcb)) ?_
  refine dp rfl (pop_move rfl) ?_
  refine dp rfl (pop_extract rfl rfl) ?_
  refine dp rfl (pop_extract rfl rfl) ?_
  refine dp rfl (pop_assign rfl) ?_
  refine dp rfl (pop_assign rfl) ?_
  refine dn ?_
  refine hw_seq ?_
  refine hw_reg ?_
  refine dp rfl (pop_move rfl) ?_
  refine dp rfl (pop_neq rfl rfl) ?_
  refine dn ?_
  refine hw_cond rfl (fun h3 => ?_) (fun h4 => ?_)
  ·try simp at h3
   have hsb : spreadE b ≠ 0 := by simpa using h3
   refine hw_reg ?_
   refine dp rfl (pop_build (cs := [_, _, _, _, _, _]) ty52 pl52 rfl) ?_
   refine dp rfl (pop_move rfl) ?_
   refine de0 (eop_store (i := 0) ty52 rfl rfl rfl rfl rfl (Nat.le_of_ble_eq_true rfl) ?_)
   refine dp rfl (pop_assign rfl) ?_
   refine dn ?_
   refine hw_ret ?_
   refine ⟨_, _, Ghost.fc0 4 rfl, [_, _], _, ⟨⟨_, _, _, _, _, rfl, ty52, .inr ⟨rfl, rfl, rfl⟩⟩, ⟨rfl, trivial⟩⟩, Weak.refl _, ?_, rfl⟩
   first
   | (have q := hc0; rw [if_neg (show ¬ (cmpE a b ≠ 0) from by rw [hc0]; simp), hc0]; rfl)
   | (have q := hfull
      have e := cmpE_f hsa0 hsb0 hfull
      rw [if_pos (show cmpE a b ≠ 0 from by rw [e]; decide), e]; rfl)
   | (have q := hsb
      have e := cmpE_b hsa0 hsb
      rw [if_pos (show cmpE a b ≠ 0 from by rw [e]; exact hsb), e]; rfl)
   | (have q := hsa
      have e := cmpE_a (b := b) hsa
      rw [if_pos (show cmpE a b ≠ 0 from by rw [e]; exact hsa), e]; rfl)
  ·try simp at h4
   refine hw_skip ?_
   refine seqQ_n ?_
   refine hw_seq ?_
   have hsb0 : spreadE b = 0 := by simpa using h4
   rw [if_neg (show ¬ (spreadE b ≠ 0) from by rw [hsb0]; simp)]
   refine hw_reg ?_
   refine dp rfl (pop_move rfl) ?_
   refine dp rfl (pop_call ca44 rfl (WeakL.refl _) (c_benchref1_ways (h := a) hla oka)) ?_
   refine dp rfl (pop_eq (h' := .int .u64 (prodP a 1)) (pop_conv ty3 ty93 rfl) (congrArg (HVal.int .u64) (wrapu (by omega) (by omega)))) ?_
   refine dp rfl (pop_move rfl) ?_
   refine dp rfl (pop_call ca44 rfl (WeakL.refl _) (c_benchref1_ways (h := b) hlb okb)) ?_
   refine dp rfl (pop_eq (h' := .int .u64 (prodP b 1)) (pop_conv ty3 ty93 rfl) (congrArg (HVal.int .u64) (wrapu (by omega) (by omega)))) ?_
   refine dp rfl (pop_call ca53 rfl (WeakL.refl _) (c_math_bits_Mul64 (m := prodP a 1) (n := prodP b 1) (by omega) (by omega) (by omega) (by omega))) ?_
   refine dp rfl (pop_move rfl) ?_
   refine dp rfl (pop_extract rfl rfl) ?_
   refine dp rfl (pop_extract rfl rfl) ?_
   refine dp rfl (pop_assign rfl) ?_
   refine dp rfl (pop_assign rfl) ?_
   refine dn ?_
   refine hw_reg ?_
   refine dp rfl (pop_move rfl) ?_
   refine dp rfl (pop_gtr rfl rfl) ?_
   refine dp rfl (pop_move rfl) ?_
   refine dg rfl rfl (fun hc => ⟨_, OpenTo.refl _, pop_move rfl⟩) ?_
   refine dg rfl rfl (fun hc => ⟨_, OpenTo.upd (t := 51) rfl (by first | exact hc | simp_all) (OpenTo.refl _), pop_gtr rfl rfl⟩) ?_
   refine dp rfl (pop_picko rfl (.inl rfl) (.inr ⟨_, rfl, fun h => by simp_all⟩)) ?_
   refine dn ?_
   refine hw_cond rfl (fun h5 => ?_) (fun h6 => ?_)
   ·try simp at h5
    have hfull : most < prodP a 1 * prodP b 1 := (hilo_most (A := prodP a 1 * prodP b 1) hm0).1 (by simpa using h5)
    refine hw_reg ?_
    refine dp rfl (pop_build (cs := [_, _, _, _, _, _]) ty52 pl52 rfl) ?_
    refine de0 (eop_store (i := 0) ty52 rfl rfl rfl rfl rfl (Nat.le_of_ble_eq_true rfl) ?_)
    refine dp rfl (pop_assign rfl) ?_
    refine dn ?_
    refine hw_ret ?_
    refine ⟨_, _, Ghost.fc0 4 rfl, [_, _], _, ⟨⟨_, _, _, _, _, rfl, ty52, .inr ⟨rfl, rfl, rfl⟩⟩, ⟨rfl, trivial⟩⟩, Weak.refl _, ?_, rfl⟩
    first
    | (have q := hc0; rw [if_neg (show ¬ (cmpE a b ≠ 0) from by rw [hc0]; simp), hc0]; rfl)
    | (have q := hfull
       have e := cmpE_f hsa0 hsb0 hfull
       rw [if_pos (show cmpE a b ≠ 0 from by rw [e]; decide), e]; rfl)
    | (have q := hsb
       have e := cmpE_b hsa0 hsb
       rw [if_pos (show cmpE a b ≠ 0 from by rw [e]; exact hsb), e]; rfl)
    | (have q := hsa
       have e := cmpE_a (b := b) hsa
       rw [if_pos (show cmpE a b ≠ 0 from by rw [e]; exact hsa), e]; rfl)
   ·try simp at h6
    refine hw_skip ?_
    refine seqQ_n ?_
    have hnf : ¬ most < prodP a 1 * prodP b 1 := fun q => by
     have q2 := (hilo_most (A := prodP a 1 * prodP b 1) hm0).2 q
     simp only [most] at q2
     simp_all
     omega
    have hc0 := cmpE_0 hsa0 hsb0 hnf
    have hpl : prodP a 1 * prodP b 1 ≤ 1000000000000 := Int.not_lt.1 hnf
    have hX := spreadL_pos oka
    have hY := spreadL_pos okb
    have hSP := sum_prod oka okb hc0
    have hB : sumW (spreadL a) * sumW (spreadL b) ≤ 1000000000000 := by rw [hSP]; exact hpl
    have hXl : (spreadL a).length ≤ 1000000 := by rw [spreadL_len]; exact hca
    have hYl : (spreadL b).length ≤ 1000000 := by rw [spreadL_len]; exact hcb
    refine hw_reg ?_
    refine dp rfl (pop_assign rfl) ?_
    refine dp rfl (pop_assign rfl) ?_
    refine dp rfl (pop_assign rfl) ?_
    refine dn ?_
    refine hw_seq ?_
    refine hw_reg ?_
    refine dp rfl (pop_move rfl) ?_
    refine dp rfl (pop_lenm ty37 rfl) ?_
    refine dp rfl (pop_move rfl) ?_
    refine dn ?_
    refine hw_block ?_
    refine hw_loopw [11, 12, 13, 15, 17, 18, 57, 58, 59, 60, 61, 62, 63, 64, 65, 66, 67, 68, 69, 70, 71, 72, 73, 74, 75, 76, 77, 78, 79, 80, 81, 82, 83, 84, 85, 86, 87, 88, 89, 90, 91, 92, 93, 94] (fun (k : Nat) => [(57, .int .i64 k), (11, .int .i64 (winS (spreadL b) ((spreadL a).take k))), (12, .int .i64 (drawS (spreadL b) ((spreadL a).take k))), (13, .int .i64 (loseS (spreadL b) ((spreadL a).take k)))]) (fun (k : Nat) => [.cells b4 [.int .i64 0, .int .i64 0, .int .i64 0, .int .i64 0, .int .i64 0, .int .i64 0]]) (fun (k : Nat) => k ≤ (spreadL a).length ∧ (True)) (fun (k : Nat) => (spreadL a).length - k) (0) ?_ ?_ ?_ ?_
    ·exact ⟨Nat.zero_le _, trivial⟩
    ·exact ⟨rfl, rfl, rfl, rfl, trivial⟩
    ·exact List.Perm.refl _
    ·intro k hinv
     obtain ⟨hk, -⟩ := hinv
     refine hw_reg ?_
     refine dp rfl (pop_lss rfl rfl) ?_
     refine dn ?_
     refine hw_seq ?_
     refine hw_cond rfl (fun h7 => ?_) (fun h8 => ?_)
     ·try simp at h7
      obtain ⟨p, hp⟩ : ∃ p, (spreadL a)[k]? = some p := ⟨_, List.getElem?_eq_getElem h7⟩
      have hdp := drop_cons hp
      have hend := S_bd hX hY k
      refine hw_skip ?_
      refine seqQ_n ?_
      refine hw_seq ?_
      refine hw_block ?_
      refine hw_reg ?_
      refine dp rfl (pop_idx ty37 ty44 rfl rfl rfl (by first | assumption | simp_all)) ?_
      refine dp rfl (pop_loadw ty44 rfl rfl rfl rfl) ?_
      refine de rfl (eop_alloc ty44 rfl fun b15 => ?_)
      refine de0 (eop_storew ty44 rfl rfl rfl rfl rfl ?_)
      refine dn ?_
      refine hw_ghost (Ghost.fc0 15 rfl) ?_
      refine hw_reg ?_
      refine dp rfl (pop_move rfl) ?_
      refine dp rfl (pop_lenm ty37 rfl) ?_
      refine dp rfl (pop_move rfl) ?_
      refine dn ?_
      refine hw_block ?_
      refine hw_loopw [11, 12, 13, 17, 18, 63, 64, 65, 66, 67, 68, 69, 70, 71, 72, 73, 74, 75, 76, 77, 78, 79, 80, 81, 82, 83, 84, 85, 86, 87, 88, 89, 90, 91, 92, 93] (fun (i : Nat) => [(63, .int .i64 i), (11, .int .i64 (winS (spreadL b) ((spreadL a).take k) + p.Weight * belowW p.Points ((spreadL b).take i))), (12, .int .i64 (drawS (spreadL b) ((spreadL a).take k) + p.Weight * atW p.Points ((spreadL b).take i))), (13, .int .i64 (loseS (spreadL b) ((spreadL a).take k) + p.Weight * overW p.Points ((spreadL b).take i)))]) (fun (i : Nat) => [.cells b4 [.int .i64 0, .int .i64 0, .int .i64 0, .int .i64 0, .int .i64 0, .int .i64 0]]) (fun (i : Nat) => i ≤ (spreadL b).length ∧ (True)) (fun (i : Nat) => (spreadL b).length - i) (0) ?_ ?_ ?_ ?_
      ·exact ⟨Nat.zero_le _, trivial⟩
      ·exact ⟨rfl, some_int (by simp [belowW]), some_int (by simp [atW]), some_int (by simp [overW]), trivial⟩
      ·exact List.Perm.refl _
      ·intro i hinv
       obtain ⟨hi, -⟩ := hinv
       refine hw_reg ?_
       refine dp rfl (pop_lss rfl rfl) ?_
       refine dn ?_
       refine hw_seq ?_
       refine hw_cond rfl (fun h9 => ?_) (fun h10 => ?_)
       ·try simp at h9
        obtain ⟨q, hq⟩ : ∃ q, (spreadL b)[i]? = some q := ⟨_, List.getElem?_eq_getElem h9⟩
        have hdq := drop_cons hq
        have hmid := cmp_mid hX hY hB hp hq p.Points
        refine hw_skip ?_
        refine seqQ_n ?_
        refine hw_seq ?_
        refine hw_block ?_
        refine hw_reg ?_
        refine dp rfl (pop_idx ty37 ty44 rfl rfl rfl (by first | assumption | simp_all)) ?_
        refine dp rfl (pop_loadw ty44 rfl rfl rfl rfl) ?_
        refine de rfl (eop_alloc ty44 rfl fun b17 => ?_)
        refine de0 (eop_storew ty44 rfl rfl rfl rfl rfl ?_)
        refine dn ?_
        refine hw_ghost (Ghost.fc0 17 rfl) ?_
        refine hw_reg ?_
        refine dp rfl (pop_fieldAddr ty44 rfl ty3 (by decide) rfl) ?_
        refine dp rfl (pop_load ty3 rfl rfl rfl) ?_
        refine dp rfl (pop_fieldAddr ty44 rfl ty3 (by decide) rfl) ?_
        refine dp rfl (pop_load ty3 rfl rfl rfl) ?_
        refine dp rfl (pop_mul64 rfl rfl (by omega) (by omega)) ?_
        refine dp rfl (pop_assign rfl) ?_
        refine dn ?_
        refine hw_block ?_
        refine hw_reg ?_
        refine dp rfl (pop_fieldAddr ty44 rfl ty3 (by decide) rfl) ?_
        refine dp rfl (pop_load ty3 rfl rfl rfl) ?_
        refine dp rfl (pop_fieldAddr ty44 rfl ty3 (by decide) rfl) ?_
        refine dp rfl (pop_load ty3 rfl rfl rfl) ?_
        refine dp rfl (pop_gtr rfl rfl) ?_
        refine dp rfl (pop_assign rfl) ?_
        refine dn ?_
        refine hw_cond rfl (fun h11 => ?_) (fun h12 => ?_)
        ·try simp at h11
         refine hw_reg1 ?_
         refine dp rfl (pop_move rfl) ?_
         refine dp rfl (pop_move rfl) ?_
         refine dp rfl (pop_add64 rfl rfl (by omega) (by omega)) ?_
         refine dp rfl (pop_assign rfl) ?_
         refine dn ?_
         refine blockQ_n ?_
         refine blockQ_n ?_
         refine seqQ_n ?_
         refine hw_reg1 ?_
         refine dp rfl (pop_add64 rfl rfl (by omega) (by omega)) ?_
         refine dp rfl (pop_move rfl) ?_
         refine dn ?_
         exact ⟨i + 1, ⟨by omega, trivial⟩, by dsimp only; omega, ⟨rfl, by rw [belowW_take hq, if_pos (by omega), Int.mul_add, ← Int.add_assoc]; rfl, by rw [atW_take hq, if_neg (by omega), Int.add_zero]; rfl, by rw [overW_take hq, if_neg (by omega), Int.add_zero]; rfl, trivial⟩, (by repeat (first | exact keeps_refl | refine keeps_upd rfl ?_ | refine keeps_loop rfl rfl ?_)), perm_eq rfl⟩
        ·try simp at h12
         refine hw_reg ?_
         refine dp rfl (pop_fieldAddr ty44 rfl ty3 (by decide) rfl) ?_
         refine dp rfl (pop_load ty3 rfl rfl rfl) ?_
         refine dp rfl (pop_fieldAddr ty44 rfl ty3 (by decide) rfl) ?_
         refine dp rfl (pop_load ty3 rfl rfl rfl) ?_
         refine dp rfl (pop_eql rfl rfl) ?_
         refine dp rfl (pop_assign rfl) ?_
         refine dn ?_
         refine hw_cond rfl (fun h13 => ?_) (fun h14 => ?_)
         ·try simp at h13
          refine hw_reg1 ?_
          refine dp rfl (pop_move rfl) ?_
          refine dp rfl (pop_move rfl) ?_
          refine dp rfl (pop_add64 rfl rfl (by omega) (by omega)) ?_
          refine dp rfl (pop_assign rfl) ?_
          refine dn ?_
          refine blockQ_n ?_
          refine blockQ_n ?_
          refine seqQ_n ?_
          refine hw_reg1 ?_
          refine dp rfl (pop_add64 rfl rfl (by omega) (by omega)) ?_
          refine dp rfl (pop_move rfl) ?_
          refine dn ?_
          exact ⟨i + 1, ⟨by omega, trivial⟩, by dsimp only; omega, ⟨rfl, by rw [belowW_take hq, if_neg (by omega), Int.add_zero]; rfl, by rw [atW_take hq, if_pos (by omega), Int.mul_add, ← Int.add_assoc]; rfl, by rw [overW_take hq, if_neg (by omega), Int.add_zero]; rfl, trivial⟩, (by repeat (first | exact keeps_refl | refine keeps_upd rfl ?_ | refine keeps_loop rfl rfl ?_)), perm_eq rfl⟩
         ·try simp at h14
          refine hw_reg1 ?_
          refine dp rfl (pop_move rfl) ?_
          refine dp rfl (pop_move rfl) ?_
          refine dp rfl (pop_add64 rfl rfl (by omega) (by omega)) ?_
          refine dp rfl (pop_assign rfl) ?_
          refine dn ?_
          refine blockQ_n ?_
          refine blockQ_n ?_
          refine seqQ_n ?_
          refine hw_reg1 ?_
          refine dp rfl (pop_add64 rfl rfl (by omega) (by omega)) ?_
          refine dp rfl (pop_move rfl) ?_
          refine dn ?_
          exact ⟨i + 1, ⟨by omega, trivial⟩, by dsimp only; omega, ⟨rfl, by rw [belowW_take hq, if_neg (by omega), Int.add_zero]; rfl, by rw [atW_take hq, if_neg (by omega), Int.add_zero]; rfl, by rw [overW_take hq, if_pos (by omega), Int.mul_add, ← Int.add_assoc]; rfl, trivial⟩, (by repeat (first | exact keeps_refl | refine keeps_upd rfl ?_ | refine keeps_loop rfl rfl ?_)), perm_eq rfl⟩
       ·try simp at h10
        have hni : (spreadL b).length ≤ i := by omega
        obtain rfl : i = (spreadL b).length := by omega
        rw [List.take_length]
        refine hw_exit ?_
        refine seqQ_x ?_
        refine loopQ_x ?_
        refine blockQ_eq ?_
        refine blockQ_n ?_
        refine seqQ_n ?_
        refine hw_reg1 ?_
        refine dp rfl (pop_add64 rfl rfl (by omega) (by omega)) ?_
        refine dp rfl (pop_move rfl) ?_
        refine dn ?_
        exact ⟨k + 1, ⟨by omega, trivial⟩, by dsimp only; omega, ⟨rfl, by rw [winS_take hp]; rfl, by rw [drawS_take hp]; rfl, by rw [loseS_take hp]; rfl, trivial⟩, (by repeat (first | exact keeps_refl | refine keeps_upd rfl ?_ | refine keeps_loop rfl rfl ?_)), perm_eq rfl⟩
     ·try simp at h8
      have hnk : (spreadL a).length ≤ k := by omega
      obtain rfl : k = (spreadL a).length := by omega
      rw [List.take_length]
      refine hw_exit ?_
      refine seqQ_x ?_
      refine loopQ_x ?_
      refine blockQ_eq ?_
      refine seqQ_n ?_
      have hend := S_bd hX hY (spreadL a).length
      rw [List.take_length] at hend
      refine hw_reg ?_
      refine dp rfl (pop_move rfl) ?_
      refine dp rfl (pop_call ca44 rfl (WeakL.refl _) (c_benchref1_ways (h := a) hla oka)) ?_
      refine dp rfl (pop_move rfl) ?_
      refine dp rfl (pop_call ca44 rfl (WeakL.refl _) (c_benchref1_ways (h := b) hlb okb)) ?_
      refine dp rfl (pop_mul64 rfl rfl (by omega) (by omega)) ?_
      refine dp rfl (pop_assign rfl) ?_
      refine dn ?_
      refine hw_reg ?_
      refine dp rfl (pop_move rfl) ?_
      refine dp rfl (pop_move rfl) ?_
      refine dp rfl (pop_call ca32 rfl (WeakL.refl _) (c_benchref1_Lowest (n := winS (spreadL b) (spreadL a)) (d := prodP a 1 * prodP b 1) (by omega) (by omega))) ?_
      refine dp rfl (pop_move rfl) ?_
      refine dp rfl (pop_move rfl) ?_
      refine dp rfl (pop_call ca32 rfl (WeakL.refl _) (c_benchref1_Lowest (n := drawS (spreadL b) (spreadL a)) (d := prodP a 1 * prodP b 1) (by omega) (by omega))) ?_
      refine dp rfl (pop_move rfl) ?_
      refine dp rfl (pop_move rfl) ?_
      refine dp rfl (pop_call ca32 rfl (WeakL.refl _) (c_benchref1_Lowest (n := loseS (spreadL b) (spreadL a)) (d := prodP a 1 * prodP b 1) (by omega) (by omega))) ?_
      refine dp rfl (pop_build (cs := [_, _, _, _, _, _]) ty52 pl52 rfl) ?_
      refine de0 (eop_store (i := 0) ty52 rfl rfl rfl rfl rfl (Nat.le_of_ble_eq_true rfl) ?_)
      refine dp rfl (pop_assign rfl) ?_
      refine dn ?_
      refine hw_ret ?_
      refine ⟨_, _, Ghost.fc0 4 rfl, [_, _], _, ⟨⟨_, _, _, _, _, rfl, ty52, .inr ⟨rfl, rfl, rfl⟩⟩, ⟨rfl, trivial⟩⟩, Weak.refl _, ?_, rfl⟩
      first
      | (have q := hc0; rw [if_neg (show ¬ (cmpE a b ≠ 0) from by rw [hc0]; simp), hc0]; rfl)
      | (have q := hfull
         have e := cmpE_f hsa0 hsb0 hfull
         rw [if_pos (show cmpE a b ≠ 0 from by rw [e]; decide), e]; rfl)
      | (have q := hsb
         have e := cmpE_b hsa0 hsb
         rw [if_pos (show cmpE a b ≠ 0 from by rw [e]; exact hsb), e]; rfl)
      | (have q := hsa
         have e := cmpE_a (b := b) hsa
         rw [if_pos (show cmpE a b ≠ 0 from by rw [e]; exact hsa), e]; rfl)
end Go.Proofs.YtbihpphgoaflfaaGreatDoor
end
section
namespace Go.Proofs.YtbihpphgoaflfaaGreatDoor
open Go.HL
set_option maxRecDepth 100000
set_option linter.unusedVariables false
set_option linter.unusedSimpArgs false
/-- slices.IndexFunc[[]benchwarmer/api.Hope,benchwarmer/api.Hope] -/
theorem c_slices_IndexFunc_api_Hope_api_Hope [Tracks] {l : List HopeS} {fid : FuncId} {caps : List HVal} {p : HopeS → Bool} (hca : Callable Tryz.prog fid) (hp : ∀ x, ConP Tryz.prog fid ([eHope x] ++ caps) (.bool (p x))) (hl : l.length ≤ 1000000) : ConP Tryz.prog 80 [.slice 2 (l.map eHope), .fn (.func fid) [] caps] (.int .i64 (idxF p l 0)) := by
 refine Con.of_body Tryz.func80 rfl Tryz.ntmps80 rfl rfl ?_
 refine hw_reg ?_
 refine dp rfl (pop_assign rfl) ?_
 refine dn ?_
 refine hw_seq ?_
 refine hw_reg ?_
 refine dp rfl (pop_move rfl) ?_
 refine dp rfl (pop_lenm ty26 rfl) ?_
 refine dp rfl (pop_move rfl) ?_
 refine dn ?_
 refine hw_block ?_
 refine hw_loopw [4, 5, 8, 9, 10, 11, 12, 13, 14, 15, 16, 17, 18] (fun (k : Nat) => [(8, .int .i64 k)]) (fun (k : Nat) => []) (fun (k : Nat) => k ≤ l.length ∧ (idxF p l 0 = idxF p (l.drop k) k)) (fun (k : Nat) => l.length - k) (0) ?_ ?_ ?_ ?_
 ·exact ⟨Nat.zero_le _, rfl⟩
 ·exact ⟨rfl, trivial⟩
 ·exact List.Perm.refl _
 ·intro k hinv
  obtain ⟨hk, hg⟩ := hinv
  refine hw_reg ?_
  refine dp rfl (pop_lss rfl rfl) ?_
  refine dn ?_
  refine hw_seq ?_
  refine hw_cond rfl (fun h1 => ?_) (fun h2 => ?_)
  ·try simp at h1
   obtain ⟨x, hx⟩ : ∃ x, l[k]? = some x := ⟨_, List.getElem?_eq_getElem h1⟩
   have hdx := drop_cons hx
   rw [hdx] at hg
   refine hw_skip ?_
   refine seqQ_n ?_
   refine hw_seq ?_
   refine hw_block ?_
   refine hw_reg ?_
   refine dp rfl (pop_move rfl) ?_
   refine dp rfl (pop_assign rfl) ?_
   refine dn ?_
   refine hw_reg ?_
   refine dp rfl (pop_move rfl) ?_
   refine dp rfl (pop_move rfl) ?_
   refine dp rfl (pop_move rfl) ?_
   refine dp rfl (pop_idx ty26 ty49 rfl rfl rfl (by first | assumption | simp_all)) ?_
   refine dp rfl (pop_loadw ty49 rfl rfl rfl rfl) ?_
   refine dp rfl (pop_callv hca rfl rfl (WeakL.refl _) (hp _)) ?_
   refine dn ?_
   refine hw_cond rfl (fun h3 => ?_) (fun h4 => ?_)
   ·try simp at h3
    refine hw_reg ?_
    refine dp rfl (pop_move rfl) ?_
    refine dp rfl (pop_assign rfl) ?_
    refine dn ?_
    refine hw_ret ?_
    refine ret_p rfl ?_
    show HVal.int .i64 _ = _
    first | (rw [hg]; rfl) | (rw [hg]; simp_all [idxF])
   ·try simp at h4
    refine hw_skip ?_
    refine blockQ_n ?_
    refine seqQ_n ?_
    refine hw_reg1 ?_
    refine dp rfl (pop_add64 rfl rfl (by omega) (by omega)) ?_
    refine dp rfl (pop_move rfl) ?_
    refine dn ?_
    refine ⟨k + 1, ?_, ?_, ⟨rfl, trivial⟩, (by repeat (first | exact keeps_refl | refine keeps_upd rfl ?_ | refine keeps_loop rfl rfl ?_)), List.Perm.refl _⟩
    ·refine ⟨by omega, ?_⟩
     rw [hg, idxF, if_neg (by simp_all)]; rfl
    ·dsimp only; omega
  ·try simp at h2
   have hnk : l.length ≤ k := by omega
   obtain rfl : k = l.length := by omega
   rw [drop_all (Nat.le_refl _)] at hg
   refine hw_exit ?_
   refine seqQ_x ?_
   refine loopQ_x ?_
   refine blockQ_eq ?_
   refine seqQ_n ?_
   refine hw_reg ?_
   refine dp rfl (pop_assign rfl) ?_
   refine dn ?_
   refine hw_ret ?_
   refine ret_p rfl ?_
   show HVal.int .i64 _ = _
   first | (rw [hg]; rfl) | (rw [hg]; simp_all [idxF])

/-- slices.ContainsFunc[[]benchwarmer/api.Hope,benchwarmer/api.Hope] -/
theorem c_slices_ContainsFunc_api_Hope_api_Hope [Tracks] {l : List HopeS} {fid : FuncId} {caps : List HVal} {p : HopeS → Bool} (hca : Callable Tryz.prog fid) (hp : ∀ x, ConP Tryz.prog fid ([eHope x] ++ caps) (.bool (p x))) (hl : l.length ≤ 1000000) : ConP Tryz.prog 54 [.slice 2 (l.map eHope), .fn (.func fid) [] caps] (.bool (l.any p)) := by
 refine Con.of_body Tryz.func54 rfl Tryz.ntmps54 rfl rfl ?_
 refine hw_reg ?_
 refine dp rfl (pop_assign rfl) ?_
 refine dn ?_
 refine hw_reg ?_
 refine dp rfl (pop_move rfl) ?_
 refine dp rfl (pop_move rfl) ?_
 refine dp rfl (pop_call ca80 rfl (WeakL.refl _) (c_slices_IndexFunc_api_Hope_api_Hope hca hp hl)) ?_
 refine dp rfl (pop_geq rfl rfl) ?_
 refine dp rfl (pop_assign rfl) ?_
 refine dn ?_
 refine hw_ret ?_
 refine ret_p rfl ?_
 congr 1; exact idxF_nonneg p l 0 (by omega)

/-- slices.Equal[[]benchwarmer/api.Outcome,benchwarmer/api.Outcome] -/
theorem c_slices_Equal_api_Outcome_api_Outcome [Tracks] {l m : List OutS} (hl : l.length ≤ 1000000) : ConP Tryz.prog 19 [eOuts l, eOuts m] (.bool (eqSts eOut l m)) := by
 refine Con.of_body Tryz.func19 rfl Tryz.ntmps19 rfl rfl ?_
 refine hw_reg ?_
 refine dp rfl (pop_assign rfl) ?_
 refine dn ?_
 refine hw_seq ?_
 refine hw_reg ?_
 refine dp rfl (pop_move rfl) ?_
 refine dp rfl (pop_lenm ty37 rfl) ?_
 refine dp rfl (pop_move rfl) ?_
 refine dp rfl (pop_lenm ty37 rfl) ?_
 refine dp rfl (pop_neq rfl rfl) ?_
 refine dn ?_
 refine hw_cond rfl (fun h1 => ?_) (fun h2 => ?_)
 ·try simp at h1
  refine hw_reg ?_
  refine dp rfl (pop_assign rfl) ?_
  refine dn ?_
  refine hw_ret ?_
  refine ret_p rfl ?_
  show HVal.bool _ = _
  first | (congr 1; symm; exact eqSts_len (by omega)) | (rw [hg.2, eqSts, show eqSt eOut x y = false from h5]; rfl) | (rw [hg.2, drop_all (Nat.le_of_eq hg.1.symm)]; rfl)
 ·try simp at h2
  refine hw_skip ?_
  refine seqQ_n ?_
  refine hw_seq ?_
  refine hw_reg ?_
  refine dp rfl (pop_move rfl) ?_
  refine dp rfl (pop_lenm ty37 rfl) ?_
  refine dp rfl (pop_move rfl) ?_
  refine dn ?_
  refine hw_block ?_
  refine hw_loopw [4, 5, 13, 14, 15, 16, 17, 18, 19, 20, 21, 22, 23, 24, 25] (fun (k : Nat) => [(13, .int .i64 k)]) (fun (k : Nat) => []) (fun (k : Nat) => k ≤ l.length ∧ (l.length = m.length ∧ eqSts eOut l m = eqSts eOut (l.drop k) (m.drop k))) (fun (k : Nat) => l.length - k) (0) ?_ ?_ ?_ ?_
  ·refine ⟨Nat.zero_le _, ?_, rfl⟩
   omega
  ·exact ⟨rfl, trivial⟩
  ·exact List.Perm.refl _
  ·intro k hinv
   obtain ⟨hk, hg⟩ := hinv
   refine hw_reg ?_
   refine dp rfl (pop_lss rfl rfl) ?_
   refine dn ?_
   refine hw_seq ?_
   refine hw_cond rfl (fun h3 => ?_) (fun h4 => ?_)
   ·try simp at h3
    obtain ⟨x, hx⟩ : ∃ x, l[k]? = some x := ⟨_, List.getElem?_eq_getElem h3⟩
    have hdx := drop_cons hx
    obtain ⟨y, hy⟩ : ∃ y, m[k]? = some y := ⟨_, List.getElem?_eq_getElem (by omega)⟩
    rw [hdx, drop_cons hy] at hg
    refine hw_skip ?_
    refine seqQ_n ?_
    refine hw_seq ?_
    refine hw_block ?_
    refine hw_reg ?_
    refine dp rfl (pop_move rfl) ?_
    refine dp rfl (pop_assign rfl) ?_
    refine dn ?_
    refine hw_draw (fun _ => True) [] mixed ?_
    refine ahp 0 rfl rfl (by kernel_rfl) (by kernel_rfl) (pop_move rfl) ?_
    refine ahp 1 rfl rfl (by kernel_rfl) (by kernel_rfl) (pop_move rfl) ?_
    refine ahp 2 rfl rfl (by kernel_rfl) (by kernel_rfl) (pop_idx ty37 ty44 rfl rfl rfl (by first | assumption | simp_all)) ?_
    refine ahp 3 rfl rfl (by kernel_rfl) (by kernel_rfl) (pop_loadw ty44 rfl rfl rfl rfl) ?_
    refine ahp 4 rfl rfl (by kernel_rfl) (by kernel_rfl) (pop_move rfl) ?_
    refine ahp 5 rfl rfl (by kernel_rfl) (by kernel_rfl) (pop_move rfl) ?_
    refine ahp 6 rfl rfl (by kernel_rfl) (by kernel_rfl) (pop_idx ty37 ty44 rfl rfl rfl (by first | assumption | simp_all)) ?_
    refine ahp 7 rfl rfl (by kernel_rfl) (by kernel_rfl) (pop_loadw ty44 rfl rfl rfl rfl) ?_
    refine ahp 8 rfl rfl (by kernel_rfl) (by kernel_rfl) (pop_neqst ty44 eq44 rfl rfl ⟨rfl, ⟨_, _, _, _, ty3, rfl⟩, ⟨rfl, ⟨_, _, _, _, ty3, rfl⟩, trivial⟩⟩) ?_
    refine ahz (by kernel_rfl) ?_
    refine hw_cond rfl (fun h5 => ?_) (fun h6 => ?_)
    ·try simp at h5
     refine hw_reg ?_
     refine dp rfl (pop_assign rfl) ?_
     refine dn ?_
     refine hw_ret ?_
     refine ret_p rfl ?_
     show HVal.bool _ = _
     first | (congr 1; symm; exact eqSts_len (by omega)) | (rw [hg.2, eqSts, show eqSt eOut x y = false from h5]; rfl) | (rw [hg.2, drop_all (Nat.le_of_eq hg.1.symm)]; rfl)
    ·try simp at h6
     refine hw_skip ?_
     refine blockQ_n ?_
     refine seqQ_n ?_
     refine hw_reg1 ?_
     refine dp rfl (pop_add64 rfl rfl (by omega) (by omega)) ?_
     refine dp rfl (pop_move rfl) ?_
     refine dn ?_
     refine ⟨k + 1, ?_, ?_, ⟨rfl, trivial⟩, (by repeat (first | exact keeps_refl | refine keeps_upd rfl ?_ | refine keeps_loop rfl rfl ?_)), List.Perm.refl _⟩
     ·refine ⟨by omega, hg.1, ?_⟩
      rw [hg.2, eqSts, show eqSt eOut x y = true from h6]; rfl
     ·dsimp only; omega
   ·try simp at h4
    have hnk : l.length ≤ k := by omega
    obtain rfl : k = l.length := by omega
    rw [drop_all (Nat.le_refl _)] at hg
    refine hw_exit ?_
    refine seqQ_x ?_
    refine loopQ_x ?_
    refine blockQ_eq ?_
    refine seqQ_n ?_
    refine hw_reg ?_
    refine dp rfl (pop_assign rfl) ?_
    refine dn ?_
    refine hw_ret ?_
    refine ret_p rfl ?_
    show HVal.bool _ = _
    first | (congr 1; symm; exact eqSts_len (by omega)) | (rw [hg.2, eqSts, show eqSt eOut x y = false from h5]; rfl) | (rw [hg.2, drop_all (Nat.le_of_eq hg.1.symm)]; rfl)

/-- benchwarmer/value.hope$1 -/
theorem c_value_hope_1 [Tracks] {x : HopeS} {s : Str}  : ConP Tryz.prog 81 [eHope x, .vptr [.str s] 0] (.bool (x.Player == s)) := by
 refine Con.of_body Tryz.func81 rfl Tryz.ntmps81 rfl rfl ?_
 refine hw_reg ?_
 refine dp rfl (pop_box rfl rfl) ?_
 refine dp rfl (pop_assign rfl) ?_
 refine dn ?_
 refine hw_reg ?_
 refine dp rfl (pop_fieldAddr ty49 rfl ty9 (by decide) rfl) ?_
 refine dp rfl (pop_load ty9 rfl rfl rfl) ?_
 refine dp rfl (pop_load ty9 rfl rfl rfl) ?_
 refine dp rfl (pop_eqls rfl rfl) ?_
 refine dp rfl (pop_assign rfl) ?_
 refine dn ?_
 refine hw_ret ?_
 refine ret_p rfl ?_
 rfl

/-- benchwarmer/value.hope -/
theorem c_value_hope [Tracks] {h : List HopeS} {s : Str} (hl : h.length ≤ 1000000) : ConP Tryz.prog 51 [eHopes h, .str s] (.int .i64 (idxF (fun x => x.Player == s) h 0)) := by
 refine Con.of_body Tryz.func51 rfl Tryz.ntmps51 rfl rfl ?_
 refine hw_reg ?_
 refine dp rfl (pop_box rfl rfl) ?_
 refine dp rfl (pop_assign rfl) ?_
 refine dn ?_
 refine hw_reg ?_
 refine dp rfl (pop_move rfl) ?_
 refine dp rfl (pop_makeFunc rfl rfl) ?_
 refine dp rfl (pop_call ca80 rfl (WeakL.refl _) (c_slices_IndexFunc_api_Hope_api_Hope (l := h) (p := fun x => x.Player == s) ca81 (fun _ => c_value_hope_1) hl)) ?_
 refine dp rfl (pop_assign rfl) ?_
 refine dn ?_
 refine hw_ret ?_
 refine ret_p rfl ?_
 rfl

/-- benchwarmer/benchref1.sameHope -/
theorem c_benchref1_sameHope [Tracks] {x y : HopeS} (hx : x.Outs.length ≤ 1000000) : ConP Tryz.prog 56 [eHope x, eHope y] (.bool (x.Player == y.Player && eqSts eOut x.Outs y.Outs)) := by
 refine Con.of_body Tryz.func56 rfl Tryz.ntmps56 rfl rfl ?_
 refine hw_reg ?_
 refine dp rfl (pop_box rfl rfl) ?_
 refine dp rfl (pop_box rfl rfl) ?_
 refine dp rfl (pop_assign rfl) ?_
 refine dn ?_
 refine hw_reg ?_
 refine dp rfl (pop_fieldAddr ty49 rfl ty9 (by decide) rfl) ?_
 refine dp rfl (pop_load ty9 rfl rfl rfl) ?_
 refine dp rfl (pop_fieldAddr ty49 rfl ty9 (by decide) rfl) ?_
 refine dp rfl (pop_load ty9 rfl rfl rfl) ?_
 refine dp rfl (pop_eqls rfl rfl) ?_
 refine dp rfl (pop_move rfl) ?_
 refine dg rfl rfl (fun hc => ⟨_, OpenTo.refl _, pop_fieldAddr ty49 rfl ty37 (by decide) rfl⟩) ?_
 refine dg rfl rfl (fun hc => ⟨_, OpenTo.upd (t := 11) rfl (by first | exact hc | simp_all) (OpenTo.refl _), pop_load ty37 rfl rfl rfl⟩) ?_
 refine dg rfl rfl (fun hc => ⟨_, OpenTo.refl _, pop_fieldAddr ty49 rfl ty37 (by decide) rfl⟩) ?_
 refine dg rfl rfl (fun hc => ⟨_, OpenTo.upd (t := 13) rfl (by first | exact hc | simp_all) (OpenTo.refl _), pop_load ty37 rfl rfl rfl⟩) ?_
 refine dg rfl rfl (fun hc => ⟨_, OpenTo.upd (t := 14) rfl (by first | exact hc | simp_all) (OpenTo.upd (t := 12) rfl (by first | exact hc | simp_all) (OpenTo.refl _)), pop_call ca19 rfl (WeakL.refl _) (c_slices_Equal_api_Outcome_api_Outcome (l := x.Outs) (m := y.Outs) hx)⟩) ?_
 refine dp rfl (pop_picko rfl (.inr ⟨_, rfl, fun h => by simp_all⟩) (.inl rfl)) ?_
 refine dp rfl (pop_assign rfl) ?_
 refine dn ?_
 refine hw_ret ?_
 refine ret_p rfl ?_
 show HVal.bool _ = _
 cases x.Player == y.Player <;> cases eqSts eOut x.Outs y.Outs <;> rfl

/-- benchwarmer/benchref1.BetterFault$1 -/
theorem c_benchref1_BetterFault_1 [Tracks] {x y : HopeS} (hy : y.Outs.length ≤ 1000000) : ConP Tryz.prog 55 [eHope x, .vptr (hcells (eHope y)) 0] (.bool (y.Player == x.Player && eqSts eOut y.Outs x.Outs)) := by
 refine Con.of_body Tryz.func55 rfl Tryz.ntmps55 rfl rfl ?_
 refine hw_reg ?_
 refine dp rfl (pop_box rfl rfl) ?_
 refine dp rfl (pop_assign rfl) ?_
 refine dn ?_
 refine hw_reg ?_
 refine dp rfl (pop_loadw ty49 rfl rfl rfl rfl) ?_
 refine dp rfl (pop_loadw ty49 rfl rfl rfl rfl) ?_
 refine dp rfl (pop_call ca56 rfl (WeakL.refl _) (c_benchref1_sameHope (x := y) (y := x) hy)) ?_
 refine dp rfl (pop_assign rfl) ?_
 refine dn ?_
 refine hw_ret ?_
 refine ret_p rfl ?_
 rfl

/-- benchwarmer/benchref1.BetterFault$2 -/
theorem c_benchref1_BetterFault_2 [Tracks] {x y : HopeS}  : ConP Tryz.prog 58 [eHope x, .vptr (hcells (eHope y)) 0] (.bool (x.Player == y.Player)) := by
 refine Con.of_body Tryz.func58 rfl Tryz.ntmps58 rfl rfl ?_
 refine hw_reg ?_
 refine dp rfl (pop_box rfl rfl) ?_
 refine dp rfl (pop_assign rfl) ?_
 refine dn ?_
 refine hw_reg ?_
 refine dp rfl (pop_fieldAddr ty49 rfl ty9 (by decide) rfl) ?_
 refine dp rfl (pop_load ty9 rfl rfl rfl) ?_
 refine dp rfl (pop_fieldAddr ty49 rfl ty9 (by decide) rfl) ?_
 refine dp rfl (pop_load ty9 rfl rfl rfl) ?_
 refine dp rfl (pop_eqls rfl rfl) ?_
 refine dp rfl (pop_assign rfl) ?_
 refine dn ?_
 refine hw_ret ?_
 refine ret_p rfl ?_
 rfl
end Go.Proofs.YtbihpphgoaflfaaGreatDoor
end
section
namespace Go.HL
abbrev eEnd (x : EndS) : HVal := .agg [.int .i64 x.win, .int .i64 x.draw, .int .i64 x.lose]
theorem stop_at {Y : List OutS} (hI : IncO Y) {i : Nat} {n : Int} (h1 : ∀ z ∈ Y.take i, z.Points < n) (h2 : i < Y.length → ¬ (Y.getD i out0).Points < n) : belowW n Y = sumW (Y.take i) := by
 refine belowW_at h1 ?_
 by_cases c : i < Y.length
 ·have hq := List.getElem?_eq_getElem c
  have e : Y.getD i out0 = Y[i] := by simp [List.getD, hq]
  have h3 := h2 c
  rw [e] at h3
  exact hI.drop hq (by omega)
 ·intro q hq
  rw [List.drop_eq_nil_of_le (by omega)] at hq
  cases hq
theorem less_next {X Y : List OutS} (hI : IncO X) {k i : Nat} {p : OutS} (hp : X[k]? = some p) (h : ∀ q ∈ Y.take i, q.Points < p.Points) : ∀ q ∈ Y.take i, ∀ z ∈ X.drop (k + 1), q.Points < z.Points := fun q hq z hz => by
 have h1 := hI.drop hp (Int.le_refl _) z (by rw [drop_cons hp]; exact List.mem_cons_of_mem _ hz)
 have h2 := h q hq
 omega
theorem cmp_all {X Y : List OutS} (hX : PosO X) (hY : PosO Y) {B : Int} (hB : sumW X * sumW Y ≤ B) {p : OutS} {k : Nat} (hp : X[k]? = some p) (n : Int) :
 (0 ≤ p.Weight * belowW n Y ∧ p.Weight * belowW n Y ≤ B) ∧ (0 ≤ p.Weight * atW n Y ∧ p.Weight * atW n Y ≤ B) ∧ (0 ≤ p.Weight * overW n Y ∧ p.Weight * overW n Y ≤ B) := by
 have h1 := hX p (List.mem_of_getElem? hp)
 have h2 := hX.le (List.mem_of_getElem? hp)
 have h5 := three_pos n hY
 have h6 := three_W n Y
 have key : ∀ v : Int, 0 ≤ v → v ≤ sumW Y → 0 ≤ p.Weight * v ∧ p.Weight * v ≤ B := fun v v0 v1 =>
  ⟨Int.mul_nonneg (by omega) v0, Int.le_trans (Int.mul_le_mul h2 v1 v0 (by omega)) hB⟩
 exact ⟨key _ h5.1 (by omega), key _ h5.2.1 (by omega), key _ h5.2.2.1 (by omega)⟩
end Go.HL
end
section
namespace Go.Proofs.YtbihpphgoaflfaaGreatDoor
open Go.HL
set_option maxRecDepth 100000
set_option linter.unusedVariables false
set_option linter.unusedSimpArgs false
set_option maxHeartbeats 1000000 in
/-- benchwarmer/value.compare -/
theorem c_value_compare [Tracks] {a b : List HopeS} (hT : Tracks.on = false) (hla12 : a.length ≤ 12) (oka : ∀ x ∈ a, HopeOk x) (hlb12 : b.length ≤ 12) (okb : ∀ x ∈ b, HopeOk x) : ConP Tryz.prog 50 [eHopes a, eHopes b] (.tup [eEnd (if cmpE a b ≠ 0 then end0 else endsOf a b), .int .i64 (cmpE a b)]) := by
 have hla : a.length ≤ 1000000 := by omega
 have hlb : b.length ≤ 1000000 := by omega
 have hpa := (prodP_one oka).2.2
 have hpb := (prodP_one okb).2.2
 have hpa1 : prodP a 1 ≤ 1000000000001 := hpa.2
 have hpb1 : prodP b 1 ≤ 1000000000001 := hpb.2
 have hm0 : 0 ≤ prodP a 1 * prodP b 1 := Int.mul_nonneg (by omega) (by omega)
 have hm1 : 0 < prodP a 1 * prodP b 1 := Int.mul_pos (by omega) (by omega)
 refine Con.of_bodyc Tryz.func50 rfl Tryz.ntmps50 rfl rfl ?_
 refine hw_reg ?_
 refine de rfl (eop_alloc ty88 rfl fun b4 => ?_)
 refine dp rfl (pop_assign rfl) ?_
 refine dn ?_
 refine hw_reg ?_
 refine dp rfl (pop_move rfl) ?_
 refine de rfl (eop_callf (M1 := []) (R := _) ca39 rfl (WeakL.refl _) (List.Perm.refl _) (c_value_spread (h := a) hla oka) ?_)
 rintro _ _ ⟨o1, La, rfl, rfl, hoA⟩
 refine dp rfl (pop_move rfl) ?_
 refine dp rfl (pop_extract rfl rfl) ?_
 refine dp rfl (pop_extract rfl rfl) ?_
 refine dp rfl (pop_assign rfl) ?_
 refine dp rfl (pop_assign rfl) ?_
 refine dn ?_
 refine hw_seq ?_
 refine hw_reg ?_
 refine dp rfl (pop_move rfl) ?_
 refine dp rfl (pop_neq rfl rfl) ?_
 refine dn ?_
 refine hw_cond rfl (fun h1 => ?_) (fun h2 => ?_)
 ·try simp at h1
  have hsa : spreadE a ≠ 0 := by simpa using h1
  refine hw_ghost (Ghost.last (R := mapO o1 La)) ?_
  refine hw_reg ?_
  refine dp rfl (pop_build (cs := [_, _, _]) ty88 pl88 rfl) ?_
  refine dp rfl (pop_move rfl) ?_
  first
  | refine de0 (eop_store (i := 0) ty88 rfl rfl rfl rfl rfl (Nat.le_of_ble_eq_true rfl) ?_)
  | refine de0 (eop_store (i := 1) ty88 rfl rfl rfl rfl rfl (Nat.le_of_ble_eq_true rfl) ?_)
  | refine de0 (eop_store (i := 2) ty88 rfl rfl rfl rfl rfl (Nat.le_of_ble_eq_true rfl) ?_)
  | refine de0 (eop_store (i := 3) ty88 rfl rfl rfl rfl rfl (Nat.le_of_ble_eq_true rfl) ?_)
  refine dp rfl (pop_assign rfl) ?_
  refine dn ?_
  refine hw_ret ?_
  refine ⟨_, _, Ghost.fc0 4 rfl, [_, _], _, ⟨⟨_, _, _, _, _, rfl, ty88, .inr ⟨rfl, rfl, rfl⟩⟩, ⟨rfl, trivial⟩⟩, Weak.refl _, ?_, rfl⟩
  first
  | (have q := hc0; rw [if_neg (show ¬ (cmpE a b ≠ 0) from by rw [hc0]; simp), hc0]; rfl)
  | (have q := hfull
     have e := cmpE_f hsa0 hsb0 hfull
     rw [if_pos (show cmpE a b ≠ 0 from by rw [e]; decide), e]; rfl)
  | (have q := hsb
     have e := cmpE_b hsa0 hsb
     rw [if_pos (show cmpE a b ≠ 0 from by rw [e]; exact hsb), e]; rfl)
  | (have q := hsa
     have e := cmpE_a (b := b) hsa
     rw [if_pos (show cmpE a b ≠ 0 from by rw [e]; exact hsa), e]; rfl)
 ·try simp at h2
  refine hw_skip ?_
  refine seqQ_n ?_
  have hsa0 : spreadE a = 0 := by simpa using h2
  obtain ⟨ba, rfl, hLa⟩ := hoA hsa0
  have hLla : La.length ≤ 20000 := by rw [hLa.length_eq]; exact (spreadE_prod oka hsa0).2.2.2
  have hna : ANodup La := (cz_nodup a).perm hLa
  have hba : ∀ p ∈ La, (-4611686018427387904 ≤ p.1 ∧ p.1 ≤ 4611686018427387904) := fun p hp => by
   have := BdP.smallO hla12 oka hLa p hp
   omega
  refine hw_ghost (Ghost.of_eq (M' := [.map ba (iM La), .cells b4 [.int .i64 0, .int .i64 0, .int .i64 0]]) rfl) ?_
  refine hw_reg ?_
  refine dp rfl (pop_move rfl) ?_
  refine de rfl (eop_callf (M1 := []) (R := _) ca39 rfl (WeakL.refl _) (List.Perm.refl _) (c_value_spread (h := b) hlb okb) ?_)
  rintro _ _ ⟨o2, Lb, rfl, rfl, hoB⟩
  refine dp rfl (pop_move rfl) ?_
  refine dp rfl (pop_extract rfl rfl) ?_
  refine dp rfl (pop_extract rfl rfl) ?_
  refine dp rfl (pop_assign rfl) ?_
  refine dp rfl (pop_assign rfl) ?_
  refine dn ?_
  refine hw_seq ?_
  refine hw_reg ?_
  refine dp rfl (pop_move rfl) ?_
  refine dp rfl (pop_neq rfl rfl) ?_
  refine dn ?_
  refine hw_cond rfl (fun h3 => ?_) (fun h4 => ?_)
  ·try simp at h3
   have hsb : spreadE b ≠ 0 := by simpa using h3
   refine hw_ghost (Ghost.of_eq (M' := (mapO o2 Lb ++ [.map ba (iM La)]) ++ [.cells b4 [.int .i64 0, .int .i64 0, .int .i64 0]]) (by simp)) ?_
   refine hw_ghost Ghost.last ?_
   refine hw_reg ?_
   refine dp rfl (pop_build (cs := [_, _, _]) ty88 pl88 rfl) ?_
   refine dp rfl (pop_move rfl) ?_
   first
   | refine de0 (eop_store (i := 0) ty88 rfl rfl rfl rfl rfl (Nat.le_of_ble_eq_true rfl) ?_)
   | refine de0 (eop_store (i := 1) ty88 rfl rfl rfl rfl rfl (Nat.le_of_ble_eq_true rfl) ?_)
   | refine de0 (eop_store (i := 2) ty88 rfl rfl rfl rfl rfl (Nat.le_of_ble_eq_true rfl) ?_)
   | refine de0 (eop_store (i := 3) ty88 rfl rfl rfl rfl rfl (Nat.le_of_ble_eq_true rfl) ?_)
   refine dp rfl (pop_assign rfl) ?_
   refine dn ?_
   refine hw_ret ?_
   refine ⟨_, _, Ghost.fc0 4 rfl, [_, _], _, ⟨⟨_, _, _, _, _, rfl, ty88, .inr ⟨rfl, rfl, rfl⟩⟩, ⟨rfl, trivial⟩⟩, Weak.refl _, ?_, rfl⟩
   first
   | (have q := hc0; rw [if_neg (show ¬ (cmpE a b ≠ 0) from by rw [hc0]; simp), hc0]; rfl)
   | (have q := hfull
      have e := cmpE_f hsa0 hsb0 hfull
      rw [if_pos (show cmpE a b ≠ 0 from by rw [e]; decide), e]; rfl)
   | (have q := hsb
      have e := cmpE_b hsa0 hsb
      rw [if_pos (show cmpE a b ≠ 0 from by rw [e]; exact hsb), e]; rfl)
   | (have q := hsa
      have e := cmpE_a (b := b) hsa
      rw [if_pos (show cmpE a b ≠ 0 from by rw [e]; exact hsa), e]; rfl)
  ·try simp at h4
   refine hw_skip ?_
   refine seqQ_n ?_
   refine hw_seq ?_
   have hsb0 : spreadE b = 0 := by simpa using h4
   obtain ⟨bb, rfl, hLb⟩ := hoB hsb0
   have hLlb : Lb.length ≤ 20000 := by rw [hLb.length_eq]; exact (spreadE_prod okb hsb0).2.2.2
   have hnb : ANodup Lb := (cz_nodup b).perm hLb
   have hbb : ∀ p ∈ Lb, (-4611686018427387904 ≤ p.1 ∧ p.1 ≤ 4611686018427387904) := fun p hp => by
    have := BdP.smallO hlb12 okb hLb p hp
    omega
   refine hw_ghost (Ghost.of_eq (M' := [.map bb (iM Lb), .map ba (iM La), .cells b4 [.int .i64 0, .int .i64 0, .int .i64 0]]) rfl) ?_
   refine hw_reg ?_
   refine dp rfl (pop_move rfl) ?_
   refine dp rfl (pop_call ca41 rfl (WeakL.refl _) (c_value_product (h := a) hla oka)) ?_
   refine dp rfl (pop_eq (h' := .int .u64 (prodP a 1)) (pop_conv ty3 ty93 rfl) (congrArg (HVal.int .u64) (wrapu (by omega) (by omega)))) ?_
   refine dp rfl (pop_move rfl) ?_
   refine dp rfl (pop_call ca41 rfl (WeakL.refl _) (c_value_product (h := b) hlb okb)) ?_
   refine dp rfl (pop_eq (h' := .int .u64 (prodP b 1)) (pop_conv ty3 ty93 rfl) (congrArg (HVal.int .u64) (wrapu (by omega) (by omega)))) ?_
   refine dp rfl (pop_call ca53 rfl (WeakL.refl _) (c_math_bits_Mul64 (m := prodP a 1) (n := prodP b 1) (by omega) (by omega) (by omega) (by omega))) ?_
   refine dp rfl (pop_move rfl) ?_
   refine dp rfl (pop_extract rfl rfl) ?_
   refine dp rfl (pop_extract rfl rfl) ?_
   refine dp rfl (pop_assign rfl) ?_
   refine dp rfl (pop_assign rfl) ?_
   refine dn ?_
   refine hw_reg ?_
   refine dp rfl (pop_move rfl) ?_
   refine dp rfl (pop_gtr rfl rfl) ?_
   refine dp rfl (pop_move rfl) ?_
   refine dg rfl rfl (fun hc => ⟨_, OpenTo.refl _, pop_move rfl⟩) ?_
   refine dg rfl rfl (fun hc => ⟨_, OpenTo.upd (t := 50) rfl (by first | exact hc | simp_all) (OpenTo.refl _), pop_gtr rfl rfl⟩) ?_
   refine dp rfl (pop_picko rfl (.inl rfl) (.inr ⟨_, rfl, fun h => by simp_all⟩)) ?_
   refine dn ?_
   refine hw_cond rfl (fun h5 => ?_) (fun h6 => ?_)
   ·try simp at h5
    have hfull : most < prodP a 1 * prodP b 1 := (hilo_most (A := prodP a 1 * prodP b 1) hm0).1 (by simpa using h5)
    refine hw_ghost (Ghost.trans Ghost.drop Ghost.drop) ?_
    refine hw_reg ?_
    refine dp rfl (pop_build (cs := [_, _, _]) ty88 pl88 rfl) ?_
    first
    | refine de0 (eop_store (i := 0) ty88 rfl rfl rfl rfl rfl (Nat.le_of_ble_eq_true rfl) ?_)
    | refine de0 (eop_store (i := 1) ty88 rfl rfl rfl rfl rfl (Nat.le_of_ble_eq_true rfl) ?_)
    | refine de0 (eop_store (i := 2) ty88 rfl rfl rfl rfl rfl (Nat.le_of_ble_eq_true rfl) ?_)
    | refine de0 (eop_store (i := 3) ty88 rfl rfl rfl rfl rfl (Nat.le_of_ble_eq_true rfl) ?_)
    refine dp rfl (pop_assign rfl) ?_
    refine dn ?_
    refine hw_ret ?_
    refine ⟨_, _, Ghost.fc0 4 rfl, [_, _], _, ⟨⟨_, _, _, _, _, rfl, ty88, .inr ⟨rfl, rfl, rfl⟩⟩, ⟨rfl, trivial⟩⟩, Weak.refl _, ?_, rfl⟩
    first
    | (have q := hc0; rw [if_neg (show ¬ (cmpE a b ≠ 0) from by rw [hc0]; simp), hc0]; rfl)
    | (have q := hfull
       have e := cmpE_f hsa0 hsb0 hfull
       rw [if_pos (show cmpE a b ≠ 0 from by rw [e]; decide), e]; rfl)
    | (have q := hsb
       have e := cmpE_b hsa0 hsb
       rw [if_pos (show cmpE a b ≠ 0 from by rw [e]; exact hsb), e]; rfl)
    | (have q := hsa
       have e := cmpE_a (b := b) hsa
       rw [if_pos (show cmpE a b ≠ 0 from by rw [e]; exact hsa), e]; rfl)
   ·try simp at h6
    refine hw_skip ?_
    refine seqQ_n ?_
    have hnf : ¬ most < prodP a 1 * prodP b 1 := fun q => by
     have q2 := (hilo_most (A := prodP a 1 * prodP b 1) hm0).2 q
     simp only [most] at q2
     simp_all
     omega
    have hc0 := cmpE_0 hsa0 hsb0 hnf
    have hpl : prodP a 1 * prodP b 1 ≤ 1000000000000 := Int.not_lt.1 hnf
    have hX := spreadL_pos oka
    have hY := spreadL_pos okb
    have hsY : sumW (spreadL b) = prodP b 1 := by rw [spreadL_sum okb, (spreadE_prod okb hsb0).1]
    have hSP := sum_prod oka okb hc0
    have hB : sumW (spreadL a) * sumW (spreadL b) ≤ 1000000000000 := by rw [hSP]; exact hpl
    have hXl : (spreadL a).length = La.length := by rw [spreadL_len, hLa.length_eq]
    have hYl : (spreadL b).length = Lb.length := by rw [spreadL_len, hLb.length_eq]
    have hsA : (sortI (La.map (·.1))).length = La.length := by rw [sortI_len, List.length_map]
    have hsB : (sortI (Lb.map (·.1))).length = Lb.length := by rw [sortI_len, List.length_map]
    refine hw_reg ?_
    refine de rfl (eop_alloc ty88 rfl fun b11 => ?_)
    refine dn ?_
    refine hw_reg ?_
    refine dp rfl (pop_move rfl) ?_
    refine de rfl (eop_callf (M1 := []) (R := _) ca43 rfl (WeakL.refl _) (List.Perm.refl _) c_keysI ?_)
    rintro _ _ ⟨bx, rfl, rfl⟩
    refine de rfl (EOp.fzi (N := [.map ba (iM La), .cells b11 [.int .i64 0, .int .i64 0, .int .i64 0], .map bb (iM Lb), .cells b4 [.int .i64 0, .int .i64 0, .int .i64 0]]) (sz := 1) (es := (sortI (La.map (·.1))).map (.int .i64)) 0 (eop_callf (M1 := [.cells bx [.raw (.map (some ba))], .map ba (iM La)]) (R := [.cells b11 [.int .i64 0, .int .i64 0, .int .i64 0], .map bb (iM Lb), .cells b4 [.int .i64 0, .int .i64 0, .int .i64 0]]) ca42 rfl (WeakL.refl _) (List.Perm.cons _ (List.perm_middle (l₁ := ([.cells b11 [.int .i64 0, .int .i64 0, .int .i64 0], .map bb (iM Lb)] : List MObj)))) (c_sortedI hT hna hba (by omega)) (by rintro _ _ ⟨v, rfl, rfl⟩; exact ⟨v, rfl, rfl, rfl⟩)) ?_)
    refine dp rfl (pop_move rfl) ?_
    refine de rfl (eop_callf (M1 := []) (R := _) ca43 rfl (WeakL.refl _) (List.Perm.refl _) c_keysI ?_)
    rintro _ _ ⟨bz, rfl, rfl⟩
    refine de rfl (EOp.fzi (N := [.map bb (iM Lb), .map ba (iM La), .cells b11 [.int .i64 0, .int .i64 0, .int .i64 0], .cells b4 [.int .i64 0, .int .i64 0, .int .i64 0]]) (sz := 1) (es := (sortI (Lb.map (·.1))).map (.int .i64)) 0 (eop_callf (M1 := [.cells bz [.raw (.map (some bb))], .map bb (iM Lb)]) (R := [.map ba (iM La), .cells b11 [.int .i64 0, .int .i64 0, .int .i64 0], .cells b4 [.int .i64 0, .int .i64 0, .int .i64 0]]) ca42 rfl (WeakL.refl _) (List.Perm.cons _ (List.perm_middle (l₁ := ([.map ba (iM La), .cells b11 [.int .i64 0, .int .i64 0, .int .i64 0]] : List MObj)))) (c_sortedI hT hnb hbb (by omega)) (by rintro _ _ ⟨v, rfl, rfl⟩; exact ⟨v, rfl, rfl, rfl⟩)) ?_)
    refine dp rfl (pop_assign rfl) ?_
    refine dp rfl (pop_assign rfl) ?_
    refine dn ?_
    refine hw_reg ?_
    refine dp rfl (pop_move rfl) ?_
    refine dp rfl (pop_call ca41 rfl (WeakL.refl _) (c_value_product (h := b) hlb okb)) ?_
    refine dp rfl (pop_assign rfl) ?_
    refine dn ?_
    refine hw_reg ?_
    refine dp rfl (pop_assign rfl) ?_
    refine dp rfl (pop_assign rfl) ?_
    refine dn ?_
    refine hw_seq ?_
    refine hw_reg ?_
    refine dp rfl (pop_move rfl) ?_
    refine dp rfl (pop_lenm (f := HVal.int .i64) (l := (sortI (La.map (·.1)))) ty22 rfl) ?_
    refine dp rfl (pop_move rfl) ?_
    refine dn ?_
    refine hw_block ?_
    refine hw_loopw2 (15 :: 16 :: 18 :: 64 :: 65 :: 66 :: 67 :: 68 :: 69 :: 70 :: 71 :: 72 :: 73 :: 74 :: 75 :: 76 :: 77 :: 78 :: 79 :: 80 :: 81 :: 82 :: 83 :: 84 :: 85 :: 86 :: 87 :: 88 :: 89 :: 90 :: 91 :: 92 :: 93 :: 94 :: 95 :: 96 :: 97 :: 98 :: 99 :: 100 :: 101 :: 102 :: 103 :: 104 :: 105 :: 106 :: 107 :: 108 :: 109 :: 110 :: 111 :: 112 :: 113 :: 114 :: 115 :: 116 :: 117 :: 118 :: 119 :: 120 :: 121 :: 122 :: 123 :: 124 :: 125 :: []) (fun (k : Nat) (i : Nat) => [(64, .int .i64 k), (15, .int .i64 (sumW ((spreadL b).take i))), (16, .int .i64 (i : Int))]) (fun (k : Nat) (i : Nat) => [.map bb (iM Lb), .map ba (iM La), .cells b11 [.int .i64 (winS (spreadL b) ((spreadL a).take k)), .int .i64 (drawS (spreadL b) ((spreadL a).take k)), .int .i64 (loseS (spreadL b) ((spreadL a).take k))], .cells b4 [.int .i64 0, .int .i64 0, .int .i64 0]]) (fun (k : Nat) (i : Nat) => k ≤ (sortI (La.map (·.1))).length ∧ (i ≤ (spreadL b).length ∧ ∀ q ∈ (spreadL b).take i, ∀ p ∈ (spreadL a).drop k, q.Points < p.Points)) (fun (k : Nat) (i : Nat) => (sortI (La.map (·.1))).length - k) (0) (0) ?_ ?_ ?_ ?_
    ·exact ⟨Nat.zero_le _, Nat.zero_le _, fun q hq => by simp at hq⟩
    ·exact ⟨rfl, rfl, rfl, trivial⟩
    ·exact perm_eq rfl
    ·intro k i hinv
     obtain ⟨hk, hi, hlt⟩ := hinv
     refine hw_reg ?_
     refine dp rfl (pop_lss rfl rfl) ?_
     refine dn ?_
     refine hw_seq ?_
     refine hw_cond rfl (fun h7 => ?_) (fun h8 => ?_)
     ·try simp at h7
      obtain ⟨n, hn⟩ : ∃ n, (sortI (La.map (·.1)))[k]? = some n := ⟨_, List.getElem?_eq_getElem h7⟩
      have hdn := drop_cons hn
      obtain ⟨p, hp⟩ : ∃ p, (spreadL a)[k]? = some p := ⟨_, List.getElem?_eq_getElem (by omega)⟩
      obtain ⟨hpa, hpw⟩ := spread_at hLa hp
      rw [hn] at hpa
      obtain rfl := Option.some.inj hpa
      have hend := S_bd hX hY k
      have hlt0 : ∀ q ∈ (spreadL b).take i, q.Points < p.Points := fun q hq => hlt q hq p (by rw [drop_cons hp]; exact List.mem_cons_self)
      refine hw_skip ?_
      refine seqQ_n ?_
      refine hw_seq ?_
      refine hw_block ?_
      refine hw_reg ?_
      refine dp rfl (pop_idx (f := HVal.int .i64) (l := (sortI (La.map (·.1)))) (j := k) (a := p.Points) ty22 ty3 rfl rfl rfl hn) ?_
      refine dp rfl (pop_load ty3 rfl rfl rfl) ?_
      refine dp rfl (pop_assign rfl) ?_
      refine dn ?_
      refine hw_seq ?_
      refine hw_block ?_
      refine hw_loopw [15, 16, 68, 69, 70, 71, 72, 73, 74, 75, 76, 77, 78, 79, 80, 81, 82, 83, 84, 85, 86, 87, 88, 89] (fun (i2 : Nat) => [(15, .int .i64 (sumW ((spreadL b).take i2))), (16, .int .i64 (i2 : Int))]) (fun (i2 : Nat) => [.map bb (iM Lb), .map ba (iM La), .cells b11 [.int .i64 (winS (spreadL b) ((spreadL a).take k)), .int .i64 (drawS (spreadL b) ((spreadL a).take k)), .int .i64 (loseS (spreadL b) ((spreadL a).take k))], .cells b4 [.int .i64 0, .int .i64 0, .int .i64 0]]) (fun (i2 : Nat) => i2 ≤ (spreadL b).length ∧ ∀ q ∈ (spreadL b).take i2, q.Points < p.Points) (fun (i2 : Nat) => (spreadL b).length - i2) (i) ?_ ?_ ?_ ?_
      ·exact ⟨hi, hlt0⟩
      ·exact ⟨rfl, rfl, trivial⟩
      ·exact perm_eq rfl
      ·intro i2 hinv
       obtain ⟨hi2, hl2⟩ := hinv
       refine hw_seq ?_
       refine hw_reg ?_
       refine dp rfl (pop_move rfl) ?_
       refine dp rfl (pop_move rfl) ?_
       refine dp rfl (pop_lenm (f := HVal.int .i64) (l := (sortI (Lb.map (·.1)))) ty22 rfl) ?_
       refine dp rfl (pop_lss rfl rfl) ?_
       refine dp rfl (pop_move rfl) ?_
       refine dg rfl rfl (fun hc => ⟨_, OpenTo.refl _, pop_move rfl⟩) ?_
       refine dg rfl rfl (fun hc => ⟨_, OpenTo.refl _, pop_move rfl⟩) ?_
       refine dg rfl rfl (fun hc => by have hq := hc; (try simp at hq); exact ⟨_, OpenTo.upd (t := 74) rfl (by first | exact hc | simp_all) (OpenTo.upd (t := 73) rfl (by first | exact hc | simp_all) (OpenTo.refl _)), pop_idx (f := HVal.int .i64) (l := (sortI (Lb.map (·.1)))) (j := i2) (a := ((spreadL b).getD i2 out0).Points) ty22 ty3 rfl rfl rfl (spread_at hLb (getD_some (by omega))).1⟩) ?_
       refine dg rfl rfl (fun hc => ⟨_, OpenTo.upd (t := 75) rfl (by first | exact hc | simp_all) (OpenTo.refl _), pop_load ty3 rfl rfl rfl⟩) ?_
       refine dg rfl rfl (fun hc => ⟨_, OpenTo.refl _, pop_move rfl⟩) ?_
       refine dg rfl rfl (fun hc => ⟨_, OpenTo.upd (t := 77) rfl (by first | exact hc | simp_all) (OpenTo.upd (t := 76) rfl (by first | exact hc | simp_all) (OpenTo.refl _)), pop_lss rfl rfl⟩) ?_
       refine dp rfl (pop_picko rfl (.inr ⟨_, rfl, fun h => by simp_all⟩) (.inl rfl)) ?_
       refine dn ?_
       refine hw_cond rfl (fun h9 => ?_) (fun h10 => ?_)
       ·try simp at h9
        obtain ⟨hc1, hc2⟩ := h9
        obtain ⟨q, hq⟩ : ∃ q, (spreadL b)[i2]? = some q := ⟨_, List.getElem?_eq_getElem (by omega)⟩
        obtain ⟨hqa, hqw⟩ := spread_at hLb hq
        have hqd : ((spreadL b)[i2]?.getD out0) = q := by rw [hq]; rfl
        rw [hqd] at hc2
        have hsb := sumW_takeO hY (i2 + 1)
        have hsn : sumW ((spreadL b).take (i2 + 1)) = sumW ((spreadL b).take i2) + q.Weight := by rw [take_snoc' hq, sumW_append]; simp [sumW]
        refine hw_skip ?_
        refine seqQ_n ?_
        refine hw_block ?_
        refine hw_reg ?_
        refine dp rfl (pop_move rfl) ?_
        refine dp rfl (pop_move rfl) ?_
        refine dp rfl (pop_move rfl) ?_
        refine dp rfl (pop_move rfl) ?_
        refine dp rfl (pop_idx (f := HVal.int .i64) (l := (sortI (Lb.map (·.1)))) (j := i2) (a := q.Points) ty22 ty3 rfl rfl rfl hqa) ?_
        refine dp rfl (pop_load ty3 rfl rfl rfl) ?_
        refine de rfl (eop_lookupkA (i := 0) (s := q.Points) (z0 := (0 : Int)) (f := HVal.int .i64) (L := Lb) ty68 ok3 ty3 rfl rfl rfl rfl ?_)
        rw [hqw]
        refine dp rfl (pop_add64 rfl rfl (by omega) (by omega)) ?_
        refine dp rfl (pop_assign rfl) ?_
        refine dn ?_
        refine hw_reg1 ?_
        refine dp rfl (pop_move rfl) ?_
        refine dp rfl (pop_add64 rfl rfl (by omega) (by omega)) ?_
        refine dp rfl (pop_assign rfl) ?_
        refine dn ?_
        refine blockQ_n ?_
        exact ⟨i2 + 1, ⟨by omega, fun z hz => by
         rw [take_snoc' hq] at hz
         rcases List.mem_append.1 hz with hz | hz
         ·exact hl2 z hz
         ·rw [List.mem_singleton.1 hz]; exact hc2⟩, by dsimp only; omega, ⟨by rw [hsn]; rfl, rfl, trivial⟩, (by repeat (first | exact keeps_refl | refine keeps_upd rfl ?_ | refine keeps_loop rfl rfl ?_)), perm_eq rfl⟩
       ·try simp at h10
        have hbe : belowW p.Points (spreadL b) = sumW ((spreadL b).take i2) := stop_at (spreadL_inc b) hl2 (fun hc => by
         show ¬ (((spreadL b)[i2]?.getD out0).Points < p.Points)
         have hh := h10 (by omega)
         omega)
        rw [← hbe]
        have hcm := cmp_all hX hY hB hp p.Points
        have h3w := three_W p.Points (spreadL b)
        have h3p := three_pos p.Points hY
        have hov : prodP b 1 - belowW p.Points (spreadL b) - atW p.Points (spreadL b) = overW p.Points (spreadL b) := by omega
        refine hw_exit ?_
        refine seqQ_x ?_
        refine loopQ_x ?_
        refine blockQ_eq ?_
        refine seqQ_n ?_
        refine hw_reg ?_
        refine dp rfl (pop_fieldAddr_raw ty88 rfl ty3 (by decide) rfl) ?_
        first
        | refine de rfl (eop_load (i := 0) ty3 rfl rfl (.inl ⟨rfl, rfl⟩) ?_)
        | refine de rfl (eop_load (i := 1) ty3 rfl rfl (.inl ⟨rfl, rfl⟩) ?_)
        | refine de rfl (eop_load (i := 2) ty3 rfl rfl (.inl ⟨rfl, rfl⟩) ?_)
        | refine de rfl (eop_load (i := 3) ty3 rfl rfl (.inl ⟨rfl, rfl⟩) ?_)
        refine dp rfl (pop_move rfl) ?_
        refine dp rfl (pop_move rfl) ?_
        refine de rfl (eop_lookupkA (i := 1) (s := p.Points) (z0 := (0 : Int)) (f := HVal.int .i64) (L := La) ty68 ok3 ty3 rfl rfl rfl rfl ?_)
        rw [hpw]
        refine dp rfl (pop_move rfl) ?_
        refine dp rfl (pop_mul64 rfl rfl (by omega) (by omega)) ?_
        refine dp rfl (pop_add64 rfl rfl (by omega) (by omega)) ?_
        refine dp rfl (pop_fieldAddr_raw ty88 rfl ty3 (by decide) rfl) ?_
        first
        | refine de0 (eop_store (i := 0) ty3 rfl rfl rfl rfl rfl (Nat.le_of_ble_eq_true rfl) ?_)
        | refine de0 (eop_store (i := 1) ty3 rfl rfl rfl rfl rfl (Nat.le_of_ble_eq_true rfl) ?_)
        | refine de0 (eop_store (i := 2) ty3 rfl rfl rfl rfl rfl (Nat.le_of_ble_eq_true rfl) ?_)
        | refine de0 (eop_store (i := 3) ty3 rfl rfl rfl rfl rfl (Nat.le_of_ble_eq_true rfl) ?_)
        refine dn ?_
        refine hw_reg ?_
        refine dp rfl (pop_fieldAddr_raw ty88 rfl ty3 (by decide) rfl) ?_
        first
        | refine de rfl (eop_load (i := 0) ty3 rfl rfl (.inl ⟨rfl, rfl⟩) ?_)
        | refine de rfl (eop_load (i := 1) ty3 rfl rfl (.inl ⟨rfl, rfl⟩) ?_)
        | refine de rfl (eop_load (i := 2) ty3 rfl rfl (.inl ⟨rfl, rfl⟩) ?_)
        | refine de rfl (eop_load (i := 3) ty3 rfl rfl (.inl ⟨rfl, rfl⟩) ?_)
        refine dp rfl (pop_move rfl) ?_
        refine dp rfl (pop_move rfl) ?_
        refine de rfl (eop_lookupkA (i := 1) (s := p.Points) (z0 := (0 : Int)) (f := HVal.int .i64) (L := La) ty68 ok3 ty3 rfl rfl rfl rfl ?_)
        rw [hpw]
        refine dp rfl (pop_move rfl) ?_
        refine dp rfl (pop_move rfl) ?_
        refine de rfl (eop_lookupkA (i := 0) (s := p.Points) (z0 := (0 : Int)) (f := HVal.int .i64) (L := Lb) ty68 ok3 ty3 rfl rfl rfl rfl ?_)
        rw [at_alk hLb p.Points]
        refine dp rfl (pop_mul64 rfl rfl (by omega) (by omega)) ?_
        refine dp rfl (pop_add64 rfl rfl (by omega) (by omega)) ?_
        refine dp rfl (pop_fieldAddr_raw ty88 rfl ty3 (by decide) rfl) ?_
        first
        | refine de0 (eop_store (i := 0) ty3 rfl rfl rfl rfl rfl (Nat.le_of_ble_eq_true rfl) ?_)
        | refine de0 (eop_store (i := 1) ty3 rfl rfl rfl rfl rfl (Nat.le_of_ble_eq_true rfl) ?_)
        | refine de0 (eop_store (i := 2) ty3 rfl rfl rfl rfl rfl (Nat.le_of_ble_eq_true rfl) ?_)
        | refine de0 (eop_store (i := 3) ty3 rfl rfl rfl rfl rfl (Nat.le_of_ble_eq_true rfl) ?_)
        refine dn ?_
        refine hw_reg1 ?_
        refine dp rfl (pop_fieldAddr_raw ty88 rfl ty3 (by decide) rfl) ?_
        first
        | refine de rfl (eop_load (i := 0) ty3 rfl rfl (.inl ⟨rfl, rfl⟩) ?_)
        | refine de rfl (eop_load (i := 1) ty3 rfl rfl (.inl ⟨rfl, rfl⟩) ?_)
        | refine de rfl (eop_load (i := 2) ty3 rfl rfl (.inl ⟨rfl, rfl⟩) ?_)
        | refine de rfl (eop_load (i := 3) ty3 rfl rfl (.inl ⟨rfl, rfl⟩) ?_)
        refine dp rfl (pop_move rfl) ?_
        refine dp rfl (pop_move rfl) ?_
        refine de rfl (eop_lookupkA (i := 1) (s := p.Points) (z0 := (0 : Int)) (f := HVal.int .i64) (L := La) ty68 ok3 ty3 rfl rfl rfl rfl ?_)
        rw [hpw]
        refine dp rfl (pop_move rfl) ?_
        refine dp rfl (pop_move rfl) ?_
        refine dp rfl (pop_sub64 rfl rfl (by omega) (by omega)) ?_
        refine dp rfl (pop_move rfl) ?_
        refine dp rfl (pop_move rfl) ?_
        refine de rfl (eop_lookupkA (i := 0) (s := p.Points) (z0 := (0 : Int)) (f := HVal.int .i64) (L := Lb) ty68 ok3 ty3 rfl rfl rfl rfl ?_)
        rw [at_alk hLb p.Points]
        refine dp rfl (pop_eq (h' := .int .i64 (overW p.Points (spreadL b))) (pop_sub64 rfl rfl (by omega) (by omega)) (congrArg (HVal.int .i64) hov)) ?_
        refine dp rfl (pop_mul64 rfl rfl (by omega) (by omega)) ?_
        refine dp rfl (pop_add64 rfl rfl (by omega) (by omega)) ?_
        refine dp rfl (pop_fieldAddr_raw ty88 rfl ty3 (by decide) rfl) ?_
        first
        | refine de0 (eop_store (i := 0) ty3 rfl rfl rfl rfl rfl (Nat.le_of_ble_eq_true rfl) ?_)
        | refine de0 (eop_store (i := 1) ty3 rfl rfl rfl rfl rfl (Nat.le_of_ble_eq_true rfl) ?_)
        | refine de0 (eop_store (i := 2) ty3 rfl rfl rfl rfl rfl (Nat.le_of_ble_eq_true rfl) ?_)
        | refine de0 (eop_store (i := 3) ty3 rfl rfl rfl rfl rfl (Nat.le_of_ble_eq_true rfl) ?_)
        refine dn ?_
        refine blockQ_n ?_
        refine seqQ_n ?_
        refine hw_reg1 ?_
        refine dp rfl (pop_add64 rfl rfl (by omega) (by omega)) ?_
        refine dp rfl (pop_move rfl) ?_
        refine dn ?_
        exact ⟨k + 1, i2, ⟨by omega, hi2, less_next (spreadL_inc a) hp hl2⟩, by dsimp only; omega, ⟨rfl, by rw [← hbe]; rfl, rfl, trivial⟩, (by repeat (first | exact keeps_refl | refine keeps_upd rfl ?_ | refine keeps_loop rfl rfl ?_)), perm_eq (by dsimp only; rw [winS_take hp, drawS_take hp, loseS_take hp]; first | rfl | simp [setL, hcells])⟩
     ·try simp at h8
      have hnk : (sortI (La.map (·.1))).length ≤ k := by omega
      obtain rfl : k = (sortI (La.map (·.1))).length := by omega
      rw [show (sortI (La.map (·.1))).length = (spreadL a).length by omega, List.take_length]
      refine hw_exit ?_
      refine seqQ_x ?_
      refine loopQ2_x ?_
      refine blockQ_eq ?_
      refine seqQ_n ?_
      refine hw_reg ?_
      refine de rfl (eop_loadw (i := 2) (h := eEnd (endsOf a b)) ty88 rfl rfl rfl rfl rfl ?_)
      first
      | refine de0 (eop_store (i := 0) ty88 rfl rfl rfl rfl rfl (Nat.le_of_ble_eq_true rfl) ?_)
      | refine de0 (eop_store (i := 1) ty88 rfl rfl rfl rfl rfl (Nat.le_of_ble_eq_true rfl) ?_)
      | refine de0 (eop_store (i := 2) ty88 rfl rfl rfl rfl rfl (Nat.le_of_ble_eq_true rfl) ?_)
      | refine de0 (eop_store (i := 3) ty88 rfl rfl rfl rfl rfl (Nat.le_of_ble_eq_true rfl) ?_)
      refine dp rfl (pop_assign rfl) ?_
      refine dn ?_
      refine hw_ghost (Ghost.trans Ghost.drop (Ghost.trans Ghost.drop Ghost.drop)) ?_
      refine hw_ret ?_
      refine ⟨_, _, Ghost.fc0 4 rfl, [_, _], _, ⟨⟨_, _, _, _, _, rfl, ty88, .inr ⟨rfl, rfl, rfl⟩⟩, ⟨rfl, trivial⟩⟩, Weak.refl _, ?_, rfl⟩
      first
      | (have q := hc0; rw [if_neg (show ¬ (cmpE a b ≠ 0) from by rw [hc0]; simp), hc0]; rfl)
      | (have q := hfull
         have e := cmpE_f hsa0 hsb0 hfull
         rw [if_pos (show cmpE a b ≠ 0 from by rw [e]; decide), e]; rfl)
      | (have q := hsb
         have e := cmpE_b hsa0 hsb
         rw [if_pos (show cmpE a b ≠ 0 from by rw [e]; exact hsb), e]; rfl)
      | (have q := hsa
         have e := cmpE_a (b := b) hsa
         rw [if_pos (show cmpE a b ≠ 0 from by rw [e]; exact hsa), e]; rfl)
end Go.Proofs.YtbihpphgoaflfaaGreatDoor
end
section
namespace Go.HL
theorem or2 {x y : Int} (h : orI [x, y] = 0) : x = 0 ∧ y = 0 := by
 simp only [orI] at h
 split at h <;> (try split at h) <;> simp_all
def chE (a b : List HopeS) : Int := if orI [hopesE a, hopesE b] ≠ 0 then orI [hopesE a, hopesE b] else cmpE a b
theorem chE_bad {a b : List HopeS} (e : orI [hopesE a, hopesE b] ≠ 0) : chE a b = orI [hopesE a, hopesE b] := by rw [chE, if_pos e]
theorem chE_cmp {a b : List HopeS} (e : orI [hopesE a, hopesE b] = 0) : chE a b = cmpE a b := by rw [chE, if_neg (by rw [e]; simp)]
end Go.HL
end
section
namespace Go.Proofs.YtbihpphgoaflfaaGreatDoor
open Go.HL
set_option maxRecDepth 100000
set_option linter.unusedVariables false
set_option linter.unusedSimpArgs false
/-- benchwarmer/value.Chances -/
theorem c_value_Chances [Tracks] {a b : List HopeS} (hT : Tracks.on = false) (hla : a.length ≤ 1000000) (hoa : ∀ x ∈ a, x.Outs.length ≤ 1000000) (hlb : b.length ≤ 1000000) (hob : ∀ x ∈ b, x.Outs.length ≤ 1000000) : ConP Tryz.prog 23 [eHopes a, eHopes b] (.tup [eChance (if chE a b ≠ 0 then chance0 else chanceOf a b), .int .i64 (chE a b)]) := by
 refine Con.of_bodyc Tryz.func23 rfl Tryz.ntmps23 rfl rfl ?_
 refine hw_reg ?_
 refine de rfl (eop_alloc ty52 rfl fun b4 => ?_)
 refine dp rfl (pop_assign rfl) ?_
 refine dn ?_
 refine hw_seq ?_
 refine hw_reg ?_
 refine dp rfl (pop_move rfl) ?_
 refine dp rfl (pop_call ca11 rfl (WeakL.refl _) (c_value_CheckHopes (h := a) hla hoa)) ?_
 refine dp rfl (pop_move rfl) ?_
 refine dp rfl (pop_call ca11 rfl (WeakL.refl _) (c_value_CheckHopes (h := b) hlb hob)) ?_
 refine dp rfl (pop_buildSlice (hs := [_, _]) ty96 ty31 rfl rfl (by decide) (by decide) rfl) ?_
 refine dp rfl (pop_call ca49 rfl (WeakL.refl _) (c_base_First (l := [_, _]) (by simp))) ?_
 refine dp rfl (pop_assign rfl) ?_
 refine dn ?_
 refine hw_reg ?_
 refine dp rfl (pop_move rfl) ?_
 refine dp rfl (pop_neq rfl rfl) ?_
 refine dn ?_
 refine hw_cond rfl (fun h1 => ?_) (fun h2 => ?_)
 ·try simp at h1
  have hbad : orI [hopesE a, hopesE b] ≠ 0 := by simpa using h1
  refine hw_reg ?_
  refine dp rfl (pop_build (cs := [_, _, _, _, _, _]) ty52 pl52 rfl) ?_
  refine dp rfl (pop_move rfl) ?_
  refine de0 (eop_store (i := 0) ty52 rfl rfl rfl rfl rfl (Nat.le_of_ble_eq_true rfl) ?_)
  refine dp rfl (pop_assign rfl) ?_
  refine dn ?_
  refine hw_ret ?_
  refine ⟨_, _, Ghost.fc0 4 rfl, [_, _], _, ⟨⟨_, _, _, _, _, rfl, ty52, .inr ⟨rfl, rfl, rfl⟩⟩, ⟨rfl, trivial⟩⟩, Weak.refl _, ?_, rfl⟩
  first
  | (have q := hc0; rw [chE_cmp hz, hc0, if_neg (by simp)]; rfl)
  | (have q := hcb; rw [chE_cmp hz, if_pos hcb]; rfl)
  | (have q := hbad; rw [chE_bad hbad, if_pos hbad]; rfl)
 ·try simp at h2
  refine hw_skip ?_
  refine seqQ_n ?_
  have hz : orI [hopesE a, hopesE b] = 0 := by simpa using h2
  obtain ⟨h0a, h0b⟩ := or2 hz
  obtain ⟨hla12, oka⟩ := hopes_ok h0a
  obtain ⟨hlb12, okb⟩ := hopes_ok h0b
  have hpa := (prodP_one oka).2.2
  have hpb := (prodP_one okb).2.2
  have hpa1 : prodP a 1 ≤ 1000000000001 := hpa.2
  have hpb1 : prodP b 1 ≤ 1000000000001 := hpb.2
  have hm0 : 0 ≤ prodP a 1 * prodP b 1 := Int.mul_nonneg (by omega) (by omega)
  have hm1 : 0 < prodP a 1 * prodP b 1 := Int.mul_pos (by omega) (by omega)
  refine hw_reg ?_
  refine dp rfl (pop_move rfl) ?_
  refine dp rfl (pop_move rfl) ?_
  refine dp rfl (pop_call ca50 rfl (WeakL.refl _) (c_value_compare (a := a) (b := b) hT hla12 oka hlb12 okb)) ?_
  refine dp rfl (pop_move rfl) ?_
  refine dp rfl (pop_extract rfl rfl) ?_
  refine dp rfl (pop_extract rfl rfl) ?_
  refine de rfl (eop_alloc ty88 rfl fun b7 => ?_)
  refine de0 (eop_storew ty88 rfl rfl rfl rfl rfl ?_)
  refine dp rfl (pop_assign rfl) ?_
  refine dn ?_
  refine hw_ghost (Ghost.fc0 7 rfl) ?_
  refine hw_seq ?_
  refine hw_reg ?_
  refine dp rfl (pop_move rfl) ?_
  refine dp rfl (pop_neq rfl rfl) ?_
  refine dn ?_
  refine hw_cond rfl (fun h3 => ?_) (fun h4 => ?_)
  ·try simp at h3
   have hcb : cmpE a b ≠ 0 := by simpa using h3
   refine hw_reg ?_
   refine dp rfl (pop_build (cs := [_, _, _, _, _, _]) ty52 pl52 rfl) ?_
   refine dp rfl (pop_move rfl) ?_
   refine de0 (eop_store (i := 0) ty52 rfl rfl rfl rfl rfl (Nat.le_of_ble_eq_true rfl) ?_)
   refine dp rfl (pop_assign rfl) ?_
   refine dn ?_
   refine hw_ret ?_
   refine ⟨_, _, Ghost.fc0 4 rfl, [_, _], _, ⟨⟨_, _, _, _, _, rfl, ty52, .inr ⟨rfl, rfl, rfl⟩⟩, ⟨rfl, trivial⟩⟩, Weak.refl _, ?_, rfl⟩
   first
   | (have q := hc0; rw [chE_cmp hz, hc0, if_neg (by simp)]; rfl)
   | (have q := hcb; rw [chE_cmp hz, if_pos hcb]; rfl)
   | (have q := hbad; rw [chE_bad hbad, if_pos hbad]; rfl)
  ·try simp at h4
   refine hw_skip ?_
   refine seqQ_n ?_
   have hc0 : cmpE a b = 0 := by simpa using h4
   rw [if_neg (show ¬ (cmpE a b ≠ 0) from by rw [hc0]; simp)]
   have hpl : prodP a 1 * prodP b 1 ≤ 1000000000000 := (cmpE_ok hc0).2.2
   have hSP := sum_prod oka okb hc0
   have hend := S_bd (spreadL_pos oka) (spreadL_pos okb) (spreadL a).length
   rw [List.take_length, hSP] at hend
   refine hw_reg ?_
   refine dp rfl (pop_move rfl) ?_
   refine dp rfl (pop_call ca41 rfl (WeakL.refl _) (c_value_product (h := a) hla oka)) ?_
   refine dp rfl (pop_move rfl) ?_
   refine dp rfl (pop_call ca41 rfl (WeakL.refl _) (c_value_product (h := b) hlb okb)) ?_
   refine dp rfl (pop_mul64 rfl rfl (by omega) (by omega)) ?_
   refine dp rfl (pop_assign rfl) ?_
   refine dn ?_
   refine hw_draw (fun _ => True) [] mixed ?_
   refine ahp 0 rfl rfl (by kernel_rfl) (by kernel_rfl) (pop_fieldAddr ty88 rfl ty3 (by decide) rfl) ?_
   refine ahp 1 rfl rfl (by kernel_rfl) (by kernel_rfl) (pop_load ty3 rfl rfl rfl) ?_
   refine ahp 2 rfl rfl (by kernel_rfl) (by kernel_rfl) (pop_move rfl) ?_
   refine ahp 3 rfl rfl (by kernel_rfl) (by kernel_rfl) (pop_call ca40 rfl (WeakL.refl _) (c_base_Fraction (n := (endsOf a b).win) (d := prodP a 1 * prodP b 1) (by simp only [endsOf]; omega) (by omega))) ?_
   refine ahp 4 rfl rfl (by kernel_rfl) (by kernel_rfl) (pop_fieldAddr ty88 rfl ty3 (by decide) rfl) ?_
   refine ahp 5 rfl rfl (by kernel_rfl) (by kernel_rfl) (pop_load ty3 rfl rfl rfl) ?_
   refine ahp 6 rfl rfl (by kernel_rfl) (by kernel_rfl) (pop_move rfl) ?_
   refine ahp 7 rfl rfl (by kernel_rfl) (by kernel_rfl) (pop_call ca40 rfl (WeakL.refl _) (c_base_Fraction (n := (endsOf a b).draw) (d := prodP a 1 * prodP b 1) (by simp only [endsOf]; omega) (by omega))) ?_
   refine ahp 8 rfl rfl (by kernel_rfl) (by kernel_rfl) (pop_fieldAddr ty88 rfl ty3 (by decide) rfl) ?_
   refine ahp 9 rfl rfl (by kernel_rfl) (by kernel_rfl) (pop_load ty3 rfl rfl rfl) ?_
   refine ahp 10 rfl rfl (by kernel_rfl) (by kernel_rfl) (pop_move rfl) ?_
   refine ahp 11 rfl rfl (by kernel_rfl) (by kernel_rfl) (pop_call ca40 rfl (WeakL.refl _) (c_base_Fraction (n := (endsOf a b).lose) (d := prodP a 1 * prodP b 1) (by simp only [endsOf]; omega) (by omega))) ?_
   refine ahp 12 rfl rfl (by kernel_rfl) (by kernel_rfl) (pop_build (cs := [_, _, _, _, _, _]) ty52 pl52 rfl) ?_
   refine ahe 13 rfl (by kernel_rfl) ?_
   refine hop_e0 (eop_storew ty52 rfl rfl rfl rfl rfl ?_)
   refine ⟨fun _ => .inl trivial, ?_⟩
   refine ahp 14 rfl rfl (by kernel_rfl) (by kernel_rfl) (pop_assign rfl) ?_
   refine ahz (by kernel_rfl) ?_
   refine hw_ret ?_
   refine ⟨_, _, Ghost.fc0 4 rfl, [_, _], _, ⟨⟨_, _, _, _, _, rfl, ty52, .inr ⟨rfl, rfl, rfl⟩⟩, ⟨rfl, trivial⟩⟩, Weak.refl _, ?_, rfl⟩
   first
   | (have q := hc0; rw [chE_cmp hz, hc0, if_neg (by simp)]; rfl)
   | (have q := hcb; rw [chE_cmp hz, if_pos hcb]; rfl)
   | (have q := hbad; rw [chE_bad hbad, if_pos hbad]; rfl)
end Go.Proofs.YtbihpphgoaflfaaGreatDoor
end
section
namespace Go.HL
def sameH (y z : HopeS) : Bool := y.Player == z.Player && eqSts eOut y.Outs z.Outs
def betE (a b : List HopeS) (x y : HopeS) : Int := orI [hopesE a, hopesE b, hopesE [x], hopesE [y]]
def betF (a b : List HopeS) (x y : HopeS) : Int := if betE a b x y ≠ 0 then betE a b x y else if !(a.any (sameH y)) then 8 else if (a ++ b).any (fun z => z.Player == x.Player) then 6 else 0
theorem orF4 {x y z u : Int} (h : orI [x, y, z, u] = 0) : x = 0 ∧ y = 0 ∧ z = 0 ∧ u = 0 := by
 simp only [orI] at h
 split at h
 ·contradiction
 split at h
 ·contradiction
 split at h
 ·contradiction
 split at h
 ·contradiction
 simp_all
end Go.HL
end
section
namespace Go.HL
section
variable {P : Program} {e : Env} {dst : Option Tmp} {ty : TypeId} {pos : String} {af : Array Edge} {g : Option (Nat × Bool)} {M : List MObj} {K : HVal → List MObj → Prop}
theorem pop_capraw [Tracks] {x : Operand} {t el : TypeId} {size bytes : Nat} {zero : Value} {p : Option Addr} {n c : Nat} (hf : Fits P t (.slice el) size bytes zero) (hx : evalO e x = some (.raw (.slice p n c))) :
 POp P e ⟨dst, .call ⟨.builtin .cap, #[x], #[t]⟩, ty, pos, af, g⟩ (.int .i64 c) :=
 POp.of_val fun I a w ho => by
  have h1 := (ho.one (x := x) (by simp [Op.operands, Call.operands]) hx).raw_inv
  exact ⟨_, by simp [execOp, resolve, invoke, builtin, Builtin.cap_, h1, run_underlying hf.slice, goInt], .int _ _⟩
theorem pop_slnil [Tracks] {x y : Operand} {t el : TypeId} {size bytes s2 b2 : Nat} {zero z2 : Value} {d : TD} (hf : Fits P t (.slice el) size bytes zero) (hel : Fits P el d s2 b2 z2) (hx : evalO e x = some (.raw (.slice none 0 0))) (hy : evalO e y = some (.int .i64 0)) :
 POp P e ⟨dst, .slice t x none (some y) none, ty, pos, af, g⟩ (.raw (.slice none 0 0)) :=
 POp.of_val fun I a w ho => by
  have h1 := (ho.one (x := x) (by simp [Op.operands]) hx).raw_inv
  have h2 := (ho.one (x := y) (by simp [Op.operands]) hy).int_inv
  exact ⟨_, by simp [execOp, h1, h2, Instr.sliceAt, Instr.slice, Instr.sliceBounds, Instr.sliceBound, asIntOf, run_underlying hf.slice, hel.run_sizeOf], .raw _ rfl⟩
/-- append(nil, make([]T, n)...). -/
theorem eop_appendmk [Tracks] {x y : Operand} {t el it : TypeId} {size bytes sz b2 s3 b3 n : Nat} {zero z2 z3 : Value} {d : TD} {q : Int}
 (hf : Fits P t (.slice el) size bytes zero) (hel : Fits P el d sz b2 z2) (hit : Fits P it (.int .i64) s3 b3 z3) (hz : z2.cells.size = sz) (hby : Nat.ble b2 100000 = true)
 (hx : evalO e x = some (.raw (.slice none 0 0))) (hy : evalO e y = some (.int .i64 q)) (hq : q = (n : Int)) (hn : n ≤ 1000000) (h0 : 0 < n)
 (hk : ∀ b nc cells, n ≤ nc → nc ≤ 9223372036854775807 → cells.size = nc * sz → K (.raw (.slice (some ⟨b, 0, none⟩) n nc)) (.obj b (.cells cells el (0, 0)) :: M)) :
 EOp P e M ⟨dst, .call ⟨.builtin .append, #[x, y], #[t, it]⟩, ty, pos, af, g⟩ K :=
 EOp.of_run fun I F a w ho hs => by
  subst hq
  have h1 := (ho.one (x := x) (by simp [Op.operands, Call.operands]) hx).raw_inv
  have h2 := (ho.one (x := y) (by simp [Op.operands, Call.operands]) hy).int_inv
  let nc := (Question.appendCap n 0 el).cut (w.tape w.drawn (.appendCap n 0 el))
  have hnc : n ≤ nc := by simp only [nc, Question.cut]; omega
  have hnm : nc ≤ 9223372036854775807 := by
   simp only [nc, Question.cut]
   have := Nat.mod_lt (w.tape w.drawn (.appendCap n 0 el)) (show 0 < 2 ^ 63 - n by omega)
   omega
  let cells : Array Value := #[] ++ Builtin.zeroCells z2.cells n ++ Builtin.zeroCells z2.cells (nc - n)
  have hcs : cells.size = nc * sz := by
   simp only [cells, Array.size_append, zeroCells_size, hz, List.size_toArray, List.length_nil]
   rw [Nat.zero_add, ← Nat.add_mul]; congr 1; omega
  have hsz0 : ¬ n * sz = 0 ∨ Builtin.zeroCells z2.cells n = #[] := by
   by_cases h : n * sz = 0
   ·right; apply Array.eq_empty_of_size_eq_zero; rw [zeroCells_size, hz, h]
   ·exact .inl h
  obtain ⟨ti, t1, t2, t3, t4⟩ := hel.typeInfo
  have hti : ∀ w1, (Go.typeInfo el).run P w1 = .ok ti w1 := fun w1 => by simp [Go.typeInfo, t1]
  have hwr : IntKind.i64.wrap (n : Int) = (n : Int) := wrap64 (by omega) (by omega)
  have hb0 : ¬ ((n : Int) * (b2 : Int) > 2 ^ 48) := by
   have e2 : b2 ≤ 100000 := Nat.le_of_ble_eq_true hby
   have : n * b2 ≤ 1000000 * 100000 := Nat.mul_le_mul hn e2
   have h9 : ((n * b2 : Nat) : Int) = (n : Int) * (b2 : Int) := Int.natCast_mul _ _
   omega
  have hb2 : ¬ ((n : Int) > IntKind.i64.max) := by
   have : IntKind.i64.max = 9223372036854775807 := by decide
   rw [this]; omega
  have hb3 : ¬ Builtin.nextslicecap n 0 * b2 > 2 ^ 48 := by
   have e1 := nextslicecap_le (need := n) (cap := 0) h0
   have e2 : b2 ≤ 100000 := Nat.le_of_ble_eq_true hby
   have : Builtin.nextslicecap n 0 * b2 ≤ (2 * 1000000 + 192) * 100000 := Nat.mul_le_mul (by omega) e2
   omega
  have hch : (choose (.appendCap n 0 el)).run P w = .ok nc { w with drawn := w.drawn + 1 } := by simp [Question.forced, nc]
  refine ⟨.slice (some ⟨w.heap.size, 0, none⟩) n nc, _, _, { w with heap := w.heap.push (.cells cells el (0, 0)), drawn := w.drawn + 1 }, I, ?_, .refl I, hk w.heap.size nc cells hnc hnm hcs, .raw _ rfl, ?_⟩
  ·have hap : ∀ w1 : World, ((if n * sz = 0 then pure #[] else do pure (Builtin.zeroCells (← zeroValue el).cells n) : Sem (Array Value))).run P w1 = .ok (Builtin.zeroCells z2.cells n) w1 := fun w1 => by
    rcases hsz0 with h | h
    ·rw [if_neg h]; simp [hel.run_zero]
    ·by_cases h' : n * sz = 0
     ·rw [if_pos h', h]; simp
     ·rw [if_neg h']; simp [hel.run_zero]
   rw [run_append]
   simp only [List.map_toArray, List.map_cons, List.map_nil, h1, h2, Builtin.append_, List.getElem?_toArray, List.getElem?_cons_zero, List.getElem?_cons_succ, Sem.run_bind, run_underlying hf.slice, run_underlying hit.intD, Result.andThen_ok,
    hel.run_sizeOf, Sem.run_pure, if_true, asInt, hwr, hti, t3]
   have hai : ∀ w1 : World, (asIntOf (Value.int IntKind.i64 (n : Int))).run P w1 = .ok (.i64, (n : Int)) w1 := fun w1 => by simp [asIntOf]
   simp only [hai, Result.andThen_ok, hwr]
   rw [if_neg (show ¬ (n : Int) < 0 by omega)]
   simp only [Sem.run_bind, hti, Result.andThen_ok, t3, Sem.run_pure]
   rw [if_neg hb0]
   simp only [Sem.run_bind, hti, Result.andThen_ok, t3, Sem.run_pure, Int.toNat_natCast, Nat.zero_add]
   rw [if_neg (show ¬ n ≤ 0 by omega)]
   simp only [Sem.run_bind, hti, Result.andThen_ok, t3, Sem.run_pure]
   rw [if_neg (fun h => hb2 h.1)]
   simp only [Sem.run_bind, hti, Result.andThen_ok, t3, Sem.run_pure]
   rw [if_neg hb3]
   simp only [Sem.run_bind, Sem.run_pure, hch, Result.andThen_ok, hti, run_askRoom, Builtin.firstCells, Bool.not_true, Bool.false_eq_true, if_false, hap, hel.run_zero, newRow, run_newObj]
   rfl
  ·have hs1 : Sat P I (M ++ F) { w with drawn := w.drawn + 1 } := hs.of_same (fun _ _ => rfl) (fun _ _ => rfl) rfl rfl rfl
   exact hs1.new_own (.cells cells el (0, 0)) (.obj w.heap.size (.cells cells el (0, 0))) rfl (by simp [MSat, push])
end
/-- New cells of which none is in use. -/
theorem Ghost.objarr [Tracks] {e : Env} {M : List MObj} {b nc sz : Nat} {cells : Array Value} {el : TypeId} (hc : cells.size = nc * sz) (hn : nc ≤ 9223372036854775807) : Ghost e (.obj b (.cells cells el (0, 0)) :: M) e (.arr (.slice (some ⟨b, 0, none⟩) 0 nc) sz [] :: M) := fun _ I F tmps w h1 hs => by
 refine ⟨I, .refl I, h1, Sat.change (m := .obj b (.cells cells el (0, 0))) hs (fun _ _ _ => rfl) (fun x hx => .inl hx) (by simp [MObj.blocks]) ?_ rfl rfl rfl⟩
 have := hs.obj (.obj b (.cells cells el (0, 0))) (by simp)
 exact .inr ⟨b, 0, nc, cells, el, (0, 0), rfl, this, Free.zero _, by simp, ⟨Nat.zero_le _, hn⟩, by omega, by simp⟩
theorem flat_take_snoc {α : Type} {LL : List (List α)} {i : Nat} {x : List α} (hx : LL[i]? = some x) : (LL.take (i + 1)).flatten.length = (LL.take i).flatten.length + x.length := by
 rw [List.take_add_one, hx]; simp
theorem flat_take_app {α : Type} {LL : List (List α)} {i : Nat} {x : List α} (hx : LL[i]? = some x) : (LL.take (i + 1)).flatten = (LL.take i).flatten ++ x := by
 rw [List.take_add_one, hx]; simp
theorem flat_take_le {α : Type} (LL : List (List α)) (i : Nat) : (LL.take i).flatten.length ≤ LL.flatten.length := by
 have := congrArg (fun q => q.flatten.length) (List.take_append_drop i LL)
 simp only [List.flatten_append, List.length_append] at this
 omega
end Go.HL
end
section
namespace Go.Proofs.YtbihpphgoaflfaaGreatDoor
open Go.HL
set_option maxRecDepth 100000
set_option linter.unusedVariables false
set_option linter.unusedSimpArgs false
/-- slices.Grow[[]benchwarmer/api.Hope,benchwarmer/api.Hope] -/
theorem c_grow_Hope [Tracks] {n : Nat} (hn : n ≤ 1000000) : Con Tryz.prog 82 [.raw (.slice none 0 0), .int .i64 (n : Int)] [] (fun x M' => ∃ u, x = .raw u ∧ M' = [.arr u 2 []]) := by
 refine Con.of_body Tryz.func82 rfl Tryz.ntmps82 rfl rfl ?_
 refine hw_reg ?_
 refine dp rfl (pop_assign rfl) ?_
 refine dn ?_
 refine hw_seq ?_
 refine hw_reg ?_
 refine dp rfl (pop_move rfl) ?_
 refine dp rfl (pop_lss rfl rfl) ?_
 refine dn ?_
 refine hw_cond rfl (fun h1 => ?_) (fun h1 => ?_)
 ·exfalso
  try simp at h1
  omega
 ·try simp at h1
  refine hw_skip ?_
  refine seqQ_n ?_
  refine hw_seq ?_
  refine hw_reg ?_
  refine dp rfl (pop_move rfl) ?_
  refine dp rfl (pop_move rfl) ?_
  refine dp rfl (pop_capraw ty26 rfl) ?_
  refine dp rfl (pop_move rfl) ?_
  refine dp rfl (pop_len_raw ty26 rfl) ?_
  refine dp rfl (pop_sub64 rfl rfl (by omega) (by omega)) ?_
  refine dp rfl (pop_sub64 rfl rfl (by omega) (by omega)) ?_
  refine dp rfl (pop_assign rfl) ?_
  refine dn ?_
  refine hw_reg ?_
  refine dp rfl (pop_move rfl) ?_
  refine dp rfl (pop_gtr rfl rfl) ?_
  refine dn ?_
  refine hw_cond rfl (fun h2 => ?_) (fun h3 => ?_)
  ·try simp at h2
   refine hw_reg1 ?_
   refine dp rfl (pop_move rfl) ?_
   refine dp rfl (pop_move rfl) ?_
   refine dp rfl (pop_capraw ty26 rfl) ?_
   refine dp rfl (pop_slnil ty26 ty49 rfl rfl) ?_
   refine dp rfl (pop_move rfl) ?_
   refine de rfl (eop_appendmk (n := n) ty26 ty49 ty3 rfl rfl rfl rfl (by omega) (by omega) (by omega) fun b nc cells hnc hnm hcs => ?_)
   refine dp rfl (pop_move rfl) ?_
   refine dp rfl (pop_len_raw ty26 rfl) ?_
   refine dp rfl (pop_slraw0 (h := 0) ty26 ty49 rfl ⟨_, _, rfl, rfl⟩ (by omega)) ?_
   refine dp rfl (pop_assign rfl) ?_
   refine dn ?_
   refine seqQ_n ?_
   refine hw_reg ?_
   refine dp rfl (pop_move rfl) ?_
   refine dp rfl (pop_assign rfl) ?_
   refine dn ?_
   refine hw_ret ?_
   first
   | exact ret_g (Ghost.objarr hcs hnm) rfl ⟨_, rfl, rfl⟩
   | exact ret_g (Ghost.arr_nil 2) rfl ⟨_, rfl, rfl⟩
  ·try simp at h3
   refine hw_skip ?_
   refine seqQ_n ?_
   refine hw_reg ?_
   refine dp rfl (pop_move rfl) ?_
   refine dp rfl (pop_assign rfl) ?_
   refine dn ?_
   refine hw_ret ?_
   first
   | exact ret_g (Ghost.objarr hcs hnm) rfl ⟨_, rfl, rfl⟩
   | exact ret_g (Ghost.arr_nil 2) rfl ⟨_, rfl, rfl⟩

/-- slices.Concat[[]benchwarmer/api.Hope,benchwarmer/api.Hope] -/
theorem c_concat_Hope [Tracks] {LL : List (List HopeS)} (hl : LL.length ≤ 1000) (hs : LL.flatten.length ≤ 100000) : ConA Tryz.prog 57 [.slice 1 (LL.map fun l => HVal.slice 2 (l.map eHope))] 2 (LL.flatten.map eHope) := by
 refine Con.of_body Tryz.func57 rfl Tryz.ntmps57 rfl rfl ?_
 refine hw_reg ?_
 refine dp rfl (pop_assign rfl) ?_
 refine dn ?_
 refine hw_reg ?_
 refine dp rfl (pop_assign rfl) ?_
 refine dn ?_
 refine hw_seq ?_
 refine hw_reg ?_
 refine dp rfl (pop_move rfl) ?_
 refine dp rfl (pop_lenm (f := fun l : List HopeS => HVal.slice 2 (l.map eHope)) (l := LL) ty129 rfl) ?_
 refine dp rfl (pop_move rfl) ?_
 refine dn ?_
 refine hw_block ?_
 refine hw_loopw [3, 5, 11, 12, 13, 14, 15, 16, 17, 18, 19, 20, 21, 22] (fun (i : Nat) => [(11, .int .i64 i), (3, .int .i64 ((LL.take i).flatten.length : Int))]) (fun (i : Nat) => []) (fun (i : Nat) => i ≤ LL.length ∧ (True)) (fun (i : Nat) => LL.length - i) (0) ?_ ?_ ?_ ?_
 ·exact ⟨Nat.zero_le _, trivial⟩
 ·exact ⟨rfl, rfl, trivial⟩
 ·exact List.Perm.refl _
 ·intro i hinv
  obtain ⟨hi, -⟩ := hinv
  refine hw_reg ?_
  refine dp rfl (pop_lss rfl rfl) ?_
  refine dn ?_
  refine hw_seq ?_
  refine hw_cond rfl (fun h1 => ?_) (fun h2 => ?_)
  ·try simp at h1
   obtain ⟨x, hx⟩ : ∃ x, LL[i]? = some x := ⟨_, List.getElem?_eq_getElem h1⟩
   have hdx := drop_cons hx
   refine hw_skip ?_
   refine seqQ_n ?_
   refine hw_seq ?_
   refine hw_block ?_
   refine hw_reg ?_
   refine dp rfl (pop_idx (f := fun l : List HopeS => HVal.slice 2 (l.map eHope)) (l := LL) (j := i) (a := x) ty129 ty26 rfl rfl rfl hx) ?_
   refine dp rfl (pop_load ty26 rfl rfl rfl) ?_
   refine dp rfl (pop_assign rfl) ?_
   refine dn ?_
   refine hw_reg ?_
   refine dp rfl (pop_move rfl) ?_
   refine dp rfl (pop_move rfl) ?_
   refine dp rfl (pop_lenm ty26 rfl) ?_
   have hfl := flat_take_le LL (i + 1)
   have hfs := flat_take_snoc hx
   refine dp rfl (pop_add64 rfl rfl (by omega) (by omega)) ?_
   refine dp rfl (pop_assign rfl) ?_
   refine dn ?_
   refine hw_reg ?_
   refine dp rfl (pop_move rfl) ?_
   refine dp rfl (pop_lss rfl rfl) ?_
   refine dn ?_
   refine hw_cond rfl (fun h3 => ?_) (fun h3 => ?_)
   ·exfalso
    try simp at h3
    omega
   ·try simp at h3
    refine hw_skip ?_
    refine blockQ_n ?_
    refine seqQ_n ?_
    refine hw_reg1 ?_
    refine dp rfl (pop_add64 rfl rfl (by omega) (by omega)) ?_
    refine dp rfl (pop_move rfl) ?_
    refine dn ?_
    exact ⟨i + 1, ⟨by omega, trivial⟩, by dsimp only; omega, ⟨rfl, some_int (by rw [flat_take_snoc hx]; simp), trivial⟩, (by repeat (first | exact keeps_refl | refine keeps_upd rfl ?_ | refine keeps_loop rfl rfl ?_)), List.Perm.refl _⟩
  ·try simp at h2
   have hni : LL.length ≤ i := by omega
   obtain rfl : i = LL.length := by omega
   refine hw_exit ?_
   refine seqQ_x ?_
   refine loopQ_x ?_
   refine blockQ_eq ?_
   refine seqQ_n ?_
   rw [List.take_length]
   refine hw_reg ?_
   refine dp rfl (pop_move rfl) ?_
   refine de rfl (eop_callf (M1 := []) (R := []) ca82 rfl (WeakL.refl _) (List.Perm.refl _) (c_grow_Hope (n := LL.flatten.length) (by omega)) ?_)
   rintro _ _ ⟨u24, rfl, rfl⟩
   refine dp rfl (pop_assign rfl) ?_
   refine dn ?_
   refine hw_seq ?_
   refine hw_reg ?_
   refine dp rfl (pop_move rfl) ?_
   refine dp rfl (pop_lenm (f := fun l : List HopeS => HVal.slice 2 (l.map eHope)) (l := LL) ty129 rfl) ?_
   refine dp rfl (pop_move rfl) ?_
   refine dn ?_
   refine hw_block ?_
   refine hw_loopw2 [6, 8, 27, 28, 29, 30, 31, 32, 33, 34] (fun (j : Nat) (u : Value) => [(27, .int .i64 j), (6, .raw u)]) (fun (j : Nat) (u : Value) => [.arr u 2 ((LL.take j).flatten.map eHope)]) (fun (j : Nat) (u : Value) => j ≤ LL.length ∧ (True)) (fun (j : Nat) (u : Value) => LL.length - j) (0) (u24) ?_ ?_ ?_ ?_
   ·exact ⟨Nat.zero_le _, trivial⟩
   ·exact ⟨rfl, rfl, trivial⟩
   ·exact List.Perm.refl _
   ·intro j u hinv
    obtain ⟨hj, -⟩ := hinv
    refine hw_reg ?_
    refine dp rfl (pop_lss rfl rfl) ?_
    refine dn ?_
    refine hw_seq ?_
    refine hw_cond rfl (fun h4 => ?_) (fun h5 => ?_)
    ·try simp at h4
     obtain ⟨y, hy⟩ : ∃ y, LL[j]? = some y := ⟨_, List.getElem?_eq_getElem h4⟩
     have hdy := drop_cons hy
     refine hw_skip ?_
     refine seqQ_n ?_
     refine hw_seq ?_
     refine hw_block ?_
     refine hw_reg ?_
     refine dp rfl (pop_idx (f := fun l : List HopeS => HVal.slice 2 (l.map eHope)) (l := LL) (j := j) (a := y) ty129 ty26 rfl rfl rfl hy) ?_
     refine dp rfl (pop_load ty26 rfl rfl rfl) ?_
     refine dp rfl (pop_assign rfl) ?_
     refine dn ?_
     refine hw_reg1 ?_
     refine dp rfl (pop_move rfl) ?_
     refine dp rfl (pop_move rfl) ?_
     refine de rfl (eop_append (i := 0) ty26 ty49 rfl rfl rfl rfl rfl (by simp [flat, hcells]) (by have h1 := flat_take_le LL (j + 1); have h2 := flat_take_snoc hy; simp only [List.length_map]; omega) fun v33 => ?_)
     refine dp rfl (pop_assign rfl) ?_
     refine dn ?_
     refine blockQ_n ?_
     refine seqQ_n ?_
     refine hw_reg1 ?_
     refine dp rfl (pop_add64 rfl rfl (by omega) (by omega)) ?_
     refine dp rfl (pop_move rfl) ?_
     refine dn ?_
     exact ⟨j + 1, v33, ⟨by omega, trivial⟩, by dsimp only; omega, ⟨rfl, rfl, trivial⟩, (by repeat (first | exact keeps_refl | refine keeps_upd rfl ?_ | refine keeps_loop rfl rfl ?_)), perm_eq (by dsimp only; rw [flat_take_app hy, List.map_append]; rfl)⟩
    ·try simp at h5
     have hnj : LL.length ≤ j := by omega
     obtain rfl : j = LL.length := by omega
     refine hw_exit ?_
     refine seqQ_x ?_
     refine loopQ2_x ?_
     refine blockQ_eq ?_
     refine seqQ_n ?_
     refine hw_reg ?_
     refine dp rfl (pop_move rfl) ?_
     refine dp rfl (pop_assign rfl) ?_
     refine dn ?_
     refine hw_ret ?_
     refine ret_a rfl ?_
     rw [List.take_length]

/-- benchwarmer/benchref1.BetterFault -/
theorem c_benchref1_BetterFault [Tracks] {a b : List HopeS} {x y : HopeS} (hla : a.length ≤ 1000000) (hoa : ∀ z ∈ a, z.Outs.length ≤ 1000000) (hsa : ∀ z ∈ a, Sh z.Player) (hlb : b.length ≤ 1000000) (hob : ∀ z ∈ b, z.Outs.length ≤ 1000000) (hsb : ∀ z ∈ b, Sh z.Player) (hxx : x.Outs.length ≤ 1000000 ∧ Sh x.Player) (hxy : y.Outs.length ≤ 1000000 ∧ Sh y.Player) : ConP Tryz.prog 26 [eHopes a, eHopes b, eHope x, eHope y] (.int .i64 (betF a b x y)) := by
 refine Con.of_body Tryz.func26 rfl Tryz.ntmps26 rfl rfl ?_
 refine hw_reg ?_
 refine dp rfl (pop_box rfl rfl) ?_
 refine dp rfl (pop_box rfl rfl) ?_
 refine dp rfl (pop_assign rfl) ?_
 refine dn ?_
 refine hw_seq ?_
 refine hw_draw (fun _ => True) [] mixed ?_
 refine ahp 0 rfl rfl (by kernel_rfl) (by kernel_rfl) (pop_move rfl) ?_
 refine ahp 1 rfl rfl (by kernel_rfl) (by kernel_rfl) (pop_call ca10 rfl (WeakL.refl _) (c_benchref1_HopesFault (h := a) hla hoa hsa)) ?_
 refine ahp 2 rfl rfl (by kernel_rfl) (by kernel_rfl) (pop_move rfl) ?_
 refine ahp 3 rfl rfl (by kernel_rfl) (by kernel_rfl) (pop_call ca10 rfl (WeakL.refl _) (c_benchref1_HopesFault (h := b) hlb hob hsb)) ?_
 refine ahp 4 rfl rfl (by kernel_rfl) (by kernel_rfl) (pop_loadw ty49 rfl rfl rfl rfl) ?_
 refine ahp 5 rfl rfl (by kernel_rfl) (by kernel_rfl) (pop_buildSlice (hs := [_]) ty26 ty49 rfl rfl (by decide) (by decide) rfl) ?_
 refine ahp 6 rfl rfl (by kernel_rfl) (by kernel_rfl) (pop_call ca10 rfl (WeakL.refl _) (c_benchref1_HopesFault (h := [x]) (by simp) (fun z hz => by rw [List.mem_singleton.1 hz]; exact hxx.1) (fun z hz => by rw [List.mem_singleton.1 hz]; exact hxx.2))) ?_
 refine ahp 7 rfl rfl (by kernel_rfl) (by kernel_rfl) (pop_loadw ty49 rfl rfl rfl rfl) ?_
 refine ahp 8 rfl rfl (by kernel_rfl) (by kernel_rfl) (pop_buildSlice (hs := [_]) ty26 ty49 rfl rfl (by decide) (by decide) rfl) ?_
 refine ahp 9 rfl rfl (by kernel_rfl) (by kernel_rfl) (pop_call ca10 rfl (WeakL.refl _) (c_benchref1_HopesFault (h := [y]) (by simp) (fun z hz => by rw [List.mem_singleton.1 hz]; exact hxy.1) (fun z hz => by rw [List.mem_singleton.1 hz]; exact hxy.2))) ?_
 refine ahp 10 rfl rfl (by kernel_rfl) (by kernel_rfl) (pop_buildSlice (hs := [_, _, _, _]) ty96 ty31 rfl rfl (by decide) (by decide) rfl) ?_
 refine ahp 11 rfl rfl (by kernel_rfl) (by kernel_rfl) (pop_call ca25 rfl (WeakL.refl _) (c_cmp_Or_api_Errno (l := [_, _, _, _]) (by simp))) ?_
 refine ahp 12 rfl rfl (by kernel_rfl) (by kernel_rfl) (pop_assign rfl) ?_
 refine ahz (by kernel_rfl) ?_
 refine hw_reg ?_
 refine dp rfl (pop_move rfl) ?_
 refine dp rfl (pop_neq rfl rfl) ?_
 refine dn ?_
 refine hw_cond rfl (fun h1 => ?_) (fun h2 => ?_)
 ·try simp at h1
  refine hw_reg ?_
  refine dp rfl (pop_move rfl) ?_
  refine dp rfl (pop_assign rfl) ?_
  refine dn ?_
  refine hw_ret ?_
  refine ret_p rfl ?_
  show HVal.int .i64 _ = _
  first
  | (have q := h6
     have hA : a.any (sameH y) = true := by simpa using h4
     have hB : (a ++ b).any (fun z => z.Player == x.Player) = false := by simpa using h6
     rw [betF, if_neg (by rw [hz]; simp), hA, hB]; rfl)
  | (have q := h5
     have hA : a.any (sameH y) = true := by simpa using h4
     have hB : (a ++ b).any (fun z => z.Player == x.Player) = true := by simpa using h5
     rw [betF, if_neg (by rw [hz]; simp), hA, hB]; rfl)
  | (have q := h3
     have hA : a.any (sameH y) = false := by simpa using h3
     rw [betF, if_neg (by rw [hz]; simp), hA]; rfl)
  | (have q : betE a b x y ≠ 0 := by simpa [betE] using h1
     rw [betF, if_pos q]; rfl)
 ·try simp at h2
  refine hw_skip ?_
  refine seqQ_n ?_
  refine hw_seq ?_
  refine hw_block ?_
  have hz : betE a b x y = 0 := by simpa [betE] using h2
  obtain ⟨h0a, h0b, _, _⟩ := orF4 hz
  obtain ⟨hla12, oka⟩ := hopes_ok h0a
  obtain ⟨hlb12, okb⟩ := hopes_ok h0b
  refine hw_reg ?_
  refine dp rfl (pop_move rfl) ?_
  refine dp rfl (pop_makeFunc rfl rfl) ?_
  refine dp rfl (pop_call ca54 rfl (WeakL.refl _) (c_slices_ContainsFunc_api_Hope_api_Hope (l := a) (p := sameH y) ca55 (fun z => c_benchref1_BetterFault_1 (x := z) (y := y) hxy.1) hla)) ?_
  refine dp rfl (pop_not rfl) ?_
  refine dp rfl (pop_assign rfl) ?_
  refine dn ?_
  refine hw_cond rfl (fun h3 => ?_) (fun h4 => ?_)
  ·try simp at h3
   refine hw_reg ?_
   refine dp rfl (pop_assign rfl) ?_
   refine dn ?_
   refine hw_ret ?_
   refine ret_p rfl ?_
   show HVal.int .i64 _ = _
   first
   | (have q := h6
      have hA : a.any (sameH y) = true := by simpa using h4
      have hB : (a ++ b).any (fun z => z.Player == x.Player) = false := by simpa using h6
      rw [betF, if_neg (by rw [hz]; simp), hA, hB]; rfl)
   | (have q := h5
      have hA : a.any (sameH y) = true := by simpa using h4
      have hB : (a ++ b).any (fun z => z.Player == x.Player) = true := by simpa using h5
      rw [betF, if_neg (by rw [hz]; simp), hA, hB]; rfl)
   | (have q := h3
      have hA : a.any (sameH y) = false := by simpa using h3
      rw [betF, if_neg (by rw [hz]; simp), hA]; rfl)
   | (have q : betE a b x y ≠ 0 := by simpa [betE] using h1
      rw [betF, if_pos q]; rfl)
  ·try simp at h4
   refine hw_reg ?_
   refine dp rfl (pop_move rfl) ?_
   refine dp rfl (pop_move rfl) ?_
   refine dp rfl (pop_buildSlice (hs := [_, _]) ty129 ty26 rfl rfl (by decide) (by decide) rfl) ?_
   refine de rfl (EOp.fz (eop_calla ca57 rfl (WeakL.refl _) (c_concat_Hope (LL := [a, b]) (by simp) (by simp; omega)) fun v => ⟨v, rfl, rfl⟩) ?_)
   refine dp rfl (pop_makeFunc rfl rfl) ?_
   refine dp rfl (pop_call ca54 rfl (WeakL.refl _) (c_slices_ContainsFunc_api_Hope_api_Hope (l := [a, b].flatten) (p := fun z => z.Player == x.Player) ca58 (fun z => c_benchref1_BetterFault_2 (x := z) (y := x)) (by simp; omega))) ?_
   refine dp rfl (pop_assign rfl) ?_
   refine dn ?_
   refine hw_cond rfl (fun h5 => ?_) (fun h6 => ?_)
   ·try simp at h5
    refine hw_reg ?_
    refine dp rfl (pop_assign rfl) ?_
    refine dn ?_
    refine hw_ret ?_
    refine ret_p rfl ?_
    show HVal.int .i64 _ = _
    first
    | (have q := h6
       have hA : a.any (sameH y) = true := by simpa using h4
       have hB : (a ++ b).any (fun z => z.Player == x.Player) = false := by simpa using h6
       rw [betF, if_neg (by rw [hz]; simp), hA, hB]; rfl)
    | (have q := h5
       have hA : a.any (sameH y) = true := by simpa using h4
       have hB : (a ++ b).any (fun z => z.Player == x.Player) = true := by simpa using h5
       rw [betF, if_neg (by rw [hz]; simp), hA, hB]; rfl)
    | (have q := h3
       have hA : a.any (sameH y) = false := by simpa using h3
       rw [betF, if_neg (by rw [hz]; simp), hA]; rfl)
    | (have q : betE a b x y ≠ 0 := by simpa [betE] using h1
       rw [betF, if_pos q]; rfl)
   ·try simp at h6
    refine hw_skip ?_
    refine blockQ_n ?_
    refine seqQ_n ?_
    refine hw_reg ?_
    refine dp rfl (pop_assign rfl) ?_
    refine dn ?_
    refine hw_ret ?_
    refine ret_p rfl ?_
    show HVal.int .i64 _ = _
    first
    | (have q := h6
       have hA : a.any (sameH y) = true := by simpa using h4
       have hB : (a ++ b).any (fun z => z.Player == x.Player) = false := by simpa using h6
       rw [betF, if_neg (by rw [hz]; simp), hA, hB]; rfl)
    | (have q := h5
       have hA : a.any (sameH y) = true := by simpa using h4
       have hB : (a ++ b).any (fun z => z.Player == x.Player) = true := by simpa using h5
       rw [betF, if_neg (by rw [hz]; simp), hA, hB]; rfl)
    | (have q := h3
       have hA : a.any (sameH y) = false := by simpa using h3
       rw [betF, if_neg (by rw [hz]; simp), hA]; rfl)
    | (have q : betE a b x y ≠ 0 := by simpa [betE] using h1
       rw [betF, if_pos q]; rfl)
end Go.Proofs.YtbihpphgoaflfaaGreatDoor
end
section
namespace Go.HL
def GoodLH (x : HopeS) : Prop := Sh x.Player ∧ ∃ w : Int, x.Outs = [⟨0, 1000⟩, ⟨1, w⟩] ∧ (w = 1 ∨ w = 1000)
end Go.HL
end
section
namespace Go.HL
theorem aput_lenI {k v : Int} : ∀ N : NW, (aput k v N).length ≤ N.length + 1
 | [] => by simp [aput]
 | p :: r => by
   have ih := aput_lenI (k := k) (v := v) r
   simp only [aput]
   split
   ·simp
   ·simp only [List.length_cons]; omega
theorem addM_len : ∀ (ps N : NW), (ps.foldl addM N).length ≤ N.length + ps.length
 | [], N => by simp
 | p :: ps, N => by
   have h1 := addM_len ps (addM N p)
   have h2 := aput_lenI (k := p.1) (v := (alk p.1 N).getD 0 + p.2) N
   rw [List.foldl_cons, List.length_cons]
   unfold addM at h1 ⊢
   omega
theorem expand_len (O : List OutS) : ∀ L : NW, (expand L O).length = L.length * O.length
 | [] => by simp [expand]
 | p :: L => by
   have ih := expand_len O L
   unfold expand at *
   rw [List.flatMap_cons, List.length_append, ih, List.length_cons, Nat.succ_mul]
   simp only [HL.one, List.length_map]
   omega
def prodN : List HopeS → Nat
 | [] => 1
 | x :: r => x.Outs.length * prodN r
theorem czGo_len : ∀ (h : List HopeS) (L : NW), (czGo L h).length ≤ L.length * prodN h
 | [], L => by simp [czGo, prodN]
 | x :: h, L => by
   have h1 := czGo_len h (sumM (expand L x.Outs))
   have h2 := addM_len (expand L x.Outs) []
   rw [expand_len] at h2
   have h3 : (sumM (expand L x.Outs)).length * prodN h ≤ L.length * x.Outs.length * prodN h := Nat.mul_le_mul_right _ (by unfold sumM; simpa using h2)
   have h4 : czGo L (x :: h) = czGo (sumM (expand L x.Outs)) h := rfl
   rw [h4, prodN, ← Nat.mul_assoc]
   omega
theorem cz_len (h : List HopeS) : (cz h).length ≤ prodN h := by
 have := czGo_len h [(0, 1)]
 simpa [cz] using this
theorem prodN_le {m : Nat} (hm : 1 ≤ m) : ∀ h : List HopeS, (∀ x ∈ h, x.Outs.length ≤ m) → prodN h ≤ m ^ h.length
 | [], _ => by simp [prodN]
 | x :: h, hx => by
   have ih := prodN_le hm h fun y hy => hx y (List.mem_cons_of_mem _ hy)
   rw [prodN, List.length_cons, Nat.pow_succ, Nat.mul_comm (m ^ h.length)]
   exact Nat.mul_le_mul (hx x List.mem_cons_self) ih
end Go.HL
end
section
namespace Go.HL
/-- A hope that is drawn: a short name, few outcomes. -/
def GoodH (x : HopeS) : Prop := Sh x.Player ∧ x.Outs.length ≤ 5
def GoodH4 (x : HopeS) : Prop := Sh x.Player ∧ x.Outs.length ≤ 4
theorem GoodH4.up {x : HopeS} (h : GoodH4 x) : GoodH x := ⟨h.1, Nat.le_succ_of_le h.2⟩
structure GoodHs (l : List HopeS) : Prop where
 len : l.length ≤ 4
 all : ∀ x ∈ l, GoodH x
/-- What the walks want of hopes. -/
structure HopeBd (l : List HopeS) : Prop where
 len : l.length ≤ 13
 all : ∀ x ∈ l, GoodH x
 cz : (cz l).length ≤ 1000000
theorem GoodHs.bd {l : List HopeS} (h : GoodHs l) : HopeBd l := by
 have hl := h.len
 refine ⟨by omega, h.all, ?_⟩
 have h1 := cz_len l
 have h2 := prodN_le (m := 5) (by omega) l fun x hx => (h.all x hx).2
 have h3 : 5 ^ l.length ≤ 5 ^ 4 := Nat.pow_le_pow_right (by omega) hl
 have h4 : (5 : Nat) ^ 4 = 625 := rfl
 omega
theorem LongHs.bd {l : List HopeS} (hl : l.length ≤ 13) (h : ∀ x ∈ l, GoodLH x) : HopeBd l := by
 have h0 : ∀ x ∈ l, x.Outs.length = 2 := fun x hx => by
  obtain ⟨_, w, e, _⟩ := h x hx
  rw [e]; rfl
 refine ⟨by omega, fun x hx => ⟨(h x hx).1, by rw [h0 x hx]; omega⟩, ?_⟩
 have h1 := cz_len l
 have h2 := prodN_le (m := 2) (by omega) l fun x hx => Nat.le_of_eq (h0 x hx)
 have h3 : 2 ^ l.length ≤ 2 ^ 13 := Nat.pow_le_pow_right (by omega) hl
 have h4 : (2 : Nat) ^ 13 = 8192 := rfl
 omega
theorem HopeBd.hl {l : List HopeS} (h : HopeBd l) : l.length ≤ 1000000 := by have := h.len; omega
theorem HopeBd.ho {l : List HopeS} (h : HopeBd l) : ∀ x ∈ l, x.Outs.length ≤ 1000000 := fun x hx => by have := (h.all x hx).2; omega
theorem HopeBd.hs {l : List HopeS} (h : HopeBd l) : ∀ x ∈ l, Sh x.Player := fun x hx => (h.all x hx).1
end Go.HL
end
section
namespace Go.HL
structure One (x : HopeS) : Prop where
 key : key x.Player = true
 pos : x.Outs.length ≠ 0
 len : ¬ 8 < x.Outs.length
 outs : outsGo x.Outs 0 x.Outs = 0
theorem hopeF_one {h : List HopeS} {k : Nat} {x : HopeS} (e : hopeF h k x = 0) : One x ∧ ¬ (0 < k ∧ leS x.Player (h.getD (k - 1) hope0).Player = true) := by
 unfold hopeF at e
 split at e
 ·omega
 split at e
 ·omega
 split at e
 ·omega
 split at e
 ·omega
 rename_i h1 h2 h3 h4
 exact ⟨⟨by simpa using h1, h3, h4, e⟩, h2⟩
theorem One.ok {x : HopeS} (h : One x) : HopeOk x := by
 have h1 := h.pos
 have h2 := h.len
 exact ⟨h.key, by omega, by omega, outsGo_ok _ _ h.outs⟩
theorem one_of {x : HopeS} (e : hopesE [x] = 0) : One x := by
 have e1 : hopesGo [x] 0 [x] = 0 := by simpa [hopesE] using e
 rw [hopesGo] at e1
 split at e1
 ·contradiction
 ·rename_i h1
  exact (hopeF_one (by simpa using h1)).1
theorem hopesGo_one {h : List HopeS} : ∀ (r : List HopeS) (k : Nat), hopesGo h k r = 0 → risingGo (h.map (·.Player)) k (r.map (·.Player)) = 0 ∧ ∀ x ∈ r, One x
 | [], _, _ => ⟨rfl, fun x hx => by cases hx⟩
 | y :: r, k, e => by
   rw [hopesGo] at e
   split at e
   ·contradiction
   ·rename_i h1
    obtain ⟨h2, h3⟩ := hopeF_one (h := h) (k := k) (x := y) (by simpa using h1)
    obtain ⟨h4, h5⟩ := hopesGo_one r (k + 1) e
    refine ⟨?_, fun x hx => ?_⟩
    ·have e0 : (h.map (·.Player)).getD (k - 1) [] = (h.getD (k - 1) hope0).Player := by
      rw [List.getD_eq_getElem?_getD, List.getD_eq_getElem?_getD, List.getElem?_map]
      cases h[k - 1]? <;> rfl
     simp only [List.map_cons, risingGo]
     rw [if_neg (by simp [h2.key]), if_neg (by rw [e0]; simpa using h2.key |> fun _ => h3)]
     exact h4
    ·rcases List.mem_cons.1 hx with rfl | hx
     ·exact h2
     ·exact h5 x hx
theorem hopes_one {h : List HopeS} (e : hopesE h = 0) : SortedS (h.map (·.Player)) ∧ ∀ x ∈ h, One x := by
 unfold hopesE at e
 split at e
 ·omega
 ·obtain ⟨h1, h2⟩ := hopesGo_one h 0 e
  exact ⟨rising1_sorted (by simpa [rising1] using h1), h2⟩
theorem hopesGo_of {h : List HopeS} (hs : SortedS (h.map (·.Player))) : ∀ (t : List HopeS) (k : Nat), (∀ x ∈ t, One x) → t = h.drop k → hopesGo h k t = 0
 | [], _, _, _ => rfl
 | x :: t, k, ho, e => by
   have hk : h[k]? = some x := by
    have := congrArg (·[0]?) e
    simpa using this.symm
   have hlt := lt_of_get hk
   have hno : ¬ (0 < k ∧ leS x.Player (h.getD (k - 1) hope0).Player = true) := by
    rintro ⟨h0, hc⟩
    have hj : k - 1 < h.length := by omega
    have hg := getD_some (d := hope0) hj
    have := hs.get (i := k - 1) (j := k) (a := (h.getD (k - 1) hope0).Player) (b := x.Player) (by omega) (by rw [List.getElem?_map, hg]; rfl) (by rw [List.getElem?_map, hk]; rfl)
    rw [leS_iff, this] at hc; cases hc
   have hx := ho x List.mem_cons_self
   have hf : hopeF h k x = 0 := by rw [hopeF_go hx.key hno hx.pos hx.len]; exact hx.outs
   rw [hopesGo_go hf]
   refine hopesGo_of hs t (k + 1) (fun y hy => ho y (List.mem_cons_of_mem _ hy)) ?_
   have := congrArg List.tail e
   simpa using this
theorem hopes_of {h : List HopeS} (hl : h.length ≤ 12) (hs : SortedS (h.map (·.Player))) (ho : ∀ x ∈ h, One x) : hopesE h = 0 := by
 rw [hopesE, if_neg (by omega)]
 exact hopesGo_of hs h 0 ho rfl
def byHope (x y : HopeS) : Int := cmpS x.Player y.Player
theorem byHope_cmp : Cmp byHope (fun _ => True) where
 flip x y _ _ := by unfold byHope; rw [cmpS_flip x.Player y.Player]; omega
 trans x y z _ _ _ h1 h2 := cmpS_trans h1 h2
theorem hope_sorted {m : List HopeS} (h : (m.map (·.Player)).Nodup) : SortedS ((isort byHope m).map (·.Player)) := by
 have h1 := isort_sorted byHope_cmp (l := m) (fun _ _ => trivial)
 have h2 : ((isort byHope m).map (·.Player)).Nodup := ((isort_perm byHope m).map _).nodup_iff.2 h
 unfold SortedS
 rw [List.pairwise_map]
 have h3 := List.pairwise_map.1 h2
 refine (h1.and h3).imp fun ⟨a1, a2⟩ => ?_
 rcases less_total _ _ with h | h | h
 ·exact h
 ·exact absurd h a2
 ·unfold byHope at a1
  rw [cmpS_le] at a1
  rw [h] at a1; cases a1
/-- x in the place of the one who is named so. -/
theorem repl_perm {s : Str} {x : HopeS} : ∀ {a : List HopeS} {k : Nat} {z : HopeS}, (a.map (·.Player)).Nodup → a[k]? = some z → z.Player = s → (a.set k x).Perm (a.filter (fun z => !(z.Player == s)) ++ [x])
 | [], k, z, _, hz, _ => by simp at hz
 | w :: a, 0, z, hn, hz, hs => by
   simp only [List.getElem?_cons_zero, Option.some.injEq] at hz
   subst hz
   simp only [List.map_cons, List.nodup_cons, List.mem_map, not_exists, not_and] at hn
   have hf : (w :: a).filter (fun z => !(z.Player == s)) = a := by
    rw [List.filter_cons_of_neg (by simp [hs])]
    refine List.filter_eq_self.2 fun q hq => ?_
    have := hn.1 q hq
    simp only [Bool.not_eq_true', beq_eq_false_iff_ne, ne_eq]
    rw [← hs]; exact this
   rw [hf, List.set_cons_zero]
   exact List.perm_append_comm (l₁ := [x]) (l₂ := a)
 | w :: a, k + 1, z, hn, hz, hs => by
   simp only [List.getElem?_cons_succ] at hz
   simp only [List.map_cons, List.nodup_cons, List.mem_map, not_exists, not_and] at hn
   have hw : ¬ w.Player = s := fun e => hn.1 z (List.mem_of_getElem? hz) (by rw [hs, e])
   rw [List.set_cons_succ, List.filter_cons_of_pos (by simpa using hw), List.cons_append]
   exact (repl_perm hn.2 hz hs).cons _
/-- Where the one who goes stands. -/
def betK (a : List HopeS) (y : HopeS) : Nat := (idxF (fun z => z.Player == y.Player) a 0).toNat
def withB (a : List HopeS) (x y : HopeS) : List HopeS := a.set (betK a y) x
def bet2 (a b : List HopeS) (x y : HopeS) : Int := if betF a b x y ≠ 0 then betF a b x y else if cmpE a b ≠ 0 then cmpE a b else cmpE (withB a x y) b
def betV (a b : List HopeS) (x y : HopeS) : Bool := bet2 a b x y == 0 && decide ((endsOf a b).win * prodP (withB a x y) 1 < (endsOf (withB a x y) b).win * prodP a 1)
def sortB (a : List HopeS) (x y : HopeS) : List HopeS := isort byHope (a.filter (fun z => !(z.Player == y.Player)) ++ [x])
theorem idxF_at {α : Type} {p : α → Bool} : ∀ {l : List α} (k : Nat), (∃ x ∈ l, p x = true) → ∃ (i : Nat) (x : α), idxF p l k = ((k + i : Nat) : Int) ∧ l[i]? = some x ∧ p x = true
 | [], _, h => by obtain ⟨x, hx, _⟩ := h; cases hx
 | y :: l, k, h => by
   unfold idxF
   by_cases c : p y = true
   ·exact ⟨0, y, by rw [if_pos c]; rfl, rfl, c⟩
   ·obtain ⟨x, hx, hp⟩ := h
    have hx' : x ∈ l := by
     rcases List.mem_cons.1 hx with rfl | hx
     ·exact absurd hp c
     ·exact hx
    obtain ⟨i, z, h1, h2, h3⟩ := idxF_at (l := l) (k + 1) ⟨x, hx', hp⟩
    refine ⟨i + 1, z, ?_, by simpa using h2, h3⟩
    rw [if_neg c, show ((k : Int) + 1) = ((k + 1 : Nat) : Int) by omega, h1]
    congr 1; omega
structure BetOk (a b : List HopeS) (x y : HopeS) : Prop where
 h0a : hopesE a = 0
 h0b : hopesE b = 0
 h0x : hopesE [x] = 0
 h0y : hopesE [y] = 0
 has : a.any (sameH y) = true
 new : (a ++ b).any (fun z => z.Player == x.Player) = false
theorem betF_ok {a b : List HopeS} {x y : HopeS} (e : betF a b x y = 0) : BetOk a b x y := by
 unfold betF at e
 split at e
 ·contradiction
 split at e
 ·omega
 split at e
 ·omega
 rename_i h1 h2 h3
 have hz : betE a b x y = 0 := by simpa using h1
 obtain ⟨ha, hb, hx, hy⟩ := orF4 hz
 exact ⟨ha, hb, hx, hy, by simpa using h2, by simpa using h3⟩
section
variable {a b : List HopeS} {x y : HopeS}
theorem BetOk.at (h : BetOk a b x y) : ∃ z, a[betK a y]? = some z ∧ z.Player = y.Player ∧ idxF (fun z => z.Player == y.Player) a 0 = (betK a y : Int) := by
 obtain ⟨z, hz, hs⟩ := List.any_eq_true.1 h.has
 have hs1 : y.Player = z.Player := by
  unfold sameH at hs
  simp only [Bool.and_eq_true, beq_iff_eq] at hs
  exact hs.1
 obtain ⟨i, w, h1, h2, h3⟩ := idxF_at (p := fun z : HopeS => z.Player == y.Player) (l := a) 0 ⟨z, hz, by simp [hs1]⟩
 have h1' : idxF (fun z : HopeS => z.Player == y.Player) a 0 = (i : Int) := by
  rw [show ((0 : Nat) : Int) = 0 from rfl] at h1
  rw [h1, Nat.zero_add]
 have hk : betK a y = i := by unfold betK; rw [h1']; rfl
 rw [hk]
 exact ⟨w, h2, by simpa using h3, h1'⟩
theorem BetOk.perm (h : BetOk a b x y) : (sortB a x y).Perm (withB a x y) := by
 obtain ⟨z, hz, hs, _⟩ := h.at
 exact (isort_perm _ _).trans (repl_perm (sortedS_nodup (hopes_one h.h0a).1) hz hs).symm
theorem BetOk.one (h : BetOk a b x y) : ∀ z ∈ withB a x y, One z := fun z hz => by
 rcases mem_set_of hz with rfl | hz
 ·exact one_of h.h0x
 ·exact (hopes_one h.h0a).2 z hz
theorem BetOk.ok (h : BetOk a b x y) : ∀ z ∈ withB a x y, HopeOk z := fun z hz => (h.one z hz).ok
theorem BetOk.len (h : BetOk a b x y) : (withB a x y).length ≤ 12 := by
 unfold withB; rw [List.length_set]; exact (hopes_ok h.h0a).1
theorem BetOk.right (h : BetOk a b x y) : hopesE (sortB a x y) = 0 := by
 refine hopes_of (by rw [h.perm.length_eq]; exact h.len) (hope_sorted ?_) fun z hz => h.one z (h.perm.mem_iff.1 hz)
 rw [List.map_append, List.nodup_append]
 have hn := sortedS_nodup (hopes_one h.h0a).1
 refine ⟨(hn.sublist ((List.filter_sublist (l := a)).map _)), by simp, fun s hs t ht e => ?_⟩
 rw [List.mem_map] at hs
 obtain ⟨z, hz, rfl⟩ := hs
 simp only [List.map_cons, List.map_nil, List.mem_singleton] at ht
 have h1 := List.any_eq_false.1 h.new z (List.mem_append_left _ (List.mem_filter.1 hz).1)
 exact h1 (by simp [e, ht])
theorem BetOk.cmp (h : BetOk a b x y) : cmpE (sortB a x y) b = cmpE (withB a x y) b := cmpE_order h.perm fun z hz => h.ok z (h.perm.mem_iff.1 hz)
theorem BetOk.bet2 (h : BetOk a b x y) (e : betF a b x y = 0) : bet2 a b x y = if cmpE a b ≠ 0 then cmpE a b else cmpE (withB a x y) b := by rw [HL.bet2, if_neg (by rw [e]; simp)]
theorem BetOk.cross (h : BetOk a b x y) : (chanceOf a b).Win.Num * (chanceOf (sortB a x y) b).Win.Den < (chanceOf (sortB a x y) b).Win.Num * (chanceOf a b).Win.Den ↔ (endsOf a b).win * prodP (withB a x y) 1 < (endsOf (withB a x y) b).win * prodP a 1 := by
 have oc : ∀ z ∈ sortB a x y, HopeOk z := fun z hz => h.ok z (h.perm.mem_iff.1 hz)
 rw [chanceOf_order h.perm oc]
 exact better_cross (hopes_ok h.h0a).2 h.ok (hopes_ok h.h0b).2
end
end Go.HL
end
section
namespace Go.HL
section
variable {h : List HopeS} {n : Int}
end
end Go.HL
end
section
namespace Go.HL
theorem eqOuts_iff : ∀ {l m : List OutS}, eqSts eOut l m = true ↔ l = m
 | [], [] => by simp [eqSts]
 | [], _ :: _ => by simp [eqSts]
 | _ :: _, [] => by simp [eqSts]
 | ⟨p, w⟩ :: l, ⟨q, v⟩ :: m => by
   have ih := eqOuts_iff (l := l) (m := m)
   simp [eqSts, eqSt, hcells, eqHL, eqH, ih, and_assoc]
theorem eqOuts_comm {l m : List OutS} : eqSts eOut l m = eqSts eOut m l := by
 have h1 := eqOuts_iff (l := l) (m := m)
 have h2 := eqOuts_iff (l := m) (m := l)
 cases c1 : eqSts eOut l m <;> cases c2 : eqSts eOut m l
 ·rfl
 ·exact absurd (h1.2 (h2.1 c2).symm) (by rw [c1]; simp)
 ·exact absurd (h2.2 (h1.1 c1).symm) (by rw [c2]; simp)
 ·rfl
abbrev named (s : Str) (z : HopeS) : Bool := z.Player == s
theorem idxK {a : List HopeS} {y : HopeS} (h : 0 ≤ idxF (named y.Player) a 0) : idxF (named y.Player) a 0 = ((betK a y : Nat) : Int) ∧ a[betK a y]? = some (a.getD (betK a y) hope0) ∧ (a.getD (betK a y) hope0).Player = y.Player ∧ betK a y < a.length := by
 have h1 := idxF_nonneg (named y.Player) a 0 (by omega)
 rw [decide_eq_true h] at h1
 obtain ⟨i, w, h2, h3, h4⟩ := idxF_at (p := named y.Player) (l := a) 0 (List.any_eq_true.1 h1.symm)
 have h2' : idxF (named y.Player) a 0 = (i : Int) := by
  rw [show ((0 : Nat) : Int) = 0 from rfl] at h2
  rw [h2, Nat.zero_add]
 have hk : betK a y = i := by
  show (idxF (named y.Player) a 0).toNat = i
  rw [h2']; rfl
 rw [hk]
 have hlt := lt_of_get h3
 have e : a.getD i hope0 = w := by rw [List.getD_eq_getElem?_getD, h3]; rfl
 exact ⟨h2', by rw [e]; exact h3, by rw [e]; simpa using h4, hlt⟩
theorem hopes_inj {l : List HopeS} (h : (l.map (·.Player)).Nodup) {x y : HopeS} (hx : x ∈ l) (hy : y ∈ l) (e : x.Player = y.Player) : x = y := by
 induction l with
 | nil => cases hx
 | cons a l ih =>
   simp only [List.map_cons, List.nodup_cons, List.mem_map, not_exists, not_and] at h
   rcases List.mem_cons.1 hx with rfl | hx' <;> rcases List.mem_cons.1 hy with rfl | hy'
   ·rfl
   ·exact absurd e.symm (h.1 y hy')
   ·exact absurd e (h.1 x hx')
   ·exact ih h.2 hx' hy'
section
variable {a b : List HopeS} {x y : HopeS}
theorem any_same (h0 : hopesE a = 0) : a.any (sameH y) = (decide (0 ≤ idxF (named y.Player) a 0) && eqSts eOut (a.getD (betK a y) hope0).Outs y.Outs) := by
 by_cases h : 0 ≤ idxF (named y.Player) a 0
 ·obtain ⟨h1, h2, h3, h4⟩ := idxK h
  rw [decide_eq_true h, Bool.true_and]
  have hm := List.mem_of_getElem? h2
  cases c : eqSts eOut (a.getD (betK a y) hope0).Outs y.Outs
  ·rw [Bool.eq_false_iff]
   intro hc
   obtain ⟨z, hz, hs⟩ := List.any_eq_true.1 hc
   unfold sameH at hs
   simp only [Bool.and_eq_true, beq_iff_eq] at hs
   have hn := sortedS_nodup (hopes_one h0).1
   have e : z = a.getD (betK a y) hope0 := hopes_inj hn hz hm (by rw [h3, hs.1])
   rw [← e, eqOuts_comm, hs.2] at c
   cases c
  ·refine List.any_eq_true.2 ⟨_, hm, ?_⟩
   unfold sameH
   rw [h3, eqOuts_comm, c]; simp
 ·rw [decide_eq_false h, Bool.false_and]
  have h1 := idxF_nonneg (named y.Player) a 0 (by omega)
  rw [decide_eq_false h] at h1
  rw [Bool.eq_false_iff]
  intro hc
  obtain ⟨z, hz, hs⟩ := List.any_eq_true.1 hc
  unfold sameH at hs
  simp only [Bool.and_eq_true, beq_iff_eq] at hs
  exact List.any_eq_false.1 h1.symm z hz (by simp [named, hs.1])
theorem any_new : (a ++ b).any (named x.Player) = (decide (0 ≤ idxF (named x.Player) a 0) || decide (0 ≤ idxF (named x.Player) b 0)) := by
 rw [List.any_append, idxF_nonneg _ a 0 (by omega), idxF_nonneg _ b 0 (by omega)]
theorem betF_8 (hz : betE a b x y = 0) (h : a.any (sameH y) = false) : betF a b x y = 8 := by rw [betF, if_neg (by rw [hz]; simp), h]; rfl
theorem betF_6 (hz : betE a b x y = 0) (h : a.any (sameH y) = true) (h2 : (a ++ b).any (named x.Player) = true) : betF a b x y = 6 := by
 rw [betF, if_neg (by rw [hz]; simp), h]
 simp only [Bool.not_true, Bool.false_eq_true, if_false]
 exact if_pos h2
theorem betF_0 (hz : betE a b x y = 0) (h : a.any (sameH y) = true) (h2 : (a ++ b).any (named x.Player) = false) : betF a b x y = 0 := by
 rw [betF, if_neg (by rw [hz]; simp), h]
 simp only [Bool.not_true, Bool.false_eq_true, if_false]
 exact if_neg (by rw [show ((a ++ b).any fun z => z.Player == x.Player) = false from h2]; simp)
theorem betF_e (hz : betE a b x y ≠ 0) : betF a b x y = betE a b x y := by rw [betF, if_pos hz]
theorem bet_f (e : betF a b x y ≠ 0) : bet2 a b x y = betF a b x y ∧ betV a b x y = false := by
 have h : bet2 a b x y = betF a b x y := by rw [bet2, if_pos e]
 exact ⟨h, by rw [betV, h]; simp [e]⟩
theorem bet_c (e : betF a b x y = 0) (c : cmpE a b ≠ 0) : bet2 a b x y = cmpE a b ∧ betV a b x y = false := by
 have h : bet2 a b x y = cmpE a b := by rw [bet2, if_neg (by rw [e]; simp), if_pos c]
 exact ⟨h, by rw [betV, h]; simp [c]⟩
theorem bet_w (e : betF a b x y = 0) (c0 : cmpE a b = 0) (c : cmpE (withB a x y) b ≠ 0) : bet2 a b x y = cmpE (withB a x y) b ∧ betV a b x y = false := by
 have h : bet2 a b x y = cmpE (withB a x y) b := by rw [bet2, if_neg (by rw [e]; simp), if_neg (by rw [c0]; simp)]
 exact ⟨h, by rw [betV, h]; simp [c]⟩
theorem bet_0 (e : betF a b x y = 0) (c0 : cmpE a b = 0) (c : cmpE (withB a x y) b = 0) : bet2 a b x y = 0 ∧ betV a b x y = decide ((endsOf a b).win * prodP (withB a x y) 1 < (endsOf (withB a x y) b).win * prodP a 1) := by
 have h : bet2 a b x y = 0 := by rw [bet2, if_neg (by rw [e]; simp), if_neg (by rw [c0]; simp), c]
 exact ⟨h, by rw [betV, h]; simp⟩
theorem win_bd (oa : ∀ z ∈ a, HopeOk z) (ob : ∀ z ∈ b, HopeOk z) (e : cmpE a b = 0) : 0 ≤ (endsOf a b).win ∧ (endsOf a b).win ≤ 1000000000000 := by
 have h := ends_bd oa ob e (spreadL a).length
 rw [List.take_length] at h
 exact h.1
theorem chance_bd (oa : ∀ z ∈ a, HopeOk z) (ob : ∀ z ∈ b, HopeOk z) (e : cmpE a b = 0) : (0 ≤ (chanceOf a b).Win.Num ∧ (chanceOf a b).Win.Num ≤ 1000000000000) ∧ (1 ≤ (chanceOf a b).Win.Den ∧ (chanceOf a b).Win.Den ≤ 1000000000000) := by
 have h := win_bd oa ob e
 have pa := (prodP_one oa).2.2.1
 have pb := (prodP_one ob).2.2.1
 have hT : 0 < prodP a 1 * prodP b 1 := Int.mul_pos (by omega) (by omega)
 have hp : prodP a 1 * prodP b 1 ≤ 1000000000000 := (cmpE_ok e).2.2
 have h1 := lowF_num hT h.1
 have h2 := lowF_den (w := (endsOf a b).win) hT
 unfold chanceOf
 dsimp only
 omega
theorem hilo_dec {A B : Int} : (decide (hiW B < hiW A) || (decide (hiW A = hiW B) && decide (loW B < loW A))) = decide (B < A) := by
 have h := hilo_gt (A := A) (B := B)
 rw [Bool.eq_iff_iff]
 simpa using h
theorem hilo_beq {A B : Int} : (decide (hiW B < hiW A) || (hiW A == hiW B && decide (loW B < loW A))) = decide (B < A) := by
 rw [← hilo_dec (A := A) (B := B)]
 congr 1
end
end Go.HL
end
section
namespace Go.Proofs.YtbihpphgoaflfaaGreatDoor
open Go.HL
set_option maxRecDepth 100000
set_option linter.unusedVariables false
set_option linter.unusedSimpArgs false
/-- math/bits.Len64 -/
theorem c_math_bits_Len64 [Tracks]   : ConP Tryz.prog 118 [.int .u64 0] (.int .i64 0) := by
 refine Con.of_body Tryz.func118 rfl Tryz.ntmps118 rfl rfl ?_
 refine hw_reg ?_
 refine dp rfl (pop_assign rfl) ?_
 refine dn ?_
 refine hw_seq ?_
 refine hw_reg ?_
 refine dp rfl (pop_move rfl) ?_
 refine dp rfl (pop_geq rfl rfl) ?_
 refine dn ?_
 refine hw_cond_f rfl ?_
 refine hw_skip ?_
 refine seqQ_n ?_
 refine hw_seq ?_
 refine hw_reg ?_
 refine dp rfl (pop_move rfl) ?_
 refine dp rfl (pop_geq rfl rfl) ?_
 refine dn ?_
 refine hw_cond_f rfl ?_
 refine hw_skip ?_
 refine seqQ_n ?_
 refine hw_seq ?_
 refine hw_reg ?_
 refine dp rfl (pop_move rfl) ?_
 refine dp rfl (pop_geq rfl rfl) ?_
 refine dn ?_
 refine hw_cond_f rfl ?_
 refine hw_skip ?_
 refine seqQ_n ?_
 refine hw_reg ?_
 refine dp rfl (pop_move rfl) ?_
 refine dp rfl (pop_move rfl) ?_
 refine dp rfl (pop_conv ty93 ty5 rfl) ?_
 refine dp rfl (pop_indexs (j := 0) (b := 0) ty9 rfl rfl rfl rfl) ?_
 refine dp rfl (pop_conv ty5 ty3 rfl) ?_
 refine dp rfl (pop_add64 rfl rfl (by decide) (by decide)) ?_
 refine dp rfl (pop_assign rfl) ?_
 refine dn ?_
 refine hw_ret ?_
 refine ret_p rfl ?_
 rfl

/-- math/bits.Len -/
theorem c_math_bits_Len [Tracks]   : ConP Tryz.prog 84 [.int .u64 0] (.int .i64 0) := by
 refine Con.of_body Tryz.func84 rfl Tryz.ntmps84 rfl rfl ?_
 refine hw_reg ?_
 refine dp rfl (pop_assign rfl) ?_
 refine dn ?_
 refine hw_seq ?_
 refine hw_cond_f rfl ?_
 refine hw_skip ?_
 refine seqQ_n ?_
 refine hw_reg ?_
 refine dp rfl (pop_move rfl) ?_
 refine dp rfl (pop_call ca118 rfl (WeakL.refl _) c_math_bits_Len64) ?_
 refine dp rfl (pop_assign rfl) ?_
 refine dn ?_
 refine hw_ret ?_
 refine ret_p rfl ?_
 rfl

/-- slices.insertionSortOrdered[string] -/
theorem c_slices_insertionSortOrdered_string [Tracks]   : ConP Tryz.prog 187 [eSs [], .int .i64 0, .int .i64 0] (.tup []) := by
 refine Con.of_body Tryz.func187 rfl Tryz.ntmps187 rfl rfl ?_
 refine hw_reg ?_
 refine dp rfl (pop_move rfl) ?_
 refine dp rfl (pop_add64 rfl rfl (by omega) (by omega)) ?_
 refine dp rfl (pop_assign rfl) ?_
 refine dn ?_
 refine hw_block ?_
 refine hw_loopw [6, 7, 10, 11, 12, 13, 14, 15, 16, 17, 18, 19, 20, 21, 22, 23, 24, 25, 26, 27, 28, 29, 30, 31, 32, 33, 34, 35, 36, 37, 38, 39, 40, 41, 42, 43, 44, 45, 46, 47, 48] (fun (u : Unit) => [(6, .int .i64 1)]) (fun (u : Unit) => []) (fun (u : Unit) => True) (fun (u : Unit) => 0) (()) ?_ ?_ ?_ ?_
 ·trivial
 ·exact ⟨rfl, trivial⟩
 ·exact List.Perm.refl _
 ·intro u hu
  refine hw_seq ?_
  refine hw_reg ?_
  refine dp rfl (pop_move rfl) ?_
  refine dp rfl (pop_move rfl) ?_
  refine dp rfl (pop_lss rfl rfl) ?_
  refine dn ?_
  refine hw_cond_f rfl ?_
  refine hw_exit ?_
  refine seqQ_x ?_
  refine loopQ_x ?_
  refine blockQ_eq ?_
  refine ret_n rfl ?_
  rfl

/-- slices.pdqsortOrdered[string] -/
theorem c_slices_pdqsortOrdered_string [Tracks]   : ConP Tryz.prog 160 [eSs [], .int .i64 0, .int .i64 0, .int .i64 0] (.tup []) := by
 refine Con.of_body Tryz.func160 rfl Tryz.ntmps160 rfl rfl ?_
 refine hw_reg ?_
 refine dp rfl (pop_assign rfl) ?_
 refine dn ?_
 refine hw_reg ?_
 refine dp rfl (pop_assign rfl) ?_
 refine dn ?_
 refine hw_block ?_
 refine hw_loopw (1 :: 2 :: 3 :: 8 :: 9 :: 10 :: 11 :: 12 :: 13 :: 14 :: 15 :: 16 :: 17 :: 18 :: 19 :: 20 :: 21 :: 22 :: 23 :: 24 :: 25 :: 26 :: 27 :: 28 :: 29 :: 30 :: 31 :: 32 :: 33 :: 34 :: 35 :: 36 :: 37 :: 38 :: 39 :: 40 :: 41 :: 42 :: 43 :: 44 :: 45 :: 46 :: 47 :: 48 :: 49 :: 50 :: 51 :: 52 :: 53 :: 54 :: 55 :: 56 :: 57 :: 58 :: 59 :: 60 :: 61 :: 62 :: 63 :: 64 :: 65 :: 66 :: 67 :: 68 :: 69 :: 70 :: 71 :: 72 :: 73 :: 74 :: 75 :: 76 :: 77 :: 78 :: 79 :: 80 :: 81 :: 82 :: 83 :: 84 :: 85 :: 86 :: 87 :: 88 :: 89 :: 90 :: 91 :: 92 :: 93 :: 94 :: 95 :: 96 :: 97 :: 98 :: 99 :: 100 :: 101 :: 102 :: 103 :: 104 :: 105 :: 106 :: 107 :: 108 :: 109 :: 110 :: 111 :: 112 :: 113 :: 114 :: 115 :: 116 :: 117 :: 118 :: 119 :: 120 :: 121 :: 122 :: 123 :: 124 :: 125 :: 126 :: 127 :: 128 :: 129 :: 130 :: 131 :: 132 :: 133 :: []) (fun (u : Unit) => [(1, .int .i64 0), (2, .int .i64 0)]) (fun (u : Unit) => []) (fun (u : Unit) => True) (fun (u : Unit) => 0) (()) ?_ ?_ ?_ ?_
 ·trivial
 ·exact ⟨rfl, rfl, trivial⟩
 ·exact List.Perm.refl _
 ·intro u hu
  refine hw_block ?_
  refine hw_reg ?_
  refine dp rfl (pop_move rfl) ?_
  refine dp rfl (pop_move rfl) ?_
  refine dp rfl (pop_sub64 rfl rfl (by omega) (by omega)) ?_
  refine dp rfl (pop_assign rfl) ?_
  refine dn ?_
  refine hw_seq ?_
  refine hw_reg ?_
  refine dp rfl (pop_move rfl) ?_
  refine dp rfl (pop_leq rfl rfl) ?_
  refine dn ?_
  refine hw_cond_t rfl ?_
  refine hw_reg ?_
  refine dp rfl (pop_move rfl) ?_
  refine dp rfl (pop_move rfl) ?_
  refine dp rfl (pop_move rfl) ?_
  refine dp rfl (pop_call ca187 rfl (WeakL.refl _) c_slices_insertionSortOrdered_string) ?_
  refine dn ?_
  refine hw_ret ?_
  refine ret_p rfl ?_
  rfl

/-- slices.Sort[[]string,string] -/
theorem c_slices_Sort_nil [Tracks]   : ConP Tryz.prog 108 [eSs []] (.tup []) := by
 refine Con.of_body Tryz.func108 rfl Tryz.ntmps108 rfl rfl ?_
 refine hw_reg ?_
 refine dp rfl (pop_move rfl) ?_
 refine dp rfl (pop_lenm ty77 rfl) ?_
 refine dp rfl (pop_assign rfl) ?_
 refine dn ?_
 refine hw_reg1 ?_
 refine dp rfl (pop_move rfl) ?_
 refine dp rfl (pop_move rfl) ?_
 refine dp rfl (pop_move rfl) ?_
 refine dp rfl (pop_conv ty3 ty128 rfl) ?_
 refine dp rfl (pop_call ca84 rfl (WeakL.refl _) c_math_bits_Len) ?_
 refine dp rfl (pop_call ca160 rfl (WeakL.refl _) c_slices_pdqsortOrdered_string) ?_
 refine dn ?_
 refine ret_n rfl ?_
 rfl

/-- slices.Sort: the slice holds the same strings in order -/
theorem c_slices_Sort [Tracks] {l : List Str} {v : Value} (hl : l.length ≤ 1000000) : Con Tryz.prog 108 [.raw v] [.arr v 1 (l.map .str)] fun x M' => x = .tup [] ∧ M' = [.arr v 1 ((sortS l).map .str)] :=
 con_row (sortS_len l) (fun b off cap w h1 h2 _ => Any.slices_Sort_string Tryz.lays190 b off cap l w h1 h2 (by omega)) (fun _ => c_slices_Sort_nil)
end Go.Proofs.YtbihpphgoaflfaaGreatDoor
end
section
namespace Go.Proofs.YtbihpphgoaflfaaGreatDoor
open Go.HL
set_option maxRecDepth 100000
set_option linter.unusedVariables false
set_option linter.unusedSimpArgs false
/-- benchwarmer/benchmake.Below -/
theorem c_benchmake_Below [Tracks] {x n : Int} (hn : n ≤ 4000000000) : ConP Tryz.prog 48 [.int .i64 x, .int .i64 n] (.int .i64 (below x n)) := by
 refine Con.of_body Tryz.func48 rfl Tryz.ntmps48 rfl rfl ?_
 refine hw_reg ?_
 refine dp rfl (pop_assign rfl) ?_
 refine dn ?_
 refine hw_seq ?_
 refine hw_reg ?_
 refine dp rfl (pop_move rfl) ?_
 refine dp rfl (pop_lss rfl rfl) ?_
 refine dn ?_
 refine hw_cond rfl (fun h1 => ?_) (fun h2 => ?_)
 ·try simp at h1
  refine hw_reg ?_
  refine dp rfl (pop_assign rfl) ?_
  refine dn ?_
  refine hw_ret ?_
  refine ret_p rfl ?_
  show HVal.int .i64 _ = _
  simp_all [below]
  try omega
 ·try simp at h2
  refine hw_skip ?_
  refine seqQ_n ?_
  refine hw_reg ?_
  refine dp rfl (pop_move rfl) ?_
  refine dp rfl (pop_move rfl) ?_
  refine dp rfl (pop_rem rfl rfl (by omega)) ?_
  refine dp rfl (pop_assign rfl) ?_
  refine dn ?_
  refine hw_seq ?_
  refine hw_reg ?_
  refine dp rfl (pop_move rfl) ?_
  refine dp rfl (pop_lss rfl rfl) ?_
  refine dn ?_
  refine hw_cond rfl (fun h3 => ?_) (fun h4 => ?_)
  ·try simp at h3
   refine hw_reg1 ?_
   refine dp rfl (pop_move rfl) ?_
   refine dp rfl (pop_move rfl) ?_
   have hm := Int.tmod_lt_of_pos x (show 0 < n by omega)
   obtain ⟨y, hy1, hy2⟩ := below_nat x n
   have hb : below x n = x.tmod n + n := by unfold below; rw [if_neg (by omega), if_pos (by omega)]
   refine dp rfl (pop_add64 rfl rfl (by omega) (by omega)) ?_
   refine dp rfl (pop_assign rfl) ?_
   refine dn ?_
   refine seqQ_n ?_
   refine hw_reg ?_
   refine dp rfl (pop_move rfl) ?_
   refine dp rfl (pop_assign rfl) ?_
   refine dn ?_
   refine hw_ret ?_
   refine ret_p rfl ?_
   show HVal.int .i64 _ = _
   simp_all [below]
   try omega
  ·try simp at h4
   refine hw_skip ?_
   refine seqQ_n ?_
   refine hw_reg ?_
   refine dp rfl (pop_move rfl) ?_
   refine dp rfl (pop_assign rfl) ?_
   refine dn ?_
   refine hw_ret ?_
   refine ret_p rfl ?_
   show HVal.int .i64 _ = _
   simp_all [below]
   try omega

/-- (*benchwarmer/benchmake.Stream).Next -/
theorem c_benchmake_Stream_Next [Tracks] {b : Nat} {l : List Int} {a : Nat} {n : Int} (ha : a ≤ 1000000) (hn : n ≤ 4000000000) : Con Tryz.prog 22 [pAt b, .int .i64 n] [St b l a] (fun x M' => ∃ y : Nat, x = .int .i64 (y : Int) ∧ (y : Int) < max n 1 ∧ M' = [St b l (a + 1)]) := by
 refine Con.of_body Tryz.func22 rfl Tryz.ntmps22 rfl rfl ?_
 refine hw_reg ?_
 refine dp rfl (pop_assign rfl) ?_
 refine dn ?_
 refine hw_reg ?_
 refine dp rfl (pop_move rfl) ?_
 refine dp rfl ((pop_nilCheck_raw rfl)) ?_
 refine dp rfl (pop_fieldAddr_raw ty25 rfl ty3 (by decide) rfl) ?_
 refine de rfl (eop_load (i := 0) ty3 rfl rfl (.inl ⟨rfl, rfl⟩) ?_)
 refine dp rfl (pop_add64 rfl rfl (by omega) (by omega)) ?_
 refine dp rfl ((pop_nilCheck_raw rfl)) ?_
 refine dp rfl (pop_fieldAddr_raw ty25 rfl ty3 (by decide) rfl) ?_
 refine de0 (eop_store (i := 0) ty3 rfl rfl rfl rfl rfl (Nat.le_of_ble_eq_true rfl) ?_)
 refine dn ?_
 refine hw_seq ?_
 refine hw_reg ?_
 refine dp rfl (pop_move rfl) ?_
 refine dp rfl ((pop_nilCheck_raw rfl)) ?_
 refine dp rfl (pop_fieldAddr_raw ty25 rfl ty22 (by decide) rfl) ?_
 refine de rfl (eop_load (i := 0) ty22 rfl rfl (.inl ⟨rfl, rfl⟩) ?_)
 refine dp rfl (pop_lenm ty22 rfl) ?_
 refine dp rfl (pop_eql rfl rfl) ?_
 refine dn ?_
 refine hw_cond rfl (fun h1 => ?_) (fun h2 => ?_)
 ·try simp at h1
  refine hw_reg ?_
  refine dp rfl (pop_move rfl) ?_
  refine dp rfl ((pop_nilCheck_raw rfl)) ?_
  refine dp rfl (pop_fieldAddr_raw ty25 rfl ty3 (by decide) rfl) ?_
  refine de rfl (eop_load (i := 0) ty3 rfl rfl (.inl ⟨rfl, rfl⟩) ?_)
  refine dp rfl (pop_mul rfl rfl) ?_
  refine dp rfl (pop_move rfl) ?_
  refine dp rfl (pop_call ca48 rfl (WeakL.refl _) (c_benchmake_Below (by assumption))) ?_
  refine dp rfl (pop_assign rfl) ?_
  refine dn ?_
  refine hw_ret ?_
  refine ret_q rfl ?_
  obtain ⟨y, h1, h2⟩ := below_nat _ n
  exact ⟨y, congrArg _ h1, h2, rfl⟩
 ·try simp at h2
  refine hw_skip ?_
  refine seqQ_n ?_
  have hl0 : 0 < l.length := List.length_pos_iff.2 (by simpa using h2)
  refine hw_draw (fun M => ∃ i : Nat, M[i]? = some (St b l (a + 1))) [3, 8] mixed ?_
  refine ahp 0 rfl rfl (by kernel_rfl) (by kernel_rfl) (pop_move rfl) ?_
  refine ahp 1 rfl rfl (by kernel_rfl) (by kernel_rfl) ((pop_nilCheck_raw rfl)) ?_
  refine ahp 2 rfl rfl (by kernel_rfl) (by kernel_rfl) (pop_fieldAddr_raw ty25 rfl ty3 (by decide) rfl) ?_
  refine ahl 3 rfl rfl (by kernel_rfl) (by kernel_rfl) (by simp) (⟨0, rfl⟩) (fun M hM => by obtain ⟨i, hi⟩ := hM; exact eop_load (i := i) ty3 rfl hi (.inl ⟨rfl, rfl⟩) ⟨rfl, rfl⟩) ?_
  refine ahp 4 rfl rfl (by kernel_rfl) (by kernel_rfl) (pop_sub64 rfl rfl (by omega) (by omega)) ?_
  refine ahp 5 rfl rfl (by kernel_rfl) (by kernel_rfl) (pop_move rfl) ?_
  refine ahp 6 rfl rfl (by kernel_rfl) (by kernel_rfl) ((pop_nilCheck_raw rfl)) ?_
  refine ahp 7 rfl rfl (by kernel_rfl) (by kernel_rfl) (pop_fieldAddr_raw ty25 rfl ty22 (by decide) rfl) ?_
  refine ahl 8 rfl rfl (by kernel_rfl) (by kernel_rfl) (by simp) (⟨0, rfl⟩) (fun M hM => by obtain ⟨i, hi⟩ := hM; exact eop_load (i := i) ty22 rfl hi (.inl ⟨rfl, rfl⟩) ⟨rfl, rfl⟩) ?_
  refine ahp 9 rfl rfl (by kernel_rfl) (by kernel_rfl) (pop_lenm ty22 rfl) ?_
  refine ahp 10 rfl rfl (by kernel_rfl) (by kernel_rfl) (pop_eq (h' := .int .i64 ((a % l.length : Nat) : Int)) (pop_rem rfl rfl (by omega)) (by show HVal.int .i64 (((a : Int) + 1 - 1).tmod _) = _; rw [show ((a : Int) + 1 - 1) = (a : Int) by omega]; exact congrArg _ (tmod_nat _ _))) ?_
  refine ahp 11 rfl rfl (by kernel_rfl) (by kernel_rfl) (pop_assign rfl) ?_
  refine ahz (by kernel_rfl) ?_
  refine hw_draw (fun M => ∃ i : Nat, M[i]? = some (St b l (a + 1))) [3, 8] mixed ?_
  refine ahp 0 rfl rfl (by kernel_rfl) (by kernel_rfl) (pop_move rfl) ?_
  refine ahp 1 rfl rfl (by kernel_rfl) (by kernel_rfl) ((pop_nilCheck_raw rfl)) ?_
  refine ahp 2 rfl rfl (by kernel_rfl) (by kernel_rfl) (pop_fieldAddr_raw ty25 rfl ty3 (by decide) rfl) ?_
  refine ahl 3 rfl rfl (by kernel_rfl) (by kernel_rfl) (by simp) (⟨0, rfl⟩) (fun M hM => by obtain ⟨i, hi⟩ := hM; exact eop_load (i := i) ty3 rfl hi (.inl ⟨rfl, rfl⟩) ⟨rfl, rfl⟩) ?_
  refine ahp 4 rfl rfl (by kernel_rfl) (by kernel_rfl) (pop_sub64 rfl rfl (by omega) (by omega)) ?_
  refine ahp 5 rfl rfl (by kernel_rfl) (by kernel_rfl) (pop_move rfl) ?_
  refine ahp 6 rfl rfl (by kernel_rfl) (by kernel_rfl) ((pop_nilCheck_raw rfl)) ?_
  refine ahp 7 rfl rfl (by kernel_rfl) (by kernel_rfl) (pop_fieldAddr_raw ty25 rfl ty22 (by decide) rfl) ?_
  refine ahl 8 rfl rfl (by kernel_rfl) (by kernel_rfl) (by simp) (⟨0, rfl⟩) (fun M hM => by obtain ⟨i, hi⟩ := hM; exact eop_load (i := i) ty22 rfl hi (.inl ⟨rfl, rfl⟩) ⟨rfl, rfl⟩) ?_
  refine ahp 9 rfl rfl (by kernel_rfl) (by kernel_rfl) (pop_lenm ty22 rfl) ?_
  refine ahp 10 rfl rfl (by kernel_rfl) (by kernel_rfl) (pop_quo rfl rfl (by omega)) ?_
  refine ahp 11 rfl rfl (by kernel_rfl) (by kernel_rfl) (pop_assign rfl) ?_
  refine ahz (by kernel_rfl) ?_
  refine hw_reg ?_
  refine dp rfl (pop_move rfl) ?_
  refine dp rfl ((pop_nilCheck_raw rfl)) ?_
  refine dp rfl (pop_fieldAddr_raw ty25 rfl ty22 (by decide) rfl) ?_
  refine de rfl (eop_load (i := 0) ty22 rfl rfl (.inl ⟨rfl, rfl⟩) ?_)
  refine dp rfl (pop_move rfl) ?_
  refine dp rfl (pop_idx (j := a % l.length) (a := l[a % l.length]'(Nat.mod_lt _ (by omega))) ty22 ty3 rfl rfl rfl (List.getElem?_eq_getElem _)) ?_
  refine dp rfl (pop_load ty3 rfl rfl rfl) ?_
  refine dp rfl (pop_call ca48 rfl (WeakL.refl _) (c_benchmake_Below (by omega))) ?_
  refine dp rfl (pop_move rfl) ?_
  refine dp rfl (pop_move rfl) ?_
  refine dp rfl (pop_add rfl rfl) ?_
  refine dp rfl (pop_mul rfl rfl) ?_
  refine dp rfl (pop_add rfl rfl) ?_
  refine dp rfl (pop_move rfl) ?_
  refine dp rfl (pop_call ca48 rfl (WeakL.refl _) (c_benchmake_Below (by assumption))) ?_
  refine dp rfl (pop_assign rfl) ?_
  refine dn ?_
  refine hw_ret ?_
  refine ret_q rfl ?_
  obtain ⟨y, h1, h2⟩ := below_nat _ n
  exact ⟨y, congrArg _ h1, h2, rfl⟩

/-- (*benchwarmer/benchmake.Stream).Range -/
theorem c_benchmake_Stream_Range [Tracks] {b : Nat} {l : List Int} {a : Nat} {lo hi : Int} (ha : a ≤ 1000000) (hlh : lo ≤ hi) (h0 : -1000000000 ≤ lo) (h1 : hi ≤ 1000000000) : Con Tryz.prog 29 [pAt b, .int .i64 lo, .int .i64 hi] [St b l a] (fun x M' => ∃ y : Int, x = .int .i64 y ∧ (lo ≤ y ∧ y ≤ hi) ∧ M' = [St b l (a + 1)]) := by
 refine Con.of_body Tryz.func29 rfl Tryz.ntmps29 rfl rfl ?_
 refine hw_reg ?_
 refine dp rfl (pop_assign rfl) ?_
 refine dn ?_
 refine hw_seq ?_
 refine hw_reg ?_
 refine dp rfl (pop_move rfl) ?_
 refine dp rfl (pop_move rfl) ?_
 refine dp rfl (pop_lss rfl rfl) ?_
 refine dn ?_
 refine hw_cond rfl (fun h1 => ?_) (fun h1 => ?_)
 ·exfalso
  try simp at h1
  omega
 ·try simp at h1
  refine hw_skip ?_
  refine seqQ_n ?_
  refine hw_reg ?_
  refine dp rfl (pop_move rfl) ?_
  refine dp rfl (pop_move rfl) ?_
  refine dp rfl (pop_move rfl) ?_
  refine dp rfl (pop_move rfl) ?_
  refine dp rfl (pop_sub64 rfl rfl (by omega) (by omega)) ?_
  refine dp rfl (pop_add64 rfl rfl (by omega) (by omega)) ?_
  refine de rfl (eop_callx (i := 0) ca22 rfl (WeakL.refl _) rfl (c_benchmake_Stream_Next (by assumption) (by omega)) ?_)
  rintro _ _ ⟨y17, rfl, hy17, rfl⟩
  refine dp rfl (pop_add64 rfl rfl (by omega) (by omega)) ?_
  refine dp rfl (pop_assign rfl) ?_
  refine dn ?_
  refine hw_ret ?_
  exact ret_q rfl ⟨_, rfl, by omega, rfl⟩

/-- (*benchwarmer/benchmake.Stream).Flip -/
theorem c_benchmake_Stream_Flip [Tracks] {b : Nat} {l : List Int} {a : Nat} {n : Int} (ha : a ≤ 1000000) (hn : n ≤ 4000000000) : Con Tryz.prog 8 [pAt b, .int .i64 n] [St b l a] (fun x M' => ∃ y : Bool, x = .bool y ∧ M' = [St b l (a + 1)]) := by
 refine Con.of_body Tryz.func8 rfl Tryz.ntmps8 rfl rfl ?_
 refine hw_reg ?_
 refine dp rfl (pop_assign rfl) ?_
 refine dn ?_
 refine hw_reg ?_
 refine dp rfl (pop_move rfl) ?_
 refine dp rfl (pop_move rfl) ?_
 refine de rfl (eop_callx (i := 0) ca22 rfl (WeakL.refl _) rfl (c_benchmake_Stream_Next (by assumption) (by assumption)) ?_)
 rintro _ _ ⟨y7, rfl, hy7, rfl⟩
 refine dp rfl (pop_eql rfl rfl) ?_
 refine dp rfl (pop_assign rfl) ?_
 refine dn ?_
 refine hw_ret ?_
 exact ret_q rfl ⟨_, rfl, rfl⟩

/-- (*benchwarmer/benchmake.Stream).Pick -/
theorem c_benchmake_Stream_Pick [Tracks] {b : Nat} {l : List Int} {a : Nat} {L : List Int} (ha : a ≤ 1000000) (h0 : 0 < L.length) (h1 : L.length ≤ 1000000) : Con Tryz.prog 7 [pAt b, .slice 1 (L.map (.int .i64))] [St b l a] (fun x M' => ∃ y : Int, x = .int .i64 y ∧ y ∈ L ∧ M' = [St b l (a + 1)]) := by
 refine Con.of_body Tryz.func7 rfl Tryz.ntmps7 rfl rfl ?_
 refine hw_reg ?_
 refine dp rfl (pop_assign rfl) ?_
 refine dn ?_
 refine hw_reg ?_
 refine dp rfl (pop_move rfl) ?_
 refine dp rfl (pop_move rfl) ?_
 refine dp rfl (pop_move rfl) ?_
 refine dp rfl (pop_lenm ty22 rfl) ?_
 refine de rfl (eop_callx (i := 0) ca22 rfl (WeakL.refl _) rfl (c_benchmake_Stream_Next (by assumption) (by omega)) ?_)
 rintro _ _ ⟨y9, rfl, hy9, rfl⟩
 obtain ⟨z, hz, hm⟩ := getI hy9 h0
 refine dp rfl (pop_idx (j := y9) (a := z) ty22 ty3 rfl rfl rfl hz) ?_
 refine dp rfl (pop_load ty3 rfl rfl rfl) ?_
 refine dp rfl (pop_assign rfl) ?_
 refine dn ?_
 refine hw_ret ?_
 exact ret_q rfl ⟨_, rfl, hm, rfl⟩

/-- (*benchwarmer/benchmake.Stream).Some -/
theorem c_benchmake_Stream_Some [Tracks] {b : Nat} {l : List Int} {a : Nat} {L : List Str} (ha : a ≤ 1000000) (h0 : 0 < L.length) (h1 : L.length ≤ 1000000) : Con Tryz.prog 21 [pAt b, eSs L] [St b l a] (fun x M' => ∃ y : Str, x = .str y ∧ y ∈ L ∧ M' = [St b l (a + 1)]) := by
 refine Con.of_body Tryz.func21 rfl Tryz.ntmps21 rfl rfl ?_
 refine hw_reg ?_
 refine dp rfl (pop_assign rfl) ?_
 refine dn ?_
 refine hw_reg ?_
 refine dp rfl (pop_move rfl) ?_
 refine dp rfl (pop_move rfl) ?_
 refine dp rfl (pop_move rfl) ?_
 refine dp rfl (pop_lenm ty77 rfl) ?_
 refine de rfl (eop_callx (i := 0) ca22 rfl (WeakL.refl _) rfl (c_benchmake_Stream_Next (by assumption) (by omega)) ?_)
 rintro _ _ ⟨y9, rfl, hy9, rfl⟩
 obtain ⟨z, hz, hm⟩ := getS hy9 h0
 refine dp rfl (pop_idx (j := y9) (a := z) ty77 ty9 rfl rfl rfl hz) ?_
 refine dp rfl (pop_load ty9 rfl rfl rfl) ?_
 refine dp rfl (pop_assign rfl) ?_
 refine dn ?_
 refine hw_ret ?_
 exact ret_q rfl ⟨_, rfl, hm, rfl⟩
end Go.Proofs.YtbihpphgoaflfaaGreatDoor
end
section
namespace Go.Proofs.YtbihpphgoaflfaaGreatDoor
open Go.HL
set_option maxRecDepth 100000
set_option linter.unusedVariables false
set_option linter.unusedSimpArgs false
/-- strconv.Itoa of a small number -/
theorem c_strconv_Itoa [Tracks] {i : Nat} (hi : i < 100) : ConP Tryz.prog 33 [.int .i64 (i : Int)] (.str (Lib.decDigits i)) :=
 conp_of_calls fun I w args ha => by
  obtain ⟨u, rfl, hu⟩ := ha.one
  obtain rfl := hu.int_inv
  exact ⟨_, .str _, Any.strconv_Itoa_small Tryz.lays171 i hi w⟩
end Go.Proofs.YtbihpphgoaflfaaGreatDoor
end
section
namespace Go.Proofs.YtbihpphgoaflfaaGreatDoor
open Go.HL
set_option maxRecDepth 100000
set_option linter.unusedVariables false
set_option linter.unusedSimpArgs false
/-- math/bits.Len64 -/
theorem c_bits_Len64_s [Tracks] {x : Nat} (hx : x < 16) : Con Tryz.prog 118 [.int .u64 (x : Int)] [] (fun y M' => ∃ n : Int, y = .int .i64 n ∧ M' = []) := by
 refine Con.of_body Tryz.func118 rfl Tryz.ntmps118 rfl rfl ?_
 refine hw_reg ?_
 refine dp rfl (pop_assign rfl) ?_
 refine dn ?_
 refine hw_seq ?_
 refine hw_reg ?_
 refine dp rfl (pop_move rfl) ?_
 refine dp rfl (pop_geq rfl rfl) ?_
 refine dn ?_
 refine hw_cond rfl (fun h1 => ?_) (fun h1 => ?_)
 ·exfalso
  try simp at h1
  omega
 ·try simp at h1
  refine hw_skip ?_
  refine seqQ_n ?_
  refine hw_seq ?_
  refine hw_reg ?_
  refine dp rfl (pop_move rfl) ?_
  refine dp rfl (pop_geq rfl rfl) ?_
  refine dn ?_
  refine hw_cond rfl (fun h2 => ?_) (fun h2 => ?_)
  ·exfalso
   try simp at h2
   omega
  ·try simp at h2
   refine hw_skip ?_
   refine seqQ_n ?_
   refine hw_seq ?_
   refine hw_reg ?_
   refine dp rfl (pop_move rfl) ?_
   refine dp rfl (pop_geq rfl rfl) ?_
   refine dn ?_
   refine hw_cond rfl (fun h3 => ?_) (fun h3 => ?_)
   ·exfalso
    try simp at h3
    omega
   ·try simp at h3
    refine hw_skip ?_
    refine seqQ_n ?_
    refine hw_reg ?_
    refine dp rfl (pop_move rfl) ?_
    refine dp rfl (pop_move rfl) ?_
    refine dp rfl (pop_conv ty93 ty5 rfl) ?_
    refine dp rfl (pop_indexs (j := x) ty9 rfl rfl (wrap8 hx) (List.getElem?_eq_getElem (Nat.lt_of_lt_of_le hx (Nat.le_of_ble_eq_true (by kernel_rfl))))) ?_
    refine dp rfl (pop_conv ty5 ty3 rfl) ?_
    refine dp rfl (pop_add rfl rfl) ?_
    refine dp rfl (pop_assign rfl) ?_
    refine dn ?_
    refine hw_ret ?_
    exact ret_q rfl ⟨_, rfl, rfl⟩

/-- math/bits.Len -/
theorem c_bits_Len_s [Tracks] {x : Nat} (hx : x < 16) : Con Tryz.prog 84 [.int .u64 (x : Int)] [] (fun y M' => ∃ n : Int, y = .int .i64 n ∧ M' = []) := by
 refine Con.of_body Tryz.func84 rfl Tryz.ntmps84 rfl rfl ?_
 refine hw_reg ?_
 refine dp rfl (pop_assign rfl) ?_
 refine dn ?_
 refine hw_seq ?_
 refine hw_cond_f rfl ?_
 refine hw_skip ?_
 refine seqQ_n ?_
 refine hw_reg ?_
 refine dp rfl (pop_move rfl) ?_
 refine de rfl (eop_callf (M1 := []) (R := []) ca118 rfl (WeakL.refl _) (List.Perm.refl _) (c_bits_Len64_s hx) ?_)
 rintro _ _ ⟨n7, rfl, rfl⟩
 refine dp rfl (pop_assign rfl) ?_
 refine dn ?_
 refine hw_ret ?_
 exact ret_q rfl ⟨_, rfl, rfl⟩

set_option maxHeartbeats 1000000 in
/-- slices.insertionSortCmpFunc[benchwarmer/api.Asset] -/
theorem c_slices_insertionSortCmpFunc_api_Asset [Tracks] {l : List Asset} {v : Value} {fid : FuncId} {caps : List HVal} {c : Asset → Asset → Int} {n : Int} (hca : Callable Tryz.prog fid) (hp : ∀ x y, ConP Tryz.prog fid ([eAsset x, eAsset y] ++ caps) (.int .i64 (c x y))) (hn : n = l.length) (hl : l.length ≤ 1000000) : Con Tryz.prog 208 [.raw v, .int .i64 0, .int .i64 n, .fn (.func fid) [] caps] [.arr v 3 (l.map eAsset)] (fun x M' => x = .tup [] ∧ M' = [.arr v 3 ((isort c l).map eAsset)]) := by
 subst hn
 refine Con.of_body Tryz.func208 rfl Tryz.ntmps208 rfl rfl ?_
 refine hw_reg ?_
 refine dp rfl (pop_move rfl) ?_
 refine dp rfl (pop_add64 rfl rfl (by omega) (by omega)) ?_
 refine dp rfl (pop_assign rfl) ?_
 refine dn ?_
 refine hw_block ?_
 refine hw_loopw [8, 9, 12, 13, 14, 15, 16, 17, 18, 19, 20, 21, 22, 23, 24, 25, 26, 27, 28, 29, 30, 31, 32, 33, 34, 35, 36, 37, 38, 39, 40, 41, 42, 43, 44, 45, 46, 47, 48, 49, 50, 51, 52] (fun (k : Nat) => [(8, .int .i64 (k : Int))]) (fun (k : Nat) => [.arr v 3 ((isort c (l.take k) ++ l.drop k).map eAsset)]) (fun (k : Nat) => 1 ≤ k) (fun (k : Nat) => l.length - k) (1) ?_ ?_ ?_ ?_
 ·exact Nat.le_refl _
 ·exact ⟨rfl, trivial⟩
 ·exact perm_eq (by rw [isort_take1])
 ·intro k hk
  refine hw_seq ?_
  refine hw_reg ?_
  refine dp rfl (pop_move rfl) ?_
  refine dp rfl (pop_move rfl) ?_
  refine dp rfl (pop_lss rfl rfl) ?_
  refine dn ?_
  refine hw_cond rfl (fun h1 => ?_) (fun h2 => ?_)
  ·try simp at h1
   obtain ⟨x, hx⟩ : ∃ x, l[k]? = some x := ⟨_, List.getElem?_eq_getElem (by omega)⟩
   refine hw_arrc (i := 0) rfl (fun h0 he => ?_) (fun b off cap hv hcap => ?_)
   ·exfalso; have := congrArg List.length he; simp [isort_len] at this; omega
   rw [show ((isort c (l.take k) ++ l.drop k).map eAsset).length = l.length by simp [isort_len]; omega] at hv
   subst hv
   refine hw_skip ?_
   refine seqQ_n ?_
   refine hw_seq ?_
   refine hw_block ?_
   refine hw_reg ?_
   refine dp rfl (pop_move rfl) ?_
   refine dp rfl (pop_assign rfl) ?_
   refine dn ?_
   refine hw_block ?_
   refine hw_loopw2 [9, 18, 19, 20, 21, 22, 23, 24, 25, 26, 27, 28, 29, 30, 31, 32, 33, 34, 35, 36, 37, 38, 39, 40, 41, 42, 43, 44, 45, 46, 47, 48, 49, 50, 51, 52] (fun (A : List Asset) (B : List Asset) => [(9, .int .i64 (A.length : Int))]) (fun (A : List Asset) (B : List Asset) => [.arr (.slice (some ⟨b, off, none⟩) l.length cap) 3 ((A ++ x :: (B ++ l.drop (k + 1))).map eAsset)]) (fun (A : List Asset) (B : List Asset) => A.length + B.length = k ∧ insB c x (isort c (l.take k)) = insB c x A ++ B) (fun (A : List Asset) (B : List Asset) => A.length) (isort c (l.take k)) ([]) ?_ ?_ ?_ ?_
   ·exact ⟨by simp [isort_len]; omega, by simp⟩
   ·exact ⟨some_int (by simp [isort_len]; omega), trivial⟩
   ·exact perm_eq (by rw [drop_cons hx]; rfl)
   ·intro A B hinv
    obtain ⟨hA, hB⟩ := hinv
    have hlA : A.length < l.length := by omega
    have hll : ((A ++ x :: (B ++ l.drop (k + 1)))).length = l.length := by simp; omega
    refine hw_seq ?_
    refine hw_draw (fun M => M = [.arr (.slice (some ⟨b, off, none⟩) l.length cap) 3 ((A ++ x :: (B ++ l.drop (k + 1))).map eAsset)]) [8, 13] mixed ?_
    refine ahp 0 rfl rfl (by kernel_rfl) (by kernel_rfl) (pop_move rfl) ?_
    refine ahp 1 rfl rfl (by kernel_rfl) (by kernel_rfl) (pop_move rfl) ?_
    refine ahp 2 rfl rfl (by kernel_rfl) (by kernel_rfl) (pop_gtr rfl rfl) ?_
    refine ahp 3 rfl rfl (by kernel_rfl) (by kernel_rfl) (pop_move rfl) ?_
    refine ahg 4 rfl rfl (by kernel_rfl) (by kernel_rfl) rfl (fun hc => ⟨_, OpenTo.refl _, pop_move rfl⟩) ?_
    refine ahg 5 rfl rfl (by kernel_rfl) (by kernel_rfl) rfl (fun hc => ⟨_, OpenTo.refl _, pop_move rfl⟩) ?_
    refine ahg 6 rfl rfl (by kernel_rfl) (by kernel_rfl) rfl (fun hc => ⟨_, OpenTo.refl _, pop_move rfl⟩) ?_
    refine ahg 7 rfl rfl (by kernel_rfl) (by kernel_rfl) rfl (fun hc => by
     have hq : 0 < A.length := by simpa using hc
     exact ⟨_, OpenTo.upd (t := 24) rfl (hc) (OpenTo.upd (t := 23) rfl (hc) (OpenTo.refl _)), pop_idxraw (j := A.length) ty82 ty81 rfl rfl (by rfl) (by omega)⟩) ?_
    refine ahgl 8 rfl rfl (by kernel_rfl) (by kernel_rfl) (by simp) rfl rfl (fun hc => ⟨_, OpenTo.upd (t := 25) rfl (hc) (OpenTo.refl _), fun M hM => by
     subst hM; exact eop_load_elw (i := 0) (j := A.length) ty81 rfl rfl rfl get_mid rfl rfl rfl ⟨rfl, rfl⟩
     ⟩) ?_
    refine ahg 9 rfl rfl (by kernel_rfl) (by kernel_rfl) rfl (fun hc => ⟨_, OpenTo.refl _, pop_move rfl⟩) ?_
    refine ahg 10 rfl rfl (by kernel_rfl) (by kernel_rfl) rfl (fun hc => ⟨_, OpenTo.refl _, pop_move rfl⟩) ?_
    refine ahg 11 rfl rfl (by kernel_rfl) (by kernel_rfl) rfl (fun hc => by
     have hq : 0 < A.length := by simpa using hc
     exact ⟨_, OpenTo.upd (t := 28) rfl (hc) (OpenTo.refl _), pop_sub64 rfl rfl (by omega) (by omega)⟩) ?_
    refine ahg 12 rfl rfl (by kernel_rfl) (by kernel_rfl) rfl (fun hc => by
     have hq : 0 < A.length := by simpa using hc
     exact ⟨_, OpenTo.upd (t := 29) rfl (hc) (OpenTo.upd (t := 27) rfl (hc) (OpenTo.refl _)), pop_idxraw (j := A.length - 1) ty82 ty81 rfl rfl (by omega) (by omega)⟩) ?_
    refine ahgl 13 rfl rfl (by kernel_rfl) (by kernel_rfl) (by simp) rfl rfl (fun hc => ⟨_, OpenTo.upd (t := 30) rfl (hc) (OpenTo.refl _), fun M hM => by
     have hq : 0 < A.length := by simpa using hc
     subst hM; exact eop_load_elw (i := 0) (j := A.length - 1) ty81 rfl rfl rfl (get_before hq) rfl rfl rfl ⟨rfl, rfl⟩
     ⟩) ?_
    refine ahg 14 rfl rfl (by kernel_rfl) (by kernel_rfl) rfl (fun hc => ⟨_, OpenTo.upd (t := 31) rfl (hc) (OpenTo.upd (t := 26) rfl (hc) (OpenTo.upd (t := 22) rfl (hc) (OpenTo.refl _))), pop_callv hca rfl rfl (WeakL.refl _) (hp _ _)⟩) ?_
    refine ahg 15 rfl rfl (by kernel_rfl) (by kernel_rfl) rfl (fun hc => ⟨_, OpenTo.upd (t := 32) rfl (hc) (OpenTo.refl _), pop_lss rfl rfl⟩) ?_
    refine ahp 16 rfl rfl (by kernel_rfl) (by kernel_rfl) (pop_picko rfl (.inr ⟨_, rfl, fun h => by simp_all⟩) (.inl rfl)) ?_
    refine ahz (by kernel_rfl) ?_
    refine hw_cond rfl (fun h3 => ?_) (fun h4 => ?_)
    ·try simp at h3
     obtain ⟨hA0, hcx⟩ := h3
     obtain ⟨A1, y, rfl⟩ := snoc_of hA0
     rw [getD_snoc] at hcx
     refine hw_skip ?_
     refine seqQ_n ?_
     refine hw_seq ?_
     refine hw_block ?_
     refine hw_draw1 (fun M => M = [.arr (.slice (some ⟨b, off, none⟩) l.length cap) 3 (((A1 ++ [y]) ++ x :: (B ++ l.drop (k + 1))).map eAsset)]) [9, 13] mixed ?_
     refine ahp 0 rfl rfl (by kernel_rfl) (by kernel_rfl) (pop_move rfl) ?_
     refine ahp 1 rfl rfl (by kernel_rfl) (by kernel_rfl) (pop_move rfl) ?_
     refine ahp 2 rfl rfl (by kernel_rfl) (by kernel_rfl) (pop_move rfl) ?_
     refine ahp 3 rfl rfl (by kernel_rfl) (by kernel_rfl) (pop_move rfl) ?_
     refine ahp 4 rfl rfl (by kernel_rfl) (by kernel_rfl) (pop_sub64 rfl rfl (by omega) (by omega)) ?_
     refine ahp 5 rfl rfl (by kernel_rfl) (by kernel_rfl) (pop_move rfl) ?_
     refine ahp 6 rfl rfl (by kernel_rfl) (by kernel_rfl) (pop_move rfl) ?_
     refine ahp 7 rfl rfl (by kernel_rfl) (by kernel_rfl) (pop_sub64 rfl rfl (by omega) (by omega)) ?_
     refine ahp 8 rfl rfl (by kernel_rfl) (by kernel_rfl) (pop_idxraw (j := (A1 ++ [y]).length - 1) ty82 ty81 rfl rfl (by omega) (by omega)) ?_
     refine ahl 9 rfl rfl (by kernel_rfl) (by kernel_rfl) (by simp) rfl (fun M hM => by subst hM; exact eop_load_elw (i := 0) (j := (A1 ++ [y]).length - 1) ty81 rfl rfl rfl ((get_before hA0).trans (by rw [getD_snoc])) rfl rfl rfl ⟨rfl, rfl⟩) ?_
     refine ahp 10 rfl rfl (by kernel_rfl) (by kernel_rfl) (pop_move rfl) ?_
     refine ahp 11 rfl rfl (by kernel_rfl) (by kernel_rfl) (pop_move rfl) ?_
     refine ahp 12 rfl rfl (by kernel_rfl) (by kernel_rfl) (pop_idxraw (j := (A1 ++ [y]).length) ty82 ty81 rfl rfl rfl (by omega)) ?_
     refine ahl 13 rfl rfl (by kernel_rfl) (by kernel_rfl) (by simp) rfl (fun M hM => by subst hM; exact eop_load_elw (i := 0) (j := (A1 ++ [y]).length) ty81 rfl rfl rfl get_mid rfl rfl rfl ⟨rfl, rfl⟩) ?_
     refine ahp 14 rfl rfl (by kernel_rfl) (by kernel_rfl) (pop_idxraw (j := (A1 ++ [y]).length) ty82 ty81 rfl rfl rfl (by omega)) ?_
     refine ahe 15 rfl (by kernel_rfl) ?_
     refine hop_e0 (eop_store_elw (i := 0) (j := (A1 ++ [y]).length) (y := x) (y' := y) ty81 rfl rfl rfl rfl get_mid rfl rfl rfl ?_)
     refine ⟨fun _ => .inr (by simp [Before, Region.binds]), ?_⟩
     refine ahp 16 rfl rfl (by kernel_rfl) (by kernel_rfl) (pop_idxraw (j := (A1 ++ [y]).length - 1) ty82 ty81 rfl rfl (by omega) (by omega)) ?_
     refine ahe 17 rfl (by kernel_rfl) ?_
     refine hop_e0 (eop_store_elw (i := 0) (j := (A1 ++ [y]).length - 1) (y := y) (y' := x) ty81 rfl rfl rfl rfl (by rw [List.getElem?_set_ne (by simp)]; exact (get_before hA0).trans (by rw [getD_snoc])) rfl rfl rfl ?_)
     refine ⟨fun _ => .inr (by simp [Before, Region.binds]), ?_⟩
     refine ahz (by kernel_rfl) ?_
     refine blockQ_n ?_
     refine seqQ_n ?_
     refine hw_reg1 ?_
     refine dp rfl (pop_move rfl) ?_
     refine dp rfl (pop_sub64 rfl rfl (by omega) (by omega)) ?_
     refine dp rfl (pop_assign rfl) ?_
     refine dn ?_
     exact ⟨A1, y :: B, ⟨by simp at hA ⊢; omega, ins_step hB hcx⟩, by dsimp only; simp, ⟨some_int (by simp), trivial⟩, (by repeat (first | exact keeps_refl | refine keeps_upd rfl ?_ | refine keeps_loop rfl rfl ?_)), perm_eq (by rw [swap_mid]; rfl)⟩
    ·try simp at h4
     have hins := ins_exit (l := l) (k := k) hx hB (by intro h0; have := h4 h0; omega)
     refine hw_exit ?_
     refine seqQ_x ?_
     refine loopQ2_x ?_
     refine blockQ_eq ?_
     refine blockQ_n ?_
     refine seqQ_n ?_
     refine hw_reg1 ?_
     refine dp rfl (pop_move rfl) ?_
     refine dp rfl (pop_add64 rfl rfl (by omega) (by omega)) ?_
     refine dp rfl (pop_assign rfl) ?_
     refine dn ?_
     refine ⟨k + 1, ?_, ?_, ⟨rfl, trivial⟩, (by repeat (first | exact keeps_refl | refine keeps_upd rfl ?_ | refine keeps_loop rfl rfl ?_)), perm_eq (by rw [hins])⟩
     ·omega
     ·dsimp only; omega
  ·try simp at h2
   have hend : isort c (l.take k) ++ l.drop k = isort c l := by rw [List.take_of_length_le (by omega), drop_all (by omega)]; simp
   refine hw_exit ?_
   refine seqQ_x ?_
   refine loopQ_x ?_
   refine blockQ_eq ?_
   exact ⟨_, _, Ghost.sub (Sub.refl _), _, _, rfl, Weak.refl _, rfl, by rw [hend]⟩

/-- slices.pdqsortCmpFunc[benchwarmer/api.Asset] -/
theorem c_slices_pdqsortCmpFunc_api_Asset [Tracks] {l : List Asset} {v : Value} {fid : FuncId} {caps : List HVal} {c : Asset → Asset → Int} {lim : Int} (hca : Callable Tryz.prog fid) (hp : ∀ x y, ConP Tryz.prog fid ([eAsset x, eAsset y] ++ caps) (.int .i64 (c x y))) (hl : l.length ≤ 12) : Con Tryz.prog 186 [.raw v, .int .i64 0, .int .i64 (l.length : Int), .int .i64 lim, .fn (.func fid) [] caps] [.arr v 3 (l.map eAsset)] (fun x M' => x = .tup [] ∧ M' = [.arr v 3 ((isort c l).map eAsset)]) := by
 refine Con.of_body Tryz.func186 rfl Tryz.ntmps186 rfl rfl ?_
 refine hw_reg ?_
 refine dp rfl (pop_assign rfl) ?_
 refine dn ?_
 refine hw_reg ?_
 refine dp rfl (pop_assign rfl) ?_
 refine dn ?_
 refine hw_block ?_
 refine hw_loopw (1 :: 2 :: 3 :: 10 :: 11 :: 12 :: 13 :: 14 :: 15 :: 16 :: 17 :: 18 :: 19 :: 20 :: 21 :: 22 :: 23 :: 24 :: 25 :: 26 :: 27 :: 28 :: 29 :: 30 :: 31 :: 32 :: 33 :: 34 :: 35 :: 36 :: 37 :: 38 :: 39 :: 40 :: 41 :: 42 :: 43 :: 44 :: 45 :: 46 :: 47 :: 48 :: 49 :: 50 :: 51 :: 52 :: 53 :: 54 :: 55 :: 56 :: 57 :: 58 :: 59 :: 60 :: 61 :: 62 :: 63 :: 64 :: 65 :: 66 :: 67 :: 68 :: 69 :: 70 :: 71 :: 72 :: 73 :: 74 :: 75 :: 76 :: 77 :: 78 :: 79 :: 80 :: 81 :: 82 :: 83 :: 84 :: 85 :: 86 :: 87 :: 88 :: 89 :: 90 :: 91 :: 92 :: 93 :: 94 :: 95 :: 96 :: 97 :: 98 :: 99 :: 100 :: 101 :: 102 :: 103 :: 104 :: 105 :: 106 :: 107 :: 108 :: 109 :: 110 :: 111 :: 112 :: 113 :: 114 :: 115 :: 116 :: 117 :: 118 :: 119 :: 120 :: 121 :: 122 :: 123 :: 124 :: 125 :: 126 :: 127 :: 128 :: 129 :: 130 :: 131 :: 132 :: 133 :: 134 :: 135 :: 136 :: 137 :: 138 :: 139 :: 140 :: 141 :: 142 :: 143 :: 144 :: 145 :: 146 :: 147 :: []) (fun (u : Unit) => [(1, .int .i64 0), (2, .int .i64 (l.length : Int))]) (fun (u : Unit) => [.arr v 3 (l.map eAsset)]) (fun (u : Unit) => True) (fun (u : Unit) => 0) (()) ?_ ?_ ?_ ?_
 ·trivial
 ·exact ⟨rfl, rfl, trivial⟩
 ·exact List.Perm.refl _
 ·intro u hu
  refine hw_block ?_
  refine hw_reg ?_
  refine dp rfl (pop_move rfl) ?_
  refine dp rfl (pop_move rfl) ?_
  refine dp rfl (pop_sub64 rfl rfl (by omega) (by omega)) ?_
  refine dp rfl (pop_assign rfl) ?_
  refine dn ?_
  refine hw_seq ?_
  refine hw_reg ?_
  refine dp rfl (pop_move rfl) ?_
  refine dp rfl (pop_leq rfl rfl) ?_
  refine dn ?_
  refine hw_cond rfl (fun h1 => ?_) (fun h1 => ?_)
  ·try simp at h1
   refine hw_reg ?_
   refine dp rfl (pop_move rfl) ?_
   refine dp rfl (pop_move rfl) ?_
   refine dp rfl (pop_move rfl) ?_
   refine dp rfl (pop_move rfl) ?_
   refine de rfl (eop_callx (i := 0) ca208 rfl (WeakL.refl _) rfl (c_slices_insertionSortCmpFunc_api_Asset (l := l) hca hp (by omega) (by omega)) ?_)
   rintro _ _ ⟨rfl, rfl⟩
   refine dn ?_
   refine hw_ret ?_
   exact ret_q rfl ⟨rfl, rfl⟩
  ·exfalso
   try simp at h1
   omega

/-- slices.SortFunc[[]benchwarmer/api.Asset,benchwarmer/api.Asset] -/
theorem c_slices_SortFunc_api_Asset_api_Asset [Tracks] {l : List Asset} {v : Value} {fid : FuncId} {caps : List HVal} {c : Asset → Asset → Int} (hca : Callable Tryz.prog fid) (hp : ∀ x y, ConP Tryz.prog fid ([eAsset x, eAsset y] ++ caps) (.int .i64 (c x y))) (hl : l.length ≤ 12) : Con Tryz.prog 158 [.raw v, .fn (.func fid) [] caps] [.arr v 3 (l.map eAsset)] (fun x M' => x = .tup [] ∧ M' = [.arr v 3 ((isort c l).map eAsset)]) := by
 refine Con.of_body Tryz.func158 rfl Tryz.ntmps158 rfl rfl ?_
 refine hw_reg ?_
 refine dp rfl (pop_move rfl) ?_
 refine de rfl (eop_lenm (i := 0) ty82 rfl rfl ?_)
 refine dp rfl (pop_assign rfl) ?_
 refine dn ?_
 refine hw_reg1 ?_
 refine dp rfl (pop_move rfl) ?_
 refine dp rfl (pop_move rfl) ?_
 refine dp rfl (pop_move rfl) ?_
 refine dp rfl (pop_eq (pop_conv ty3 ty128 rfl) (congrArg _ (wrapu64 (by omega)))) ?_
 refine de rfl (eop_callf (M1 := []) (R := [_]) ca84 rfl (WeakL.refl _) (List.Perm.refl _) (c_bits_Len_s (x := l.length) (by omega)) ?_)
 rintro _ _ ⟨n11, rfl, rfl⟩
 refine dp rfl (pop_move rfl) ?_
 refine de rfl (eop_callx (i := 0) ca186 rfl (WeakL.refl _) rfl (c_slices_pdqsortCmpFunc_api_Asset hca hp hl) ?_)
 rintro _ _ ⟨rfl, rfl⟩
 refine dn ?_
 exact ⟨_, _, Ghost.sub (Sub.refl _), _, _, rfl, Weak.refl _, rfl, rfl⟩
end Go.Proofs.YtbihpphgoaflfaaGreatDoor
end
section
namespace Go.Proofs.YtbihpphgoaflfaaGreatDoor
open Go.HL
set_option maxRecDepth 100000
set_option linter.unusedVariables false
set_option linter.unusedSimpArgs false

end Go.Proofs.YtbihpphgoaflfaaGreatDoor
end
