/- Part 5 of the proof: a program logic, contracts of functions and plain facts; no conditions. -/
import Derived.Test.YtcihcbnjfclkbaaGreatDoorQRingsGoRound4
import Derived.Ground.GgzProg
import Derived.Ground.Names2Prog
import Derived.Ground.SlgmProg
import Derived.Ground.SlmcProg
import Derived.Ground.SlsfProg
import Derived.KernelRfl
import Derived.Lib.AtoiBound
import Derived.Lib.ItoaMem
import Derived.Lib.Join
import Derived.Lib.SplitLaws
import Derived.Lib.Strings
import Derived.Shelf.SlIter.Collect
import Derived.Shelf.SlIter.Keys
import Derived.Shelf.SlIter.Sorted
import Derived.Shelf.SlMaps.Clone
import Derived.Shelf.SlSortCmp.NoneTotal
import Derived.Shelf.Slices.CompactS
import Derived.Shelf.Slices.Delete
import Derived.Shelf.Sort.Plain
import Derived.Shelf.SortM.Plain
import Derived.Shelf.SortM.SortNone
import Derived.Shelf.Strconv.Atoi
import Derived.Shelf.Strconv.Itoa3
import Derived.Shelf.Strings.Prefix
import Derived.Test.YtcihcbnjfclkbaaGreatDoorProg
set_option linter.unusedVariables false
set_option linter.unusedSimpArgs false
namespace Go.Proofs.YtcihcbnjfclkbaaGreatDoor
set_option maxRecDepth 100000
set_option linter.unusedVariables false
set_option linter.unusedSimpArgs false
section
open Go.HL
/-- (*benchwarmer/trade.hall).most$1 -/
theorem ze9 [Tracks] {s k i n E : Nat} {more : Int} {fid : FuncId} {caps : List HVal} {al : Nat → Nat → Bool} {nx best : List Int} {b11 b9 nb bb nbo bbo nbc bbc : Nat} (hca : Callable Tryz.prog fid) (hp : ConP Tryz.prog fid ([.int .i64 (i : Int), .int .i64 (k : Int)] ++ caps) (.bool (al i k))) (hE : 2 ^ n = E) (hn : n ≤ 14) (hs : s < E) (hk : k < n) (hnx : nx.length = E) (hbl : best.length = E) (hbd : -2000 ≤ best.getD s 0 ∧ best.getD s 0 ≤ 1000) (hmo : 0 ≤ more ∧ more ≤ 1) : Con Tryz.prog 132 [.int .i64 (s : Int), .int .i64 (k : Int), .int .i64 more, .vptr [.fn (.func fid) [] caps] 0, .raw (.pointer (some ⟨b11, 0, none⟩)), .vptr [.raw (.slice (some ⟨nb, nbo, none⟩) E nbc)] 0, .raw (.pointer (some ⟨b9, 0, none⟩))] [.cells b11 [.int .i64 (i : Int)], .arr (.slice (some ⟨nb, nbo, none⟩) E nbc) 1 (nx.map (HVal.int .i64)), .cells b9 [.raw (.slice (some ⟨bb, bbo, none⟩) E bbc)], .arr (.slice (some ⟨bb, bbo, none⟩) E bbc) 1 (best.map (HVal.int .i64))] (fun x M' => x = .tup [] ∧ M' = [.cells b11 [.int .i64 (i : Int)], .arr (.slice (some ⟨nb, nbo, none⟩) E nbc) 1 ((zbi best (al i k) s k more nx).map (HVal.int .i64)), .cells b9 [.raw (.slice (some ⟨bb, bbo, none⟩) E bbc)], .arr (.slice (some ⟨bb, bbo, none⟩) E bbc) 1 (best.map (HVal.int .i64))]) := by
 have hpn := zqs hn
 rw [hE] at hpn
 have hpk : 2 ^ k < E := by rw [← hE]; exact Nat.pow_lt_pow_right (by omega) hk
 have hor : s ||| 2 ^ k < E := by rw [← hE] at hs hpk ⊢; exact Nat.or_lt_two_pow hs hpk
 have hgx : nx[s ||| 2 ^ k]? = some (nx.getD (s ||| 2 ^ k) 0) := getD_some (by omega)
 have hgb : best[s]? = some (best.getD s 0) := getD_some (by omega)
 refine Con.of_body Tryz.func132 rfl Tryz.ntmps132 rfl rfl ?_
 refine zb ?_
 refine dmv rfl ?_
 refine dmv rfl ?_
 refine dq (zoC rfl rfl (by omega)) ?_
 refine dq (zmA rfl rfl) ?_
 refine dq (zcy (zaA rfl rfl) ztn) ?_
 refine dmv rfl ?_
 refine dg rfl rfl (fun hc => ⟨_, OpenTo.refl _, ze zvj rfl rfl rfl⟩) ?_
 refine dgl rfl rfl (fun hc => ⟨_, OpenTo.refl _, zP (i := 0) ty3 rfl rfl (.inl ⟨rfl, rfl⟩) ⟨rfl, rfl⟩⟩) ?_
 refine dg rfl rfl (fun hc => ⟨_, OpenTo.refl _, zg rfl⟩) ?_
 refine dg rfl rfl (fun hc => ⟨_, OpenTo.upd (t := 18) rfl (by first | exact hc | simp_all) (OpenTo.upd (t := 17) rfl (by first | exact hc | simp_all) (OpenTo.upd (t := 16) rfl (by first | exact hc | simp_all) (OpenTo.refl _))), zdj hca rfl rfl (WeakL.refl _) hp⟩) ?_
 refine dq (zB rfl (.inr ⟨_, rfl, fun h => by simp_all⟩) (.inl rfl)) ?_
 refine dn ?_
 refine zj rfl (fun h1 => ?_) (fun h2 => ?_)
 ·try simp at h1
  refine zbV (fun M => M = [.cells b11 [.int .i64 (i : Int)], .arr (.slice (some ⟨nb, nbo, none⟩) E nbc) 1 (nx.map (HVal.int .i64)), .cells b9 [.raw (.slice (some ⟨bb, bbo, none⟩) E bbc)], .arr (.slice (some ⟨bb, bbo, none⟩) E bbc) 1 (best.map (HVal.int .i64))]) [11, 12, 15] mixed ?_
  refine ahp 0 rfl rfl (by kernel_rfl) (by kernel_rfl) (ze zU rfl rfl rfl) ?_
  refine ahp 1 rfl rfl (by kernel_rfl) (by kernel_rfl) (zg rfl) ?_
  refine ahp 2 rfl rfl (by kernel_rfl) (by kernel_rfl) (zg rfl) ?_
  refine ahp 3 rfl rfl (by kernel_rfl) (by kernel_rfl) (zgd rfl rfl (by omega)) ?_
  refine ahp 4 rfl rfl (by kernel_rfl) (by kernel_rfl) (zjd rfl rfl (by omega) (by omega)) ?_
  refine ahp 5 rfl rfl (by kernel_rfl) (by kernel_rfl) (ze zU rfl rfl rfl) ?_
  refine ahp 6 rfl rfl (by kernel_rfl) (by kernel_rfl) (zg rfl) ?_
  refine ahp 7 rfl rfl (by kernel_rfl) (by kernel_rfl) (zg rfl) ?_
  refine ahp 8 rfl rfl (by kernel_rfl) (by kernel_rfl) (zgd rfl rfl (by omega)) ?_
  refine ahp 9 rfl rfl (by kernel_rfl) (by kernel_rfl) (zjd rfl rfl (by omega) (by omega)) ?_
  refine ahp 10 rfl rfl (by kernel_rfl) (by kernel_rfl) (zab (j := s ||| 2 ^ k) zU ty3 rfl rfl rfl hor) ?_
  refine ahl 11 rfl rfl (by kernel_rfl) (by kernel_rfl) (by simp) rfl (fun M hM => by subst hM; exact zbg (i := 1) (j := s ||| 2 ^ k) 0 ty3 rfl (by omega) rfl hgx rfl rfl ⟨rfl, rfl⟩) ?_
  refine ahl 12 rfl rfl (by kernel_rfl) (by kernel_rfl) (by simp) rfl (fun M hM => by subst hM; exact zP (i := 2) zU rfl rfl (.inl ⟨rfl, rfl⟩) ⟨rfl, rfl⟩) ?_
  refine ahp 13 rfl rfl (by kernel_rfl) (by kernel_rfl) (zg rfl) ?_
  refine ahp 14 rfl rfl (by kernel_rfl) (by kernel_rfl) (zab (j := s) zU ty3 rfl rfl rfl hs) ?_
  refine ahl 15 rfl rfl (by kernel_rfl) (by kernel_rfl) (by simp) rfl (fun M hM => by subst hM; exact zbg (i := 3) (j := s) 0 ty3 rfl (by omega) rfl hgb rfl rfl ⟨rfl, rfl⟩) ?_
  refine ahp 16 rfl rfl (by kernel_rfl) (by kernel_rfl) (zg rfl) ?_
  refine ahp 17 rfl rfl (by kernel_rfl) (by kernel_rfl) (zv rfl rfl (by omega) (by omega)) ?_
  refine ahp 18 rfl rfl (by kernel_rfl) (by kernel_rfl) (zcy (ztt rfl rfl) (congrArg (HVal.int .i64) zsg)) ?_
  refine ahp 19 rfl rfl (by kernel_rfl) (by kernel_rfl) (zab (j := s ||| 2 ^ k) zU ty3 rfl rfl rfl hor) ?_
  refine ahe 20 rfl (by kernel_rfl) ?_
  refine zau (zaR (i := 1) (j := s ||| 2 ^ k) (f := 0) (y := .int .i64 (nx.getD (s ||| 2 ^ k) 0)) (y' := .int .i64 (max (nx.getD (s ||| 2 ^ k) 0) (best.getD s 0 + more))) ty3 rfl (by omega) rfl rfl (zcJ hgx) rfl rfl (by simp [zm]) rfl ?_)
  refine ⟨fun _ => .inr (by simp [zbC, Region.binds]), ?_⟩
  refine ahz (by kernel_rfl) ?_
  refine ⟨_, _, Ghost.sub (Sub.refl _), _, _, rfl, Weak.refl _, rfl, ?_⟩
  by_cases hq : s.testBit k = false ∧ al i k = true
  ·rw [zbi, if_pos hq, List.map_set]
   try first | rfl | (exfalso; simp_all; done)
  ·rw [zbi, if_neg hq]
   try first | rfl | (exfalso; simp_all; done)
 ·try simp at h2
  refine zk ?_
  refine ⟨_, _, Ghost.sub (Sub.refl _), _, _, rfl, Weak.refl _, rfl, ?_⟩
  by_cases hq : s.testBit k = false ∧ al i k = true
  ·rw [zbi, if_pos hq, List.map_set]
   try first | rfl | (exfalso; simp_all; done)
  ·rw [zbi, if_neg hq]
   try first | rfl | (exfalso; simp_all; done)

set_option maxHeartbeats 4000000 in
/-- (*benchwarmer/trade.hall).most -/
theorem zc6 [Tracks] {can : List (List Nat)} {fr got : Nat} {fid : FuncId} {caps : List HVal} {al : Nat → Nat → Bool} (hca : Callable Tryz.prog fid) (hp : ∀ i k : Nat, i < can.length → k < can.length → ConP Tryz.prog fid ([.int .i64 (i : Int), .int .i64 (k : Int)] ++ caps) (.bool (al i k))) (hc : CanOk can) (hf : fr ≤ can.length) (hg : got < 2 ^ can.length) (hcl : ∀ c ∈ can, c.length ≤ 1000) : ConP Tryz.prog 86 [.vptr [zkf can] 0, .int .i64 (fr : Int), .int .i64 (got : Int), .fn (.func fid) [] caps] (.int .i64 (zbM al can fr got)) := by
 have hn := hc.len
 obtain ⟨E, hE⟩ : ∃ E, 2 ^ can.length = E := ⟨_, rfl⟩
 have hpn := zqs hn
 rw [hE] at hpn hg
 refine Con.of_body Tryz.func86 rfl Tryz.ntmps86 rfl rfl ?_
 refine zb ?_
 refine dq (zaC rfl rfl) ?_
 refine das rfl ?_
 refine dn ?_
 refine zb ?_
 refine dmv rfl ?_
 refine dq ((by first | exact zaq rfl | exact zW rfl)) ?_
 refine dq ((by first | exact zc zeD rfl zbm (by decide) rfl | exact zw zeD rfl zbm (by decide) rfl)) ?_
 refine dq (ze zbm rfl rfl rfl) ?_
 refine dq (zF zbm rfl) ?_
 refine dq (zcy (zgd rfl rfl (by omega)) (congrArg (fun q : Nat => HVal.int .i64 (q : Int)) hE)) ?_
 refine de rfl (zhK (n := E) zU ty3 rfl rfl rfl rfl rfl (by omega) fun b24 => ?_)
 refine de rfl (zX zU rfl fun b9 => ?_)
 first
 | refine de0 (zx (i := 0) zU rfl rfl rfl rfl rfl (Nat.le_of_ble_eq_true rfl) ?_)
 | refine de0 (zx (i := 1) zU rfl rfl rfl rfl rfl (Nat.le_of_ble_eq_true rfl) ?_)
 | refine de0 (zx (i := 2) zU rfl rfl rfl rfl rfl (Nat.le_of_ble_eq_true rfl) ?_)
 | refine de0 (zx (i := 3) zU rfl rfl rfl rfl rfl (Nat.le_of_ble_eq_true rfl) ?_)
 refine dn ?_
 refine zh ?_
 refine zb ?_
 first
 | refine de rfl (zP (i := 0) zU rfl rfl (.inl ⟨rfl, rfl⟩) ?_)
 | refine de rfl (zP (i := 1) zU rfl rfl (.inl ⟨rfl, rfl⟩) ?_)
 | refine de rfl (zP (i := 2) zU rfl rfl (.inl ⟨rfl, rfl⟩) ?_)
 | refine de rfl (zP (i := 3) zU rfl rfl (.inl ⟨rfl, rfl⟩) ?_)
 refine dq (zft zU rfl) ?_
 refine dmv rfl ?_
 refine dn ?_
 refine zl ?_
 refine zZ [10, 27, 28, 29, 30, 31, 32, 33] (fun (q : Nat) => [(27, .int .i64 (q : Int))]) (fun (q : Nat) => [.cells b9 [.raw (.slice (some ⟨b24, 0, none⟩) E E)], .arr (.slice (some ⟨b24, 0, none⟩) E E) 1 ((zbw (-1000) E q).map (HVal.int .i64))]) (fun (q : Nat) => q ≤ E) (fun (q : Nat) => E - q) (0) ?_ ?_ ?_ ?_
 ·exact Nat.zero_le _
 ·exact ⟨rfl, trivial⟩
 ·exact zL (by rw [zrR, List.map_replicate]; rfl)
 ·intro q hq
  refine zb ?_
  refine dq (zO rfl rfl) ?_
  refine dn ?_
  refine zh ?_
  refine zj rfl (fun h1 => ?_) (fun h2 => ?_)
  ·try simp at h1
   have hq0 : (zbw (-1000) E q)[q]? = some 0 := by rw [zeB hq, if_neg (by omega), if_pos (by omega)]
   refine zk ?_
   refine zf ?_
   refine zh ?_
   refine zl ?_
   refine zb ?_
   refine dmv rfl ?_
   refine das rfl ?_
   refine dn ?_
   refine zy ?_
   first
   | refine de rfl (zP (i := 0) zU rfl rfl (.inl ⟨rfl, rfl⟩) ?_)
   | refine de rfl (zP (i := 1) zU rfl rfl (.inl ⟨rfl, rfl⟩) ?_)
   | refine de rfl (zP (i := 2) zU rfl rfl (.inl ⟨rfl, rfl⟩) ?_)
   | refine de rfl (zP (i := 3) zU rfl rfl (.inl ⟨rfl, rfl⟩) ?_)
   refine dmv rfl ?_
   refine dq (zab (j := q) zU ty3 rfl rfl rfl (by omega)) ?_
   refine de0 (zaR (i := 1) (j := q) (f := 0) (y := .int .i64 0) (y' := .int .i64 (-1000)) ty3 rfl (by omega) rfl rfl (zcJ hq0) rfl rfl (by simp [zm]) rfl ?_)
   refine dn ?_
   refine zz ?_
   refine zf ?_
   refine zy ?_
   refine dq (zv rfl rfl (by omega) (by omega)) ?_
   refine dmv rfl ?_
   refine dn ?_
   exact ⟨q + 1, by omega, by dsimp only; omega, ⟨rfl, trivial⟩, (by repeat (first | exact zo | refine zt rfl ?_ | refine zp rfl rfl ?_)), zL (by dsimp only; rw [← zsi (by omega), List.map_set]; rfl)⟩
  ·try simp at h2
   obtain rfl : E = q := by omega
   refine zN ?_
   refine zT ?_
   refine zah ?_
   refine zD ?_
   refine zf ?_
   rw [znS]
   have hg0 : (List.replicate E (-1000 : Int))[got]? = some (-1000) := by rw [List.getElem?_replicate, if_pos hg]
   refine zb ?_
   first
   | refine de rfl (zP (i := 0) zU rfl rfl (.inl ⟨rfl, rfl⟩) ?_)
   | refine de rfl (zP (i := 1) zU rfl rfl (.inl ⟨rfl, rfl⟩) ?_)
   | refine de rfl (zP (i := 2) zU rfl rfl (.inl ⟨rfl, rfl⟩) ?_)
   | refine de rfl (zP (i := 3) zU rfl rfl (.inl ⟨rfl, rfl⟩) ?_)
   refine dmv rfl ?_
   refine dq (zab (j := got) zU ty3 rfl rfl rfl hg) ?_
   refine de0 (zaR (i := 1) (j := got) (f := 0) (y := .int .i64 (-1000)) (y' := .int .i64 0) ty3 rfl (by omega) rfl rfl (zcJ hg0) rfl rfl (by simp [zm]) rfl ?_)
   refine dn ?_
   refine zh ?_
   refine zb ?_
   refine dmv rfl ?_
   refine de rfl (zX ty3 rfl fun b11 => ?_)
   first
   | refine de0 (zx (i := 0) ty3 rfl rfl rfl rfl rfl (Nat.le_of_ble_eq_true rfl) ?_)
   | refine de0 (zx (i := 1) ty3 rfl rfl rfl rfl rfl (Nat.le_of_ble_eq_true rfl) ?_)
   | refine de0 (zx (i := 2) ty3 rfl rfl rfl rfl rfl (Nat.le_of_ble_eq_true rfl) ?_)
   | refine de0 (zx (i := 3) ty3 rfl rfl rfl rfl rfl (Nat.le_of_ble_eq_true rfl) ?_)
   refine dn ?_
   refine zl ?_
   refine ziA [11, 12, 13, 14, 15, 17, 38, 39, 40, 41, 42, 43, 44, 45, 46, 47, 48, 49, 50, 51, 52, 53, 54, 55, 56, 57, 58, 59, 60, 61, 62, 63, 64, 65, 66, 67, 68, 69, 70, 71, 72, 73, 74, 75, 76, 77, 78, 79, 80, 81, 82, 83, 84] (fun (m : Nat) (b11 : Nat) (bb : Nat) (oc : Nat × Nat) => [(11, .raw (.pointer (some ⟨b11, 0, none⟩)))]) (fun (m : Nat) (b11 : Nat) (bb : Nat) (oc : Nat × Nat) => [.cells b11 [.int .i64 ((fr + m : Nat) : Int)], .cells b9 [.raw (.slice (some ⟨bb, oc.1, none⟩) E oc.2)], .arr (.slice (some ⟨bb, oc.1, none⟩) E oc.2) 1 ((za7 al can fr (zaU can.length got) m).map (HVal.int .i64))]) (fun (m : Nat) (b11 : Nat) (bb : Nat) (oc : Nat × Nat) => fr + m ≤ can.length) (fun (m : Nat) (b11 : Nat) (bb : Nat) (oc : Nat × Nat) => can.length - (fr + m)) (0) (b11) (b24) ((0, E)) ?_ ?_ ?_ ?_
   ·exact hf
   ·exact ⟨rfl, trivial⟩
   ·exact zL (by rw [za7, zaU, hE, List.map_set]; rfl)
   ·intro m b11 bb oc hm
    obtain ⟨bbo, bbc⟩ := oc
    dsimp only
    refine zh ?_
    refine za9 (fun _ => True) [] mixed ?_
    refine ahp 1 rfl rfl (by kernel_rfl) (by kernel_rfl) (zg rfl) ?_
    refine ahp 2 rfl rfl (by kernel_rfl) (by kernel_rfl) ((by first | exact zaq rfl | exact zW rfl)) ?_
    refine ahp 3 rfl rfl (by kernel_rfl) (by kernel_rfl) ((by first | exact zc zeD rfl zbm (by decide) rfl | exact zw zeD rfl zbm (by decide) rfl)) ?_
    refine ahp 4 rfl rfl (by kernel_rfl) (by kernel_rfl) (ze zbm rfl rfl rfl) ?_
    refine ahp 5 rfl rfl (by kernel_rfl) (by kernel_rfl) (zF zbm rfl) ?_
    refine ahe 0 rfl (by kernel_rfl) ?_
    first
    | refine zH rfl (zP (i := 0) ty3 rfl rfl (.inl ⟨rfl, rfl⟩) ?_)
    | refine zH rfl (zP (i := 1) ty3 rfl rfl (.inl ⟨rfl, rfl⟩) ?_)
    | refine zH rfl (zP (i := 2) ty3 rfl rfl (.inl ⟨rfl, rfl⟩) ?_)
    | refine zH rfl (zP (i := 3) ty3 rfl rfl (.inl ⟨rfl, rfl⟩) ?_)
    refine ⟨fun _ => .inl trivial, ?_⟩
    refine ahp 6 rfl rfl (by kernel_rfl) (by kernel_rfl) (zO rfl rfl) ?_
    refine ahz (by kernel_rfl) ?_
    refine zj rfl (fun h3 => ?_) (fun h4 => ?_)
    ·try simp at h3
     refine zk ?_
     refine zf ?_
     refine zh ?_
     refine zl ?_
     have hBl : (za7 al can fr (zaU can.length got) m).length = E := by rw [zks, zoG, hE]
     obtain ⟨cs, hcs⟩ : ∃ c, can[fr + m]? = some c := ⟨_, List.getElem?_eq_getElem (by omega)⟩
     have hcsl := hcl cs (List.mem_of_getElem? hcs)
     have hcd : can.getD (fr + m) [] = cs := by rw [List.getD_eq_getElem?_getD, hcs]; rfl
     refine zb ?_
     refine dq (zK (hs := [_]) zU ty3 rfl rfl (by decide) (by decide) rfl) ?_
     first
     | refine de rfl (zP (i := 0) zU rfl rfl (.inl ⟨rfl, rfl⟩) ?_)
     | refine de rfl (zP (i := 1) zU rfl rfl (.inl ⟨rfl, rfl⟩) ?_)
     | refine de rfl (zP (i := 2) zU rfl rfl (.inl ⟨rfl, rfl⟩) ?_)
     | refine de rfl (zP (i := 3) zU rfl rfl (.inl ⟨rfl, rfl⟩) ?_)
     refine dq (zft zU rfl) ?_
     refine de rfl (zeK ztq rfl (WeakL.refl _) (zed (v := -1000) (n := E) (by omega)) fun v50 => ?_)
     refine de rfl (zX zU rfl fun b12 => ?_)
     refine de0 (zag zU rfl rfl rfl rfl rfl ?_)
     refine dn ?_
     refine zI (Ghost.fc0 12 rfl) ?_
     refine zdb (i := 0) rfl (fun h0 he => ?_) (fun nb nbo nbc hv hcap => ?_)
     ·exfalso
      have h9 := congrArg List.length he
      rw [List.length_map, List.length_replicate] at h9
      simp at h9
      omega
     rw [List.length_map, List.length_replicate] at hv hcap
     subst hv
     refine zb ?_
     refine dq (zcx rfl rfl) ?_
     refine das rfl ?_
     refine dn ?_
     refine zh ?_
     refine zb ?_
     first
     | refine de rfl (zP (i := 0) zU rfl rfl (.inl ⟨rfl, rfl⟩) ?_)
     | refine de rfl (zP (i := 1) zU rfl rfl (.inl ⟨rfl, rfl⟩) ?_)
     | refine de rfl (zP (i := 2) zU rfl rfl (.inl ⟨rfl, rfl⟩) ?_)
     | refine de rfl (zP (i := 3) zU rfl rfl (.inl ⟨rfl, rfl⟩) ?_)
     refine dq (zft zU rfl) ?_
     refine dmv rfl ?_
     refine dn ?_
     refine zl ?_
     refine zZ [14, 15, 17, 54, 55, 56, 57, 58, 59, 60, 61, 62, 63, 64, 65, 66, 67, 68, 69, 70, 71, 72, 73, 74, 75, 76, 77, 78, 79, 80, 81, 82] (fun (k : Nat) => [(54, .int .i64 (k : Int))]) (fun (k : Nat) => [.cells b11 [.int .i64 ((fr + m : Nat) : Int)], .arr (.slice (some ⟨nb, nbo, none⟩) E nbc) 1 (((List.range k).foldl (zcd al cs (fr + m) (za7 al can fr (zaU can.length got) m)) (List.replicate E zbb)).map (HVal.int .i64)), .cells b9 [.raw (.slice (some ⟨bb, bbo, none⟩) E bbc)], .arr (.slice (some ⟨bb, bbo, none⟩) E bbc) 1 ((za7 al can fr (zaU can.length got) m).map (HVal.int .i64))]) (fun (k : Nat) => k ≤ E) (fun (k : Nat) => E - k) (0) ?_ ?_ ?_ ?_
     ·exact Nat.zero_le _
     ·exact ⟨rfl, trivial⟩
     ·exact (List.Perm.swap _ _ _).trans (zL (by simp))
     ·intro k hk
      refine zb ?_
      refine dq (zO rfl rfl) ?_
      refine dn ?_
      refine zh ?_
      refine zj rfl (fun h5 => ?_) (fun h6 => ?_)
      ·try simp at h5
       obtain ⟨x, hx⟩ : ∃ x, (za7 al can fr (zaU can.length got) m)[k]? = some x := ⟨_, List.getElem?_eq_getElem (by rw [hBl]; omega)⟩
       have hk2 : k < E := by omega
       have hxd : (za7 al can fr (zaU can.length got) m).getD k 0 = x := by rw [List.getD_eq_getElem?_getD, hx]; rfl
       have hbk : -2000 ≤ (za7 al can fr (zaU can.length got) m).getD k 0 ∧ (za7 al can fr (zaU can.length got) m).getD k 0 ≤ 1000 := by
        have nv : zbb = -1000 := rfl
        rcases zn8 (al := al) (can := can) (fr := fr) (n := can.length) (got := got) m k with q | q <;> omega
       refine zk ?_
       refine zf ?_
       refine zh ?_
       refine zl ?_
       refine zb ?_
       refine dmv rfl ?_
       refine dq (zab (j := k) zU ty3 rfl rfl rfl hk2) ?_
       refine de rfl (zbg (i := 3) (j := k) 0 ty3 rfl (by omega) rfl hx rfl rfl ?_)
       refine das rfl ?_
       refine das rfl ?_
       refine dn ?_
       refine zh ?_
       refine zb ?_
       refine dmv rfl ?_
       refine dq (zaA rfl rfl) ?_
       refine dn ?_
       refine zj rfl (fun h7 => ?_) (fun h8 => ?_)
       ·try simp at h7
        refine zN ?_
        refine zT ?_
        refine zD ?_
        refine zf ?_
        refine zy ?_
        refine dq (zv rfl rfl (by omega) (by omega)) ?_
        refine dmv rfl ?_
        refine dn ?_
        exact ⟨k + 1, by omega, by dsimp only; omega, ⟨rfl, trivial⟩, (by repeat (first | exact zo | refine zt rfl ?_ | refine zp rfl rfl ?_)), zL (by dsimp only; rw [zmM, zcd, if_pos (by rw [hxd]; simp_all)])⟩
       ·try simp at h8
        refine zk ?_
        refine zf ?_
        refine zb ?_
        refine dmv rfl ?_
        refine dmv rfl ?_
        first
        | refine de rfl (zP (i := 0) ty3 rfl rfl (.inl ⟨rfl, rfl⟩) ?_)
        | refine de rfl (zP (i := 1) ty3 rfl rfl (.inl ⟨rfl, rfl⟩) ?_)
        | refine de rfl (zP (i := 2) ty3 rfl rfl (.inl ⟨rfl, rfl⟩) ?_)
        | refine de rfl (zP (i := 3) ty3 rfl rfl (.inl ⟨rfl, rfl⟩) ?_)
        refine de rfl (EOp.mono ?_ (zfF (M := [.cells b11 [.int .i64 ((fr + m : Nat) : Int)], .arr (.slice (some ⟨nb, nbo, none⟩) E nbc) 1 (((List.range k).foldl (zcd al cs (fr + m) (za7 al can fr (zaU can.length got) m)) (List.replicate E zbb)).map (HVal.int .i64)), .cells b9 [.raw (.slice (some ⟨bb, bbo, none⟩) E bbc)], .arr (.slice (some ⟨bb, bbo, none⟩) E bbc) 1 ((za7 al can fr (zaU can.length got) m).map (HVal.int .i64))]) zth rfl rfl (WeakL.refl _) (ze9 (s := k) (k := (fr + m)) (i := (fr + m)) (n := can.length) (more := 0) (nx := ((List.range k).foldl (zcd al cs (fr + m) (za7 al can fr (zaU can.length got) m)) (List.replicate E zbb))) (best := (za7 al can fr (zaU can.length got) m)) hca (hp _ _ (by omega) (by omega)) hE hn hk2 (by omega) (by simp only [zgB, zfW, zd0, List.length_replicate]) hBl hbk ⟨by omega, by omega⟩)))
        rintro _ _ ⟨rfl, rfl⟩
        refine dn ?_
        refine za9 (fun _ => True) [] mixed ?_
        refine ahp 0 rfl rfl (by kernel_rfl) (by kernel_rfl) (zg rfl) ?_
        refine ahp 1 rfl rfl (by kernel_rfl) (by kernel_rfl) ((by first | exact zaq rfl | exact zW rfl)) ?_
        refine ahp 2 rfl rfl (by kernel_rfl) (by kernel_rfl) ((by first | exact zc zeD rfl zbm (by decide) rfl | exact zw zeD rfl zbm (by decide) rfl)) ?_
        refine ahp 3 rfl rfl (by kernel_rfl) (by kernel_rfl) (ze zbm rfl rfl rfl) ?_
        refine ahp 8 rfl rfl (by kernel_rfl) (by kernel_rfl) (zg rfl) ?_
        refine ahe 4 rfl (by kernel_rfl) ?_
        first
        | refine zH rfl (zP (i := 0) ty3 rfl rfl (.inl ⟨rfl, rfl⟩) ?_)
        | refine zH rfl (zP (i := 1) ty3 rfl rfl (.inl ⟨rfl, rfl⟩) ?_)
        | refine zH rfl (zP (i := 2) ty3 rfl rfl (.inl ⟨rfl, rfl⟩) ?_)
        | refine zH rfl (zP (i := 3) ty3 rfl rfl (.inl ⟨rfl, rfl⟩) ?_)
        refine ⟨fun _ => .inl trivial, ?_⟩
        refine ahp 5 rfl rfl (by kernel_rfl) (by kernel_rfl) (zJ (j := fr + m) (a := cs) zbm zU rfl rfl rfl hcs) ?_
        refine ahp 6 rfl rfl (by kernel_rfl) (by kernel_rfl) (ze zU rfl rfl rfl) ?_
        refine ahp 7 rfl rfl (by kernel_rfl) (by kernel_rfl) (zF zU rfl) ?_
        refine ahz (by kernel_rfl) ?_
        refine zl ?_
        refine zZ [17, 73, 74, 75, 76, 77, 78, 79, 80, 81] (fun (j : Nat) => [(73, .int .i64 j)]) (fun (j : Nat) => [.cells b11 [.int .i64 ((fr + m : Nat) : Int)], .arr (.slice (some ⟨nb, nbo, none⟩) E nbc) 1 (((cs.take j).foldl (fun nx y => zbi (za7 al can fr (zaU can.length got) m) (al (fr + m) y) k y 1 nx) (zbi (za7 al can fr (zaU can.length got) m) (al (fr + m) (fr + m)) k (fr + m) 0 ((List.range k).foldl (zcd al cs (fr + m) (za7 al can fr (zaU can.length got) m)) (List.replicate E zbb)))).map (HVal.int .i64)), .cells b9 [.raw (.slice (some ⟨bb, bbo, none⟩) E bbc)], .arr (.slice (some ⟨bb, bbo, none⟩) E bbc) 1 ((za7 al can fr (zaU can.length got) m).map (HVal.int .i64))]) (fun (j : Nat) => j ≤ cs.length ∧ (True)) (fun (j : Nat) => cs.length - j) (0) ?_ ?_ ?_ ?_
        ·exact ⟨Nat.zero_le _, trivial⟩
        ·exact ⟨rfl, trivial⟩
        ·exact zL rfl
        ·intro j hinv
         obtain ⟨hj, -⟩ := hinv
         refine zb ?_
         refine dq (zO rfl rfl) ?_
         refine dn ?_
         refine zh ?_
         refine zj rfl (fun h9 => ?_) (fun h10 => ?_)
         ·try simp at h9
          obtain ⟨y, hy⟩ : ∃ y, cs[j]? = some y := ⟨_, List.getElem?_eq_getElem h9⟩
          have hdy := zQ hy
          have hyl : y < can.length := hc.lt (fr + m) y (by rw [hcd]; exact List.mem_of_getElem? hy)
          refine zk ?_
          refine zf ?_
          refine zh ?_
          refine zl ?_
          refine zb ?_
          refine dq (zJ zU ty3 rfl rfl rfl (by first | assumption | simp_all)) ?_
          refine dq (ze ty3 rfl rfl rfl) ?_
          refine das rfl ?_
          refine dn ?_
          refine zy ?_
          refine dmv rfl ?_
          refine dmv rfl ?_
          refine dmv rfl ?_
          refine de rfl (EOp.mono ?_ (zfF (M := [.cells b11 [.int .i64 ((fr + m : Nat) : Int)], .arr (.slice (some ⟨nb, nbo, none⟩) E nbc) 1 (((cs.take j).foldl (fun nx y => zbi (za7 al can fr (zaU can.length got) m) (al (fr + m) y) k y 1 nx) (zbi (za7 al can fr (zaU can.length got) m) (al (fr + m) (fr + m)) k (fr + m) 0 ((List.range k).foldl (zcd al cs (fr + m) (za7 al can fr (zaU can.length got) m)) (List.replicate E zbb)))).map (HVal.int .i64)), .cells b9 [.raw (.slice (some ⟨bb, bbo, none⟩) E bbc)], .arr (.slice (some ⟨bb, bbo, none⟩) E bbc) 1 ((za7 al can fr (zaU can.length got) m).map (HVal.int .i64))]) zth rfl rfl (WeakL.refl _) (ze9 (s := k) (k := y) (i := (fr + m)) (n := can.length) (more := 1) (nx := ((cs.take j).foldl (fun nx y => zbi (za7 al can fr (zaU can.length got) m) (al (fr + m) y) k y 1 nx) (zbi (za7 al can fr (zaU can.length got) m) (al (fr + m) (fr + m)) k (fr + m) 0 ((List.range k).foldl (zcd al cs (fr + m) (za7 al can fr (zaU can.length got) m)) (List.replicate E zbb))))) (best := (za7 al can fr (zaU can.length got) m)) hca (hp _ _ (by omega) (by omega)) hE hn hk2 (by omega) (by simp only [zgB, zfW, zd0, List.length_replicate]) hBl hbk ⟨by omega, by omega⟩)))
          rintro _ _ ⟨rfl, rfl⟩
          refine dn ?_
          refine zz ?_
          refine zf ?_
          refine zy ?_
          refine dq (zv rfl rfl (by omega) (by omega)) ?_
          refine dmv rfl ?_
          refine dn ?_
          exact ⟨j + 1, ⟨by omega, trivial⟩, by dsimp only; omega, ⟨rfl, trivial⟩, (by repeat (first | exact zo | refine zt rfl ?_ | refine zp rfl rfl ?_)), zL (by dsimp only; rw [zp3 hy])⟩
         ·try simp at h10
          have hnj : cs.length ≤ j := by omega
          obtain rfl : j = cs.length := by omega
          refine zN ?_
          refine zT ?_
          refine zah ?_
          refine zD ?_
          refine zz ?_
          refine zf ?_
          refine zy ?_
          refine dq (zv rfl rfl (by omega) (by omega)) ?_
          refine dmv rfl ?_
          refine dn ?_
          exact ⟨k + 1, by omega, by dsimp only; omega, ⟨rfl, trivial⟩, (by repeat (first | exact zo | refine zt rfl ?_ | refine zp rfl rfl ?_)), zL (by dsimp only; rw [zmM, zcd, if_neg (by rw [hxd]; simp_all), List.take_length])⟩
      ·try simp at h6
       obtain rfl : E = k := by omega
       refine zN ?_
       refine zT ?_
       refine zah ?_
       refine zD ?_
       refine zf ?_
       refine zy ?_
       refine dq (ze zU rfl rfl rfl) ?_
       first
       | refine de0 (zx (i := 0) zU rfl rfl rfl rfl rfl (Nat.le_of_ble_eq_true rfl) ?_)
       | refine de0 (zx (i := 1) zU rfl rfl rfl rfl rfl (Nat.le_of_ble_eq_true rfl) ?_)
       | refine de0 (zx (i := 2) zU rfl rfl rfl rfl rfl (Nat.le_of_ble_eq_true rfl) ?_)
       | refine de0 (zx (i := 3) zU rfl rfl rfl rfl rfl (Nat.le_of_ble_eq_true rfl) ?_)
       refine dn ?_
       refine zz ?_
       refine zf ?_
       refine zh ?_
       refine zI (Ghost.rm 3 rfl) ?_
       refine zb ?_
       first
       | refine de rfl (zP (i := 0) ty3 rfl rfl (.inl ⟨rfl, rfl⟩) ?_)
       | refine de rfl (zP (i := 1) ty3 rfl rfl (.inl ⟨rfl, rfl⟩) ?_)
       | refine de rfl (zP (i := 2) ty3 rfl rfl (.inl ⟨rfl, rfl⟩) ?_)
       | refine de rfl (zP (i := 3) ty3 rfl rfl (.inl ⟨rfl, rfl⟩) ?_)
       refine dn ?_
       refine zy ?_
       refine de rfl (zX ty3 rfl fun b11 => ?_)
       first
       | refine de0 (zx (i := 0) ty3 rfl rfl rfl rfl rfl (Nat.le_of_ble_eq_true rfl) ?_)
       | refine de0 (zx (i := 1) ty3 rfl rfl rfl rfl rfl (Nat.le_of_ble_eq_true rfl) ?_)
       | refine de0 (zx (i := 2) ty3 rfl rfl rfl rfl rfl (Nat.le_of_ble_eq_true rfl) ?_)
       | refine de0 (zx (i := 3) ty3 rfl rfl rfl rfl rfl (Nat.le_of_ble_eq_true rfl) ?_)
       refine dn ?_
       refine zf ?_
       refine zI (Ghost.rm 1 rfl) ?_
       refine zy ?_
       first
       | refine de rfl (zP (i := 0) ty3 rfl rfl (.inl ⟨rfl, rfl⟩) ?_)
       | refine de rfl (zP (i := 1) ty3 rfl rfl (.inl ⟨rfl, rfl⟩) ?_)
       | refine de rfl (zP (i := 2) ty3 rfl rfl (.inl ⟨rfl, rfl⟩) ?_)
       | refine de rfl (zP (i := 3) ty3 rfl rfl (.inl ⟨rfl, rfl⟩) ?_)
       refine dq (zv rfl rfl (by omega) (by omega)) ?_
       first
       | refine de0 (zx (i := 0) ty3 rfl rfl rfl rfl rfl (Nat.le_of_ble_eq_true rfl) ?_)
       | refine de0 (zx (i := 1) ty3 rfl rfl rfl rfl rfl (Nat.le_of_ble_eq_true rfl) ?_)
       | refine de0 (zx (i := 2) ty3 rfl rfl rfl rfl rfl (Nat.le_of_ble_eq_true rfl) ?_)
       | refine de0 (zx (i := 3) ty3 rfl rfl rfl rfl rfl (Nat.le_of_ble_eq_true rfl) ?_)
       refine dn ?_
       exact ⟨m + 1, _, nb, (nbo, nbc), by omega, by dsimp only; omega, ⟨rfl, trivial⟩, (by repeat (first | exact zo | refine zt rfl ?_ | refine zp rfl rfl ?_)), (List.Perm.cons _ (List.Perm.swap _ _ _)).trans (zL (by dsimp only; rw [za7, zhI, hBl, hcd]; rfl))⟩
    ·try simp at h4
     obtain rfl : m = can.length - fr := by omega
     refine zN ?_
     refine zT ?_
     refine zkw ?_
     refine zD ?_
     refine zf ?_
     have hBl : (za7 al can fr (zaU can.length got) (can.length - fr)).length = E := by rw [zks, zoG, hE]
     have hlast : (za7 al can fr (zaU can.length got) (can.length - fr))[E - 1]? = some ((za7 al can fr (zaU can.length got) (can.length - fr)).getD (E - 1) 0) := getD_some (by omega)
     refine zb ?_
     first
     | refine de rfl (zP (i := 0) zU rfl rfl (.inl ⟨rfl, rfl⟩) ?_)
     | refine de rfl (zP (i := 1) zU rfl rfl (.inl ⟨rfl, rfl⟩) ?_)
     | refine de rfl (zP (i := 2) zU rfl rfl (.inl ⟨rfl, rfl⟩) ?_)
     | refine de rfl (zP (i := 3) zU rfl rfl (.inl ⟨rfl, rfl⟩) ?_)
     first
     | refine de rfl (zP (i := 0) zU rfl rfl (.inl ⟨rfl, rfl⟩) ?_)
     | refine de rfl (zP (i := 1) zU rfl rfl (.inl ⟨rfl, rfl⟩) ?_)
     | refine de rfl (zP (i := 2) zU rfl rfl (.inl ⟨rfl, rfl⟩) ?_)
     | refine de rfl (zP (i := 3) zU rfl rfl (.inl ⟨rfl, rfl⟩) ?_)
     refine dq (zft zU rfl) ?_
     refine dq (zal rfl rfl (by omega) (by omega)) ?_
     refine dq (zab (j := E - 1) zU ty3 rfl rfl (by omega) (by omega)) ?_
     refine de rfl (zbg (i := 2) (j := E - 1) 0 ty3 rfl (by omega) rfl hlast rfl rfl ?_)
     refine das rfl ?_
     refine dn ?_
     refine zn ?_
     refine zbW Ghost.clear rfl ⟨?_, rfl⟩
     show HVal.int .i64 _ = HVal.int .i64 _
     rw [zbM, hE]

/-- (*benchwarmer/trade.hall).stays$1 -/
theorem ze4 [Tracks] {i k kn : Nat} {out : List Bool} (hk : kn ≤ out.length) : ConP Tryz.prog 131 [.int .i64 (i : Int), .int .i64 (k : Int), .vptr [.int .i64 (kn : Int)] 0, .vptr [.slice 1 (out.map .bool)] 0] (.bool (alS kn out i k)) := by
 refine Con.of_body Tryz.func131 rfl Tryz.ntmps131 rfl rfl ?_
 refine zb ?_
 refine das rfl ?_
 refine dn ?_
 refine zb ?_
 refine dmv rfl ?_
 refine dq (ze ty3 rfl rfl rfl) ?_
 refine dq (zbJ rfl rfl) ?_
 refine dmv rfl ?_
 refine dg rfl rfl (fun hc => ⟨_, OpenTo.refl _, zg rfl⟩) ?_
 refine dg rfl rfl (fun hc => ⟨_, OpenTo.refl _, zg rfl⟩) ?_
 refine dg rfl rfl (fun hc => ⟨_, OpenTo.upd (t := 12) rfl (by first | exact hc | simp_all) (OpenTo.upd (t := 11) rfl (by first | exact hc | simp_all) (OpenTo.refl _)), zaA rfl rfl⟩) ?_
 refine dg rfl rfl (fun hc => ⟨_, OpenTo.refl _, ze zcD rfl rfl rfl⟩) ?_
 refine dg rfl rfl (fun hc => ⟨_, OpenTo.refl _, zg rfl⟩) ?_
 refine dg rfl rfl (fun hc => by
  have hik : i < kn := by simpa using hc
  exact ⟨_, OpenTo.upd (t := 15) rfl (by first | exact hc | simp_all) (OpenTo.upd (t := 14) rfl (by first | exact hc | simp_all) (OpenTo.refl _)), zJ (j := i) (a := out.getD i false) zcD ty4 rfl rfl rfl (getD_some (by omega))⟩) ?_
 refine dg rfl rfl (fun hc => ⟨_, OpenTo.upd (t := 16) rfl (by first | exact hc | simp_all) (OpenTo.refl _), ze ty4 rfl rfl rfl⟩) ?_
 refine dg rfl rfl (fun hc => ⟨_, OpenTo.upd (t := 17) rfl (by first | exact hc | simp_all) (OpenTo.upd (t := 13) rfl (by first | exact hc | simp_all) (OpenTo.refl _)), zoA ty4 rfl rfl⟩) ?_
 refine dq (zB rfl (.inl rfl) (.inr ⟨_, rfl, fun h => by simp_all⟩)) ?_
 refine das rfl ?_
 refine dn ?_
 refine zn ?_
 refine zA rfl ?_
 show HVal.bool _ = _
 unfold alS
 congr 1
 generalize out.getD i false = b
 have hik : ((i : Int) == (k : Int)) = (i == k) := by rw [Bool.eq_iff_iff, beq_iff_eq, beq_iff_eq]; omega
 by_cases h1 : kn ≤ i <;> by_cases h2 : i = k <;> cases b <;> simp [h1, h2, hik]

set_option maxHeartbeats 1000000 in
/-- (*benchwarmer/trade.hall).stays -/
theorem zi4 [Tracks] {can : List (List Nat)} (hc : CanOk can) (hcl : ∀ c ∈ can, c.length ≤ 1000) : zon Tryz.prog 84 [.vptr [zkf can] 0] 1 (((stB can can.length).map .bool)) := by
 have hn := hc.len
 refine Con.of_body Tryz.func84 rfl Tryz.ntmps84 rfl rfl ?_
 refine zb ?_
 refine das rfl ?_
 refine dn ?_
 refine zb ?_
 refine dmv rfl ?_
 refine dq ((by first | exact zaq rfl | exact zW rfl)) ?_
 refine dq ((by first | exact zc zeD rfl zbm (by decide) rfl | exact zw zeD rfl zbm (by decide) rfl)) ?_
 refine dq (ze zbm rfl rfl rfl) ?_
 refine dq (zF zbm rfl) ?_
 refine das rfl ?_
 refine dn ?_
 refine zb ?_
 refine dmv rfl ?_
 refine de rfl (zhK (n := can.length) zcD ty4 rfl rfl rfl rfl rfl (by omega) fun b15 => ?_)
 refine de rfl (zX zcD rfl fun b4 => ?_)
 refine de0 (zag zcD rfl rfl rfl rfl rfl ?_)
 refine dn ?_
 refine zI (Ghost.fc0 4 rfl) ?_
 refine zb ?_
 refine de rfl (zX ty3 rfl fun b5 => ?_)
 first
 | refine de0 (zx (i := 0) ty3 rfl rfl rfl rfl rfl (Nat.le_of_ble_eq_true rfl) ?_)
 | refine de0 (zx (i := 1) ty3 rfl rfl rfl rfl rfl (Nat.le_of_ble_eq_true rfl) ?_)
 | refine de0 (zx (i := 2) ty3 rfl rfl rfl rfl rfl (Nat.le_of_ble_eq_true rfl) ?_)
 | refine de0 (zx (i := 3) ty3 rfl rfl rfl rfl rfl (Nat.le_of_ble_eq_true rfl) ?_)
 refine dn ?_
 refine zb ?_
 refine dq (zcx rfl rfl) ?_
 refine das rfl ?_
 refine dn ?_
 refine zI (Ghost.perm (zL (show _ = [MObj.cells b5 [.int .i64 ((0 : Nat) : Int)], .arr (.slice (some ⟨b15, 0, none⟩) can.length can.length) 1 ((List.replicate can.length false).map .bool)] by rw [List.map_replicate]; rfl))) ?_
 refine zb ?_
 refine dmv rfl ?_
 refine dmv rfl ?_
 refine de rfl (ziQ (hs' := [.vptr [zkf can] 0, .int .i64 0, .int .i64 0, .fn (.func 131) [] [.vptr [.int .i64 ((0 : Nat) : Int)] 0, .vptr [.slice 1 ((List.replicate can.length false).map .bool)] 0]]) zqw rfl ⟨.refl, .refl, .refl, .fnL ⟨.cellsL (i := 0) rfl ⟨.refl, trivial⟩, .vptrL ⟨.arr (i := 1) rfl, trivial⟩, trivial⟩, trivial⟩ (zc6 (fr := 0) (got := 0) (al := alS (0) ((List.replicate can.length false))) zs6 (fun i k _ _ => ze4 (by simp only [List.length_set, List.length_replicate, zeS]; omega)) hc (Nat.zero_le _) (Nat.two_pow_pos _) hcl) rfl ?_)
 refine das rfl ?_
 refine dn ?_
 refine zh ?_
 simp only [zsp]
 refine zb ?_
 refine dmv rfl ?_
 refine dmv rfl ?_
 refine dn ?_
 refine zl ?_
 refine zZ [8, 21, 22, 23, 24, 25, 26, 27, 28, 29, 30, 31, 32, 33, 34, 35, 36, 37] (fun (k : Nat) => [(21, .int .i64 (k : Int))]) (fun (k : Nat) => [.cells b5 [.int .i64 ((k : Nat) : Int)], .arr (.slice (some ⟨b15, 0, none⟩) can.length can.length) 1 ((stB can k).map .bool)]) (fun (k : Nat) => k ≤ can.length) (fun (k : Nat) => can.length - k) (0) ?_ ?_ ?_ ?_
 ·exact Nat.zero_le _
 ·exact ⟨rfl, trivial⟩
 ·exact zL rfl
 ·intro k hk
  refine zb ?_
  refine dq (zO rfl rfl) ?_
  refine dn ?_
  refine zh ?_
  refine zj rfl (fun h1 => ?_) (fun h2 => ?_)
  ·try simp at h1
   obtain ⟨sk, hsk⟩ : ∃ b, (stB can k)[k]? = some b := ⟨_, List.getElem?_eq_getElem (by rw [zeS]; omega)⟩
   refine zk ?_
   refine zf ?_
   refine zh ?_
   refine zl ?_
   refine zb ?_
   refine dmv rfl ?_
   refine das rfl ?_
   refine dn ?_
   refine zb ?_
   refine dq (ze zcD rfl rfl rfl) ?_
   refine dmv rfl ?_
   refine dmv rfl ?_
   refine dq (zv rfl rfl (by omega) (by omega)) ?_
   refine dq (zab (j := k) zcD ty4 rfl rfl rfl (by omega)) ?_
   refine de0 (zaR (i := 1) (j := k) (f := 0) (y := .bool sk) (y' := .bool true) ty4 rfl (by omega) rfl rfl (zcJ hsk) rfl rfl (by simp [zm]) rfl ?_)
   first
   | refine de0 (zx (i := 0) ty3 rfl rfl rfl rfl rfl (Nat.le_of_ble_eq_true rfl) ?_)
   | refine de0 (zx (i := 1) ty3 rfl rfl rfl rfl rfl (Nat.le_of_ble_eq_true rfl) ?_)
   | refine de0 (zx (i := 2) ty3 rfl rfl rfl rfl rfl (Nat.le_of_ble_eq_true rfl) ?_)
   | refine de0 (zx (i := 3) ty3 rfl rfl rfl rfl rfl (Nat.le_of_ble_eq_true rfl) ?_)
   refine dn ?_
   have hst : ((stB can k).set k true)[k]? = some true := by rw [List.getElem?_set, if_pos rfl, if_pos (by rw [zeS]; omega)]
   refine zI (Ghost.perm (zL (show _ = [MObj.cells b5 [.int .i64 ((k + 1 : Nat) : Int)], .arr (.slice (some ⟨b15, 0, none⟩) can.length can.length) 1 (((stB can k).set k true).map .bool)] by rw [List.map_set]; rfl))) ?_
   refine zb ?_
   refine dmv rfl ?_
   refine dmv rfl ?_
   refine de rfl (ziQ (hs' := [.vptr [zkf can] 0, .int .i64 0, .int .i64 0, .fn (.func 131) [] [.vptr [.int .i64 ((k + 1 : Nat) : Int)] 0, .vptr [.slice 1 (((stB can k).set k true).map .bool)] 0]]) zqw rfl ⟨.refl, .refl, .refl, .fnL ⟨.cellsL (i := 0) rfl ⟨.refl, trivial⟩, .vptrL ⟨.arr (i := 1) rfl, trivial⟩, trivial⟩, trivial⟩ (zc6 (fr := 0) (got := 0) (al := alS (k + 1) (((stB can k).set k true))) zs6 (fun i k _ _ => ze4 (by simp only [List.length_set, List.length_replicate, zeS]; omega)) hc (Nat.zero_le _) (Nat.two_pow_pos _) hcl) rfl ?_)
   refine dmv rfl ?_
   refine dq (zaM rfl rfl) ?_
   refine dn ?_
   refine zj rfl (fun h3 => ?_) (fun h4 => ?_)
   ·try simp at h3
    refine zy ?_
    refine dq (ze zcD rfl rfl rfl) ?_
    refine dmv rfl ?_
    refine dq (zab (j := k) zcD ty4 rfl rfl rfl (by omega)) ?_
    refine de0 (zaR (i := 1) (j := k) (f := 0) (y := .bool true) (y' := .bool false) ty4 rfl (by omega) rfl rfl (zcJ hst) rfl rfl (by simp [zm]) rfl ?_)
    refine dn ?_
    refine zz ?_
    refine zf ?_
    refine zy ?_
    refine dq (zv rfl rfl (by omega) (by omega)) ?_
    refine dmv rfl ?_
    refine dn ?_
    exact ⟨k + 1, by omega, by dsimp only; omega, ⟨rfl, trivial⟩, (by repeat (first | exact zo | refine zt rfl ?_ | refine zp rfl rfl ?_)), zL (by dsimp only; rw [stB, zey, if_pos (by assumption), ← List.map_set]; rfl)⟩
   ·try simp at h4
    refine zk ?_
    refine zz ?_
    refine zf ?_
    refine zy ?_
    refine dq (zv rfl rfl (by omega) (by omega)) ?_
    refine dmv rfl ?_
    refine dn ?_
    exact ⟨k + 1, by omega, by dsimp only; omega, ⟨rfl, trivial⟩, (by repeat (first | exact zo | refine zt rfl ?_ | refine zp rfl rfl ?_)), zL (by dsimp only; rw [stB, zey, if_neg (by simp_all)])⟩
  ·try simp at h2
   obtain rfl : k = can.length := by omega
   refine zN ?_
   refine zT ?_
   refine zah ?_
   refine zD ?_
   refine zf ?_
   refine zb ?_
   refine dq (ze zcD rfl rfl rfl) ?_
   refine das rfl ?_
   refine dn ?_
   refine zn ?_
   exact zbW Ghost.drop rfl ⟨_, rfl, rfl⟩

/-- (*benchwarmer/trade.hall).choose$1 -/
theorem zeL [Tracks] {i k : Nat} {S : List Bool} (hi : i < S.length) : ConP Tryz.prog 85 [.int .i64 (i : Int), .int .i64 (k : Int), .vptr [.slice 1 (S.map .bool)] 0] (.bool (alC S i k)) := by
 refine Con.of_body Tryz.func85 rfl Tryz.ntmps85 rfl rfl ?_
 refine zb ?_
 refine das rfl ?_
 refine dn ?_
 refine zb ?_
 refine dmv rfl ?_
 refine dmv rfl ?_
 refine dq (zaA rfl rfl) ?_
 refine dq (ze zcD rfl rfl rfl) ?_
 refine dmv rfl ?_
 refine dq (zJ (j := i) (a := S.getD i false) zcD ty4 rfl rfl rfl (getD_some hi)) ?_
 refine dq (ze ty4 rfl rfl rfl) ?_
 refine dq (zoA ty4 rfl rfl) ?_
 refine das rfl ?_
 refine dn ?_
 refine zn ?_
 refine zA rfl ?_
 show HVal.bool _ = _
 unfold alC
 congr 1
 generalize S.getD i false = b
 have hik : ((i : Int) == (k : Int)) = (i == k) := by rw [Bool.eq_iff_iff, beq_iff_eq, beq_iff_eq]; omega
 by_cases h2 : i = k <;> cases b <;> simp [h2, hik]

set_option maxHeartbeats 2000000 in
/-- (*benchwarmer/trade.hall).choose -/
theorem zh8 [Tracks] {can : List (List Nat)} (hco : CanOk can) (hcl : ∀ c ∈ can, c.length ≤ 1000) : ConP Tryz.prog 52 [.vptr [zkf can] 0] (eNs (zaO can)) := by
 have hn := hco.len
 refine Con.of_body Tryz.func52 rfl Tryz.ntmps52 rfl rfl ?_
 refine zb ?_
 refine das rfl ?_
 refine dn ?_
 refine zb ?_
 refine dmv rfl ?_
 refine de rfl (EOp.fzi (N := []) (sz := 1) (es := (stB can can.length).map .bool) 0 (EOp.mono (by rintro _ _ ⟨v, rfl, rfl⟩; exact ⟨v, rfl, rfl, rfl⟩) (zhH ca84 rfl (WeakL.refl _) (zi4 hco hcl))) ?_)
 refine de rfl (zX zcD rfl fun b3 => ?_)
 refine de0 (zag zcD rfl rfl rfl rfl rfl ?_)
 refine dn ?_
 refine zI (Ghost.fc0 3 rfl) ?_
 refine zb ?_
 refine dq (zcx rfl rfl) ?_
 refine das rfl ?_
 refine dn ?_
 refine zb ?_
 refine das rfl ?_
 refine dn ?_
 refine zI (Ghost.arr_nil 1) ?_
 refine zb ?_
 refine das rfl ?_
 refine dn ?_
 refine zh ?_
 refine zb ?_
 refine dmv rfl ?_
 refine dq ((by first | exact zaq rfl | exact zW rfl)) ?_
 refine dq ((by first | exact zc zeD rfl zbm (by decide) rfl | exact zw zeD rfl zbm (by decide) rfl)) ?_
 refine dq (ze zbm rfl rfl rfl) ?_
 refine dq (zF zbm rfl) ?_
 refine dmv rfl ?_
 refine dn ?_
 refine zl ?_
 refine zaS (5 :: 6 :: 7 :: 8 :: 9 :: 10 :: 12 :: 21 :: 22 :: 23 :: 24 :: 25 :: 26 :: 27 :: 28 :: 29 :: 30 :: 31 :: 32 :: 33 :: 34 :: 35 :: 36 :: 37 :: 38 :: 39 :: 40 :: 41 :: 42 :: 43 :: 44 :: 45 :: 46 :: 47 :: 48 :: 49 :: 50 :: 51 :: 52 :: 53 :: 54 :: 55 :: 56 :: 57 :: 58 :: 59 :: 60 :: 61 :: 62 :: 63 :: 64 :: 65 :: 66 :: 67 :: 68 :: 69 :: 70 :: 71 :: 72 :: 73 :: 74 :: 75 :: 76 :: 77 :: []) (fun (k : Nat) (ov : Value) => [(21, .int .i64 (k : Int)), (5, .raw ov), (6, .int .i64 ((za1 (chB can (stB can can.length) k) : Nat) : Int))]) (fun (k : Nat) (ov : Value) => [.arr ov 1 ((chB can (stB can can.length) k).map fun k => HVal.int .i64 ((k : Nat) : Int))]) (fun (k : Nat) (ov : Value) => k ≤ can.length) (fun (k : Nat) (ov : Value) => can.length - k) (0) (.slice none 0 0) ?_ ?_ ?_ ?_
 ·exact Nat.zero_le _
 ·exact ⟨rfl, rfl, rfl, trivial⟩
 ·exact zL rfl
 ·intro k ov hk
  refine zb ?_
  refine dq (zO rfl rfl) ?_
  refine dn ?_
  refine zh ?_
  refine zj rfl (fun h1 => ?_) (fun h2 => ?_)
  ·try simp at h1
   obtain ⟨ck, hck⟩ : ∃ c, can[k]? = some c := ⟨_, List.getElem?_eq_getElem (by omega)⟩
   obtain ⟨sk, hsk⟩ : ∃ b, (stB can can.length)[k]? = some b := ⟨_, List.getElem?_eq_getElem (by rw [zeS]; omega)⟩
   have hsd : (stB can can.length).getD k false = sk := by rw [List.getD_eq_getElem?_getD, hsk]; rfl
   obtain ⟨hcl1, hcl2⟩ := zto (S := (stB can can.length)) hco k (by omega)
   have hgl := zlA hcl1
   have hpn := zqs hn
   have hcdl : (zbo can (stB can can.length) k).length ≤ 1000 := by unfold zbo; split <;> first | (simp; done) | (rw [List.getD_eq_getElem?_getD, hck]; exact hcl ck (List.mem_of_getElem? hck))
   refine zk ?_
   refine zf ?_
   refine zh ?_
   refine zl ?_
   refine zb ?_
   refine dmv rfl ?_
   refine das rfl ?_
   refine dn ?_
   refine zb ?_
   refine dmv rfl ?_
   refine dmv rfl ?_
   refine dmv rfl ?_
   refine dmv rfl ?_
   refine dq (zq (hs' := [.vptr [zkf can] 0, .int .i64 ((k : Nat) : Int), .int .i64 ((za1 (chB can (stB can can.length) k) : Nat) : Int), .fn (.func 85) [] [.vptr [.slice 1 ((stB can can.length).map .bool)] 0]]) zqw rfl (WeakL.refl _) (zc6 (fr := k) (got := za1 (chB can (stB can can.length) k)) (al := alC (stB can can.length)) ca85 (fun i k hi _ => zeL (by rw [zeS]; exact hi)) hco (by omega) hgl hcl)) ?_
   refine das rfl ?_
   refine dn ?_
   refine zb ?_
   refine das rfl ?_
   refine dn ?_
   refine zb ?_
   refine dmv rfl ?_
   refine dq ((by first | exact zaq rfl | exact zW rfl)) ?_
   refine dq ((by first | exact zc zeD rfl zbm (by decide) rfl | exact zw zeD rfl zbm (by decide) rfl)) ?_
   refine dq (ze zbm rfl rfl rfl) ?_
   refine dmv rfl ?_
   refine dq (zJ (j := k) (a := ck) zbm zU rfl rfl rfl hck) ?_
   refine dq (ze zU rfl rfl rfl) ?_
   refine das rfl ?_
   refine dn ?_
   refine zf3 [9, 10, 36, 37, 38, 39, 40, 41] (fun (z0 : Unit) => [(9, .int .i64 (zds (stB can can.length) k)), (10, eNs (zbo can (stB can can.length) k))]) (fun (z0 : Unit) => [.arr ov 1 ((chB can (stB can can.length) k).map fun k => HVal.int .i64 ((k : Nat) : Int))]) (fun (z0 : Unit) => True) ?_ ?_
   ·skip
    refine zb ?_
    refine dq (ze zcD rfl rfl rfl) ?_
    refine dmv rfl ?_
    refine dq (zJ (j := k) (a := sk) zcD ty4 rfl rfl rfl hsk) ?_
    refine dq (ze ty4 rfl rfl rfl) ?_
    refine dn ?_
    refine zj rfl (fun h3 => ?_) (fun h4 => ?_)
    ·try simp at h3
     refine zy ?_
     refine dmv rfl ?_
     refine dq (zK (hs := [_]) zU ty3 rfl rfl (by decide) (by decide) rfl) ?_
     refine das rfl ?_
     refine das rfl ?_
     refine dn ?_
     have hst : (stB can can.length).getD k false = true := by rw [hsd]; simp_all
     exact ⟨(), trivial, ⟨congrArg (fun q => some (HVal.int .i64 q)) (by rw [zds, if_pos hst]), congrArg (fun q => some (eNs q)) (show [k] = _ by rw [zbo, if_pos hst]), trivial⟩, (by repeat (first | exact zo | refine zt rfl ?_ | refine zp rfl rfl ?_)), List.Perm.refl _⟩
    ·try simp at h4
     refine zk ?_
     have hst : ¬ (stB can can.length).getD k false = true := by rw [hsd]; simp_all
     exact ⟨(), trivial, ⟨congrArg (fun q => some (HVal.int .i64 q)) (by rw [zds, if_neg hst]), congrArg (fun q => some (eNs q)) (by rw [zbo, if_neg hst, List.getD_eq_getElem?_getD, hck]; rfl), trivial⟩, (by repeat (first | exact zo | refine zt rfl ?_ | refine zp rfl rfl ?_)), List.Perm.refl _⟩
   ·intro z0 _
    refine zb ?_
    refine dmv rfl ?_
    refine dq (zF zU rfl) ?_
    refine dmv rfl ?_
    refine dn ?_
    refine zl ?_
    refine zZ [5, 6, 12, 44, 45, 46, 47, 48, 49, 50, 51, 52, 53, 54, 55, 56, 57, 58, 59, 60, 61, 62, 63, 64, 65, 66, 67, 68, 69, 70, 71, 72, 73, 74, 75, 76] (fun (j : Nat) => [(44, .int .i64 j), (5, .raw ov), (6, .int .i64 ((za1 (chB can (stB can can.length) k) : Nat) : Int))]) (fun (j : Nat) => [.arr ov 1 ((chB can (stB can can.length) k).map fun k => HVal.int .i64 ((k : Nat) : Int))]) (fun (j : Nat) => j ≤ (zbo can (stB can can.length) k).length ∧ ((zbo can (stB can can.length) k).find? (okB can (stB can can.length) k (chB can (stB can can.length) k)) = ((zbo can (stB can can.length) k).drop j).find? (okB can (stB can can.length) k (chB can (stB can can.length) k)))) (fun (j : Nat) => (zbo can (stB can can.length) k).length - j) (0) ?_ ?_ ?_ ?_
    ·exact ⟨Nat.zero_le _, rfl⟩
    ·exact ⟨rfl, rfl, rfl, trivial⟩
    ·exact zL rfl
    ·intro j hinv
     obtain ⟨hj, hfd⟩ := hinv
     refine zb ?_
     refine dq (zO rfl rfl) ?_
     refine dn ?_
     refine zh ?_
     refine zj rfl (fun h5 => ?_) (fun h6 => ?_)
     ·try simp at h5
      obtain ⟨y, hy⟩ : ∃ y, (zbo can (stB can can.length) k)[j]? = some y := ⟨_, List.getElem?_eq_getElem h5⟩
      have hdy := zQ hy
      rw [hdy] at hfd
      refine zk ?_
      refine zf ?_
      refine zh ?_
      refine zl ?_
      refine zb ?_
      refine dq (zJ zU ty3 rfl rfl rfl (by first | assumption | simp_all)) ?_
      refine dq (ze ty3 rfl rfl rfl) ?_
      refine das rfl ?_
      refine dn ?_
      have hyl : y < can.length := zpo hco (by omega) (List.mem_of_getElem? hy)
      have hpy : 2 ^ y < 2 ^ can.length := Nat.pow_lt_pow_right (by omega) hyl
      have hor : za1 (chB can (stB can can.length) k) ||| 2 ^ y < 2 ^ can.length := Nat.or_lt_two_pow hgl hpy
      have hb1 := ztR (al := alC (stB can can.length)) (can := can) (fr := k + 1) (got := za1 (chB can (stB can can.length) k) ||| 2 ^ y) hn
      have hb2 := ztU (S := (stB can can.length)) (i := k)
      refine zb ?_
      refine dmv rfl ?_
      refine dmv rfl ?_
      refine dq (zoC rfl rfl (by omega)) ?_
      refine dq (zmA rfl rfl) ?_
      refine dq (zcy (zaA rfl rfl) ztn) ?_
      refine dmv rfl ?_
      refine dg rfl rfl (fun hc => ⟨_, OpenTo.refl _, zg rfl⟩) ?_
      refine dg rfl rfl (fun hc => ⟨_, OpenTo.refl _, zg rfl⟩) ?_
      refine dg rfl rfl (fun hc => by have hq := hc; (try simp at hq); exact ⟨_, OpenTo.upd (t := 55) rfl (by first | exact hc | simp_all) (OpenTo.refl _), zv rfl rfl (by omega) (by omega)⟩) ?_
      refine dg rfl rfl (fun hc => ⟨_, OpenTo.refl _, zg rfl⟩) ?_
      refine dg rfl rfl (fun hc => ⟨_, OpenTo.refl _, zg rfl⟩) ?_
      refine dg rfl rfl (fun hc => by have hq := hc; (try simp at hq); exact ⟨_, OpenTo.upd (t := 58) rfl (by first | exact hc | simp_all) (OpenTo.refl _), zgd rfl rfl (by omega)⟩) ?_
      refine dg rfl rfl (fun hc => by have hq := hc; (try simp at hq); exact ⟨_, OpenTo.upd (t := 59) rfl (by first | exact hc | simp_all) (OpenTo.upd (t := 57) rfl (by first | exact hc | simp_all) (OpenTo.refl _)), zjd rfl rfl (by omega) (by omega)⟩) ?_
      refine dg rfl rfl (fun hc => ⟨_, OpenTo.refl _, zg rfl⟩) ?_
      refine dg rfl rfl (fun hc => by have hq := hc; (try simp at hq); exact ⟨_, OpenTo.upd (t := 61) rfl (by first | exact hc | simp_all) (OpenTo.upd (t := 60) rfl (by first | exact hc | simp_all) (OpenTo.upd (t := 56) rfl (by first | exact hc | simp_all) (OpenTo.upd (t := 54) rfl (by first | exact hc | simp_all) (OpenTo.refl _)))), zq (hs' := [.vptr [zkf can] 0, .int .i64 (((k + 1) : Nat) : Int), .int .i64 (((za1 (chB can (stB can can.length) k) ||| 2 ^ y) : Nat) : Int), .fn (.func 85) [] [.vptr [.slice 1 ((stB can can.length).map .bool)] 0]]) zqw rfl (WeakL.refl _) (zc6 (fr := (k + 1)) (got := (za1 (chB can (stB can can.length) k) ||| 2 ^ y)) (al := alC (stB can can.length)) ca85 (fun i k hi _ => zeL (by rw [zeS]; exact hi)) hco (by omega) hor hcl)⟩) ?_
      refine dg rfl rfl (fun hc => ⟨_, OpenTo.refl _, zg rfl⟩) ?_
      refine dg rfl rfl (fun hc => by have hq := hc; (try simp at hq); exact ⟨_, OpenTo.upd (t := 63) rfl (by first | exact hc | simp_all) (OpenTo.upd (t := 62) rfl (by first | exact hc | simp_all) (OpenTo.refl _)), zv rfl rfl (by omega) (by omega)⟩) ?_
      refine dg rfl rfl (fun hc => ⟨_, OpenTo.refl _, zg rfl⟩) ?_
      refine dg rfl rfl (fun hc => ⟨_, OpenTo.upd (t := 65) rfl (by first | exact hc | simp_all) (OpenTo.upd (t := 64) rfl (by first | exact hc | simp_all) (OpenTo.refl _)), zaA rfl rfl⟩) ?_
      refine dq (zB rfl (.inr ⟨_, rfl, fun h => by simp_all⟩) (.inl rfl)) ?_
      refine dn ?_
      refine zj rfl (fun h7 => ?_) (fun h8 => ?_)
      ·try simp at h7
       have hfs : (zbo can (stB can can.length) k).find? (okB can (stB can can.length) k (chB can (stB can can.length) k)) = some y := by rw [hfd, List.find?_cons_of_pos (zui (by simp_all) (by simp_all))]
       refine za9 (fun _ => True) [] mixed ?_
       refine ahp 0 rfl rfl (by kernel_rfl) (by kernel_rfl) (zg rfl) ?_
       refine ahp 1 rfl rfl (by kernel_rfl) (by kernel_rfl) (zg rfl) ?_
       refine ahp 2 rfl rfl (by kernel_rfl) (by kernel_rfl) (zK (hs := [_]) zU ty3 rfl rfl (by decide) (by decide) rfl) ?_
       refine ahp 4 rfl rfl (by kernel_rfl) (by kernel_rfl) (zg rfl) ?_
       refine ahp 5 rfl rfl (by kernel_rfl) (by kernel_rfl) (zg rfl) ?_
       refine ahp 6 rfl rfl (by kernel_rfl) (by kernel_rfl) (zgd rfl rfl (by omega)) ?_
       refine ahp 7 rfl rfl (by kernel_rfl) (by kernel_rfl) (zjd rfl rfl (by omega) (by omega)) ?_
       refine ahe 3 rfl (by kernel_rfl) ?_
       refine zH rfl (zam (i := 0) zU ty3 rfl rfl rfl rfl rfl (by simp [zaD, zm]) (by simp; omega) fun v71 => ?_)
       refine ⟨fun _ => .inl trivial, ?_⟩
       refine ahp 8 rfl rfl (by kernel_rfl) (by kernel_rfl) (zaW rfl) ?_
       refine ahp 9 rfl rfl (by kernel_rfl) (by kernel_rfl) (zaW rfl) ?_
       refine ahz (by kernel_rfl) ?_
       refine zN ?_
       refine zgI rfl ?_
       refine zT ?_
       refine zah ?_
       refine zD ?_
       refine zz ?_
       refine zf ?_
       refine zy ?_
       refine dq (zv rfl rfl (by omega) (by omega)) ?_
       refine dmv rfl ?_
       refine dn ?_
       exact ⟨k + 1, v71, by omega, by dsimp only; omega, ⟨rfl, rfl, zbx (by rw [zkh hfs, zgG]), trivial⟩, (by repeat (first | exact zo | refine zt rfl ?_ | refine zp rfl rfl ?_)), zL (by dsimp only; rw [zkh hfs, List.map_append]; rfl)⟩
      ·try simp at h8
       refine zk ?_
       refine zz ?_
       refine zf ?_
       refine zy ?_
       refine dq (zv rfl rfl (by omega) (by omega)) ?_
       refine dmv rfl ?_
       refine dn ?_
       exact ⟨j + 1, ⟨by omega, by rw [hfd, List.find?_cons_of_neg (zt3 (by simp_all))]⟩, by dsimp only; omega, ⟨rfl, rfl, rfl, trivial⟩, (by repeat (first | exact zo | refine zt rfl ?_ | refine zp rfl rfl ?_)), List.Perm.refl _⟩
     ·try simp at h6
      have hnj : (zbo can (stB can can.length) k).length ≤ j := by omega
      obtain rfl : j = (zbo can (stB can can.length) k).length := by omega
      rw [zad (Nat.le_refl _)] at hfd
      refine zN ?_
      refine zT ?_
      refine zah ?_
      refine zD ?_
      refine zz ?_
      refine zf ?_
      refine zy ?_
      refine dq (zv rfl rfl (by omega) (by omega)) ?_
      refine dmv rfl ?_
      refine dn ?_
      have hfn : (zbo can (stB can can.length) k).find? (okB can (stB can can.length) k (chB can (stB can can.length) k)) = none := by rw [hfd]; rfl
      exact ⟨k + 1, ov, by omega, by dsimp only; omega, ⟨rfl, rfl, zbx (by rw [zki hfn]), trivial⟩, (by repeat (first | exact zo | refine zt rfl ?_ | refine zp rfl rfl ?_)), zL (by dsimp only; rw [zki hfn])⟩
  ·try simp at h2
   obtain rfl : k = can.length := by omega
   refine zN ?_
   refine zT ?_
   refine za3 ?_
   refine zD ?_
   refine zf ?_
   refine zb ?_
   refine dmv rfl ?_
   refine das rfl ?_
   refine dn ?_
   refine zn ?_
   refine zbW (Ghost.fa 2 (i := 0) rfl rfl) rfl ⟨?_, rfl⟩
   rfl

/-- math/bits.Len64 -/
theorem zmu [Tracks] {x : Nat} (hx : x < 16) : Con Tryz.prog 114 [.int .u64 (x : Int)] [] (fun y M' => ∃ n : Int, y = .int .i64 n ∧ M' = []) := by
 refine Con.of_body Tryz.func114 rfl Tryz.ntmps114 rfl rfl ?_
 refine zb ?_
 refine das rfl ?_
 refine dn ?_
 refine zh ?_
 refine zb ?_
 refine dmv rfl ?_
 refine dq (zbJ rfl rfl) ?_
 refine dn ?_
 refine zj rfl (fun h1 => ?_) (fun h1 => ?_)
 ·exfalso
  try simp at h1
  omega
 ·try simp at h1
  refine zk ?_
  refine zf ?_
  refine zh ?_
  refine zb ?_
  refine dmv rfl ?_
  refine dq (zbJ rfl rfl) ?_
  refine dn ?_
  refine zj rfl (fun h2 => ?_) (fun h2 => ?_)
  ·exfalso
   try simp at h2
   omega
  ·try simp at h2
   refine zk ?_
   refine zf ?_
   refine zh ?_
   refine zb ?_
   refine dmv rfl ?_
   refine dq (zbJ rfl rfl) ?_
   refine dn ?_
   refine zj rfl (fun h3 => ?_) (fun h3 => ?_)
   ·exfalso
    try simp at h3
    omega
   ·try simp at h3
    refine zk ?_
    refine zf ?_
    refine zb ?_
    refine dmv rfl ?_
    refine dmv rfl ?_
    refine dq (zbX zsX ty5 rfl) ?_
    refine dq (zcb (j := x) ty9 rfl rfl (zuY hx) (List.getElem?_eq_getElem (Nat.lt_of_lt_of_le hx (Nat.le_of_ble_eq_true (by kernel_rfl))))) ?_
    refine dq (zbX ty5 ty3 rfl) ?_
    refine dq (zha rfl rfl) ?_
    refine das rfl ?_
    refine dn ?_
    refine zn ?_
    exact zbs rfl ⟨_, rfl, rfl⟩

/-- math/bits.Len -/
theorem ziF [Tracks] {x : Nat} (hx : x < 16) : Con Tryz.prog 69 [.int .u64 (x : Int)] [] (fun y M' => ∃ n : Int, y = .int .i64 n ∧ M' = []) := by
 refine Con.of_body Tryz.func69 rfl Tryz.ntmps69 rfl rfl ?_
 refine zb ?_
 refine das rfl ?_
 refine dn ?_
 refine zh ?_
 refine zcS rfl ?_
 refine zk ?_
 refine zf ?_
 refine zb ?_
 refine dmv rfl ?_
 refine de rfl (zbP (M1 := []) (R := []) zta rfl (WeakL.refl _) (List.Perm.refl _) (zmu hx) ?_)
 rintro _ _ ⟨n7, rfl, rfl⟩
 refine das rfl ?_
 refine dn ?_
 refine zn ?_
 exact zbs rfl ⟨_, rfl, rfl⟩

set_option maxHeartbeats 1000000 in
/-- slices.insertionSortCmpFunc[benchwarmer/api.Give] -/
theorem zdD [Tracks] {l : List GiveS} {v : Value} {fid : FuncId} {caps : List HVal} {c : GiveS → GiveS → Int} {n : Int} (hca : Callable Tryz.prog fid) (hp : ∀ x y, ConP Tryz.prog fid ([zbR x, zbR y] ++ caps) (.int .i64 (c x y))) (hn : n = l.length) (hl : l.length ≤ 1000000) : Con Tryz.prog 133 [.raw v, .int .i64 0, .int .i64 n, .fn (.func fid) [] caps] [.arr v 3 (l.map zbR)] (fun x M' => x = .tup [] ∧ M' = [.arr v 3 ((zaY c l).map zbR)]) := by
 subst hn
 refine Con.of_body Tryz.func133 rfl Tryz.ntmps133 rfl rfl ?_
 refine zb ?_
 refine dmv rfl ?_
 refine dq (zv rfl rfl (by omega) (by omega)) ?_
 refine das rfl ?_
 refine dn ?_
 refine zl ?_
 refine zZ [8, 9, 12, 13, 14, 15, 16, 17, 18, 19, 20, 21, 22, 23, 24, 25, 26, 27, 28, 29, 30, 31, 32, 33, 34, 35, 36, 37, 38, 39, 40, 41, 42, 43, 44, 45, 46, 47, 48, 49, 50, 51, 52] (fun (k : Nat) => [(8, .int .i64 (k : Int))]) (fun (k : Nat) => [.arr v 3 ((zaY c (l.take k) ++ l.drop k).map zbR)]) (fun (k : Nat) => 1 ≤ k) (fun (k : Nat) => l.length - k) (1) ?_ ?_ ?_ ?_
 ·exact Nat.le_refl _
 ·exact ⟨rfl, trivial⟩
 ·exact zL (by rw [zjK])
 ·intro k hk
  refine zh ?_
  refine zb ?_
  refine dmv rfl ?_
  refine dmv rfl ?_
  refine dq (zO rfl rfl) ?_
  refine dn ?_
  refine zj rfl (fun h1 => ?_) (fun h2 => ?_)
  ·try simp at h1
   obtain ⟨x, hx⟩ : ∃ x, l[k]? = some x := ⟨_, List.getElem?_eq_getElem (by omega)⟩
   refine zdb (i := 0) rfl (fun h0 he => ?_) (fun b off cap hv hcap => ?_)
   ·exfalso; have := congrArg List.length he; simp [zcc] at this; omega
   rw [show ((zaY c (l.take k) ++ l.drop k).map zbR).length = l.length by simp [zcc]; omega] at hv
   subst hv
   refine zk ?_
   refine zf ?_
   refine zh ?_
   refine zl ?_
   refine zb ?_
   refine dmv rfl ?_
   refine das rfl ?_
   refine dn ?_
   refine zl ?_
   refine zaS [9, 18, 19, 20, 21, 22, 23, 24, 25, 26, 27, 28, 29, 30, 31, 32, 33, 34, 35, 36, 37, 38, 39, 40, 41, 42, 43, 44, 45, 46, 47, 48, 49, 50, 51, 52] (fun (A : List GiveS) (B : List GiveS) => [(9, .int .i64 (A.length : Int))]) (fun (A : List GiveS) (B : List GiveS) => [.arr (.slice (some ⟨b, off, none⟩) l.length cap) 3 ((A ++ x :: (B ++ l.drop (k + 1))).map zbR)]) (fun (A : List GiveS) (B : List GiveS) => A.length + B.length = k ∧ zcH c x (zaY c (l.take k)) = zcH c x A ++ B) (fun (A : List GiveS) (B : List GiveS) => A.length) (zaY c (l.take k)) ([]) ?_ ?_ ?_ ?_
   ·exact ⟨by simp [zcc]; omega, by simp⟩
   ·exact ⟨zbx (by simp [zcc]; omega), trivial⟩
   ·exact zL (by rw [zQ hx]; rfl)
   ·intro A B hinv
    obtain ⟨hA, hB⟩ := hinv
    have hlA : A.length < l.length := by omega
    have hll : ((A ++ x :: (B ++ l.drop (k + 1)))).length = l.length := by simp; omega
    refine zh ?_
    refine za9 (fun M => M = [.arr (.slice (some ⟨b, off, none⟩) l.length cap) 3 ((A ++ x :: (B ++ l.drop (k + 1))).map zbR)]) [8, 13] mixed ?_
    refine ahp 0 rfl rfl (by kernel_rfl) (by kernel_rfl) (zg rfl) ?_
    refine ahp 1 rfl rfl (by kernel_rfl) (by kernel_rfl) (zg rfl) ?_
    refine ahp 2 rfl rfl (by kernel_rfl) (by kernel_rfl) (zai rfl rfl) ?_
    refine ahp 3 rfl rfl (by kernel_rfl) (by kernel_rfl) (zg rfl) ?_
    refine ahg 4 rfl rfl (by kernel_rfl) (by kernel_rfl) rfl (fun hc => ⟨_, OpenTo.refl _, zg rfl⟩) ?_
    refine ahg 5 rfl rfl (by kernel_rfl) (by kernel_rfl) rfl (fun hc => ⟨_, OpenTo.refl _, zg rfl⟩) ?_
    refine ahg 6 rfl rfl (by kernel_rfl) (by kernel_rfl) rfl (fun hc => ⟨_, OpenTo.refl _, zg rfl⟩) ?_
    refine ahg 7 rfl rfl (by kernel_rfl) (by kernel_rfl) rfl (fun hc => by
     have hq : 0 < A.length := by simpa using hc
     exact ⟨_, OpenTo.upd (t := 24) rfl (by first | exact hc | simp_all) (OpenTo.upd (t := 23) rfl (by first | exact hc | simp_all) (OpenTo.refl _)), zab (j := A.length) zef zby rfl rfl (by rfl) (by omega)⟩) ?_
    refine zl7 8 rfl rfl (by kernel_rfl) (by kernel_rfl) (by simp) rfl rfl (fun hc => ⟨_, OpenTo.upd (t := 25) rfl (by first | exact hc | simp_all) (OpenTo.refl _), fun M hM => by
     subst hM; exact zbK (i := 0) (j := A.length) zby rfl rfl rfl zf5 rfl rfl rfl ⟨rfl, rfl⟩
     ⟩) ?_
    refine ahg 9 rfl rfl (by kernel_rfl) (by kernel_rfl) rfl (fun hc => ⟨_, OpenTo.refl _, zg rfl⟩) ?_
    refine ahg 10 rfl rfl (by kernel_rfl) (by kernel_rfl) rfl (fun hc => ⟨_, OpenTo.refl _, zg rfl⟩) ?_
    refine ahg 11 rfl rfl (by kernel_rfl) (by kernel_rfl) rfl (fun hc => by
     have hq : 0 < A.length := by simpa using hc
     exact ⟨_, OpenTo.upd (t := 28) rfl (by first | exact hc | simp_all) (OpenTo.refl _), zal rfl rfl (by omega) (by omega)⟩) ?_
    refine ahg 12 rfl rfl (by kernel_rfl) (by kernel_rfl) rfl (fun hc => by
     have hq : 0 < A.length := by simpa using hc
     exact ⟨_, OpenTo.upd (t := 29) rfl (by first | exact hc | simp_all) (OpenTo.upd (t := 27) rfl (by first | exact hc | simp_all) (OpenTo.refl _)), zab (j := A.length - 1) zef zby rfl rfl (by omega) (by omega)⟩) ?_
    refine zl7 13 rfl rfl (by kernel_rfl) (by kernel_rfl) (by simp) rfl rfl (fun hc => ⟨_, OpenTo.upd (t := 30) rfl (by first | exact hc | simp_all) (OpenTo.refl _), fun M hM => by
     have hq : 0 < A.length := by simpa using hc
     subst hM; exact zbK (i := 0) (j := A.length - 1) zby rfl rfl rfl (zd8 hq) rfl rfl rfl ⟨rfl, rfl⟩
     ⟩) ?_
    refine ahg 14 rfl rfl (by kernel_rfl) (by kernel_rfl) rfl (fun hc => ⟨_, OpenTo.upd (t := 31) rfl (by first | exact hc | simp_all) (OpenTo.upd (t := 26) rfl (by first | exact hc | simp_all) (OpenTo.upd (t := 22) rfl (by first | exact hc | simp_all) (OpenTo.refl _))), zdj hca rfl rfl (WeakL.refl _) (hp _ _)⟩) ?_
    refine ahg 15 rfl rfl (by kernel_rfl) (by kernel_rfl) rfl (fun hc => ⟨_, OpenTo.upd (t := 32) rfl (by first | exact hc | simp_all) (OpenTo.refl _), zO rfl rfl⟩) ?_
    refine ahp 16 rfl rfl (by kernel_rfl) (by kernel_rfl) (zB rfl (.inr ⟨_, rfl, fun h => by simp_all⟩) (.inl rfl)) ?_
    refine ahz (by kernel_rfl) ?_
    refine zj rfl (fun h3 => ?_) (fun h4 => ?_)
    ·try simp at h3
     obtain ⟨hA0, hcx⟩ := h3
     obtain ⟨A1, y, rfl⟩ := zmj hA0
     rw [zdW] at hcx
     refine zk ?_
     refine zf ?_
     refine zh ?_
     refine zl ?_
     refine zbV (fun M => M = [.arr (.slice (some ⟨b, off, none⟩) l.length cap) 3 (((A1 ++ [y]) ++ x :: (B ++ l.drop (k + 1))).map zbR)]) [9, 13] mixed ?_
     refine ahp 0 rfl rfl (by kernel_rfl) (by kernel_rfl) (zg rfl) ?_
     refine ahp 1 rfl rfl (by kernel_rfl) (by kernel_rfl) (zg rfl) ?_
     refine ahp 2 rfl rfl (by kernel_rfl) (by kernel_rfl) (zg rfl) ?_
     refine ahp 3 rfl rfl (by kernel_rfl) (by kernel_rfl) (zg rfl) ?_
     refine ahp 4 rfl rfl (by kernel_rfl) (by kernel_rfl) (zal rfl rfl (by omega) (by omega)) ?_
     refine ahp 5 rfl rfl (by kernel_rfl) (by kernel_rfl) (zg rfl) ?_
     refine ahp 6 rfl rfl (by kernel_rfl) (by kernel_rfl) (zg rfl) ?_
     refine ahp 7 rfl rfl (by kernel_rfl) (by kernel_rfl) (zal rfl rfl (by omega) (by omega)) ?_
     refine ahp 8 rfl rfl (by kernel_rfl) (by kernel_rfl) (zab (j := (A1 ++ [y]).length - 1) zef zby rfl rfl (by omega) (by omega)) ?_
     refine ahl 9 rfl rfl (by kernel_rfl) (by kernel_rfl) (by simp) rfl (fun M hM => by subst hM; exact zbK (i := 0) (j := (A1 ++ [y]).length - 1) zby rfl rfl rfl ((zd8 hA0).trans (by rw [zdW])) rfl rfl rfl ⟨rfl, rfl⟩) ?_
     refine ahp 10 rfl rfl (by kernel_rfl) (by kernel_rfl) (zg rfl) ?_
     refine ahp 11 rfl rfl (by kernel_rfl) (by kernel_rfl) (zg rfl) ?_
     refine ahp 12 rfl rfl (by kernel_rfl) (by kernel_rfl) (zab (j := (A1 ++ [y]).length) zef zby rfl rfl rfl (by omega)) ?_
     refine ahl 13 rfl rfl (by kernel_rfl) (by kernel_rfl) (by simp) rfl (fun M hM => by subst hM; exact zbK (i := 0) (j := (A1 ++ [y]).length) zby rfl rfl rfl zf5 rfl rfl rfl ⟨rfl, rfl⟩) ?_
     refine ahp 14 rfl rfl (by kernel_rfl) (by kernel_rfl) (zab (j := (A1 ++ [y]).length) zef zby rfl rfl rfl (by omega)) ?_
     refine ahe 15 rfl (by kernel_rfl) ?_
     refine zau (zck (i := 0) (j := (A1 ++ [y]).length) (y := x) (y' := y) zby rfl rfl rfl rfl zf5 rfl rfl rfl ?_)
     refine ⟨fun _ => .inr (by simp [zbC, Region.binds]), ?_⟩
     refine ahp 16 rfl rfl (by kernel_rfl) (by kernel_rfl) (zab (j := (A1 ++ [y]).length - 1) zef zby rfl rfl (by omega) (by omega)) ?_
     refine ahe 17 rfl (by kernel_rfl) ?_
     refine zau (zck (i := 0) (j := (A1 ++ [y]).length - 1) (y := y) (y' := x) zby rfl rfl rfl rfl (by rw [List.getElem?_set_ne (by simp)]; exact (zd8 hA0).trans (by rw [zdW])) rfl rfl rfl ?_)
     refine ⟨fun _ => .inr (by simp [zbC, Region.binds]), ?_⟩
     refine ahz (by kernel_rfl) ?_
     refine zz ?_
     refine zf ?_
     refine zy ?_
     refine dmv rfl ?_
     refine dq (zal rfl rfl (by omega) (by omega)) ?_
     refine das rfl ?_
     refine dn ?_
     exact ⟨A1, y :: B, ⟨by simp at hA ⊢; omega, zn6 hB hcx⟩, by dsimp only; simp, ⟨zbx (by simp), trivial⟩, (by repeat (first | exact zo | refine zt rfl ?_ | refine zp rfl rfl ?_)), zL (by rw [zoa]; rfl)⟩
    ·try simp at h4
     have hins := zn4 (l := l) (k := k) hx hB (by intro h0; have := h4 h0; omega)
     refine zN ?_
     refine zT ?_
     refine za3 ?_
     refine zD ?_
     refine zz ?_
     refine zf ?_
     refine zy ?_
     refine dmv rfl ?_
     refine dq (zv rfl rfl (by omega) (by omega)) ?_
     refine das rfl ?_
     refine dn ?_
     refine ⟨k + 1, ?_, ?_, ⟨rfl, trivial⟩, (by repeat (first | exact zo | refine zt rfl ?_ | refine zp rfl rfl ?_)), zL (by rw [hins])⟩
     ·omega
     ·dsimp only; omega
  ·try simp at h2
   have hend : zaY c (l.take k) ++ l.drop k = zaY c l := by rw [List.take_of_length_le (by omega), zad (by omega)]; simp
   refine zN ?_
   refine zT ?_
   refine zah ?_
   refine zD ?_
   exact ⟨_, _, Ghost.sub (Sub.refl _), _, _, rfl, Weak.refl _, rfl, by rw [hend]⟩

/-- slices.pdqsortCmpFunc[benchwarmer/api.Give] -/
theorem zbh [Tracks] {l : List GiveS} {v : Value} {fid : FuncId} {caps : List HVal} {c : GiveS → GiveS → Int} {lim : Int} (hca : Callable Tryz.prog fid) (hp : ∀ x y, ConP Tryz.prog fid ([zbR x, zbR y] ++ caps) (.int .i64 (c x y))) (hl : l.length ≤ 12) : Con Tryz.prog 87 [.raw v, .int .i64 0, .int .i64 (l.length : Int), .int .i64 lim, .fn (.func fid) [] caps] [.arr v 3 (l.map zbR)] (fun x M' => x = .tup [] ∧ M' = [.arr v 3 ((zaY c l).map zbR)]) := by
 refine Con.of_body Tryz.func87 rfl Tryz.ntmps87 rfl rfl ?_
 refine zb ?_
 refine das rfl ?_
 refine dn ?_
 refine zb ?_
 refine das rfl ?_
 refine dn ?_
 refine zl ?_
 refine zZ (1 :: 2 :: 3 :: 10 :: 11 :: 12 :: 13 :: 14 :: 15 :: 16 :: 17 :: 18 :: 19 :: 20 :: 21 :: 22 :: 23 :: 24 :: 25 :: 26 :: 27 :: 28 :: 29 :: 30 :: 31 :: 32 :: 33 :: 34 :: 35 :: 36 :: 37 :: 38 :: 39 :: 40 :: 41 :: 42 :: 43 :: 44 :: 45 :: 46 :: 47 :: 48 :: 49 :: 50 :: 51 :: 52 :: 53 :: 54 :: 55 :: 56 :: 57 :: 58 :: 59 :: 60 :: 61 :: 62 :: 63 :: 64 :: 65 :: 66 :: 67 :: 68 :: 69 :: 70 :: 71 :: 72 :: 73 :: 74 :: 75 :: 76 :: 77 :: 78 :: 79 :: 80 :: 81 :: 82 :: 83 :: 84 :: 85 :: 86 :: 87 :: 88 :: 89 :: 90 :: 91 :: 92 :: 93 :: 94 :: 95 :: 96 :: 97 :: 98 :: 99 :: 100 :: 101 :: 102 :: 103 :: 104 :: 105 :: 106 :: 107 :: 108 :: 109 :: 110 :: 111 :: 112 :: 113 :: 114 :: 115 :: 116 :: 117 :: 118 :: 119 :: 120 :: 121 :: 122 :: 123 :: 124 :: 125 :: 126 :: 127 :: 128 :: 129 :: 130 :: 131 :: 132 :: 133 :: 134 :: 135 :: 136 :: 137 :: 138 :: 139 :: 140 :: 141 :: 142 :: 143 :: 144 :: 145 :: 146 :: 147 :: []) (fun (u : Unit) => [(1, .int .i64 0), (2, .int .i64 (l.length : Int))]) (fun (u : Unit) => [.arr v 3 (l.map zbR)]) (fun (u : Unit) => True) (fun (u : Unit) => 0) (()) ?_ ?_ ?_ ?_
 ·trivial
 ·exact ⟨rfl, rfl, trivial⟩
 ·exact List.Perm.refl _
 ·intro u hu
  refine zl ?_
  refine zb ?_
  refine dmv rfl ?_
  refine dmv rfl ?_
  refine dq (zal rfl rfl (by omega) (by omega)) ?_
  refine das rfl ?_
  refine dn ?_
  refine zh ?_
  refine zb ?_
  refine dmv rfl ?_
  refine dq (zda rfl rfl) ?_
  refine dn ?_
  refine zj rfl (fun h1 => ?_) (fun h1 => ?_)
  ·try simp at h1
   refine zb ?_
   refine dmv rfl ?_
   refine dmv rfl ?_
   refine dmv rfl ?_
   refine dmv rfl ?_
   refine de rfl (zi (i := 0) zu6 rfl (WeakL.refl _) rfl (zdD (l := l) hca hp (by omega) (by omega)) ?_)
   rintro _ _ ⟨rfl, rfl⟩
   refine dn ?_
   refine zn ?_
   exact zbs rfl ⟨rfl, rfl⟩
  ·exfalso
   try simp at h1
   omega

/-- slices.SortFunc[[]benchwarmer/api.Give,benchwarmer/api.Give] -/
theorem zd2 [Tracks] {l : List GiveS} {v : Value} {fid : FuncId} {caps : List HVal} {c : GiveS → GiveS → Int} (hca : Callable Tryz.prog fid) (hp : ∀ x y, ConP Tryz.prog fid ([zbR x, zbR y] ++ caps) (.int .i64 (c x y))) (hl : l.length ≤ 12) : Con Tryz.prog 53 [.raw v, .fn (.func fid) [] caps] [.arr v 3 (l.map zbR)] (fun x M' => x = .tup [] ∧ M' = [.arr v 3 ((zaY c l).map zbR)]) := by
 refine Con.of_body Tryz.func53 rfl Tryz.ntmps53 rfl rfl ?_
 refine zb ?_
 refine dmv rfl ?_
 first
 | refine de rfl (zaP (i := 0) zef rfl rfl ?_)
 | refine de rfl (zaP (i := 1) zef rfl rfl ?_)
 | refine de rfl (zaP (i := 2) zef rfl rfl ?_)
 | refine de rfl (zaP (i := 3) zef rfl rfl ?_)
 refine das rfl ?_
 refine dn ?_
 refine zy ?_
 refine dmv rfl ?_
 refine dmv rfl ?_
 refine dmv rfl ?_
 refine dq (zcy (zbX ty3 zfs rfl) (congrArg _ (zpw (by omega)))) ?_
 refine de rfl (zbP (M1 := []) (R := [_]) zr6 rfl (WeakL.refl _) (List.Perm.refl _) (ziF (x := l.length) (by omega)) ?_)
 rintro _ _ ⟨n11, rfl, rfl⟩
 refine dmv rfl ?_
 first
 | refine de rfl (zi (i := 0) zqL rfl (WeakL.refl _) rfl (zbh hca hp hl) ?_)
 | refine de rfl (zi (i := 1) zqL rfl (WeakL.refl _) rfl (zbh hca hp hl) ?_)
 | refine de rfl (zi (i := 2) zqL rfl (WeakL.refl _) rfl (zbh hca hp hl) ?_)
 | refine de rfl (zi (i := 3) zqL rfl (WeakL.refl _) rfl (zbh hca hp hl) ?_)
 rintro _ _ ⟨rfl, rfl⟩
 refine dn ?_
 exact ⟨_, _, Ghost.sub (Sub.refl _), _, _, rfl, Weak.refl _, rfl, rfl⟩

/-- benchwarmer/trade.Most$1 -/
theorem zmr [Tracks] {a b : GiveS}  : ConP Tryz.prog 54 [zbR a, zbR b] (.int .i64 (zgK a b)) := by
 refine Con.of_body Tryz.func54 rfl Tryz.ntmps54 rfl rfl ?_
 refine zb ?_
 refine dq (zaC rfl rfl) ?_
 refine dq (zaC rfl rfl) ?_
 refine das rfl ?_
 refine dn ?_
 refine zb ?_
 refine dq (zc zby rfl ty9 (by decide) rfl) ?_
 refine dq (ze ty9 rfl rfl rfl) ?_
 refine dq (zc zby rfl ty9 (by decide) rfl) ?_
 refine dq (ze ty9 rfl rfl rfl) ?_
 refine dq (zq zms rfl (WeakL.refl _) zb0) ?_
 refine das rfl ?_
 refine dn ?_
 refine zn ?_
 refine zA rfl ?_
 rfl

set_option maxHeartbeats 2000000 in
/-- benchwarmer/trade.Most -/
theorem znZ [Tracks] {m : MarketS} {o : List OwnerS} {w : List WantS} (ht : m.Teams.length ≤ 1000000) (ho : o.length ≤ 1000000) (hw : w.length ≤ 12) (hf : ∀ x ∈ w, x.For.length ≤ 1000000) : ConP Tryz.prog 14 [zbr m, zb4 o, zc8 w] (.tup [zuq (zcg m o w), .int .i64 (zar m o w)]) := by
 refine Con.of_body Tryz.func14 rfl Tryz.ntmps14 rfl rfl ?_
 refine zb ?_
 refine dq (zaC rfl rfl) ?_
 refine das rfl ?_
 refine das rfl ?_
 refine dn ?_
 refine zh ?_
 refine zb ?_
 refine dq (zV z7 rfl rfl rfl rfl) ?_
 refine dmv rfl ?_
 refine dmv rfl ?_
 refine dq (zq ca12 rfl (WeakL.refl _) (zfy ht ho (by omega) hf)) ?_
 refine das rfl ?_
 refine dn ?_
 refine zb ?_
 refine dmv rfl ?_
 refine dq (zaM rfl rfl) ?_
 refine dn ?_
 refine zj rfl (fun h1 => ?_) (fun h2 => ?_)
 ·try simp at h1
  refine zb ?_
  refine dmv rfl ?_
  refine das rfl ?_
  refine das rfl ?_
  refine dn ?_
  refine zn ?_
  first
  | (refine ⟨_, [], Ghost.clear, _, _, rfl, zcN ?_ (Weak.refl _), rfl, rfl⟩
     rw [zcg, if_neg]
     ·exact zcC 3
     ·assumption)
  | (refine zbW (Ghost.fa 6 (i := 0) rfl rfl) rfl ⟨?_, rfl⟩
     rw [zcg, if_pos hchk, hchk]
     rfl)
 ·try simp at h2
  refine zk ?_
  refine zf ?_
  refine zh ?_
  have hchk : zar m o w = 0 := by first | assumption | simp_all
  obtain ⟨_, hok⟩ := zeH hchk
  have hrl := zl5 hok (by omega)
  have hrt := zrS hok (by omega)
  have hgl := zhw (o := o) (w := w) (l := (zaO (zbE w))) (i := 0)
  refine zb ?_
  refine dmv rfl ?_
  refine dq (zF zbj rfl) ?_
  refine dq (zai rfl rfl) ?_
  refine dn ?_
  refine zj rfl (fun h3 => ?_) (fun h3 => ?_)
  ·exfalso
   try simp at h3
   omega
  ·try simp at h3
   refine zk ?_
   refine zf ?_
   refine zb ?_
   refine dq (zaG (cs := [_]) zeD pl90 rfl) ?_
   refine de rfl (zpE rfl rfl fun hb => ?_)
   refine zrI (M' := [.cells hb [.raw (.slice none 0 0)]]) rfl ?_
   refine das rfl ?_
   refine dn ?_
   refine zI (Ghost.arr_nil 1) ?_
   refine zI (Ghost.perm (List.Perm.swap _ _ _)) ?_
   refine zh ?_
   refine zb ?_
   refine dmv rfl ?_
   refine dq (zF zbj rfl) ?_
   refine dmv rfl ?_
   refine dn ?_
   refine zl ?_
   refine zaS [11, 12, 14, 15, 33, 34, 35, 36, 37, 38, 39, 40, 41, 42, 43, 44, 45, 46, 47, 48, 49, 50, 51, 52, 53, 54, 55, 56, 57, 58, 59, 60, 61, 62, 63, 64] (fun (k : Nat) (cv : Value) => [(33, .int .i64 k)]) (fun (k : Nat) (cv : Value) => [.cells hb [.raw cv], .arr cv 1 ((zoZ w (w.take k)).map eNs)]) (fun (k : Nat) (cv : Value) => k ≤ w.length ∧ (True)) (fun (k : Nat) (cv : Value) => w.length - k) (0) (.slice none 0 0) ?_ ?_ ?_ ?_
   ·exact ⟨Nat.zero_le _, trivial⟩
   ·exact ⟨rfl, trivial⟩
   ·exact zL rfl
   ·intro k cv hinv
    obtain ⟨hk, -⟩ := hinv
    refine zb ?_
    refine dq (zO rfl rfl) ?_
    refine dn ?_
    refine zh ?_
    refine zj rfl (fun h4 => ?_) (fun h5 => ?_)
    ·try simp at h4
     obtain ⟨x, hx⟩ : ∃ x, w[k]? = some x := ⟨_, List.getElem?_eq_getElem h4⟩
     have hdx := zQ hx
     have hfx := hok.few x (List.mem_of_getElem? hx)
     refine zk ?_
     refine zf ?_
     refine zh ?_
     refine zl ?_
     refine zb ?_
     refine dq (zJ zbj zaj rfl rfl rfl (by first | assumption | simp_all)) ?_
     refine dq (zV zaj rfl rfl rfl rfl) ?_
     refine de rfl (zX zaj rfl fun b11 => ?_)
     refine de0 (zag zaj rfl rfl rfl rfl rfl ?_)
     refine dn ?_
     refine zI (Ghost.fc0 11 rfl) ?_
     refine zb ?_
     refine das rfl ?_
     refine dn ?_
     refine zI (Ghost.arr_nil 1) ?_
     refine zh ?_
     refine zb ?_
     refine dq ((by first | exact zc zaj rfl zG (by decide) rfl | exact zw zaj rfl zG (by decide) rfl)) ?_
     refine dq (ze zG rfl rfl rfl) ?_
     refine dq (zF zG rfl) ?_
     refine dmv rfl ?_
     refine dn ?_
     refine zl ?_
     refine zaS [12, 14, 15, 40, 41, 42, 43, 44, 45, 46, 47, 48, 49, 50, 51, 52, 53] (fun (j : Nat) (lv : Value) => [(40, .int .i64 j), (12, .raw lv)]) (fun (j : Nat) (lv : Value) => [.arr lv 1 ((ze0 w (x.For.take j)).map fun k => HVal.int .i64 ((k : Nat) : Int)), .cells hb [.raw cv], .arr cv 1 ((zoZ w (w.take k)).map eNs)]) (fun (j : Nat) (lv : Value) => j ≤ x.For.length ∧ (True)) (fun (j : Nat) (lv : Value) => x.For.length - j) (0) (.slice none 0 0) ?_ ?_ ?_ ?_
     ·exact ⟨Nat.zero_le _, trivial⟩
     ·exact ⟨rfl, rfl, trivial⟩
     ·exact zL rfl
     ·intro j lv hinv
      obtain ⟨hj, -⟩ := hinv
      refine zb ?_
      refine dq (zO rfl rfl) ?_
      refine dn ?_
      refine zh ?_
      refine zj rfl (fun h6 => ?_) (fun h7 => ?_)
      ·try simp at h6
       obtain ⟨y, hy⟩ : ∃ y, x.For[j]? = some y := ⟨_, List.getElem?_eq_getElem h6⟩
       have hdy := zQ hy
       have hcl9 := zm6 (w := w) (F := x.For.take j)
       rw [List.length_take] at hcl9
       refine zk ?_
       refine zf ?_
       refine zh ?_
       refine zl ?_
       refine zb ?_
       refine dq (zJ zG ty9 rfl rfl rfl (by first | assumption | simp_all)) ?_
       refine dq (ze ty9 rfl rfl rfl) ?_
       refine das rfl ?_
       refine dn ?_
       refine zb ?_
       refine dmv rfl ?_
       refine dmv rfl ?_
       refine dq (zq ca51 rfl (WeakL.refl _) (zi1 (w := w) (s := y) (by omega) hok.srt)) ?_
       refine das rfl ?_
       refine dn ?_
       refine zb ?_
       refine dmv rfl ?_
       refine dq (zbJ rfl rfl) ?_
       refine dn ?_
       refine zj rfl (fun h8 => ?_) (fun h9 => ?_)
       ·try simp at h8
        refine zy ?_
        refine dmv rfl ?_
        refine dmv rfl ?_
        refine dq (zK (hs := [_]) zU ty3 rfl rfl (by decide) (by decide) rfl) ?_
        refine de rfl (zam (i := 0) zU ty3 rfl rfl rfl rfl rfl (by simp [zaD, zm]) (by simp; omega) fun v52 => ?_)
        refine das rfl ?_
        refine dn ?_
        refine zz ?_
        refine zf ?_
        refine zy ?_
        refine dq (zv rfl rfl (by omega) (by omega)) ?_
        refine dmv rfl ?_
        refine dn ?_
        have h0f : 0 ≤ zba w y := by simp_all
        exact ⟨j + 1, v52, ⟨by omega, trivial⟩, by dsimp only; omega, ⟨rfl, rfl, trivial⟩, (by repeat (first | exact zo | refine zt rfl ?_ | refine zp rfl rfl ?_)), zL (by dsimp only; rw [zll hy, if_pos h0f, List.map_append, List.map_cons, Int.toNat_of_nonneg h0f]; rfl)⟩
       ·try simp at h9
        refine zk ?_
        refine zz ?_
        refine zf ?_
        refine zy ?_
        refine dq (zv rfl rfl (by omega) (by omega)) ?_
        refine dmv rfl ?_
        refine dn ?_
        have h0f : ¬ 0 ≤ zba w y := by simp_all
        exact ⟨j + 1, lv, ⟨by omega, trivial⟩, by dsimp only; omega, ⟨rfl, rfl, trivial⟩, (by repeat (first | exact zo | refine zt rfl ?_ | refine zp rfl rfl ?_)), zL (by dsimp only; rw [zll hy, if_neg h0f, List.append_nil])⟩
      ·try simp at h7
       have hnj : x.For.length ≤ j := by omega
       obtain rfl : j = x.For.length := by omega
       refine zN ?_
       refine zT ?_
       refine za3 ?_
       refine zD ?_
       refine zf ?_
       rw [List.take_length]
       refine zI (Ghost.fa 12 (i := 0) rfl rfl) ?_
       refine zy ?_
       refine dmv rfl ?_
       refine dmv rfl ?_
       refine dq ((by first | exact zaq rfl | exact zW rfl)) ?_
       refine dq (zw zeD rfl zbm (by decide) rfl) ?_
       first
       | refine de rfl (zP (i := 0) zbm rfl rfl (.inl ⟨rfl, rfl⟩) ?_)
       | refine de rfl (zP (i := 1) zbm rfl rfl (.inl ⟨rfl, rfl⟩) ?_)
       | refine de rfl (zP (i := 2) zbm rfl rfl (.inl ⟨rfl, rfl⟩) ?_)
       | refine de rfl (zP (i := 3) zbm rfl rfl (.inl ⟨rfl, rfl⟩) ?_)
       refine dmv rfl ?_
       refine dq (zK (hs := [_]) zbm zU rfl rfl (by decide) (by decide) rfl) ?_
       refine de rfl (zam (i := 1) zbm zU rfl rfl rfl rfl rfl (by simp [zaD, zm]) (by simp; omega) fun v61 => ?_)
       refine dq ((by first | exact zaq rfl | exact zW rfl)) ?_
       refine dq (zw zeD rfl zbm (by decide) rfl) ?_
       first
       | refine de0 (zx (i := 0) zbm rfl rfl rfl rfl rfl (Nat.le_of_ble_eq_true rfl) ?_)
       | refine de0 (zx (i := 1) zbm rfl rfl rfl rfl rfl (Nat.le_of_ble_eq_true rfl) ?_)
       | refine de0 (zx (i := 2) zbm rfl rfl rfl rfl rfl (Nat.le_of_ble_eq_true rfl) ?_)
       | refine de0 (zx (i := 3) zbm rfl rfl rfl rfl rfl (Nat.le_of_ble_eq_true rfl) ?_)
       refine dn ?_
       refine zz ?_
       refine zf ?_
       refine zy ?_
       refine dq (zv rfl rfl (by omega) (by omega)) ?_
       refine dmv rfl ?_
       refine dn ?_
       exact ⟨k + 1, v61, ⟨by omega, trivial⟩, by dsimp only; omega, ⟨rfl, trivial⟩, (by repeat (first | exact zo | refine zt rfl ?_ | refine zp rfl rfl ?_)), zL (by dsimp only; rw [zaN hx, zru, List.map_append]; rfl)⟩
    ·try simp at h5
     have hnk : w.length ≤ k := by omega
     obtain rfl : k = w.length := by omega
     refine zN ?_
     refine zT ?_
     refine za3 ?_
     refine zD ?_
     refine zf ?_
     rw [List.take_length]
     refine zI (Ghost.fcell (i := 1) (k := 0) (j := 0) rfl rfl rfl) ?_
     refine zI (Ghost.fc0 9 rfl) ?_
     refine zb ?_
     refine das rfl ?_
     refine dn ?_
     refine zI (Ghost.arr_nil 3) ?_
     refine zh ?_
     refine zb ?_
     refine dmv rfl ?_
     refine dq (zq ca52 rfl (WeakL.refl _) (zh8 (can := zbE w) (zg5 hok (by omega)) (zr7 hok))) ?_
     refine dq (zF zU rfl) ?_
     refine dmv rfl ?_
     refine dn ?_
     refine zl ?_
     refine zaS [16, 17, 18, 68, 69, 70, 71, 72, 73, 74, 75, 76, 77, 78, 79, 80, 81, 82, 83, 84, 85, 86, 87, 88, 89, 90, 91, 92, 93, 94, 95, 96, 97, 98, 99] (fun (q : Nat) (gv : Value) => [(68, .int .i64 q), (16, .raw gv)]) (fun (q : Nat) (gv : Value) => [.arr gv 3 ((zc4 o w 0 ((zaO (zbE w)).take q)).map zbR)]) (fun (q : Nat) (gv : Value) => q ≤ (zaO (zbE w)).length ∧ (True)) (fun (q : Nat) (gv : Value) => (zaO (zbE w)).length - q) (0) (.slice none 0 0) ?_ ?_ ?_ ?_
     ·exact ⟨Nat.zero_le _, trivial⟩
     ·exact ⟨rfl, rfl, trivial⟩
     ·exact zL rfl
     ·intro q gv hinv
      obtain ⟨hq, -⟩ := hinv
      refine zb ?_
      refine dq (zO rfl rfl) ?_
      refine dn ?_
      refine zh ?_
      refine zj rfl (fun h10 => ?_) (fun h11 => ?_)
      ·try simp at h10
       obtain ⟨z, hz⟩ : ∃ z, (zaO (zbE w))[q]? = some z := ⟨_, List.getElem?_eq_getElem h10⟩
       have hdz := zQ hz
       have hzl := hrt z (List.mem_of_getElem? hz)
       obtain ⟨wz, hwz⟩ : ∃ x, w[z]? = some x := ⟨_, List.getElem?_eq_getElem hzl⟩
       obtain ⟨wq, hwq⟩ : ∃ x, w[q]? = some x := ⟨_, List.getElem?_eq_getElem (by omega)⟩
       have ez : zbG w z = wz.Player := by rw [zbG, List.getD_eq_getElem?_getD, hwz]; rfl
       have eq : zbG w q = wq.Player := by rw [zbG, List.getD_eq_getElem?_getD, hwq]; rfl
       have hgq := zhw (o := o) (w := w) (l := (zaO (zbE w)).take q) (i := 0)
       rw [List.length_take] at hgq
       refine zk ?_
       refine zf ?_
       refine zh ?_
       refine zl ?_
       refine zb ?_
       refine dmv rfl ?_
       refine dq (zJ zU ty3 rfl rfl rfl (by first | assumption | simp_all)) ?_
       refine dq (ze ty3 rfl rfl rfl) ?_
       refine das rfl ?_
       refine das rfl ?_
       refine dn ?_
       refine zb ?_
       refine dmv rfl ?_
       refine dmv rfl ?_
       refine dq (zaM rfl rfl) ?_
       refine dn ?_
       refine zj rfl (fun h12 => ?_) (fun h13 => ?_)
       ·try simp at h12
        refine zbV (fun _ => True) [] mixed ?_
        refine ahp 0 rfl rfl (by kernel_rfl) (by kernel_rfl) (zg rfl) ?_
        refine ahp 1 rfl rfl (by kernel_rfl) (by kernel_rfl) (zg rfl) ?_
        refine ahp 2 rfl rfl (by kernel_rfl) (by kernel_rfl) (zg rfl) ?_
        refine ahp 3 rfl rfl (by kernel_rfl) (by kernel_rfl) (zJ (j := z) (a := wz) zbj zaj rfl rfl rfl hwz) ?_
        refine ahp 4 rfl rfl (by kernel_rfl) (by kernel_rfl) ((by first | exact zc zaj rfl ty9 (by decide) rfl | exact zw zaj rfl ty9 (by decide) rfl)) ?_
        refine ahp 5 rfl rfl (by kernel_rfl) (by kernel_rfl) (ze ty9 rfl rfl rfl) ?_
        refine ahp 6 rfl rfl (by kernel_rfl) (by kernel_rfl) (zg rfl) ?_
        refine ahp 7 rfl rfl (by kernel_rfl) (by kernel_rfl) (zg rfl) ?_
        refine ahp 8 rfl rfl (by kernel_rfl) (by kernel_rfl) (zg rfl) ?_
        refine ahp 9 rfl rfl (by kernel_rfl) (by kernel_rfl) (zJ (j := z) (a := wz) zbj zaj rfl rfl rfl hwz) ?_
        refine ahp 10 rfl rfl (by kernel_rfl) (by kernel_rfl) ((by first | exact zc zaj rfl ty9 (by decide) rfl | exact zw zaj rfl ty9 (by decide) rfl)) ?_
        refine ahp 11 rfl rfl (by kernel_rfl) (by kernel_rfl) (ze ty9 rfl rfl rfl) ?_
        refine ahp 12 rfl rfl (by kernel_rfl) (by kernel_rfl) (zq zl0 rfl (WeakL.refl _) (zdh ho)) ?_
        refine ahp 13 rfl rfl (by kernel_rfl) (by kernel_rfl) (zg rfl) ?_
        refine ahp 14 rfl rfl (by kernel_rfl) (by kernel_rfl) (zg rfl) ?_
        refine ahp 15 rfl rfl (by kernel_rfl) (by kernel_rfl) (zg rfl) ?_
        refine ahp 16 rfl rfl (by kernel_rfl) (by kernel_rfl) (zJ (j := q) (a := wq) zbj zaj rfl rfl rfl hwq) ?_
        refine ahp 17 rfl rfl (by kernel_rfl) (by kernel_rfl) ((by first | exact zc zaj rfl ty9 (by decide) rfl | exact zw zaj rfl ty9 (by decide) rfl)) ?_
        refine ahp 18 rfl rfl (by kernel_rfl) (by kernel_rfl) (ze ty9 rfl rfl rfl) ?_
        refine ahp 19 rfl rfl (by kernel_rfl) (by kernel_rfl) (zq zl0 rfl (WeakL.refl _) (zdh ho)) ?_
        refine ahp 20 rfl rfl (by kernel_rfl) (by kernel_rfl) (zaG (cs := [_, _, _]) zby pl52 rfl) ?_
        refine ahp 21 rfl rfl (by kernel_rfl) (by kernel_rfl) (zK (hs := [_]) zef zby rfl rfl (by decide) (by decide) rfl) ?_
        refine ahe 22 rfl (by kernel_rfl) ?_
        refine zH rfl (zam (i := 0) zef zby rfl rfl rfl rfl rfl (by simp [zaD, zm]) (by simp; omega) fun v98 => ?_)
        refine ⟨fun _ => .inl trivial, ?_⟩
        refine ahp 23 rfl rfl (by kernel_rfl) (by kernel_rfl) (zaW rfl) ?_
        refine ahz (by kernel_rfl) ?_
        refine zz ?_
        refine zf ?_
        refine zy ?_
        refine dq (zv rfl rfl (by omega) (by omega)) ?_
        refine dmv rfl ?_
        refine dn ?_
        exact ⟨q + 1, v98, ⟨by omega, trivial⟩, by dsimp only; omega, ⟨rfl, rfl, trivial⟩, (by repeat (first | exact zo | refine zt rfl ?_ | refine zp rfl rfl ?_)), zL (by dsimp only; rw [znb hz, if_neg (by omega), ez, eq, List.map_append]; rfl)⟩
       ·try simp at h13
        refine zk ?_
        refine zz ?_
        refine zf ?_
        refine zy ?_
        refine dq (zv rfl rfl (by omega) (by omega)) ?_
        refine dmv rfl ?_
        refine dn ?_
        exact ⟨q + 1, gv, ⟨by omega, trivial⟩, by dsimp only; omega, ⟨rfl, rfl, trivial⟩, (by repeat (first | exact zo | refine zt rfl ?_ | refine zp rfl rfl ?_)), zL (by dsimp only; rw [znb hz, if_pos (by omega), List.append_nil])⟩
      ·try simp at h11
       have hnq : (zaO (zbE w)).length ≤ q := by omega
       obtain rfl : q = (zaO (zbE w)).length := by omega
       refine zN ?_
       refine zT ?_
       refine za3 ?_
       refine zD ?_
       refine zf ?_
       rw [List.take_length]
       refine zb ?_
       refine dmv rfl ?_
       refine de rfl (zi (i := 0) ca53 rfl (WeakL.refl _) rfl (zd2 (l := zc4 o w 0 (zaO (zbE w))) (c := zgK) ca54 (fun _ _ => zmr) (by omega)) ?_)
       rintro _ _ ⟨rfl, rfl⟩
       refine dn ?_
       refine zb ?_
       refine dmv rfl ?_
       refine das rfl ?_
       refine das rfl ?_
       refine dn ?_
       refine zn ?_
       first
       | (refine ⟨_, [], Ghost.clear, _, _, rfl, zcN ?_ (Weak.refl _), rfl, rfl⟩
          rw [zcg, if_neg]
          ·exact zcC 3
          ·assumption)
       | (refine zbW (Ghost.fa 6 (i := 0) rfl rfl) rfl ⟨?_, rfl⟩
          rw [zcg, if_pos hchk, hchk]
          rfl)
end
end Go.Proofs.YtcihcbnjfclkbaaGreatDoor
namespace Go.HL
section
open Op
def zeX : List WantS → List Bool → List (Str × List Str)
 | x :: t, b :: g => if b = true then zeX t g else (x.Player, x.For) :: zeX t g
 | _, _ => []
theorem zjk : ∀ {w : List WantS} {g : List Bool} {s : Str}, alk s (zeX w g) ≠ none → s ∈ w.map (·.Player)
 | [], _, s, h => by cases ‹List Bool› <;> exact absurd rfl h
 | x :: t, [], s, h => absurd rfl h
 | x :: t, b :: g, s, h => by
   rw [zeX] at h
   split at h
   ·exact List.mem_cons_of_mem _ (zjk h)
   ·rw [alk] at h
    split at h
    ·rename_i e; rw [e]; simp
    ·exact List.mem_cons_of_mem _ (zjk h)
theorem zlO : ∀ {w : List WantS} {g : List Bool} {i : Nat} {x : WantS}, (w.map (·.Player)).Nodup → g.length = w.length → w[i]? = some x → alk x.Player (zeX w g) = if g.getD i false = true then none else some x.For
 | [], _, i, x, _, _, h => by simp at h
 | y :: t, [], i, x, _, hl, _ => by simp at hl
 | y :: t, b :: g, 0, x, hn, hl, h => by
   simp at h; subst h
   have hn' := List.nodup_cons.1 (show (y.Player :: t.map (·.Player)).Nodup from hn)
   rw [zeX]
   show _ = if b = true then none else _
   split
   ·refine Classical.byContradiction fun hq => hn'.1 (zjk hq)
   ·rw [alk, if_pos rfl]
 | y :: t, b :: g, i + 1, x, hn, hl, h => by
   have hn' := List.nodup_cons.1 (show (y.Player :: t.map (·.Player)).Nodup from hn)
   have hx : t[i]? = some x := by simpa using h
   have ih := zlO (w := t) (g := g) hn'.2 (by simpa using hl) hx
   have hne : ¬ x.Player = y.Player := fun e => hn'.1 (by rw [← e]; exact List.mem_map.2 ⟨x, List.mem_of_getElem? hx, rfl⟩)
   rw [zeX]
   show _ = if g.getD i false = true then none else _
   split
   ·exact ih
   ·rw [alk, if_neg hne]; exact ih
theorem zum {w : List WantS} {g : List Bool} {s : Str} (h : s ∉ w.map (·.Player)) : alk s (zeX w g) = none := Classical.byContradiction fun hq => h (zjk hq)
/-- To whom one points, by name. -/
def zmf (L : List (Str × List Str)) (s : Str) : Str := (((alk s L).getD []).find? fun t => (alk t L).isSome).getD []
def nmI (w : List WantS) (k : Int) : Str := if k < 0 then [] else nameK w k.toNat
where nameK (w : List WantS) (k : Nat) : Str := (w.getD k zcm).Player
theorem zl6 {w : List WantS} {g : List Bool} (hs : SortedS (w.map (·.Player))) (hl : g.length = w.length) : ∀ {F : List Str}, ((F.find? fun t => (alk t (zeX w g)).isSome).getD []) = nmI w (zdw w g F)
 | [] => rfl
 | s :: t => by
   have hn : (w.map (·.Player)).Nodup := sorted_nd hs
   rw [zdw, List.find?_cons]
   have ih := zl6 (F := t) hs hl
   by_cases hf : 0 ≤ zba w s
   ·obtain ⟨x, hx, he⟩ := (zcW hs).1 (show zba w s = ((zba w s).toNat : Int) by omega)
    have ha := zlO (g := g) hn hl hx
    rw [he] at ha
    rw [ha]
    by_cases hg : g.getD (zba w s).toNat false = true
    ·rw [if_pos hg, if_neg (fun h => by rw [h.2] at hg; cases hg)]; exact ih
    ·rw [if_neg hg, if_pos ⟨hf, by simpa using hg⟩]
     show s = nmI w (zba w s)
     rw [nmI, if_neg (by omega), nmI.nameK, List.getD_eq_getElem?_getD, hx]
     exact he.symm
   ·rw [zum (zp5.1 (by omega)), if_neg (fun h => hf h.1)]; exact ih
where
 sorted_nd {l : List Str} (h : SortedS l) : l.Nodup := h.imp fun {a b} hab e => by rw [e, zas] at hab; cases hab
theorem zsu {w : List WantS} (hs : SortedS (w.map (·.Player))) : (w.map (·.Player)).Nodup := zl6.sorted_nd hs
theorem zua {w : List WantS} {g : List Bool} (hs : SortedS (w.map (·.Player))) (hl : g.length = w.length) {i : Nat} {x : WantS} (hx : w[i]? = some x) : zmf (zeX w g) x.Player = nmI w (zbL w g i) := by
 unfold zmf
 rw [zlO (zsu hs) hl hx]
 unfold zbL
 have hd : w.getD i zcm = x := by rw [List.getD_eq_getElem?_getD, hx]; rfl
 by_cases hg : g.getD i false = true
 ·rw [if_pos hg, if_pos hg]; rfl
 ·rw [if_neg hg, if_neg hg, hd]; exact zl6 hs hl
theorem zuo {w : List WantS} (hne : ∀ x ∈ w, x.Player ≠ []) {k : Int} (hk : k < w.length) : nmI w k = [] ↔ k < 0 := by
 unfold nmI
 split
 ·rename_i h; simp [h]
 ·rename_i h
  constructor
  ·intro e
   obtain ⟨x, hx⟩ : ∃ x, w[k.toNat]? = some x := ⟨_, List.getElem?_eq_getElem (by omega)⟩
   unfold nmI.nameK at e
   rw [List.getD_eq_getElem?_getD, hx] at e
   exact absurd e (hne x (List.mem_of_getElem? hx))
  ·exact fun q => absurd q h
theorem zpO {w : List WantS} (hs : SortedS (w.map (·.Player))) {a b : Nat} (ha : a < w.length) (hb : b < w.length) (h : nmI w (a : Int) = nmI w (b : Int)) : a = b := by
 unfold nmI nmI.nameK at h
 rw [if_neg (by omega), if_neg (by omega)] at h
 simp only [Int.toNat_natCast] at h
 obtain ⟨x, hx⟩ : ∃ x, w[a]? = some x := ⟨_, List.getElem?_eq_getElem ha⟩
 obtain ⟨y, hy⟩ : ∃ x, w[b]? = some x := ⟨_, List.getElem?_eq_getElem hb⟩
 rw [List.getD_eq_getElem?_getD, List.getD_eq_getElem?_getD, hx, hy] at h
 have h1 := (zcW hs (s := x.Player)).2 ⟨x, hx, rfl⟩
 have h2 := (zcW hs (s := x.Player)).2 ⟨y, hy, h.symm⟩
 omega
end
section
open Op
structure PassI (w : List WantS) (h h2 : List Bool) (k : Nat) (sm : Bool) : Prop where
 len : h2.length = w.length
 core : ∀ G, CoreG w h G ↔ CoreG w h2 G
 eq : sm = false → h2 = h
 cl : sm = false → ∀ i, i < k → i < w.length → h.getD i false = false → 0 ≤ zbL w h i
 lt : sm = true → zbc h2 < zbc h
 le : zbc h2 ≤ zbc h
theorem PassI.start {w : List WantS} {h : List Bool} (hl : h.length = w.length) : PassI w h h 0 false := ⟨hl, fun _ => Iff.rfl, fun _ => rfl, fun _ i hi => by omega, fun e => (by cases e), Nat.le_refl _⟩
theorem PassI.set {w : List WantS} {h h2 : List Bool} {k : Nat} {sm : Bool} (d : PassI w h h2 k sm) (hk : k < w.length) (hb : h2.getD k false = false) (hp : zbL w h2 k < 0) : PassI w h (h2.set k true) (k + 1) true := by
 have hl := zgi hb (by rw [d.len]; exact hk)
 have hle := d.le
 refine ⟨by simpa using d.len, fun G => (d.core G).trans (ziO (fun i hi => ?_) fun i h1 h3 H s1 s2 => ?_), fun e => (by cases e), fun e => (by cases e), fun _ => by omega, by omega⟩
 ·rw [getD_setG]; split
  ·rfl
  ·exact hi
 ·rw [getD_setG] at h3
  split at h3
  ·rename_i e; rw [← e.1]; exact zmm hk hb hp H s1 s2
  ·rw [h1] at h3; cases h3
theorem PassI.done {w : List WantS} {h h2 : List Bool} (hl : h.length = w.length) (d : PassI w h h2 w.length false) : CoreG w h h ∧ h2 = h :=
 ⟨zgZ hl fun i hi hg => d.cl rfl i hi hi hg, d.eq rfl⟩
/-- The names of those on a way, and the next one. -/
def NameI (w : List WantS) (h : List Bool) (i : Nat) (R : List Str) (s : Str) : Prop :=
 (h.getD i false = true ∧ R = [nmI w (i : Int)] ∧ s = []) ∨ (h.getD i false = false ∧ ∃ L kk, WalkI (za6 w h) h i L kk ∧ R = L.map (nmI w) ∧ s = nmI w kk)
section
variable {w : List WantS} {h : List Bool} {i : Nat} {R : List Str} {s : Str}
theorem zs9 {x : WantS} (hx : w[i]? = some x) : nmI w (i : Int) = x.Player := by
 unfold nmI nmI.nameK
 rw [if_neg (by omega), Int.toNat_natCast, List.getD_eq_getElem?_getD, hx]; rfl
theorem zkt (hs : SortedS (w.map (·.Player))) (hl : h.length = w.length) (hi : i < w.length) : zmf (zeX w h) (nmI w (i : Int)) = nmI w (zbL w h i) := by
 obtain ⟨x, hx⟩ : ∃ x, w[i]? = some x := ⟨_, List.getElem?_eq_getElem hi⟩
 rw [zs9 hx]; exact zua hs hl hx
theorem zik (hi : i < w.length) : (za6 w h).getD i 0 = zbL w h i := by rw [List.getD_eq_getElem?_getD, zf4 hi]; rfl
theorem NameI.start (hs : SortedS (w.map (·.Player))) (hl : h.length = w.length) (hc : CoreG w h h) {x : WantS} (hx : w[i]? = some x) : NameI w h i [x.Player] (zmf (zeX w h) x.Player) := by
 have hi := zC hx
 rw [← zs9 hx, zkt hs hl hi]
 cases hg : h.getD i false with
 | true => left; exact ⟨hg, rfl, by unfold zbL; rw [if_pos hg]; rfl⟩
 | false =>
   right
   refine ⟨hg, [(i : Int)], _, WalkI.start (zdo hs hc) (by rw [zbk]; exact hi) hg, rfl, ?_⟩
   rw [zik hi]
theorem zjb (hs : SortedS (w.map (·.Player))) {to : List Int} {g : List Bool} {L : List Int} {kk : Int} (hto : to.length = w.length) (hW : WalkI to g i L kk) : (L.map (nmI w)).contains (nmI w kk) = L.contains kk := by
 obtain ⟨b, rfl, b2, _⟩ := hW.at'
 rw [Bool.eq_iff_iff, List.contains_iff_mem, List.contains_iff_mem, List.mem_map]
 constructor
 ·rintro ⟨z, hz, e⟩
  obtain ⟨a, rfl, a2, _⟩ := hW.all z hz
  have := zpO hs (by omega) (by omega) e
  rw [← this]; exact hz
 ·exact fun hz => ⟨_, hz, rfl⟩
theorem NameI.step (hs : SortedS (w.map (·.Player))) (hl : h.length = w.length) (hc : CoreG w h h) (hn : NameI w h i R s) (h1 : s ≠ []) (h2 : R.contains s = false) : NameI w h i (R ++ [s]) (zmf (zeX w h) s) := by
 rcases hn with ⟨_, _, rfl⟩ | ⟨hg, L, kk, hW, rfl, rfl⟩
 ·exact absurd rfl h1
 ·rw [zjb hs zbk hW] at h2
  obtain ⟨b, e, b2, b3⟩ := hW.at'
  rw [zbk] at b2
  refine .inr ⟨hg, _, _, hW.step (zdo hs hc) h2, by simp, ?_⟩
  rw [e, zkt hs hl b2, Int.toNat_natCast, zik b2]
theorem NameI.len (hn : NameI w h i R s) (hi : i < w.length) : R.length ≤ w.length := by
 rcases hn with ⟨_, rfl, _⟩ | ⟨_, L, kk, hW, rfl, _⟩
 ·show 1 ≤ _; omega
 ·have := hW.len
  rw [zbk] at this
  simpa using this
theorem NameI.ne (hn : NameI w h i R s) : R ≠ [] := by
 rcases hn with ⟨_, rfl, _⟩ | ⟨_, L, kk, hW, rfl, _⟩
 ·simp
 ·exact fun e => hW.ne (List.map_eq_nil_iff.1 e)
/-- At the end of the way: it is a ring just where the last one points to the first. -/
theorem NameI.done (hs : SortedS (w.map (·.Player))) (hl : h.length = w.length) (hc : CoreG w h h) (hne : ∀ x ∈ w, x.Player ≠ []) (hn : NameI w h i R s) (hi : i < w.length) (hx : s = [] ∨ R.contains s = true) :
 (h.getD i false = false → (zmf (zeX w h) (R.getLastD []) = nmI w (i : Int) ↔ zdS (za6 w h) w.length i = true)) ∧ (h.getD i false = false → R = (zbS (za6 w h) w.length i).map (nmI w)) := by
 rcases hn with ⟨hg, _, _⟩ | ⟨hg, L, kk, hW, rfl, rfl⟩
 ·exact ⟨fun e => (by rw [hg] at e; cases e), fun e => (by rw [hg] at e; cases e)⟩
 ·have hcn : L.contains kk = true := by
   obtain ⟨b, e, b2, _⟩ := hW.at'
   rw [zbk] at b2
   rcases hx with q | q
   ·rw [e, zuo hne (by omega)] at q; omega
   ·rwa [zjb hs zbk hW] at q
  have hd := hW.done hcn
  rw [zbk] at hd
  obtain ⟨b, l1, l2, l3, l4⟩ := hW.last
  rw [zbk] at l3
  refine ⟨fun _ => ?_, fun _ => by rw [hd]⟩
  have e1 : (L.map (nmI w)).getLastD [] = nmI w (b : Int) := by
   obtain ⟨A, z, e⟩ : ∃ A z, L = A ++ [z] := ⟨L.dropLast, L.getLast hW.ne, (List.dropLast_concat_getLast hW.ne).symm⟩
   subst e
   simp at l2
   simp [l2]
  rw [e1, zkt hs hl l3]
  unfold zdS
  rw [hd, l2, Int.toNat_natCast, zik l3, beq_iff_eq]
  obtain ⟨k, k1, k2, _⟩ := (zdo hs hc).nx b (by rw [zbk]; exact l3) l4
  rw [zf4 l3] at k1
  simp at k1
  rw [zbk] at k2
  rw [k1]
  constructor
  ·intro e; rw [zpO hs k2 hi e]
  ·intro e; rw [show k = i by omega]
end
end
section
open Op
variable {w : List WantS} {h : List Bool} {k : Nat} {R : List Str} {s : Str} {x : WantS} {out : List (List Str)}
end
section
open Go
section
variable {P : Program} {e : Env} {dst : Option Tmp} {ty : TypeId} {pos : String} {af : Array Edge} {g : Option (Nat × Bool)} {M : List MObj} {K : HVal → List MObj → Prop}
end
end
end Go.HL
namespace Go.Proofs.YtcihcbnjfclkbaaGreatDoor
set_option maxRecDepth 100000
set_option linter.unusedVariables false
set_option linter.unusedSimpArgs false
section
open Go.HL
set_option linter.unusedSimpArgs false
end
end Go.Proofs.YtcihcbnjfclkbaaGreatDoor
namespace Go.HL
section
open Op
end
section
open Op
end
section
open Go
section
variable {P : Program} {e : Env} {dst : Option Tmp} {ty : TypeId} {pos : String} {af : Array Edge} {g : Option (Nat × Bool)}
end
end
end Go.HL
namespace Go.Proofs.YtcihcbnjfclkbaaGreatDoor
set_option maxRecDepth 100000
set_option linter.unusedVariables false
set_option linter.unusedSimpArgs false
section
open Go.HL
set_option linter.unusedSimpArgs false
end
end Go.Proofs.YtcihcbnjfclkbaaGreatDoor
namespace Go.HL
section

end
section
def zkD (a b : Of2) : Int := orI [za4 a.1 b.1, za4 a.2 b.2]
theorem ztx (a b : Of2) : zkD a b = if za4 a.1 b.1 ≠ 0 then za4 a.1 b.1 else za4 a.2 b.2 := by unfold zkD; rw [orI2]
theorem zrj (a b : Of2) : zkD a b = -zkD b a := by
 unfold zkD
 rw [zdO a.1, zdO a.2, zr1]
theorem zsC : Cmp zkD (fun _ => True) where
 flip x y _ _ := by rw [zrj x y]; omega
 trans x y z _ _ _ h1 h2 := by
  rw [ztx] at *
  have k1 : za4 x.1 y.1 ≤ 0 := by split at h1 <;> omega
  have k2 : za4 y.1 z.1 ≤ 0 := by split at h2 <;> omega
  have k3 := zfQ k1 k2
  split
  ·exact k3
  ·rename_i hz
   have hz' : za4 x.1 z.1 = 0 := by simpa using hz
   obtain ⟨e1, e2⟩ := zno k1 k2 hz'
   rw [if_neg (by simp [e1])] at h1
   rw [if_neg (by simp [e2])] at h2
   exact zfQ h1 h2
def OLt (a b : Of2) : Prop := zkD a b < 0
end
section
theorem zhp {α : Type} {s : Str} {v : α} : ∀ {G : List (Str × α)}, (zax s v G).map (·.1) = zcj s (G.map (·.1))
 | [] => by simp [zax, zcj]
 | p :: r => by
   have ih := zhp (s := s) (v := v) (G := r)
   simp only [zax]
   by_cases h : s = p.1
   ·rw [if_pos h]
    unfold zcj
    rw [if_pos (by simp [h])]
    simp [h]
   ·rw [if_neg h, List.map_cons, ih]
    unfold zcj
    by_cases hc : (r.map (·.1)).contains s = true
    ·rw [if_pos hc, if_pos (by simp at hc ⊢; exact .inr hc)]; rfl
    ·rw [if_neg hc, if_neg (by simp at hc ⊢; exact ⟨h, hc⟩)]; rfl
theorem ziw {α : Type} {s : Str} {v : α} {p : Str × α} : ∀ {G : List (Str × α)}, ANodup G → p ∈ zax s v G → p = (s, v) ∨ (p ∈ G ∧ p.1 ≠ s)
 | [], _, h => by simp [zax] at h; exact .inl h
 | q :: r, hn, h => by
   have h1 := List.nodup_cons.1 hn
   simp only [zax] at h
   by_cases hs : s = q.1
   ·rw [if_pos hs] at h
    rcases List.mem_cons.1 h with h | h
    ·exact .inl h
    ·refine .inr ⟨List.mem_cons_of_mem _ h, fun e => h1.1 ?_⟩
     show q.1 ∈ r.map (·.1)
     rw [← hs, ← e]; exact List.mem_map_of_mem h
   ·rw [if_neg hs] at h
    rcases List.mem_cons.1 h with h | h
    ·subst h; exact .inr ⟨by simp, fun e => hs e.symm⟩
    ·rcases ziw h1.2 h with e | e
     ·exact .inl e
     ·exact .inr ⟨List.mem_cons_of_mem _ e.1, e.2⟩
section
variable {κ : Type}
/-- The maps of maps hold the zaD sums. -/
structure GrOk (S : List Str) (c : List ((Str × κ) × Int)) (G : GrM κ) : Prop where
 keys : G.map (·.1) = S
 nodup : S.Nodup
 val : ∀ p ∈ G, p.2.2 = zcF c p.1
 inS : ∀ e ∈ c, e.1.1 ∈ S
theorem GrOk.anodup {S : List Str} {c : List ((Str × κ) × Int)} {G : GrM κ} (h : GrOk S c G) : ANodup G := by unfold ANodup; rw [h.keys]; exact h.nodup
theorem GrOk.nil : GrOk ([] : List Str) ([] : List ((Str × κ) × Int)) [] := ⟨rfl, List.nodup_nil, (fun p h => by cases h), (fun e h => by cases h)⟩
theorem GrOk.get {S : List Str} {c : List ((Str × κ) × Int)} {G : GrM κ} (h : GrOk S c G) {s : Str} {b : Nat} {L : List (κ × Int)} (hq : alk s G = some (b, L)) : L = zcF c s := h.val _ (zcV hq)
theorem GrOk.none {S : List Str} {c : List ((Str × κ) × Int)} {G : GrM κ} (h : GrOk S c G) {s : Str} : alk s G = none ↔ s ∉ S := by rw [zeE, h.keys]
theorem zro {S : List Str} {c : List ((Str × κ) × Int)} {s : Str} (h : ∀ e ∈ c, e.1.1 ∈ S) (hs : s ∉ S) : zcF c s = [] := by
 unfold zcF
 rw [List.map_eq_nil_iff, List.filter_eq_nil_iff]
 intro e he hq
 exact hs ((eq_of_beq hq) ▸ h e he)
theorem GrOk.add {S : List Str} {c : List ((Str × κ) × Int)} {G : GrM κ} (h : GrOk S c G) {s : Str} (b : Nat) (hs : alk s G = Option.none) : GrOk (zcj s S) c (zax s (b, []) G) := by
 have hn := h.none.1 hs
 refine ⟨by rw [zhp, h.keys], zhQ h.nodup, fun p hp => ?_, fun e he => zkm.2 (.inr (h.inS e he))⟩
 rcases ziw h.anodup hp with rfl | ⟨hp, _⟩
 ·exact (zro h.inS hn).symm
 ·exact h.val p hp
variable [DecidableEq κ]
theorem GrOk.put {S : List Str} {c : List ((Str × κ) × Int)} {G : GrM κ} (h : GrOk S c G) {s : Str} {b : Nat} {L : List (κ × Int)} (hq : alk s G = some (b, L)) (k : κ) (v : Int) : GrOk S (zax (s, k) v c) (zax s (b, zax k v L) G) := by
 have hs : s ∈ S := by
  refine Decidable.not_not.1 fun hn => ?_
  have := h.none.2 hn
  rw [this] at hq; cases hq
 refine ⟨?_, h.nodup, fun p hp => ?_, fun e he => ?_⟩
 ·rw [zhp, h.keys]
  unfold zcj
  rw [if_pos (by simpa using hs)]
 ·rw [zmL]
  rcases ziw h.anodup hp with rfl | ⟨hp, hne⟩
  ·rw [if_pos rfl, ← h.get hq]
  ·rw [if_neg hne]; exact h.val p hp
 ·rcases zdr he with rfl | he
  ·exact hs
  ·exact h.inS e he
end
end
section

end
section
theorem OLt.trans {a b c : Of2} (h1 : OLt a b) (h2 : OLt b c) : OLt a c := zsC.lt_trans trivial trivial trivial h1 h2
end
section
/-- The plays of the sources that count. -/
def zva (l : List Play) (trust : List Str) (n : Int) (x : Play) : Bool := decide (zju l trust n x.Match = some x.Source)
def kept (l : List Play) (trust : List Str) (n : Int) : List Play := l.filter (zva l trust n)
end
section
structure ChkIs (q : ChkS) (l : List Play) : Prop where
 sn : q.S.Nodup
 s : ∀ s, s ∈ q.S ↔ ∃ x ∈ l, x.Source = s
 wn : ANodup q.W
 w : ∀ m, m ∈ q.W.map (·.1) ↔ ∃ x ∈ l, x.Match = m
 wv : ∀ m v, alk m q.W = some v → ∃ x ∈ l, x.Match = m ∧ x.Week = v
 c : q.c = false ↔ ∀ x ∈ l, ∀ y ∈ l, x.Match = y.Match → x.Week = y.Week
theorem ChkIs.step {q : ChkS} {l : List Play} (h : ChkIs q l) (p : Play) : ChkIs (zhe q p) (l ++ [p]) where
 sn := zhQ h.sn
 s s := by
  show s ∈ zcj p.Source q.S ↔ _
  rw [zkm, h.s]
  constructor
  ·rintro (rfl | ⟨x, hx, e⟩)
   ·exact ⟨p, by simp, rfl⟩
   ·exact ⟨x, List.mem_append_left _ hx, e⟩
  ·rintro ⟨x, hx, e⟩
   rcases List.mem_append.1 hx with hx | hx
   ·exact .inr ⟨x, hx, e⟩
   ·rw [List.mem_singleton.1 hx] at e; exact .inl e.symm
 wn := h.wn.put
 w m := by
  show m ∈ (zax p.Match p.Week q.W).map (·.1) ↔ _
  rw [ziL, h.w]
  constructor
  ·rintro (rfl | ⟨x, hx, e⟩)
   ·exact ⟨p, by simp, rfl⟩
   ·exact ⟨x, List.mem_append_left _ hx, e⟩
  ·rintro ⟨x, hx, e⟩
   rcases List.mem_append.1 hx with hx | hx
   ·exact .inr ⟨x, hx, e⟩
   ·rw [List.mem_singleton.1 hx] at e; exact .inl e.symm
 wv m v hv := by
  have hv' : alk m (zax p.Match p.Week q.W) = some v := hv
  rw [zl3] at hv'
  by_cases e : m = p.Match
  ·rw [if_pos e] at hv'; cases hv'
   exact ⟨p, by simp, e.symm, rfl⟩
  ·rw [if_neg e] at hv'
   obtain ⟨x, hx, e1⟩ := h.wv m v hv'
   exact ⟨x, List.mem_append_left _ hx, e1⟩
 c := by
  show (q.c || ((alk p.Match q.W).isSome && ((alk p.Match q.W).getD 0 != p.Week))) = false ↔ _
  rw [Bool.or_eq_false_iff, h.c]
  constructor
  ·rintro ⟨h1, h2⟩
   have hp : ∀ x ∈ l, x.Match = p.Match → x.Week = p.Week := fun x hx e => by
    have hk : p.Match ∈ q.W.map (·.1) := (h.w _).2 ⟨x, hx, e⟩
    have hne : ¬ alk p.Match q.W = none := by rw [zeE]; exact fun z => z hk
    obtain ⟨v, hv⟩ := Option.ne_none_iff_exists'.1 hne
    rw [hv] at h2
    simp at h2
    obtain ⟨y, hy, e1, e2⟩ := h.wv _ _ hv
    rw [h1 x hx y hy (by rw [e, e1]), e2, h2]
   intro x hx y hy e
   rcases List.mem_append.1 hx with hx | hx <;> rcases List.mem_append.1 hy with hy | hy
   ·exact h1 x hx y hy e
   ·rw [List.mem_singleton.1 hy] at e ⊢; exact hp x hx e
   ·rw [List.mem_singleton.1 hx] at e ⊢; exact (hp y hy e.symm).symm
   ·rw [List.mem_singleton.1 hx, List.mem_singleton.1 hy]
  ·intro hall
   refine ⟨fun x hx y hy e => hall x (List.mem_append_left _ hx) y (List.mem_append_left _ hy) e, ?_⟩
   cases hv : alk p.Match q.W with
   | none => rfl
   | some v =>
     obtain ⟨y, hy, e1, e2⟩ := h.wv _ _ hv
     have := hall y (List.mem_append_left _ hy) p (by simp) e1
     simp
     rw [← e2, this]
end
section

end
section

end
section
section
variable {κ : Type}
end
end
section
section
variable {κ : Type} [DecidableEq κ] {β : Type}
end
section
variable {P : Program} {e : Env} {κ : Type} [DecidableEq κ] {β : Type} {eb : β → HVal}
end
end
section
/-! lines by their places, with mends -/
abbrev GrS := List (Plc × List StatS)
def zp8 (x : MendS) (l : List StatS) : List StatS := l.filter fun s => !(s.Name == x.Stat)
def zgD (x : MendS) (l : List StatS) : List StatS := zp8 x l ++ if x.Count ≠ 0 then [⟨x.Stat, x.Count⟩] else []
def zfC (n : Int) (G : GrS) (x : MendS) : GrS := if n < x.At then G else zax (x.Player, x.Week) (zgD x ((alk (x.Player, x.Week) G).getD [])) G
def GLen (b : Nat) (G : GrS) : Prop := ∀ q ∈ G, q.2.length ≤ b
theorem GLen.put {b : Nat} {G : GrS} {p : Plc} {l : List StatS} (h : GLen b G) (hl : l.length ≤ b) : GLen b (zax p l G) := fun q hq => by
 rcases zdr hq with rfl | hq
 ·exact hl
 ·exact h q hq
theorem GLen.get {b : Nat} {G : GrS} (h : GLen b G) (p : Plc) : ((alk p G).getD []).length ≤ b := by
 cases hq : alk p G with
 | none => simp
 | some l => exact h _ (zcV hq)
theorem GLen.up {b c : Nat} {G : GrS} (h : GLen b G) (hb : b ≤ c) : GLen c G := fun q hq => Nat.le_trans (h q hq) hb
theorem zrb (x : MendS) (l : List StatS) : (zp8 x l).length ≤ l.length := List.length_filter_le _ _
theorem zrn (x : MendS) (l : List StatS) : (zgD x l).length ≤ l.length + 1 := by
 have := zrb x l
 unfold zgD; rw [List.length_append]; split
 ·simp only [List.length_cons, List.length_nil]; omega
 ·simp only [List.length_nil]; omega
theorem GLen.step {b : Nat} {n : Int} {G : GrS} {x : MendS} (h : GLen b G) : GLen (b + 1) (zfC n G x) := by
 unfold zfC; split
 ·exact h.up (by omega)
 ·refine (h.up (by omega)).put ?_
  have h1 := zrn x ((alk (x.Player, x.Week) G).getD [])
  have h2 := h.get (x.Player, x.Week)
  omega
def GNm (G : GrS) : Prop := ∀ q ∈ G, (q.2.map (·.Name)).Nodup
theorem GNm.put {G : GrS} {p : Plc} {l : List StatS} (h : GNm G) (hl : (l.map (·.Name)).Nodup) : GNm (zax p l G) := fun q hq => by
 rcases zdr hq with rfl | hq
 ·exact hl
 ·exact h q hq
theorem GNm.get {G : GrS} (h : GNm G) (p : Plc) : (((alk p G).getD []).map (·.Name)).Nodup := by
 cases hq : alk p G with
 | none => exact List.nodup_nil
 | some l => exact h _ (zcV hq)
theorem zjH {x : MendS} {l : List StatS} (h : (l.map (·.Name)).Nodup) : ((zgD x l).map (·.Name)).Nodup := by
 have h1 : ((zp8 x l).map (·.Name)).Nodup := h.sublist ((List.filter_sublist).map _)
 unfold zgD
 split
 ·rw [List.map_append]
  refine List.nodup_append.2 ⟨h1, by simp, fun a ha b hb => ?_⟩
  simp at hb; subst hb
  obtain ⟨s, hs, rfl⟩ := List.mem_map.1 ha
  have := (List.mem_filter.1 hs).2
  simpa using this
 ·rw [List.append_nil]; exact h1
theorem GNm.step {n : Int} {G : GrS} {x : MendS} (h : GNm G) : GNm (zfC n G x) := by
 unfold zfC; split
 ·exact h
 ·exact h.put (zjH (h.get _))
end
section

end
section
/-! one list of statistics by name -/
abbrev stA (l : List StatS) : List (Str × Int) := l.map fun s => (s.Name, s.Count)
def sv (l : List StatS) (s : Str) : Int := (alk s (stA l)).getD 0
structure StOk (l : List StatS) : Prop where
 nd : (l.map (·.Name)).Nodup
 nz : ∀ x ∈ l, x.Count ≠ 0
theorem StOk.nodup {l : List StatS} (h : StOk l) : l.Nodup := (List.pairwise_map.1 h.nd).imp fun h e => h (congrArg _ e)
theorem StOk.put {x : MendS} {l : List StatS} (h : StOk l) : StOk (zgD x l) where
 nd := zjH h.nd
 nz y hy := by
  unfold zgD at hy
  rcases List.mem_append.1 hy with hy | hy
  ·exact h.nz y (List.mem_filter.1 hy).1
  ·split at hy
   ·rename_i hc; rw [List.mem_singleton.1 hy]; exact hc
   ·cases hy
theorem StOk.nil : StOk [] := ⟨List.nodup_nil, fun x h => by cases h⟩
/-! all lists by place -/
structure GSOk (G : GrS) : Prop where
 nd : ANodup G
 ok : ∀ q ∈ G, StOk q.2
def gv (G : GrS) (p : Plc) (s : Str) : Int := sv ((alk p G).getD []) s
theorem GSOk.get {G : GrS} (h : GSOk G) (p : Plc) : StOk ((alk p G).getD []) := by
 cases hq : alk p G with
 | none => exact StOk.nil
 | some l => exact h.ok _ (zcV hq)
theorem GSOk.step {n : Int} {G : GrS} {x : MendS} (h : GSOk G) : GSOk (zfC n G x) := by
 unfold zfC; split
 ·exact h
 ·refine ⟨h.nd.put, fun q hq => ?_⟩
  rcases zdr hq with rfl | hq
  ·exact (h.get _).put
  ·exact h.ok q hq
structure GVal (G : GrS) : Prop where
 pl : ∀ q ∈ G, key q.1.1 = true ∧ zgJ q.1.2 = true
 st : ∀ q ∈ G, ∀ s ∈ q.2, key s.Name = true ∧ (-100000 ≤ s.Count ∧ s.Count ≤ 100000)
theorem GVal.step {n : Int} {G : GrS} {x : MendS} (h : GVal G) (hx : ziT x = 0) : GVal (zfC n G x) := by
 obtain ⟨k1, k2, k3, k4, _⟩ := zoc hx
 unfold zfC; split
 ·exact h
 ·refine ⟨fun q hq => ?_, fun q hq s hs => ?_⟩
  ·rcases zdr hq with rfl | hq
   ·exact ⟨k1, k3⟩
   ·exact h.pl q hq
  ·rcases zdr hq with rfl | hq
   ·unfold zgD at hs
    rcases List.mem_append.1 hs with hs | hs
    ·have h1 := (List.mem_filter.1 hs).1
     cases ha : alk (x.Player, x.Week) G with
     | none => rw [ha] at h1; cases h1
     | some l => rw [ha] at h1; exact h.st _ (zcV ha) s h1
    ·split at hs
     ·rw [List.mem_singleton.1 hs]; exact ⟨k2, k4⟩
     ·cases hs
   ·exact h.st q hq s hs
end
section
/-! mends as they are made up -/
end
section
structure Half (a b l : List Play) : Prop where
 sa : a.Sublist l
 sb : b.Sublist l
 all : ∀ x ∈ l, x ∈ a ∨ x ∈ b
theorem Half.nil : Half [] [] [] := ⟨List.Sublist.refl _, List.Sublist.refl _, fun x h => by cases h⟩
theorem Half.left {a b l : List Play} (h : Half a b l) (x : Play) : Half (a ++ [x]) b (l ++ [x]) :=
 ⟨h.sa.append (List.Sublist.refl _), h.sb.trans (List.sublist_append_left _ _), fun y hy => by
  rcases List.mem_append.1 hy with hy | hy
  ·rcases h.all y hy with q | q
   ·exact .inl (List.mem_append_left _ q)
   ·exact .inr q
  ·exact .inl (List.mem_append_right _ hy)⟩
theorem Half.right {a b l : List Play} (h : Half a b l) (x : Play) : Half a (b ++ [x]) (l ++ [x]) :=
 ⟨h.sa.trans (List.sublist_append_left _ _), h.sb.append (List.Sublist.refl _), fun y hy => by
  rcases List.mem_append.1 hy with hy | hy
  ·rcases h.all y hy with q | q
   ·exact .inl q
   ·exact .inr (List.mem_append_left _ q)
  ·exact .inr (List.mem_append_right _ hy)⟩
end
section
open Op
theorem zc2 {w : List WantS} {i : Nat} {x : WantS} (h : w[i]? = some x) : zbG w i = x.Player := by unfold zbG; rw [List.getD_eq_getElem?_getD, h]; rfl
theorem zmX {w : List WantS} (hs : SortedS (w.map (·.Player))) {a b : Nat} (ha : a < w.length) (hb : b < w.length) (h : zbG w a = zbG w b) : a = b := by
 obtain ⟨x, hx⟩ : ∃ x, w[a]? = some x := ⟨_, List.getElem?_eq_getElem ha⟩
 obtain ⟨y, hy⟩ : ∃ x, w[b]? = some x := ⟨_, List.getElem?_eq_getElem hb⟩
 rw [zc2 hx, zc2 hy] at h
 have h1 := (zcW hs (s := x.Player)).2 ⟨x, hx, rfl⟩
 have h2 := (zcW hs (s := x.Player)).2 ⟨y, hy, h.symm⟩
 omega
theorem zfA {α : Type} : ∀ {l : List α} {i j : Nat} {a : α}, l.Nodup → l[i]? = some a → l[j]? = some a → i = j
 | [], _, _, _, _, h, _ => by simp at h
 | x :: t, 0, 0, _, _, _, _ => rfl
 | x :: t, 0, j + 1, a, hn, h1, h2 => by
   simp at h1 h2; subst h1
   exact absurd (List.mem_of_getElem? h2) (List.nodup_cons.1 hn).1
 | x :: t, i + 1, 0, a, hn, h1, h2 => by
   simp at h1 h2; subst h2
   exact absurd (List.mem_of_getElem? h1) (List.nodup_cons.1 hn).1
 | x :: t, i + 1, j + 1, a, hn, h1, h2 => by
   rw [zfA (List.nodup_cons.1 hn).2 (show t[i]? = some a by simpa using h1) (by simpa using h2)]
def zdF : Nat → List Nat → List (Nat × Nat)
 | _, [] => []
 | fr, c :: q => if c = fr then zdF (fr + 1) q else (fr, c) :: zdF (fr + 1) q
theorem zhh : ∀ {q : List Nat} {fr i c : Nat}, (i, c) ∈ zdF fr q ↔ ∃ j, i = fr + j ∧ q[j]? = some c ∧ c ≠ i
 | [], fr, i, c => by simp [zdF]
 | d :: q, fr, i, c => by
   have ih := zhh (q := q) (fr := fr + 1) (i := i) (c := c)
   rw [zdF]
   constructor
   ·intro h
    split at h
    ·obtain ⟨j, h1, h2, h3⟩ := ih.1 h
     exact ⟨j + 1, by omega, by simpa using h2, h3⟩
    ·rcases List.mem_cons.1 h with e | h
     ·cases e; rename_i hd; exact ⟨0, by omega, by simp, hd⟩
     ·obtain ⟨j, h1, h2, h3⟩ := ih.1 h
      exact ⟨j + 1, by omega, by simpa using h2, h3⟩
   ·rintro ⟨j, h1, h2, h3⟩
    cases j with
    | zero =>
      simp at h2
      subst h2
      rw [if_neg (by omega), h1]
      simp
    | succ j =>
      have := ih.2 ⟨j, by omega, by simpa using h2, h3⟩
      split
      ·exact this
      ·exact List.mem_cons_of_mem _ this
theorem zpP : ∀ {q : List Nat} {fr : Nat}, ((zdF fr q).map (·.1)).Pairwise (· < ·) ∧ ∀ i ∈ (zdF fr q).map (·.1), fr ≤ i
 | [], fr => by simp [zdF]
 | d :: q, fr => by
   obtain ⟨h1, h2⟩ := zpP (q := q) (fr := fr + 1)
   rw [zdF]
   split
   ·exact ⟨h1, fun i hi => by have := h2 i hi; omega⟩
   ·rw [List.map_cons]
    refine ⟨List.pairwise_cons.2 ⟨fun i hi => by have := h2 i hi; dsimp only; omega, h1⟩, fun i hi => ?_⟩
    rcases List.mem_cons.1 hi with e | hi
    ·rw [e]; exact Nat.le_refl _
    ·have := h2 i hi; omega
end
section
open Op
theorem zpr {α : Type} {P : Nat → α → Prop} : ∀ n : Nat, (∀ i, i < n → ∃ c, P i c) → ∃ q : List α, q.length = n ∧ ∀ (i : Nat) (c : α), q[i]? = some c → P i c
 | 0, _ => ⟨[], rfl, fun i c h => by simp at h⟩
 | n + 1, h => by
   obtain ⟨q, h1, h2⟩ := zpr n fun i hi => h i (by omega)
   obtain ⟨c, hc⟩ := h n (by omega)
   refine ⟨q ++ [c], by simp [h1], fun i d hd => ?_⟩
   rcases Nat.lt_or_ge i q.length with hi | hi
   ·rw [List.getElem?_append_left hi] at hd; exact h2 i d hd
   ·rw [List.getElem?_append_right hi] at hd
    have := zC hd
    simp at this
    have e : i = n := by omega
    subst e
    rw [show i - q.length = 0 by omega] at hd
    simp at hd
    rw [← hd]; exact hc
theorem zrQ {can : List (List Nat)} : ∀ {q : List Nat} {fr : Nat} {g : List Nat}, (∀ (i c : Nat), q[i]? = some c → c ∈ (fr + i) :: can.getD (fr + i) []) → (g ++ q).Nodup → zb3 (fun _ _ => true) can fr g q
 | [], _, _, _, _ => trivial
 | d :: q, fr, g, h, hn => by
   refine ⟨by simpa using h 0 d rfl, rfl, fun hd => ?_, zrQ (fun i c hc => ?_) (by simpa using hn)⟩
   ·exact (List.nodup_append.1 hn).2.2 d hd d (by simp) rfl
   ·have := h (i + 1) c (by simpa using hc)
    rwa [show fr + 1 + i = fr + (i + 1) by omega]
theorem zt8 {o : List OwnerS} {w : List WantS} (hw : WantsOk o w) {i : Nat} {x : WantS} (hx : w[i]? = some x) : x.Player ∉ x.For := fun h => (hw.ftm x (List.mem_of_getElem? hx) _ h).2 rfl
end
section

end
section
open Op
/-- A market in which a team may have as many as it will. -/
def zc5 (m : MarketS) : MarketS := ⟨m.Teams, m.Vetoes, m.Wait, m.Deadline, 0, 60⟩
theorem zra {m : MarketS} (h : GoodM m) : GoodM (zc5 m) := ⟨h.pos, h.len, h.sh⟩
theorem zsc {w : List WantS} (hs : SortedS (w.map (·.Player))) {g : List Bool} {out : List (List Str)} (h : RingsR w g out) : g.length = w.length → out.length ≤ zbc g ∧ ∀ x ∈ out, x.length ≤ w.length := by
 induction h with
 | done h h2 => intro _; exact ⟨Nat.zero_le _, by simp⟩
 | more h h2 h3 ih =>
   intro hl
   obtain ⟨i1, i2⟩ := ih (by rw [zgl]; exact h.len)
   have h4 := zlU h.len h2
   have h5 := zkb (by rw [hl, h.len]) h.sub
   refine ⟨by rw [List.length_cons]; omega, fun x hx => ?_⟩
   rcases List.mem_cons.1 hx with e | hx
   ·rw [e]
    have := zkn (zdo hs h)
    rw [zbk] at this
    unfold zdB
    rw [List.length_map]; exact this
   ·exact i2 x hx
theorem zqW {w : List WantS} (hs : SortedS (w.map (·.Player))) : (zbe w).length ≤ w.length ∧ ∀ x ∈ zbe w, x.length ≤ w.length := by
 have := zsc hs (zlM w) (by simp)
 rwa [zow] at this
theorem zqZ {o : List OwnerS} {w : List WantS} {m : MarketS} (h : zar m o w = 0) (hl : w.length ≤ 14) : (zcg m o w).length ≤ w.length := by
 obtain ⟨_, hw⟩ := zeH h
 rw [zcg, if_pos h, zcc]
 have := zhw (o := o) (w := w) (l := zaO (zbE w)) (i := 0)
 rw [zl5 hw hl] at this
 exact this
end
section

end
section

end
section
open Go
/-- The pieces of a string between the places where a byte stands. -/
def spl (c : UInt8) : Str → List Str
 | [] => [[]]
 | b :: l => if b = c then [] :: spl c l else match spl c l with
   | [] => [[b]]
   | x :: r => (b :: x) :: r
theorem zuw (c : UInt8) (s : Str) : spl c s ≠ [] := by
 cases s with
 | nil => simp [spl]
 | cons b l =>
   simp only [spl]
   split
   ·simp
   ·split <;> simp
theorem zsv {c : UInt8} (s : Str) : ∃ x r, spl c s = x :: r := by
 cases h : spl c s with
 | nil => exact absurd h (zuw c s)
 | cons x r => exact ⟨x, r, rfl⟩
theorem zuc (c : UInt8) (l : Str) : spl c (c :: l) = [] :: spl c l := by simp [spl]
theorem zq1 {b c : UInt8} (h : b ≠ c) {l x : Str} {r : List Str} (hl : spl c l = x :: r) : spl c (b :: l) = (b :: x) :: r := by
 simp only [spl, h, if_false, hl]
theorem zjS (c : UInt8) : ∀ (s : Str), ∀ x ∈ spl c s, x.length ≤ s.length
 | [], x, hx => by simp [spl] at hx; subst hx; simp
 | b :: l, x, hx => by
   have ih := zjS c l
   by_cases hb : b = c
   ·subst hb
    rw [zuc] at hx
    rcases List.mem_cons.1 hx with rfl | hx
    ·simp
    ·have := ih x hx; simp only [List.length_cons]; omega
   ·obtain ⟨y, r, hy⟩ := zsv (c := c) l
    rw [zq1 hb hy] at hx
    rcases List.mem_cons.1 hx with rfl | hx
    ·have := ih y (by rw [hy]; simp); simp only [List.length_cons]; omega
    ·have := ih x (by rw [hy]; simp [hx]); simp only [List.length_cons]; omega
end
section

end
section

end
section
theorem zio {line : Str} (j : Nat) : ((spl 32 line).getD j []).length ≤ line.length := by
 rw [List.getD_eq_getElem?_getD]
 cases h : (spl 32 line)[j]? with
 | none => simp
 | some x => exact zjS 32 line x (List.mem_of_getElem? h)
end
section

end
section

end
section

end
section

end
section
section
variable {α : Type} (rB : Str → Bool) (rP : Str → α) (F : List α → Int) (W : α → List Str) (enc : α → HVal) (sz : Nat)
end
end
section
/-! what the next line is -/
def zul : Str := [111, 102, 102, 101, 114]
def givS : Str := [103, 105, 118, 101]
def zrJ (line : Str) : Bool := (spl 32 line).all fun w => !w.isEmpty
def odB (line : Str) : Bool := zrJ line && ((spl 32 line).getD 0 [] == zul) && ((((spl 32 line).length : Nat) : Int) == 5) && ((spl 32 line).drop 3).all (numB · 15)
def gvB (line : Str) : Bool := zrJ line && ((spl 32 line).getD 0 [] == givS) && ((((spl 32 line).length : Nat) : Int) == 4)
/-- Whether a line is taken, by what the first line of the text is. -/
def okT (s0 s : Str) : Bool := odB s || (gvB s && odB s0)
def odP (line : Str) : DealS := ⟨(spl 32 line).getD 1 [], (spl 32 line).getD 2 [], zqk ((spl 32 line).getD 3 []) 15, zqk ((spl 32 line).getD 4 []) 15, []⟩
def gvP (line : Str) : GiveS := ⟨(spl 32 line).getD 1 [], (spl 32 line).getD 2 [], (spl 32 line).getD 3 []⟩
def addG (d : DealS) (g : GiveS) : DealS := { d with Gives := d.Gives ++ [g] }
def zjj (ds : List DealS) (g : GiveS) : List DealS := ds.set (ds.length - 1) (addG (ds.getD (ds.length - 1) zkF) g)
def zd9 (ds : List DealS) (line : Str) : List DealS := if odB line then ds ++ [odP line] else if gvB line then zjj ds (gvP line) else ds
def rdD (ls : List Str) : List DealS := ls.foldl zd9 []
theorem zr5 (ls : List Str) (s : Str) : rdD (ls ++ [s]) = zd9 (rdD ls) s := by unfold rdD; rw [List.foldl_append]; rfl
def dvH (text : Str) : Str := (spl 10 text).headD []
end
section

end
section
abbrev DlV := DealS × Value
end
section

end
section

end
section
structure GdN (n k : Nat) (ds : List DealS) : Prop where
 len : ds.length ≤ k
 all : ∀ x ∈ ds, x.Id.length ≤ n ∧ x.Gives.length ≤ k ∧ ∀ g ∈ x.Gives, g.Player.length ≤ n
theorem GdN.step {n k : Nat} {ds : List DealS} {s : Str} (h : GdN n k ds) (hs : s.length ≤ n) : GdN n (k + 1) (zd9 ds s) := by
 obtain ⟨h1, h2⟩ := h
 have h2' : ∀ x ∈ ds, x.Id.length ≤ n ∧ x.Gives.length ≤ k + 1 ∧ ∀ g ∈ x.Gives, g.Player.length ≤ n := fun x hx => ⟨(h2 x hx).1, by have := (h2 x hx).2.1; omega, (h2 x hx).2.2⟩
 unfold zd9
 split
 ·refine ⟨by simp; omega, fun x hx => ?_⟩
  rcases List.mem_append.1 hx with hx | hx
  ·exact h2' x hx
  ·rw [List.mem_singleton.1 hx]
   exact ⟨Nat.le_trans (zio 1) hs, Nat.zero_le _, fun g hg => by cases hg⟩
 split
 ·unfold zjj
  refine ⟨by simp; omega, fun x hx => ?_⟩
  rcases List.mem_or_eq_of_mem_set hx with hx | hx
  ·exact h2' x hx
  ·subst hx
   have hy : (ds.getD (ds.length - 1) zkF).Id.length ≤ n ∧ (ds.getD (ds.length - 1) zkF).Gives.length ≤ k ∧ ∀ g ∈ (ds.getD (ds.length - 1) zkF).Gives, g.Player.length ≤ n := by
    rw [List.getD_eq_getElem?_getD]
    cases hq : ds[ds.length - 1]? with
    | none => exact ⟨Nat.zero_le _, Nat.zero_le _, fun g hg => by cases hg⟩
    | some y => exact h2 y (List.mem_of_getElem? hq)
   refine ⟨hy.1, by show ((_ : List GiveS) ++ [_]).length ≤ _; rw [List.length_append]; have := hy.2.1; simp only [List.length_cons, List.length_nil]; omega, fun g hg => ?_⟩
   rcases List.mem_append.1 hg with hg | hg
   ·exact hy.2.2 g hg
   ·rw [List.mem_singleton.1 hg]; exact Nat.le_trans (zio 1) hs
 ·exact ⟨by omega, h2'⟩
theorem ztN {ds : List DealS} {s : Str} {k : Nat} (h1 : ds.length ≤ k) (h2 : ∀ x ∈ ds, x.Gives.length ≤ k) : (zd9 ds s).length ≤ ds.length + 1 ∧ ∀ x ∈ zd9 ds s, x.Gives.length ≤ k + 1 := by
 unfold zd9
 split
 ·refine ⟨by simp, fun x hx => ?_⟩
  rcases List.mem_append.1 hx with hx | hx
  ·exact Nat.le_succ_of_le (h2 x hx)
  ·rw [List.mem_singleton.1 hx]; exact Nat.zero_le _
 split
 ·unfold zjj
  refine ⟨by simp, fun x hx => ?_⟩
  rcases List.mem_or_eq_of_mem_set hx with hx | hx
  ·exact Nat.le_succ_of_le (h2 x hx)
  ·subst hx
   have hy : (ds.getD (ds.length - 1) zkF).Gives.length ≤ k := by
    rw [List.getD_eq_getElem?_getD]
    cases hq : ds[ds.length - 1]? with
    | none => exact Nat.zero_le _
    | some y => exact h2 y (List.mem_of_getElem? hq)
   show ((_ : List GiveS) ++ [_]).length ≤ _
   rw [List.length_append]; simp only [List.length_cons, List.length_nil]; omega
 ·exact ⟨by omega, fun x hx => Nat.le_succ_of_le (h2 x hx)⟩
/-! the state of a reader -/
def InvD (text : Str) (done : List Str) (st : Value × List DlV) : Prop := st.2.map (·.1) = rdD done ∧ (done ≠ [] → odB (dvH text) = true ∧ st.2 ≠ []) ∧ st.2.length ≤ done.length ∧ ∀ p ∈ st.2, p.1.Gives.length ≤ done.length
/-- Whether a line is taken, by whether offers are there. -/
def okS (ds : List DlV) (s : Str) : Bool := odB s || (gvB s && !ds.isEmpty)
theorem zuV {text s : Str} {done : List Str} {st : Value × List DlV} (hq : (spl 10 text)[done.length]? = some s) (h : InvD text done st) : okS st.2 s = okT (dvH text) s := by
 obtain ⟨h1, h2, h3, _⟩ := h
 unfold okS okT
 by_cases hd : done = []
 ·have h0 : st.2 = [] := by
   have : st.2.length ≤ 0 := by rw [hd] at h3; simpa using h3
   exact List.length_eq_zero_iff.1 (by omega)
  have hs : dvH text = s := by
   unfold dvH
   rw [hd] at hq
   cases hl : spl 10 text with
   | nil => rw [hl] at hq; cases hq
   | cons a b => rw [hl] at hq; simpa using hq
  rw [h0, hs]
  cases odB s <;> simp
 ·obtain ⟨a1, a2⟩ := h2 hd
  have : st.2.isEmpty = false := by
   cases hq2 : st.2 with
   | nil => exact absurd hq2 a2
   | cons _ _ => rfl
  rw [a1, this]; rfl
theorem InvD.next {text s : Str} {done : List Str} {st st' : Value × List DlV} (hq : (spl 10 text)[done.length]? = some s) (h : InvD text done st) (hok : okS st.2 s = true) (h1 : st'.2.map (·.1) = zd9 (st.2.map (·.1)) s) : InvD text (done ++ [s]) st' := by
 have hT := zuV hq h
 obtain ⟨a1, a2, a3, a4⟩ := h
 have hlen : (zd9 (st.2.map (·.1)) s).length ≤ st.2.length + 1 ∧ 0 < (zd9 (st.2.map (·.1)) s).length ∧ ∀ x ∈ zd9 (st.2.map (·.1)) s, x.Gives.length ≤ done.length + 1 := by
  have h5 := ztN (k := done.length) (ds := st.2.map (·.1)) (s := s) (by simpa using a3) (fun x hx => by obtain ⟨p, hp, rfl⟩ := List.mem_map.1 hx; exact a4 p hp)
  refine ⟨by simpa using h5.1, ?_, h5.2⟩
  ·unfold okS at hok
   unfold zd9
   cases ho : odB s with
   | true => simp
   | false =>
     rw [ho, Bool.false_or, Bool.and_eq_true] at hok
     rw [if_neg (by simp), if_pos hok.1]
     unfold zjj
     rw [List.length_set, List.length_map]
     cases hq2 : st.2 with
     | nil => rw [hq2] at hok; simp at hok
     | cons _ _ => simp
 have hl' : st'.2.length = (zd9 (st.2.map (·.1)) s).length := by rw [← h1, List.length_map]
 refine ⟨by rw [h1, a1, zr5], fun _ => ⟨?_, fun e => ?_⟩, ?_, fun p hp => ?_⟩
 ·by_cases hd : done = []
  ·rw [hT] at hok
   unfold okT at hok
   have hs : dvH text = s := by
    unfold dvH
    rw [hd] at hq
    cases hl : spl 10 text with
    | nil => rw [hl] at hq; cases hq
    | cons a b => rw [hl] at hq; simpa using hq
   rw [hs] at hok ⊢
   cases ho : odB s with
   | true => rfl
   | false => rw [ho] at hok; simp at hok
  ·exact (a2 hd).1
 ·rw [e] at hl'; simp at hl'; omega
 ·rw [List.length_append, List.length_cons, List.length_nil]; omega
 ·rw [List.length_append, List.length_cons, List.length_nil]
  exact hlen.2.2 p.1 (by rw [← h1]; exact List.mem_map_of_mem hp)
end
end Go.HL
section
namespace Go.HL
end Go.HL
namespace Go.HL
end Go.HL
namespace Go.HL
end Go.HL
end
namespace Go.Proofs.YtcihcbnjfclkbaaGreatDoor
set_option maxRecDepth 100000
set_option linter.unusedVariables false
set_option linter.unusedSimpArgs false
section
open Go.HL
set_option maxHeartbeats 1000000 in
/-- slices.insertionSortCmpFunc[benchwarmer/api.Asset] -/
theorem zdA [Tracks] {l : List Asset} {v : Value} {fid : FuncId} {caps : List HVal} {c : Asset → Asset → Int} {n : Int} (hca : Callable Tryz.prog fid) (hp : ∀ x y, ConP Tryz.prog fid ([zbt x, zbt y] ++ caps) (.int .i64 (c x y))) (hn : n = l.length) (hl : l.length ≤ 1000000) : Con Tryz.prog 221 [.raw v, .int .i64 0, .int .i64 n, .fn (.func fid) [] caps] [.arr v 3 (l.map zbt)] (fun x M' => x = .tup [] ∧ M' = [.arr v 3 ((zaY c l).map zbt)]) := by
 subst hn
 refine Con.of_body Tryz.func221 rfl Tryz.ntmps221 rfl rfl ?_
 refine zb ?_
 refine dmv rfl ?_
 refine dq (zv rfl rfl (by omega) (by omega)) ?_
 refine das rfl ?_
 refine dn ?_
 refine zl ?_
 refine zZ [8, 9, 12, 13, 14, 15, 16, 17, 18, 19, 20, 21, 22, 23, 24, 25, 26, 27, 28, 29, 30, 31, 32, 33, 34, 35, 36, 37, 38, 39, 40, 41, 42, 43, 44, 45, 46, 47, 48, 49, 50, 51, 52] (fun (k : Nat) => [(8, .int .i64 (k : Int))]) (fun (k : Nat) => [.arr v 3 ((zaY c (l.take k) ++ l.drop k).map zbt)]) (fun (k : Nat) => 1 ≤ k) (fun (k : Nat) => l.length - k) (1) ?_ ?_ ?_ ?_
 ·exact Nat.le_refl _
 ·exact ⟨rfl, trivial⟩
 ·exact zL (by rw [zjK])
 ·intro k hk
  refine zh ?_
  refine zb ?_
  refine dmv rfl ?_
  refine dmv rfl ?_
  refine dq (zO rfl rfl) ?_
  refine dn ?_
  refine zj rfl (fun h1 => ?_) (fun h2 => ?_)
  ·try simp at h1
   obtain ⟨x, hx⟩ : ∃ x, l[k]? = some x := ⟨_, List.getElem?_eq_getElem (by omega)⟩
   refine zdb (i := 0) rfl (fun h0 he => ?_) (fun b off cap hv hcap => ?_)
   ·exfalso; have := congrArg List.length he; simp [zcc] at this; omega
   rw [show ((zaY c (l.take k) ++ l.drop k).map zbt).length = l.length by simp [zcc]; omega] at hv
   subst hv
   refine zk ?_
   refine zf ?_
   refine zh ?_
   refine zl ?_
   refine zb ?_
   refine dmv rfl ?_
   refine das rfl ?_
   refine dn ?_
   refine zl ?_
   refine zaS [9, 18, 19, 20, 21, 22, 23, 24, 25, 26, 27, 28, 29, 30, 31, 32, 33, 34, 35, 36, 37, 38, 39, 40, 41, 42, 43, 44, 45, 46, 47, 48, 49, 50, 51, 52] (fun (A : List Asset) (B : List Asset) => [(9, .int .i64 (A.length : Int))]) (fun (A : List Asset) (B : List Asset) => [.arr (.slice (some ⟨b, off, none⟩) l.length cap) 3 ((A ++ x :: (B ++ l.drop (k + 1))).map zbt)]) (fun (A : List Asset) (B : List Asset) => A.length + B.length = k ∧ zcH c x (zaY c (l.take k)) = zcH c x A ++ B) (fun (A : List Asset) (B : List Asset) => A.length) (zaY c (l.take k)) ([]) ?_ ?_ ?_ ?_
   ·exact ⟨by simp [zcc]; omega, by simp⟩
   ·exact ⟨zbx (by simp [zcc]; omega), trivial⟩
   ·exact zL (by rw [zQ hx]; rfl)
   ·intro A B hinv
    obtain ⟨hA, hB⟩ := hinv
    have hlA : A.length < l.length := by omega
    have hll : ((A ++ x :: (B ++ l.drop (k + 1)))).length = l.length := by simp; omega
    refine zh ?_
    refine za9 (fun M => M = [.arr (.slice (some ⟨b, off, none⟩) l.length cap) 3 ((A ++ x :: (B ++ l.drop (k + 1))).map zbt)]) [8, 13] mixed ?_
    refine ahp 0 rfl rfl (by kernel_rfl) (by kernel_rfl) (zg rfl) ?_
    refine ahp 1 rfl rfl (by kernel_rfl) (by kernel_rfl) (zg rfl) ?_
    refine ahp 2 rfl rfl (by kernel_rfl) (by kernel_rfl) (zai rfl rfl) ?_
    refine ahp 3 rfl rfl (by kernel_rfl) (by kernel_rfl) (zg rfl) ?_
    refine ahg 4 rfl rfl (by kernel_rfl) (by kernel_rfl) rfl (fun hc => ⟨_, OpenTo.refl _, zg rfl⟩) ?_
    refine ahg 5 rfl rfl (by kernel_rfl) (by kernel_rfl) rfl (fun hc => ⟨_, OpenTo.refl _, zg rfl⟩) ?_
    refine ahg 6 rfl rfl (by kernel_rfl) (by kernel_rfl) rfl (fun hc => ⟨_, OpenTo.refl _, zg rfl⟩) ?_
    refine ahg 7 rfl rfl (by kernel_rfl) (by kernel_rfl) rfl (fun hc => by
     have hq : 0 < A.length := by simpa using hc
     exact ⟨_, OpenTo.upd (t := 24) rfl (hc) (OpenTo.upd (t := 23) rfl (hc) (OpenTo.refl _)), zab (j := A.length) zch zaH rfl rfl (by rfl) (by omega)⟩) ?_
    refine zl7 8 rfl rfl (by kernel_rfl) (by kernel_rfl) (by simp) rfl rfl (fun hc => ⟨_, OpenTo.upd (t := 25) rfl (hc) (OpenTo.refl _), fun M hM => by
     subst hM; exact zbK (i := 0) (j := A.length) zaH rfl rfl rfl zf5 rfl rfl rfl ⟨rfl, rfl⟩
     ⟩) ?_
    refine ahg 9 rfl rfl (by kernel_rfl) (by kernel_rfl) rfl (fun hc => ⟨_, OpenTo.refl _, zg rfl⟩) ?_
    refine ahg 10 rfl rfl (by kernel_rfl) (by kernel_rfl) rfl (fun hc => ⟨_, OpenTo.refl _, zg rfl⟩) ?_
    refine ahg 11 rfl rfl (by kernel_rfl) (by kernel_rfl) rfl (fun hc => by
     have hq : 0 < A.length := by simpa using hc
     exact ⟨_, OpenTo.upd (t := 28) rfl (hc) (OpenTo.refl _), zal rfl rfl (by omega) (by omega)⟩) ?_
    refine ahg 12 rfl rfl (by kernel_rfl) (by kernel_rfl) rfl (fun hc => by
     have hq : 0 < A.length := by simpa using hc
     exact ⟨_, OpenTo.upd (t := 29) rfl (hc) (OpenTo.upd (t := 27) rfl (hc) (OpenTo.refl _)), zab (j := A.length - 1) zch zaH rfl rfl (by omega) (by omega)⟩) ?_
    refine zl7 13 rfl rfl (by kernel_rfl) (by kernel_rfl) (by simp) rfl rfl (fun hc => ⟨_, OpenTo.upd (t := 30) rfl (hc) (OpenTo.refl _), fun M hM => by
     have hq : 0 < A.length := by simpa using hc
     subst hM; exact zbK (i := 0) (j := A.length - 1) zaH rfl rfl rfl (zd8 hq) rfl rfl rfl ⟨rfl, rfl⟩
     ⟩) ?_
    refine ahg 14 rfl rfl (by kernel_rfl) (by kernel_rfl) rfl (fun hc => ⟨_, OpenTo.upd (t := 31) rfl (hc) (OpenTo.upd (t := 26) rfl (hc) (OpenTo.upd (t := 22) rfl (hc) (OpenTo.refl _))), zdj hca rfl rfl (WeakL.refl _) (hp _ _)⟩) ?_
    refine ahg 15 rfl rfl (by kernel_rfl) (by kernel_rfl) rfl (fun hc => ⟨_, OpenTo.upd (t := 32) rfl (hc) (OpenTo.refl _), zO rfl rfl⟩) ?_
    refine ahp 16 rfl rfl (by kernel_rfl) (by kernel_rfl) (zB rfl (.inr ⟨_, rfl, fun h => by simp_all⟩) (.inl rfl)) ?_
    refine ahz (by kernel_rfl) ?_
    refine zj rfl (fun h3 => ?_) (fun h4 => ?_)
    ·try simp at h3
     obtain ⟨hA0, hcx⟩ := h3
     obtain ⟨A1, y, rfl⟩ := zmj hA0
     rw [zdW] at hcx
     refine zk ?_
     refine zf ?_
     refine zh ?_
     refine zl ?_
     refine zbV (fun M => M = [.arr (.slice (some ⟨b, off, none⟩) l.length cap) 3 (((A1 ++ [y]) ++ x :: (B ++ l.drop (k + 1))).map zbt)]) [9, 13] mixed ?_
     refine ahp 0 rfl rfl (by kernel_rfl) (by kernel_rfl) (zg rfl) ?_
     refine ahp 1 rfl rfl (by kernel_rfl) (by kernel_rfl) (zg rfl) ?_
     refine ahp 2 rfl rfl (by kernel_rfl) (by kernel_rfl) (zg rfl) ?_
     refine ahp 3 rfl rfl (by kernel_rfl) (by kernel_rfl) (zg rfl) ?_
     refine ahp 4 rfl rfl (by kernel_rfl) (by kernel_rfl) (zal rfl rfl (by omega) (by omega)) ?_
     refine ahp 5 rfl rfl (by kernel_rfl) (by kernel_rfl) (zg rfl) ?_
     refine ahp 6 rfl rfl (by kernel_rfl) (by kernel_rfl) (zg rfl) ?_
     refine ahp 7 rfl rfl (by kernel_rfl) (by kernel_rfl) (zal rfl rfl (by omega) (by omega)) ?_
     refine ahp 8 rfl rfl (by kernel_rfl) (by kernel_rfl) (zab (j := (A1 ++ [y]).length - 1) zch zaH rfl rfl (by omega) (by omega)) ?_
     refine ahl 9 rfl rfl (by kernel_rfl) (by kernel_rfl) (by simp) rfl (fun M hM => by subst hM; exact zbK (i := 0) (j := (A1 ++ [y]).length - 1) zaH rfl rfl rfl ((zd8 hA0).trans (by rw [zdW])) rfl rfl rfl ⟨rfl, rfl⟩) ?_
     refine ahp 10 rfl rfl (by kernel_rfl) (by kernel_rfl) (zg rfl) ?_
     refine ahp 11 rfl rfl (by kernel_rfl) (by kernel_rfl) (zg rfl) ?_
     refine ahp 12 rfl rfl (by kernel_rfl) (by kernel_rfl) (zab (j := (A1 ++ [y]).length) zch zaH rfl rfl rfl (by omega)) ?_
     refine ahl 13 rfl rfl (by kernel_rfl) (by kernel_rfl) (by simp) rfl (fun M hM => by subst hM; exact zbK (i := 0) (j := (A1 ++ [y]).length) zaH rfl rfl rfl zf5 rfl rfl rfl ⟨rfl, rfl⟩) ?_
     refine ahp 14 rfl rfl (by kernel_rfl) (by kernel_rfl) (zab (j := (A1 ++ [y]).length) zch zaH rfl rfl rfl (by omega)) ?_
     refine ahe 15 rfl (by kernel_rfl) ?_
     refine zau (zck (i := 0) (j := (A1 ++ [y]).length) (y := x) (y' := y) zaH rfl rfl rfl rfl zf5 rfl rfl rfl ?_)
     refine ⟨fun _ => .inr (by simp [zbC, Region.binds]), ?_⟩
     refine ahp 16 rfl rfl (by kernel_rfl) (by kernel_rfl) (zab (j := (A1 ++ [y]).length - 1) zch zaH rfl rfl (by omega) (by omega)) ?_
     refine ahe 17 rfl (by kernel_rfl) ?_
     refine zau (zck (i := 0) (j := (A1 ++ [y]).length - 1) (y := y) (y' := x) zaH rfl rfl rfl rfl (by rw [List.getElem?_set_ne (by simp)]; exact (zd8 hA0).trans (by rw [zdW])) rfl rfl rfl ?_)
     refine ⟨fun _ => .inr (by simp [zbC, Region.binds]), ?_⟩
     refine ahz (by kernel_rfl) ?_
     refine zz ?_
     refine zf ?_
     refine zy ?_
     refine dmv rfl ?_
     refine dq (zal rfl rfl (by omega) (by omega)) ?_
     refine das rfl ?_
     refine dn ?_
     exact ⟨A1, y :: B, ⟨by simp at hA ⊢; omega, zn6 hB hcx⟩, by dsimp only; simp, ⟨zbx (by simp), trivial⟩, (by repeat (first | exact zo | refine zt rfl ?_ | refine zp rfl rfl ?_)), zL (by rw [zoa]; rfl)⟩
    ·try simp at h4
     have hins := zn4 (l := l) (k := k) hx hB (by intro h0; have := h4 h0; omega)
     refine zN ?_
     refine zT ?_
     refine za3 ?_
     refine zD ?_
     refine zz ?_
     refine zf ?_
     refine zy ?_
     refine dmv rfl ?_
     refine dq (zv rfl rfl (by omega) (by omega)) ?_
     refine das rfl ?_
     refine dn ?_
     refine ⟨k + 1, ?_, ?_, ⟨rfl, trivial⟩, (by repeat (first | exact zo | refine zt rfl ?_ | refine zp rfl rfl ?_)), zL (by rw [hins])⟩
     ·omega
     ·dsimp only; omega
  ·try simp at h2
   have hend : zaY c (l.take k) ++ l.drop k = zaY c l := by rw [List.take_of_length_le (by omega), zad (by omega)]; simp
   refine zN ?_
   refine zT ?_
   refine zah ?_
   refine zD ?_
   exact ⟨_, _, Ghost.sub (Sub.refl _), _, _, rfl, Weak.refl _, rfl, by rw [hend]⟩

/-- slices.pdqsortCmpFunc[benchwarmer/api.Asset] -/
theorem zek [Tracks] {l : List Asset} {v : Value} {fid : FuncId} {caps : List HVal} {c : Asset → Asset → Int} {lim : Int} (hca : Callable Tryz.prog fid) (hp : ∀ x y, ConP Tryz.prog fid ([zbt x, zbt y] ++ caps) (.int .i64 (c x y))) (hl : l.length ≤ 12) : Con Tryz.prog 206 [.raw v, .int .i64 0, .int .i64 (l.length : Int), .int .i64 lim, .fn (.func fid) [] caps] [.arr v 3 (l.map zbt)] (fun x M' => x = .tup [] ∧ M' = [.arr v 3 ((zaY c l).map zbt)]) := by
 refine Con.of_body Tryz.func206 rfl Tryz.ntmps206 rfl rfl ?_
 refine zb ?_
 refine das rfl ?_
 refine dn ?_
 refine zb ?_
 refine das rfl ?_
 refine dn ?_
 refine zl ?_
 refine zZ (1 :: 2 :: 3 :: 10 :: 11 :: 12 :: 13 :: 14 :: 15 :: 16 :: 17 :: 18 :: 19 :: 20 :: 21 :: 22 :: 23 :: 24 :: 25 :: 26 :: 27 :: 28 :: 29 :: 30 :: 31 :: 32 :: 33 :: 34 :: 35 :: 36 :: 37 :: 38 :: 39 :: 40 :: 41 :: 42 :: 43 :: 44 :: 45 :: 46 :: 47 :: 48 :: 49 :: 50 :: 51 :: 52 :: 53 :: 54 :: 55 :: 56 :: 57 :: 58 :: 59 :: 60 :: 61 :: 62 :: 63 :: 64 :: 65 :: 66 :: 67 :: 68 :: 69 :: 70 :: 71 :: 72 :: 73 :: 74 :: 75 :: 76 :: 77 :: 78 :: 79 :: 80 :: 81 :: 82 :: 83 :: 84 :: 85 :: 86 :: 87 :: 88 :: 89 :: 90 :: 91 :: 92 :: 93 :: 94 :: 95 :: 96 :: 97 :: 98 :: 99 :: 100 :: 101 :: 102 :: 103 :: 104 :: 105 :: 106 :: 107 :: 108 :: 109 :: 110 :: 111 :: 112 :: 113 :: 114 :: 115 :: 116 :: 117 :: 118 :: 119 :: 120 :: 121 :: 122 :: 123 :: 124 :: 125 :: 126 :: 127 :: 128 :: 129 :: 130 :: 131 :: 132 :: 133 :: 134 :: 135 :: 136 :: 137 :: 138 :: 139 :: 140 :: 141 :: 142 :: 143 :: 144 :: 145 :: 146 :: 147 :: []) (fun (u : Unit) => [(1, .int .i64 0), (2, .int .i64 (l.length : Int))]) (fun (u : Unit) => [.arr v 3 (l.map zbt)]) (fun (u : Unit) => True) (fun (u : Unit) => 0) (()) ?_ ?_ ?_ ?_
 ·trivial
 ·exact ⟨rfl, rfl, trivial⟩
 ·exact List.Perm.refl _
 ·intro u hu
  refine zl ?_
  refine zb ?_
  refine dmv rfl ?_
  refine dmv rfl ?_
  refine dq (zal rfl rfl (by omega) (by omega)) ?_
  refine das rfl ?_
  refine dn ?_
  refine zh ?_
  refine zb ?_
  refine dmv rfl ?_
  refine dq (zda rfl rfl) ?_
  refine dn ?_
  refine zj rfl (fun h1 => ?_) (fun h1 => ?_)
  ·try simp at h1
   refine zb ?_
   refine dmv rfl ?_
   refine dmv rfl ?_
   refine dmv rfl ?_
   refine dmv rfl ?_
   refine de rfl (zi (i := 0) zu0 rfl (WeakL.refl _) rfl (zdA (l := l) hca hp (by omega) (by omega)) ?_)
   rintro _ _ ⟨rfl, rfl⟩
   refine dn ?_
   refine zn ?_
   exact zbs rfl ⟨rfl, rfl⟩
  ·exfalso
   try simp at h1
   omega

/-- slices.SortFunc[[]benchwarmer/api.Asset,benchwarmer/api.Asset] -/
theorem zdK [Tracks] {l : List Asset} {v : Value} {fid : FuncId} {caps : List HVal} {c : Asset → Asset → Int} (hca : Callable Tryz.prog fid) (hp : ∀ x y, ConP Tryz.prog fid ([zbt x, zbt y] ++ caps) (.int .i64 (c x y))) (hl : l.length ≤ 12) : Con Tryz.prog 188 [.raw v, .fn (.func fid) [] caps] [.arr v 3 (l.map zbt)] (fun x M' => x = .tup [] ∧ M' = [.arr v 3 ((zaY c l).map zbt)]) := by
 refine Con.of_body Tryz.func188 rfl Tryz.ntmps188 rfl rfl ?_
 refine zb ?_
 refine dmv rfl ?_
 refine de rfl (zaP (i := 0) zch rfl rfl ?_)
 refine das rfl ?_
 refine dn ?_
 refine zy ?_
 refine dmv rfl ?_
 refine dmv rfl ?_
 refine dmv rfl ?_
 refine dq (zcy (zbX ty3 zfs rfl) (congrArg _ (zpw (by omega)))) ?_
 refine de rfl (zbP (M1 := []) (R := [_]) zr6 rfl (WeakL.refl _) (List.Perm.refl _) (ziF (x := l.length) (by omega)) ?_)
 rintro _ _ ⟨n11, rfl, rfl⟩
 refine dmv rfl ?_
 refine de rfl (zi (i := 0) zvu rfl (WeakL.refl _) rfl (zek hca hp hl) ?_)
 rintro _ _ ⟨rfl, rfl⟩
 refine dn ?_
 exact ⟨_, _, Ghost.sub (Sub.refl _), _, _, rfl, Weak.refl _, rfl, rfl⟩
end
section
open Go.HL

end
section
open Go.HL
/-- benchwarmer/value.assetFault -/
theorem ziG [Tracks] {x : Asset}  : ConP Tryz.prog 157 [zbt x] (.int .i64 (assetFault x)) := by
 refine Con.of_body Tryz.func157 rfl Tryz.ntmps157 rfl rfl ?_
 refine zb ?_
 refine dq (zaC rfl rfl) ?_
 refine das rfl ?_
 refine dn ?_
 refine zh ?_
 refine zl ?_
 refine zb ?_
 refine dq (zc zaH rfl ty9 (by decide) rfl) ?_
 refine dq (ze ty9 rfl rfl rfl) ?_
 refine dq (zq zf9 rfl (WeakL.refl _) zbZ) ?_
 refine dq (zao rfl) ?_
 refine dmv rfl ?_
 refine dg rfl rfl (fun hc => ⟨_, OpenTo.refl _, zc zaH rfl ty9 (by decide) rfl⟩) ?_
 refine dg rfl rfl (fun hc => ⟨_, OpenTo.upd (t := 9) rfl (hc) (OpenTo.refl _), ze ty9 rfl rfl rfl⟩) ?_
 refine dg rfl rfl (fun hc => ⟨_, OpenTo.upd (t := 10) rfl (hc) (OpenTo.refl _), zq zf9 rfl (WeakL.refl _) zbZ⟩) ?_
 refine dg rfl rfl (fun hc => ⟨_, OpenTo.upd (t := 11) rfl (hc) (OpenTo.refl _), zao rfl⟩) ?_
 refine dq (zB rfl (.inl rfl) (.inr ⟨_, rfl, fun h => by simp_all⟩)) ?_
 refine das rfl ?_
 refine dn ?_
 refine zj rfl (fun h1 => ?_) (fun h2 => ?_)
 ·try simp at h1
  refine zb ?_
  refine das rfl ?_
  refine dn ?_
  refine zn ?_
  refine zA rfl ?_
  show HVal.int .i64 _ = _
  simp_all [assetFault]
 ·try simp at h2
  refine zb ?_
  refine dq (zc zaH rfl ty3 (by decide) rfl) ?_
  refine dq (ze ty3 rfl rfl rfl) ?_
  refine dq (zq zcR rfl (WeakL.refl _) za5) ?_
  refine das rfl ?_
  refine dn ?_
  refine zj rfl (fun h3 => ?_) (fun h4 => ?_)
  ·try simp at h3
   refine zb ?_
   refine das rfl ?_
   refine dn ?_
   refine zn ?_
   refine zA rfl ?_
   show HVal.int .i64 _ = _
   simp_all [assetFault]
  ·try simp at h4
   refine zk ?_
   refine zz ?_
   refine zf ?_
   refine zb ?_
   refine das rfl ?_
   refine dn ?_
   refine zn ?_
   refine zA rfl ?_
   show HVal.int .i64 _ = _
   simp_all [assetFault]

/-- benchwarmer/value.CheckAssets -/
theorem zh5 [Tracks] {l : List Asset} (hl : l.length ≤ 1000000) : ConP Tryz.prog 101 [zf6 l] (.int .i64 (zcp l)) := by
 refine Con.of_body Tryz.func101 rfl Tryz.ntmps101 rfl rfl ?_
 refine zb ?_
 refine das rfl ?_
 refine dn ?_
 refine zh ?_
 refine zb ?_
 refine dmv rfl ?_
 refine dq (zF zch rfl) ?_
 refine dq (zai rfl rfl) ?_
 refine dn ?_
 refine zj rfl (fun h1 => ?_) (fun h2 => ?_)
 ·try simp at h1
  refine zb ?_
  refine das rfl ?_
  refine dn ?_
  refine zn ?_
  refine zA rfl ?_
  show HVal.int .i64 _ = _
  (rw [zcp, if_pos (by omega)]; done)
 ·try simp at h2
  refine zk ?_
  refine zf ?_
  refine zh ?_
  refine zb ?_
  refine dmv rfl ?_
  refine dq (zF zch rfl) ?_
  refine dmv rfl ?_
  refine dn ?_
  refine zl ?_
  refine zZ [2, 3, 4, 5, 11, 12, 13, 14, 15, 16, 17, 18, 19, 20, 21, 22, 23, 24, 25, 26, 27, 28, 29, 30, 31, 32, 33, 34] (fun (k : Nat) => [(11, .int .i64 k)]) (fun (k : Nat) => []) (fun (k : Nat) => k ≤ l.length ∧ (zcp l = zdu l k (l.drop k))) (fun (k : Nat) => l.length - k) (0) ?_ ?_ ?_ ?_
  ·refine ⟨Nat.zero_le _, ?_⟩
   rw [zcp, if_neg (by omega)]; rfl
  ·exact ⟨rfl, trivial⟩
  ·exact List.Perm.refl _
  ·intro k hinv
   obtain ⟨hk, hg⟩ := hinv
   refine zb ?_
   refine dq (zO rfl rfl) ?_
   refine dn ?_
   refine zh ?_
   refine zj rfl (fun h3 => ?_) (fun h4 => ?_)
   ·try simp at h3
    obtain ⟨x, hx⟩ : ∃ x, l[k]? = some x := ⟨_, List.getElem?_eq_getElem h3⟩
    have hdx := zQ hx
    rw [hdx] at hg
    refine zk ?_
    refine zf ?_
    refine zh ?_
    refine zl ?_
    refine zb ?_
    refine dmv rfl ?_
    refine dq (zJ zch zaH rfl rfl rfl (by assumption)) ?_
    refine dq (zV zaH rfl rfl rfl rfl) ?_
    refine de rfl (zX zaH rfl fun b4 => ?_)
    refine das rfl ?_
    refine de0 (zag zaH rfl rfl rfl rfl rfl ?_)
    refine dn ?_
    refine zI (Ghost.fc0 4 rfl) ?_
    refine zh ?_
    refine zb ?_
    refine dq (zV zaH rfl rfl rfl rfl) ?_
    refine dq (zq zvn rfl (WeakL.refl _) ziG) ?_
    refine das rfl ?_
    refine dn ?_
    refine zb ?_
    refine dmv rfl ?_
    refine dq (zaM rfl rfl) ?_
    refine dn ?_
    refine zj rfl (fun h5 => ?_) (fun h6 => ?_)
    ·try simp at h5
     refine zb ?_
     refine dmv rfl ?_
     refine das rfl ?_
     refine dn ?_
     refine zn ?_
     refine zA rfl ?_
     show HVal.int .i64 _ = _
     (rw [hg]; simp_all [zdu, leS]; done)
    ·try simp at h6
     refine zk ?_
     refine zf ?_
     refine za9 (fun _ => True) [] mixed ?_
     refine ahp 0 rfl rfl (by kernel_rfl) (by kernel_rfl) (zg rfl) ?_
     refine ahp 1 rfl rfl (by kernel_rfl) (by kernel_rfl) (zai rfl rfl) ?_
     refine ahp 2 rfl rfl (by kernel_rfl) (by kernel_rfl) (zg rfl) ?_
     refine ahg 3 rfl rfl (by kernel_rfl) (by kernel_rfl) rfl (fun hc => ⟨_, OpenTo.refl _, zc zaH rfl ty9 (by decide) rfl⟩) ?_
     refine ahg 4 rfl rfl (by kernel_rfl) (by kernel_rfl) rfl (fun hc => ⟨_, OpenTo.upd (t := 24) rfl (hc) (OpenTo.refl _), ze ty9 rfl rfl rfl⟩) ?_
     refine ahg 5 rfl rfl (by kernel_rfl) (by kernel_rfl) rfl (fun hc => ⟨_, OpenTo.refl _, zg rfl⟩) ?_
     refine ahg 6 rfl rfl (by kernel_rfl) (by kernel_rfl) rfl (fun hc => ⟨_, OpenTo.refl _, zg rfl⟩) ?_
     refine ahg 7 rfl rfl (by kernel_rfl) (by kernel_rfl) rfl (fun hc => by have hq := hc; (try simp at hq); exact ⟨_, OpenTo.upd (t := 27) rfl (hc) (OpenTo.refl _), zal rfl rfl (by omega) (by omega)⟩) ?_
     refine ahg 8 rfl rfl (by kernel_rfl) (by kernel_rfl) rfl (fun hc => by have hq := hc; (try simp at hq); exact ⟨_, OpenTo.upd (t := 28) rfl (hc) (OpenTo.upd (t := 26) rfl (hc) (OpenTo.refl _)), zJ (j := k - 1) (a := l.getD (k - 1) ziS) zch zaH rfl rfl (by omega) (getD_some (by omega))⟩) ?_
     refine ahg 9 rfl rfl (by kernel_rfl) (by kernel_rfl) rfl (fun hc => ⟨_, OpenTo.upd (t := 29) rfl (hc) (OpenTo.refl _), zc zaH rfl ty9 (by decide) rfl⟩) ?_
     refine ahg 10 rfl rfl (by kernel_rfl) (by kernel_rfl) rfl (fun hc => ⟨_, OpenTo.upd (t := 30) rfl (hc) (OpenTo.refl _), ze ty9 rfl rfl rfl⟩) ?_
     refine ahg 11 rfl rfl (by kernel_rfl) (by kernel_rfl) rfl (fun hc => ⟨_, OpenTo.upd (t := 31) rfl (hc) (OpenTo.upd (t := 25) rfl (hc) (OpenTo.refl _)), zdv rfl rfl⟩) ?_
     refine ahp 12 rfl rfl (by kernel_rfl) (by kernel_rfl) (zB rfl (.inr ⟨_, rfl, fun h => by simp_all⟩) (.inl rfl)) ?_
     refine ahz (by kernel_rfl) ?_
     refine zj rfl (fun h7 => ?_) (fun h8 => ?_)
     ·try simp at h7
      refine zb ?_
      refine das rfl ?_
      refine dn ?_
      refine zn ?_
      refine zA rfl ?_
      show HVal.int .i64 _ = _
      (rw [hg]; simp_all [zdu, leS]; done)
     ·try simp at h8
      refine zk ?_
      refine zz ?_
      refine zf ?_
      refine zy ?_
      refine dq (zv rfl rfl (by omega) (by omega)) ?_
      refine dmv rfl ?_
      refine dn ?_
      refine ⟨k + 1, ?_, ?_, ⟨rfl, trivial⟩, (by repeat (first | exact zo | refine zt rfl ?_ | refine zp rfl rfl ?_)), List.Perm.refl _⟩
      ·refine ⟨by omega, ?_⟩
       rw [hg]; simp_all [zdu, leS]
      ·dsimp only; omega
   ·try simp at h4
    have hnk : l.length ≤ k := by omega
    obtain rfl : k = l.length := by omega
    rw [zad (Nat.le_refl _)] at hg
    refine zN ?_
    refine zT ?_
    refine zah ?_
    refine zD ?_
    refine zf ?_
    refine zb ?_
    refine das rfl ?_
    refine dn ?_
    refine zn ?_
    refine zA rfl ?_
    show HVal.int .i64 _ = _
    (rw [hg]; simp_all [zdu, leS]; done)

/-- benchwarmer/value.CheckPlaces -/
theorem zh6 [Tracks] {l : List HL.Place} (hl : l.length ≤ 1000000) : ConP Tryz.prog 102 [zjg l] (.int .i64 (zco l)) := by
 refine Con.of_body Tryz.func102 rfl Tryz.ntmps102 rfl rfl ?_
 refine zb ?_
 refine das rfl ?_
 refine dn ?_
 refine zh ?_
 refine zb ?_
 refine dmv rfl ?_
 refine dq (zF zhM rfl) ?_
 refine dq (zai rfl rfl) ?_
 refine dn ?_
 refine zj rfl (fun h1 => ?_) (fun h2 => ?_)
 ·try simp at h1
  refine zb ?_
  refine das rfl ?_
  refine dn ?_
  refine zn ?_
  refine zA rfl ?_
  show HVal.int .i64 _ = _
  (rw [zco, if_pos (by omega)]; done)
 ·try simp at h2
  refine zk ?_
  refine zf ?_
  refine zh ?_
  refine zb ?_
  refine dmv rfl ?_
  refine dq (zF zhM rfl) ?_
  refine dmv rfl ?_
  refine dn ?_
  refine zl ?_
  refine zZ [2, 3, 4, 10, 11, 12, 13, 14, 15, 16, 17, 18, 19, 20, 21, 22, 23, 24, 25, 26, 27, 28, 29, 30, 31, 32, 33, 34, 35, 36, 37, 38] (fun (k : Nat) => [(10, .int .i64 k)]) (fun (k : Nat) => []) (fun (k : Nat) => k ≤ l.length ∧ (zco l = zc0 l k (l.drop k))) (fun (k : Nat) => l.length - k) (0) ?_ ?_ ?_ ?_
  ·refine ⟨Nat.zero_le _, ?_⟩
   rw [zco, if_neg (by omega)]; rfl
  ·exact ⟨rfl, trivial⟩
  ·exact List.Perm.refl _
  ·intro k hinv
   obtain ⟨hk, hg⟩ := hinv
   refine zb ?_
   refine dq (zO rfl rfl) ?_
   refine dn ?_
   refine zh ?_
   refine zj rfl (fun h3 => ?_) (fun h4 => ?_)
   ·try simp at h3
    obtain ⟨x, hx⟩ : ∃ x, l[k]? = some x := ⟨_, List.getElem?_eq_getElem h3⟩
    have hdx := zQ hx
    rw [hdx] at hg
    refine zk ?_
    refine zf ?_
    refine zh ?_
    refine zl ?_
    refine zb ?_
    refine dmv rfl ?_
    refine dq (zJ zhM zcL rfl rfl rfl (by assumption)) ?_
    refine dq (zV zcL rfl rfl rfl rfl) ?_
    refine de rfl (zX zcL rfl fun b4 => ?_)
    refine das rfl ?_
    refine de0 (zag zcL rfl rfl rfl rfl rfl ?_)
    refine dn ?_
    refine zI (Ghost.fc0 4 rfl) ?_
    refine zl ?_
    refine zb ?_
    refine dq (zc zcL rfl ty9 (by decide) rfl) ?_
    refine dq (ze ty9 rfl rfl rfl) ?_
    refine dq (zq zf9 rfl (WeakL.refl _) zbZ) ?_
    refine dq (zao rfl) ?_
    refine das rfl ?_
    refine dn ?_
    refine zj rfl (fun h5 => ?_) (fun h6 => ?_)
    ·try simp at h5
     refine zb ?_
     refine das rfl ?_
     refine dn ?_
     refine zn ?_
     refine zA rfl ?_
     show HVal.int .i64 _ = _
     (rw [hg]; simp_all [zc0, leS]; done)
    ·try simp at h6
     refine zb ?_
     refine dq (zc zcL rfl ty3 (by decide) rfl) ?_
     refine dq (ze ty3 rfl rfl rfl) ?_
     refine dq (zq zcR rfl (WeakL.refl _) za5) ?_
     refine das rfl ?_
     refine dn ?_
     refine zj rfl (fun h7 => ?_) (fun h8 => ?_)
     ·try simp at h7
      refine zb ?_
      refine das rfl ?_
      refine dn ?_
      refine zn ?_
      refine zA rfl ?_
      show HVal.int .i64 _ = _
      (rw [hg]; simp_all [zc0, leS]; done)
     ·try simp at h8
      refine za9 (fun _ => True) [] mixed ?_
      refine ahp 0 rfl rfl (by kernel_rfl) (by kernel_rfl) (zg rfl) ?_
      refine ahp 1 rfl rfl (by kernel_rfl) (by kernel_rfl) (zai rfl rfl) ?_
      refine ahp 2 rfl rfl (by kernel_rfl) (by kernel_rfl) (zg rfl) ?_
      refine ahg 3 rfl rfl (by kernel_rfl) (by kernel_rfl) rfl (fun hc => ⟨_, OpenTo.refl _, zc zcL rfl ty9 (by decide) rfl⟩) ?_
      refine ahg 4 rfl rfl (by kernel_rfl) (by kernel_rfl) rfl (fun hc => ⟨_, OpenTo.upd (t := 28) rfl (hc) (OpenTo.refl _), ze ty9 rfl rfl rfl⟩) ?_
      refine ahg 5 rfl rfl (by kernel_rfl) (by kernel_rfl) rfl (fun hc => ⟨_, OpenTo.refl _, zg rfl⟩) ?_
      refine ahg 6 rfl rfl (by kernel_rfl) (by kernel_rfl) rfl (fun hc => ⟨_, OpenTo.refl _, zg rfl⟩) ?_
      refine ahg 7 rfl rfl (by kernel_rfl) (by kernel_rfl) rfl (fun hc => by have hq := hc; (try simp at hq); exact ⟨_, OpenTo.upd (t := 31) rfl (hc) (OpenTo.refl _), zal rfl rfl (by omega) (by omega)⟩) ?_
      refine ahg 8 rfl rfl (by kernel_rfl) (by kernel_rfl) rfl (fun hc => by have hq := hc; (try simp at hq); exact ⟨_, OpenTo.upd (t := 32) rfl (hc) (OpenTo.upd (t := 30) rfl (hc) (OpenTo.refl _)), zJ (j := k - 1) (a := l.getD (k - 1) znM) zhM zcL rfl rfl (by omega) (getD_some (by omega))⟩) ?_
      refine ahg 9 rfl rfl (by kernel_rfl) (by kernel_rfl) rfl (fun hc => ⟨_, OpenTo.upd (t := 33) rfl (hc) (OpenTo.refl _), zc zcL rfl ty9 (by decide) rfl⟩) ?_
      refine ahg 10 rfl rfl (by kernel_rfl) (by kernel_rfl) rfl (fun hc => ⟨_, OpenTo.upd (t := 34) rfl (hc) (OpenTo.refl _), ze ty9 rfl rfl rfl⟩) ?_
      refine ahg 11 rfl rfl (by kernel_rfl) (by kernel_rfl) rfl (fun hc => ⟨_, OpenTo.upd (t := 35) rfl (hc) (OpenTo.upd (t := 29) rfl (hc) (OpenTo.refl _)), zdv rfl rfl⟩) ?_
      refine ahp 12 rfl rfl (by kernel_rfl) (by kernel_rfl) (zB rfl (.inr ⟨_, rfl, fun h => by simp_all⟩) (.inl rfl)) ?_
      refine ahp 13 rfl rfl (by kernel_rfl) (by kernel_rfl) (zaW rfl) ?_
      refine ahz (by kernel_rfl) ?_
      refine zj rfl (fun h9 => ?_) (fun h10 => ?_)
      ·try simp at h9
       refine zb ?_
       refine das rfl ?_
       refine dn ?_
       refine zn ?_
       refine zA rfl ?_
       show HVal.int .i64 _ = _
       (rw [hg]; simp_all [zc0, leS]; done)
      ·try simp at h10
       refine zk ?_
       refine zz ?_
       refine zz ?_
       refine zf ?_
       refine zy ?_
       refine dq (zv rfl rfl (by omega) (by omega)) ?_
       refine dmv rfl ?_
       refine dn ?_
       refine ⟨k + 1, ?_, ?_, ⟨rfl, trivial⟩, (by repeat (first | exact zo | refine zt rfl ?_ | refine zp rfl rfl ?_)), List.Perm.refl _⟩
       ·refine ⟨by omega, ?_⟩
        rw [hg]; simp_all [zc0, leS]
       ·dsimp only; omega
   ·try simp at h4
    have hnk : l.length ≤ k := by omega
    obtain rfl : k = l.length := by omega
    rw [zad (Nat.le_refl _)] at hg
    refine zN ?_
    refine zT ?_
    refine zah ?_
    refine zD ?_
    refine zf ?_
    refine zb ?_
    refine das rfl ?_
    refine dn ?_
    refine zn ?_
    refine zA rfl ?_
    show HVal.int .i64 _ = _
    (rw [hg]; simp_all [zc0, leS]; done)

/-- benchwarmer/value.byValue -/
theorem zlB [Tracks] {x y : Asset}  : ConP Tryz.prog 189 [zbt x, zbt y] (.int .i64 (byValue x y)) := by
 refine Con.of_body Tryz.func189 rfl Tryz.ntmps189 rfl rfl ?_
 refine zb ?_
 refine dq (zaC rfl rfl) ?_
 refine dq (zaC rfl rfl) ?_
 refine das rfl ?_
 refine dn ?_
 refine za9 (fun _ => True) [] mixed ?_
 refine ahp 0 rfl rfl (by kernel_rfl) (by kernel_rfl) (zc zaH rfl ty3 (by decide) rfl) ?_
 refine ahp 1 rfl rfl (by kernel_rfl) (by kernel_rfl) (ze ty3 rfl rfl rfl) ?_
 refine ahp 2 rfl rfl (by kernel_rfl) (by kernel_rfl) (zc zaH rfl ty3 (by decide) rfl) ?_
 refine ahp 3 rfl rfl (by kernel_rfl) (by kernel_rfl) (ze ty3 rfl rfl rfl) ?_
 refine ahp 4 rfl rfl (by kernel_rfl) (by kernel_rfl) (zq zqI rfl (WeakL.refl _) zeh) ?_
 refine ahp 5 rfl rfl (by kernel_rfl) (by kernel_rfl) (zc zaH rfl ty9 (by decide) rfl) ?_
 refine ahp 6 rfl rfl (by kernel_rfl) (by kernel_rfl) (ze ty9 rfl rfl rfl) ?_
 refine ahp 7 rfl rfl (by kernel_rfl) (by kernel_rfl) (zc zaH rfl ty9 (by decide) rfl) ?_
 refine ahp 8 rfl rfl (by kernel_rfl) (by kernel_rfl) (ze ty9 rfl rfl rfl) ?_
 refine ahp 9 rfl rfl (by kernel_rfl) (by kernel_rfl) (zq zms rfl (WeakL.refl _) zb0) ?_
 refine ahp 10 rfl rfl (by kernel_rfl) (by kernel_rfl) (zK (hs := [_, _]) zU ty3 rfl rfl (by decide) (by decide) rfl) ?_
 refine ahp 11 rfl rfl (by kernel_rfl) (by kernel_rfl) (zq zqy rfl (WeakL.refl _) (zgf (l := [_, _]) (by simp))) ?_
 refine ahp 12 rfl rfl (by kernel_rfl) (by kernel_rfl) (zaW rfl) ?_
 refine ahz (by kernel_rfl) ?_
 refine zn ?_
 refine zA rfl ?_
 rfl

/-- benchwarmer/value.of -/
theorem zqt [Tracks] {l : List Asset} {pos : Str} (hl : l.length ≤ 12) : ConP Tryz.prog 158 [zf6 l, .str pos] (zf6 (ofP l pos)) := by
 refine Con.of_body Tryz.func158 rfl Tryz.ntmps158 rfl rfl ?_
 refine zb ?_
 refine das rfl ?_
 refine dn ?_
 refine zb ?_
 refine das rfl ?_
 refine dn ?_
 refine zI (Ghost.arr_nil 3) ?_
 refine zh ?_
 refine zb ?_
 refine dmv rfl ?_
 refine dq (zF zch rfl) ?_
 refine dmv rfl ?_
 refine dn ?_
 refine zl ?_
 refine zaS [5, 7, 10, 11, 12, 13, 14, 15, 16, 17, 18, 19, 20, 21, 22] (fun (k : Nat) (u : Value) => [(10, .int .i64 k), (5, .raw u)]) (fun (k : Nat) (u : Value) => [.arr u 3 ((ze5 (l.take k) pos).map zbt)]) (fun (k : Nat) (u : Value) => k ≤ l.length ∧ (True)) (fun (k : Nat) (u : Value) => l.length - k) (0) (.slice none 0 0) ?_ ?_ ?_ ?_
 ·exact ⟨Nat.zero_le _, by simp_all⟩
 ·exact ⟨rfl, rfl, trivial⟩
 ·exact zL (by simp [ze5])
 ·intro k u hinv
  obtain ⟨hk, -⟩ := hinv
  refine zb ?_
  refine dq (zO rfl rfl) ?_
  refine dn ?_
  refine zh ?_
  refine zj rfl (fun h1 => ?_) (fun h2 => ?_)
  ·try simp at h1
   obtain ⟨x, hx⟩ : ∃ x, l[k]? = some x := ⟨_, List.getElem?_eq_getElem h1⟩
   have hdx := zQ hx
   refine zk ?_
   refine zf ?_
   refine zh ?_
   refine zl ?_
   refine zb ?_
   refine dq (zJ zch zaH rfl rfl rfl (by assumption)) ?_
   refine dq (zV zaH rfl rfl rfl rfl) ?_
   refine de rfl (zX zaH rfl fun b7 => ?_)
   refine de0 (zag zaH rfl rfl rfl rfl rfl ?_)
   refine dn ?_
   refine zI (Ghost.fc0 7 rfl) ?_
   refine zb ?_
   refine dq (zc zaH rfl ty9 (by decide) rfl) ?_
   refine dq (ze ty9 rfl rfl rfl) ?_
   refine dmv rfl ?_
   refine dq (zaX rfl rfl) ?_
   refine dn ?_
   refine zj rfl (fun h3 => ?_) (fun h4 => ?_)
   ·try simp at h3
    refine zy ?_
    refine dmv rfl ?_
    refine dq (zV zaH rfl rfl rfl rfl) ?_
    refine dq (zK (hs := [_]) zch zaH rfl rfl (by decide) (by decide) rfl) ?_
    have hal : (ze5 (l.take k) pos).length ≤ 12 := Nat.le_trans (zj5 _ _) (by simp; omega)
    refine de rfl (zam (i := 0) zch zaH rfl rfl rfl rfl rfl (by simp [zaD, zm]) (by simp; omega) fun v21 => ?_)
    refine das rfl ?_
    refine dn ?_
    refine zz ?_
    refine zf ?_
    refine zy ?_
    refine dq (zv rfl rfl (by omega) (by omega)) ?_
    refine dmv rfl ?_
    refine dn ?_
    exact ⟨k + 1, _, ⟨by omega, trivial⟩, by dsimp only; omega, ⟨rfl, rfl, trivial⟩, (by repeat (first | exact zo | refine zt rfl ?_ | refine zp rfl rfl ?_)), zL (by dsimp only; rw [zlz hx, if_pos (by simp_all)]; simp)⟩
   ·try simp at h4
    refine zk ?_
    refine zz ?_
    refine zf ?_
    refine zy ?_
    refine dq (zv rfl rfl (by omega) (by omega)) ?_
    refine dmv rfl ?_
    refine dn ?_
    exact ⟨k + 1, _, ⟨by omega, trivial⟩, by dsimp only; omega, ⟨rfl, rfl, trivial⟩, (by repeat (first | exact zo | refine zt rfl ?_ | refine zp rfl rfl ?_)), zL (by dsimp only; rw [zlz hx, if_neg (by simp_all)]; simp)⟩
  ·try simp at h2
   have hnk : l.length ≤ k := by omega
   obtain rfl : k = l.length := by omega
   rw [List.take_length]
   refine zN ?_
   refine zT ?_
   refine za3 ?_
   refine zD ?_
   refine zf ?_
   have hal := zj5 l pos
   refine zb ?_
   refine dmv rfl ?_
   refine de rfl (zi (i := 0) zu2 rfl (WeakL.refl _) rfl (zdK (l := ze5 l pos) (c := byValue) (caps := []) zu7 (fun x y => zlB) (by omega)) ?_)
   rintro _ _ ⟨rfl, rfl⟩
   refine dn ?_
   refine zb ?_
   refine dmv rfl ?_
   refine das rfl ?_
   refine dn ?_
   refine zn ?_
   exact ziC (M := []) 4 rfl rfl rfl

set_option maxHeartbeats 1000000 in
/-- benchwarmer/value.fielded -/
theorem zle [Tracks] {l : List Asset} {p : List HL.Place} (hl : l.length ≤ 12) (hp : p.length ≤ 10) (hm : ∀ x ∈ p, 0 ≤ x.Many) (hv : ∀ x ∈ l, -1000000 ≤ x.Value ∧ x.Value ≤ 1000000) : ConP Tryz.prog 103 [zf6 l, zjg p] (.tup [.int .i64 (zc9 (zaB (ofP l) p)), eSs (zlJ (zaB (ofP l) p))]) := by
 have hon : ∀ s, (ofP l s).length ≤ 12 := fun s => Nat.le_trans (ztZ l s) hl
 refine Con.of_body Tryz.func103 rfl Tryz.ntmps103 rfl rfl ?_
 refine zb ?_
 refine das rfl ?_
 refine das rfl ?_
 refine dn ?_
 refine zb ?_
 refine das rfl ?_
 refine dn ?_
 refine zb ?_
 refine das rfl ?_
 refine dn ?_
 refine zI (Ghost.arr_nil 1) ?_
 refine zh ?_
 refine zb ?_
 refine dmv rfl ?_
 refine dq (zF zhM rfl) ?_
 refine dmv rfl ?_
 refine dn ?_
 refine zl ?_
 refine zaS [6, 7, 9, 10, 12, 15, 16, 17, 18, 19, 20, 21, 22, 23, 24, 25, 26, 27, 28, 29, 30, 31, 32, 33, 34, 35, 36, 37, 38, 39, 40, 41, 42, 43, 44, 45, 46, 47, 48] (fun (i : Nat) (u : Value) => [(15, .int .i64 i), (6, .int .i64 (zc9 (zaB (ofP l) (p.take i)))), (7, .raw u)]) (fun (i : Nat) (u : Value) => [.arr u 1 (((zaB (ofP l) (p.take i)).map (·.Player)).map .str)]) (fun (i : Nat) (u : Value) => i ≤ p.length ∧ (True)) (fun (i : Nat) (u : Value) => p.length - i) (0) (.slice none 0 0) ?_ ?_ ?_ ?_
 ·exact ⟨Nat.zero_le _, by simp_all⟩
 ·exact ⟨rfl, zbx (by simp [zaB, zc9]), rfl, trivial⟩
 ·exact zL (by simp [zaB])
 ·intro i u hinv
  obtain ⟨hi, -⟩ := hinv
  refine zb ?_
  refine dq (zO rfl rfl) ?_
  refine dn ?_
  refine zh ?_
  refine zj rfl (fun h1 => ?_) (fun h2 => ?_)
  ·try simp at h1
   obtain ⟨x, hx⟩ : ∃ x, p[i]? = some x := ⟨_, List.getElem?_eq_getElem h1⟩
   have hdx := zQ hx
   refine zk ?_
   refine zf ?_
   refine zh ?_
   refine zl ?_
   refine zb ?_
   refine dq (zJ zhM zcL rfl rfl rfl (by assumption)) ?_
   refine dq (zV zcL rfl rfl rfl rfl) ?_
   refine de rfl (zX zcL rfl fun b9 => ?_)
   refine de0 (zag zcL rfl rfl rfl rfl rfl ?_)
   refine dn ?_
   refine zI (Ghost.fc0 9 rfl) ?_
   refine zb ?_
   refine dmv rfl ?_
   refine dq (zc zcL rfl ty9 (by decide) rfl) ?_
   refine dq (ze ty9 rfl rfl rfl) ?_
   refine dq (zq zvx rfl (WeakL.refl _) (zqt (by assumption))) ?_
   refine das rfl ?_
   refine dn ?_
   have hx0 := hm x (List.mem_of_getElem? hx)
   have hon1 := hon x.Position
   obtain ⟨N, hN⟩ : ∃ N : Nat, (if ((ofP l x.Position).length : Int) < x.Many then ((ofP l x.Position).length : Int) else x.Many) = (N : Int) := ⟨_, (Int.toNat_of_nonneg (by split <;> omega)).symm⟩
   have hNle : N ≤ (ofP l x.Position).length := by split at hN <;> omega
   refine zb ?_
   refine dmv rfl ?_
   refine dq (zc zcL rfl ty3 (by decide) rfl) ?_
   refine dq (ze ty3 rfl rfl rfl) ?_
   refine dmv rfl ?_
   refine dq (zF zch rfl) ?_
   refine dq (zcy (zt2 rfl rfl) (congrArg _ hN)) ?_
   refine dq (zdx (h := N) zch zaH rfl rfl ⟨_, _, rfl, rfl⟩ (by omega) hNle) ?_
   refine dq (zF zch rfl) ?_
   refine dmv rfl ?_
   refine dn ?_
   have hCl : ((List.drop 0 (List.take N (ofP l x.Position)))).length ≤ 12 := by simp; omega
   have hCm : ∀ y ∈ (List.drop 0 (List.take N (ofP l x.Position))), y ∈ l := fun y hy => by
    have := List.mem_of_mem_take (List.mem_of_mem_drop hy)
    unfold ofP ze5 at this
    exact (List.mem_filter.1 ((ziM _).1 this)).1
   generalize hCd : List.drop 0 (List.take N (ofP l x.Position)) = C at *
   refine zl ?_
   refine zaS [6, 7, 12, 31, 32, 33, 34, 35, 36, 37, 38, 39, 40, 41, 42, 43, 44, 45, 46, 47] (fun (k : Nat) (w : Value) => [(31, .int .i64 k), (6, .int .i64 (zc9 ((zaB (ofP l) (p.take i)) ++ ((C.take k).filter (fun y => decide (0 < y.Value)))))), (7, .raw w)]) (fun (k : Nat) (w : Value) => [.arr w 1 ((((zaB (ofP l) (p.take i)) ++ ((C.take k).filter (fun y => decide (0 < y.Value)))).map (·.Player)).map .str)]) (fun (k : Nat) (w : Value) => k ≤ C.length ∧ (True)) (fun (k : Nat) (w : Value) => C.length - k) (0) (u) ?_ ?_ ?_ ?_
   ·exact ⟨Nat.zero_le _, by simp_all⟩
   ·exact ⟨rfl, zbx (by simp), rfl, trivial⟩
   ·exact zL (by simp)
   ·intro k w hinv
    obtain ⟨hk, -⟩ := hinv
    refine zb ?_
    refine dq (zO rfl rfl) ?_
    refine dn ?_
    refine zh ?_
    refine zj rfl (fun h3 => ?_) (fun h4 => ?_)
    ·try simp at h3
     obtain ⟨y, hy⟩ : ∃ y, C[k]? = some y := ⟨_, List.getElem?_eq_getElem h3⟩
     have hdy := zQ hy
     refine zk ?_
     refine zf ?_
     refine zh ?_
     refine zl ?_
     refine zb ?_
     refine dq (zJ zch zaH rfl rfl rfl (by assumption)) ?_
     refine dq (zV zaH rfl rfl rfl rfl) ?_
     refine de rfl (zX zaH rfl fun b12 => ?_)
     refine de0 (zag zaH rfl rfl rfl rfl rfl ?_)
     refine dn ?_
     refine zI (Ghost.fc0 12 rfl) ?_
     refine zb ?_
     refine dq (zc zaH rfl ty3 (by decide) rfl) ?_
     refine dq (ze ty3 rfl rfl rfl) ?_
     refine dq (zai rfl rfl) ?_
     refine dn ?_
     refine zj rfl (fun h5 => ?_) (fun h6 => ?_)
     ·try simp at h5
      refine zb ?_
      refine dmv rfl ?_
      refine dq (zc zaH rfl ty3 (by decide) rfl) ?_
      refine dq (ze ty3 rfl rfl rfl) ?_
      have hb1 := zoW (f := ofP l) (p := p) (i := i) (fun s m y => zlC) hon hp hv
      have hb2 := zub (k := k) hCm hCl hv
      have hb3 := hv y (hCm y (List.mem_of_getElem? hy))
      have hb4 := zoI (zaB (ofP l) (p.take i)) ((C.take k).filter (fun y => decide (0 < y.Value)))
      refine dq (zv rfl rfl (by omega) (by omega)) ?_
      refine das rfl ?_
      refine dn ?_
      refine zy ?_
      refine dmv rfl ?_
      refine dq (zc zaH rfl ty9 (by decide) rfl) ?_
      refine dq (ze ty9 rfl rfl rfl) ?_
      refine dq (zK (hs := [_]) zG ty9 rfl rfl (by decide) (by decide) rfl) ?_
      refine de rfl (zam (i := 0) zG ty9 rfl rfl rfl rfl rfl (by simp [zaD, zm]) (by simp only [List.length_map, List.length_append, List.length_cons, List.length_nil]; omega) fun v46 => ?_)
      refine das rfl ?_
      refine dn ?_
      refine zz ?_
      refine zf ?_
      refine zy ?_
      refine dq (zv rfl rfl (by omega) (by omega)) ?_
      refine dmv rfl ?_
      refine dn ?_
      exact ⟨k + 1, _, ⟨by omega, trivial⟩, by dsimp only; omega, ⟨rfl, zbx (by rw [zhy hy, if_pos (by simp_all), ← List.append_assoc, zoI _ [y]]; simp [zc9]), rfl, trivial⟩, (by repeat (first | exact zo | refine zt rfl ?_ | refine zp rfl rfl ?_)), zL (by dsimp only; rw [zhy hy, if_pos (by simp_all)]; simp)⟩
     ·try simp at h6
      refine zk ?_
      refine zz ?_
      refine zf ?_
      refine zy ?_
      refine dq (zv rfl rfl (by omega) (by omega)) ?_
      refine dmv rfl ?_
      refine dn ?_
      exact ⟨k + 1, _, ⟨by omega, trivial⟩, by dsimp only; omega, ⟨rfl, zbx (by rw [zhy hy, if_neg (by omega)]; simp), rfl, trivial⟩, (by repeat (first | exact zo | refine zt rfl ?_ | refine zp rfl rfl ?_)), zL (by dsimp only; rw [zhy hy, if_neg (by omega)]; simp)⟩
    ·try simp at h4
     have hnk : C.length ≤ k := by omega
     obtain rfl : k = C.length := by omega
     refine zN ?_
     refine zT ?_
     refine za3 ?_
     refine zD ?_
     refine zz ?_
     refine zf ?_
     refine zy ?_
     refine dq (zv rfl rfl (by omega) (by omega)) ?_
     refine dmv rfl ?_
     refine dn ?_
     exact ⟨i + 1, _, ⟨by omega, trivial⟩, by dsimp only; omega, ⟨rfl, zbx (by rw [zhV _ hx, zmC hN, hCd, List.take_length]), rfl, trivial⟩, (by repeat (first | exact zo | refine zt rfl ?_ | refine zp rfl rfl ?_)), zL (by dsimp only; rw [zhV _ hx, zmC hN, hCd, List.take_length])⟩
  ·try simp at h2
   have hni : p.length ≤ i := by omega
   obtain rfl : i = p.length := by omega
   refine zN ?_
   refine zT ?_
   refine za3 ?_
   refine zD ?_
   refine zf ?_
   rw [List.take_length]
   refine zb ?_
   refine dmv rfl ?_
   refine de rfl (zi (i := 0) ca26 rfl (WeakL.refl _) rfl (zh3 (l := (zaB (ofP l) p).map (·.Player)) (by have hb1 := zoW (f := ofP l) (p := p) (i := p.length) (fun s m y => zlC) hon hp hv; rw [List.take_length] at hb1; simp; omega)) ?_)
   rintro _ _ ⟨rfl, rfl⟩
   refine dn ?_
   refine zb ?_
   refine dmv rfl ?_
   refine dmv rfl ?_
   refine das rfl ?_
   refine das rfl ?_
   refine dn ?_
   refine zn ?_
   exact ziC (M := []) 5 rfl rfl rfl
end
section
open Go.HL
/-- benchwarmer/value.Fielded -/
theorem zkY [Tracks] {l : List Asset} {p : List HL.Place} (hl : l.length ≤ 11) (hp : p.length ≤ 1000000) : ConP Tryz.prog 65 [zf6 l, zjg p] (.tup [.int .i64 (if zg0 l p != 0 then 0 else zpZ l p), eSs (if zg0 l p != 0 then [] else zlJ (zaB (ofP l) p)), .int .i64 (zg0 l p)]) := by
 refine Con.of_body Tryz.func65 rfl Tryz.ntmps65 rfl rfl ?_
 refine zb ?_
 refine das rfl ?_
 refine das rfl ?_
 refine das rfl ?_
 refine dn ?_
 refine zh ?_
 refine zb ?_
 refine dmv rfl ?_
 refine dq (zq zuO rfl (WeakL.refl _) (zh5 (by omega))) ?_
 refine dmv rfl ?_
 refine dq (zq zvr rfl (WeakL.refl _) (zh6 (by assumption))) ?_
 refine dq (zK (hs := [_, _]) zqq zqF rfl rfl (by decide) (by decide) rfl) ?_
 refine dq (zq ca93 rfl (WeakL.refl _) (zie (l := [_, _]) (by simp))) ?_
 refine das rfl ?_
 refine dn ?_
 refine zb ?_
 refine dmv rfl ?_
 refine dq (zaM rfl rfl) ?_
 refine dn ?_
 refine zj rfl (fun h1 => ?_) (fun h2 => ?_)
 ·try simp at h1
  refine zb ?_
  refine dmv rfl ?_
  refine das rfl ?_
  refine das rfl ?_
  refine das rfl ?_
  refine dn ?_
  refine zn ?_
  (refine znA rfl (zrv ?_ ?_ (Weak.refl _))
   ·rw [if_pos (by simpa [zg0] using h1)]; exact Weak.refl _
   ·rw [if_pos (by simpa [zg0] using h1)]; exact zcC 1)
 ·try simp at h2
  refine zk ?_
  refine zf ?_
  obtain ⟨hca0, hcp0⟩ := ztT (l := l) (p := p) (by simpa [zg0] using h2)
  obtain ⟨hsr, haf⟩ := zmc hca0
  obtain ⟨hmm, hp10⟩ := zlY hcp0
  have hvv : ∀ x ∈ l, -1000000 ≤ x.Value ∧ x.Value ≤ 1000000 := fun x hx => (zhY (haf x hx)).2.2
  refine zb ?_
  refine dmv rfl ?_
  refine dmv rfl ?_
  refine dq (zq zvA rfl (WeakL.refl _) (zle (by omega) (by assumption) (by simp_all) (by assumption))) ?_
  refine dmv rfl ?_
  refine dq (z6 rfl rfl) ?_
  refine dq (z6 rfl rfl) ?_
  refine das rfl ?_
  refine das rfl ?_
  refine dn ?_
  refine zb ?_
  refine dmv rfl ?_
  refine dmv rfl ?_
  refine das rfl ?_
  refine das rfl ?_
  refine das rfl ?_
  refine dn ?_
  refine zn ?_
  (refine zA rfl ?_
   have h0 : zg0 l p = 0 := by simpa [zg0] using h2
   simp [h0, zpZ, zbp, zfB])

end
section
open Go.HL
set_option linter.unusedSimpArgs false
end
section
open Go.HL
theorem znz [Tracks] : KeyOk Tryz.prog 214 zhD := ziv (cs := fun x : Num => zm (zhD x)) zgC zvf (fun x y => ⟨rfl, ⟨_, _, _, _, ty9, rfl⟩, ⟨rfl, ⟨_, _, _, _, ty3, rfl⟩, trivial⟩⟩)
 (fun x y => by obtain ⟨a, b⟩ := x; obtain ⟨c, d⟩ := y; show (_ && (_ && true)) = _; rw [Bool.eq_iff_iff]; simp [eqH, Prod.mk.injEq]) (fun x => rfl)

theorem zqn [Tracks] : KeyOk Tryz.prog 216 eOf := ziv (cs := fun x : Of2 => zm (eOf x)) zhr zve (fun x y => ⟨rfl, ⟨_, _, _, _, ty9, rfl⟩, ⟨rfl, ⟨_, _, _, _, ty9, rfl⟩, trivial⟩⟩)
 (fun x y => by obtain ⟨a, b⟩ := x; obtain ⟨c, d⟩ := y; show (_ && (_ && true)) = _; rw [Bool.eq_iff_iff]; simp [eqH, Prod.mk.injEq]) (fun x => rfl)

/-- benchwarmer/base.Week -/
theorem zjM [Tracks] {n : Int}  : ConP Tryz.prog 96 [.int .i64 n] (.bool (zgJ n)) := by
 refine Con.of_body Tryz.func96 rfl Tryz.ntmps96 rfl rfl ?_
 refine zb ?_
 refine das rfl ?_
 refine dn ?_
 refine zb ?_
 refine dmv rfl ?_
 refine dq (zq zcR rfl (WeakL.refl _) za5) ?_
 refine dq (zao rfl) ?_
 refine das rfl ?_
 refine dn ?_
 refine zn ?_
 refine zA rfl ?_
 rfl

/-- benchwarmer/play.playFault -/
theorem zkl [Tracks] {p : Play}  : ConP Tryz.prog 147 [zjr p] (.int .i64 (playFault p)) := by
 refine Con.of_body Tryz.func147 rfl Tryz.ntmps147 rfl rfl ?_
 refine zb ?_
 refine dq (zaC rfl rfl) ?_
 refine das rfl ?_
 refine dn ?_
 refine zh ?_
 refine zl ?_
 refine zb ?_
 refine dq (zc zaa rfl ty9 (by decide) rfl) ?_
 refine dq (ze ty9 rfl rfl rfl) ?_
 refine dq (zq zf9 rfl (WeakL.refl _) zbZ) ?_
 refine dq (zao rfl) ?_
 refine das rfl ?_
 refine dn ?_
 refine zj rfl (fun h1 => ?_) (fun h2 => ?_)
 ·try simp at h1
  refine zb ?_
  refine das rfl ?_
  refine dn ?_
  refine zn ?_
  refine zA rfl ?_
  show HVal.int .i64 _ = _
  simp_all [playFault]
 ·try simp at h2
  refine zb ?_
  refine dq (zc zaa rfl ty3 (by decide) rfl) ?_
  refine dq (ze ty3 rfl rfl rfl) ?_
  refine dq (zq zcR rfl (WeakL.refl _) za5) ?_
  refine dmv rfl ?_
  refine dg rfl rfl (fun hc => ⟨_, OpenTo.refl _, zc zaa rfl ty3 (by decide) rfl⟩) ?_
  refine dg rfl rfl (fun hc => ⟨_, OpenTo.upd (t := 13) rfl (hc) (OpenTo.refl _), ze ty3 rfl rfl rfl⟩) ?_
  refine dg rfl rfl (fun hc => ⟨_, OpenTo.upd (t := 14) rfl (hc) (OpenTo.refl _), zq zsS rfl (WeakL.refl _) zfL⟩) ?_
  refine dg rfl rfl (fun hc => ⟨_, OpenTo.upd (t := 15) rfl (hc) (OpenTo.refl _), zao rfl⟩) ?_
  refine dq (zB rfl (.inl rfl) (.inr ⟨_, rfl, fun h => by simp_all⟩)) ?_
  refine dmv rfl ?_
  refine dg rfl rfl (fun hc => ⟨_, OpenTo.refl _, zc zaa rfl ty3 (by decide) rfl⟩) ?_
  refine dg rfl rfl (fun hc => ⟨_, OpenTo.upd (t := 19) rfl (hc) (OpenTo.refl _), ze ty3 rfl rfl rfl⟩) ?_
  refine dg rfl rfl (fun hc => ⟨_, OpenTo.upd (t := 20) rfl (hc) (OpenTo.refl _), zq ca96 rfl (WeakL.refl _) zjM⟩) ?_
  refine dg rfl rfl (fun hc => ⟨_, OpenTo.upd (t := 21) rfl (hc) (OpenTo.refl _), zao rfl⟩) ?_
  refine dq (zB rfl (.inl rfl) (.inr ⟨_, rfl, fun h => by simp_all⟩)) ?_
  refine das rfl ?_
  refine dn ?_
  refine zj rfl (fun h3 => ?_) (fun h4 => ?_)
  ·try simp at h3
   refine zb ?_
   refine das rfl ?_
   refine dn ?_
   refine zn ?_
   refine zA rfl ?_
   show HVal.int .i64 _ = _
   simp_all [playFault]
  ·try simp at h4
   refine zb ?_
   refine dq (zc zaa rfl ty9 (by decide) rfl) ?_
   refine dq (ze ty9 rfl rfl rfl) ?_
   refine dq (zq zf9 rfl (WeakL.refl _) zbZ) ?_
   refine dq (zao rfl) ?_
   refine dmv rfl ?_
   refine dg rfl rfl (fun hc => ⟨_, OpenTo.refl _, zc zaa rfl ty9 (by decide) rfl⟩) ?_
   refine dg rfl rfl (fun hc => ⟨_, OpenTo.upd (t := 30) rfl (hc) (OpenTo.refl _), ze ty9 rfl rfl rfl⟩) ?_
   refine dg rfl rfl (fun hc => ⟨_, OpenTo.upd (t := 31) rfl (hc) (OpenTo.refl _), zq zf9 rfl (WeakL.refl _) zbZ⟩) ?_
   refine dg rfl rfl (fun hc => ⟨_, OpenTo.upd (t := 32) rfl (hc) (OpenTo.refl _), zao rfl⟩) ?_
   refine dq (zB rfl (.inl rfl) (.inr ⟨_, rfl, fun h => by simp_all⟩)) ?_
   refine dmv rfl ?_
   refine dg rfl rfl (fun hc => ⟨_, OpenTo.refl _, zc zaa rfl ty9 (by decide) rfl⟩) ?_
   refine dg rfl rfl (fun hc => ⟨_, OpenTo.upd (t := 36) rfl (hc) (OpenTo.refl _), ze ty9 rfl rfl rfl⟩) ?_
   refine dg rfl rfl (fun hc => ⟨_, OpenTo.upd (t := 37) rfl (hc) (OpenTo.refl _), zq zf9 rfl (WeakL.refl _) zbZ⟩) ?_
   refine dg rfl rfl (fun hc => ⟨_, OpenTo.upd (t := 38) rfl (hc) (OpenTo.refl _), zao rfl⟩) ?_
   refine dq (zB rfl (.inl rfl) (.inr ⟨_, rfl, fun h => by simp_all⟩)) ?_
   refine das rfl ?_
   refine dn ?_
   refine zj rfl (fun h5 => ?_) (fun h6 => ?_)
   ·try simp at h5
    refine zb ?_
    refine das rfl ?_
    refine dn ?_
    refine zn ?_
    refine zA rfl ?_
    show HVal.int .i64 _ = _
    simp_all [playFault]
   ·try simp at h6
    refine zb ?_
    refine dq (zc zaa rfl ty3 (by decide) rfl) ?_
    refine dq (ze ty3 rfl rfl rfl) ?_
    refine dq (zq zcR rfl (WeakL.refl _) za5) ?_
    refine dmv rfl ?_
    refine dg rfl rfl (fun hc => ⟨_, OpenTo.refl _, zc zaa rfl ty3 (by decide) rfl⟩) ?_
    refine dg rfl rfl (fun hc => ⟨_, OpenTo.upd (t := 46) rfl (hc) (OpenTo.refl _), ze ty3 rfl rfl rfl⟩) ?_
    refine dg rfl rfl (fun hc => ⟨_, OpenTo.refl _, zc zaa rfl ty3 (by decide) rfl⟩) ?_
    refine dg rfl rfl (fun hc => ⟨_, OpenTo.upd (t := 48) rfl (hc) (OpenTo.refl _), ze ty3 rfl rfl rfl⟩) ?_
    have hN := zeu (n := p.No) (lo := 1) (hi := 3000) (by simp_all)
    refine dg rfl rfl (fun hc => by have hq := hc; (try simp at hq); exact ⟨_, OpenTo.upd (t := 49) rfl (hc) (OpenTo.refl _), zal rfl rfl (by omega) (by omega)⟩) ?_
    refine dg rfl rfl (fun hc => ⟨_, OpenTo.upd (t := 50) rfl (hc) (OpenTo.upd (t := 47) rfl (hc) (OpenTo.refl _)), zq zcR rfl (WeakL.refl _) za5⟩) ?_
    refine dq (zB rfl (.inl rfl) (.inr ⟨_, rfl, fun h => by simp_all⟩)) ?_
    refine das rfl ?_
    refine dn ?_
    refine zj rfl (fun h7 => ?_) (fun h8 => ?_)
    ·try simp at h7
     refine zb ?_
     refine das rfl ?_
     refine dn ?_
     refine zn ?_
     refine zA rfl ?_
     show HVal.int .i64 _ = _
     simp_all [playFault]
    ·try simp at h8
     refine zb ?_
     refine dq (zc zaa rfl ty3 (by decide) rfl) ?_
     refine dq (ze ty3 rfl rfl rfl) ?_
     refine dq (zai rfl rfl) ?_
     refine dmv rfl ?_
     refine dg rfl rfl (fun hc => ⟨_, OpenTo.refl _, zc zaa rfl ty3 (by decide) rfl⟩) ?_
     refine dg rfl rfl (fun hc => ⟨_, OpenTo.upd (t := 58) rfl (hc) (OpenTo.refl _), ze ty3 rfl rfl rfl⟩) ?_
     refine dg rfl rfl (fun hc => ⟨_, OpenTo.upd (t := 59) rfl (hc) (OpenTo.refl _), zaM rfl rfl⟩) ?_
     refine dq (zB rfl (.inr ⟨_, rfl, fun h => by simp_all⟩) (.inl rfl)) ?_
     refine das rfl ?_
     refine dn ?_
     refine zj rfl (fun h9 => ?_) (fun h10 => ?_)
     ·try simp at h9
      refine zb ?_
      refine das rfl ?_
      refine dn ?_
      refine zn ?_
      refine zA rfl ?_
      show HVal.int .i64 _ = _
      simp_all [playFault]
     ·try simp at h10
      refine zk ?_
      refine zz ?_
      refine zf ?_
      refine zb ?_
      refine das rfl ?_
      refine dn ?_
      refine zn ?_
      refine zA rfl ?_
      show HVal.int .i64 _ = _
      simp_all [playFault]

/-- benchwarmer/play.byNo -/
theorem zpe [Tracks] {a b : Play}  : ConP Tryz.prog 148 [zjr a, zjr b] (.int .i64 (byNo a b)) := by
 refine Con.of_body Tryz.func148 rfl Tryz.ntmps148 rfl rfl ?_
 refine zb ?_
 refine dq (zaC rfl rfl) ?_
 refine dq (zaC rfl rfl) ?_
 refine das rfl ?_
 refine dn ?_
 refine za9 (fun _ => True) [] mixed ?_
 refine ahp 0 rfl rfl (by kernel_rfl) (by kernel_rfl) (zc zaa rfl ty9 (by decide) rfl) ?_
 refine ahp 1 rfl rfl (by kernel_rfl) (by kernel_rfl) (ze ty9 rfl rfl rfl) ?_
 refine ahp 2 rfl rfl (by kernel_rfl) (by kernel_rfl) (zc zaa rfl ty9 (by decide) rfl) ?_
 refine ahp 3 rfl rfl (by kernel_rfl) (by kernel_rfl) (ze ty9 rfl rfl rfl) ?_
 refine ahp 4 rfl rfl (by kernel_rfl) (by kernel_rfl) (zq zms rfl (WeakL.refl _) zb0) ?_
 refine ahp 5 rfl rfl (by kernel_rfl) (by kernel_rfl) (zc zaa rfl ty3 (by decide) rfl) ?_
 refine ahp 6 rfl rfl (by kernel_rfl) (by kernel_rfl) (ze ty3 rfl rfl rfl) ?_
 refine ahp 7 rfl rfl (by kernel_rfl) (by kernel_rfl) (zc zaa rfl ty3 (by decide) rfl) ?_
 refine ahp 8 rfl rfl (by kernel_rfl) (by kernel_rfl) (ze ty3 rfl rfl rfl) ?_
 refine ahp 9 rfl rfl (by kernel_rfl) (by kernel_rfl) (zq zqI rfl (WeakL.refl _) zeh) ?_
 refine ahp 10 rfl rfl (by kernel_rfl) (by kernel_rfl) (zK (hs := [_, _]) zU ty3 rfl rfl (by decide) (by decide) rfl) ?_
 refine ahp 11 rfl rfl (by kernel_rfl) (by kernel_rfl) (zq zqy rfl (WeakL.refl _) (zgf (l := [_, _]) (by simp))) ?_
 refine ahp 12 rfl rfl (by kernel_rfl) (by kernel_rfl) (zaW rfl) ?_
 refine ahz (by kernel_rfl) ?_
 refine zn ?_
 refine zA rfl ?_
 rfl

/-- benchwarmer/play.CheckPlays -/
theorem zjD [Tracks] {l : List Play} (hl : l.length ≤ 1000000) : ConP Tryz.prog 94 [zhk l] (.int .i64 (zcA l)) := by
 refine Con.of_body Tryz.func94 rfl Tryz.ntmps94 rfl rfl ?_
 refine zb ?_
 refine das rfl ?_
 refine dn ?_
 refine zh ?_
 refine zb ?_
 refine dmv rfl ?_
 refine dq (zF zec rfl) ?_
 refine dq (zai rfl rfl) ?_
 refine dn ?_
 refine zj rfl (fun h1 => ?_) (fun h2 => ?_)
 ·try simp at h1
  refine zb ?_
  refine das rfl ?_
  refine dn ?_
  refine zn ?_
  refine zbW Ghost.clear rfl ⟨?_, rfl⟩
  show HVal.int .i64 _ = _
  (rw [zcA, if_pos (by omega)]; done)
 ·try simp at h2
  refine zk ?_
  refine zf ?_
  refine zb ?_
  refine de rfl (zbU fun m14 => ?_)
  refine de rfl (zbU fun m15 => ?_)
  refine das rfl ?_
  refine das rfl ?_
  refine dn ?_
  refine zb ?_
  refine das rfl ?_
  refine dn ?_
  refine zh ?_
  refine zb ?_
  refine dmv rfl ?_
  refine dq (zF zec rfl) ?_
  refine dmv rfl ?_
  refine dn ?_
  refine zl ?_
  refine zZ [2, 5, 6, 7, 8, 9, 10, 18, 19, 20, 21, 22, 23, 24, 25, 26, 27, 28, 29, 30, 31, 32, 33, 34, 35, 36, 37, 38, 39, 40, 41, 42, 43, 44, 45, 46, 47, 48, 49, 50, 51, 52, 53, 54, 55, 56, 57, 58, 59, 60, 61, 62] (fun (k : Nat) => [(18, .int .i64 k), (5, .bool (zev (l.take k)).c)]) (fun (k : Nat) => [.map m15 (sk (em (.int .i64) (zev (l.take k)).W)), .map m14 (sk (zbD (zev (l.take k)).S))]) (fun (k : Nat) => k ≤ l.length ∧ (zb5 l 0 l = zb5 l k (l.drop k))) (fun (k : Nat) => l.length - k) (0) ?_ ?_ ?_ ?_
  ·exact ⟨Nat.zero_le _, rfl⟩
  ·exact ⟨rfl, rfl, trivial⟩
  ·exact List.Perm.refl _
  ·intro k hinv
   obtain ⟨hk, hg⟩ := hinv
   refine zb ?_
   refine dq (zO rfl rfl) ?_
   refine dn ?_
   refine zh ?_
   refine zj rfl (fun h3 => ?_) (fun h4 => ?_)
   ·try simp at h3
    obtain ⟨x, hx⟩ : ∃ x, l[k]? = some x := ⟨_, List.getElem?_eq_getElem h3⟩
    have hdx := zQ hx
    rw [hdx] at hg
    refine zk ?_
    refine zf ?_
    refine zh ?_
    refine zl ?_
    refine zb ?_
    refine dmv rfl ?_
    refine dq (zJ zec zaa rfl rfl rfl (by assumption)) ?_
    refine dq (zV zaa rfl rfl rfl rfl) ?_
    refine de rfl (zX zaa rfl fun b7 => ?_)
    refine das rfl ?_
    refine de0 (zag zaa rfl rfl rfl rfl rfl ?_)
    refine dn ?_
    refine zI (Ghost.fc0 7 rfl) ?_
    refine zh ?_
    refine zb ?_
    refine dq (zV zaa rfl rfl rfl rfl) ?_
    refine dq (zq zu3 rfl (WeakL.refl _) zkl) ?_
    refine das rfl ?_
    refine dn ?_
    refine zb ?_
    refine dmv rfl ?_
    refine dq (zaM rfl rfl) ?_
    refine dn ?_
    refine zj rfl (fun h5 => ?_) (fun h6 => ?_)
    ·try simp at h5
     refine zb ?_
     refine dmv rfl ?_
     refine das rfl ?_
     refine dn ?_
     refine zn ?_
     refine zbW Ghost.clear rfl ⟨?_, rfl⟩
     show HVal.int .i64 _ = _
     (rw [zm9 (by omega) (by rw [hg, zb5, if_pos (by simpa using h5)]) (by simpa using h5)]; done)
    ·try simp at h6
     refine zk ?_
     refine zf ?_
     refine zh ?_
     refine za9 (fun _ => True) [] mixed ?_
     refine ahp 0 rfl rfl (by kernel_rfl) (by kernel_rfl) (zg rfl) ?_
     refine ahp 1 rfl rfl (by kernel_rfl) (by kernel_rfl) (zai rfl rfl) ?_
     refine ahp 2 rfl rfl (by kernel_rfl) (by kernel_rfl) (zg rfl) ?_
     refine ahg 3 rfl rfl (by kernel_rfl) (by kernel_rfl) rfl (fun hc => ⟨_, OpenTo.refl _, zV zaa rfl rfl rfl rfl⟩) ?_
     refine ahg 4 rfl rfl (by kernel_rfl) (by kernel_rfl) rfl (fun hc => ⟨_, OpenTo.refl _, zg rfl⟩) ?_
     refine ahg 5 rfl rfl (by kernel_rfl) (by kernel_rfl) rfl (fun hc => ⟨_, OpenTo.refl _, zg rfl⟩) ?_
     refine ahg 6 rfl rfl (by kernel_rfl) (by kernel_rfl) rfl (fun hc => by have hq := hc; (try simp at hq); exact ⟨_, OpenTo.upd (t := 33) rfl (hc) (OpenTo.refl _), zal rfl rfl (by omega) (by omega)⟩) ?_
     refine ahg 7 rfl rfl (by kernel_rfl) (by kernel_rfl) rfl (fun hc => by have hq := hc; (try simp at hq); exact ⟨_, OpenTo.upd (t := 34) rfl (hc) (OpenTo.upd (t := 32) rfl (hc) (OpenTo.refl _)), zJ (j := k - 1) (a := l.getD (k - 1) zkK) zec zaa rfl rfl (by omega) (getD_some (by omega))⟩) ?_
     refine ahg 8 rfl rfl (by kernel_rfl) (by kernel_rfl) rfl (fun hc => ⟨_, OpenTo.upd (t := 35) rfl (hc) (OpenTo.refl _), zV zaa rfl rfl rfl rfl⟩) ?_
     refine ahg 9 rfl rfl (by kernel_rfl) (by kernel_rfl) rfl (fun hc => ⟨_, OpenTo.upd (t := 36) rfl (hc) (OpenTo.upd (t := 31) rfl (hc) (OpenTo.refl _)), zq zu8 rfl (WeakL.refl _) zpe⟩) ?_
     refine ahg 10 rfl rfl (by kernel_rfl) (by kernel_rfl) rfl (fun hc => ⟨_, OpenTo.upd (t := 37) rfl (hc) (OpenTo.refl _), zda rfl rfl⟩) ?_
     refine ahp 11 rfl rfl (by kernel_rfl) (by kernel_rfl) (zB rfl (.inr ⟨_, rfl, fun h => by simp_all⟩) (.inl rfl)) ?_
     refine ahz (by kernel_rfl) ?_
     refine zj rfl (fun h7 => ?_) (fun h8 => ?_)
     ·try simp at h7
      refine zb ?_
      refine das rfl ?_
      refine dn ?_
      refine zn ?_
      refine zbW Ghost.clear rfl ⟨?_, rfl⟩
      show HVal.int .i64 _ = _
      (rw [zm9 (c := 7) (by omega) (by rw [hg, zb5, if_neg (by simpa using h6), if_pos (by obtain ⟨qa, qb⟩ := h7; exact ⟨by omega, by simpa using qb⟩)]) (by decide)]; done)
     ·try simp at h8
      refine zk ?_
      refine zf ?_
      refine zb ?_
      refine dmv rfl ?_
      refine dq (zc zaa rfl ty9 (by decide) rfl) ?_
      refine dq (ze ty9 rfl rfl rfl) ?_
      refine de0 (zhg (i := 1) zqz ty9 rfl rfl rfl rfl ?_)
      refine dn ?_
      refine zh ?_
      refine zb ?_
      refine dmv rfl ?_
      refine dq (zc zaa rfl ty9 (by decide) rfl) ?_
      refine dq (ze ty9 rfl rfl rfl) ?_
      refine de rfl (zit (i := 0) (z0 := (0 : Int)) zdI ty9 ty3 rfl rfl rfl rfl ?_)
      refine dmv rfl ?_
      refine dq (z6 rfl rfl) ?_
      refine dq (z6 rfl rfl) ?_
      refine das rfl ?_
      refine das rfl ?_
      refine dn ?_
      refine zb ?_
      refine dmv rfl ?_
      refine dmv rfl ?_
      refine dg rfl rfl (fun hc => ⟨_, OpenTo.refl _, zg rfl⟩) ?_
      refine dg rfl rfl (fun hc => ⟨_, OpenTo.refl _, zc zaa rfl ty3 (by decide) rfl⟩) ?_
      refine dg rfl rfl (fun hc => ⟨_, OpenTo.upd (t := 53) rfl (hc) (OpenTo.refl _), ze ty3 rfl rfl rfl⟩) ?_
      refine dg rfl rfl (fun hc => ⟨_, OpenTo.upd (t := 54) rfl (hc) (OpenTo.upd (t := 52) rfl (hc) (OpenTo.refl _)), zaM rfl rfl⟩) ?_
      refine dq (zB rfl (.inr ⟨_, rfl, fun h => by simp_all⟩) (.inl rfl)) ?_
      refine dn ?_
      refine zj rfl (fun h9 => ?_) (fun h10 => ?_)
      ·try simp at h9
       refine zy ?_
       refine das rfl ?_
       refine dn ?_
       refine zf ?_
       refine zy ?_
       refine dmv rfl ?_
       refine dq (zc zaa rfl ty9 (by decide) rfl) ?_
       refine dq (ze ty9 rfl rfl rfl) ?_
       refine dq (zc zaa rfl ty3 (by decide) rfl) ?_
       refine dq (ze ty3 rfl rfl rfl) ?_
       refine de0 (zep (i := 0) zdI ty9 rfl rfl rfl rfl ?_)
       refine dn ?_
       refine zz ?_
       refine zf ?_
       refine zy ?_
       refine dq (zv rfl rfl (by omega) (by omega)) ?_
       refine dmv rfl ?_
       refine dn ?_
       refine ⟨k + 1, ⟨by omega, ?_⟩, by dsimp only; omega, ⟨rfl, ?_, trivial⟩, (by repeat (first | exact zo | refine zt rfl ?_ | refine zp rfl rfl ?_)), ?_⟩
       ·rw [hg, zli (by simpa using h6) (fun hk0 => by simp_all)]
       ·rw [zfT hx]; exact congrArg (fun b => some (HVal.bool b)) (by simp_all [zhe])
       ·exact zL (by dsimp only; rw [zfT hx]; rfl)
      ·try simp at h10
       refine zk ?_
       refine zf ?_
       refine zy ?_
       refine dmv rfl ?_
       refine dq (zc zaa rfl ty9 (by decide) rfl) ?_
       refine dq (ze ty9 rfl rfl rfl) ?_
       refine dq (zc zaa rfl ty3 (by decide) rfl) ?_
       refine dq (ze ty3 rfl rfl rfl) ?_
       refine de0 (zep (i := 0) zdI ty9 rfl rfl rfl rfl ?_)
       refine dn ?_
       refine zz ?_
       refine zf ?_
       refine zy ?_
       refine dq (zv rfl rfl (by omega) (by omega)) ?_
       refine dmv rfl ?_
       refine dn ?_
       refine ⟨k + 1, ⟨by omega, ?_⟩, by dsimp only; omega, ⟨rfl, ?_, trivial⟩, (by repeat (first | exact zo | refine zt rfl ?_ | refine zp rfl rfl ?_)), ?_⟩
       ·rw [hg, zli (by simpa using h6) (fun hk0 => by simp_all)]
       ·rw [zfT hx]; exact congrArg (fun b => some (HVal.bool b)) (by simp_all [zhe])
       ·exact zL (by dsimp only; rw [zfT hx]; rfl)
   ·try simp at h4
    have hnk : l.length ≤ k := by omega
    obtain rfl : k = l.length := by omega
    rw [zad (Nat.le_refl _)] at hg
    rw [List.take_length]
    refine zN ?_
    refine zT ?_
    refine zah ?_
    refine zD ?_
    refine zf ?_
    refine zh ?_
    refine zl ?_
    have e1 : (sk (zbD (zev l).S)).length = (zev l).S.length := by simp [sk, zbD]
    have e2 : (sk (em (HVal.int .i64) (zev l).W)).length = (zev l).W.length := by simp [sk]
    refine zb ?_
    refine dmv rfl ?_
    refine de rfl (zkN (i := 1) zqz rfl rfl ?_)
    refine dq (zai rfl rfl) ?_
    refine dmv rfl ?_
    refine dg rfl rfl (fun hc => ⟨_, OpenTo.refl _, zg rfl⟩) ?_
    refine dgl rfl rfl (fun hc => ⟨_, OpenTo.upd (t := 68) rfl (hc) (OpenTo.refl _), zkN (i := 0) zdI rfl rfl ⟨rfl, rfl⟩⟩) ?_
    refine dg rfl rfl (fun hc => ⟨_, OpenTo.upd (t := 69) rfl (hc) (OpenTo.refl _), zai rfl rfl⟩) ?_
    refine dq (zB rfl (.inl rfl) (.inr ⟨_, rfl, fun h => by simp_all⟩)) ?_
    refine das rfl ?_
    refine dn ?_
    refine zj rfl (fun h11 => ?_) (fun h12 => ?_)
    ·try simp at h11
     refine zb ?_
     refine das rfl ?_
     refine dn ?_
     refine zn ?_
     refine zbW Ghost.clear rfl ⟨?_, rfl⟩
     show HVal.int .i64 _ = _
     (rw [zgY (by omega) hg, zfD, if_pos (by omega)]; done)
    ·try simp at h12
     refine zb ?_
     refine dmv rfl ?_
     refine das rfl ?_
     refine dn ?_
     refine zj rfl (fun h13 => ?_) (fun h14 => ?_)
     ·try simp at h13
      refine zb ?_
      refine das rfl ?_
      refine dn ?_
      refine zn ?_
      refine zbW Ghost.clear rfl ⟨?_, rfl⟩
      show HVal.int .i64 _ = _
      (rw [zgY (by omega) hg, zfD, if_neg (by omega), if_pos (by assumption)]; done)
     ·try simp at h14
      refine zk ?_
      refine zz ?_
      refine zf ?_
      refine zb ?_
      refine das rfl ?_
      refine dn ?_
      refine zn ?_
      refine zbW Ghost.clear rfl ⟨?_, rfl⟩
      show HVal.int .i64 _ = _
      (rw [zgY (by omega) hg, zfD, if_neg (by omega), if_neg (by simp_all)]; done)

/-- benchwarmer/play.CheckTrust -/
theorem zjE [Tracks] {l : List Str} (hl : l.length ≤ 1000000) : ConP Tryz.prog 95 [eSs l] (.int .i64 (zem l)) := by
 refine Con.of_body Tryz.func95 rfl Tryz.ntmps95 rfl rfl ?_
 refine zb ?_
 refine das rfl ?_
 refine dn ?_
 refine zh ?_
 refine zb ?_
 refine dmv rfl ?_
 refine dq (zF zG rfl) ?_
 refine dq (zai rfl rfl) ?_
 refine dn ?_
 refine zj rfl (fun h1 => ?_) (fun h2 => ?_)
 ·try simp at h1
  refine zb ?_
  refine das rfl ?_
  refine dn ?_
  refine zn ?_
  refine zA rfl ?_
  show HVal.int .i64 _ = _
  (rw [zem, if_pos (by omega)]; done)
 ·try simp at h2
  refine zk ?_
  refine zf ?_
  refine zh ?_
  refine zb ?_
  refine dmv rfl ?_
  refine dq (zF zG rfl) ?_
  refine dmv rfl ?_
  refine dn ?_
  refine zl ?_
  refine zZ [2, 3, 4, 10, 11, 12, 13, 14, 15, 16, 17, 18, 19, 20, 21, 22, 23] (fun (k : Nat) => [(10, .int .i64 k)]) (fun (k : Nat) => []) (fun (k : Nat) => k ≤ l.length ∧ (zem l = zfi l k (l.drop k))) (fun (k : Nat) => l.length - k) (0) ?_ ?_ ?_ ?_
  ·refine ⟨Nat.zero_le _, ?_⟩
   rw [zem, if_neg (by omega)]; rfl
  ·exact ⟨rfl, trivial⟩
  ·exact List.Perm.refl _
  ·intro k hinv
   obtain ⟨hk, hg⟩ := hinv
   refine zb ?_
   refine dq (zO rfl rfl) ?_
   refine dn ?_
   refine zh ?_
   refine zj rfl (fun h3 => ?_) (fun h4 => ?_)
   ·try simp at h3
    obtain ⟨x, hx⟩ : ∃ x, l[k]? = some x := ⟨_, List.getElem?_eq_getElem h3⟩
    have hdx := zQ hx
    rw [hdx] at hg
    refine zk ?_
    refine zf ?_
    refine zh ?_
    refine zl ?_
    refine zb ?_
    refine dmv rfl ?_
    refine dq (zJ zG ty9 rfl rfl rfl (by assumption)) ?_
    refine dq (ze ty9 rfl rfl rfl) ?_
    refine das rfl ?_
    refine das rfl ?_
    refine dn ?_
    refine zh ?_
    refine zb ?_
    refine dmv rfl ?_
    refine dq (zq zf9 rfl (WeakL.refl _) zbZ) ?_
    refine dq (zao rfl) ?_
    refine dn ?_
    refine zj rfl (fun h5 => ?_) (fun h6 => ?_)
    ·try simp at h5
     refine zb ?_
     refine das rfl ?_
     refine dn ?_
     refine zn ?_
     refine zA rfl ?_
     show HVal.int .i64 _ = _
     (rw [hg]; simp_all [zfi]; done)
    ·try simp at h6
     refine zk ?_
     refine zf ?_
     refine zb ?_
     refine dmv rfl ?_
     refine dmv rfl ?_
     refine dq (zdx zG ty9 rfl rfl ⟨_, _, rfl, rfl⟩ (by omega) (by omega)) ?_
     refine dmv rfl ?_
     refine dq (zq zi8 rfl (WeakL.refl _) (zay (by simp; omega))) ?_
     refine dn ?_
     refine zj rfl (fun h7 => ?_) (fun h8 => ?_)
     ·try simp at h7
      refine zb ?_
      refine das rfl ?_
      refine dn ?_
      refine zn ?_
      refine zA rfl ?_
      show HVal.int .i64 _ = _
      (rw [hg]; simp_all [zfi]; done)
     ·try simp at h8
      refine zk ?_
      refine zz ?_
      refine zf ?_
      refine zy ?_
      refine dq (zv rfl rfl (by omega) (by omega)) ?_
      refine dmv rfl ?_
      refine dn ?_
      refine ⟨k + 1, ?_, ?_, ⟨rfl, trivial⟩, (by repeat (first | exact zo | refine zt rfl ?_ | refine zp rfl rfl ?_)), List.Perm.refl _⟩
      ·refine ⟨by omega, ?_⟩
       rw [hg]; simp_all [zfi]
      ·dsimp only; omega
   ·try simp at h4
    have hnk : l.length ≤ k := by omega
    obtain rfl : k = l.length := by omega
    rw [zad (Nat.le_refl _)] at hg
    refine zN ?_
    refine zT ?_
    refine zah ?_
    refine zD ?_
    refine zf ?_
    refine zb ?_
    refine das rfl ?_
    refine dn ?_
    refine zn ?_
    refine zA rfl ?_
    show HVal.int .i64 _ = _
    (rw [hg]; simp_all [zfi]; done)

/-- benchwarmer/play.told -/
theorem zpk [Tracks] {l : List Play} {trust : List Str} {n : Int} (hl : l.length ≤ 1000000) (ht : trust.length ≤ 1000000) : Con Tryz.prog 149 [zhk l, eSs trust, .int .i64 n] [] (fun x M' => ∃ b O, x = .raw (.map (some b)) ∧ ANodup O ∧ (∀ m, alk m O = zju l trust n m) ∧ M' = [.map b (sk (em .str O))]) := by
 refine Con.of_body Tryz.func149 rfl Tryz.ntmps149 rfl rfl ?_
 refine zb ?_
 refine das rfl ?_
 refine dn ?_
 refine zb ?_
 refine de rfl (zbU fun m16 => ?_)
 refine das rfl ?_
 refine dn ?_
 refine zh ?_
 refine zb ?_
 refine dmv rfl ?_
 refine dq (zF zec rfl) ?_
 refine dmv rfl ?_
 refine dn ?_
 refine zl ?_
 refine zZ [9, 10, 11, 12, 19, 20, 21, 22, 23, 24, 25, 26, 27, 28, 29, 30, 31, 32, 33, 34, 35, 36, 37, 38, 39, 40, 41, 42, 43, 44, 45, 46, 47, 48, 49, 50, 51, 52, 53] (fun (k : Nat) => [(19, .int .i64 k)]) (fun (k : Nat) => [.map m16 (sk (em (.int .i64) (zdJ (l.take k) trust n)))]) (fun (k : Nat) => k ≤ l.length ∧ (True)) (fun (k : Nat) => l.length - k) (0) ?_ ?_ ?_ ?_
 ·exact ⟨Nat.zero_le _, trivial⟩
 ·exact ⟨rfl, trivial⟩
 ·exact List.Perm.refl _
 ·intro k hinv
  obtain ⟨hk, -⟩ := hinv
  refine zb ?_
  refine dq (zO rfl rfl) ?_
  refine dn ?_
  refine zh ?_
  refine zj rfl (fun h1 => ?_) (fun h2 => ?_)
  ·try simp at h1
   obtain ⟨x, hx⟩ : ∃ x, l[k]? = some x := ⟨_, List.getElem?_eq_getElem h1⟩
   have hdx := zQ hx
   refine zk ?_
   refine zf ?_
   refine zh ?_
   refine zl ?_
   refine zb ?_
   refine dq (zJ zec zaa rfl rfl rfl (by assumption)) ?_
   refine dq (zV zaa rfl rfl rfl rfl) ?_
   refine de rfl (zX zaa rfl fun b9 => ?_)
   refine de0 (zag zaa rfl rfl rfl rfl rfl ?_)
   refine dn ?_
   refine zI (Ghost.fc0 9 rfl) ?_
   refine zb ?_
   refine dmv rfl ?_
   refine dq (zc zaa rfl ty9 (by decide) rfl) ?_
   refine dq (ze ty9 rfl rfl rfl) ?_
   refine dq (zq ca67 rfl (WeakL.refl _) (zdg (by omega))) ?_
   refine das rfl ?_
   refine dn ?_
   refine zh ?_
   refine zb ?_
   refine dq (zc zaa rfl ty3 (by decide) rfl) ?_
   refine dq (ze ty3 rfl rfl rfl) ?_
   refine dmv rfl ?_
   refine dq (zai rfl rfl) ?_
   refine dmv rfl ?_
   refine dg rfl rfl (fun hc => ⟨_, OpenTo.refl _, zg rfl⟩) ?_
   refine dg rfl rfl (fun hc => ⟨_, OpenTo.upd (t := 32) rfl (hc) (OpenTo.refl _), zO rfl rfl⟩) ?_
   refine dq (zB rfl (.inl rfl) (.inr ⟨_, rfl, fun h => by simp_all⟩)) ?_
   refine dn ?_
   refine zj rfl (fun h3 => ?_) (fun h4 => ?_)
   ·try simp at h3
    refine zN ?_
    refine zT ?_
    refine zD ?_
    refine zf ?_
    refine zy ?_
    refine dq (zv rfl rfl (by omega) (by omega)) ?_
    refine dmv rfl ?_
    refine dn ?_
    exact ⟨k + 1, ⟨by omega, trivial⟩, by dsimp only; omega, ⟨rfl, trivial⟩, (by repeat (first | exact zo | refine zt rfl ?_ | refine zp rfl rfl ?_)), zL (by dsimp only; rw [zhP hx, zc3, if_pos (by simpa using h3)]; try rfl)⟩
   ·try simp at h4
    refine zk ?_
    refine zf ?_
    refine zb ?_
    refine dmv rfl ?_
    refine dq (zc zaa rfl ty9 (by decide) rfl) ?_
    refine dq (ze ty9 rfl rfl rfl) ?_
    refine de rfl (zit (i := 0) (z0 := (0 : Int)) zdI ty9 ty3 rfl rfl rfl rfl ?_)
    refine dmv rfl ?_
    refine dq (z6 rfl rfl) ?_
    refine dq (z6 rfl rfl) ?_
    refine das rfl ?_
    refine das rfl ?_
    refine dn ?_
    refine zb ?_
    refine dmv rfl ?_
    refine dq (zao rfl) ?_
    refine dmv rfl ?_
    refine dg rfl rfl (fun hc => ⟨_, OpenTo.refl _, zg rfl⟩) ?_
    refine dg rfl rfl (fun hc => ⟨_, OpenTo.refl _, zg rfl⟩) ?_
    refine dg rfl rfl (fun hc => ⟨_, OpenTo.upd (t := 46) rfl (hc) (OpenTo.upd (t := 45) rfl (hc) (OpenTo.refl _)), zO rfl rfl⟩) ?_
    refine dq (zB rfl (.inl rfl) (.inr ⟨_, rfl, fun h => by simp_all⟩)) ?_
    refine dn ?_
    refine zj rfl (fun h5 => ?_) (fun h6 => ?_)
    ·try simp at h5
     refine zy ?_
     refine dmv rfl ?_
     refine dq (zc zaa rfl ty9 (by decide) rfl) ?_
     refine dq (ze ty9 rfl rfl rfl) ?_
     refine dmv rfl ?_
     refine de0 (zep (i := 0) zdI ty9 rfl rfl rfl rfl ?_)
     refine dn ?_
     refine zz ?_
     refine zf ?_
     refine zy ?_
     refine dq (zv rfl rfl (by omega) (by omega)) ?_
     refine dmv rfl ?_
     refine dn ?_
     exact ⟨k + 1, ⟨by omega, trivial⟩, by dsimp only; omega, ⟨rfl, trivial⟩, (by repeat (first | exact zo | refine zt rfl ?_ | refine zp rfl rfl ?_)), zL (by dsimp only; rw [zhP hx, zc3, if_neg (by simp_all; try omega), if_pos (by simpa using h5)]; try rfl)⟩
    ·try simp at h6
     refine zk ?_
     refine zz ?_
     refine zf ?_
     refine zy ?_
     refine dq (zv rfl rfl (by omega) (by omega)) ?_
     refine dmv rfl ?_
     refine dn ?_
     exact ⟨k + 1, ⟨by omega, trivial⟩, by dsimp only; omega, ⟨rfl, trivial⟩, (by repeat (first | exact zo | refine zt rfl ?_ | refine zp rfl rfl ?_)), zL (by dsimp only; rw [zhP hx, zc3, if_neg (by simp_all; try omega), if_neg (by simp_all; try omega)]; try rfl)⟩
  ·try simp at h2
   have hnk : l.length ≤ k := by omega
   obtain rfl : k = l.length := by omega
   refine zN ?_
   refine zT ?_
   refine zah ?_
   refine zD ?_
   refine zf ?_
   rw [List.take_length]
   refine zb ?_
   refine de rfl (zbU fun m54 => ?_)
   refine das rfl ?_
   refine dn ?_
   refine zh ?_
   refine zb ?_
   refine dmv rfl ?_
   refine de rfl (zmI (i := 1) zdI rfl rfl fun r => ?_)
   refine dn ?_
   refine zl ?_
   refine zaS [14, 15, 57, 58, 59, 60, 61, 62, 63, 64, 65, 66, 67] (fun (vis : List Nat) (E : List (Str × Int)) => []) (fun (vis : List Nat) (E : List (Str × Int)) => [.map m54 (sk (em .str (zkL trust E))), .iter r m16 (sk (em (.int .i64) (zdJ l trust n))) vis]) (fun (vis : List Nat) (E : List (Str × Int)) => VisOk ((zdJ l trust n)) vis E ∧ (True)) (fun (vis : List Nat) (E : List (Str × Int)) => ((zdJ l trust n)).length - vis.length) ([]) ([]) ?_ ?_ ?_ ?_
   ·exact ⟨VisOk.nil _, trivial⟩
   ·exact trivial
   ·exact List.Perm.refl _
   ·intro vis E hinv
    obtain ⟨hvis, -⟩ := hinv
    refine zb ?_
    refine de rfl (zmE (i := 1) (L := (zdJ l trust n)) (enc := (fun p : Str × Int => (HVal.str p.1, HVal.int .i64 p.2))) rfl rfl (ztl _ _) hvis.nd hvis.lt fun cb R vis' hnx => ?_)
    refine dq (z6 rfl rfl) ?_
    refine dn ?_
    refine zh ?_
    refine zj rfl (fun h7 => ?_) (fun h8 => ?_)
    ·try simp at h7
     obtain ⟨j, q, hq, hj, rfl⟩ := hnx.t h7
     have hroom := hvis.room hq hj
     have hstep := hvis.step hq hj
     have hqm := List.mem_of_getElem? hq
     refine zk ?_
     refine zf ?_
     refine zl ?_
     refine zb ?_
     refine de rfl (zlw (i := 1) (L := (zdJ l trust n)) (enc := (fun p : Str × Int => (HVal.str p.1, HVal.int .i64 p.2))) rfl rfl (ztl _ _) hq ?_)
     refine dq (z6 rfl rfl) ?_
     refine dq (z6 rfl rfl) ?_
     refine das rfl ?_
     refine das rfl ?_
     refine dn ?_
     refine zy ?_
     refine dmv rfl ?_
     refine dmv rfl ?_
     refine dmv rfl ?_
     refine dmv rfl ?_
     obtain ⟨hq0, hq1⟩ := zp9 hqm
     refine dq (zJ (j := q.2.toNat) (a := trust.getD q.2.toNat []) zG ty9 rfl rfl (by omega) (getD_some (by omega))) ?_
     refine dq (ze ty9 rfl rfl rfl) ?_
     refine de0 (zep (i := 0) (v := trust.getD q.2.toNat []) ztp ty9 rfl rfl rfl rfl ?_)
     refine dn ?_
     refine zz ?_
     exact ⟨_, E ++ [q], ⟨hstep, trivial⟩, by dsimp only; rw [List.length_append]; simp only [List.length_cons, List.length_nil]; omega, trivial, (by repeat (first | exact zo | refine zt rfl ?_ | refine zp rfl rfl ?_)), zL (by dsimp only; rw [zri hvis (zhv _ _ _) hq hj]; rfl)⟩
    ·try simp at h8
     obtain ⟨rfl, hlen⟩ := hnx.f h8
     have hEp := hvis.done hlen
     refine zN ?_
     refine zT ?_
     refine za3 ?_
     refine zD ?_
     refine zf ?_
     refine zI (Ghost.only (i := 0) rfl) ?_
     refine zb ?_
     refine dmv rfl ?_
     refine das rfl ?_
     refine dn ?_
     refine zn ?_
     exact zbs rfl ⟨_, _, rfl, zqr hEp, zsr hEp, rfl⟩
end
end Go.Proofs.YtcihcbnjfclkbaaGreatDoor
namespace Go.Proofs
section
open Go.Shelf
def Tryz.g183_ren : Go.Shelf.Ren := ⟨fun | 7 => 183 | 10 => 204 | n => n, fun | 23 => 204 | 26 => 9 | 3 => 4 | 28 => 252 | 0 => 0 | 27 => 251 | 33 => 73 | 4 => 4 | n => n, fun | n => n⟩
theorem Tryz.g183 : Go.Proofs.SlLaysZ.n7 Tryz.prog Tryz.g183_ren := {
 mixed := by kernel_rfl
 f7 := ⟨Tryz.f183.name, by decide, Tryz.func183.trans (congrArg some (by kernel_rfl))⟩
 f10 := ⟨Tryz.f204.name, by decide, Tryz.func204.trans (congrArg some (by kernel_rfl))⟩
 t0 := Tryz.underlying0
 a0 := Tryz.isAgg0
 z0 := Tryz.sizeOf0
 v0 := Tryz.zeroValue0
 t4 := Tryz.underlying4
 a4 := Tryz.isAgg4
 z4 := Tryz.sizeOf4
 v4 := Tryz.zeroValue4
 t23 := Tryz.underlying204
 a23 := Tryz.isAgg204
 z23 := Tryz.sizeOf204
 v23 := Tryz.zeroValue204
 t26 := Tryz.underlying9
 a26 := Tryz.isAgg9
 z26 := Tryz.sizeOf9
 v26 := Tryz.zeroValue9
 t27 := Tryz.underlying251
 a27 := Tryz.isAgg251
 z27 := Tryz.sizeOf251
 v27 := Tryz.zeroValue251
 t28 := Tryz.underlying252
 a28 := Tryz.isAgg252
 z28 := Tryz.sizeOf252
 v28 := Tryz.zeroValue252
 t33 := Tryz.underlying73
 a33 := Tryz.isAgg73
 z33 := Tryz.sizeOf73
 v33 := Tryz.zeroValue73 }
def Tryz.g182_ren : Go.Shelf.Ren := ⟨fun | 6 => 182 | 8 => 203 | 9 => 26 | 11 => 212 | 13 => 69 | 12 => 68 | 23 => 113 | 24 => 114 | 14 => 104 | 15 => 105 | 16 => 106 | 17 => 107 | 18 => 108 | 19 => 109 | 20 => 110 | 21 => 111 | 22 => 112 | 25 => 159 | 26 => 160 | 27 => 161 | 28 => 162 | 29 => 163 | 30 => 164 | 31 => 190 | n => n, fun | 26 => 9 | 28 => 252 | 24 => 26 | 0 => 0 | 3 => 3 | 37 => 135 | 48 => 177 | 50 => 179 | 4 => 4 | 40 => 171 | 39 => 170 | 45 => 144 | 5 => 5 | 9 => 9 | 51 => 224 | 55 => 228 | 57 => 258 | 58 => 259 | 33 => 73 | n => n, fun | n => n⟩
theorem Tryz.g182 : Go.Proofs.SlLaysZ.n6 Tryz.prog Tryz.g182_ren := {
 mixed := by kernel_rfl
 f6 := ⟨Tryz.f182.name, by decide, Tryz.func182.trans (congrArg some (by kernel_rfl))⟩
 f8 := ⟨Tryz.f203.name, by decide, Tryz.func203.trans (congrArg some (by kernel_rfl))⟩
 f11 := ⟨Tryz.f212.name, by decide, Tryz.func212.trans (congrArg some (by kernel_rfl))⟩
 t0 := Tryz.underlying0
 a0 := Tryz.isAgg0
 z0 := Tryz.sizeOf0
 v0 := Tryz.zeroValue0
 t24 := Tryz.underlying26
 a24 := Tryz.isAgg26
 z24 := Tryz.sizeOf26
 v24 := Tryz.zeroValue26
 t26 := Tryz.underlying9
 a26 := Tryz.isAgg9
 z26 := Tryz.sizeOf9
 v26 := Tryz.zeroValue9
 t28 := Tryz.underlying252
 a28 := Tryz.isAgg252
 z28 := Tryz.sizeOf252
 v28 := Tryz.zeroValue252
 i26 := by kernel_rfl }
def Tryz.g26_ren : Go.Shelf.Ren := ⟨fun | 6 => 26 | 8 => 69 | 9 => 68 | 19 => 113 | 20 => 114 | 21 => 104 | 22 => 105 | 23 => 106 | 24 => 107 | 25 => 108 | 26 => 109 | 27 => 110 | 28 => 111 | 29 => 112 | 36 => 159 | 31 => 160 | 32 => 161 | 37 => 162 | 38 => 163 | 39 => 164 | 41 => 190 | n => n, fun | 27 => 26 | 29 => 9 | 3 => 3 | 32 => 135 | 26 => 26 | 0 => 0 | 44 => 177 | 46 => 179 | 4 => 4 | 36 => 171 | 35 => 170 | 41 => 144 | 5 => 5 | 9 => 9 | 53 => 224 | 57 => 228 | 63 => 258 | 64 => 259 | n => n, fun | n => n⟩
theorem Tryz.g26 : Go.Proofs.SlLaysM.n6 Tryz.prog Tryz.g26_ren := {
 mixed := by kernel_rfl
 f6 := ⟨Tryz.f26.name, by decide, Tryz.func26.trans (congrArg some (by kernel_rfl))⟩
 f8 := Tryz.func69.trans (congrArg some (by kernel_rfl))
 f9 := ⟨Tryz.f68.name, by decide, Tryz.func68.trans (congrArg some (by kernel_rfl))⟩
 f19 := Tryz.func113.trans (congrArg some (by kernel_rfl))
 f20 := Tryz.func114.trans (congrArg some (by kernel_rfl))
 f21 := ⟨Tryz.f104.name, by decide, Tryz.func104.trans (congrArg some (by kernel_rfl))⟩
 f22 := ⟨Tryz.f105.name, by decide, Tryz.func105.trans (congrArg some (by kernel_rfl))⟩
 f23 := ⟨Tryz.f106.name, by decide, Tryz.func106.trans (congrArg some (by kernel_rfl))⟩
 f24 := ⟨Tryz.f107.name, by decide, Tryz.func107.trans (congrArg some (by kernel_rfl))⟩
 f25 := ⟨Tryz.f108.name, by decide, Tryz.func108.trans (congrArg some (by kernel_rfl))⟩
 f26 := ⟨Tryz.f109.name, by decide, Tryz.func109.trans (congrArg some (by kernel_rfl))⟩
 f27 := ⟨Tryz.f110.name, by decide, Tryz.func110.trans (congrArg some (by kernel_rfl))⟩
 f28 := ⟨Tryz.f111.name, by decide, Tryz.func111.trans (congrArg some (by kernel_rfl))⟩
 f29 := ⟨Tryz.f112.name, by decide, Tryz.func112.trans (congrArg some (by kernel_rfl))⟩
 f31 := Tryz.func160.trans (congrArg some (by kernel_rfl))
 f32 := Tryz.func161.trans (congrArg some (by kernel_rfl))
 f36 := ⟨Tryz.f159.name, by decide, Tryz.func159.trans (congrArg some (by kernel_rfl))⟩
 f37 := ⟨Tryz.f162.name, by decide, Tryz.func162.trans (congrArg some (by kernel_rfl))⟩
 f38 := ⟨Tryz.f163.name, by decide, Tryz.func163.trans (congrArg some (by kernel_rfl))⟩
 f39 := ⟨Tryz.f164.name, by decide, Tryz.func164.trans (congrArg some (by kernel_rfl))⟩
 f41 := ⟨Tryz.f190.name, by decide, Tryz.func190.trans (congrArg some (by kernel_rfl))⟩
 t0 := Tryz.underlying0
 a0 := Tryz.isAgg0
 z0 := Tryz.sizeOf0
 v0 := Tryz.zeroValue0
 t3 := Tryz.underlying3
 a3 := Tryz.isAgg3
 z3 := Tryz.sizeOf3
 v3 := Tryz.zeroValue3
 t4 := Tryz.underlying4
 a4 := Tryz.isAgg4
 z4 := Tryz.sizeOf4
 v4 := Tryz.zeroValue4
 t5 := Tryz.underlying5
 a5 := Tryz.isAgg5
 z5 := Tryz.sizeOf5
 v5 := Tryz.zeroValue5
 t9 := Tryz.underlying9
 a9 := Tryz.isAgg9
 z9 := Tryz.sizeOf9
 v9 := Tryz.zeroValue9
 t26 := Tryz.underlying26
 a26 := Tryz.isAgg26
 z26 := Tryz.sizeOf26
 v26 := Tryz.zeroValue26
 t27 := Tryz.underlying26
 a27 := Tryz.isAgg26
 z27 := Tryz.sizeOf26
 v27 := Tryz.zeroValue26
 t29 := Tryz.underlying9
 a29 := Tryz.isAgg9
 z29 := Tryz.sizeOf9
 v29 := Tryz.zeroValue9
 t32 := Tryz.underlying135
 a32 := Tryz.isAgg135
 z32 := Tryz.sizeOf135
 v32 := Tryz.zeroValue135
 t35 := Tryz.underlying170
 a35 := Tryz.isAgg170
 z35 := Tryz.sizeOf170
 v35 := Tryz.zeroValue170
 t36 := Tryz.underlying171
 a36 := Tryz.isAgg171
 z36 := Tryz.sizeOf171
 v36 := Tryz.zeroValue171
 t41 := Tryz.underlying144
 a41 := Tryz.isAgg144
 z41 := Tryz.sizeOf144
 v41 := Tryz.zeroValue144
 t44 := Tryz.underlying177
 a44 := Tryz.isAgg177
 z44 := Tryz.sizeOf177
 v44 := Tryz.zeroValue177
 t46 := Tryz.underlying179
 a46 := Tryz.isAgg179
 z46 := Tryz.sizeOf179
 v46 := Tryz.zeroValue179
 t53 := Tryz.underlying224
 a53 := Tryz.isAgg224
 z53 := Tryz.sizeOf224
 v53 := Tryz.zeroValue224
 t57 := Tryz.underlying228
 a57 := Tryz.isAgg228
 z57 := Tryz.sizeOf228
 v57 := Tryz.zeroValue228
 t63 := Tryz.underlying258
 a63 := Tryz.isAgg258
 z63 := Tryz.sizeOf258
 v63 := Tryz.zeroValue258
 t64 := Tryz.underlying259
 a64 := Tryz.isAgg259
 z64 := Tryz.sizeOf259
 v64 := Tryz.zeroValue259 }
def Tryz.g53_ren : Go.Shelf.Ren := ⟨fun | 6 => 53 | 15 => 69 | 14 => 87 | 28 => 113 | 29 => 114 | 20 => 133 | 21 => 134 | 22 => 135 | 23 => 136 | 24 => 137 | 25 => 138 | 26 => 139 | 27 => 140 | 46 => 177 | 47 => 160 | 48 => 161 | 49 => 178 | 50 => 179 | 57 => 200 | n => n, fun | 22 => 43 | 24 => 52 | 25 => 95 | 3 => 3 | 39 => 135 | 0 => 0 | 53 => 177 | 55 => 179 | 4 => 4 | 46 => 171 | 45 => 170 | 50 => 144 | 5 => 5 | 9 => 9 | 66 => 224 | 70 => 228 | 76 => 258 | 77 => 259 | n => n, fun | n => n⟩
def Tryz.g184_ren : Go.Shelf.Ren := ⟨fun | 6 => 184 | 15 => 69 | 14 => 205 | 28 => 113 | 29 => 114 | 20 => 213 | 21 => 214 | 22 => 215 | 23 => 216 | 24 => 217 | 25 => 218 | 26 => 219 | 27 => 220 | 46 => 229 | 47 => 160 | 48 => 161 | 49 => 230 | 50 => 231 | 57 => 235 | n => n, fun | 22 => 128 | 24 => 249 | 25 => 255 | 3 => 3 | 39 => 135 | 0 => 0 | 53 => 177 | 55 => 179 | 4 => 4 | 46 => 171 | 45 => 170 | 50 => 144 | 5 => 5 | 9 => 9 | 66 => 224 | 70 => 228 | 76 => 258 | 77 => 259 | n => n, fun | n => n⟩
theorem Tryz.g184 : Go.Proofs.SlLaysF0.n6 Tryz.prog Tryz.g184_ren := {
 mixed := by kernel_rfl
 f6 := ⟨Tryz.f184.name, by decide, Tryz.func184.trans (congrArg some (by kernel_rfl))⟩
 f14 := ⟨Tryz.f205.name, by decide, Tryz.func205.trans (congrArg some (by kernel_rfl))⟩
 f15 := Tryz.func69.trans (congrArg some (by kernel_rfl))
 f20 := ⟨Tryz.f213.name, by decide, Tryz.func213.trans (congrArg some (by kernel_rfl))⟩
 f21 := ⟨Tryz.f214.name, by decide, Tryz.func214.trans (congrArg some (by kernel_rfl))⟩
 f22 := ⟨Tryz.f215.name, by decide, Tryz.func215.trans (congrArg some (by kernel_rfl))⟩
 f23 := ⟨Tryz.f216.name, by decide, Tryz.func216.trans (congrArg some (by kernel_rfl))⟩
 f24 := ⟨Tryz.f217.name, by decide, Tryz.func217.trans (congrArg some (by kernel_rfl))⟩
 f25 := ⟨Tryz.f218.name, by decide, Tryz.func218.trans (congrArg some (by kernel_rfl))⟩
 f26 := ⟨Tryz.f219.name, by decide, Tryz.func219.trans (congrArg some (by kernel_rfl))⟩
 f27 := ⟨Tryz.f220.name, by decide, Tryz.func220.trans (congrArg some (by kernel_rfl))⟩
 f28 := Tryz.func113.trans (congrArg some (by kernel_rfl))
 f29 := Tryz.func114.trans (congrArg some (by kernel_rfl))
 f46 := ⟨Tryz.f229.name, by decide, Tryz.func229.trans (congrArg some (by kernel_rfl))⟩
 f47 := Tryz.func160.trans (congrArg some (by kernel_rfl))
 f48 := Tryz.func161.trans (congrArg some (by kernel_rfl))
 f49 := ⟨Tryz.f230.name, by decide, Tryz.func230.trans (congrArg some (by kernel_rfl))⟩
 f50 := ⟨Tryz.f231.name, by decide, Tryz.func231.trans (congrArg some (by kernel_rfl))⟩
 f57 := ⟨Tryz.f235.name, by decide, Tryz.func235.trans (congrArg some (by kernel_rfl))⟩
 t0 := Tryz.underlying0
 a0 := Tryz.isAgg0
 z0 := Tryz.sizeOf0
 v0 := Tryz.zeroValue0
 t3 := Tryz.underlying3
 a3 := Tryz.isAgg3
 z3 := Tryz.sizeOf3
 v3 := Tryz.zeroValue3
 t4 := Tryz.underlying4
 a4 := Tryz.isAgg4
 z4 := Tryz.sizeOf4
 v4 := Tryz.zeroValue4
 t5 := Tryz.underlying5
 a5 := Tryz.isAgg5
 z5 := Tryz.sizeOf5
 v5 := Tryz.zeroValue5
 t9 := Tryz.underlying9
 a9 := Tryz.isAgg9
 z9 := Tryz.sizeOf9
 v9 := Tryz.zeroValue9
 t22 := Tryz.underlying128
 a22 := Tryz.isAgg128
 z22 := Tryz.sizeOf128
 v22 := Tryz.zeroValue128
 t25 := Tryz.underlying255
 a25 := Tryz.isAgg255
 z25 := Tryz.sizeOf255
 v25 := Tryz.zeroValue255
 t39 := Tryz.underlying135
 a39 := Tryz.isAgg135
 z39 := Tryz.sizeOf135
 v39 := Tryz.zeroValue135
 t45 := Tryz.underlying170
 a45 := Tryz.isAgg170
 z45 := Tryz.sizeOf170
 v45 := Tryz.zeroValue170
 t46 := Tryz.underlying171
 a46 := Tryz.isAgg171
 z46 := Tryz.sizeOf171
 v46 := Tryz.zeroValue171
 t50 := Tryz.underlying144
 a50 := Tryz.isAgg144
 z50 := Tryz.sizeOf144
 v50 := Tryz.zeroValue144
 t53 := Tryz.underlying177
 a53 := Tryz.isAgg177
 z53 := Tryz.sizeOf177
 v53 := Tryz.zeroValue177
 t55 := Tryz.underlying179
 a55 := Tryz.isAgg179
 z55 := Tryz.sizeOf179
 v55 := Tryz.zeroValue179
 t66 := Tryz.underlying224
 a66 := Tryz.isAgg224
 z66 := Tryz.sizeOf224
 v66 := Tryz.zeroValue224
 t70 := Tryz.underlying228
 a70 := Tryz.isAgg228
 z70 := Tryz.sizeOf228
 v70 := Tryz.zeroValue228
 t76 := Tryz.underlying258
 a76 := Tryz.isAgg258
 z76 := Tryz.sizeOf258
 v76 := Tryz.zeroValue258
 t77 := Tryz.underlying259
 a77 := Tryz.isAgg259
 z77 := Tryz.sizeOf259
 v77 := Tryz.zeroValue259 }
end
end Go.Proofs
namespace Go.HL
section
variable {P : Program}
open Go.Sort Go.Proofs Go.Shelf Go.RowKit
theorem znP [Tracks] {w w' : World} {J : Imm} {M : List MObj} (hT : Tracks.on = true) (hl : Le (zbz w) J) (hs : Sat P J M w') : ∃ q os, w' = grow (w.drewN q) os := by
 have hb := zim hl hs
 have hd : w.drawn ≤ w'.drawn := Nat.le_trans (hl.low hT) (hs.low hT)
 refine ⟨w'.drawn - w.drawn, w'.heap.extract w.heap.size w'.heap.size, ?_⟩
 have hh : w'.heap = w.heap ++ w'.heap.extract w.heap.size w'.heap.size := by
  apply Array.ext_getElem?
  intro i
  by_cases hi : i < w.heap.size
  ·rw [Array.getElem?_append_left hi]; exact hb.block i hi
  ·rw [Array.getElem?_append_right (by omega), Array.getElem?_extract]
   have := hb.size
   split
   ·congr 1; omega
   ·rw [Array.getElem?_eq_none (by omega)]
 have h1 := hb.os
 have h2 := hb.tape
 have h3 := hb.output
 obtain ⟨a1, a2, a3, a4, a5⟩ := w'
 obtain ⟨b1, b2, b3, b4, b5⟩ := w
 simp only at h1 h2 h3 hd hh
 subst h1 h2 h3
 simp only [grow, World.drewN, World.mk.injEq]
 exact ⟨hh, trivial, by omega, trivial, trivial⟩
theorem ConP.calls [Tracks] {f : FuncId} {hargs : List HVal} {h : HVal} (hT : Tracks.on = true) (hc : ConP P f hargs h) {w : World} (ht : TabI P (zbz w)) {args : List Value} (ha : VL (zbz w) hargs args) :
 Calls P f args.toArray w fun e w' => ∃ v, e = .returned v ∧ V (zbz w') h v ∧ ∃ q os, w' = grow (w.drewN q) os := by
 refine (hc (zbz w) [] w args ha (zpq ht)).mono ?_
 rintro e w' ⟨v, x, M', J, rfl, hle, ⟨rfl, rfl⟩, hV, hs⟩
 exact ⟨v, rfl, hV.mono hs.le_all, znP hT hle hs⟩
@[reducible] def zjm : Tracks := ⟨true⟩
/-- A row of cells that reads as an element. -/
abbrev zdE {A : Type} (I : Imm) (e : A → HVal) (k : Nat) : Type := { p : A × List Value // p.2.length = k ∧ (∀ v ∈ p.2, v.oneCell' = true) ∧ VL I (zm (e p.1)) p.2 }
theorem zpn [Tracks] {A : Type} {I : Imm} {e : A → HVal} {k : Nat} (hk : ∀ x, (zm (e x)).length = k) (hf : ∀ x, zaD (zm (e x)) = true) {rc : Array Value} : ∀ (l : List A) (off : Nat), off + l.length * k ≤ rc.size →
 (∀ (i j : Nat) (x : A) (c : HVal) (v : Value), l[i]? = some x → (zm (e x))[j]? = some c → rc[off + i * k + j]? = some v → V I c v) →
 ∃ d : List (zdE I e k), d.map (·.1.1) = l ∧ ∀ (i j : Nat) (p : zdE I e k), d[i]? = some p → j < k → rc[off + i * k + j]? = p.1.2[j]?
 | [], off, _, _ => ⟨[], rfl, fun i j p h => by simp at h⟩
 | x :: l, off, hb, hV => by
   have hb' : off + k + l.length * k ≤ rc.size := by simp [Nat.add_mul] at hb; omega
   obtain ⟨d, h1, h2⟩ := zpn hk hf l (off + k) hb' fun i j y c v a1 a2 a3 => hV (i + 1) j y c v (by simpa using a1) a2 (by rw [Nat.add_mul, Nat.one_mul]; rw [show off + (i * k + k) + j = off + k + i * k + j by omega]; exact a3)
   have hlen : (rc.extract off (off + k)).toList.length = k := by simp; omega
   have hg : ∀ j, j < k → (rc.extract off (off + k)).toList[j]? = rc[off + j]? := fun j hj => by
    rw [Array.getElem?_toList, Array.getElem?_extract, if_pos (by omega)]
   have hvl : VL I (zm (e x)) (rc.extract off (off + k)).toList := ⟨by rw [hlen, hk], fun j c v a1 a2 => by
    have hj : j < k := by have := zC a1; rw [hk] at this; exact this
    rw [hg j hj] at a2
    exact hV 0 j x c v rfl a1 (by simpa using a2)⟩
   refine ⟨⟨(x, (rc.extract off (off + k)).toList), hlen, zfh hvl (hf x), hvl⟩ :: d, by simp [h1], fun i j p hp hj => ?_⟩
   cases i with
   | zero =>
     simp only [List.getElem?_cons_zero, Option.some.injEq] at hp
     subst hp
     simp only [Nat.zero_mul, Nat.add_zero]
     exact (hg j hj).symm
   | succ i =>
     simp only [List.getElem?_cons_succ] at hp
     rw [← h2 i j p hp hj, Nat.add_mul, Nat.one_mul]
     congr 1; omega
section
variable {A : Type} {e : A → HVal} {k : Nat}
theorem zmz {α : Type} [Inhabited α] {enc : α → List Value} {w : World} {b off m : Nat} {dk : Array α} {os : Array Obj} {c : Nat} (hc : c < w.heap.size) (hb : c ≠ b) : (sortWorldK enc k w b off m dk os).heap[c]? = w.heap[c]? := by
 simp only [sortWorldK, grow, putRowK, putRow, mapBlock, Sort.ahead]
 rw [Array.getElem?_append_left (by simpa using hc), Array.getElem?_modify, if_neg (Ne.symm hb)]
theorem ziK {α : Type} [Inhabited α] {enc : α → List Value} {w : World} {b off m : Nat} {dk : Array α} {os : Array Obj} {rc : Array Value} {el : TypeId} {fr : Nat × Nat} (hb : w.heap[b]? = some (.cells rc el fr)) :
 (sortWorldK enc k w b off m dk os).heap[b]? = some (.cells (putCells id off (flatK enc k dk) rc) el fr) := by
 have hlt : b < w.heap.size := lt_of_get' hb
 simp only [sortWorldK, grow, putRowK, putRow, mapBlock, Sort.ahead]
 rw [Array.getElem?_append_left (by simpa using hlt), Array.getElem?_modify, if_pos rfl, hb]
 rfl
where
 lt_of_get' {α : Type} {a : Array α} {i : Nat} {x : α} (h : a[i]? = some x) : i < a.size := by
  rcases Nat.lt_or_ge i a.size with h' | h'
  ·exact h'
  ·simp [Array.getElem?_eq_none h'] at h
theorem zm7 {α : Type} [Inhabited α] {enc : α → List Value} (hk : ∀ x, (enc x).length = k) {dk : Array α} {i j : Nat} {x : α} (hx : dk[i]? = some x) (hj : j < k) : some ((flatK enc k dk)[i * k + j]!) = (enc x)[j]? := by
 have hi : i < dk.size := by
  rcases Nat.lt_or_ge i dk.size with h' | h'
  ·exact h'
  ·simp [Array.getElem?_eq_none h'] at hx
 have hle : (i + 1) * k ≤ dk.size * k := Nat.mul_le_mul_right _ hi
 rw [Nat.add_mul, Nat.one_mul] at hle
 rw [get_flatK enc k dk _ (by omega)]
 have e1 : (i * k + j) / k = i := by rw [Nat.mul_comm, Nat.mul_add_div (by omega), Nat.div_eq_of_lt hj]; rfl
 have e2 : (i * k + j) % k = j := by rw [Nat.mul_comm, Nat.mul_add_mod, Nat.mod_eq_of_lt hj]
 rw [e1, e2]
 have e3 : dk[i]! = x := by rw [getElem!_pos dk i hi]; rw [Array.getElem?_eq_getElem hi] at hx; exact Option.some.inj hx
 rw [e3]
 have hjl : j < (enc x).length := by rw [hk]; exact hj
 rw [List.getElem?_eq_getElem hjl, getElem!_pos (enc x) j hjl]
set_option maxHeartbeats 1000000 in
/-- slices.SortFunc: a permutation that is sorted. -/
theorem zrE [Tracks] {ρ : Ren} (L : SlLaysF0.n6 P ρ) (aE : ∀ w, (isAgg (ρ.t 24)).run P w = .ok true w) (zE : ∀ w, (Go.sizeOf (ρ.t 24)).run P w = .ok k w) (hk : ∀ x, (zm (e x)).length = k) (ha : ∀ x, e x = .agg (zm (e x))) (hf : ∀ x, zaD (zm (e x)) = true)
 {c : A → A → Int} (hO : SWO (ltOf c)) {g : FuncId} (hg : Callable P g) {cap : List HVal} (hc : ∀ x y, @ConP zjm P g (e x :: e y :: cap) (.int .i64 (c x y))) {l : List A} (hl : l.length ≤ 1000000) {v : Value} :
 Con P (ρ.f 6) [.raw v, .fn (.func g) [] cap] [.arr v k (l.map e)] fun x M' => ∃ l' : List A, x = .tup [] ∧ l'.Perm l ∧ l'.Pairwise (fun a b => ¬ c b a < 0) ∧ M' = [.arr v k (l'.map e)] := by
 intro I F w args hargs hs
 obtain ⟨n1, n2⟩ := hargs
 match args, n1, n2 with
 | [u, fv], _, n2 =>
   obtain rfl : u = v := (n2 0 _ _ rfl rfl).raw_inv
   obtain ⟨f1, cb, rfl, f2, f3⟩ := (n2 1 _ _ rfl rfl).fn_inv
   have hf1 : f1 = #[] := by have := f2.1; simp at this; exact this
   subst hf1
   by_cases h0 : l = []
   ·subst h0
    have hu : ∃ p cp, u = .slice p 0 cp := by
     rcases hs.obj (.arr u k (([] : List A).map e)) (by simp) with ⟨rfl, _⟩ | ⟨b, off, cp, rc, el, fr, rfl, _⟩
     ·exact ⟨_, _, rfl⟩
     ·exact ⟨_, _, rfl⟩
    obtain ⟨p, cp, rfl⟩ := hu
    refine (AnyF.slices_SortFunc_none L p cp _ w).mono ?_
    rintro _ _ ⟨rfl, rfl⟩
    exact ⟨_, .tup [], _, I, rfl, .refl I, ⟨[], rfl, .refl _, .nil, rfl⟩, .tup (by simp) (fun j c v h _ => by simp at h), hs⟩
   ·rcases hs.obj (.arr u k (l.map e)) (by simp) with ⟨_, hn⟩ | ⟨b, off, cp, rc, el, fr, rfl, _⟩
    ·simp at hn; exact absurd hn h0
    ·rw [List.length_map] at hs ⊢
     obtain ⟨_, rc, el, fr, h2, h3, h4, h5, h6, h7⟩ := zeC hs
     rw [List.length_map] at h5
     have hblt : b < w.heap.size := ziK.lt_of_get' h2
     have hsz : off + l.length * k ≤ rc.size := by
      have : l.length * k ≤ cp * k := Nat.mul_le_mul_right _ h5.1
      omega
     obtain ⟨d, d1, d2⟩ := zpn (I := I) (e := e) hk hf (rc := rc) l off hsz fun i j x c v a1 a2 a3 => h7 i j (e x) c v (by simp [a1]) a2 a3
     have dl : d.length = l.length := by rw [← d1]; simp
     obtain ⟨p0, hp0⟩ : ∃ p, d[0]? = some p := ⟨_, List.getElem?_eq_getElem (by have := List.length_pos_iff.2 h0; omega)⟩
     haveI : Inhabited (zdE I e k) := ⟨p0⟩
     have hkr : ∀ x : zdE I e k, (x.1.2).length = k := fun x => x.2.1
     have hH : HoldsK (fun x : zdE I e k => x.1.2) k w b off d.toArray := fun j hj => by
      simp only [size_flatK, List.size_toArray, dl] at hj
      have hk0 : 0 < k := by rcases Nat.eq_zero_or_pos k with h | h; (subst h; simp at hj); exact h
      have hi : j / k < d.length := by rw [dl]; exact Nat.div_lt_of_lt_mul (by rw [Nat.mul_comm]; exact hj)
      have hjk := Nat.mod_lt j hk0
      have hdj : j / k * k + j % k = j := by rw [Nat.mul_comm]; exact Nat.div_add_mod j k
      have hg1 := d2 (j / k) (j % k) d[j / k] (List.getElem?_eq_getElem hi) hjk
      have hg2 := zm7 (enc := fun x : zdE I e k => x.1.2) (k := k) hkr (dk := d.toArray) (i := j / k) (j := j % k) (x := d[j / k]) (by simp [hi]) hjk
      rw [hdj] at hg2
      constructor
      ·rw [zd7 h2]
       rw [show off + j = off + j / k * k + j % k by omega, hg1, ← hg2]; rfl
      ·simp only [World.frozen?, h2]
       have := h3 (off + j) (by omega)
       simpa using this
     have hle : ∀ (m : Nat) (dk : Array (zdE I e k)) (os : Array Obj), Le I (zbz (sortWorldK (fun x : zdE I e k => x.1.2) k w b off m dk os)) := fun m dk os =>
      ⟨fun c o ho => by
       have hcb : c ≠ b := fun hh => by
        subst hh
        have := hs.apart c (by simp [blocks, MObj.blocks])
        rw [this] at ho; cases ho
       have h9 := hs.imm c o ho
       show (sortWorldK _ k w b off m dk os).heap[c]? = some o
       rw [zmz (ziK.lt_of_get' h9) hcb]; exact h9, hs.os, hs.output, hs.tape, fun ht => Nat.le_trans (hs.low ht) (Nat.le_add_right _ _)⟩
     have hcmp : CmpLays P g cb (fun x : zdE I e k => x.1.2) k (fun x y => c x.1.1 y.1.1) b off d.toArray.size w := fun m os dk _ x y => by
      have hI := hle m dk os
      have hxa : ∀ z : zdE I e k, V (zbz (sortWorldK (fun x : zdE I e k => x.1.2) k w b off m dk os)) (e z.1.1) (.agg z.1.2.toArray) := fun z => by
       rw [ha]; exact V.mk_agg (by simpa using z.2.2.2.mono hI)
      have e9 : (#[Value.agg x.1.2.toArray, .agg y.1.2.toArray] ++ cb) = (Value.agg x.1.2.toArray :: .agg y.1.2.toArray :: cb.toList).toArray := by simp
      rw [e9]
      refine (@ConP.calls P zjm g _ _ rfl (hc x.1.1 y.1.1) _ (hs.tab.mono hI) _ (VL.cons (hxa x) (VL.cons (hxa y) (f3.mono hI)))).mono ?_
      rintro _ w' ⟨u, rfl, hu, q, os', rfl⟩
      exact ⟨by rw [hu.int_inv], q, os', rfl⟩
     have hO' : SWO (ltOf fun x y : zdE I e k => c x.1.1 y.1.1) := ⟨fun x => hO.irrefl x.1.1, fun x y z => hO.trans x.1.1 y.1.1 z.1.1, fun x y z => hO.ntrans x.1.1 y.1.1 z.1.1⟩
     have hrun := AnyQ.slices_SortFunc L k aE zE (fun x : zdE I e k => x.1.2) hkr (fun x => x.2.2.1) (fun x y => c x.1.1 y.1.1) hO' g cb b off cp d.toArray w (zdd hg) hcmp hH hblt (by simp; omega)
     rw [List.size_toArray, dl] at hrun
     refine hrun.mono ?_
     rintro _ w' ⟨rfl, d', m, os, ⟨q1, _, q3⟩, q4, rfl⟩
     simp only [List.size_toArray, dl] at q1
     have q3' : d'.toList.Perm d := by
      have e1 : (d'.extract 0 l.length) = d' := by rw [← q1]; exact Array.extract_size
      have e2 : (d.toArray.extract 0 l.length) = d.toArray := by have := Array.extract_size (xs := d.toArray); rw [List.size_toArray, dl] at this; exact this
      rw [e1, e2] at q3; simpa using q3
     refine ⟨_, .tup [], [.arr (.slice (some ⟨b, off, none⟩) l.length cp) k ((d'.toList.map (·.1.1)).map e)], I, rfl, .refl I, ⟨d'.toList.map (·.1.1), rfl, by rw [← d1]; exact q3'.map _, ?_, rfl⟩, .tup (by simp) (fun j c v h _ => by simp at h), ?_⟩
     ·refine List.pairwise_iff_getElem.2 fun i j hi hj hij => ?_
      simp only [List.length_map, Array.length_toList] at hi hj
      have := q4 i j (Nat.zero_le _) hij (by omega)
      rw [getElem!_pos d' i hi, getElem!_pos d' j hj] at this
      simp only [ltOf, decide_eq_false_iff_not] at this
      simpa using this
     ·have hchg : ∀ x, x < w.heap.size → x ∉ (MObj.arr (.slice (some ⟨b, off, none⟩) l.length cp) k (l.map e)).blocks → (sortWorldK (fun x : zdE I e k => x.1.2) k w b off m d' os).heap[x]? = w.heap[x]? := fun x hx hnx => zmz hx fun hh => hnx (by rw [hh]; simp [MObj.blocks])
      refine hs.change (m' := .arr (.slice (some ⟨b, off, none⟩) l.length cp) k ((d'.toList.map (·.1.1)).map e)) hchg (fun x hx => .inl hx) (by simp [MObj.blocks]) ?_ rfl rfl rfl (fun _ => Nat.le_add_right _ _)
      refine .inr ⟨b, off, cp, putCells id off (flatK (fun x : zdE I e k => x.1.2) k d') rc, el, fr, by simp [q1], ziK h2, by simpa [putCells] using h3, ?_, by simp [q1]; exact h5, by simpa [putCells] using h6, ?_⟩
      ·intro y hy; obtain ⟨z, _, rfl⟩ := List.mem_map.1 hy; exact hk z
      ·intro i j y z v a1 a2 a3
       rw [List.map_map, List.getElem?_map] at a1
       cases hq : d'.toList[i]? with
       | none => rw [hq] at a1; simp at a1
       | some r =>
         rw [hq] at a1
         simp only [Option.map_some, Function.comp_apply, Option.some.injEq] at a1
         subst a1
         have hj : j < k := by have := zC a2; rw [hk] at this; exact this
         have hi : i < l.length := by have := zC hq; simp at this; omega
         have hle : (i + 1) * k ≤ l.length * k := Nat.mul_le_mul_right _ hi
         rw [Nat.add_mul, Nat.one_mul] at hle
         have hr : off + i * k + j < rc.size := by omega
         rw [putCells, Array.getElem?_mapIdx, Array.getElem?_eq_getElem hr, Option.map_some, if_pos ⟨by omega, by rw [size_flatK, q1]; omega⟩] at a3
         rw [show off + i * k + j - off = i * k + j by omega] at a3
         have hg2 := zm7 (enc := fun x : zdE I e k => x.1.2) (k := k) hkr (dk := d') (i := i) (j := j) (x := r) (by simpa using hq) hj
         rw [show (id (flatK (fun x : zdE I e k => x.1.2) k d')[i * k + j]!) = (flatK (fun x : zdE I e k => x.1.2) k d')[i * k + j]! from rfl, hg2] at a3
         exact r.2.2.2.2 j z v a2 a3
end
end
section
open Go.Proofs Go.RowKit Go.Maps Go.Sort Go.Shelf
section
variable {P : Program}
def zmk (H : Type) : Value → Option (DataW H × List MemPlace) := fun _ => some (.nil, [])
theorem zsI {I : Imm} {w : World} {b : Nat} {α : Type} {f : α → HVal} {L : List (Str × α)} (hm : MSat I w (.map b (sk (em f L)))) :
 ∃ es clk, w.heap[b]? = some (.map es clk) ∧ BornOk es clk ∧ es.size = L.length ∧ es.toList.map (·.key) = L.map fun p => encStr p.1 := by
 obtain ⟨es, clk, h1, ⟨h2, h4⟩, h3⟩ := hm
 have hl : es.size = L.length := by rw [h2]; simp [sk]
 refine ⟨es, clk, h1, h4, hl, List.ext_getElem? fun i => ?_⟩
 rw [List.getElem?_map, List.getElem?_map]
 rcases Nat.lt_or_ge i L.length with h | h
 ·have a1 : L[i]? = some L[i] := List.getElem?_eq_getElem h
  have a2 : es[i]? = some es[i] := Array.getElem?_eq_getElem (by omega)
  have a3 : (sk (em f L))[i]? = some (.str L[i].1, f L[i].2) := by simp [sk, a1]
  have a4 := (h3 i _ _ a3 a2).1.str_inv
  rw [a1, Array.getElem?_toList, a2]
  simp only [Option.map_some, Option.some.injEq]
  rw [a4]
  try rfl
 ·rw [List.getElem?_eq_none h, List.getElem?_eq_none (by rw [Array.length_toList]; omega)]; rfl
theorem zpW {es : Array MapEntry} {clk : Nat} (h : BornOk es clk) : (es.toList.map (·.born)).Nodup := by
 refine List.pairwise_iff_getElem.2 fun i j hi hj hij e => ?_
 rw [List.getElem_map, List.getElem_map] at e
 rw [List.length_map, Array.length_toList] at hi hj
 have := h.2 i j es[i] es[j] (Array.getElem?_eq_getElem hi) (Array.getElem?_eq_getElem hj) (by simpa using e)
 omega
theorem zo3 {I : Imm} {w : World} {b : Nat} {α : Type} {f : α → HVal} {L : List (Str × α)} {k : TypeId} (hk : P.underlying k = some .string) (hm : MSat I w (.map b (sk (em f L)))) (hn : ANodup L)
 (hl : ∀ p ∈ L, p.1.length ≤ 1000000) (hs : L.length ≤ 1000000) : ∃ D : DataW Unit, w.ownsMap P k (zmk Unit) b L.length D ∧ (strKeys D).Perm (L.map (·.1)) ∧ Maps.size D = L.length := by
 obtain ⟨es, clk, h1, h2, h3, h4⟩ := zsI hm
 have hx : ∀ x ∈ es.toList, ∃ p ∈ L, x.key = encStr p.1 := fun x hx => by
  have := List.mem_map_of_mem (f := (·.key)) hx
  rw [h4] at this
  obtain ⟨p, hp, e⟩ := List.mem_map.1 this
  exact ⟨p, hp, e.symm⟩
 have hrd : ∀ x ∈ es.toList, ∀ p ∈ L, x.key = encStr p.1 → WideElems.rd P k (zmk Unit) x = some (.string p.1, .nil) := fun x _ p hp e => by
  have := hl p hp
  have hm : maxLen = 9223372036854775807 := by rfl
  simp [WideElems.rd, keyOf, hk, e, mapKey, encStr, zmk, hm]
  rw [if_pos (by show p.1.toArray.size ≤ _; simp; omega)]
  rfl
 have hkeys : es.toList.map (fun x => strOf (WideElems.rg P k (zmk Unit) x).1) = L.map (·.1) := by
  have e2 : es.toList.map (fun x => strOf (WideElems.rg P k (zmk Unit) x).1) = (es.toList.map (·.key)).map fun v => match v with | .string s => s.data.toList | _ => [] := by
   rw [List.map_map]
   refine List.map_congr_left fun x hx' => ?_
   obtain ⟨p, hp, e⟩ := hx x hx'
   rw [WideElems.rg_of (hrd x hx' p hp e)]
   simp [e, encStr, strOf]
  rw [e2, h4, List.map_map]
  refine List.map_congr_left fun p _ => ?_
  simp [encStr]
 have hml : maxLen = 9223372036854775807 := by rfl
 refine ⟨_, ⟨es, clk, h1, ⟨by omega, ⟨fun x hx' => ?_, zpW h2, ?_⟩, fun x hx' => ?_⟩, by omega, rfl⟩, ?_, ?_⟩
 ·obtain ⟨i, hi⟩ := List.getElem?_of_mem hx'
  exact h2.1 i x (by simpa using hi)
 ·rw [h4]
  have : (L.map fun p => encStr p.1) = (L.map (·.1)).map encStr := by rw [List.map_map]; rfl
  rw [this]
  exact List.Pairwise.map encStr (fun a b hab e => hab (encStr_inj e)) hn
 ·obtain ⟨p, hp, e⟩ := hx x hx'
  exact ⟨_, hrd x hx' p hp e⟩
 ·show ((List.foldr DataW.insert [] _).map fun p => strOf p.1).Perm _
  rw [← hkeys]
  have := (WideShapes.sorted_perm (es.toList.map (WideElems.rg P k (zmk Unit)))).map fun p => strOf p.1
  rw [List.map_map] at this
  exact this
 ·show (List.foldr DataW.insert [] _).length = _
  rw [(WideShapes.sorted_perm _).length_eq, List.length_map, Array.length_toList, h3]
theorem zsT [Tracks] {ρ : Ren} (L : SlLaysZ.n7 P ρ) {b : Nat} : Con P (ρ.f 7) [.raw (.map (some b))] [] fun x M' => ∃ bx, x = .fn (.func (ρ.f 10)) [] [.raw (.pointer (some ⟨bx, 0, none⟩))] ∧ M' = [.cells bx [.raw (.map (some b))]] := by
 intro I F w args ha hs
 obtain ⟨u, rfl, hu⟩ := ha.one
 obtain rfl := hu.raw_inv
 refine ((callsIn_wide (n := 1)).1 (AnyZ.keys_in L Fence.wide 1 trivial rfl (some b) w)).mono ?_
 rintro _ w' ⟨rfl, rfl⟩
 refine ⟨_, _, _, I, rfl, .refl I, ⟨w.heap.size, rfl, rfl⟩, .fn rfl rfl (fun j c v h _ => by simp at h) (fun j c v h1 h2 => ?_), ?_⟩
 ·exact (VL.cons (.raw _ rfl) VL.nil : VL I [.raw (.pointer (some ⟨w.heap.size, 0, none⟩))] [.pointer (some ⟨w.heap.size, 0, none⟩)]).2 j c v h1 (by simpa using h2)
 ·exact hs.new_own _ _ rfl ⟨#[.map (some b)], ρ.t 23, (0, 0), by simp, Free.zero _, VL.cons (.raw _ rfl) VL.nil⟩
theorem zqp [Tracks] (hT : Tracks.on = false) {ρ ρk : Ren} (L : SlLaysZ.n6 P ρ) (Lk : SlLaysZ.n7 P ρk) (hsort : ∀ m, AnyZ.SortsIn P ρ Fence.wide m)
 (e9 : ∀ args w, (callFunc (ρ.f 9) args).run P w = .ok (.enter (ρ.f 9) args) w) (eg : ∀ args w, (callFunc (ρk.f 10) args).run P w = .ok (.enter (ρk.f 10) args) w)
 {α : Type} {f : α → HVal} {l : List (Str × α)} (hn : ANodup l) (hl : ∀ p ∈ l, p.1.length ≤ 1000000) (hs : l.length ≤ 1000000) {b bx : Nat} :
 Con P (ρ.f 6) [.fn (.func (ρk.f 10)) [] [.raw (.pointer (some ⟨bx, 0, none⟩))]] [.cells bx [.raw (.map (some b))], .map b (sk (em f l))] fun x M' => ∃ v, x = .raw v ∧ M' = [.arr v 1 ((zaJ (l.map (·.1))).map .str), .map b (sk (em f l))] := by
 intro I F w args ha hsat
 obtain ⟨u, rfl, hu⟩ := ha.one
 obtain ⟨v1, v2, rfl, hv1, hv2, hc⟩ : ∃ v1 v2, u = .func (.func (ρk.f 10)) v1 v2 ∧ v1 = #[] ∧ v2.size = 1 ∧ ∀ (j : Nat) (c : HVal) (v : Value), [HVal.raw (.pointer (some ⟨bx, 0, none⟩))][j]? = some c → v2[j]? = some v → V I c v := by
  cases hu with
  | fn h1 h2 h3 h4 => exact ⟨_, _, rfl, Array.eq_empty_of_size_eq_zero (by simpa using h1), by simpa using h2, h4⟩
 subst hv1
 obtain rfl : v2 = #[.pointer (some ⟨bx, 0, none⟩)] := by
  match v2, hv2 with
  | ⟨[y]⟩, _ => have := (hc 0 _ y rfl rfl).raw_inv; rw [this]
 obtain ⟨rc, el, fr, c1, c2, c3⟩ := hsat.obj (.cells bx [.raw (.map (some b))]) (by simp)
 have hmap := hsat.obj (.map b (sk (em f l))) (by simp)
 obtain ⟨D, d1, d2, d3⟩ := zo3 (k := ρk.t 26) (by exact Lk.t26) hmap hn hl hs
 have hbx : bx < w.heap.size := (Array.getElem?_eq_some_iff.1 c1).1
 have hcell : w.cell? ⟨bx, 0, none⟩ = some (.map (some b)) := by
  have := c3.1
  match rc, this, c1, c3 with
  | ⟨[y]⟩, _, c1, c3 =>
    have hy := c3.head.raw_inv
    subst hy
    simp [World.cell?, c1]
 have hseq := AnyZ.keys_gives (ρ := ρk) { Lk with } Fence.wide 2 trivial rfl (by omega) bx b l.length D w hbx hcell d1
 have cS := AnyZ.sorted_in L Fence.wide 5 trivial trivial trivial trivial rfl (by omega) (hsort _) e9 (ρk.f 10) #[.pointer (some ⟨bx, 0, none⟩)] trivial eg _ _ (by rw [d3]; exact Nat.le_trans hs (by decide)) (by rw [d3]; omega) w hseq
 refine ((callsIn_wide (n := 5)).1 cS).mono ?_
 rintro e w' ⟨v, ss, rfl, hS, hrow, hnil, hb⟩
 have hss : (ss.mergeSort fun x y => decide (x ≤ y)) = zaJ (l.map (·.1)) := mergeSort_of_perm (hS.trans d2)
 rw [hss] at hrow
 have hlen : ss.length = (zaJ (l.map (·.1))).length := by rw [zcP, (hS.trans d2).length_eq]
 have hmem : MSat I w' (.arr v 1 ((zaJ (l.map (·.1))).map .str)) := by
  rcases hrow.2 with ⟨rfl, hz⟩ | ⟨gb, cap, cur, rfl, hbase, hgb, r1, r2, r3, r4⟩
  ·refine .inl ⟨rfl, ?_⟩
   have : zaJ (l.map (·.1)) = [] := List.length_eq_zero_iff.1 (by omega)
   rw [this]; rfl
  ·refine .inr ⟨gb, 0, cap, cur, _, _, by rw [List.length_map, ← hlen], hgb, Free.zero _, fun e he => ?_, ⟨by rw [List.length_map]; omega, Nat.le_trans r2 (by decide)⟩, by omega, fun i j e c y h1 h2 h3 => ?_⟩
   ·obtain ⟨s, _, rfl⟩ := List.mem_map.1 he; rfl
   ·rw [List.getElem?_map] at h1
    cases hq : (zaJ (l.map (·.1)))[i]? with
    | none => rw [hq] at h1; cases h1
    | some s =>
      rw [hq] at h1
      simp only [Option.map_some, Option.some.injEq] at h1
      subst h1
      have hj : j = 0 := by
       cases j with
       | zero => rfl
       | succ j => simp [zm] at h2
      subst hj
      simp only [zm, List.getElem?_cons_zero, Option.some.injEq] at h2
      subst h2
      have hi := zC hq
      have h4 : (cur.toList.take (ss.length * 1))[i]? = some (encStr s) := by rw [r4, List.getElem?_map, hq]; rfl
      rw [List.getElem?_take_of_lt (by omega), Array.getElem?_toList] at h4
      have e0 : 0 + i * 1 + 0 = i := by omega
      rw [e0, h4] at h3
      cases h3
      exact .str s
 have hown : ∀ k, v.ownBlock = some k → w.heap.size ≤ k ∧ k < w'.heap.size := hrow.lt
 refine ⟨v, .raw v, _, I, rfl, .refl I, ⟨v, rfl, rfl⟩, ?_, ?_⟩
 ·rcases hrow.2 with ⟨rfl, _⟩ | ⟨gb, cap, cur, rfl, _⟩
  ·exact .raw _ rfl
  ·exact .raw _ rfl
 ·refine hsat.change (m' := .arr v 1 _) (fun k hk _ => hb.block k hk) (fun k hk => .inr ?_) ?_ hmem hb.os hb.output hb.tape (fun ht => by rw [hT] at ht; cases ht)
  ·rcases hrow.2 with ⟨rfl, _⟩ | ⟨gb, cap, cur, rfl, hbase, _⟩
   ·simp [MObj.blocks] at hk
   ·simp [MObj.blocks] at hk; omega
  ·rcases hrow.2 with ⟨rfl, _⟩ | ⟨gb, cap, cur, rfl, hbase, _⟩ <;> simp [MObj.blocks]
theorem znq [Tracks] (hT : Tracks.on = false) {ρ ρk : Ren} (L : SlLaysZ.n6 P ρ) (Lk : SlLaysZ.n7 P ρk) (hsort : ∀ m, AnyZ.SortsIn P ρ Fence.wide m)
 (e9 : ∀ args w, (callFunc (ρ.f 9) args).run P w = .ok (.enter (ρ.f 9) args) w) (eg : ∀ args w, (callFunc (ρk.f 10) args).run P w = .ok (.enter (ρk.f 10) args) w)
 {S : List Str} (hn : S.Nodup) (hl : ∀ s ∈ S, s.length ≤ 1000000) (hs : S.length ≤ 1000000) {b bx : Nat} :
 Con P (ρ.f 6) [.fn (.func (ρk.f 10)) [] [.raw (.pointer (some ⟨bx, 0, none⟩))]] [.cells bx [.raw (.map (some b))], .map b (sk (zbD S))] fun x M' => ∃ v, x = .raw v ∧ M' = [.arr v 1 ((zaJ S).map .str), .map b (sk (zbD S))] := by
 have e1 : zbD S = em HVal.bool (S.map fun s => (s, true)) := by simp [zbD]
 have e2 : (S.map fun s => (s, true)).map (·.1) = S := by simp [Function.comp_def]
 have := zqp hT L Lk hsort e9 eg (f := HVal.bool) (l := S.map fun s => (s, true)) (by unfold ANodup; rw [e2]; exact hn) (fun p hp => by obtain ⟨s, hs, rfl⟩ := List.mem_map.1 hp; exact hl s hs) (by simpa using hs) (b := b) (bx := bx)
 rw [e2, ← e1] at this
 exact this
end
end
end Go.HL
namespace Go.Proofs.YtcihcbnjfclkbaaGreatDoor
set_option maxRecDepth 100000
set_option linter.unusedVariables false
set_option linter.unusedSimpArgs false
section
open Go.HL
/-- benchwarmer/play.undone -/
theorem znd [Tracks] {l : List Play} {n : Int} (hl : l.length ≤ 1000000) : Con Tryz.prog 150 [zhk l, .int .i64 n] [] (fun x M' => ∃ b, x = .raw (.map (some b)) ∧ M' = [.map b (kk zhD (em HVal.bool (zhT l n)))]) := by
 refine Con.of_body Tryz.func150 rfl Tryz.ntmps150 rfl rfl ?_
 refine zb ?_
 refine das rfl ?_
 refine dn ?_
 refine zb ?_
 refine de rfl (zbU fun m14 => ?_)
 refine das rfl ?_
 refine dn ?_
 refine zh ?_
 refine zb ?_
 refine dmv rfl ?_
 refine dq (zF zec rfl) ?_
 refine dmv rfl ?_
 refine dn ?_
 refine zl ?_
 refine zZ [7, 17, 18, 19, 20, 21, 22, 23, 24, 25, 26, 27, 28, 29, 30, 31, 32] (fun (k : Nat) => [(17, .int .i64 k)]) (fun (k : Nat) => [.map m14 (kk zhD (em zjr (zkq (l.take k) n)))]) (fun (k : Nat) => k ≤ l.length ∧ (True)) (fun (k : Nat) => l.length - k) (0) ?_ ?_ ?_ ?_
 ·exact ⟨Nat.zero_le _, trivial⟩
 ·exact ⟨rfl, trivial⟩
 ·exact List.Perm.refl _
 ·intro k hinv
  obtain ⟨hk, -⟩ := hinv
  refine zb ?_
  refine dq (zO rfl rfl) ?_
  refine dn ?_
  refine zh ?_
  refine zj rfl (fun h1 => ?_) (fun h2 => ?_)
  ·try simp at h1
   obtain ⟨x, hx⟩ : ∃ x, l[k]? = some x := ⟨_, List.getElem?_eq_getElem h1⟩
   have hdx := zQ hx
   refine zk ?_
   refine zf ?_
   refine zh ?_
   refine zl ?_
   refine zb ?_
   refine dq (zJ zec zaa rfl rfl rfl (by assumption)) ?_
   refine dq (zV zaa rfl rfl rfl rfl) ?_
   refine de rfl (zX zaa rfl fun b7 => ?_)
   refine de0 (zag zaa rfl rfl rfl rfl rfl ?_)
   refine dn ?_
   refine zI (Ghost.fc0 7 rfl) ?_
   refine zb ?_
   refine dq (zc zaa rfl ty3 (by decide) rfl) ?_
   refine dq (ze ty3 rfl rfl rfl) ?_
   refine dmv rfl ?_
   refine dq (zda rfl rfl) ?_
   refine dn ?_
   refine zj rfl (fun h3 => ?_) (fun h4 => ?_)
   ·try simp at h3
    refine zy ?_
    refine dmv rfl ?_
    refine dq (zc zaa rfl ty9 (by decide) rfl) ?_
    refine dq (ze ty9 rfl rfl rfl) ?_
    refine dq (zc zaa rfl ty3 (by decide) rfl) ?_
    refine dq (ze ty3 rfl rfl rfl) ?_
    refine dq (zaG (cs := [_, _]) zgC zqK rfl) ?_
    refine dq (zV zaa rfl rfl rfl rfl) ?_
    refine de0 (zja (i := 0) (s := (x.Source, x.No)) (v := x) zs5 znz rfl rfl rfl rfl ?_)
    refine dn ?_
    refine zz ?_
    refine zf ?_
    refine zy ?_
    refine dq (zv rfl rfl (by omega) (by omega)) ?_
    refine dmv rfl ?_
    refine dn ?_
    exact ⟨k + 1, ⟨by omega, trivial⟩, by dsimp only; omega, ⟨rfl, trivial⟩, (by repeat (first | exact zo | refine zt rfl ?_ | refine zp rfl rfl ?_)), zL (by dsimp only; rw [zmy hx, zjt, if_pos (by simpa using h3)]; try rfl)⟩
   ·try simp at h4
    refine zk ?_
    refine zz ?_
    refine zf ?_
    refine zy ?_
    refine dq (zv rfl rfl (by omega) (by omega)) ?_
    refine dmv rfl ?_
    refine dn ?_
    exact ⟨k + 1, ⟨by omega, trivial⟩, by dsimp only; omega, ⟨rfl, trivial⟩, (by repeat (first | exact zo | refine zt rfl ?_ | refine zp rfl rfl ?_)), zL (by dsimp only; rw [zmy hx, zjt, if_neg (by simpa using h4)]; try rfl)⟩
  ·try simp at h2
   have hnk : l.length ≤ k := by omega
   obtain rfl : k = l.length := by omega
   refine zN ?_
   refine zT ?_
   refine zah ?_
   refine zD ?_
   refine zf ?_
   rw [List.take_length]
   refine zb ?_
   refine de rfl (zbU fun m33 => ?_)
   refine das rfl ?_
   refine dn ?_
   refine zh ?_
   refine zb ?_
   refine dmv rfl ?_
   refine dq (zF zec rfl) ?_
   refine dmv rfl ?_
   refine dn ?_
   refine zl ?_
   refine zZ [10, 11, 12, 13, 36, 37, 38, 39, 40, 41, 42, 43, 44, 45, 46, 47, 48, 49, 50, 51, 52, 53, 54, 55, 56, 57, 58, 59, 60, 61, 62, 63, 64, 65, 66, 67, 68, 69, 70, 71, 72, 73, 74, 75, 76, 77, 78, 79, 80, 81, 82, 83, 84, 85, 86, 87, 88, 89] (fun (k : Nat) => [(36, .int .i64 k)]) (fun (k : Nat) => [.map m33 (kk zhD (em HVal.bool (zi3 (zkq l n) n (l.take k)))), .map m14 (kk zhD (em zjr (zkq l n)))]) (fun (k : Nat) => k ≤ l.length ∧ (True)) (fun (k : Nat) => l.length - k) (0) ?_ ?_ ?_ ?_
   ·exact ⟨Nat.zero_le _, trivial⟩
   ·exact ⟨rfl, trivial⟩
   ·exact List.Perm.refl _
   ·intro k hinv
    obtain ⟨hk, -⟩ := hinv
    refine zb ?_
    refine dq (zO rfl rfl) ?_
    refine dn ?_
    refine zh ?_
    refine zj rfl (fun h5 => ?_) (fun h6 => ?_)
    ·try simp at h5
     obtain ⟨x, hx⟩ : ∃ x, l[k]? = some x := ⟨_, List.getElem?_eq_getElem h5⟩
     have hdx := zQ hx
     refine zk ?_
     refine zf ?_
     refine zh ?_
     refine zl ?_
     refine zb ?_
     refine dq (zJ zec zaa rfl rfl rfl (by assumption)) ?_
     refine dq (zV zaa rfl rfl rfl rfl) ?_
     refine de rfl (zX zaa rfl fun b10 => ?_)
     refine de0 (zag zaa rfl rfl rfl rfl rfl ?_)
     refine dn ?_
     refine zI (Ghost.fc0 10 rfl) ?_
     refine zh ?_
     refine zb ?_
     refine dq (zc zaa rfl ty3 (by decide) rfl) ?_
     refine dq (ze ty3 rfl rfl rfl) ?_
     refine dmv rfl ?_
     refine dq (zai rfl rfl) ?_
     refine dmv rfl ?_
     refine dg rfl rfl (fun hc => ⟨_, OpenTo.refl _, zc zaa rfl ty3 (by decide) rfl⟩) ?_
     refine dg rfl rfl (fun hc => ⟨_, OpenTo.upd (t := 45) rfl (hc) (OpenTo.refl _), ze ty3 rfl rfl rfl⟩) ?_
     refine dg rfl rfl (fun hc => ⟨_, OpenTo.upd (t := 46) rfl (hc) (OpenTo.refl _), zaA rfl rfl⟩) ?_
     refine dq (zB rfl (.inl rfl) (.inr ⟨_, rfl, fun h => by simp_all⟩)) ?_
     refine dn ?_
     refine zj rfl (fun h7 => ?_) (fun h8 => ?_)
     ·try simp at h7
      refine zN ?_
      refine zT ?_
      refine zD ?_
      refine zf ?_
      refine zy ?_
      refine dq (zv rfl rfl (by omega) (by omega)) ?_
      refine dmv rfl ?_
      refine dn ?_
      exact ⟨k + 1, ⟨by omega, trivial⟩, by dsimp only; omega, ⟨rfl, trivial⟩, (by repeat (first | exact zo | refine zt rfl ?_ | refine zp rfl rfl ?_)), zL (by dsimp only; rw [zgT hx, zgc, if_pos (by simpa using h7)]; try rfl)⟩
     ·try simp at h8
      refine zk ?_
      refine zf ?_
      refine zb ?_
      refine dq (zc zaa rfl ty9 (by decide) rfl) ?_
      refine dq (ze ty9 rfl rfl rfl) ?_
      refine dq (zc zaa rfl ty3 (by decide) rfl) ?_
      refine dq (ze ty3 rfl rfl rfl) ?_
      refine dq (zaG (cs := [_, _]) zgC zqK rfl) ?_
      refine de rfl (zX zgC rfl fun b11 => ?_)
      refine de0 (zag zgC rfl rfl rfl rfl rfl ?_)
      refine dn ?_
      refine zI (Ghost.fc0 11 rfl) ?_
      refine zb ?_
      refine dmv rfl ?_
      refine dq (zV zgC rfl rfl rfl rfl) ?_
      refine de rfl (znf (i := 1) (s := (x.Source, x.Undo)) (z0 := zkK) zs5 znz zaa rfl rfl rfl rfl ?_)
      refine dmv rfl ?_
      refine dq (z6 rfl rfl) ?_
      refine dq (z6 rfl rfl) ?_
      refine de rfl (zX zaa rfl fun b12 => ?_)
      refine de0 (zag zaa rfl rfl rfl rfl rfl ?_)
      refine das rfl ?_
      refine dn ?_
      refine zI (Ghost.fc0 12 rfl) ?_
      refine zb ?_
      refine dmv rfl ?_
      refine dmv rfl ?_
      refine dg rfl rfl (fun hc => ⟨_, OpenTo.refl _, zc zaa rfl ty3 (by decide) rfl⟩) ?_
      refine dg rfl rfl (fun hc => ⟨_, OpenTo.upd (t := 62) rfl (hc) (OpenTo.refl _), ze ty3 rfl rfl rfl⟩) ?_
      refine dg rfl rfl (fun hc => ⟨_, OpenTo.upd (t := 63) rfl (hc) (OpenTo.refl _), zaA rfl rfl⟩) ?_
      refine dq (zB rfl (.inr ⟨_, rfl, fun h => by simp_all⟩) (.inl rfl)) ?_
      refine dmv rfl ?_
      refine dg rfl rfl (fun hc => ⟨_, OpenTo.refl _, zc zaa rfl ty9 (by decide) rfl⟩) ?_
      refine dg rfl rfl (fun hc => ⟨_, OpenTo.upd (t := 67) rfl (hc) (OpenTo.refl _), ze ty9 rfl rfl rfl⟩) ?_
      refine dg rfl rfl (fun hc => ⟨_, OpenTo.refl _, zc zaa rfl ty9 (by decide) rfl⟩) ?_
      refine dg rfl rfl (fun hc => ⟨_, OpenTo.upd (t := 69) rfl (hc) (OpenTo.refl _), ze ty9 rfl rfl rfl⟩) ?_
      refine dg rfl rfl (fun hc => ⟨_, OpenTo.upd (t := 70) rfl (hc) (OpenTo.upd (t := 68) rfl (hc) (OpenTo.refl _)), zaX rfl rfl⟩) ?_
      refine dq (zB rfl (.inr ⟨_, rfl, fun h => by simp_all⟩) (.inl rfl)) ?_
      refine dmv rfl ?_
      refine dg rfl rfl (fun hc => ⟨_, OpenTo.refl _, zc zaa rfl ty9 (by decide) rfl⟩) ?_
      refine dg rfl rfl (fun hc => ⟨_, OpenTo.upd (t := 74) rfl (hc) (OpenTo.refl _), ze ty9 rfl rfl rfl⟩) ?_
      refine dg rfl rfl (fun hc => ⟨_, OpenTo.refl _, zc zaa rfl ty9 (by decide) rfl⟩) ?_
      refine dg rfl rfl (fun hc => ⟨_, OpenTo.upd (t := 76) rfl (hc) (OpenTo.refl _), ze ty9 rfl rfl rfl⟩) ?_
      refine dg rfl rfl (fun hc => ⟨_, OpenTo.upd (t := 77) rfl (hc) (OpenTo.upd (t := 75) rfl (hc) (OpenTo.refl _)), zaX rfl rfl⟩) ?_
      refine dq (zB rfl (.inr ⟨_, rfl, fun h => by simp_all⟩) (.inl rfl)) ?_
      refine dmv rfl ?_
      refine dg rfl rfl (fun hc => ⟨_, OpenTo.refl _, zc zaa rfl ty9 (by decide) rfl⟩) ?_
      refine dg rfl rfl (fun hc => ⟨_, OpenTo.upd (t := 81) rfl (hc) (OpenTo.refl _), ze ty9 rfl rfl rfl⟩) ?_
      refine dg rfl rfl (fun hc => ⟨_, OpenTo.refl _, zc zaa rfl ty9 (by decide) rfl⟩) ?_
      refine dg rfl rfl (fun hc => ⟨_, OpenTo.upd (t := 83) rfl (hc) (OpenTo.refl _), ze ty9 rfl rfl rfl⟩) ?_
      refine dg rfl rfl (fun hc => ⟨_, OpenTo.upd (t := 84) rfl (hc) (OpenTo.upd (t := 82) rfl (hc) (OpenTo.refl _)), zaX rfl rfl⟩) ?_
      refine dq (zB rfl (.inr ⟨_, rfl, fun h => by simp_all⟩) (.inl rfl)) ?_
      refine dn ?_
      refine zj rfl (fun h9 => ?_) (fun h10 => ?_)
      ·try simp at h9
       refine zy ?_
       refine dmv rfl ?_
       refine dq (zV zgC rfl rfl rfl rfl) ?_
       refine de0 (zja (i := 0) (s := (x.Source, x.Undo)) (v := true) ztf znz rfl rfl rfl rfl ?_)
       refine dn ?_
       refine zz ?_
       refine zf ?_
       refine zy ?_
       refine dq (zv rfl rfl (by omega) (by omega)) ?_
       refine dmv rfl ?_
       refine dn ?_
       exact ⟨k + 1, ⟨by omega, trivial⟩, by dsimp only; omega, ⟨rfl, trivial⟩, (by repeat (first | exact zo | refine zt rfl ?_ | refine zp rfl rfl ?_)), zL (by dsimp only; rw [zgT hx, zgc, if_neg (by simp_all; try omega), if_pos (by simp_all [zoS])]; try rfl)⟩
      ·try simp at h10
       refine zk ?_
       refine zz ?_
       refine zf ?_
       refine zy ?_
       refine dq (zv rfl rfl (by omega) (by omega)) ?_
       refine dmv rfl ?_
       refine dn ?_
       exact ⟨k + 1, ⟨by omega, trivial⟩, by dsimp only; omega, ⟨rfl, trivial⟩, (by repeat (first | exact zo | refine zt rfl ?_ | refine zp rfl rfl ?_)), zL (by dsimp only; rw [zgT hx, zgc, if_neg (by simp_all; try omega), if_neg (by simp_all [zoS])]; try rfl)⟩
    ·try simp at h6
     have hnk : l.length ≤ k := by omega
     obtain rfl : k = l.length := by omega
     refine zN ?_
     refine zT ?_
     refine zah ?_
     refine zD ?_
     refine zf ?_
     rw [List.take_length]
     refine zI (Ghost.only (i := 0) rfl) ?_
     refine zb ?_
     refine dmv rfl ?_
     refine das rfl ?_
     refine dn ?_
     refine zn ?_
     exact zbs rfl ⟨_, rfl, rfl⟩

/-- benchwarmer/play.byName -/
theorem zne [Tracks] {a b : StatS}  : ConP Tryz.prog 185 [zcM a, zcM b] (.int .i64 (zlS a b)) := by
 refine Con.of_body Tryz.func185 rfl Tryz.ntmps185 rfl rfl ?_
 refine zb ?_
 refine dq (zaC rfl rfl) ?_
 refine dq (zaC rfl rfl) ?_
 refine das rfl ?_
 refine dn ?_
 refine zb ?_
 refine dq (zc zkP rfl ty9 (by decide) rfl) ?_
 refine dq (ze ty9 rfl rfl rfl) ?_
 refine dq (zc zkP rfl ty9 (by decide) rfl) ?_
 refine dq (ze ty9 rfl rfl rfl) ?_
 refine dq (zq zms rfl (WeakL.refl _) zb0) ?_
 refine das rfl ?_
 refine dn ?_
 refine zn ?_
 refine zA rfl ?_
 rfl

/-- slices.SortFunc -/
theorem zpb [Tracks] {c : StatS → StatS → Int} (hO : Go.Sort.SWO (Go.Proofs.ltOf c)) {g : FuncId} (hg : Callable Tryz.prog g) {cap : List HVal} (hc : ∀ x y, @ConP zjm Tryz.prog g (zcM x :: zcM y :: cap) (.int .i64 (c x y))) {l : List StatS} (hl : l.length ≤ 1000000) {v : Value} :
 Con Tryz.prog 184 [.raw v, .fn (.func g) [] cap] [.arr v 2 (l.map zcM)] fun x M' => ∃ l' : List StatS, x = .tup [] ∧ l'.Perm l ∧ l'.Pairwise (fun a b => ¬ c b a < 0) ∧ M' = [.arr v 2 (l'.map zcM)] :=
 zrE (e := zcM) Tryz.g184 (Tryz.isAgg249) (Tryz.sizeOf249) (fun _ => rfl) (fun _ => rfl) (fun _ => rfl) hO hg hc hl

theorem ztW [Tracks] (m : Nat) : Go.Proofs.AnyZ.SortsIn Tryz.prog Tryz.g182_ren Fence.wide m :=
 ⟨fun blk off cap ss W hH hblk hsz => callsIn_wide.2 (AnyM.slices_Sort_string Tryz.g26 blk off cap ss W hH hblk hsz), fun p cap W => callsIn_wide.2 (AnyM.slices_Sort_string_none Tryz.g26 p cap W)⟩
theorem zpX [Tracks] {b : Nat} : Con Tryz.prog 183 [.raw (.map (some b))] [] fun x M' => ∃ bx, x = .fn (.func 204) [] [.raw (.pointer (some ⟨bx, 0, none⟩))] ∧ M' = [.cells bx [.raw (.map (some b))]] :=
 zsT (ρ := Tryz.g183_ren) Tryz.g183
theorem zlc [Tracks] (hT : Tracks.on = false) {S : List Str} (hn : S.Nodup) (hl : ∀ s ∈ S, s.length ≤ 1000000) (hs : S.length ≤ 1000000) {b bx : Nat} :
 Con Tryz.prog 182 [.fn (.func 204) [] [.raw (.pointer (some ⟨bx, 0, none⟩))]] [.cells bx [.raw (.map (some b))], .map b (sk (zbD S))] fun x M' => ∃ v, x = .raw v ∧ M' = [.arr v 1 ((zaJ S).map .str), .map b (sk (zbD S))] :=
 znq hT (ρ := Tryz.g182_ren) (ρk := Tryz.g183_ren) Tryz.g182 Tryz.g183 ztW (enters_of Tryz.func26 (by kernel_rfl) rfl) (enters_of Tryz.func204 (by kernel_rfl) rfl) hn hl hs

set_option maxHeartbeats 1000000 in
/-- (benchwarmer/play.counted).lines -/
theorem zhF [Tracks] {b0 b1 : Nat} {c : List (Of2 × Int)} {S : List Str} {week : Int} (hT : Tracks.on = false) (hn : ANodup c) (hSn : S.Nodup) (hSk : ∀ s ∈ S, s.length ≤ 40) (hc : c.length ≤ 1000000) (hSl : S.length ≤ 1000000) : Con Tryz.prog 151 [.raw (.map (some b0)), .raw (.map (some b1)), .int .i64 week] [.map b0 (kk eOf (em (HVal.int .i64) c)), .map b1 (sk (zbD S))] (fun x M' => x = .tup [zoM (zf0 c S week), .int .i64 (zf1 c S)] ∧ M' = []) := by
 refine Con.of_body Tryz.func151 rfl Tryz.ntmps151 rfl rfl ?_
 refine zb ?_
 refine das rfl ?_
 refine das rfl ?_
 refine dn ?_
 refine zb ?_
 refine de rfl (zbU fun m15 => ?_)
 refine das rfl ?_
 refine dn ?_
 refine zh ?_
 refine zb ?_
 refine dmv rfl ?_
 refine de rfl (zmI (i := 1) znt rfl rfl fun r => ?_)
 refine dn ?_
 refine zl ?_
 refine zdn [6, 7, 9, 10, 18, 19, 20, 21, 22, 23, 24, 25, 26, 27, 28, 29, 30, 31, 32, 33, 34, 35, 36, 37, 38, 39, 40, 41] (fun (vis : List Nat) (E : List (Of2 × Int)) (G : Grp StatS) => []) (fun (vis : List Nat) (E : List (Of2 × Int)) (G : Grp StatS) => [.map m15 (sk (em fG G)), .iter r b0 (kk eOf (em (HVal.int .i64) c)) vis, .map b1 (sk (zbD S))] ++ grp 2 zcM G) (fun (vis : List Nat) (E : List (Of2 × Int)) (G : Grp StatS) => VisOk (c) vis E ∧ (GOk E G ∧ ∀ y ∈ E, out y.2 (-100000) 100000 = false)) (fun (vis : List Nat) (E : List (Of2 × Int)) (G : Grp StatS) => (c).length - vis.length) ([]) ([]) ([]) ?_ ?_ ?_ ?_
 ·exact ⟨VisOk.nil _, GOk.nil, fun y h => by cases h⟩
 ·exact trivial
 ·exact zL rfl
 ·intro vis E G hinv
  obtain ⟨hvis, hG, hO⟩ := hinv
  refine zb ?_
  refine de rfl (zmE (i := 1) (L := c) (enc := (fun p : Of2 × Int => (eOf p.1, HVal.int .i64 p.2))) rfl rfl (ztc _ _ _) hvis.nd hvis.lt fun cb R vis' hnx => ?_)
  refine dq (z6 rfl rfl) ?_
  refine dn ?_
  refine zh ?_
  refine zj rfl (fun h1 => ?_) (fun h2 => ?_)
  ·try simp at h1
   obtain ⟨j, q, hq, hj, rfl⟩ := hnx.t h1
   have hroom := hvis.room hq hj
   have hstep := hvis.step hq hj
   have hqm := List.mem_of_getElem? hq
   refine zk ?_
   refine zf ?_
   refine zl ?_
   refine zb ?_
   refine de rfl (zlw (i := 1) (L := c) (enc := (fun p : Of2 × Int => (eOf p.1, HVal.int .i64 p.2))) rfl rfl (ztc _ _ _) hq ?_)
   refine dq (z6 rfl rfl) ?_
   refine dq (z6 rfl rfl) ?_
   refine de rfl (zX zhr rfl fun b9 => ?_)
   refine de0 (zag zhr rfl rfl rfl rfl rfl ?_)
   refine das rfl ?_
   refine dn ?_
   refine zI (Ghost.fc0 9 rfl) ?_
   refine zl ?_
   refine zb ?_
   refine dmv rfl ?_
   refine dq (zq zcR rfl (WeakL.refl _) za5) ?_
   refine das rfl ?_
   refine dn ?_
   refine zj rfl (fun h3 => ?_) (fun h4 => ?_)
   ·try simp at h3
    refine zb ?_
    refine das rfl ?_
    refine das rfl ?_
    refine dn ?_
    refine zn ?_
    exact ⟨_, [], Ghost.clear, _, _, rfl, zcN (zcC 3) (Weak.refl _), by have hf := zp4 (S := S) hqm (by simpa using h3); rw [zf0, zf1, hf]; rfl, rfl⟩
   ·try simp at h4
    refine zb ?_
    refine dmv rfl ?_
    refine dq (zaM rfl rfl) ?_
    refine das rfl ?_
    refine dn ?_
    refine zj rfl (fun h5 => ?_) (fun h6 => ?_)
    ·try simp at h5
     refine zI (Ghost.of_eq (M' := [.map m15 (sk (em fG G)), .iter r b0 (kk eOf (em (HVal.int .i64) c)) (vis ++ [j]), .map b1 (sk (zbD S))] ++ grp 2 zcM G) rfl) ?_
     refine zbV (fun _ => True) [] mixed ?_
     refine ahp 0 rfl rfl (by kernel_rfl) (by kernel_rfl) (zg rfl) ?_
     refine ahp 1 rfl rfl (by kernel_rfl) (by kernel_rfl) ((zc zhr rfl ty9 (by decide) rfl)) ?_
     refine ahp 2 rfl rfl (by kernel_rfl) (by kernel_rfl) (ze ty9 rfl rfl rfl) ?_
     refine ahp 3 rfl rfl (by kernel_rfl) (by kernel_rfl) (zg rfl) ?_
     refine ahp 4 rfl rfl (by kernel_rfl) (by kernel_rfl) ((zc zhr rfl ty9 (by decide) rfl)) ?_
     refine ahp 5 rfl rfl (by kernel_rfl) (by kernel_rfl) (ze ty9 rfl rfl rfl) ?_
     refine ahp 7 rfl rfl (by kernel_rfl) (by kernel_rfl) ((zc zhr rfl ty9 (by decide) rfl)) ?_
     refine ahp 8 rfl rfl (by kernel_rfl) (by kernel_rfl) (ze ty9 rfl rfl rfl) ?_
     refine ahp 9 rfl rfl (by kernel_rfl) (by kernel_rfl) (zg rfl) ?_
     refine ahp 10 rfl rfl (by kernel_rfl) (by kernel_rfl) (zaG (cs := [_, _]) zkP zu5 rfl) ?_
     refine ahp 11 rfl rfl (by kernel_rfl) (by kernel_rfl) (zK (hs := [_]) zfS zkP rfl rfl (by decide) (by decide) rfl) ?_
     refine ahe 6 rfl (by kernel_rfl) ?_
     refine zH rfl (zgV (i := 0) (z0 := gZ StatS) zqe ty9 zfS rfl rfl rfl rfl ?_)
     refine ⟨fun _ => .inl trivial, ?_⟩
     refine ahe 12 rfl (by kernel_rfl) ?_
     refine zH rfl (zmw (A := [.map m15 (sk (em fG G)), .iter r b0 (kk eOf (em (HVal.int .i64) c)) (vis ++ [j]), .map b1 (sk (zbD S))]) (G := G) (s := q.1.1) (ys := [⟨q.1.2, q.2⟩]) (eb := zcM) zfS zkP rfl rfl rfl rfl (by simp [zaD, zm]) (by have := zjR E q.1.1; rw [← hG.raw] at this; have := hvis.len; simp only [List.length_cons, List.length_nil]; omega) fun v41 => ?_)
     refine ⟨fun _ => .inl trivial, ?_⟩
     refine ahe 13 rfl (by kernel_rfl) ?_
     refine zau (zep (i := 0) (f := fG) (L := G) (v := (v41, gL q.1.1 G ++ [⟨q.1.2, q.2⟩])) zqe ty9 rfl rfl rfl rfl ?_)
     refine ⟨fun _ => .inl trivial, ?_⟩
     refine ahz (by kernel_rfl) ?_
     refine zz ?_
     refine zz ?_
     have hO' : ∀ y ∈ E ++ [q], out y.2 (-100000) 100000 = false := fun y hy => by
      rcases List.mem_append.1 hy with hy | hy
      ·exact hO y hy
      ·rw [List.mem_singleton.1 hy]; simpa using h4
     exact ⟨_, E ++ [q], _, ⟨hstep, hG.put (by simpa using h5) v41, hO'⟩, by dsimp only; rw [List.length_append]; simp only [List.length_cons, List.length_nil]; omega, trivial, (by repeat (first | exact zo | refine zt rfl ?_ | refine zp rfl rfl ?_)), zL rfl⟩
    ·try simp at h6
     refine zk ?_
     refine zz ?_
     refine zz ?_
     have hO' : ∀ y ∈ E ++ [q], out y.2 (-100000) 100000 = false := fun y hy => by
      rcases List.mem_append.1 hy with hy | hy
      ·exact hO y hy
      ·rw [List.mem_singleton.1 hy]; simpa using h4
     exact ⟨_, E ++ [q], G, ⟨hstep, hG.skip (by simpa using h6), hO'⟩, by dsimp only; rw [List.length_append]; simp only [List.length_cons, List.length_nil]; omega, trivial, (by repeat (first | exact zo | refine zt rfl ?_ | refine zp rfl rfl ?_)), zL rfl⟩
  ·try simp at h2
   obtain ⟨rfl, hlen⟩ := hnx.f h2
   have hEp := hvis.done hlen
   refine zN ?_
   refine zT ?_
   refine zeA ?_
   refine zD ?_
   refine zf ?_
   refine zI (Ghost.iterOver (i := 1) rfl) ?_
   refine zI (Ghost.of_eq (M' := [.map m15 (sk (em fG G)), .map b0 (kk eOf (em (HVal.int .i64) c)), .map b1 (sk (zbD S))] ++ grp 2 zcM G) rfl) ?_
   refine zb ?_
   refine das rfl ?_
   refine dn ?_
   refine zh ?_
   refine zb ?_
   refine dmv rfl ?_
   refine de rfl (zbP (M1 := []) (R := _) zvv rfl (WeakL.refl _) (List.Perm.refl _) zpX ?_)
   rintro _ _ ⟨bx, rfl, rfl⟩
   refine de rfl (EOp.fzi (N := [.map b1 (sk (zbD S)), .map b0 (kk eOf (em (HVal.int .i64) c))] ++ ([.map m15 (sk (em fG G))] ++ grp 2 zcM G)) (sz := 1) (es := (zaJ S).map .str) 0 (zbP (M1 := [.cells bx [.raw (.map (some b1))], .map b1 (sk (zbD S))]) (R := [.map b0 (kk eOf (em (HVal.int .i64) c))] ++ ([.map m15 (sk (em fG G))] ++ grp 2 zcM G)) zuQ rfl (WeakL.refl _) (by exact zuB) (zlc hT hSn (fun s hs => Nat.le_trans (hSk s hs) (by decide)) hSl) (by rintro _ _ ⟨v, rfl, rfl⟩; exact ⟨v, rfl, rfl, rfl⟩)) ?_)
   refine dq (zF zG rfl) ?_
   refine dmv rfl ?_
   refine dn ?_
   refine zI (Ghost.suffix (R := [_, _])) ?_
   refine zI (Ghost.arr_nil 3) ?_
   have hSSl : (zaJ S).length ≤ 1000000 := by rw [zcP]; exact hSl
   have hSS : (zaJ S).Nodup := (zhG S).nodup_iff.2 hSn
   refine zl ?_
   refine zaS [6, 7, 11, 13, 14, 46, 47, 48, 49, 50, 51, 52, 53, 54, 55, 56, 57, 58, 59, 60, 61, 62, 63, 64, 65] (fun (k : Nat) (u : Value) => [(46, .int .i64 k), (11, .raw u)]) (fun (k : Nat) (u : Value) => [.arr u 3 (((zaJ S).take k).map fun s => znD ⟨s, week, zfe c s⟩), .map m15 (sk (em fG G))] ++ grp 2 zcM (zeW G ((zaJ S).take k))) (fun (k : Nat) (u : Value) => k ≤ (zaJ S).length ∧ (∀ s ∈ (zaJ S).take k, ¬ 40 < (zbu c s).length)) (fun (k : Nat) (u : Value) => (zaJ S).length - k) (0) (.slice none 0 0) ?_ ?_ ?_ ?_
   ·exact ⟨Nat.zero_le _, fun s h => by simp at h⟩
   ·exact ⟨rfl, rfl, trivial⟩
   ·exact zL (by simp [zsj])
   ·intro k u hinv
    obtain ⟨hk, hg⟩ := hinv
    refine zb ?_
    refine dq (zO rfl rfl) ?_
    refine dn ?_
    refine zh ?_
    refine zj rfl (fun h7 => ?_) (fun h8 => ?_)
    ·try simp at h7
     obtain ⟨x, hx⟩ : ∃ x, (zaJ S)[k]? = some x := ⟨_, List.getElem?_eq_getElem h7⟩
     have hdx := zQ hx
     refine zk ?_
     refine zf ?_
     refine zh ?_
     refine zl ?_
     refine zb ?_
     refine dq (zJ zG ty9 rfl rfl rfl (by assumption)) ?_
     refine dq (ze ty9 rfl rfl rfl) ?_
     refine das rfl ?_
     refine dn ?_
     refine zb ?_
     refine dmv rfl ?_
     refine dmv rfl ?_
     refine de rfl (zgV (i := 1) (z0 := gZ StatS) zqe ty9 zfS rfl rfl rfl rfl ?_)
     refine das rfl ?_
     refine dn ?_
     have hnx := zqM hSS hx
     have hxS : x ∈ S := (zhG S).mem_iff.1 (List.mem_of_getElem? hx)
     refine zI (Ghost.grp_take (A := [.arr u 3 (((zaJ S).take k).map fun s => znD ⟨s, week, zfe c s⟩), .map m15 (sk (em fG G))]) (G := zeW G ((zaJ S).take k)) (G' := G) (s := x) (zqE hG.nd) (zsE hnx)) ?_
     rw [zq7]
     refine zh ?_
     refine zb ?_
     refine dmv rfl ?_
     refine de rfl (zaP (i := 0) (es := gL x G) zfS rfl rfl ?_)
     refine dq (zai rfl rfl) ?_
     refine dn ?_
     refine zj rfl (fun h9 => ?_) (fun h10 => ?_)
     ·try simp at h9
      refine zb ?_
      refine das rfl ?_
      refine das rfl ?_
      refine dn ?_
      refine zn ?_
      exact ⟨_, [], Ghost.clear, _, _, rfl, zcN (zcC 3) (Weak.refl _), by have hf := zqG (c := c) hxS (by rw [← zoT hEp hG]; omega); rw [zf0, zf1, hf]; rfl, rfl⟩
     ·try simp at h10
      refine zk ?_
      refine zf ?_
      refine zb ?_
      refine dmv rfl ?_
      refine de rfl (zbP (M1 := [.arr (gV x G) 2 ((gL x G).map zcM)]) (R := [.arr u 3 (((zaJ S).take k).map fun s => znD ⟨s, week, zfe c s⟩), .map m15 (sk (em fG G))] ++ grp 2 zcM (zeW G ((zaJ S).take k ++ [x]))) zvo rfl (WeakL.refl _) (List.Perm.refl _) (zpb (c := zlS) (ztv zoL) zu1 (fun _ _ => @zne zjm _ _) (l := gL x G) (by have := zjR c x; rw [zoT hEp hG]; omega)) ?_)
      rintro _ _ ⟨l', rfl, hp', hw', rfl⟩
      obtain rfl := zov hEp hn hG hp' hw'
      refine dn ?_
      refine zI (Ghost.fa 14 (i := 0) rfl rfl) ?_
      refine zy ?_
      refine dmv rfl ?_
      refine dmv rfl ?_
      refine dmv rfl ?_
      refine dmv rfl ?_
      refine dq (zaG (cs := [_, _, _]) zkS zvp rfl) ?_
      refine dq (zK (hs := [_]) znu zkS rfl rfl (by decide) (by decide) rfl) ?_
      refine de rfl (zam (i := 0) znu zkS rfl rfl rfl rfl rfl (by simp [zaD, zm]) (by have := zcP S; simp only [List.length_map, List.length_cons, List.length_nil, List.length_take]; omega) fun v64 => ?_)
      refine das rfl ?_
      refine dn ?_
      refine zz ?_
      refine zf ?_
      refine zy ?_
      refine dq (zv rfl rfl (by omega) (by omega)) ?_
      refine dmv rfl ?_
      refine dn ?_
      refine ⟨k + 1, v64, ⟨by omega, fun s hs => ?_⟩, by dsimp only; omega, ⟨rfl, rfl, trivial⟩, (by repeat (first | exact zo | refine zt rfl ?_ | refine zp rfl rfl ?_)), zL (by dsimp only; rw [zaN hx, List.map_append]; rfl)⟩
      rw [zaN hx] at hs
      rcases List.mem_append.1 hs with hs | hs
      ·exact hg s hs
      ·rw [List.mem_singleton.1 hs, ← zoT hEp hG]; omega
    ·try simp at h8
     have hnk : (zaJ S).length ≤ k := by omega
     obtain rfl : k = (zaJ S).length := by omega
     refine zN ?_
     refine zT ?_
     refine za3 ?_
     refine zD ?_
     refine zf ?_
     rw [List.take_length] at hg ⊢
     refine zI (Ghost.only (i := 0) rfl) ?_
     refine zb ?_
     refine dmv rfl ?_
     refine das rfl ?_
     refine das rfl ?_
     refine dn ?_
     refine zn ?_
     (refine ziC (M := []) 6 rfl rfl ?_
      have hf := zqS (c := c) (S := S) (fun y hy => hO y (hEp.mem_iff.2 hy)) (fun s hs => hg s ((zhG S).mem_iff.2 hs))
      rw [zf0, zf1, hf]; simp [Function.comp_def, zbp, zfB])

end
end Go.Proofs.YtcihcbnjfclkbaaGreatDoor
