/- The statement is proved: the card of the law, out of its function's contract; no conditions. -/
import Derived.Test.YtjecenjmphpmfaaGreatDoorQCountsTurned5
import Derived.Ground.Names2Prog
import Derived.Handed
import Derived.LaidMore
import Derived.Lay
import Derived.OpenShut
import Derived.ProofKit
import Derived.SevenTiedAt
import Derived.Shelf.Slices.CompactS
import Derived.Shelf.Slices.Delete
import Derived.Shelf.Sort.Plain
import Derived.Shelf.Strconv.Atoi
import Derived.Shelf.Strconv.Itoa3
import Derived.Shelf.Strings.Count
import Derived.Shelf.Strings.Cut
import Derived.Shelf.Strings.Prefix
import Derived.Shelf.Strings.Split
import Derived.Shelf.Strings.SplitShaped
import Derived.Stop.Joined
import Derived.Test.YtjecenjmphpmfaaGreatDoorCards
import Derived.Test.YtjecenjmphpmfaaGreatDoorProg
import Derived.Test.YtjecenjmphpmfaaGreatDoorTie
set_option linter.unusedVariables false
set_option linter.unusedSimpArgs false
namespace Go.Proofs.YtjecenjmphpmfaaGreatDoor
set_option maxRecDepth 100000
set_option linter.unusedVariables false
set_option linter.unusedSimpArgs false
section
open Go.HL
/-- (*benchwarmer/benchmake.Stream).Known -/
theorem zaZ [Tracks] {b : Nat} {l : List Int} {a : Nat}  (ha : a ≤ 800000) : Con Tryz.prog 15 [pAt b] [St b l a] (fun x M' => ∃ y : Int, x = .int .i64 y ∧ M' = [St b l (a + 1 + 1)]) := by
 refine Con.of_body Tryz.func15 rfl Tryz.ntmps15 rfl rfl ?_
 refine za ?_
 refine das rfl ?_
 refine dn ?_
 refine za ?_
 refine dmv rfl ?_
 refine dmv rfl ?_
 refine dq (zw (hs := [_, _]) zaq ty3 rfl rfl (by decide) (by decide) rfl) ?_
 refine de rfl (zo (i := 0) zbn rfl (WeakL.refl _) rfl (zy (L := [_, _]) (by first | assumption | omega | (simp; omega) | simp_all) (by first | assumption | omega | (simp; omega) | simp_all) (by first | assumption | omega | (simp; omega) | simp_all)) ?_)
 rintro _ _ ⟨y6, rfl, hy6, rfl⟩
 refine dq (zw (hs := [_, _, _, _, _, _, _, _]) zaq ty3 rfl rfl (by decide) (by decide) rfl) ?_
 refine de rfl (zo (i := 0) zbn rfl (WeakL.refl _) rfl (zy (L := [_, _, _, _, _, _, _, _]) (by first | assumption | omega | (simp; omega) | simp_all) (by first | assumption | omega | (simp; omega) | simp_all) (by first | assumption | omega | (simp; omega) | simp_all)) ?_)
 rintro _ _ ⟨y8, rfl, hy8, rfl⟩
 refine das rfl ?_
 refine dn ?_
 refine zk ?_
 exact zaO rfl ⟨_, rfl, rfl⟩

set_option maxHeartbeats 1000000 in
/-- (*benchwarmer/benchmake.Stream).Trusted -/
theorem zb1 [Tracks] {b : Nat} {l : List Int} {a : Nat}  (ha : a ≤ 800000) : Con Tryz.prog 12 [pAt b] [St b l a] (fun x M' => ∃ t a', x = eSs t ∧ GoodTr t ∧ a' ≤ a + 10 ∧ M' = [St b l a']) := by
 refine Con.of_body Tryz.func12 rfl Tryz.ntmps12 rfl rfl ?_
 refine za ?_
 refine das rfl ?_
 refine dn ?_
 refine za ?_
 refine das rfl ?_
 refine dn ?_
 refine zH (Ghost.arr_nil 1) ?_
 refine zf ?_
 refine za ?_
 refine dmv rfl ?_
 refine de rfl (zo (i := 1) ca47 rfl (WeakL.refl _) rfl (zg7 (n := 3) (by omega) (by omega) (by omega)) ?_)
 rintro _ _ ⟨L7, a7, rfl, hL7, ha7, rfl⟩
 refine dq (zL zaq rfl) ?_
 refine dmv rfl ?_
 refine dn ?_
 obtain ⟨hLn, hLb⟩ := hL7
 refine zn ?_
 refine zaI [3, 5, 9, 10, 11, 12, 13, 14, 15, 16, 17, 18, 19, 20, 21, 22, 23] (fun (k : Nat) (q : GL Str) => [(9, .int .i64 k), (3, .raw q.u)]) (fun (k : Nat) (q : GL Str) => [St b l q.a, .arr q.u 1 (q.out.map .str)]) (fun (k : Nat) (q : GL Str) => k ≤ L7.length ∧ (GLok Sh k (a7 + k) q)) (fun (k : Nat) (q : GL Str) => L7.length - k) (0) (⟨.slice none 0 0, [], a7⟩) ?_ ?_ ?_ ?_
 ·exact ⟨Nat.zero_le _, ⟨by simp, by simp, by dsimp only; omega⟩⟩
 ·exact ⟨rfl, rfl, trivial⟩
 ·repeat (first | exact List.Perm.nil | refine zI 0 rfl ?_ | refine zI 1 rfl ?_ | refine zI 2 rfl ?_ | refine zI 3 rfl ?_ | (refine zD 0 rfl ?hq ?_; (case hq => simp [zO, zh]; done)) | (refine zD 1 rfl ?hq ?_; (case hq => simp [zO, zh]; done)) | (refine zD 2 rfl ?hq ?_; (case hq => simp [zO, zh]; done)) | (refine zD 3 rfl ?hq ?_; (case hq => simp [zO, zh]; done)) | fail)
 ·intro k q hinv
  obtain ⟨hk, hq⟩ := hinv
  obtain ⟨u, out, a2⟩ := q
  obtain ⟨g1, g2, g3⟩ := id hq
  dsimp only at g1 g2 g3
  refine za ?_
  refine dq (zW rfl rfl) ?_
  refine dn ?_
  refine zf ?_
  refine zi rfl (fun h1 => ?_) (fun h2 => ?_)
  ·try simp at h1
   obtain ⟨y, hy⟩ : ∃ y, L7[k]? = some y := ⟨_, List.getElem?_eq_getElem h1⟩
   have hdy := zX hy
   refine zl ?_
   refine ze ?_
   refine zf ?_
   refine zn ?_
   refine za ?_
   refine dq (zP zaq ty3 rfl rfl rfl (by assumption)) ?_
   refine dq (zc ty3 rfl rfl rfl) ?_
   refine das rfl ?_
   refine dn ?_
   refine za ?_
   refine dmv rfl ?_
   refine de rfl (zo (i := 0) zif rfl (WeakL.refl _) rfl (zaF (by first | assumption | omega | (simp; omega) | simp_all) (by first | assumption | omega | (simp; omega) | simp_all)) ?_)
   rintro _ _ ⟨y14, rfl, rfl⟩
   refine dq (zaa rfl) ?_
   refine dn ?_
   refine zi rfl (fun h3 => ?_) (fun h4 => ?_)
   ·try simp at h3
    refine zB ?_
    refine dmv rfl ?_
    refine dq (zw (hs := [_, _, _]) zaj ty9 rfl rfl (by decide) (by decide) rfl) ?_
    refine dmv rfl ?_
    refine dq (zP (f := HVal.str) (l := zeX) (j := y.toNat) (a := zeX.getD y.toNat []) zaj ty9 rfl rfl (by have := hLb y (List.mem_of_getElem? hy); omega) (getD_some (by have := hLb y (List.mem_of_getElem? hy); simp [zeX]; omega))) ?_
    refine dq (zc ty9 rfl rfl rfl) ?_
    refine dq (zw (hs := [_]) zaj ty9 rfl rfl (by decide) (by decide) rfl) ?_
    refine de rfl (zan (i := 1) zaj ty9 rfl rfl rfl rfl rfl (by simp [za5, zh]) (by simp; omega) fun v22 => ?_)
    refine das rfl ?_
    refine dn ?_
    refine zG ?_
    refine ze ?_
    refine zB ?_
    refine dq (zC rfl rfl (by omega) (by omega)) ?_
    refine dmv rfl ?_
    refine dn ?_
    exact ⟨k + 1, ⟨v22, out ++ [zeX.getD y.toNat []], a2 + 1⟩, ⟨by omega, hq.add (x := zeX.getD y.toNat []) (ziC _ (zuM (by have := hLb y (List.mem_of_getElem? hy); simp [zeX]; omega))) (by omega)⟩, by dsimp only; omega, ⟨rfl, rfl, trivial⟩, (by repeat (first | exact zp | refine zt rfl ?_ | refine zq rfl rfl ?_)), by repeat (first | exact List.Perm.nil | refine zI 0 rfl ?_ | refine zI 1 rfl ?_ | refine zI 2 rfl ?_ | refine zI 3 rfl ?_ | (refine zD 0 rfl ?hq ?_; (case hq => simp [zO, zh]; done)) | (refine zD 1 rfl ?hq ?_; (case hq => simp [zO, zh]; done)) | (refine zD 2 rfl ?hq ?_; (case hq => simp [zO, zh]; done)) | (refine zD 3 rfl ?hq ?_; (case hq => simp [zO, zh]; done)) | fail)⟩
   ·try simp at h4
    refine zl ?_
    refine zG ?_
    refine ze ?_
    refine zB ?_
    refine dq (zC rfl rfl (by omega) (by omega)) ?_
    refine dmv rfl ?_
    refine dn ?_
    exact ⟨k + 1, ⟨u, out, a2 + 1⟩, ⟨by omega, hq.same (by omega)⟩, by dsimp only; omega, ⟨rfl, rfl, trivial⟩, (by repeat (first | exact zp | refine zt rfl ?_ | refine zq rfl rfl ?_)), by repeat (first | exact List.Perm.nil | refine zI 0 rfl ?_ | refine zI 1 rfl ?_ | refine zI 2 rfl ?_ | refine zI 3 rfl ?_ | (refine zD 0 rfl ?hq ?_; (case hq => simp [zO, zh]; done)) | (refine zD 1 rfl ?hq ?_; (case hq => simp [zO, zh]; done)) | (refine zD 2 rfl ?hq ?_; (case hq => simp [zO, zh]; done)) | (refine zD 3 rfl ?hq ?_; (case hq => simp [zO, zh]; done)) | fail)⟩
  ·try simp at h2
   have hnk : L7.length ≤ k := by omega
   obtain rfl : k = L7.length := by omega
   refine zU ?_
   refine z6 ?_
   refine zaR ?_
   refine zJ ?_
   refine ze ?_
   refine zf ?_
   dsimp only
   refine za ?_
   refine dmv rfl ?_
   refine de rfl (zo (i := 0) zif rfl (WeakL.refl _) rfl (zaF (by first | assumption | omega | (simp; omega) | simp_all) (by first | assumption | omega | (simp; omega) | simp_all)) ?_)
   rintro _ _ ⟨y25, rfl, rfl⟩
   refine dn ?_
   refine zi rfl (fun h5 => ?_) (fun h6 => ?_)
   ·try simp at h5
    refine zB ?_
    refine dmv rfl ?_
    refine dmv rfl ?_
    refine dq (zw (hs := [_, _, _]) zaj ty9 rfl rfl (by decide) (by decide) rfl) ?_
    refine de rfl (zo (i := 0) zee rfl (WeakL.refl _) rfl (zac (L := [_, _, _]) (by first | assumption | omega | (simp; omega) | simp_all) (by first | assumption | omega | (simp; omega) | simp_all) (by first | assumption | omega | (simp; omega) | simp_all)) ?_)
    rintro _ _ ⟨y29, rfl, hy29, rfl⟩
    refine dq (zw (hs := [_]) zaj ty9 rfl rfl (by decide) (by decide) rfl) ?_
    refine de rfl (zan (i := 1) zaj ty9 rfl rfl rfl rfl rfl (by simp [za5, zh]) (by simp; omega) fun v31 => ?_)
    refine das rfl ?_
    refine dn ?_
    refine ze ?_
    refine za ?_
    refine dmv rfl ?_
    refine das rfl ?_
    refine dn ?_
    refine zk ?_
    exact zat (Ghost.fa 2 (i := 1) rfl rfl) rfl ⟨out ++ [y29], _, by simp, ⟨by simp; omega, fun s hs => by
     rcases List.mem_append.1 hs with hs | hs
     ·exact g2 s hs
     ·rw [List.mem_singleton.1 hs]; simp at hy29; rcases hy29 with rfl | rfl | rfl <;> (unfold Sh; simp)⟩, by omega, rfl⟩
   ·try simp at h6
    refine zl ?_
    refine ze ?_
    refine za ?_
    refine dmv rfl ?_
    refine das rfl ?_
    refine dn ?_
    refine zk ?_
    exact zat (Ghost.fa 2 (i := 1) rfl rfl) rfl ⟨out, _, rfl, ⟨by omega, g2⟩, by omega, rfl⟩

set_option maxHeartbeats 4000000 in
/-- (*benchwarmer/benchmake.Stream).Told -/
theorem zbO [Tracks] {b : Nat} {l : List Int} {a : Nat}  (ha : a ≤ 700000) : Con Tryz.prog 11 [pAt b] [St b l a] (fun x M' => ∃ k a', x = zbD k ∧ GoodPl k ∧ a' ≤ a + 500 ∧ M' = [St b l a']) := by
 refine Con.of_body Tryz.func11 rfl Tryz.ntmps11 rfl rfl ?_
 refine za ?_
 refine das rfl ?_
 refine dn ?_
 refine za ?_
 refine das rfl ?_
 refine dn ?_
 refine zH (Ghost.arr_nil 9) ?_
 refine zf ?_
 refine za ?_
 refine dq (zw (hs := [_, _, _]) zaj ty9 rfl rfl (by decide) (by decide) rfl) ?_
 refine dq (zL (f := HVal.str) (l := zeX) zaj rfl) ?_
 refine dmv rfl ?_
 refine dn ?_
 refine zn ?_
 refine zaI (3 :: 5 :: 6 :: 7 :: 8 :: 9 :: 11 :: 15 :: 16 :: 17 :: 18 :: 19 :: 20 :: 21 :: 22 :: 23 :: 24 :: 25 :: 26 :: 27 :: 28 :: 29 :: 30 :: 31 :: 32 :: 33 :: 34 :: 35 :: 36 :: 37 :: 38 :: 39 :: 40 :: 41 :: 42 :: 43 :: 44 :: 45 :: 46 :: 47 :: 48 :: 49 :: 50 :: 51 :: 52 :: 53 :: 54 :: 55 :: 56 :: 57 :: 58 :: 59 :: 60 :: 61 :: 62 :: 63 :: 64 :: 65 :: 66 :: 67 :: 68 :: 69 :: 70 :: 71 :: 72 :: 73 :: 74 :: 75 :: 76 :: 77 :: 78 :: 79 :: 80 :: 81 :: 82 :: 83 :: 84 :: 85 :: 86 :: 87 :: 88 :: 89 :: 90 :: 91 :: 92 :: 93 :: 94 :: 95 :: 96 :: 97 :: 98 :: 99 :: 100 :: 101 :: 102 :: 103 :: 104 :: 105 :: 106 :: 107 :: 108 :: 109 :: 110 :: 111 :: []) (fun (k : Nat) (q : GL Play) => [(15, .int .i64 k), (3, .raw q.u)]) (fun (k : Nat) (q : GL Play) => [St b l q.a, .arr q.u 9 (q.out.map zR)]) (fun (k : Nat) (q : GL Play) => k ≤ zeX.length ∧ (GLok zc3 (5 * k) (a + 130 * k) q)) (fun (k : Nat) (q : GL Play) => zeX.length - k) (0) (⟨.slice none 0 0, [], a⟩) ?_ ?_ ?_ ?_
 ·exact ⟨by decide, ⟨by simp, by simp, by dsimp only; omega⟩⟩
 ·exact ⟨rfl, rfl, trivial⟩
 ·repeat (first | exact List.Perm.nil | refine zI 0 rfl ?_ | refine zI 1 rfl ?_ | refine zI 2 rfl ?_ | refine zI 3 rfl ?_ | (refine zD 0 rfl ?hq ?_; (case hq => simp [zO, zh]; done)) | (refine zD 1 rfl ?hq ?_; (case hq => simp [zO, zh]; done)) | (refine zD 2 rfl ?hq ?_; (case hq => simp [zO, zh]; done)) | (refine zD 3 rfl ?hq ?_; (case hq => simp [zO, zh]; done)) | fail)
 ·intro k q hinv
  obtain ⟨hk, hq⟩ := hinv
  obtain ⟨u, out, a1⟩ := q
  obtain ⟨g1, g2, g3⟩ := id hq
  dsimp only at g1 g2 g3
  have h3 : zeX.length = 3 := rfl
  refine za ?_
  refine dq (zW rfl rfl) ?_
  refine dn ?_
  refine zf ?_
  refine zi rfl (fun h1 => ?_) (fun h2 => ?_)
  ·try simp at h1
   obtain ⟨x, hx⟩ : ∃ x, zeX[k]? = some x := ⟨_, List.getElem?_eq_getElem h1⟩
   have hdx := zX hx
   refine zl ?_
   refine ze ?_
   refine zf ?_
   refine zn ?_
   refine za ?_
   refine dq (zP (f := HVal.str) (l := zeX) (j := k) (a := x) zaj ty9 rfl rfl rfl hx) ?_
   refine dq (zc ty9 rfl rfl rfl) ?_
   refine das rfl ?_
   refine dn ?_
   refine za ?_
   refine dmv rfl ?_
   refine dq (zw (hs := [_, _]) zaq ty3 rfl rfl (by decide) (by decide) rfl) ?_
   refine de rfl (zo (i := 0) zbn rfl (WeakL.refl _) rfl (zy (L := [_, _]) (by first | assumption | omega | (simp; omega) | simp_all) (by first | assumption | omega | (simp; omega) | simp_all) (by first | assumption | omega | (simp; omega) | simp_all)) ?_)
   rintro _ _ ⟨y21, rfl, hy21, rfl⟩
   refine das rfl ?_
   refine das rfl ?_
   refine dn ?_
   refine za ?_
   refine dmv rfl ?_
   refine de rfl (zo (i := 0) ca43 rfl (WeakL.refl _) rfl (zex (by first | assumption | omega | (simp; omega) | simp_all) (by first | assumption | omega | (simp; omega) | simp_all) (by first | assumption | omega | (simp; omega) | simp_all) (by first | assumption | omega | (simp; omega) | simp_all)) ?_)
   rintro _ _ ⟨y23, rfl, hy23, rfl⟩
   refine dmv rfl ?_
   refine dn ?_
   refine zn ?_
   refine zoy (3 :: 6 :: 7 :: 8 :: 9 :: 11 :: 24 :: 25 :: 26 :: 27 :: 28 :: 29 :: 30 :: 31 :: 32 :: 33 :: 34 :: 35 :: 36 :: 37 :: 38 :: 39 :: 40 :: 41 :: 42 :: 43 :: 44 :: 45 :: 46 :: 47 :: 48 :: 49 :: 50 :: 51 :: 52 :: 53 :: 54 :: 55 :: 56 :: 57 :: 58 :: 59 :: 60 :: 61 :: 62 :: 63 :: 64 :: 65 :: 66 :: 67 :: 68 :: 69 :: 70 :: 71 :: 72 :: 73 :: 74 :: 75 :: 76 :: 77 :: 78 :: 79 :: 80 :: 81 :: 82 :: 83 :: 84 :: 85 :: 86 :: 87 :: 88 :: 89 :: 90 :: 91 :: 92 :: 93 :: 94 :: 95 :: 96 :: 97 :: 98 :: 99 :: 100 :: 101 :: 102 :: 103 :: 104 :: 105 :: 106 :: 107 :: 108 :: 109 :: 110 :: []) (fun (n : Nat) (no : Int) (at1 : Int) (q2 : GL Play) => [(24, .int .i64 (n : Int)), (6, .int .i64 no), (7, .int .i64 at1), (3, .raw q2.u)]) (fun (n : Nat) (no : Int) (at1 : Int) (q2 : GL Play) => [St b l q2.a, .arr q2.u 9 (q2.out.map zR)]) (fun (n : Nat) (no : Int) (at1 : Int) (q2 : GL Play) => (n : Int) ≤ y23 ∧ (0 ≤ no ∧ no ≤ 2 * n) ∧ (0 ≤ at1 ∧ at1 ≤ 5 + 40 * n) ∧ GLok zc3 (5 * k + n) (a1 + 2 + 25 * n) q2) (fun (n : Nat) (no : Int) (at1 : Int) (q2 : GL Play) => y23.toNat - n) (0) (0) (y21) (⟨u, out, a1 + 2⟩) ?_ ?_ ?_ ?_
   ·exact ⟨by omega, ⟨by omega, by omega⟩, ⟨by simp at hy21; omega, by simp at hy21; omega⟩, ⟨by dsimp only; omega, g2, by dsimp only; omega⟩⟩
   ·exact ⟨rfl, rfl, rfl, rfl, trivial⟩
   ·repeat (first | exact List.Perm.nil | refine zI 0 rfl ?_ | refine zI 1 rfl ?_ | refine zI 2 rfl ?_ | refine zI 3 rfl ?_ | (refine zD 0 rfl ?hq ?_; (case hq => simp [zO, zh]; done)) | (refine zD 1 rfl ?hq ?_; (case hq => simp [zO, zh]; done)) | (refine zD 2 rfl ?hq ?_; (case hq => simp [zO, zh]; done)) | (refine zD 3 rfl ?hq ?_; (case hq => simp [zO, zh]; done)) | fail)
   ·intro n no at1 q2 hinv
    obtain ⟨hn, hno, hat, hq2⟩ := hinv
    obtain ⟨u, out, a2⟩ := q2
    obtain ⟨g1, g2, g3⟩ := id hq2
    dsimp only at g1 g2 g3
    refine za ?_
    refine dq (zW rfl rfl) ?_
    refine dn ?_
    refine zf ?_
    refine zi rfl (fun h3 => ?_) (fun h4 => ?_)
    ·try simp at h3
     refine zl ?_
     refine ze ?_
     refine zf ?_
     refine zn ?_
     refine za ?_
     refine dmv rfl ?_
     refine dmv rfl ?_
     refine dq (zw (hs := [_, _, _]) zaq ty3 rfl rfl (by decide) (by decide) rfl) ?_
     refine de rfl (zo (i := 0) zbn rfl (WeakL.refl _) rfl (zy (L := [_, _, _]) (by first | assumption | omega | (simp; omega) | simp_all) (by first | assumption | omega | (simp; omega) | simp_all) (by first | assumption | omega | (simp; omega) | simp_all)) ?_)
     rintro _ _ ⟨y29, rfl, hy29, rfl⟩
     refine dq (zC rfl rfl (by simp at hy29; omega) (by simp at hy29; omega)) ?_
     refine das rfl ?_
     refine dn ?_
     refine za ?_
     refine dmv rfl ?_
     refine de rfl (zo (i := 0) zcV rfl (WeakL.refl _) rfl (zV (by first | assumption | omega | (simp; omega) | simp_all) (by first | assumption | omega | (simp; omega) | simp_all)) ?_)
     rintro _ _ ⟨y32, rfl, hy32, rfl⟩
     refine das rfl ?_
     refine dn ?_
     have hyb : 1 ≤ y29 ∧ y29 ≤ 2 := by simp at hy29; omega
     refine zeb [9, 33, 34, 35, 36, 37, 38, 39, 40, 41, 42, 43, 44, 45, 46, 47, 48, 49, 50, 51, 52, 53] (fun (q9 : Nat × Play) => [(9, pAt q9.1)]) (fun (q9 : Nat × Play) => [St b l (a2 + 5), .arr u 9 (out.map zR), .cells q9.1 (zh (zR q9.2))]) (fun (q9 : Nat × Play) => zc3 q9.2) ?_ ?_
     ·skip
      refine zcQ (fun _ => True) [] mixed ?_
      refine ahp 0 rfl rfl (by kernel_rfl) (by kernel_rfl) (zd rfl) ?_
      refine ahp 1 rfl rfl (by kernel_rfl) (by kernel_rfl) (zd rfl) ?_
      refine ahp 2 rfl rfl (by kernel_rfl) (by kernel_rfl) (zd rfl) ?_
      refine ahp 3 rfl rfl (by kernel_rfl) (by kernel_rfl) (zw (hs := [_, _, _]) zaq ty3 rfl rfl (by decide) (by decide) rfl) ?_
      refine ahp 4 rfl rfl (by kernel_rfl) (by kernel_rfl) (zd rfl) ?_
      refine ahp 5 rfl rfl (by kernel_rfl) (by kernel_rfl) (zP (f := HVal.int .i64) (l := zjg) (j := y32) (a := zjg.getD y32 0) zaq ty3 rfl rfl rfl (getD_some (by simp [zjg]; omega))) ?_
      refine ahp 6 rfl rfl (by kernel_rfl) (by kernel_rfl) (zc ty3 rfl rfl rfl) ?_
      refine ahp 7 rfl rfl (by kernel_rfl) (by kernel_rfl) (zw (hs := [_, _, _]) zaj ty9 rfl rfl (by decide) (by decide) rfl) ?_
      refine ahp 8 rfl rfl (by kernel_rfl) (by kernel_rfl) (zd rfl) ?_
      refine ahp 9 rfl rfl (by kernel_rfl) (by kernel_rfl) (zP (f := HVal.str) (l := zd2) (j := y32) (a := zd2.getD y32 []) zaj ty9 rfl rfl rfl (getD_some (by simp [zd2]; omega))) ?_
      refine ahp 10 rfl rfl (by kernel_rfl) (by kernel_rfl) (zc ty9 rfl rfl rfl) ?_
      refine ahp 11 rfl rfl (by kernel_rfl) (by kernel_rfl) (zd rfl) ?_
      refine ahp 12 rfl rfl (by kernel_rfl) (by kernel_rfl) (zw (hs := [_, _, _]) zaj ty9 rfl rfl (by decide) (by decide) rfl) ?_
      refine ahp 14 rfl rfl (by kernel_rfl) (by kernel_rfl) (zd rfl) ?_
      refine ahp 15 rfl rfl (by kernel_rfl) (by kernel_rfl) (zw (hs := [_, _, _, _]) zaj ty9 rfl rfl (by decide) (by decide) rfl) ?_
      refine ahp 17 rfl rfl (by kernel_rfl) (by kernel_rfl) (zd rfl) ?_
      refine ahp 18 rfl rfl (by kernel_rfl) (by kernel_rfl) (zw (hs := [_, _, _, _, _]) zaq ty3 rfl rfl (by decide) (by decide) rfl) ?_
      refine zu1 13 21 rfl rfl (by kernel_rfl) ?_ ?_
      ·skip
       refine zau rfl (zo (i := 0) zee rfl (WeakL.refl _) rfl (zac (L := [_, _, _]) (by first | assumption | omega | (simp; omega) | simp_all) (by first | assumption | omega | (simp; omega) | simp_all) (by first | assumption | omega | (simp; omega) | simp_all)) ?_)
       rintro _ _ ⟨y46, rfl, hy46, rfl⟩
       refine ⟨fun _ => .inl trivial, ?_⟩
       refine zu1 16 21 rfl rfl (by kernel_rfl) ?_ ?_
       ·skip
        refine zau rfl (zo (i := 0) zee rfl (WeakL.refl _) rfl (zac (L := [_, _, _, _]) (by first | assumption | omega | (simp; omega) | simp_all) (by first | assumption | omega | (simp; omega) | simp_all) (by first | assumption | omega | (simp; omega) | simp_all)) ?_)
        rintro _ _ ⟨y49, rfl, hy49, rfl⟩
        refine ⟨fun _ => .inl trivial, ?_⟩
        refine zu1 19 21 rfl rfl (by kernel_rfl) ?_ ?_
        ·skip
         refine zau rfl (zo (i := 0) zbn rfl (WeakL.refl _) rfl (zy (L := [_, _, _, _, _]) (by first | assumption | omega | (simp; omega) | simp_all) (by first | assumption | omega | (simp; omega) | simp_all) (by first | assumption | omega | (simp; omega) | simp_all)) ?_)
         rintro _ _ ⟨y52, rfl, hy52, rfl⟩
         refine ⟨fun _ => .inl trivial, ?_⟩
         refine ahp 20 rfl rfl (by kernel_rfl) (by kernel_rfl) (zaw (cs := [_, _, _, _, _, _, _, _, _]) zm zi4 rfl) ?_
         refine ahe 21 rfl (by kernel_rfl) ?_
         refine zau rfl (z8 zm rfl fun b9 => ?_)
         refine ⟨fun _ => .inl trivial, ?_⟩
         refine ahe 22 rfl (by kernel_rfl) ?_
         refine zaL (z7 (i := 0) zm rfl rfl rfl rfl rfl (Nat.le_of_ble_eq_true rfl) ?_)
         refine ⟨fun _ => .inl trivial, ?_⟩
         refine ahz (by kernel_rfl) ?_
         refine ⟨(b9, (⟨x, no + y29, at1, zjg.getD y32 0, zd2.getD y32 [], y46, y49, y52, 0⟩ : Play)), ?_, ⟨rfl, trivial⟩, (by repeat (first | exact zp | refine zt rfl ?_ | refine zq rfl rfl ?_)), ?_⟩
         ·exact ⟨ziC x (List.mem_of_getElem? hx), zhS y32, by simp at hy46; rcases hy46 with rfl | rfl | rfl <;> (unfold Sh; simp), by simp at hy49; rcases hy49 with rfl | rfl | rfl <;> (unfold Sh; simp)⟩
         ·repeat (first | exact List.Perm.nil | refine zI 0 rfl ?_ | refine zI 1 rfl ?_ | refine zI 2 rfl ?_ | refine zI 3 rfl ?_ | (refine zD 0 rfl ?hq ?_; (case hq => simp [zO, zh]; done)) | (refine zD 1 rfl ?hq ?_; (case hq => simp [zO, zh]; done)) | (refine zD 2 rfl ?hq ?_; (case hq => simp [zO, zh]; done)) | (refine zD 3 rfl ?hq ?_; (case hq => simp [zO, zh]; done)) | fail)
        ·skip
         refine zau rfl (z8 zm rfl fun b9 => ?_)
         refine ⟨fun _ => .inl trivial, ?_⟩
         refine ahe 19 rfl (by kernel_rfl) ?_
         refine zau rfl (zo (i := 1) zbn rfl (WeakL.refl _) rfl (zy (L := [_, _, _, _, _]) (by first | assumption | omega | (simp; omega) | simp_all) (by first | assumption | omega | (simp; omega) | simp_all) (by first | assumption | omega | (simp; omega) | simp_all)) ?_)
         rintro _ _ ⟨y52, rfl, hy52, rfl⟩
         refine ⟨fun _ => .inl trivial, ?_⟩
         refine ahp 20 rfl rfl (by kernel_rfl) (by kernel_rfl) (zaw (cs := [_, _, _, _, _, _, _, _, _]) zm zi4 rfl) ?_
         refine ahe 22 rfl (by kernel_rfl) ?_
         refine zaL (z7 (i := 1) zm rfl rfl rfl rfl rfl (Nat.le_of_ble_eq_true rfl) ?_)
         refine ⟨fun _ => .inl trivial, ?_⟩
         refine ahz (by kernel_rfl) ?_
         refine ⟨(b9, (⟨x, no + y29, at1, zjg.getD y32 0, zd2.getD y32 [], y46, y49, y52, 0⟩ : Play)), ?_, ⟨rfl, trivial⟩, (by repeat (first | exact zp | refine zt rfl ?_ | refine zq rfl rfl ?_)), ?_⟩
         ·exact ⟨ziC x (List.mem_of_getElem? hx), zhS y32, by simp at hy46; rcases hy46 with rfl | rfl | rfl <;> (unfold Sh; simp), by simp at hy49; rcases hy49 with rfl | rfl | rfl <;> (unfold Sh; simp)⟩
         ·repeat (first | exact List.Perm.nil | refine zI 0 rfl ?_ | refine zI 1 rfl ?_ | refine zI 2 rfl ?_ | refine zI 3 rfl ?_ | (refine zD 0 rfl ?hq ?_; (case hq => simp [zO, zh]; done)) | (refine zD 1 rfl ?hq ?_; (case hq => simp [zO, zh]; done)) | (refine zD 2 rfl ?hq ?_; (case hq => simp [zO, zh]; done)) | (refine zD 3 rfl ?hq ?_; (case hq => simp [zO, zh]; done)) | fail)
       ·skip
        refine zau rfl (z8 zm rfl fun b9 => ?_)
        refine ⟨fun _ => .inl trivial, ?_⟩
        refine ahe 16 rfl (by kernel_rfl) ?_
        refine zau rfl (zo (i := 1) zee rfl (WeakL.refl _) rfl (zac (L := [_, _, _, _]) (by first | assumption | omega | (simp; omega) | simp_all) (by first | assumption | omega | (simp; omega) | simp_all) (by first | assumption | omega | (simp; omega) | simp_all)) ?_)
        rintro _ _ ⟨y49, rfl, hy49, rfl⟩
        refine ⟨fun _ => .inl trivial, ?_⟩
        refine ahe 19 rfl (by kernel_rfl) ?_
        refine zau rfl (zo (i := 0) zbn rfl (WeakL.refl _) rfl (zy (L := [_, _, _, _, _]) (by first | assumption | omega | (simp; omega) | simp_all) (by first | assumption | omega | (simp; omega) | simp_all) (by first | assumption | omega | (simp; omega) | simp_all)) ?_)
        rintro _ _ ⟨y52, rfl, hy52, rfl⟩
        refine ⟨fun _ => .inl trivial, ?_⟩
        refine ahp 20 rfl rfl (by kernel_rfl) (by kernel_rfl) (zaw (cs := [_, _, _, _, _, _, _, _, _]) zm zi4 rfl) ?_
        refine ahe 22 rfl (by kernel_rfl) ?_
        refine zaL (z7 (i := 1) zm rfl rfl rfl rfl rfl (Nat.le_of_ble_eq_true rfl) ?_)
        refine ⟨fun _ => .inl trivial, ?_⟩
        refine ahz (by kernel_rfl) ?_
        refine ⟨(b9, (⟨x, no + y29, at1, zjg.getD y32 0, zd2.getD y32 [], y46, y49, y52, 0⟩ : Play)), ?_, ⟨rfl, trivial⟩, (by repeat (first | exact zp | refine zt rfl ?_ | refine zq rfl rfl ?_)), ?_⟩
        ·exact ⟨ziC x (List.mem_of_getElem? hx), zhS y32, by simp at hy46; rcases hy46 with rfl | rfl | rfl <;> (unfold Sh; simp), by simp at hy49; rcases hy49 with rfl | rfl | rfl <;> (unfold Sh; simp)⟩
        ·repeat (first | exact List.Perm.nil | refine zI 0 rfl ?_ | refine zI 1 rfl ?_ | refine zI 2 rfl ?_ | refine zI 3 rfl ?_ | (refine zD 0 rfl ?hq ?_; (case hq => simp [zO, zh]; done)) | (refine zD 1 rfl ?hq ?_; (case hq => simp [zO, zh]; done)) | (refine zD 2 rfl ?hq ?_; (case hq => simp [zO, zh]; done)) | (refine zD 3 rfl ?hq ?_; (case hq => simp [zO, zh]; done)) | fail)
      ·skip
       refine zau rfl (z8 zm rfl fun b9 => ?_)
       refine ⟨fun _ => .inl trivial, ?_⟩
       refine ahe 13 rfl (by kernel_rfl) ?_
       refine zau rfl (zo (i := 1) zee rfl (WeakL.refl _) rfl (zac (L := [_, _, _]) (by first | assumption | omega | (simp; omega) | simp_all) (by first | assumption | omega | (simp; omega) | simp_all) (by first | assumption | omega | (simp; omega) | simp_all)) ?_)
       rintro _ _ ⟨y46, rfl, hy46, rfl⟩
       refine ⟨fun _ => .inl trivial, ?_⟩
       refine ahe 16 rfl (by kernel_rfl) ?_
       refine zau rfl (zo (i := 0) zee rfl (WeakL.refl _) rfl (zac (L := [_, _, _, _]) (by first | assumption | omega | (simp; omega) | simp_all) (by first | assumption | omega | (simp; omega) | simp_all) (by first | assumption | omega | (simp; omega) | simp_all)) ?_)
       rintro _ _ ⟨y49, rfl, hy49, rfl⟩
       refine ⟨fun _ => .inl trivial, ?_⟩
       refine ahe 19 rfl (by kernel_rfl) ?_
       refine zau rfl (zo (i := 0) zbn rfl (WeakL.refl _) rfl (zy (L := [_, _, _, _, _]) (by first | assumption | omega | (simp; omega) | simp_all) (by first | assumption | omega | (simp; omega) | simp_all) (by first | assumption | omega | (simp; omega) | simp_all)) ?_)
       rintro _ _ ⟨y52, rfl, hy52, rfl⟩
       refine ⟨fun _ => .inl trivial, ?_⟩
       refine ahp 20 rfl rfl (by kernel_rfl) (by kernel_rfl) (zaw (cs := [_, _, _, _, _, _, _, _, _]) zm zi4 rfl) ?_
       refine ahe 22 rfl (by kernel_rfl) ?_
       refine zaL (z7 (i := 1) zm rfl rfl rfl rfl rfl (Nat.le_of_ble_eq_true rfl) ?_)
       refine ⟨fun _ => .inl trivial, ?_⟩
       refine ahz (by kernel_rfl) ?_
       refine ⟨(b9, (⟨x, no + y29, at1, zjg.getD y32 0, zd2.getD y32 [], y46, y49, y52, 0⟩ : Play)), ?_, ⟨rfl, trivial⟩, (by repeat (first | exact zp | refine zt rfl ?_ | refine zq rfl rfl ?_)), ?_⟩
       ·exact ⟨ziC x (List.mem_of_getElem? hx), zhS y32, by simp at hy46; rcases hy46 with rfl | rfl | rfl <;> (unfold Sh; simp), by simp at hy49; rcases hy49 with rfl | rfl | rfl <;> (unfold Sh; simp)⟩
       ·repeat (first | exact List.Perm.nil | refine zI 0 rfl ?_ | refine zI 1 rfl ?_ | refine zI 2 rfl ?_ | refine zI 3 rfl ?_ | (refine zD 0 rfl ?hq ?_; (case hq => simp [zO, zh]; done)) | (refine zD 1 rfl ?hq ?_; (case hq => simp [zO, zh]; done)) | (refine zD 2 rfl ?hq ?_; (case hq => simp [zO, zh]; done)) | (refine zD 3 rfl ?hq ?_; (case hq => simp [zO, zh]; done)) | fail)
     ·intro q9 hq9
      obtain ⟨b9, x9⟩ := q9
      dsimp only at hq9
      refine zeb [11, 54, 55, 56, 57, 58, 59, 60, 61, 62, 63, 64, 65, 66, 67, 68, 69, 70, 71, 72, 73, 74, 75, 76, 77, 78, 79, 80, 81, 82, 83, 84, 85, 86, 87, 88, 89, 90, 91, 92, 93, 94, 95, 96, 97, 98, 99, 100] (fun (q4 : Play × Nat) => []) (fun (q4 : Play × Nat) => [St b l q4.2, .arr u 9 (out.map zR), .cells b9 (zh (zR q4.1))]) (fun (q4 : Play × Nat) => zc3 q4.1 ∧ q4.2 ≤ a2 + 22) ?_ ?_
      ·skip
       refine za ?_
       refine dmv rfl ?_
       refine dq (zaf rfl rfl) ?_
       refine dmv rfl ?_
       refine dg rfl rfl (fun hc => ⟨_, OpenTo.refl _, zd rfl⟩) ?_
       refine dgx (fun x M' => ∃ (y : Bool) (a3 : Nat), x = .bool y ∧ a3 ≤ (a2 + 5) + 1 ∧ M' = [St b l a3, .arr u 9 (out.map zR), .cells b9 (zh (zR x9))]) rfl rfl (fun hc => ⟨_, false, (a2 + 5), rfl, by omega, rfl⟩) (fun hc => ⟨_, OpenTo.upd (t := 57) rfl (hc) (OpenTo.refl _), zo (i := 0) zif rfl (WeakL.refl _) rfl (zaF (a := (a2 + 5)) (by omega) (by omega)) (fun h M' hh => by
        obtain ⟨y, h1, h2⟩ := hh
        exact ⟨y, (a2 + 5) + 1, h1, by omega, by rw [h2]; rfl⟩)⟩) ?_
       rintro _ _ ⟨y10, a310, rfl, ha310, rfl⟩
       refine dq (zv rfl (.inr ⟨_, rfl, fun h => by simp_all⟩) (.inl rfl)) ?_
       refine dn ?_
       refine zi rfl (fun h5 => ?_) (fun h6 => ?_)
       ·try simp at h5
        refine za ?_
        refine dmv rfl ?_
        refine dmv rfl ?_
        refine dq (zbd rfl rfl (by omega) (by omega)) ?_
        refine de rfl (zo (i := 0) ca43 rfl (WeakL.refl _) rfl (zex (by first | assumption | omega | (simp; omega) | simp_all) (by first | assumption | omega | (simp; omega) | simp_all) (by first | assumption | omega | (simp; omega) | simp_all) (by first | assumption | omega | (simp; omega) | simp_all)) ?_)
        rintro _ _ ⟨y63, rfl, hy63, rfl⟩
        refine dq (zg zm rfl ty3 (by decide) rfl) ?_
        refine de0 (z7 (i := 2) ty3 rfl rfl rfl rfl rfl (Nat.le_of_ble_eq_true rfl) ?_)
        refine dq (zg zm rfl ty3 (by decide) rfl) ?_
        refine de0 (z7 (i := 2) ty3 rfl rfl rfl rfl rfl (Nat.le_of_ble_eq_true rfl) ?_)
        refine dn ?_
        obtain ⟨s9, n9, t9, w9, m9, p9, st9, c9, u9⟩ := x9
        refine zH (Ghost.perm (M' := [St b l (a310 + 1), .arr u 9 (out.map zR), .cells b9 (zh (zR ⟨s9, n9, t9, w9, m9, p9, st9, 0, y63⟩))]) (by repeat (first | exact List.Perm.nil | refine zI 0 rfl ?_ | refine zI 1 rfl ?_ | refine zI 2 rfl ?_ | refine zI 3 rfl ?_ | (refine zD 0 rfl ?hq ?_; (case hq => simp [zO, zh]; done)) | (refine zD 1 rfl ?hq ?_; (case hq => simp [zO, zh]; done)) | (refine zD 2 rfl ?hq ?_; (case hq => simp [zO, zh]; done)) | (refine zD 3 rfl ?hq ?_; (case hq => simp [zO, zh]; done)) | fail))) ?_
        refine za ?_
        refine dmv rfl ?_
        refine de rfl (zbj (i := 1) (es := out) zaC rfl rfl ?_)
        refine dmv rfl ?_
        refine dn ?_
        refine zn ?_
        refine zaI [11, 68, 69, 70, 71, 72, 73, 74, 75, 76, 77, 78, 79, 80, 81, 82, 83, 84, 85, 86, 87, 88, 89, 90, 91, 92, 93, 94, 95, 96, 97, 98, 99, 100] (fun (j : Nat) (q3 : Play × Nat) => [(68, .int .i64 j)]) (fun (j : Nat) (q3 : Play × Nat) => [St b l q3.2, .arr u 9 (out.map zR), .cells b9 (zh (zR q3.1))]) (fun (j : Nat) (q3 : Play × Nat) => j ≤ out.length ∧ (zc3 q3.1 ∧ q3.2 ≤ a310 + 1 + j)) (fun (j : Nat) (q3 : Play × Nat) => out.length - j) (0) ((⟨s9, n9, t9, w9, m9, p9, st9, 0, y63⟩, a310 + 1)) ?_ ?_ ?_ ?_
        ·exact ⟨Nat.zero_le _, hq9, by dsimp only; omega⟩
        ·exact ⟨rfl, trivial⟩
        ·repeat (first | exact List.Perm.nil | refine zI 0 rfl ?_ | refine zI 1 rfl ?_ | refine zI 2 rfl ?_ | refine zI 3 rfl ?_ | (refine zD 0 rfl ?hq ?_; (case hq => simp [zO, zh]; done)) | (refine zD 1 rfl ?hq ?_; (case hq => simp [zO, zh]; done)) | (refine zD 2 rfl ?hq ?_; (case hq => simp [zO, zh]; done)) | (refine zD 3 rfl ?hq ?_; (case hq => simp [zO, zh]; done)) | fail)
        ·intro j q3 hinv
         obtain ⟨hj, hq3⟩ := hinv
         obtain ⟨⟨s3, n3, t3, w3, m3, p3, st3, c3, u3⟩, a4⟩ := q3
         obtain ⟨hs3, ha4⟩ := hq3
         dsimp only at hs3 ha4
         refine za ?_
         refine dq (zW rfl rfl) ?_
         refine dn ?_
         refine zf ?_
         refine zi rfl (fun h7 => ?_) (fun h8 => ?_)
         ·try simp at h7
          obtain ⟨z, hz⟩ : ∃ z, out[j]? = some z := ⟨_, List.getElem?_eq_getElem h7⟩
          have hdz := zX hz
          have hgz := g2 z (List.mem_of_getElem? hz)
          refine zfu (i := 1) rfl (fun h0 he => ?_) (fun ob off cap hv hcap => ?_)
          ·exfalso; have := congrArg List.length he; simp at this; subst this; simp at hz
          subst hv
          refine zl ?_
          refine ze ?_
          refine zf ?_
          refine zn ?_
          refine za ?_
          refine dq (zbL (j := j) zaC zm rfl rfl rfl (by simp; omega)) ?_
          refine de rfl (zg5 (i := 1) (j := j) (f := zR) (es := out) zm rfl rfl rfl hz rfl rfl rfl ?_)
          refine de rfl (z8 zm rfl fun b11 => ?_)
          refine de0 (zae zm rfl rfl rfl rfl rfl ?_)
          refine dn ?_
          refine zH (Ghost.fc0 11 rfl) ?_
          refine za ?_
          refine dq ((zb zm rfl ty9 (by decide) rfl)) ?_
          refine dq (zc ty9 rfl rfl rfl) ?_
          refine dmv rfl ?_
          refine dq (zaY rfl rfl) ?_
          refine dmv rfl ?_
          refine dg rfl rfl (fun hc => ⟨_, OpenTo.refl _, (zb zm rfl ty3 (by decide) rfl)⟩) ?_
          refine dg rfl rfl (fun hc => ⟨_, OpenTo.upd (t := 77) rfl (hc) (OpenTo.refl _), zc ty3 rfl rfl rfl⟩) ?_
          refine dg rfl rfl (fun hc => ⟨_, OpenTo.refl _, zg zm rfl ty3 (by decide) rfl⟩) ?_
          refine dgl rfl rfl (fun hc => ⟨_, OpenTo.upd (t := 79) rfl (hc) (OpenTo.refl _), zbr (i := 2) ty3 rfl rfl (.inl ⟨rfl, rfl⟩) ⟨rfl, rfl⟩⟩) ?_
          refine dg rfl rfl (fun hc => ⟨_, OpenTo.upd (t := 80) rfl (hc) (OpenTo.upd (t := 78) rfl (hc) (OpenTo.refl _)), zaJ rfl rfl⟩) ?_
          refine dq (zv rfl (.inr ⟨_, rfl, fun h => by simp_all⟩) (.inl rfl)) ?_
          refine dmv rfl ?_
          refine dg rfl rfl (fun hc => ⟨_, OpenTo.refl _, zd rfl⟩) ?_
          refine dgx (fun x M' => ∃ (y : Bool) (a3 : Nat), x = .bool y ∧ a3 ≤ a4 + 1 ∧ M' = [St b l a3, .arr (.slice (some ⟨ob, off, none⟩) (out.map zR).length cap) 9 (out.map zR), .cells b9 (zh (zR ⟨s3, n3, t3, w3, m3, p3, st3, c3, u3⟩))]) rfl rfl (fun hc => ⟨_, false, a4, rfl, by omega, rfl⟩) (fun hc => ⟨_, OpenTo.upd (t := 84) rfl (hc) (OpenTo.refl _), zo (i := 0) zif rfl (WeakL.refl _) rfl (zaF (a := a4) (by omega) (by omega)) (fun h M' hh => by
           obtain ⟨y, h1, h2⟩ := hh
           exact ⟨y, a4 + 1, h1, by omega, by rw [h2]; rfl⟩)⟩) ?_
          rintro _ _ ⟨y6, a36, rfl, ha36, rfl⟩
          refine dg rfl rfl (fun hc => ⟨_, OpenTo.upd (t := 85) rfl (hc) (OpenTo.refl _), zaa rfl⟩) ?_
          refine dq (zv rfl (.inr ⟨_, rfl, fun h => by simp_all⟩) (.inl rfl)) ?_
          refine dn ?_
          refine zi rfl (fun h9 => ?_) (fun h10 => ?_)
          ·try simp at h9
           refine zcQ (fun _ => True) [] mixed ?_
           refine ahp 0 rfl rfl (by kernel_rfl) (by kernel_rfl) ((zb zm rfl ty9 (by decide) rfl)) ?_
           refine ahp 1 rfl rfl (by kernel_rfl) (by kernel_rfl) (zc ty9 rfl rfl rfl) ?_
           refine ahp 2 rfl rfl (by kernel_rfl) (by kernel_rfl) ((zb zm rfl ty3 (by decide) rfl)) ?_
           refine ahp 3 rfl rfl (by kernel_rfl) (by kernel_rfl) (zc ty3 rfl rfl rfl) ?_
           refine ahp 4 rfl rfl (by kernel_rfl) (by kernel_rfl) ((zb zm rfl ty9 (by decide) rfl)) ?_
           refine ahp 5 rfl rfl (by kernel_rfl) (by kernel_rfl) (zc ty9 rfl rfl rfl) ?_
           refine ahp 6 rfl rfl (by kernel_rfl) (by kernel_rfl) ((zb zm rfl ty9 (by decide) rfl)) ?_
           refine ahp 7 rfl rfl (by kernel_rfl) (by kernel_rfl) (zc ty9 rfl rfl rfl) ?_
           refine ahp 8 rfl rfl (by kernel_rfl) (by kernel_rfl) (zg zm rfl ty9 (by decide) rfl) ?_
           refine ahe 9 rfl (by kernel_rfl) ?_
           refine zaL (z7 (i := 2) ty9 rfl rfl rfl rfl rfl (Nat.le_of_ble_eq_true rfl) ?_)
           refine ⟨fun _ => .inl trivial, ?_⟩
           refine ahp 10 rfl rfl (by kernel_rfl) (by kernel_rfl) (zg zm rfl ty3 (by decide) rfl) ?_
           refine ahe 11 rfl (by kernel_rfl) ?_
           refine zaL (z7 (i := 2) ty3 rfl rfl rfl rfl rfl (Nat.le_of_ble_eq_true rfl) ?_)
           refine ⟨fun _ => .inl trivial, ?_⟩
           refine ahp 12 rfl rfl (by kernel_rfl) (by kernel_rfl) (zg zm rfl ty9 (by decide) rfl) ?_
           refine ahe 13 rfl (by kernel_rfl) ?_
           refine zaL (z7 (i := 2) ty9 rfl rfl rfl rfl rfl (Nat.le_of_ble_eq_true rfl) ?_)
           refine ⟨fun _ => .inl trivial, ?_⟩
           refine ahp 14 rfl rfl (by kernel_rfl) (by kernel_rfl) (zg zm rfl ty9 (by decide) rfl) ?_
           refine ahe 15 rfl (by kernel_rfl) ?_
           refine zaL (z7 (i := 2) ty9 rfl rfl rfl rfl rfl (Nat.le_of_ble_eq_true rfl) ?_)
           refine ⟨fun _ => .inl trivial, ?_⟩
           refine ahz (by kernel_rfl) ?_
           refine zG ?_
           refine ze ?_
           refine zB ?_
           refine dq (zC rfl rfl (by omega) (by omega)) ?_
           refine dmv rfl ?_
           refine dn ?_
           exact ⟨j + 1, (⟨s3, n3, t3, z.Week, z.Match, z.Player, z.Stat, c3, u3⟩, a36), ⟨by omega, ⟨hs3.1, hgz.2.1, hgz.2.2.1, hgz.2.2.2⟩, by dsimp only; omega⟩, by dsimp only; omega, ⟨rfl, trivial⟩, (by repeat (first | exact zp | refine zt rfl ?_ | refine zq rfl rfl ?_)), by repeat (first | exact List.Perm.nil | refine zI 0 rfl ?_ | refine zI 1 rfl ?_ | refine zI 2 rfl ?_ | refine zI 3 rfl ?_ | (refine zD 0 rfl ?hq ?_; (case hq => simp [zO, zh]; done)) | (refine zD 1 rfl ?hq ?_; (case hq => simp [zO, zh]; done)) | (refine zD 2 rfl ?hq ?_; (case hq => simp [zO, zh]; done)) | (refine zD 3 rfl ?hq ?_; (case hq => simp [zO, zh]; done)) | fail)⟩
          ·try simp at h10
           refine zl ?_
           refine zG ?_
           refine ze ?_
           refine zB ?_
           refine dq (zC rfl rfl (by omega) (by omega)) ?_
           refine dmv rfl ?_
           refine dn ?_
           exact ⟨j + 1, (⟨s3, n3, t3, w3, m3, p3, st3, c3, u3⟩, a36), ⟨by omega, hs3, by dsimp only; omega⟩, by dsimp only; omega, ⟨rfl, trivial⟩, (by repeat (first | exact zp | refine zt rfl ?_ | refine zq rfl rfl ?_)), by repeat (first | exact List.Perm.nil | refine zI 0 rfl ?_ | refine zI 1 rfl ?_ | refine zI 2 rfl ?_ | refine zI 3 rfl ?_ | (refine zD 0 rfl ?hq ?_; (case hq => simp [zO, zh]; done)) | (refine zD 1 rfl ?hq ?_; (case hq => simp [zO, zh]; done)) | (refine zD 2 rfl ?hq ?_; (case hq => simp [zO, zh]; done)) | (refine zD 3 rfl ?hq ?_; (case hq => simp [zO, zh]; done)) | fail)⟩
         ·try simp at h8
          have hnj : out.length ≤ j := by omega
          obtain rfl : j = out.length := by omega
          refine zU ?_
          refine z6 ?_
          refine zaR ?_
          refine zJ ?_
          exact ⟨(⟨s3, n3, t3, w3, m3, p3, st3, c3, u3⟩, a4), ⟨hs3, by dsimp only; omega⟩, trivial, (by repeat (first | exact zp | refine zt rfl ?_ | refine zq rfl rfl ?_)), by repeat (first | exact List.Perm.nil | refine zI 0 rfl ?_ | refine zI 1 rfl ?_ | refine zI 2 rfl ?_ | refine zI 3 rfl ?_ | (refine zD 0 rfl ?hq ?_; (case hq => simp [zO, zh]; done)) | (refine zD 1 rfl ?hq ?_; (case hq => simp [zO, zh]; done)) | (refine zD 2 rfl ?hq ?_; (case hq => simp [zO, zh]; done)) | (refine zD 3 rfl ?hq ?_; (case hq => simp [zO, zh]; done)) | fail)⟩
       ·try simp at h6
        refine zl ?_
        exact ⟨(x9, a310), ⟨hq9, by dsimp only; omega⟩, trivial, (by repeat (first | exact zp | refine zt rfl ?_ | refine zq rfl rfl ?_)), by repeat (first | exact List.Perm.nil | refine zI 0 rfl ?_ | refine zI 1 rfl ?_ | refine zI 2 rfl ?_ | refine zI 3 rfl ?_ | (refine zD 0 rfl ?hq ?_; (case hq => simp [zO, zh]; done)) | (refine zD 1 rfl ?hq ?_; (case hq => simp [zO, zh]; done)) | (refine zD 2 rfl ?hq ?_; (case hq => simp [zO, zh]; done)) | (refine zD 3 rfl ?hq ?_; (case hq => simp [zO, zh]; done)) | fail)⟩
      ·intro q4 hq4
       obtain ⟨x5, a5⟩ := q4
       obtain ⟨hx5, ha5⟩ := hq4
       dsimp only at hx5 ha5
       refine zH (Ghost.fc 9 (i := 2) rfl rfl) ?_
       refine za ?_
       refine dmv rfl ?_
       refine dq (zN zm rfl rfl rfl rfl) ?_
       refine dq (zw (hs := [_]) zaC zm rfl rfl (by decide) (by decide) rfl) ?_
       refine de rfl (zan (i := 1) zaC zm rfl rfl rfl rfl rfl (by simp [za5, zh]) (by simp; omega) fun v104 => ?_)
       refine das rfl ?_
       refine dn ?_
       refine zB ?_
       refine dmv rfl ?_
       refine dmv rfl ?_
       refine dq (zw (hs := [_, _, _, _]) zaq ty3 rfl rfl (by decide) (by decide) rfl) ?_
       refine de rfl (zo (i := 0) zbn rfl (WeakL.refl _) rfl (zy (L := [_, _, _, _]) (by first | assumption | omega | (simp; omega) | simp_all) (by first | assumption | omega | (simp; omega) | simp_all) (by first | assumption | omega | (simp; omega) | simp_all)) ?_)
       rintro _ _ ⟨y108, rfl, hy108, rfl⟩
       refine dq (zC rfl rfl (by simp at hy108; omega) (by simp at hy108; omega)) ?_
       refine das rfl ?_
       refine dn ?_
       refine zG ?_
       refine ze ?_
       refine zB ?_
       refine dq (zC rfl rfl (by omega) (by omega)) ?_
       refine dmv rfl ?_
       refine dn ?_
       exact ⟨n + 1, no + y29, at1 + y108, ⟨v104, out ++ [x5], a5 + 1⟩, ⟨by omega, ⟨by simp at hy29; omega, by simp at hy29; omega⟩, ⟨by simp at hy108; omega, by simp at hy108; omega⟩, hq2.add (x := x5) hx5 (by omega)⟩, by dsimp only; omega, ⟨rfl, rfl, rfl, rfl, trivial⟩, (by repeat (first | exact zp | refine zt rfl ?_ | refine zq rfl rfl ?_)), by repeat (first | exact List.Perm.nil | refine zI 0 rfl ?_ | refine zI 1 rfl ?_ | refine zI 2 rfl ?_ | refine zI 3 rfl ?_ | (refine zD 0 rfl ?hq ?_; (case hq => simp [zO, zh]; done)) | (refine zD 1 rfl ?hq ?_; (case hq => simp [zO, zh]; done)) | (refine zD 2 rfl ?hq ?_; (case hq => simp [zO, zh]; done)) | (refine zD 3 rfl ?hq ?_; (case hq => simp [zO, zh]; done)) | fail)⟩
    ·try simp at h4
     refine zU ?_
     refine z6 ?_
     refine zpI ?_
     refine zJ ?_
     refine zG ?_
     refine ze ?_
     refine zB ?_
     refine dq (zC rfl rfl (by omega) (by omega)) ?_
     refine dmv rfl ?_
     refine dn ?_
     exact ⟨k + 1, ⟨u, out, a2⟩, ⟨by omega, ⟨by dsimp only; omega, g2, by dsimp only; omega⟩⟩, by dsimp only; omega, ⟨rfl, rfl, trivial⟩, (by repeat (first | exact zp | refine zt rfl ?_ | refine zq rfl rfl ?_)), by repeat (first | exact List.Perm.nil | refine zI 0 rfl ?_ | refine zI 1 rfl ?_ | refine zI 2 rfl ?_ | refine zI 3 rfl ?_ | (refine zD 0 rfl ?hq ?_; (case hq => simp [zO, zh]; done)) | (refine zD 1 rfl ?hq ?_; (case hq => simp [zO, zh]; done)) | (refine zD 2 rfl ?hq ?_; (case hq => simp [zO, zh]; done)) | (refine zD 3 rfl ?hq ?_; (case hq => simp [zO, zh]; done)) | fail)⟩
  ·try simp at h2
   have hnk : zeX.length ≤ k := by omega
   obtain rfl : k = zeX.length := by omega
   refine zU ?_
   refine z6 ?_
   refine zaR ?_
   refine zJ ?_
   refine ze ?_
   refine zeb (12 :: 112 :: 113 :: 114 :: 115 :: 116 :: 117 :: 118 :: 119 :: 120 :: 121 :: 122 :: 123 :: 124 :: 125 :: 126 :: 127 :: 128 :: 129 :: 130 :: 131 :: 132 :: 133 :: 134 :: 135 :: 136 :: 137 :: 138 :: 139 :: 140 :: 141 :: 142 :: 143 :: 144 :: 145 :: 146 :: 147 :: 148 :: 149 :: 150 :: 151 :: 152 :: 153 :: 154 :: 155 :: 156 :: 157 :: 158 :: 159 :: 160 :: 161 :: 162 :: 163 :: 164 :: 165 :: 166 :: 167 :: 168 :: 169 :: 170 :: 171 :: 172 :: 173 :: 174 :: 175 :: 176 :: 177 :: 178 :: 179 :: 180 :: 181 :: 182 :: 183 :: 184 :: 185 :: 186 :: 187 :: 188 :: 189 :: 190 :: 191 :: 192 :: 193 :: 194 :: 195 :: 196 :: 197 :: 198 :: 199 :: 200 :: 201 :: 202 :: 203 :: 204 :: 205 :: 206 :: 207 :: 208 :: 209 :: 210 :: 211 :: 212 :: 213 :: 214 :: 215 :: 216 :: 217 :: 218 :: 219 :: 220 :: 221 :: 222 :: []) (fun (q5 : List Play × Nat) => []) (fun (q5 : List Play × Nat) => [St b l q5.2, .arr u 9 (q5.1.map zR)]) (fun (q5 : List Play × Nat) => q5.1.length ≤ 15 ∧ (∀ x ∈ q5.1, zc3 x) ∧ q5.2 ≤ a + 500) ?_ ?_
   ·skip
    refine za ?_
    refine dmv rfl ?_
    refine de rfl (zbj (i := 1) zaC rfl rfl ?_)
    refine dq (zaf rfl rfl) ?_
    refine dmv rfl ?_
    refine dg rfl rfl (fun hc => ⟨_, OpenTo.refl _, zd rfl⟩) ?_
    refine dgx (fun x M' => ∃ (y : Bool) (a3 : Nat), x = .bool y ∧ a3 ≤ a1 + 1 ∧ M' = [St b l a3, .arr u 9 (out.map zR)]) rfl rfl (fun hc => ⟨_, false, a1, rfl, by omega, rfl⟩) (fun hc => ⟨_, OpenTo.upd (t := 116) rfl (hc) (OpenTo.refl _), zo (i := 0) zif rfl (WeakL.refl _) rfl (zaF (a := a1) (by omega) (by omega)) (fun h M' hh => by
     obtain ⟨y, h1, h2⟩ := hh
     exact ⟨y, a1 + 1, h1, by omega, by rw [h2]; rfl⟩)⟩) ?_
    rintro _ _ ⟨y, a3, rfl, ha3, rfl⟩
    refine dq (zv rfl (.inr ⟨_, rfl, fun h => by simp_all⟩) (.inl rfl)) ?_
    refine dn ?_
    refine zi rfl (fun h11 => ?_) (fun h12 => ?_)
    ·try simp at h11
     have ho0 : 0 < out.length := by simp_all
     refine zfu (i := 1) rfl (fun h0 he => ?_) (fun ob off cap hv hcap => ?_)
     ·exfalso; have := congrArg List.length he; simp at this; subst this; simp at ho0
     subst hv
     refine za ?_
     refine dmv rfl ?_
     refine dmv rfl ?_
     refine dmv rfl ?_
     refine de rfl (zbj (i := 1) zaC rfl rfl ?_)
     refine de rfl (zo (i := 0) zcV rfl (WeakL.refl _) rfl (zV (by first | assumption | omega | (simp; omega) | simp_all) (by first | assumption | omega | (simp; omega) | simp_all)) ?_)
     rintro _ _ ⟨y123, rfl, hy123, rfl⟩
     refine dq (zbL (j := y123) zaC zm rfl rfl rfl (by simp; omega)) ?_
     refine das rfl ?_
     refine dn ?_
     obtain ⟨x, hx⟩ : ∃ x, out[y123]? = some x := ⟨_, List.getElem?_eq_getElem (by omega)⟩
     refine za ?_
     refine dmv rfl ?_
     refine de rfl (zo (i := 0) zcV rfl (WeakL.refl _) rfl (zV (by first | assumption | omega | (simp; omega) | simp_all) (by first | assumption | omega | (simp; omega) | simp_all)) ?_)
     rintro _ _ ⟨y126, rfl, hy126, rfl⟩
     refine dn ?_
     refine zn ?_
     refine za ?_
     refine dq (zaJ rfl rfl) ?_
     refine das rfl ?_
     refine dn ?_
     refine zi rfl (fun h13 => ?_) (fun h14 => ?_)
     ·try simp at h13
      refine zcQ (fun M => ∃ i : Nat, M[i]? = some (.arr (.slice (some ⟨ob, off, none⟩) (out.map zR).length cap) 9 (out.map zR))) [6, 13] mixed ?_
      refine ahp 0 rfl rfl (by kernel_rfl) (by kernel_rfl) (zd rfl) ?_
      refine ahp 1 rfl rfl (by kernel_rfl) (by kernel_rfl) (zd rfl) ?_
      refine ahp 2 rfl rfl (by kernel_rfl) (by kernel_rfl) (zd rfl) ?_
      refine ahp 3 rfl rfl (by kernel_rfl) (by kernel_rfl) (zd rfl) ?_
      refine ahp 4 rfl rfl (by kernel_rfl) (by kernel_rfl) ((zM rfl)) ?_
      refine ahp 5 rfl rfl (by kernel_rfl) (by kernel_rfl) ((zg zm rfl ty9 (by decide) rfl)) ?_
      refine ahl 6 rfl rfl (by kernel_rfl) (by kernel_rfl) (by simp) ⟨1, rfl⟩ (fun M hM => by obtain ⟨i, hi⟩ := hM; exact zbf (i := i) (j := y123) 0 ty9 rfl (by omega) hi hx rfl rfl ⟨rfl, rfl⟩) ?_
      refine ahp 7 rfl rfl (by kernel_rfl) (by kernel_rfl) (zw (hs := [_, _, _]) zaj ty9 rfl rfl (by decide) (by decide) rfl) ?_
      refine ahp 9 rfl rfl (by kernel_rfl) (by kernel_rfl) (zd rfl) ?_
      refine ahp 10 rfl rfl (by kernel_rfl) (by kernel_rfl) (zd rfl) ?_
      refine ahp 11 rfl rfl (by kernel_rfl) (by kernel_rfl) ((zM rfl)) ?_
      refine ahp 12 rfl rfl (by kernel_rfl) (by kernel_rfl) ((zg zm rfl ty3 (by decide) rfl)) ?_
      refine ahl 13 rfl rfl (by kernel_rfl) (by kernel_rfl) (by simp) ⟨1, rfl⟩ (fun M hM => by obtain ⟨i, hi⟩ := hM; exact zbf (i := i) (j := y123) 1 ty3 rfl (by omega) hi hx rfl rfl ⟨rfl, rfl⟩) ?_
      refine ahp 14 rfl rfl (by kernel_rfl) (by kernel_rfl) (zw (hs := [_, _, _, _]) zaq ty3 rfl rfl (by decide) (by decide) rfl) ?_
      refine ahe 8 rfl (by kernel_rfl) ?_
      refine zau rfl (zo (i := 0) zee rfl (WeakL.refl _) rfl (zac (L := [_, _, _]) (by first | assumption | omega | (simp; omega) | simp_all) (by first | assumption | omega | (simp; omega) | simp_all) (by first | assumption | omega | (simp; omega) | simp_all)) ?_)
      rintro _ _ ⟨y167, rfl, hy167, rfl⟩
      refine ⟨fun _ => by first | exact .inl ⟨0, rfl⟩ | exact .inl ⟨1, rfl⟩ | exact .inl ⟨2, rfl⟩ | exact .inr (by simp [zaT, Region.binds]), ?_⟩
      refine ahe 15 rfl (by kernel_rfl) ?_
      refine zau rfl (zo (i := 0) zbn rfl (WeakL.refl _) rfl (zy (L := [_, _, _, _]) (by first | assumption | omega | (simp; omega) | simp_all) (by first | assumption | omega | (simp; omega) | simp_all) (by first | assumption | omega | (simp; omega) | simp_all)) ?_)
      rintro _ _ ⟨y174, rfl, hy174, rfl⟩
      refine ⟨fun _ => by first | exact .inl ⟨0, rfl⟩ | exact .inl ⟨1, rfl⟩ | exact .inl ⟨2, rfl⟩ | exact .inr (by simp [zaT, Region.binds]), ?_⟩
      refine ahp 16 rfl rfl (by kernel_rfl) (by kernel_rfl) ((zM rfl)) ?_
      refine ahp 17 rfl rfl (by kernel_rfl) (by kernel_rfl) ((zg zm rfl ty9 (by decide) rfl)) ?_
      refine ahe 18 rfl (by kernel_rfl) ?_
      refine zaL (zaU (i := 1) (j := y123) (f := 0) (y := zR x) (y' := zR ⟨y167, x.No, x.At, x.Week, x.Match, x.Player, x.Stat, x.Count, x.Undo⟩) ty9 rfl (by omega) rfl rfl (zcq hx) rfl rfl (by simp [zh]) rfl ?_)
      refine ⟨fun _ => .inr (by simp [zaT, Region.binds]), ?_⟩
      refine ahp 19 rfl rfl (by kernel_rfl) (by kernel_rfl) ((zM rfl)) ?_
      refine ahp 20 rfl rfl (by kernel_rfl) (by kernel_rfl) ((zg zm rfl ty3 (by decide) rfl)) ?_
      refine ahe 21 rfl (by kernel_rfl) ?_
      refine zaL (zaU (i := 1) (j := y123) (f := 1) (y := zR ⟨y167, x.No, x.At, x.Week, x.Match, x.Player, x.Stat, x.Count, x.Undo⟩) (y' := zR ⟨y167, y174, x.At, x.Week, x.Match, x.Player, x.Stat, x.Count, x.Undo⟩) ty3 rfl (by omega) rfl rfl (zbS (zcq hx)) rfl rfl (by simp [zh]) rfl ?_)
      refine ⟨fun _ => .inr (by simp [zaT, Region.binds]), ?_⟩
      refine ahz (by kernel_rfl) ?_
      refine zG ?_
      exact ⟨(out.set y123 ⟨y167, y174, x.At, x.Week, x.Match, x.Player, x.Stat, x.Count, x.Undo⟩, a3 + 4), ⟨by simp; omega, zf4 (P := zc3) g2 (by
       have hgx := g2 x (List.mem_of_getElem? hx)
       exact ⟨by simp at hy167; rcases hy167 with rfl | rfl | rfl; exact hgx.1; exact zm9; (unfold Sh; simp), hgx.2.1, hgx.2.2.1, hgx.2.2.2⟩), by dsimp only; omega⟩, trivial, (by repeat (first | exact zp | refine zt rfl ?_ | refine zq rfl rfl ?_)), by repeat (first | exact List.Perm.nil | refine zI 0 rfl ?_ | refine zI 1 rfl ?_ | refine zI 2 rfl ?_ | refine zI 3 rfl ?_ | (refine zD 0 rfl ?hq ?_; (case hq => simp [zO, zh]; done)) | (refine zD 1 rfl ?hq ?_; (case hq => simp [zO, zh]; done)) | (refine zD 2 rfl ?hq ?_; (case hq => simp [zO, zh]; done)) | (refine zD 3 rfl ?hq ?_; (case hq => simp [zO, zh]; done)) | fail)⟩
     ·try simp at h14
      refine za ?_
      refine dq (zaJ rfl rfl) ?_
      refine das rfl ?_
      refine dn ?_
      refine zi rfl (fun h15 => ?_) (fun h16 => ?_)
      ·try simp at h15
       refine zcQ (fun M => ∃ i : Nat, M[i]? = some (.arr (.slice (some ⟨ob, off, none⟩) (out.map zR).length cap) 9 (out.map zR))) [6, 13] mixed ?_
       refine ahp 0 rfl rfl (by kernel_rfl) (by kernel_rfl) (zd rfl) ?_
       refine ahp 1 rfl rfl (by kernel_rfl) (by kernel_rfl) (zd rfl) ?_
       refine ahp 2 rfl rfl (by kernel_rfl) (by kernel_rfl) (zd rfl) ?_
       refine ahp 3 rfl rfl (by kernel_rfl) (by kernel_rfl) (zd rfl) ?_
       refine ahp 4 rfl rfl (by kernel_rfl) (by kernel_rfl) ((zM rfl)) ?_
       refine ahp 5 rfl rfl (by kernel_rfl) (by kernel_rfl) ((zg zm rfl ty3 (by decide) rfl)) ?_
       refine ahl 6 rfl rfl (by kernel_rfl) (by kernel_rfl) (by simp) ⟨1, rfl⟩ (fun M hM => by obtain ⟨i, hi⟩ := hM; exact zbf (i := i) (j := y123) 3 ty3 rfl (by omega) hi hx rfl rfl ⟨rfl, rfl⟩) ?_
       refine ahp 7 rfl rfl (by kernel_rfl) (by kernel_rfl) (zw (hs := [_, _, _]) zaq ty3 rfl rfl (by decide) (by decide) rfl) ?_
       refine ahp 9 rfl rfl (by kernel_rfl) (by kernel_rfl) (zd rfl) ?_
       refine ahp 10 rfl rfl (by kernel_rfl) (by kernel_rfl) (zd rfl) ?_
       refine ahp 11 rfl rfl (by kernel_rfl) (by kernel_rfl) ((zM rfl)) ?_
       refine ahp 12 rfl rfl (by kernel_rfl) (by kernel_rfl) ((zg zm rfl ty9 (by decide) rfl)) ?_
       refine ahl 13 rfl rfl (by kernel_rfl) (by kernel_rfl) (by simp) ⟨1, rfl⟩ (fun M hM => by obtain ⟨i, hi⟩ := hM; exact zbf (i := i) (j := y123) 4 ty9 rfl (by omega) hi hx rfl rfl ⟨rfl, rfl⟩) ?_
       refine ahp 14 rfl rfl (by kernel_rfl) (by kernel_rfl) (zw (hs := [_, _]) zaj ty9 rfl rfl (by decide) (by decide) rfl) ?_
       refine ahe 8 rfl (by kernel_rfl) ?_
       refine zau rfl (zo (i := 0) zbn rfl (WeakL.refl _) rfl (zy (L := [_, _, _]) (by first | assumption | omega | (simp; omega) | simp_all) (by first | assumption | omega | (simp; omega) | simp_all) (by first | assumption | omega | (simp; omega) | simp_all)) ?_)
       rintro _ _ ⟨y189, rfl, hy189, rfl⟩
       refine ⟨fun _ => by first | exact .inl ⟨0, rfl⟩ | exact .inl ⟨1, rfl⟩ | exact .inl ⟨2, rfl⟩ | exact .inr (by simp [zaT, Region.binds]), ?_⟩
       refine ahe 15 rfl (by kernel_rfl) ?_
       refine zau rfl (zo (i := 0) zee rfl (WeakL.refl _) rfl (zac (L := [_, _]) (by first | assumption | omega | (simp; omega) | simp_all) (by first | assumption | omega | (simp; omega) | simp_all) (by first | assumption | omega | (simp; omega) | simp_all)) ?_)
       rintro _ _ ⟨y196, rfl, hy196, rfl⟩
       refine ⟨fun _ => by first | exact .inl ⟨0, rfl⟩ | exact .inl ⟨1, rfl⟩ | exact .inl ⟨2, rfl⟩ | exact .inr (by simp [zaT, Region.binds]), ?_⟩
       refine ahp 16 rfl rfl (by kernel_rfl) (by kernel_rfl) ((zM rfl)) ?_
       refine ahp 17 rfl rfl (by kernel_rfl) (by kernel_rfl) ((zg zm rfl ty3 (by decide) rfl)) ?_
       refine ahe 18 rfl (by kernel_rfl) ?_
       refine zaL (zaU (i := 1) (j := y123) (f := 3) (y := zR x) (y' := zR ⟨x.Source, x.No, x.At, y189, x.Match, x.Player, x.Stat, x.Count, x.Undo⟩) ty3 rfl (by omega) rfl rfl (zcq hx) rfl rfl (by simp [zh]) rfl ?_)
       refine ⟨fun _ => .inr (by simp [zaT, Region.binds]), ?_⟩
       refine ahp 19 rfl rfl (by kernel_rfl) (by kernel_rfl) ((zM rfl)) ?_
       refine ahp 20 rfl rfl (by kernel_rfl) (by kernel_rfl) ((zg zm rfl ty9 (by decide) rfl)) ?_
       refine ahe 21 rfl (by kernel_rfl) ?_
       refine zaL (zaU (i := 1) (j := y123) (f := 4) (y := zR ⟨x.Source, x.No, x.At, y189, x.Match, x.Player, x.Stat, x.Count, x.Undo⟩) (y' := zR ⟨x.Source, x.No, x.At, y189, y196, x.Player, x.Stat, x.Count, x.Undo⟩) ty9 rfl (by omega) rfl rfl (zbS (zcq hx)) rfl rfl (by simp [zh]) rfl ?_)
       refine ⟨fun _ => .inr (by simp [zaT, Region.binds]), ?_⟩
       refine ahz (by kernel_rfl) ?_
       refine zG ?_
       exact ⟨(out.set y123 ⟨x.Source, x.No, x.At, y189, y196, x.Player, x.Stat, x.Count, x.Undo⟩, a3 + 4), ⟨by simp; omega, zf4 (P := zc3) g2 (by
        have hgx := g2 x (List.mem_of_getElem? hx)
        exact ⟨hgx.1, by simp at hy196; rcases hy196 with rfl | rfl; exact hgx.2.1; exact zm9, hgx.2.2.1, hgx.2.2.2⟩), by dsimp only; omega⟩, trivial, (by repeat (first | exact zp | refine zt rfl ?_ | refine zq rfl rfl ?_)), by repeat (first | exact List.Perm.nil | refine zI 0 rfl ?_ | refine zI 1 rfl ?_ | refine zI 2 rfl ?_ | refine zI 3 rfl ?_ | (refine zD 0 rfl ?hq ?_; (case hq => simp [zO, zh]; done)) | (refine zD 1 rfl ?hq ?_; (case hq => simp [zO, zh]; done)) | (refine zD 2 rfl ?hq ?_; (case hq => simp [zO, zh]; done)) | (refine zD 3 rfl ?hq ?_; (case hq => simp [zO, zh]; done)) | fail)⟩
      ·try simp at h16
       refine za ?_
       refine dq (zaJ rfl rfl) ?_
       refine das rfl ?_
       refine dn ?_
       refine zi rfl (fun h17 => ?_) (fun h18 => ?_)
       ·try simp at h17
        refine zcQ (fun M => ∃ i : Nat, M[i]? = some (.arr (.slice (some ⟨ob, off, none⟩) (out.map zR).length cap) 9 (out.map zR))) [6, 13] mixed ?_
        refine ahp 0 rfl rfl (by kernel_rfl) (by kernel_rfl) (zd rfl) ?_
        refine ahp 1 rfl rfl (by kernel_rfl) (by kernel_rfl) (zd rfl) ?_
        refine ahp 2 rfl rfl (by kernel_rfl) (by kernel_rfl) (zd rfl) ?_
        refine ahp 3 rfl rfl (by kernel_rfl) (by kernel_rfl) (zd rfl) ?_
        refine ahp 4 rfl rfl (by kernel_rfl) (by kernel_rfl) ((zM rfl)) ?_
        refine ahp 5 rfl rfl (by kernel_rfl) (by kernel_rfl) ((zg zm rfl ty3 (by decide) rfl)) ?_
        refine ahl 6 rfl rfl (by kernel_rfl) (by kernel_rfl) (by simp) ⟨1, rfl⟩ (fun M hM => by obtain ⟨i, hi⟩ := hM; exact zbf (i := i) (j := y123) 7 ty3 rfl (by omega) hi hx rfl rfl ⟨rfl, rfl⟩) ?_
        refine ahp 7 rfl rfl (by kernel_rfl) (by kernel_rfl) (zw (hs := [_, _, _]) zaq ty3 rfl rfl (by decide) (by decide) rfl) ?_
        refine ahp 9 rfl rfl (by kernel_rfl) (by kernel_rfl) (zd rfl) ?_
        refine ahp 10 rfl rfl (by kernel_rfl) (by kernel_rfl) (zd rfl) ?_
        refine ahp 11 rfl rfl (by kernel_rfl) (by kernel_rfl) ((zM rfl)) ?_
        refine ahp 12 rfl rfl (by kernel_rfl) (by kernel_rfl) ((zg zm rfl ty3 (by decide) rfl)) ?_
        refine ahl 13 rfl rfl (by kernel_rfl) (by kernel_rfl) (by simp) ⟨1, rfl⟩ (fun M hM => by obtain ⟨i, hi⟩ := hM; exact zbf (i := i) (j := y123) 8 ty3 rfl (by omega) hi hx rfl rfl ⟨rfl, rfl⟩) ?_
        refine ahp 14 rfl rfl (by kernel_rfl) (by kernel_rfl) (zw (hs := [_, _, _]) zaq ty3 rfl rfl (by decide) (by decide) rfl) ?_
        refine ahe 8 rfl (by kernel_rfl) ?_
        refine zau rfl (zo (i := 0) zbn rfl (WeakL.refl _) rfl (zy (L := [_, _, _]) (by first | assumption | omega | (simp; omega) | simp_all) (by first | assumption | omega | (simp; omega) | simp_all) (by first | assumption | omega | (simp; omega) | simp_all)) ?_)
        rintro _ _ ⟨y211, rfl, hy211, rfl⟩
        refine ⟨fun _ => by first | exact .inl ⟨0, rfl⟩ | exact .inl ⟨1, rfl⟩ | exact .inl ⟨2, rfl⟩ | exact .inr (by simp [zaT, Region.binds]), ?_⟩
        refine ahe 15 rfl (by kernel_rfl) ?_
        refine zau rfl (zo (i := 0) zbn rfl (WeakL.refl _) rfl (zy (L := [_, _, _]) (by first | assumption | omega | (simp; omega) | simp_all) (by first | assumption | omega | (simp; omega) | simp_all) (by first | assumption | omega | (simp; omega) | simp_all)) ?_)
        rintro _ _ ⟨y218, rfl, hy218, rfl⟩
        refine ⟨fun _ => by first | exact .inl ⟨0, rfl⟩ | exact .inl ⟨1, rfl⟩ | exact .inl ⟨2, rfl⟩ | exact .inr (by simp [zaT, Region.binds]), ?_⟩
        refine ahp 16 rfl rfl (by kernel_rfl) (by kernel_rfl) ((zM rfl)) ?_
        refine ahp 17 rfl rfl (by kernel_rfl) (by kernel_rfl) ((zg zm rfl ty3 (by decide) rfl)) ?_
        refine ahe 18 rfl (by kernel_rfl) ?_
        refine zaL (zaU (i := 1) (j := y123) (f := 7) (y := zR x) (y' := zR ⟨x.Source, x.No, x.At, x.Week, x.Match, x.Player, x.Stat, y211, x.Undo⟩) ty3 rfl (by omega) rfl rfl (zcq hx) rfl rfl (by simp [zh]) rfl ?_)
        refine ⟨fun _ => .inr (by simp [zaT, Region.binds]), ?_⟩
        refine ahp 19 rfl rfl (by kernel_rfl) (by kernel_rfl) ((zM rfl)) ?_
        refine ahp 20 rfl rfl (by kernel_rfl) (by kernel_rfl) ((zg zm rfl ty3 (by decide) rfl)) ?_
        refine ahe 21 rfl (by kernel_rfl) ?_
        refine zaL (zaU (i := 1) (j := y123) (f := 8) (y := zR ⟨x.Source, x.No, x.At, x.Week, x.Match, x.Player, x.Stat, y211, x.Undo⟩) (y' := zR ⟨x.Source, x.No, x.At, x.Week, x.Match, x.Player, x.Stat, y211, y218⟩) ty3 rfl (by omega) rfl rfl (zbS (zcq hx)) rfl rfl (by simp [zh]) rfl ?_)
        refine ⟨fun _ => .inr (by simp [zaT, Region.binds]), ?_⟩
        refine ahz (by kernel_rfl) ?_
        refine zG ?_
        exact ⟨(out.set y123 ⟨x.Source, x.No, x.At, x.Week, x.Match, x.Player, x.Stat, y211, y218⟩, a3 + 4), ⟨by simp; omega, zf4 (P := zc3) g2 (by
         have hgx := g2 x (List.mem_of_getElem? hx)
         exact ⟨hgx.1, hgx.2.1, hgx.2.2.1, hgx.2.2.2⟩), by dsimp only; omega⟩, trivial, (by repeat (first | exact zp | refine zt rfl ?_ | refine zq rfl rfl ?_)), by repeat (first | exact List.Perm.nil | refine zI 0 rfl ?_ | refine zI 1 rfl ?_ | refine zI 2 rfl ?_ | refine zI 3 rfl ?_ | (refine zD 0 rfl ?hq ?_; (case hq => simp [zO, zh]; done)) | (refine zD 1 rfl ?hq ?_; (case hq => simp [zO, zh]; done)) | (refine zD 2 rfl ?hq ?_; (case hq => simp [zO, zh]; done)) | (refine zD 3 rfl ?hq ?_; (case hq => simp [zO, zh]; done)) | fail)⟩
       ·try simp at h18
        refine zcQ (fun M => ∃ i : Nat, M[i]? = some (.arr (.slice (some ⟨ob, off, none⟩) (out.map zR).length cap) 9 (out.map zR))) [7, 14, 21] mixed ?_
        refine ahp 0 rfl rfl (by kernel_rfl) (by kernel_rfl) (zd rfl) ?_
        refine ahp 1 rfl rfl (by kernel_rfl) (by kernel_rfl) (zd rfl) ?_
        refine ahp 2 rfl rfl (by kernel_rfl) (by kernel_rfl) (zd rfl) ?_
        refine ahp 3 rfl rfl (by kernel_rfl) (by kernel_rfl) (zd rfl) ?_
        refine ahp 4 rfl rfl (by kernel_rfl) (by kernel_rfl) (zd rfl) ?_
        refine ahp 5 rfl rfl (by kernel_rfl) (by kernel_rfl) ((zM rfl)) ?_
        refine ahp 6 rfl rfl (by kernel_rfl) (by kernel_rfl) ((zg zm rfl ty9 (by decide) rfl)) ?_
        refine ahl 7 rfl rfl (by kernel_rfl) (by kernel_rfl) (by simp) ⟨1, rfl⟩ (fun M hM => by obtain ⟨i, hi⟩ := hM; exact zbf (i := i) (j := y123) 5 ty9 rfl (by omega) hi hx rfl rfl ⟨rfl, rfl⟩) ?_
        refine ahp 8 rfl rfl (by kernel_rfl) (by kernel_rfl) (zw (hs := [_, _]) zaj ty9 rfl rfl (by decide) (by decide) rfl) ?_
        refine ahp 10 rfl rfl (by kernel_rfl) (by kernel_rfl) (zd rfl) ?_
        refine ahp 11 rfl rfl (by kernel_rfl) (by kernel_rfl) (zd rfl) ?_
        refine ahp 12 rfl rfl (by kernel_rfl) (by kernel_rfl) ((zM rfl)) ?_
        refine ahp 13 rfl rfl (by kernel_rfl) (by kernel_rfl) ((zg zm rfl ty9 (by decide) rfl)) ?_
        refine ahl 14 rfl rfl (by kernel_rfl) (by kernel_rfl) (by simp) ⟨1, rfl⟩ (fun M hM => by obtain ⟨i, hi⟩ := hM; exact zbf (i := i) (j := y123) 6 ty9 rfl (by omega) hi hx rfl rfl ⟨rfl, rfl⟩) ?_
        refine ahp 15 rfl rfl (by kernel_rfl) (by kernel_rfl) (zw (hs := [_, _]) zaj ty9 rfl rfl (by decide) (by decide) rfl) ?_
        refine ahp 17 rfl rfl (by kernel_rfl) (by kernel_rfl) (zd rfl) ?_
        refine ahp 18 rfl rfl (by kernel_rfl) (by kernel_rfl) (zd rfl) ?_
        refine ahp 19 rfl rfl (by kernel_rfl) (by kernel_rfl) ((zM rfl)) ?_
        refine ahp 20 rfl rfl (by kernel_rfl) (by kernel_rfl) ((zg zm rfl ty3 (by decide) rfl)) ?_
        refine ahl 21 rfl rfl (by kernel_rfl) (by kernel_rfl) (by simp) ⟨1, rfl⟩ (fun M hM => by obtain ⟨i, hi⟩ := hM; exact zbf (i := i) (j := y123) 2 ty3 rfl (by omega) hi hx rfl rfl ⟨rfl, rfl⟩) ?_
        refine ahp 22 rfl rfl (by kernel_rfl) (by kernel_rfl) (zw (hs := [_, _]) zaq ty3 rfl rfl (by decide) (by decide) rfl) ?_
        refine ahe 9 rfl (by kernel_rfl) ?_
        refine zau rfl (zo (i := 0) zee rfl (WeakL.refl _) rfl (zac (L := [_, _]) (by first | assumption | omega | (simp; omega) | simp_all) (by first | assumption | omega | (simp; omega) | simp_all) (by first | assumption | omega | (simp; omega) | simp_all)) ?_)
        rintro _ _ ⟨y136, rfl, hy136, rfl⟩
        refine ⟨fun _ => by first | exact .inl ⟨0, rfl⟩ | exact .inl ⟨1, rfl⟩ | exact .inl ⟨2, rfl⟩ | exact .inr (by simp [zaT, Region.binds]), ?_⟩
        refine ahe 16 rfl (by kernel_rfl) ?_
        refine zau rfl (zo (i := 0) zee rfl (WeakL.refl _) rfl (zac (L := [_, _]) (by first | assumption | omega | (simp; omega) | simp_all) (by first | assumption | omega | (simp; omega) | simp_all) (by first | assumption | omega | (simp; omega) | simp_all)) ?_)
        rintro _ _ ⟨y143, rfl, hy143, rfl⟩
        refine ⟨fun _ => by first | exact .inl ⟨0, rfl⟩ | exact .inl ⟨1, rfl⟩ | exact .inl ⟨2, rfl⟩ | exact .inr (by simp [zaT, Region.binds]), ?_⟩
        refine ahe 23 rfl (by kernel_rfl) ?_
        refine zau rfl (zo (i := 0) zbn rfl (WeakL.refl _) rfl (zy (L := [_, _]) (by first | assumption | omega | (simp; omega) | simp_all) (by first | assumption | omega | (simp; omega) | simp_all) (by first | assumption | omega | (simp; omega) | simp_all)) ?_)
        rintro _ _ ⟨y150, rfl, hy150, rfl⟩
        refine ⟨fun _ => by first | exact .inl ⟨0, rfl⟩ | exact .inl ⟨1, rfl⟩ | exact .inl ⟨2, rfl⟩ | exact .inr (by simp [zaT, Region.binds]), ?_⟩
        refine ahp 24 rfl rfl (by kernel_rfl) (by kernel_rfl) ((zM rfl)) ?_
        refine ahp 25 rfl rfl (by kernel_rfl) (by kernel_rfl) ((zg zm rfl ty9 (by decide) rfl)) ?_
        refine ahe 26 rfl (by kernel_rfl) ?_
        refine zaL (zaU (i := 1) (j := y123) (f := 5) (y := zR x) (y' := zR ⟨x.Source, x.No, x.At, x.Week, x.Match, y136, x.Stat, x.Count, x.Undo⟩) ty9 rfl (by omega) rfl rfl (zcq hx) rfl rfl (by simp [zh]) rfl ?_)
        refine ⟨fun _ => .inr (by simp [zaT, Region.binds]), ?_⟩
        refine ahp 27 rfl rfl (by kernel_rfl) (by kernel_rfl) ((zM rfl)) ?_
        refine ahp 28 rfl rfl (by kernel_rfl) (by kernel_rfl) ((zg zm rfl ty9 (by decide) rfl)) ?_
        refine ahe 29 rfl (by kernel_rfl) ?_
        refine zaL (zaU (i := 1) (j := y123) (f := 6) (y := zR ⟨x.Source, x.No, x.At, x.Week, x.Match, y136, x.Stat, x.Count, x.Undo⟩) (y' := zR ⟨x.Source, x.No, x.At, x.Week, x.Match, y136, y143, x.Count, x.Undo⟩) ty9 rfl (by omega) rfl rfl (zbS (zcq hx)) rfl rfl (by simp [zh]) rfl ?_)
        refine ⟨fun _ => .inr (by simp [zaT, Region.binds]), ?_⟩
        refine ahp 30 rfl rfl (by kernel_rfl) (by kernel_rfl) ((zM rfl)) ?_
        refine ahp 31 rfl rfl (by kernel_rfl) (by kernel_rfl) ((zg zm rfl ty3 (by decide) rfl)) ?_
        refine ahe 32 rfl (by kernel_rfl) ?_
        refine zaL (zaU (i := 1) (j := y123) (f := 2) (y := zR ⟨x.Source, x.No, x.At, x.Week, x.Match, y136, y143, x.Count, x.Undo⟩) (y' := zR ⟨x.Source, x.No, y150, x.Week, x.Match, y136, y143, x.Count, x.Undo⟩) ty3 rfl (by omega) rfl rfl (zbS (zbS (zcq hx))) rfl rfl (by simp [zh]) rfl ?_)
        refine ⟨fun _ => .inr (by simp [zaT, Region.binds]), ?_⟩
        refine ahz (by kernel_rfl) ?_
        refine zG ?_
        exact ⟨(out.set y123 ⟨x.Source, x.No, y150, x.Week, x.Match, y136, y143, x.Count, x.Undo⟩, a3 + 5), ⟨by simp; omega, zf4 (P := zc3) g2 (by
         have hgx := g2 x (List.mem_of_getElem? hx)
         exact ⟨hgx.1, hgx.2.1, by simp at hy136; rcases hy136 with rfl | rfl; exact hgx.2.2.1; (unfold Sh; simp), by simp at hy143; rcases hy143 with rfl | rfl; exact hgx.2.2.2; exact zm9⟩), by dsimp only; omega⟩, trivial, (by repeat (first | exact zp | refine zt rfl ?_ | refine zq rfl rfl ?_)), by repeat (first | exact List.Perm.nil | refine zI 0 rfl ?_ | refine zI 1 rfl ?_ | refine zI 2 rfl ?_ | refine zI 3 rfl ?_ | (refine zD 0 rfl ?hq ?_; (case hq => simp [zO, zh]; done)) | (refine zD 1 rfl ?hq ?_; (case hq => simp [zO, zh]; done)) | (refine zD 2 rfl ?hq ?_; (case hq => simp [zO, zh]; done)) | (refine zD 3 rfl ?hq ?_; (case hq => simp [zO, zh]; done)) | fail)⟩
    ·try simp at h12
     refine zl ?_
     exact ⟨(out, a3), ⟨by dsimp only; omega, g2, by dsimp only; omega⟩, trivial, (by repeat (first | exact zp | refine zt rfl ?_ | refine zq rfl rfl ?_)), by repeat (first | exact List.Perm.nil | refine zI 0 rfl ?_ | refine zI 1 rfl ?_ | refine zI 2 rfl ?_ | refine zI 3 rfl ?_ | (refine zD 0 rfl ?hq ?_; (case hq => simp [zO, zh]; done)) | (refine zD 1 rfl ?hq ?_; (case hq => simp [zO, zh]; done)) | (refine zD 2 rfl ?hq ?_; (case hq => simp [zO, zh]; done)) | (refine zD 3 rfl ?hq ?_; (case hq => simp [zO, zh]; done)) | fail)⟩
   ·intro q5 hq5
    obtain ⟨k1, a4⟩ := q5
    dsimp only at hq5
    obtain ⟨q1, q2, q3⟩ := hq5
    refine za ?_
    refine dmv rfl ?_
    refine das rfl ?_
    refine dn ?_
    refine zk ?_
    exact zat (Ghost.fa 2 (i := 1) rfl rfl) rfl ⟨k1, a4, rfl, ⟨by omega, q2⟩, by omega, rfl⟩

/-- (*benchwarmer/benchmake.Stream).RightTold -/
theorem zbN [Tracks] {b : Nat} {l : List Int} {a : Nat}  (ha : a ≤ 690000) : Con Tryz.prog 5 [pAt b] [St b l a] (fun x M' => ∃ k a', x = zbD k ∧ (GoodPl k ∧ zz k = 0) ∧ a' ≤ a + 4000 ∧ M' = [St b l a']) := by
 refine Con.of_body Tryz.func5 rfl Tryz.ntmps5 rfl rfl ?_
 refine za ?_
 refine das rfl ?_
 refine dn ?_
 refine zf ?_
 refine za ?_
 refine dmv rfl ?_
 refine dn ?_
 refine zn ?_
 refine zaI [2, 3, 4, 5, 6, 7, 8, 9, 10, 11, 12] (fun (i : Nat) (a2 : Nat) => [(4, .int .i64 (i : Int))]) (fun (i : Nat) (a2 : Nat) => [St b l a2]) (fun (i : Nat) (a2 : Nat) => i ≤ 8 ∧ a2 ≤ a + 500 * i) (fun (i : Nat) (a2 : Nat) => 8 - i) (0) (a) ?_ ?_ ?_ ?_
 ·exact ⟨by omega, by omega⟩
 ·exact ⟨rfl, trivial⟩
 ·exact List.Perm.refl _
 ·intro i a2 hinv
  obtain ⟨hi, ha2⟩ := hinv
  refine za ?_
  refine dq (zW rfl rfl) ?_
  refine dn ?_
  refine zf ?_
  refine zi rfl (fun h1 => ?_) (fun h2 => ?_)
  ·try simp at h1
   refine zl ?_
   refine ze ?_
   refine zf ?_
   refine zn ?_
   refine za ?_
   refine dmv rfl ?_
   refine de rfl (zo (i := 0) zpn rfl (WeakL.refl _) rfl (zbO (by first | assumption | omega | (simp; omega) | simp_all)) ?_)
   rintro _ _ ⟨p7, a7, rfl, hp7, ha7, rfl⟩
   refine das rfl ?_
   refine dn ?_
   refine za ?_
   refine dmv rfl ?_
   refine dq (zj zuq rfl (WeakL.refl _) (zh5 (Nat.le_trans hp7.len (by omega)) hp7.all)) ?_
   refine dq (zaJ rfl rfl) ?_
   refine dn ?_
   refine zi rfl (fun h3 => ?_) (fun h4 => ?_)
   ·try simp at h3
    refine za ?_
    refine dmv rfl ?_
    refine das rfl ?_
    refine dn ?_
    refine zk ?_
    exact zaO rfl ⟨p7, a7, rfl, ⟨hp7, by simpa using h3⟩, by omega, rfl⟩
   ·try simp at h4
    refine zl ?_
    refine zG ?_
    refine ze ?_
    refine zB ?_
    refine dq (zC rfl rfl (by omega) (by omega)) ?_
    refine dmv rfl ?_
    refine dn ?_
    exact ⟨i + 1, a7, ⟨by omega, by omega⟩, by dsimp only; omega, ⟨rfl, trivial⟩, (by repeat (first | exact zp | refine zt rfl ?_ | refine zq rfl rfl ?_)), List.Perm.refl _⟩
  ·try simp at h2
   refine zU ?_
   refine z6 ?_
   refine zaR ?_
   refine zJ ?_
   refine ze ?_
   refine za ?_
   refine das rfl ?_
   refine dn ?_
   refine zk ?_
   exact ⟨_, _, Ghost.sub (Sub.refl _), _, .slice 9 [], rfl, zal 9, [], a2, rfl, ⟨⟨by simp, by simp⟩, rfl⟩, by omega, rfl⟩

end
section
open Go.HL
/-- (*benchwarmer/benchmake.Stream).ToldString -/
theorem zbF [Tracks] {b : Nat} {l : List Int} {a : Nat}  (hT : Tracks.on = false) (ha : a ≤ 600000) : Con Tryz.prog 9 [pAt b] [St b l a] (fun x M' => ∃ (t : Str) (a' : Nat), x = .str t ∧ t.length ≤ 200000 ∧ a' ≤ a + 4100 ∧ M' = [St b l a']) := by
 refine Con.of_body Tryz.func9 rfl Tryz.ntmps9 rfl rfl ?_
 refine za ?_
 refine das rfl ?_
 refine dn ?_
 refine za ?_
 refine dmv rfl ?_
 first
 | refine de rfl (zo (i := 0) ca5 rfl (WeakL.refl _) rfl (zbN (by first | assumption | omega | (simp; omega) | simp_all)) ?_)
 | refine de rfl (zo (i := 1) ca5 rfl (WeakL.refl _) rfl (zbN (by first | assumption | omega | (simp; omega) | simp_all)) ?_)
 | refine de rfl (zo (i := 2) ca5 rfl (WeakL.refl _) rfl (zbN (by first | assumption | omega | (simp; omega) | simp_all)) ?_)
 | refine de rfl (zo (i := 3) ca5 rfl (WeakL.refl _) rfl (zbN (by first | assumption | omega | (simp; omega) | simp_all)) ?_)
 rintro _ _ ⟨p5, a5, rfl, hp5, ha5, rfl⟩
 refine dq (zj ca26 rfl (WeakL.refl _) (zfk (l := p5) hT hp5.2)) ?_
 refine das rfl ?_
 refine dn ?_
 refine zf ?_
 refine za ?_
 refine dmv rfl ?_
 refine dq (zw (hs := [_, _, _, _]) zaq ty3 rfl rfl (by decide) (by decide) rfl) ?_
 first
 | refine de rfl (zo (i := 0) zbn rfl (WeakL.refl _) rfl (zy (L := [_, _, _, _]) (by first | assumption | omega | (simp; omega) | simp_all) (by first | assumption | omega | (simp; omega) | simp_all) (by first | assumption | omega | (simp; omega) | simp_all)) ?_)
 | refine de rfl (zo (i := 1) zbn rfl (WeakL.refl _) rfl (zy (L := [_, _, _, _]) (by first | assumption | omega | (simp; omega) | simp_all) (by first | assumption | omega | (simp; omega) | simp_all) (by first | assumption | omega | (simp; omega) | simp_all)) ?_)
 | refine de rfl (zo (i := 2) zbn rfl (WeakL.refl _) rfl (zy (L := [_, _, _, _]) (by first | assumption | omega | (simp; omega) | simp_all) (by first | assumption | omega | (simp; omega) | simp_all) (by first | assumption | omega | (simp; omega) | simp_all)) ?_)
 | refine de rfl (zo (i := 3) zbn rfl (WeakL.refl _) rfl (zy (L := [_, _, _, _]) (by first | assumption | omega | (simp; omega) | simp_all) (by first | assumption | omega | (simp; omega) | simp_all) (by first | assumption | omega | (simp; omega) | simp_all)) ?_)
 rintro _ _ ⟨y9, rfl, hy9, rfl⟩
 refine dmv rfl ?_
 refine dn ?_
 have hy2 : y9 ≤ 2 := by simp at hy9; omega
 have htl := zgE (zkZ hp5.2).2
 have hpl := hp5.1.len
 refine zn ?_
 refine zdO [3, 10, 11, 12, 13, 14, 15] (fun (k : Nat) (t : Str) (a2 : Nat) => [(10, .int .i64 (k : Int)), (3, .str t)]) (fun (k : Nat) (t : Str) (a2 : Nat) => [St b l a2]) (fun (k : Nat) (t : Str) (a2 : Nat) => k ≤ 2 ∧ t.length ≤ 3500 + 20 * k ∧ a2 ≤ a5 + 1 + 3 * k) (fun (k : Nat) (t : Str) (a2 : Nat) => 2 - k) (0) ((txT zbb p5)) (a5 + 1) ?_ ?_ ?_ ?_
 ·exact ⟨by omega, by omega, by omega⟩
 ·exact ⟨rfl, rfl, trivial⟩
 ·exact zS rfl
 ·intro k t a2 hinv
  obtain ⟨hk, hlt, hat⟩ := hinv
  refine za ?_
  refine dq (zW rfl rfl) ?_
  refine dn ?_
  refine zf ?_
  refine zi rfl (fun h1 => ?_) (fun h2 => ?_)
  ·try simp at h1
   refine zl ?_
   refine ze ?_
   refine zf ?_
   refine zn ?_
   refine zB ?_
   refine dmv rfl ?_
   refine dmv rfl ?_
   first
   | refine de rfl (zo (i := 0) zsC rfl (WeakL.refl _) rfl (zb0 (by first | assumption | omega | (simp; omega) | simp_all) (by first | assumption | omega | (simp; omega) | simp_all) (by first | assumption | omega | (simp; omega) | simp_all)) ?_)
   | refine de rfl (zo (i := 1) zsC rfl (WeakL.refl _) rfl (zb0 (by first | assumption | omega | (simp; omega) | simp_all) (by first | assumption | omega | (simp; omega) | simp_all) (by first | assumption | omega | (simp; omega) | simp_all)) ?_)
   | refine de rfl (zo (i := 2) zsC rfl (WeakL.refl _) rfl (zb0 (by first | assumption | omega | (simp; omega) | simp_all) (by first | assumption | omega | (simp; omega) | simp_all) (by first | assumption | omega | (simp; omega) | simp_all)) ?_)
   | refine de rfl (zo (i := 3) zsC rfl (WeakL.refl _) rfl (zb0 (by first | assumption | omega | (simp; omega) | simp_all) (by first | assumption | omega | (simp; omega) | simp_all) (by first | assumption | omega | (simp; omega) | simp_all)) ?_)
   rintro _ _ ⟨s14, a14, rfl, hs14, ha14, rfl⟩
   refine das rfl ?_
   refine dn ?_
   refine zG ?_
   refine ze ?_
   refine zB ?_
   refine dq (zC rfl rfl (by omega) (by omega)) ?_
   refine dmv rfl ?_
   refine dn ?_
   exact ⟨k + 1, s14, a14, ⟨by omega, by simp at hs14; omega, by omega⟩, by dsimp only; omega, ⟨rfl, rfl, trivial⟩, (by repeat (first | exact zp | refine zt rfl ?_ | refine zq rfl rfl ?_)), zS rfl⟩
  ·try simp at h2
   refine zU ?_
   refine z6 ?_
   refine zeH ?_
   refine zJ ?_
   refine ze ?_
   refine za ?_
   refine dmv rfl ?_
   refine das rfl ?_
   refine dn ?_
   refine zk ?_
   exact zaO rfl ⟨t, a2, rfl, by omega, by omega, rfl⟩
end
section
open Go.HL
set_option maxHeartbeats 4000000 in
/-- (*benchwarmer/benchmake.Stream).Mends -/
theorem zca [Tracks] {b : Nat} {l : List Int} {a : Nat}  (ha : a ≤ 700000) : Con Tryz.prog 13 [pAt b] [St b l a] (fun x M' => ∃ k a', x = zfH k ∧ GoodMds k ∧ a' ≤ a + 100 ∧ M' = [St b l a']) := by
 refine Con.of_body Tryz.func13 rfl Tryz.ntmps13 rfl rfl ?_
 refine za ?_
 refine das rfl ?_
 refine dn ?_
 refine za ?_
 refine das rfl ?_
 refine dn ?_
 refine zH (Ghost.arr_nil 7) ?_
 refine zf ?_
 refine za ?_
 refine dq (zw (hs := [_, _, _]) zaj ty9 rfl rfl (by decide) (by decide) rfl) ?_
 refine dq (zL (f := HVal.str) (l := mp3) zaj rfl) ?_
 refine dmv rfl ?_
 refine dn ?_
 refine zn ?_
 refine zaI [3, 5, 6, 8, 9, 13, 14, 15, 16, 17, 18, 19, 20, 21, 22, 23, 24, 25, 26, 27, 28, 29, 30, 31, 32, 33, 34, 35, 36, 37, 38, 39, 40, 41, 42, 43, 44, 45, 46, 47, 48] (fun (k : Nat) (q : GL MendS) => [(13, .int .i64 k), (3, .raw q.u)]) (fun (k : Nat) (q : GL MendS) => [St b l q.a, .arr q.u 7 (q.out.map zbi)]) (fun (k : Nat) (q : GL MendS) => k ≤ mp3.length ∧ (GLok zgD (8 * k) (a + 24 * k) q)) (fun (k : Nat) (q : GL MendS) => mp3.length - k) (0) (⟨.slice none 0 0, [], a⟩) ?_ ?_ ?_ ?_
 ·exact ⟨by decide, ⟨by simp, by simp, by dsimp only; omega⟩⟩
 ·exact ⟨rfl, rfl, trivial⟩
 ·repeat (first | exact List.Perm.nil | refine zI 0 rfl ?_ | refine zI 1 rfl ?_ | refine zI 2 rfl ?_ | refine zI 3 rfl ?_ | (refine zD 0 rfl ?hq ?_; (case hq => simp [zO, zh]; done)) | (refine zD 1 rfl ?hq ?_; (case hq => simp [zO, zh]; done)) | (refine zD 2 rfl ?hq ?_; (case hq => simp [zO, zh]; done)) | (refine zD 3 rfl ?hq ?_; (case hq => simp [zO, zh]; done)) | fail)
 ·intro k q hinv
  obtain ⟨hk, hq⟩ := hinv
  have hk3 : mp3.length = 3 := rfl
  obtain ⟨u, out, a2⟩ := q
  obtain ⟨g1, g2, g3⟩ := id hq
  dsimp only at g1 g2 g3
  refine za ?_
  refine dq (zW rfl rfl) ?_
  refine dn ?_
  refine zf ?_
  refine zi rfl (fun h1 => ?_) (fun h2 => ?_)
  ·try simp at h1
   obtain ⟨x, hx⟩ : ∃ x, mp3[k]? = some x := ⟨_, List.getElem?_eq_getElem h1⟩
   have hdx := zX hx
   refine zl ?_
   refine ze ?_
   refine zf ?_
   refine zn ?_
   refine za ?_
   refine dq (zP (f := HVal.str) (l := mp3) (j := k) (a := x) zaj ty9 rfl rfl rfl hx) ?_
   refine dq (zc ty9 rfl rfl rfl) ?_
   refine das rfl ?_
   refine dn ?_
   refine za ?_
   refine das rfl ?_
   refine dn ?_
   refine zn ?_
   refine zaI [3, 6, 8, 9, 17, 18, 19, 20, 21, 22, 23, 24, 25, 26, 27, 28, 29, 30, 31, 32, 33, 34, 35, 36, 37, 38, 39, 40, 41, 42, 43, 44, 45, 46, 47] (fun (w : Nat) (q2 : GL MendS) => [(6, .int .i64 ((w : Int) + 1)), (3, .raw q2.u)]) (fun (w : Nat) (q2 : GL MendS) => [St b l q2.a, .arr q2.u 7 (q2.out.map zbi)]) (fun (w : Nat) (q2 : GL MendS) => w ≤ 2 ∧ GLok zgD (8 * k + 4 * w) (a + 24 * k + 12 * w) q2) (fun (w : Nat) (q2 : GL MendS) => 2 - w) (0) (⟨u, out, a2⟩) ?_ ?_ ?_ ?_
   ·exact ⟨by omega, hq.mono (by omega) (by omega)⟩
   ·exact ⟨zbp (by omega), rfl, trivial⟩
   ·repeat (first | exact List.Perm.nil | refine zI 0 rfl ?_ | refine zI 1 rfl ?_ | refine zI 2 rfl ?_ | refine zI 3 rfl ?_ | (refine zD 0 rfl ?hq ?_; (case hq => simp [zO, zh]; done)) | (refine zD 1 rfl ?hq ?_; (case hq => simp [zO, zh]; done)) | (refine zD 2 rfl ?hq ?_; (case hq => simp [zO, zh]; done)) | (refine zD 3 rfl ?hq ?_; (case hq => simp [zO, zh]; done)) | fail)
   ·intro w q2 hinv
    obtain ⟨hw, hq2⟩ := hinv
    obtain ⟨u, out, a2⟩ := q2
    obtain ⟨g1, g2, g3⟩ := id hq2
    dsimp only at g1 g2 g3
    refine zf ?_
    refine za ?_
    refine dmv rfl ?_
    refine dq (zc1 rfl rfl) ?_
    refine dn ?_
    refine zi rfl (fun h3 => ?_) (fun h4 => ?_)
    ·try simp at h3
     refine zl ?_
     refine ze ?_
     refine zf ?_
     refine zn ?_
     refine za ?_
     refine dq (zw (hs := [_, _]) zaj ty9 rfl rfl (by decide) (by decide) rfl) ?_
     refine dq (zL (f := HVal.str) (l := ms2) zaj rfl) ?_
     refine dmv rfl ?_
     refine dn ?_
     refine zn ?_
     refine zaI [3, 8, 9, 23, 24, 25, 26, 27, 28, 29, 30, 31, 32, 33, 34, 35, 36, 37, 38, 39, 40, 41, 42, 43, 44, 45, 46, 47] (fun (j : Nat) (q3 : GL MendS) => [(23, .int .i64 j), (3, .raw q3.u)]) (fun (j : Nat) (q3 : GL MendS) => [St b l q3.a, .arr q3.u 7 (q3.out.map zbi)]) (fun (j : Nat) (q3 : GL MendS) => j ≤ ms2.length ∧ (GLok zgD (8 * k + 4 * w + 2 * j) (a + 24 * k + 12 * w + 6 * j) q3)) (fun (j : Nat) (q3 : GL MendS) => ms2.length - j) (0) (⟨u, out, a2⟩) ?_ ?_ ?_ ?_
     ·exact ⟨by decide, hq2.mono (by omega) (by omega)⟩
     ·exact ⟨rfl, rfl, trivial⟩
     ·repeat (first | exact List.Perm.nil | refine zI 0 rfl ?_ | refine zI 1 rfl ?_ | refine zI 2 rfl ?_ | refine zI 3 rfl ?_ | (refine zD 0 rfl ?hq ?_; (case hq => simp [zO, zh]; done)) | (refine zD 1 rfl ?hq ?_; (case hq => simp [zO, zh]; done)) | (refine zD 2 rfl ?hq ?_; (case hq => simp [zO, zh]; done)) | (refine zD 3 rfl ?hq ?_; (case hq => simp [zO, zh]; done)) | fail)
     ·intro j q3 hinv
      obtain ⟨hj, hq3⟩ := hinv
      have hj2 : ms2.length = 2 := rfl
      obtain ⟨u, out, a2⟩ := q3
      obtain ⟨g1, g2, g3⟩ := id hq3
      dsimp only at g1 g2 g3
      refine za ?_
      refine dq (zW rfl rfl) ?_
      refine dn ?_
      refine zf ?_
      refine zi rfl (fun h5 => ?_) (fun h6 => ?_)
      ·try simp at h5
       obtain ⟨z, hz⟩ : ∃ z, ms2[j]? = some z := ⟨_, List.getElem?_eq_getElem h5⟩
       have hdz := zX hz
       refine zl ?_
       refine ze ?_
       refine zf ?_
       refine zn ?_
       refine za ?_
       refine dq (zP (f := HVal.str) (l := ms2) (j := j) (a := z) zaj ty9 rfl rfl rfl hz) ?_
       refine dq (zc ty9 rfl rfl rfl) ?_
       refine das rfl ?_
       refine dn ?_
       refine za ?_
       refine das rfl ?_
       refine dn ?_
       refine zn ?_
       refine zaI [3, 9, 27, 28, 29, 30, 31, 32, 33, 34, 35, 36, 37, 38, 39, 40, 41, 42, 43, 44, 45, 46] (fun (v : Nat) (q4 : GL MendS) => [(9, .int .i64 ((v : Int) + 1)), (3, .raw q4.u)]) (fun (v : Nat) (q4 : GL MendS) => [St b l q4.a, .arr q4.u 7 (q4.out.map zbi)]) (fun (v : Nat) (q4 : GL MendS) => v ≤ 2 ∧ GLok zgD (8 * k + 4 * w + 2 * j + v) (a + 24 * k + 12 * w + 6 * j + 3 * v) q4) (fun (v : Nat) (q4 : GL MendS) => 2 - v) (0) (⟨u, out, a2⟩) ?_ ?_ ?_ ?_
       ·exact ⟨by omega, hq3.mono (by omega) (by omega)⟩
       ·exact ⟨zbp (by omega), rfl, trivial⟩
       ·repeat (first | exact List.Perm.nil | refine zI 0 rfl ?_ | refine zI 1 rfl ?_ | refine zI 2 rfl ?_ | refine zI 3 rfl ?_ | (refine zD 0 rfl ?hq ?_; (case hq => simp [zO, zh]; done)) | (refine zD 1 rfl ?hq ?_; (case hq => simp [zO, zh]; done)) | (refine zD 2 rfl ?hq ?_; (case hq => simp [zO, zh]; done)) | (refine zD 3 rfl ?hq ?_; (case hq => simp [zO, zh]; done)) | fail)
       ·intro v q4 hinv
        obtain ⟨hv, hq4⟩ := hinv
        obtain ⟨u, out, a2⟩ := q4
        obtain ⟨g1, g2, g3⟩ := id hq4
        dsimp only at g1 g2 g3
        refine zf ?_
        refine za ?_
        refine dmv rfl ?_
        refine dq (zc1 rfl rfl) ?_
        refine dn ?_
        refine zi rfl (fun h7 => ?_) (fun h8 => ?_)
        ·try simp at h7
         refine zl ?_
         refine ze ?_
         refine zf ?_
         refine zn ?_
         refine za ?_
         refine dmv rfl ?_
         first
         | refine de rfl (zo (i := 0) zif rfl (WeakL.refl _) rfl (zaF (by first | assumption | omega | (simp; omega) | simp_all) (by first | assumption | omega | (simp; omega) | simp_all)) ?_)
         | refine de rfl (zo (i := 1) zif rfl (WeakL.refl _) rfl (zaF (by first | assumption | omega | (simp; omega) | simp_all) (by first | assumption | omega | (simp; omega) | simp_all)) ?_)
         | refine de rfl (zo (i := 2) zif rfl (WeakL.refl _) rfl (zaF (by first | assumption | omega | (simp; omega) | simp_all) (by first | assumption | omega | (simp; omega) | simp_all)) ?_)
         | refine de rfl (zo (i := 3) zif rfl (WeakL.refl _) rfl (zaF (by first | assumption | omega | (simp; omega) | simp_all) (by first | assumption | omega | (simp; omega) | simp_all)) ?_)
         rintro _ _ ⟨y32, rfl, rfl⟩
         refine dn ?_
         refine zi rfl (fun h9 => ?_) (fun h10 => ?_)
         ·try simp at h9
          refine zB ?_
          refine dmv rfl ?_
          refine dmv rfl ?_
          refine dmv rfl ?_
          refine dmv rfl ?_
          refine dmv rfl ?_
          refine dq (zw (hs := [_, _, _]) zaq ty3 rfl rfl (by decide) (by decide) rfl) ?_
          first
          | refine de rfl (zo (i := 0) zbn rfl (WeakL.refl _) rfl (zy (L := [_, _, _]) (by first | assumption | omega | (simp; omega) | simp_all) (by first | assumption | omega | (simp; omega) | simp_all) (by first | assumption | omega | (simp; omega) | simp_all)) ?_)
          | refine de rfl (zo (i := 1) zbn rfl (WeakL.refl _) rfl (zy (L := [_, _, _]) (by first | assumption | omega | (simp; omega) | simp_all) (by first | assumption | omega | (simp; omega) | simp_all) (by first | assumption | omega | (simp; omega) | simp_all)) ?_)
          | refine de rfl (zo (i := 2) zbn rfl (WeakL.refl _) rfl (zy (L := [_, _, _]) (by first | assumption | omega | (simp; omega) | simp_all) (by first | assumption | omega | (simp; omega) | simp_all) (by first | assumption | omega | (simp; omega) | simp_all)) ?_)
          | refine de rfl (zo (i := 3) zbn rfl (WeakL.refl _) rfl (zy (L := [_, _, _]) (by first | assumption | omega | (simp; omega) | simp_all) (by first | assumption | omega | (simp; omega) | simp_all) (by first | assumption | omega | (simp; omega) | simp_all)) ?_)
          rintro _ _ ⟨y39, rfl, hy39, rfl⟩
          refine dmv rfl ?_
          refine dq (zw (hs := [_, _, _]) zaq ty3 rfl rfl (by decide) (by decide) rfl) ?_
          first
          | refine de rfl (zo (i := 0) zbn rfl (WeakL.refl _) rfl (zy (L := [_, _, _]) (by first | assumption | omega | (simp; omega) | simp_all) (by first | assumption | omega | (simp; omega) | simp_all) (by first | assumption | omega | (simp; omega) | simp_all)) ?_)
          | refine de rfl (zo (i := 1) zbn rfl (WeakL.refl _) rfl (zy (L := [_, _, _]) (by first | assumption | omega | (simp; omega) | simp_all) (by first | assumption | omega | (simp; omega) | simp_all) (by first | assumption | omega | (simp; omega) | simp_all)) ?_)
          | refine de rfl (zo (i := 2) zbn rfl (WeakL.refl _) rfl (zy (L := [_, _, _]) (by first | assumption | omega | (simp; omega) | simp_all) (by first | assumption | omega | (simp; omega) | simp_all) (by first | assumption | omega | (simp; omega) | simp_all)) ?_)
          | refine de rfl (zo (i := 3) zbn rfl (WeakL.refl _) rfl (zy (L := [_, _, _]) (by first | assumption | omega | (simp; omega) | simp_all) (by first | assumption | omega | (simp; omega) | simp_all) (by first | assumption | omega | (simp; omega) | simp_all)) ?_)
          rintro _ _ ⟨y42, rfl, hy42, rfl⟩
          refine dmv rfl ?_
          refine dq (zaw (cs := [_, _, _, _, _, _, _]) zQ zx3 rfl) ?_
          refine dq (zw (hs := [_]) za2 zQ rfl rfl (by decide) (by decide) rfl) ?_
          refine de rfl (zan (i := 1) za2 zQ rfl rfl rfl rfl rfl (by simp [za5, zh, zbh, zcf]) (by simp; omega) fun v46 => ?_)
          refine das rfl ?_
          refine dn ?_
          refine zG ?_
          refine ze ?_
          refine zB ?_
          refine dmv rfl ?_
          refine dq (zC rfl rfl (by omega) (by omega)) ?_
          refine das rfl ?_
          refine dn ?_
          exact ⟨v + 1, ⟨v46, out ++ [(⟨x, (w : Int) + 1, z, y39, y42, (v : Int) + 1, [98, 111, 115, 115]⟩ : MendS)], a2 + 1 + 1 + 1⟩, ⟨by omega, hq4.add (x := (⟨x, (w : Int) + 1, z, y39, y42, (v : Int) + 1, [98, 111, 115, 115]⟩ : MendS)) ⟨zwx x (List.mem_of_getElem? hx), zww z (List.mem_of_getElem? hz), by unfold Sh; simp⟩ (by omega)⟩, by dsimp only; omega, ⟨zbp (by omega), rfl, trivial⟩, (by repeat (first | exact zp | refine zt rfl ?_ | refine zq rfl rfl ?_)), zS (by dsimp only; rw [List.map_append]; rfl)⟩
         ·try simp at h10
          refine zl ?_
          refine zG ?_
          refine ze ?_
          refine zB ?_
          refine dmv rfl ?_
          refine dq (zC rfl rfl (by omega) (by omega)) ?_
          refine das rfl ?_
          refine dn ?_
          exact ⟨v + 1, ⟨u, out, a2 + 1⟩, ⟨by omega, hq4.same (by omega)⟩, by dsimp only; omega, ⟨zbp (by omega), rfl, trivial⟩, (by repeat (first | exact zp | refine zt rfl ?_ | refine zq rfl rfl ?_)), by repeat (first | exact List.Perm.nil | refine zI 0 rfl ?_ | refine zI 1 rfl ?_ | refine zI 2 rfl ?_ | refine zI 3 rfl ?_ | (refine zD 0 rfl ?hq ?_; (case hq => simp [zO, zh]; done)) | (refine zD 1 rfl ?hq ?_; (case hq => simp [zO, zh]; done)) | (refine zD 2 rfl ?hq ?_; (case hq => simp [zO, zh]; done)) | (refine zD 3 rfl ?hq ?_; (case hq => simp [zO, zh]; done)) | fail)⟩
        ·try simp at h8
         refine zU ?_
         refine z6 ?_
         refine zaR ?_
         refine zJ ?_
         refine zG ?_
         refine ze ?_
         refine zB ?_
         refine dq (zC rfl rfl (by omega) (by omega)) ?_
         refine dmv rfl ?_
         refine dn ?_
         exact ⟨j + 1, ⟨u, out, a2⟩, ⟨by omega, hq4.mono (by omega) (by omega)⟩, by dsimp only; omega, ⟨rfl, rfl, trivial⟩, (by repeat (first | exact zp | refine zt rfl ?_ | refine zq rfl rfl ?_)), by repeat (first | exact List.Perm.nil | refine zI 0 rfl ?_ | refine zI 1 rfl ?_ | refine zI 2 rfl ?_ | refine zI 3 rfl ?_ | (refine zD 0 rfl ?hq ?_; (case hq => simp [zO, zh]; done)) | (refine zD 1 rfl ?hq ?_; (case hq => simp [zO, zh]; done)) | (refine zD 2 rfl ?hq ?_; (case hq => simp [zO, zh]; done)) | (refine zD 3 rfl ?hq ?_; (case hq => simp [zO, zh]; done)) | fail)⟩
      ·try simp at h6
       have hnj : ms2.length ≤ j := by omega
       obtain rfl : j = ms2.length := by omega
       refine zU ?_
       refine z6 ?_
       refine zaR ?_
       refine zJ ?_
       refine zG ?_
       refine ze ?_
       refine zB ?_
       refine dmv rfl ?_
       refine dq (zC rfl rfl (by omega) (by omega)) ?_
       refine das rfl ?_
       refine dn ?_
       exact ⟨w + 1, ⟨u, out, a2⟩, ⟨by omega, hq3.mono (by omega) (by omega)⟩, by dsimp only; omega, ⟨zbp (by omega), rfl, trivial⟩, (by repeat (first | exact zp | refine zt rfl ?_ | refine zq rfl rfl ?_)), by repeat (first | exact List.Perm.nil | refine zI 0 rfl ?_ | refine zI 1 rfl ?_ | refine zI 2 rfl ?_ | refine zI 3 rfl ?_ | (refine zD 0 rfl ?hq ?_; (case hq => simp [zO, zh]; done)) | (refine zD 1 rfl ?hq ?_; (case hq => simp [zO, zh]; done)) | (refine zD 2 rfl ?hq ?_; (case hq => simp [zO, zh]; done)) | (refine zD 3 rfl ?hq ?_; (case hq => simp [zO, zh]; done)) | fail)⟩
    ·try simp at h4
     refine zU ?_
     refine z6 ?_
     refine zaR ?_
     refine zJ ?_
     refine zG ?_
     refine ze ?_
     refine zB ?_
     refine dq (zC rfl rfl (by omega) (by omega)) ?_
     refine dmv rfl ?_
     refine dn ?_
     exact ⟨k + 1, ⟨u, out, a2⟩, ⟨by omega, hq2.mono (by omega) (by omega)⟩, by dsimp only; omega, ⟨rfl, rfl, trivial⟩, (by repeat (first | exact zp | refine zt rfl ?_ | refine zq rfl rfl ?_)), by repeat (first | exact List.Perm.nil | refine zI 0 rfl ?_ | refine zI 1 rfl ?_ | refine zI 2 rfl ?_ | refine zI 3 rfl ?_ | (refine zD 0 rfl ?hq ?_; (case hq => simp [zO, zh]; done)) | (refine zD 1 rfl ?hq ?_; (case hq => simp [zO, zh]; done)) | (refine zD 2 rfl ?hq ?_; (case hq => simp [zO, zh]; done)) | (refine zD 3 rfl ?hq ?_; (case hq => simp [zO, zh]; done)) | fail)⟩
  ·try simp at h2
   have hnk : mp3.length ≤ k := by omega
   obtain rfl : k = mp3.length := by omega
   refine zU ?_
   refine z6 ?_
   refine zaR ?_
   refine zJ ?_
   refine ze ?_
   refine zeb (10 :: 49 :: 50 :: 51 :: 52 :: 53 :: 54 :: 55 :: 56 :: 57 :: 58 :: 59 :: 60 :: 61 :: 62 :: 63 :: 64 :: 65 :: 66 :: 67 :: 68 :: 69 :: 70 :: 71 :: 72 :: 73 :: 74 :: 75 :: 76 :: 77 :: 78 :: 79 :: 80 :: 81 :: 82 :: 83 :: 84 :: 85 :: 86 :: 87 :: 88 :: 89 :: 90 :: 91 :: 92 :: 93 :: 94 :: 95 :: 96 :: 97 :: 98 :: 99 :: 100 :: 101 :: 102 :: 103 :: 104 :: 105 :: 106 :: 107 :: []) (fun (q5 : List MendS × Nat) => []) (fun (q5 : List MendS × Nat) => [St b l q5.2, .arr u 7 (q5.1.map zbi)]) (fun (q5 : List MendS × Nat) => q5.1.length ≤ 24 ∧ (∀ x ∈ q5.1, zgD x) ∧ q5.2 ≤ a + 100) ?_ ?_
   ·skip
    refine za ?_
    refine dmv rfl ?_
    first
    | refine de rfl (zbj (i := 0) za2 rfl rfl ?_)
    | refine de rfl (zbj (i := 1) za2 rfl rfl ?_)
    | refine de rfl (zbj (i := 2) za2 rfl rfl ?_)
    | refine de rfl (zbj (i := 3) za2 rfl rfl ?_)
    refine dq (zaf rfl rfl) ?_
    refine dmv rfl ?_
    refine dg rfl rfl (fun hc => ⟨_, OpenTo.refl _, zd rfl⟩) ?_
    refine dgx (fun x M' => ∃ (y : Bool) (a3 : Nat), x = .bool y ∧ a3 ≤ a2 + 1 ∧ M' = [St b l a3, .arr u 7 (out.map zbi)]) rfl rfl (fun hc => ⟨_, false, a2, rfl, by omega, rfl⟩) (fun hc => ⟨_, OpenTo.upd (t := 53) rfl (by first | exact hc | simp_all) (OpenTo.refl _), zo (i := 0) zif rfl (WeakL.refl _) rfl (zaF (a := a2) (by omega) (by omega)) (fun h M' hh => by
     obtain ⟨y, h1, h2⟩ := hh
     exact ⟨y, a2 + 1, h1, by omega, by rw [h2]; rfl⟩)⟩) ?_
    rintro _ _ ⟨y, a3, rfl, ha3, rfl⟩
    refine dq (zv rfl (.inr ⟨_, rfl, fun h => by simp_all⟩) (.inl rfl)) ?_
    refine dn ?_
    refine zi rfl (fun h11 => ?_) (fun h12 => ?_)
    ·try simp at h11
     have ho0 : 0 < out.length := by simp_all
     refine zfu (i := 1) rfl (fun h0 he => ?_) (fun ob off cap hv hcap => ?_)
     ·exfalso; have := congrArg List.length he; simp at this; subst this; simp at ho0
     subst hv
     refine za ?_
     refine dmv rfl ?_
     refine dmv rfl ?_
     refine dmv rfl ?_
     first
     | refine de rfl (zbj (i := 0) za2 rfl rfl ?_)
     | refine de rfl (zbj (i := 1) za2 rfl rfl ?_)
     | refine de rfl (zbj (i := 2) za2 rfl rfl ?_)
     | refine de rfl (zbj (i := 3) za2 rfl rfl ?_)
     first
     | refine de rfl (zo (i := 0) zcV rfl (WeakL.refl _) rfl (zV (by first | assumption | omega | (simp; omega) | simp_all) (by first | assumption | omega | (simp; omega) | simp_all)) ?_)
     | refine de rfl (zo (i := 1) zcV rfl (WeakL.refl _) rfl (zV (by first | assumption | omega | (simp; omega) | simp_all) (by first | assumption | omega | (simp; omega) | simp_all)) ?_)
     | refine de rfl (zo (i := 2) zcV rfl (WeakL.refl _) rfl (zV (by first | assumption | omega | (simp; omega) | simp_all) (by first | assumption | omega | (simp; omega) | simp_all)) ?_)
     | refine de rfl (zo (i := 3) zcV rfl (WeakL.refl _) rfl (zV (by first | assumption | omega | (simp; omega) | simp_all) (by first | assumption | omega | (simp; omega) | simp_all)) ?_)
     rintro _ _ ⟨y60, rfl, hy60, rfl⟩
     refine dq (zbL (j := y60) za2 zQ rfl rfl rfl (by simp; omega)) ?_
     refine das rfl ?_
     refine dn ?_
     obtain ⟨x, hx⟩ : ∃ x, out[y60]? = some x := ⟨_, List.getElem?_eq_getElem (by omega)⟩
     refine zcQ (fun M => ∃ i : Nat, M[i]? = some (.arr (.slice (some ⟨ob, off, none⟩) (out.map zbi).length cap) 7 (out.map zbi))) [9, 16, 23, 30] mixed ?_
     refine ahp 0 rfl rfl (by kernel_rfl) (by kernel_rfl) (zd rfl) ?_
     refine ahp 1 rfl rfl (by kernel_rfl) (by kernel_rfl) (zd rfl) ?_
     refine ahp 2 rfl rfl (by kernel_rfl) (by kernel_rfl) (zd rfl) ?_
     refine ahp 3 rfl rfl (by kernel_rfl) (by kernel_rfl) (zd rfl) ?_
     refine ahp 4 rfl rfl (by kernel_rfl) (by kernel_rfl) (zd rfl) ?_
     refine ahp 5 rfl rfl (by kernel_rfl) (by kernel_rfl) (zd rfl) ?_
     refine ahp 6 rfl rfl (by kernel_rfl) (by kernel_rfl) (zd rfl) ?_
     refine ahp 7 rfl rfl (by kernel_rfl) (by kernel_rfl) ((by first | exact za8 rfl | exact zM rfl)) ?_
     refine ahp 8 rfl rfl (by kernel_rfl) (by kernel_rfl) ((by first | exact zb zQ rfl ty9 (by decide) rfl | exact zg zQ rfl ty9 (by decide) rfl)) ?_
     refine ahl 9 rfl rfl (by kernel_rfl) (by kernel_rfl) (by simp) ⟨1, rfl⟩ (fun M hM => by obtain ⟨i, hi⟩ := hM; exact zbf (i := i) (j := y60) 0 ty9 rfl (by omega) hi hx rfl rfl ⟨rfl, rfl⟩) ?_
     refine ahp 10 rfl rfl (by kernel_rfl) (by kernel_rfl) (zw (hs := [_, _, _]) zaj ty9 rfl rfl (by decide) (by decide) rfl) ?_
     refine ahp 12 rfl rfl (by kernel_rfl) (by kernel_rfl) (zd rfl) ?_
     refine ahp 13 rfl rfl (by kernel_rfl) (by kernel_rfl) (zd rfl) ?_
     refine ahp 14 rfl rfl (by kernel_rfl) (by kernel_rfl) ((by first | exact za8 rfl | exact zM rfl)) ?_
     refine ahp 15 rfl rfl (by kernel_rfl) (by kernel_rfl) ((by first | exact zb zQ rfl ty3 (by decide) rfl | exact zg zQ rfl ty3 (by decide) rfl)) ?_
     refine ahl 16 rfl rfl (by kernel_rfl) (by kernel_rfl) (by simp) ⟨1, rfl⟩ (fun M hM => by obtain ⟨i, hi⟩ := hM; exact zbf (i := i) (j := y60) 1 ty3 rfl (by omega) hi hx rfl rfl ⟨rfl, rfl⟩) ?_
     refine ahp 17 rfl rfl (by kernel_rfl) (by kernel_rfl) (zw (hs := [_, _]) zaq ty3 rfl rfl (by decide) (by decide) rfl) ?_
     refine ahp 19 rfl rfl (by kernel_rfl) (by kernel_rfl) (zd rfl) ?_
     refine ahp 20 rfl rfl (by kernel_rfl) (by kernel_rfl) (zd rfl) ?_
     refine ahp 21 rfl rfl (by kernel_rfl) (by kernel_rfl) ((by first | exact za8 rfl | exact zM rfl)) ?_
     refine ahp 22 rfl rfl (by kernel_rfl) (by kernel_rfl) ((by first | exact zb zQ rfl ty3 (by decide) rfl | exact zg zQ rfl ty3 (by decide) rfl)) ?_
     refine ahl 23 rfl rfl (by kernel_rfl) (by kernel_rfl) (by simp) ⟨1, rfl⟩ (fun M hM => by obtain ⟨i, hi⟩ := hM; exact zbf (i := i) (j := y60) 3 ty3 rfl (by omega) hi hx rfl rfl ⟨rfl, rfl⟩) ?_
     refine ahp 24 rfl rfl (by kernel_rfl) (by kernel_rfl) (zw (hs := [_, _]) zaq ty3 rfl rfl (by decide) (by decide) rfl) ?_
     refine ahp 26 rfl rfl (by kernel_rfl) (by kernel_rfl) (zd rfl) ?_
     refine ahp 27 rfl rfl (by kernel_rfl) (by kernel_rfl) (zd rfl) ?_
     refine ahp 28 rfl rfl (by kernel_rfl) (by kernel_rfl) ((by first | exact za8 rfl | exact zM rfl)) ?_
     refine ahp 29 rfl rfl (by kernel_rfl) (by kernel_rfl) ((by first | exact zb zQ rfl ty3 (by decide) rfl | exact zg zQ rfl ty3 (by decide) rfl)) ?_
     refine ahl 30 rfl rfl (by kernel_rfl) (by kernel_rfl) (by simp) ⟨1, rfl⟩ (fun M hM => by obtain ⟨i, hi⟩ := hM; exact zbf (i := i) (j := y60) 5 ty3 rfl (by omega) hi hx rfl rfl ⟨rfl, rfl⟩) ?_
     refine ahp 31 rfl rfl (by kernel_rfl) (by kernel_rfl) (zw (hs := [_, _, _]) zaq ty3 rfl rfl (by decide) (by decide) rfl) ?_
     refine ahp 33 rfl rfl (by kernel_rfl) (by kernel_rfl) (zd rfl) ?_
     refine ahp 34 rfl rfl (by kernel_rfl) (by kernel_rfl) (zw (hs := [_, _]) zaj ty9 rfl rfl (by decide) (by decide) rfl) ?_
     refine ahe 11 rfl (by kernel_rfl) ?_
     first
     | refine zau rfl (zo (i := 0) zee rfl (WeakL.refl _) rfl (zac (L := [_, _, _]) (by first | assumption | omega | (simp; omega) | simp_all) (by first | assumption | omega | (simp; omega) | simp_all) (by first | assumption | omega | (simp; omega) | simp_all)) ?_)
     | refine zau rfl (zo (i := 1) zee rfl (WeakL.refl _) rfl (zac (L := [_, _, _]) (by first | assumption | omega | (simp; omega) | simp_all) (by first | assumption | omega | (simp; omega) | simp_all) (by first | assumption | omega | (simp; omega) | simp_all)) ?_)
     | refine zau rfl (zo (i := 2) zee rfl (WeakL.refl _) rfl (zac (L := [_, _, _]) (by first | assumption | omega | (simp; omega) | simp_all) (by first | assumption | omega | (simp; omega) | simp_all) (by first | assumption | omega | (simp; omega) | simp_all)) ?_)
     | refine zau rfl (zo (i := 3) zee rfl (WeakL.refl _) rfl (zac (L := [_, _, _]) (by first | assumption | omega | (simp; omega) | simp_all) (by first | assumption | omega | (simp; omega) | simp_all) (by first | assumption | omega | (simp; omega) | simp_all)) ?_)
     rintro _ _ ⟨y73, rfl, hy73, rfl⟩
     refine ⟨fun _ => by first | exact .inl ⟨0, rfl⟩ | exact .inl ⟨1, rfl⟩ | exact .inl ⟨2, rfl⟩ | exact .inr (by simp [zaT, Region.binds]), ?_⟩
     refine ahe 18 rfl (by kernel_rfl) ?_
     first
     | refine zau rfl (zo (i := 0) zbn rfl (WeakL.refl _) rfl (zy (L := [_, _]) (by first | assumption | omega | (simp; omega) | simp_all) (by first | assumption | omega | (simp; omega) | simp_all) (by first | assumption | omega | (simp; omega) | simp_all)) ?_)
     | refine zau rfl (zo (i := 1) zbn rfl (WeakL.refl _) rfl (zy (L := [_, _]) (by first | assumption | omega | (simp; omega) | simp_all) (by first | assumption | omega | (simp; omega) | simp_all) (by first | assumption | omega | (simp; omega) | simp_all)) ?_)
     | refine zau rfl (zo (i := 2) zbn rfl (WeakL.refl _) rfl (zy (L := [_, _]) (by first | assumption | omega | (simp; omega) | simp_all) (by first | assumption | omega | (simp; omega) | simp_all) (by first | assumption | omega | (simp; omega) | simp_all)) ?_)
     | refine zau rfl (zo (i := 3) zbn rfl (WeakL.refl _) rfl (zy (L := [_, _]) (by first | assumption | omega | (simp; omega) | simp_all) (by first | assumption | omega | (simp; omega) | simp_all) (by first | assumption | omega | (simp; omega) | simp_all)) ?_)
     rintro _ _ ⟨y80, rfl, hy80, rfl⟩
     refine ⟨fun _ => by first | exact .inl ⟨0, rfl⟩ | exact .inl ⟨1, rfl⟩ | exact .inl ⟨2, rfl⟩ | exact .inr (by simp [zaT, Region.binds]), ?_⟩
     refine ahe 25 rfl (by kernel_rfl) ?_
     first
     | refine zau rfl (zo (i := 0) zbn rfl (WeakL.refl _) rfl (zy (L := [_, _]) (by first | assumption | omega | (simp; omega) | simp_all) (by first | assumption | omega | (simp; omega) | simp_all) (by first | assumption | omega | (simp; omega) | simp_all)) ?_)
     | refine zau rfl (zo (i := 1) zbn rfl (WeakL.refl _) rfl (zy (L := [_, _]) (by first | assumption | omega | (simp; omega) | simp_all) (by first | assumption | omega | (simp; omega) | simp_all) (by first | assumption | omega | (simp; omega) | simp_all)) ?_)
     | refine zau rfl (zo (i := 2) zbn rfl (WeakL.refl _) rfl (zy (L := [_, _]) (by first | assumption | omega | (simp; omega) | simp_all) (by first | assumption | omega | (simp; omega) | simp_all) (by first | assumption | omega | (simp; omega) | simp_all)) ?_)
     | refine zau rfl (zo (i := 3) zbn rfl (WeakL.refl _) rfl (zy (L := [_, _]) (by first | assumption | omega | (simp; omega) | simp_all) (by first | assumption | omega | (simp; omega) | simp_all) (by first | assumption | omega | (simp; omega) | simp_all)) ?_)
     rintro _ _ ⟨y87, rfl, hy87, rfl⟩
     refine ⟨fun _ => by first | exact .inl ⟨0, rfl⟩ | exact .inl ⟨1, rfl⟩ | exact .inl ⟨2, rfl⟩ | exact .inr (by simp [zaT, Region.binds]), ?_⟩
     refine ahe 32 rfl (by kernel_rfl) ?_
     first
     | refine zau rfl (zo (i := 0) zbn rfl (WeakL.refl _) rfl (zy (L := [_, _, _]) (by first | assumption | omega | (simp; omega) | simp_all) (by first | assumption | omega | (simp; omega) | simp_all) (by first | assumption | omega | (simp; omega) | simp_all)) ?_)
     | refine zau rfl (zo (i := 1) zbn rfl (WeakL.refl _) rfl (zy (L := [_, _, _]) (by first | assumption | omega | (simp; omega) | simp_all) (by first | assumption | omega | (simp; omega) | simp_all) (by first | assumption | omega | (simp; omega) | simp_all)) ?_)
     | refine zau rfl (zo (i := 2) zbn rfl (WeakL.refl _) rfl (zy (L := [_, _, _]) (by first | assumption | omega | (simp; omega) | simp_all) (by first | assumption | omega | (simp; omega) | simp_all) (by first | assumption | omega | (simp; omega) | simp_all)) ?_)
     | refine zau rfl (zo (i := 3) zbn rfl (WeakL.refl _) rfl (zy (L := [_, _, _]) (by first | assumption | omega | (simp; omega) | simp_all) (by first | assumption | omega | (simp; omega) | simp_all) (by first | assumption | omega | (simp; omega) | simp_all)) ?_)
     rintro _ _ ⟨y94, rfl, hy94, rfl⟩
     refine ⟨fun _ => by first | exact .inl ⟨0, rfl⟩ | exact .inl ⟨1, rfl⟩ | exact .inl ⟨2, rfl⟩ | exact .inr (by simp [zaT, Region.binds]), ?_⟩
     refine ahe 35 rfl (by kernel_rfl) ?_
     first
     | refine zau rfl (zo (i := 0) zee rfl (WeakL.refl _) rfl (zac (L := [_, _]) (by first | assumption | omega | (simp; omega) | simp_all) (by first | assumption | omega | (simp; omega) | simp_all) (by first | assumption | omega | (simp; omega) | simp_all)) ?_)
     | refine zau rfl (zo (i := 1) zee rfl (WeakL.refl _) rfl (zac (L := [_, _]) (by first | assumption | omega | (simp; omega) | simp_all) (by first | assumption | omega | (simp; omega) | simp_all) (by first | assumption | omega | (simp; omega) | simp_all)) ?_)
     | refine zau rfl (zo (i := 2) zee rfl (WeakL.refl _) rfl (zac (L := [_, _]) (by first | assumption | omega | (simp; omega) | simp_all) (by first | assumption | omega | (simp; omega) | simp_all) (by first | assumption | omega | (simp; omega) | simp_all)) ?_)
     | refine zau rfl (zo (i := 3) zee rfl (WeakL.refl _) rfl (zac (L := [_, _]) (by first | assumption | omega | (simp; omega) | simp_all) (by first | assumption | omega | (simp; omega) | simp_all) (by first | assumption | omega | (simp; omega) | simp_all)) ?_)
     rintro _ _ ⟨y97, rfl, hy97, rfl⟩
     refine ⟨fun _ => by first | exact .inl ⟨0, rfl⟩ | exact .inl ⟨1, rfl⟩ | exact .inl ⟨2, rfl⟩ | exact .inr (by simp [zaT, Region.binds]), ?_⟩
     refine ahp 36 rfl rfl (by kernel_rfl) (by kernel_rfl) ((by first | exact za8 rfl | exact zM rfl)) ?_
     refine ahp 37 rfl rfl (by kernel_rfl) (by kernel_rfl) ((by first | exact zb zQ rfl ty9 (by decide) rfl | exact zg zQ rfl ty9 (by decide) rfl)) ?_
     refine ahe 38 rfl (by kernel_rfl) ?_
     refine zaL (zaU (i := 1) (j := y60) (f := 0) (y := zbi x) (y' := zbi ⟨y73, x.Week, x.Stat, x.Count, x.At, x.Version, x.By⟩) ty9 rfl (by omega) rfl rfl (zcq hx) rfl rfl (by simp [zh]) rfl ?_)
     refine ⟨fun _ => .inr (by simp [zaT, Region.binds]), ?_⟩
     refine ahp 39 rfl rfl (by kernel_rfl) (by kernel_rfl) ((by first | exact za8 rfl | exact zM rfl)) ?_
     refine ahp 40 rfl rfl (by kernel_rfl) (by kernel_rfl) ((by first | exact zb zQ rfl ty3 (by decide) rfl | exact zg zQ rfl ty3 (by decide) rfl)) ?_
     refine ahe 41 rfl (by kernel_rfl) ?_
     refine zaL (zaU (i := 1) (j := y60) (f := 1) (y := zbi ⟨y73, x.Week, x.Stat, x.Count, x.At, x.Version, x.By⟩) (y' := zbi ⟨y73, y80, x.Stat, x.Count, x.At, x.Version, x.By⟩) ty3 rfl (by omega) rfl rfl (zbS (zcq hx)) rfl rfl (by simp [zh]) rfl ?_)
     refine ⟨fun _ => .inr (by simp [zaT, Region.binds]), ?_⟩
     refine ahp 42 rfl rfl (by kernel_rfl) (by kernel_rfl) ((by first | exact za8 rfl | exact zM rfl)) ?_
     refine ahp 43 rfl rfl (by kernel_rfl) (by kernel_rfl) ((by first | exact zb zQ rfl ty3 (by decide) rfl | exact zg zQ rfl ty3 (by decide) rfl)) ?_
     refine ahe 44 rfl (by kernel_rfl) ?_
     refine zaL (zaU (i := 1) (j := y60) (f := 3) (y := zbi ⟨y73, y80, x.Stat, x.Count, x.At, x.Version, x.By⟩) (y' := zbi ⟨y73, y80, x.Stat, y87, x.At, x.Version, x.By⟩) ty3 rfl (by omega) rfl rfl (zbS (zbS (zcq hx))) rfl rfl (by simp [zh]) rfl ?_)
     refine ⟨fun _ => .inr (by simp [zaT, Region.binds]), ?_⟩
     refine ahp 45 rfl rfl (by kernel_rfl) (by kernel_rfl) ((by first | exact za8 rfl | exact zM rfl)) ?_
     refine ahp 46 rfl rfl (by kernel_rfl) (by kernel_rfl) ((by first | exact zb zQ rfl ty3 (by decide) rfl | exact zg zQ rfl ty3 (by decide) rfl)) ?_
     refine ahe 47 rfl (by kernel_rfl) ?_
     refine zaL (zaU (i := 1) (j := y60) (f := 5) (y := zbi ⟨y73, y80, x.Stat, y87, x.At, x.Version, x.By⟩) (y' := zbi ⟨y73, y80, x.Stat, y87, x.At, y94, x.By⟩) ty3 rfl (by omega) rfl rfl (zbS (zbS (zbS (zcq hx)))) rfl rfl (by simp [zh]) rfl ?_)
     refine ⟨fun _ => .inr (by simp [zaT, Region.binds]), ?_⟩
     refine ahp 48 rfl rfl (by kernel_rfl) (by kernel_rfl) ((by first | exact za8 rfl | exact zM rfl)) ?_
     refine ahp 49 rfl rfl (by kernel_rfl) (by kernel_rfl) ((by first | exact zb zQ rfl ty9 (by decide) rfl | exact zg zQ rfl ty9 (by decide) rfl)) ?_
     refine ahe 50 rfl (by kernel_rfl) ?_
     refine zaL (zaU (i := 1) (j := y60) (f := 6) (y := zbi ⟨y73, y80, x.Stat, y87, x.At, y94, x.By⟩) (y' := zbi ⟨y73, y80, x.Stat, y87, x.At, y94, y97⟩) ty9 rfl (by omega) rfl rfl (zbS (zbS (zbS (zbS (zcq hx))))) rfl rfl (by simp [zh]) rfl ?_)
     refine ⟨fun _ => .inr (by simp [zaT, Region.binds]), ?_⟩
     refine ahz (by kernel_rfl) ?_
     exact ⟨(out.set y60 ⟨y73, y80, x.Stat, y87, x.At, y94, y97⟩, a3 + 1 + 1 + 1 + 1 + 1 + 1), ⟨by simp; omega, zf4 (P := zgD) g2 (by
      have hgx := g2 x (List.mem_of_getElem? hx)
      exact ⟨by simp at hy73; rcases hy73 with rfl | rfl | rfl; exact hgx.1; exact zm9; (unfold Sh; simp), hgx.2.1, by simp at hy97; rcases hy97 with rfl | rfl <;> (unfold Sh; simp)⟩), by dsimp only; omega⟩, trivial, (by repeat (first | exact zp | refine zt rfl ?_ | refine zq rfl rfl ?_)), by repeat (first | exact List.Perm.nil | refine zI 0 rfl ?_ | refine zI 1 rfl ?_ | refine zI 2 rfl ?_ | refine zI 3 rfl ?_ | (refine zD 0 rfl ?hq ?_; (case hq => simp [zO, zh]; done)) | (refine zD 1 rfl ?hq ?_; (case hq => simp [zO, zh]; done)) | (refine zD 2 rfl ?hq ?_; (case hq => simp [zO, zh]; done)) | (refine zD 3 rfl ?hq ?_; (case hq => simp [zO, zh]; done)) | fail)⟩
    ·try simp at h12
     refine zl ?_
     exact ⟨(out, a3), ⟨by dsimp only; omega, g2, by dsimp only; omega⟩, trivial, (by repeat (first | exact zp | refine zt rfl ?_ | refine zq rfl rfl ?_)), by repeat (first | exact List.Perm.nil | refine zI 0 rfl ?_ | refine zI 1 rfl ?_ | refine zI 2 rfl ?_ | refine zI 3 rfl ?_ | (refine zD 0 rfl ?hq ?_; (case hq => simp [zO, zh]; done)) | (refine zD 1 rfl ?hq ?_; (case hq => simp [zO, zh]; done)) | (refine zD 2 rfl ?hq ?_; (case hq => simp [zO, zh]; done)) | (refine zD 3 rfl ?hq ?_; (case hq => simp [zO, zh]; done)) | fail)⟩
   ·intro q5 hq5
    obtain ⟨k1, a4⟩ := q5
    dsimp only at hq5
    obtain ⟨q1, q2, q3⟩ := hq5
    refine za ?_
    refine dmv rfl ?_
    refine das rfl ?_
    refine dn ?_
    refine zk ?_
    exact zat (Ghost.fa 2 (i := 1) rfl rfl) rfl ⟨k1, a4, rfl, ⟨by omega, q2⟩, by omega, rfl⟩
end
section
open Go.HL
set_option linter.unusedSimpArgs false
end
section
open Go.HL
/-- benchwarmer/benchlaw1.played -/
theorem zkD [Tracks]  (hT : Tracks.on = false) : ConP Tryz.prog 28 [] (.bool true) := by
 refine Con.of_body Tryz.func28 rfl Tryz.ntmps28 rfl rfl ?_
 refine za ?_
 refine das rfl ?_
 refine dn ?_
 refine za ?_
 refine dq (zaw (cs := [_, _, _, _, _, _, _, _, _]) zm zi4 rfl) ?_
 refine dq (zw (hs := [_]) zaC zm rfl rfl (by decide) (by decide) rfl) ?_
 refine dq (zw (hs := [_]) zaj ty9 rfl rfl (by decide) (by decide) rfl) ?_
 refine dq (zj (hs' := [zbD [zkU], eSs [[115]], .int .i64 1, .int .i64 5]) ca39 rfl (WeakL.refl _) (zps hT (by decide) (by decide))) ?_
 refine dmv rfl ?_
 refine dq (zx rfl rfl) ?_
 refine dq (zx rfl rfl) ?_
 refine das rfl ?_
 refine das rfl ?_
 refine dn ?_
 simp only [zvH, zvE]
 refine za ?_
 refine dmv rfl ?_
 refine dq (zaJ rfl rfl) ?_
 refine dmv rfl ?_
 refine dg rfl rfl (fun hc => ⟨_, OpenTo.refl _, zd rfl⟩) ?_
 refine dg rfl rfl (fun hc => ⟨_, OpenTo.upd (t := 13) rfl (by first | exact hc | simp_all) (OpenTo.refl _), zL zbl rfl⟩) ?_
 refine dg rfl rfl (fun hc => ⟨_, OpenTo.upd (t := 14) rfl (by first | exact hc | simp_all) (OpenTo.refl _), zaJ rfl rfl⟩) ?_
 refine dq (zv rfl (.inr ⟨_, rfl, fun h => by simp_all⟩) (.inl rfl)) ?_
 refine dmv rfl ?_
 refine dg rfl rfl (fun hc => ⟨_, OpenTo.refl _, zd rfl⟩) ?_
 refine dg rfl rfl (fun hc => ⟨_, OpenTo.upd (t := 18) rfl (by first | exact hc | simp_all) (OpenTo.refl _), zP (j := 0) (a := zo1) zbl zag rfl rfl rfl rfl⟩) ?_
 refine dg rfl rfl (fun hc => ⟨_, OpenTo.upd (t := 19) rfl (by first | exact hc | simp_all) (OpenTo.refl _), zN zag rfl rfl rfl rfl⟩) ?_
 refine dg rfl rfl (fun hc => ⟨_, OpenTo.refl _, zaw (cs := [_, _]) zam zpb rfl⟩) ?_
 refine dg rfl rfl (fun hc => ⟨_, OpenTo.upd (t := 21) rfl (by first | exact hc | simp_all) (OpenTo.refl _), zw (hs := [_]) zax zam rfl rfl (by decide) (by decide) rfl⟩) ?_
 refine dg rfl rfl (fun hc => ⟨_, OpenTo.upd (t := 22) rfl (by first | exact hc | simp_all) (OpenTo.refl _), zaw (cs := [_, _, _]) zag zpt rfl⟩) ?_
 refine dg rfl rfl (fun hc => ⟨_, OpenTo.upd (t := 23) rfl (by first | exact hc | simp_all) (OpenTo.upd (t := 20) rfl (by first | exact hc | simp_all) (OpenTo.refl _)), zj ca73 rfl (WeakL.refl _) (zjw (x := zo1) (by decide))⟩) ?_
 refine dq (zv rfl (.inr ⟨_, rfl, fun h => by simp_all⟩) (.inl rfl)) ?_
 refine das rfl ?_
 refine dn ?_
 refine zk ?_
 refine zF rfl ?_
 rfl
end
section
open Go.HL
/-- slices.Equal[[]benchwarmer/api.Play,benchwarmer/api.Play] -/
theorem ze8 [Tracks] {l m : List Play} (hl : l.length ≤ 1000000) : ConP Tryz.prog 8 [zbD l, zbD m] (.bool (zbG zR l m)) := by
 refine Con.of_body Tryz.func8 rfl Tryz.ntmps8 rfl rfl ?_
 refine za ?_
 refine das rfl ?_
 refine dn ?_
 refine zf ?_
 refine za ?_
 refine dmv rfl ?_
 refine dq (zL zaC rfl) ?_
 refine dmv rfl ?_
 refine dq (zL zaC rfl) ?_
 refine dq (zai rfl rfl) ?_
 refine dn ?_
 refine zi rfl (fun h1 => ?_) (fun h2 => ?_)
 ·try simp at h1
  refine za ?_
  refine das rfl ?_
  refine dn ?_
  refine zk ?_
  refine zF rfl ?_
  show HVal.bool _ = _
  first | (congr 1; symm; exact zdK (by omega)) | (rw [hg.2, zbG, show zdt zR x y = false from h5]; rfl) | (rw [hg.2, zap (Nat.le_of_eq hg.1.symm)]; rfl)
 ·try simp at h2
  refine zl ?_
  refine ze ?_
  refine zf ?_
  refine za ?_
  refine dmv rfl ?_
  refine dq (zL zaC rfl) ?_
  refine dmv rfl ?_
  refine dn ?_
  refine zn ?_
  refine zak [4, 5, 13, 14, 15, 16, 17, 18, 19, 20, 21, 22, 23, 24, 25] (fun (k : Nat) => [(13, .int .i64 k)]) (fun (k : Nat) => []) (fun (k : Nat) => k ≤ l.length ∧ (l.length = m.length ∧ zbG zR l m = zbG zR (l.drop k) (m.drop k))) (fun (k : Nat) => l.length - k) (0) ?_ ?_ ?_ ?_
  ·refine ⟨Nat.zero_le _, ?_, rfl⟩
   omega
  ·exact ⟨rfl, trivial⟩
  ·exact List.Perm.refl _
  ·intro k hinv
   obtain ⟨hk, hg⟩ := hinv
   refine za ?_
   refine dq (zW rfl rfl) ?_
   refine dn ?_
   refine zf ?_
   refine zi rfl (fun h3 => ?_) (fun h4 => ?_)
   ·try simp at h3
    obtain ⟨x, hx⟩ : ∃ x, l[k]? = some x := ⟨_, List.getElem?_eq_getElem h3⟩
    have hdx := zX hx
    obtain ⟨y, hy⟩ : ∃ y, m[k]? = some y := ⟨_, List.getElem?_eq_getElem (by omega)⟩
    rw [hdx, zX hy] at hg
    refine zl ?_
    refine ze ?_
    refine zf ?_
    refine zn ?_
    refine za ?_
    refine dmv rfl ?_
    refine das rfl ?_
    refine dn ?_
    refine zaM (fun _ => True) [] mixed ?_
    refine ahp 0 rfl rfl (by kernel_rfl) (by kernel_rfl) (zd rfl) ?_
    refine ahp 1 rfl rfl (by kernel_rfl) (by kernel_rfl) (zd rfl) ?_
    refine ahp 2 rfl rfl (by kernel_rfl) (by kernel_rfl) (zP zaC zm rfl rfl rfl (by first | assumption | simp_all)) ?_
    refine ahp 3 rfl rfl (by kernel_rfl) (by kernel_rfl) (zN zm rfl rfl rfl rfl) ?_
    refine ahp 4 rfl rfl (by kernel_rfl) (by kernel_rfl) (zd rfl) ?_
    refine ahp 5 rfl rfl (by kernel_rfl) (by kernel_rfl) (zd rfl) ?_
    refine ahp 6 rfl rfl (by kernel_rfl) (by kernel_rfl) (zP zaC zm rfl rfl rfl (by first | assumption | simp_all)) ?_
    refine ahp 7 rfl rfl (by kernel_rfl) (by kernel_rfl) (zN zm rfl rfl rfl rfl) ?_
    refine ahp 8 rfl rfl (by kernel_rfl) (by kernel_rfl) (zkH zm eq35 rfl rfl ⟨rfl, ⟨_, _, _, _, ty9, rfl⟩, ⟨rfl, ⟨_, _, _, _, ty3, rfl⟩, ⟨rfl, ⟨_, _, _, _, ty3, rfl⟩, ⟨rfl, ⟨_, _, _, _, ty3, rfl⟩, ⟨rfl, ⟨_, _, _, _, ty9, rfl⟩, ⟨rfl, ⟨_, _, _, _, ty9, rfl⟩, ⟨rfl, ⟨_, _, _, _, ty9, rfl⟩, ⟨rfl, ⟨_, _, _, _, ty3, rfl⟩, ⟨rfl, ⟨_, _, _, _, ty3, rfl⟩, trivial⟩⟩⟩⟩⟩⟩⟩⟩⟩) ?_
    refine ahz (by kernel_rfl) ?_
    refine zi rfl (fun h5 => ?_) (fun h6 => ?_)
    ·try simp at h5
     refine za ?_
     refine das rfl ?_
     refine dn ?_
     refine zk ?_
     refine zF rfl ?_
     show HVal.bool _ = _
     first | (congr 1; symm; exact zdK (by omega)) | (rw [hg.2, zbG, show zdt zR x y = false from h5]; rfl) | (rw [hg.2, zap (Nat.le_of_eq hg.1.symm)]; rfl)
    ·try simp at h6
     refine zl ?_
     refine zG ?_
     refine ze ?_
     refine zB ?_
     refine dq (zC rfl rfl (by omega) (by omega)) ?_
     refine dmv rfl ?_
     refine dn ?_
     refine ⟨k + 1, ?_, ?_, ⟨rfl, trivial⟩, (by repeat (first | exact zp | refine zt rfl ?_ | refine zq rfl rfl ?_)), List.Perm.refl _⟩
     ·refine ⟨by omega, hg.1, ?_⟩
      rw [hg.2, zbG, show zdt zR x y = true from h6]; rfl
     ·dsimp only; omega
   ·try simp at h4
    have hnk : l.length ≤ k := by omega
    obtain rfl : k = l.length := by omega
    rw [zap (Nat.le_refl _)] at hg
    refine zU ?_
    refine z6 ?_
    refine zas ?_
    refine zJ ?_
    refine ze ?_
    refine za ?_
    refine das rfl ?_
    refine dn ?_
    refine zk ?_
    refine zF rfl ?_
    show HVal.bool _ = _
    first | (congr 1; symm; exact zdK (by omega)) | (rw [hg.2, zbG, show zdt zR x y = false from h5]; rfl) | (rw [hg.2, zap (Nat.le_of_eq hg.1.symm)]; rfl)

/-- slices.Equal[[]benchwarmer/api.Turned,benchwarmer/api.Turned] -/
theorem zeG [Tracks] {l m : List TurnedS} (hl : l.length ≤ 1000000) : ConP Tryz.prog 25 [zcN l, zcN m] (.bool (zbG zaH l m)) := by
 refine Con.of_body Tryz.func25 rfl Tryz.ntmps25 rfl rfl ?_
 refine za ?_
 refine das rfl ?_
 refine dn ?_
 refine zf ?_
 refine za ?_
 refine dmv rfl ?_
 refine dq (zL zhh rfl) ?_
 refine dmv rfl ?_
 refine dq (zL zhh rfl) ?_
 refine dq (zai rfl rfl) ?_
 refine dn ?_
 refine zi rfl (fun h1 => ?_) (fun h2 => ?_)
 ·try simp at h1
  refine za ?_
  refine das rfl ?_
  refine dn ?_
  refine zk ?_
  refine zF rfl ?_
  show HVal.bool _ = _
  first | (congr 1; symm; exact zdK (by omega)) | (rw [hg.2, zbG, show zdt zaH x y = false from h5]; rfl) | (rw [hg.2, zap (Nat.le_of_eq hg.1.symm)]; rfl)
 ·try simp at h2
  refine zl ?_
  refine ze ?_
  refine zf ?_
  refine za ?_
  refine dmv rfl ?_
  refine dq (zL zhh rfl) ?_
  refine dmv rfl ?_
  refine dn ?_
  refine zn ?_
  refine zak [4, 5, 13, 14, 15, 16, 17, 18, 19, 20, 21, 22, 23, 24, 25] (fun (k : Nat) => [(13, .int .i64 k)]) (fun (k : Nat) => []) (fun (k : Nat) => k ≤ l.length ∧ (l.length = m.length ∧ zbG zaH l m = zbG zaH (l.drop k) (m.drop k))) (fun (k : Nat) => l.length - k) (0) ?_ ?_ ?_ ?_
  ·refine ⟨Nat.zero_le _, ?_, rfl⟩
   omega
  ·exact ⟨rfl, trivial⟩
  ·exact List.Perm.refl _
  ·intro k hinv
   obtain ⟨hk, hg⟩ := hinv
   refine za ?_
   refine dq (zW rfl rfl) ?_
   refine dn ?_
   refine zf ?_
   refine zi rfl (fun h3 => ?_) (fun h4 => ?_)
   ·try simp at h3
    obtain ⟨x, hx⟩ : ∃ x, l[k]? = some x := ⟨_, List.getElem?_eq_getElem h3⟩
    have hdx := zX hx
    obtain ⟨y, hy⟩ : ∃ y, m[k]? = some y := ⟨_, List.getElem?_eq_getElem (by omega)⟩
    rw [hdx, zX hy] at hg
    refine zl ?_
    refine ze ?_
    refine zf ?_
    refine zn ?_
    refine za ?_
    refine dmv rfl ?_
    refine das rfl ?_
    refine dn ?_
    refine zaM (fun _ => True) [] mixed ?_
    refine ahp 0 rfl rfl (by kernel_rfl) (by kernel_rfl) (zd rfl) ?_
    refine ahp 1 rfl rfl (by kernel_rfl) (by kernel_rfl) (zd rfl) ?_
    refine ahp 2 rfl rfl (by kernel_rfl) (by kernel_rfl) (zP zhh zbE rfl rfl rfl (by first | assumption | simp_all)) ?_
    refine ahp 3 rfl rfl (by kernel_rfl) (by kernel_rfl) (zN zbE rfl rfl rfl rfl) ?_
    refine ahp 4 rfl rfl (by kernel_rfl) (by kernel_rfl) (zd rfl) ?_
    refine ahp 5 rfl rfl (by kernel_rfl) (by kernel_rfl) (zd rfl) ?_
    refine ahp 6 rfl rfl (by kernel_rfl) (by kernel_rfl) (zP zhh zbE rfl rfl rfl (by first | assumption | simp_all)) ?_
    refine ahp 7 rfl rfl (by kernel_rfl) (by kernel_rfl) (zN zbE rfl rfl rfl rfl) ?_
    refine ahp 8 rfl rfl (by kernel_rfl) (by kernel_rfl) (zkH zbE eq56 rfl rfl ⟨rfl, ⟨_, _, _, _, ty9, rfl⟩, ⟨rfl, ⟨_, _, _, _, ty3, rfl⟩, ⟨rfl, ⟨_, _, _, _, ty9, rfl⟩, ⟨rfl, ⟨_, _, _, _, ty3, rfl⟩, ⟨rfl, ⟨_, _, _, _, ty3, rfl⟩, trivial⟩⟩⟩⟩⟩) ?_
    refine ahz (by kernel_rfl) ?_
    refine zi rfl (fun h5 => ?_) (fun h6 => ?_)
    ·try simp at h5
     refine za ?_
     refine das rfl ?_
     refine dn ?_
     refine zk ?_
     refine zF rfl ?_
     show HVal.bool _ = _
     first | (congr 1; symm; exact zdK (by omega)) | (rw [hg.2, zbG, show zdt zaH x y = false from h5]; rfl) | (rw [hg.2, zap (Nat.le_of_eq hg.1.symm)]; rfl)
    ·try simp at h6
     refine zl ?_
     refine zG ?_
     refine ze ?_
     refine zB ?_
     refine dq (zC rfl rfl (by omega) (by omega)) ?_
     refine dmv rfl ?_
     refine dn ?_
     refine ⟨k + 1, ?_, ?_, ⟨rfl, trivial⟩, (by repeat (first | exact zp | refine zt rfl ?_ | refine zq rfl rfl ?_)), List.Perm.refl _⟩
     ·refine ⟨by omega, hg.1, ?_⟩
      rw [hg.2, zbG, show zdt zaH x y = true from h6]; rfl
     ·dsimp only; omega
   ·try simp at h4
    have hnk : l.length ≤ k := by omega
    obtain rfl : k = l.length := by omega
    rw [zap (Nat.le_refl _)] at hg
    refine zU ?_
    refine z6 ?_
    refine zas ?_
    refine zJ ?_
    refine ze ?_
    refine za ?_
    refine das rfl ?_
    refine dn ?_
    refine zk ?_
    refine zF rfl ?_
    show HVal.bool _ = _
    first | (congr 1; symm; exact zdK (by omega)) | (rw [hg.2, zbG, show zdt zaH x y = false from h5]; rfl) | (rw [hg.2, zap (Nat.le_of_eq hg.1.symm)]; rfl)

/-- benchwarmer/benchlaw1.when -/
theorem zlP [Tracks] {b : Bool} {n : Int}  : ConP Tryz.prog 22 [.bool b, .int .i64 n] (.int .i64 (if b then n else 0)) := by
 refine Con.of_body Tryz.func22 rfl Tryz.ntmps22 rfl rfl ?_
 refine za ?_
 refine das rfl ?_
 refine dn ?_
 refine zf ?_
 refine za ?_
 refine dmv rfl ?_
 refine dn ?_
 refine zi rfl (fun h1 => ?_) (fun h2 => ?_)
 ·try simp at h1
  refine za ?_
  refine dmv rfl ?_
  refine das rfl ?_
  refine dn ?_
  refine zk ?_
  refine zF rfl ?_
  show HVal.int .i64 _ = _
  simp_all
 ·try simp at h2
  refine zl ?_
  refine ze ?_
  refine za ?_
  refine das rfl ?_
  refine dn ?_
  refine zk ?_
  refine zF rfl ?_
  show HVal.int .i64 _ = _
  simp_all

set_option maxHeartbeats 4000000 in
/-- benchwarmer/benchlaw1.CountsTurned -/
theorem zem [Tracks] {l : List Int} (hT : Tracks.on = false) : ConP Tryz.prog 4 [.slice 1 (l.map (.int .i64))] (.bool true) := by
 refine Con.of_body Tryz.func4 rfl Tryz.ntmps4 rfl rfl ?_
 refine za ?_
 refine das rfl ?_
 refine dn ?_
 refine za ?_
 refine dmv rfl ?_
 refine dq (zaw (cs := [_, _]) zie pl25 rfl) ?_
 refine de rfl (zwe rfl rfl fun b => ?_)
 refine zwI (M' := [St b l 0]) rfl ?_
 refine das rfl ?_
 refine dn ?_
 refine za ?_
 refine dmv rfl ?_
 first
 | refine de rfl (zo (i := 0) zpn rfl (WeakL.refl _) rfl (zbO (by first | assumption | omega | (simp; omega) | simp_all)) ?_)
 | refine de rfl (zo (i := 1) zpn rfl (WeakL.refl _) rfl (zbO (by first | assumption | omega | (simp; omega) | simp_all)) ?_)
 | refine de rfl (zo (i := 2) zpn rfl (WeakL.refl _) rfl (zbO (by first | assumption | omega | (simp; omega) | simp_all)) ?_)
 | refine de rfl (zo (i := 3) zpn rfl (WeakL.refl _) rfl (zbO (by first | assumption | omega | (simp; omega) | simp_all)) ?_)
 rintro _ _ ⟨p26, a26, rfl, hp26, ha26, rfl⟩
 refine dmv rfl ?_
 first
 | refine de rfl (zo (i := 0) zrY rfl (WeakL.refl _) rfl (zb1 (by first | assumption | omega | (simp; omega) | simp_all)) ?_)
 | refine de rfl (zo (i := 1) zrY rfl (WeakL.refl _) rfl (zb1 (by first | assumption | omega | (simp; omega) | simp_all)) ?_)
 | refine de rfl (zo (i := 2) zrY rfl (WeakL.refl _) rfl (zb1 (by first | assumption | omega | (simp; omega) | simp_all)) ?_)
 | refine de rfl (zo (i := 3) zrY rfl (WeakL.refl _) rfl (zb1 (by first | assumption | omega | (simp; omega) | simp_all)) ?_)
 rintro _ _ ⟨t28, a28, rfl, ht28, ha28, rfl⟩
 refine dmv rfl ?_
 first
 | refine de rfl (zo (i := 0) zst rfl (WeakL.refl _) rfl (zca (by first | assumption | omega | (simp; omega) | simp_all)) ?_)
 | refine de rfl (zo (i := 1) zst rfl (WeakL.refl _) rfl (zca (by first | assumption | omega | (simp; omega) | simp_all)) ?_)
 | refine de rfl (zo (i := 2) zst rfl (WeakL.refl _) rfl (zca (by first | assumption | omega | (simp; omega) | simp_all)) ?_)
 | refine de rfl (zo (i := 3) zst rfl (WeakL.refl _) rfl (zca (by first | assumption | omega | (simp; omega) | simp_all)) ?_)
 rintro _ _ ⟨m30, a30, rfl, hm30, ha30, rfl⟩
 refine dmv rfl ?_
 refine dq (zw (hs := [_, _, _, _]) zaq ty3 rfl rfl (by decide) (by decide) rfl) ?_
 first
 | refine de rfl (zo (i := 0) zbn rfl (WeakL.refl _) rfl (zy (L := [_, _, _, _]) (by first | assumption | omega | (simp; omega) | simp_all) (by first | assumption | omega | (simp; omega) | simp_all) (by first | assumption | omega | (simp; omega) | simp_all)) ?_)
 | refine de rfl (zo (i := 1) zbn rfl (WeakL.refl _) rfl (zy (L := [_, _, _, _]) (by first | assumption | omega | (simp; omega) | simp_all) (by first | assumption | omega | (simp; omega) | simp_all) (by first | assumption | omega | (simp; omega) | simp_all)) ?_)
 | refine de rfl (zo (i := 2) zbn rfl (WeakL.refl _) rfl (zy (L := [_, _, _, _]) (by first | assumption | omega | (simp; omega) | simp_all) (by first | assumption | omega | (simp; omega) | simp_all) (by first | assumption | omega | (simp; omega) | simp_all)) ?_)
 | refine de rfl (zo (i := 3) zbn rfl (WeakL.refl _) rfl (zy (L := [_, _, _, _]) (by first | assumption | omega | (simp; omega) | simp_all) (by first | assumption | omega | (simp; omega) | simp_all) (by first | assumption | omega | (simp; omega) | simp_all)) ?_)
 rintro _ _ ⟨y33, rfl, hy33, rfl⟩
 refine dmv rfl ?_
 first
 | refine de rfl (zo (i := 0) zjS rfl (WeakL.refl _) rfl (zaZ (by first | assumption | omega | (simp; omega) | simp_all)) ?_)
 | refine de rfl (zo (i := 1) zjS rfl (WeakL.refl _) rfl (zaZ (by first | assumption | omega | (simp; omega) | simp_all)) ?_)
 | refine de rfl (zo (i := 2) zjS rfl (WeakL.refl _) rfl (zaZ (by first | assumption | omega | (simp; omega) | simp_all)) ?_)
 | refine de rfl (zo (i := 3) zjS rfl (WeakL.refl _) rfl (zaZ (by first | assumption | omega | (simp; omega) | simp_all)) ?_)
 rintro _ _ ⟨y35, rfl, rfl⟩
 refine dmv rfl ?_
 first
 | refine de rfl (zo (i := 0) zjS rfl (WeakL.refl _) rfl (zaZ (by first | assumption | omega | (simp; omega) | simp_all)) ?_)
 | refine de rfl (zo (i := 1) zjS rfl (WeakL.refl _) rfl (zaZ (by first | assumption | omega | (simp; omega) | simp_all)) ?_)
 | refine de rfl (zo (i := 2) zjS rfl (WeakL.refl _) rfl (zaZ (by first | assumption | omega | (simp; omega) | simp_all)) ?_)
 | refine de rfl (zo (i := 3) zjS rfl (WeakL.refl _) rfl (zaZ (by first | assumption | omega | (simp; omega) | simp_all)) ?_)
 rintro _ _ ⟨y37, rfl, rfl⟩
 refine das rfl ?_
 refine das rfl ?_
 refine das rfl ?_
 refine das rfl ?_
 refine das rfl ?_
 refine das rfl ?_
 refine dn ?_
 have hpl := hp26.len
 have htl := ht28.len
 have hml := hm30.len
 obtain ⟨hte, htt⟩ := zuv hpl
 have hsl := zun (t := t28) (m := m30) (week := y33) (f := y35) (g := y37) hpl (by omega)
 refine za ?_
 refine dmv rfl ?_
 refine dq (zj zuq rfl (WeakL.refl _) (zeu (l := p26) (by omega))) ?_
 refine das rfl ?_
 refine dn ?_
 refine za ?_
 refine dmv rfl ?_
 refine dmv rfl ?_
 refine dq (zj ca18 rfl (WeakL.refl _) (zih (by omega) ht28.all)) ?_
 refine dmv rfl ?_
 refine dq (zj ca19 rfl (WeakL.refl _) (zin (m := m30) (by omega) hm30.all)) ?_
 refine dmv rfl ?_
 refine dq (zj zrQ rfl (WeakL.refl _) zcI) ?_
 refine dmv rfl ?_
 refine dq (zj zpo rfl (WeakL.refl _) zbP) ?_
 refine dmv rfl ?_
 refine dq (zj zpo rfl (WeakL.refl _) zbP) ?_
 refine dmv rfl ?_
 refine dmv rfl ?_
 refine dq (zW rfl rfl) ?_
 refine dq (zj ca22 rfl (WeakL.refl _) zlP) ?_
 refine dq (zw (hs := [_, _, _, _, _, _, _]) ziY zlV rfl rfl (by decide) (by decide) rfl) ?_
 refine dq (zj ca17 rfl (WeakL.refl _) (zks (l := [_, _, _, _, _, _, _]) (by simp))) ?_
 refine das rfl ?_
 refine dn ?_
 refine za ?_
 refine dmv rfl ?_
 refine dmv rfl ?_
 refine dmv rfl ?_
 refine dmv rfl ?_
 refine dmv rfl ?_
 refine dmv rfl ?_
 refine dq (zj ca23 rfl (WeakL.refl _) (znC (l := p26) (trust := t28) (m := m30) (week := y33) (f := y35) (g := y37) hT hpl (by omega) (by omega))) ?_
 refine dmv rfl ?_
 refine dq (zx rfl rfl) ?_
 refine dq (zx rfl rfl) ?_
 refine das rfl ?_
 refine das rfl ?_
 refine dn ?_
 refine za ?_
 refine das rfl ?_
 refine dn ?_
 refine zH (Ghost.arr_nil 5) ?_
 refine zH (Ghost.fa 14 (i := 0) rfl rfl) ?_
 refine zeb [11, 14, 67, 68, 69, 70, 71, 72, 73, 74, 75, 76, 77, 78] (fun (z : Unit) => [(14, zcN (zji p26 t28 m30 y33 y35 y37)), (11, .int .i64 (znn p26 t28 m30 y33 y35 y37))]) (fun (z : Unit) => [St b l (a30 + 1 + 1 + 1 + 1 + 1)]) (fun (z : Unit) => True) ?_ ?_
 ·skip
  refine za ?_
  refine dmv rfl ?_
  refine dq (zaJ rfl rfl) ?_
  refine dn ?_
  refine zi rfl (fun h1 => ?_) (fun h2 => ?_)
  ·try simp at h1
   obtain ⟨hz1, hz2, hz3, hz4, hz5, hz6, hz7⟩ := zsY (l := p26) (t := t28) (m := m30) (week := y33) (f := y35) (g := y37) (by simpa [zeC] using h1)
   obtain ⟨hse, hsl2⟩ := zqb (ztW hz1 hz2 hz3 hz4 hz5 hz6 hz7)
   refine zB ?_
   refine dmv rfl ?_
   refine dmv rfl ?_
   refine dmv rfl ?_
   refine dmv rfl ?_
   refine dmv rfl ?_
   refine dmv rfl ?_
   refine dq (zj ca24 rfl (WeakL.refl _) (zjP (l := p26) (trust := t28) (m := m30) (week := y33) (f := y35) (g := y37) hz1 hz2 hpl (by omega) (by omega) hz4 hz3)) ?_
   refine dmv rfl ?_
   refine dq (zx rfl rfl) ?_
   refine dq (zx rfl rfl) ?_
   refine das rfl ?_
   refine das rfl ?_
   refine dn ?_
   exact ⟨(), trivial, ⟨congrArg (fun z => some (zcN z)) hsl2.symm, congrArg (fun z => some (HVal.int .i64 z)) hse.symm, trivial⟩, (by repeat (first | exact zp | refine zt rfl ?_ | refine zq rfl rfl ?_)), List.Perm.refl _⟩
  ·try simp at h2
   refine zl ?_
   have hnz : zeC p26 t28 m30 y33 y35 y37 ≠ 0 := by simpa [zeC] using h2
   obtain ⟨hse, hsl2⟩ := zd8 hnz
   exact ⟨(), trivial, ⟨congrArg (fun z => some (zcN z)) hsl2.symm, congrArg (fun z => some (HVal.int .i64 z)) hse.symm, trivial⟩, (by repeat (first | exact zp | refine zt rfl ?_ | refine zq rfl rfl ?_)), List.Perm.refl _⟩
 ·intro z _
  refine zf ?_
  refine za ?_
  refine dmv rfl ?_
  refine dmv rfl ?_
  refine dq (zai rfl rfl) ?_
  refine dmv rfl ?_
  refine dg rfl rfl (fun hc => ⟨_, OpenTo.refl _, zd rfl⟩) ?_
  refine dg rfl rfl (fun hc => ⟨_, OpenTo.refl _, zd rfl⟩) ?_
  refine dg rfl rfl (fun hc => ⟨_, OpenTo.upd (t := 84) rfl (by first | exact hc | simp_all) (OpenTo.upd (t := 83) rfl (by first | exact hc | simp_all) (OpenTo.refl _)), zj ca25 rfl (WeakL.refl _) (zeG (l := (zji p26 t28 m30 y33 y35 y37)) (m := (zji p26 t28 m30 y33 y35 y37)) hsl)⟩) ?_
  refine dg rfl rfl (fun hc => ⟨_, OpenTo.upd (t := 85) rfl (by first | exact hc | simp_all) (OpenTo.refl _), zaa rfl⟩) ?_
  refine dq (zv rfl (.inl rfl) (.inr ⟨_, rfl, fun h => by simp_all⟩)) ?_
  refine dn ?_
  refine zi rfl (fun h3 => ?_) (fun h3 => ?_)
  ·exfalso
   try simp at h3
   simp [ziP] at h3
  ·try simp at h3
   refine zl ?_
   refine ze ?_
   refine za ?_
   refine dmv rfl ?_
   refine dq (zj ca6 rfl (WeakL.refl _) (zqw (l := p26) hT (by omega))) ?_
   refine dmv rfl ?_
   refine dq (zx rfl rfl) ?_
   refine dq (zx rfl rfl) ?_
   refine das rfl ?_
   refine das rfl ?_
   refine dn ?_
   refine zf ?_
   refine za ?_
   refine dmv rfl ?_
   refine dmv rfl ?_
   refine dq (zai rfl rfl) ?_
   refine dmv rfl ?_
   refine dg rfl rfl (fun hc => ⟨_, OpenTo.refl _, zd rfl⟩) ?_
   refine dg rfl rfl (fun hc => ⟨_, OpenTo.upd (t := 97) rfl (by first | exact hc | simp_all) (OpenTo.refl _), zaJ rfl rfl⟩) ?_
   refine dg rfl rfl (fun hc => ⟨_, OpenTo.upd (t := 98) rfl (by first | exact hc | simp_all) (OpenTo.refl _), zd rfl⟩) ?_
   refine dg rfl rfl (fun hc => ⟨_, OpenTo.refl _, zd rfl⟩) ?_
   refine dg rfl rfl (fun hc => ⟨_, OpenTo.refl _, zd rfl⟩) ?_
   refine dg rfl rfl (fun hc => by
    have h9 := hc
    simp at h9
    have hz := h9.2
    exact ⟨_, OpenTo.upd (t := 101) rfl (by first | exact hc | simp_all) (OpenTo.refl _), zj ca26 rfl (WeakL.refl _) (zfk (l := p26) hT hz)⟩) ?_
   refine dg rfl rfl (fun hc => ⟨_, OpenTo.upd (t := 102) rfl (by first | exact hc | simp_all) (OpenTo.upd (t := 100) rfl (by first | exact hc | simp_all) (OpenTo.refl _)), zf8 rfl rfl⟩) ?_
   refine dg rfl rfl (fun hc => ⟨_, OpenTo.upd (t := 99) rfl (by first | exact hc | simp_all) (OpenTo.refl _), zv rfl (.inr ⟨_, rfl, fun h => by simp_all⟩) (.inl rfl)⟩) ?_
   refine dq (zv rfl (.inl rfl) (.inr ⟨_, rfl, fun h => by simp_all⟩)) ?_
   refine dmv rfl ?_
   refine dg rfl rfl (fun hc => ⟨_, OpenTo.refl _, zd rfl⟩) ?_
   refine dg rfl rfl (fun hc => ⟨_, OpenTo.upd (t := 107) rfl (by first | exact hc | simp_all) (OpenTo.refl _), zai rfl rfl⟩) ?_
   refine dg rfl rfl (fun hc => ⟨_, OpenTo.upd (t := 108) rfl (by first | exact hc | simp_all) (OpenTo.refl _), zd rfl⟩) ?_
   refine dg rfl rfl (fun hc => ⟨_, OpenTo.refl _, zd rfl⟩) ?_
   refine dg rfl rfl (fun hc => ⟨_, OpenTo.upd (t := 110) rfl (by first | exact hc | simp_all) (OpenTo.refl _), zf8 rfl rfl⟩) ?_
   refine dg rfl rfl (fun hc => ⟨_, OpenTo.upd (t := 109) rfl (by first | exact hc | simp_all) (OpenTo.refl _), zv rfl (.inr ⟨_, rfl, fun h => by simp_all⟩) (.inl rfl)⟩) ?_
   refine dq (zv rfl (.inl rfl) (.inr ⟨_, rfl, fun h => by simp_all⟩)) ?_
   refine dn ?_
   refine zi rfl (fun h4 => ?_) (fun h4 => ?_)
   ·exfalso
    try simp at h4
    by_cases h0 : zz p26 = 0 <;> simp_all
   ·try simp at h4
    refine zl ?_
    refine ze ?_
    refine za ?_
    refine dmv rfl ?_
    first
    | refine de rfl (zo (i := 0) ca9 rfl (WeakL.refl _) rfl (zbF (by first | assumption | omega | (simp; omega) | simp_all) (by first | assumption | omega | (simp; omega) | simp_all)) ?_)
    | refine de rfl (zo (i := 1) ca9 rfl (WeakL.refl _) rfl (zbF (by first | assumption | omega | (simp; omega) | simp_all) (by first | assumption | omega | (simp; omega) | simp_all)) ?_)
    | refine de rfl (zo (i := 2) ca9 rfl (WeakL.refl _) rfl (zbF (by first | assumption | omega | (simp; omega) | simp_all) (by first | assumption | omega | (simp; omega) | simp_all)) ?_)
    | refine de rfl (zo (i := 3) ca9 rfl (WeakL.refl _) rfl (zbF (by first | assumption | omega | (simp; omega) | simp_all) (by first | assumption | omega | (simp; omega) | simp_all)) ?_)
    rintro _ _ ⟨t115, a115, rfl, ht115, ha115, rfl⟩
    refine das rfl ?_
    refine dn ?_
    refine za ?_
    refine dmv rfl ?_
    refine dq (zj ca7 rfl (WeakL.refl _) (zqy (text := t115) (by omega))) ?_
    refine dmv rfl ?_
    refine dq (zx rfl rfl) ?_
    refine dq (zx rfl rfl) ?_
    refine dq (zx rfl rfl) ?_
    refine das rfl ?_
    refine das rfl ?_
    refine das rfl ?_
    refine dn ?_
    refine za ?_
    refine dmv rfl ?_
    refine dq (zj ca27 rfl (WeakL.refl _) (ziS (text := t115) (by omega))) ?_
    refine dmv rfl ?_
    refine dq (zx rfl rfl) ?_
    refine dq (zx rfl rfl) ?_
    refine dq (zx rfl rfl) ?_
    refine das rfl ?_
    refine das rfl ?_
    refine das rfl ?_
    refine dn ?_
    refine za ?_
    refine dmv rfl ?_
    refine dmv rfl ?_
    refine dq (zaJ rfl rfl) ?_
    refine dmv rfl ?_
    refine dg rfl rfl (fun hc => ⟨_, OpenTo.refl _, zd rfl⟩) ?_
    refine dg rfl rfl (fun hc => ⟨_, OpenTo.refl _, zd rfl⟩) ?_
    refine dg rfl rfl (fun hc => ⟨_, OpenTo.upd (t := 133) rfl (by first | exact hc | simp_all) (OpenTo.upd (t := 132) rfl (by first | exact hc | simp_all) (OpenTo.refl _)), zaJ rfl rfl⟩) ?_
    refine dq (zv rfl (.inr ⟨_, rfl, fun h => by simp_all⟩) (.inl rfl)) ?_
    refine dmv rfl ?_
    refine dg rfl rfl (fun hc => ⟨_, OpenTo.refl _, zd rfl⟩) ?_
    refine dg rfl rfl (fun hc => ⟨_, OpenTo.refl _, zd rfl⟩) ?_
    refine dg rfl rfl (fun hc => by have hq := hc; (try simp at hq); exact ⟨_, OpenTo.upd (t := 138) rfl (by first | exact hc | simp_all) (OpenTo.upd (t := 137) rfl (by first | exact hc | simp_all) (OpenTo.refl _)), zj ca8 rfl (WeakL.refl _) (ze8 (l := txP plB plP zz t115) (m := txP plB plP zz t115) (Nat.le_trans (zws plB plP zz t115) (by omega)))⟩) ?_
    refine dq (zv rfl (.inr ⟨_, rfl, fun h => by simp_all⟩) (.inl rfl)) ?_
    refine dmv rfl ?_
    refine dg rfl rfl (fun hc => ⟨_, OpenTo.refl _, zj ca28 rfl (WeakL.refl _) (zkD hT)⟩) ?_
    refine dq (zv rfl (.inr ⟨_, rfl, fun h => by simp_all⟩) (.inl rfl)) ?_
    refine das rfl ?_
    refine dn ?_
    refine zk ?_
    refine zat Ghost.clear rfl ⟨?_, rfl⟩
    show HVal.bool _ = _
    simp [zki]
end
end Go.Proofs.YtjecenjmphpmfaaGreatDoor
namespace Go.HL
section
open Go
theorem zoN {H : Type} {enc : TypeId × Value → H} {a : Assume} {C : Checked} {os : Os} {f : FuncId} {fn : Func} {s : ChangeSpec} {conds : List PathCond} {apart fresh handsOn again : Bool} {X : World → Array Value → Prop}
 (hX : ∀ (w w' : World) (args : Array Value), w.heap = w'.heap → X w args → X w' args)
 (own : ownKnob C.prog.godebug = none) (started : os.Started) (noInit : C.prog.inits.idxOf? f = none) (hfn : C.prog.funcs[f]? = some fn)
 (witness : ∃ (w : World) (tape : Tape) (i : Input), w.os = os ∧ (w.forCall tape i).Shaped C.prog ∧ i.vars = [] ∧ Input.okWide C.prog (w.forCall tape i) .any w.heap.size f i ∧
   ((s.pre enc C.prog fn conds apart (w.forCall tape i).memory i.args ∧ X (w.forCall tape i).memory i.args) ∧ sizedMet enc C.prog fn (OpenSpec.ofChange s) apart (w.forCall tape i).memory i.args) ∧ a.holds C.prog (lone (Frame.enter C.prog f i.args .normal) [] (w.forCall tape i)))
 (contract : ∀ (W : World) (base : Nat) (args : Array Value) (ds gs : List (DataW H)) (before : List MemPlace),
   (∀ (j : Nat) t v, fn.params[j]? = some t → args[j]? = some v → Value.okWide C.prog W .any base t v) → DataW.Whole enc C.prog fn.params.toList s.vars apart W args.toList ds gs before →
   X W args → W.ShapedOpen C.prog → Calls C.prog f args W fun e W' => ∃ v, e = .returned v ∧ s.post enc C.prog fn apart fresh handsOn again W args v W') :
 ReturnsInHanded a C os f .any (fun w args => (s.pre enc C.prog fn conds apart w args ∧ X w args) ∧ sizedMet enc C.prog fn (OpenSpec.ofChange s) apart w args) (s.post enc C.prog fn apart fresh handsOn again) := by
 refine returnsInHanded_of_calls own started noInit witness fun w tape i _ hsh _ hok hpre _ => ?_
 obtain ⟨_, _, _, fn', hfn', _, _, _, _, hval⟩ := hok
 obtain rfl : fn' = fn := Option.some.inj (hfn'.symm.trans hfn)
 obtain ⟨⟨⟨ds, gs, before, hw, _⟩, hx⟩, _⟩ := hpre
 refine (contract (w.forCall tape i) w.heap.size i.args ds gs before hval (DataW.Whole.of_heap (w' := w.forCall tape i) (by rfl) hw) (hX _ _ _ (by rfl) hx) hsh).mono fun e W' ⟨v, he, hp⟩ => ?_
 subst he
 exact ChangeSpec.post_blind hp
end
end Go.HL
namespace Go.Proofs
section
open Go.Shelf
def Tryz.laysm146_ren : Go.Shelf.Ren := ⟨fun | 146 => 71 | 221 => 121 | 268 => 172 | 138 => 81 | 143 => 131 | 195 => 129 | 197 => 189 | 218 => 130 | 219 => 181 | 260 => 255 | 217 => 150 | 225 => 241 | 224 => 242 | 267 => 243 | 266 => 192 | 314 => 281 | n => n, fun | 9 => 9 | 31 => 39 | 3 => 3 | 4 => 4 | 0 => 0 | 105 => 241 | 21 => 21 | 5 => 5 | 46 => 212 | 119 => 311 | 139 => 314 | 138 => 313 | 146 => 302 | 51 => 252 | n => n, fun | 1 => 0 | 3 => 2 | 4 => 3 | n => n⟩
theorem Tryz.laysm146 : Go.Proofs.LaysM.n146 Tryz.prog Tryz.laysm146_ren := {
 mixed := by kernel_rfl
 f138 := Tryz.func81.trans (congrArg some (by kernel_rfl))
 f143 := Tryz.func131.trans (congrArg some (by kernel_rfl))
 f146 := Tryz.func71.trans (congrArg some (by kernel_rfl))
 f195 := Tryz.func129.trans (congrArg some (by kernel_rfl))
 f197 := Tryz.func189.trans (congrArg some (by kernel_rfl))
 f217 := Tryz.func150.trans (congrArg some (by kernel_rfl))
 f218 := Tryz.func130.trans (congrArg some (by kernel_rfl))
 f219 := Tryz.func181.trans (congrArg some (by kernel_rfl))
 f221 := Tryz.func121.trans (congrArg some (by kernel_rfl))
 f224 := Tryz.func242.trans (congrArg some (by kernel_rfl))
 f225 := Tryz.func241.trans (congrArg some (by kernel_rfl))
 f260 := Tryz.func255.trans (congrArg some (by kernel_rfl))
 f266 := Tryz.func192.trans (congrArg some (by kernel_rfl))
 f267 := Tryz.func243.trans (congrArg some (by kernel_rfl))
 f268 := Tryz.func172.trans (congrArg some (by kernel_rfl))
 f314 := Tryz.func281.trans (congrArg some (by kernel_rfl))
 t0 := Tryz.underlying0
 a0 := Tryz.isAgg0
 z0 := Tryz.sizeOf0
 v0 := Tryz.zeroValue0
 t3 := Tryz.underlying3
 a3 := Tryz.isAgg3
 z3 := Tryz.sizeOf3
 v3 := Tryz.zeroValue3
 t4 := Tryz.underlying4
 a4 := Tryz.isAgg4
 z4 := Tryz.sizeOf4
 v4 := Tryz.zeroValue4
 t5 := Tryz.underlying5
 a5 := Tryz.isAgg5
 z5 := Tryz.sizeOf5
 v5 := Tryz.zeroValue5
 t9 := Tryz.underlying9
 a9 := Tryz.isAgg9
 z9 := Tryz.sizeOf9
 v9 := Tryz.zeroValue9
 t21 := Tryz.underlying21
 a21 := Tryz.isAgg21
 z21 := Tryz.sizeOf21
 v21 := Tryz.zeroValue21
 t31 := Tryz.underlying39
 a31 := Tryz.isAgg39
 z31 := Tryz.sizeOf39
 v31 := Tryz.zeroValue39
 t46 := Tryz.underlying212
 a46 := Tryz.isAgg212
 z46 := Tryz.sizeOf212
 v46 := Tryz.zeroValue212
 t51 := Tryz.underlying252
 a51 := Tryz.isAgg252
 z51 := Tryz.sizeOf252
 v51 := Tryz.zeroValue252
 t105 := Tryz.underlying241
 a105 := Tryz.isAgg241
 z105 := Tryz.sizeOf241
 v105 := Tryz.zeroValue241
 t119 := Tryz.underlying311
 a119 := Tryz.isAgg311
 z119 := Tryz.sizeOf311
 t138 := Tryz.underlying313
 a138 := Tryz.isAgg313
 z138 := Tryz.sizeOf313
 v138 := Tryz.zeroValue313
 t139 := Tryz.underlying314
 a139 := Tryz.isAgg314
 z139 := Tryz.sizeOf314
 v139 := Tryz.zeroValue314
 t146 := Tryz.underlying302
 a146 := Tryz.isAgg302
 z146 := Tryz.sizeOf302
 v146 := Tryz.zeroValue302
 g1 := by kernel_rfl
 g3 := by kernel_rfl
 g4 := by kernel_rfl
 i0 := by kernel_rfl
 i3 := by kernel_rfl
 i4 := by kernel_rfl
 i5 := by kernel_rfl
 i9 := by kernel_rfl
 i21 := by kernel_rfl
 i31 := by kernel_rfl
 i46 := by kernel_rfl
 i51 := by kernel_rfl
 i105 := by kernel_rfl
 i138 := by kernel_rfl
 i139 := by kernel_rfl
 i146 := by kernel_rfl
 m1 := by kernel_rfl
 s1_3 := fun w h => Go.Proofs.cell_of_shapedOpen_int (zero := #[.int .i64 0]) (t := 3) h (of_decide_eq_true (by kernel_rfl)) (by kernel_rfl) rfl (by kernel_rfl) (by kernel_rfl) Tryz.underlying3
 m3 := by kernel_rfl
 m4 := by kernel_rfl }
end
end Go.Proofs
namespace Go.Proofs.YtjecenjmphpmfaaGreatDoor
section
open Go.ChangeShapes Go.WideShapes Go.ChangeAt Go.RowKit Go.HL
theorem zmr : ownKnob Tryz.prog.godebug = none := by kernel_rfl
theorem zfU : laidOutB Tryz.prog = true := by kernel_rfl
theorem zk6 : Tryz.prog.cellsOf 3 = 1 := by kernel_rfl
theorem zmH {W : World} (h : laidMetH Tryz.prog Rows.countsTurnedRow.laid W) (hsh : W.ShapedOpen Tryz.prog) : TabI Tryz.prog (zb8 W) := by
 rw [MakeChecks.laidMetH_plain _ _ _ (by kernel_rfl)] at h
 letI : Tracks := ⟨false⟩
 exact zqk (i := 2) (g := 1) (t := 273) h (by kernel_rfl) (by kernel_rfl) (by kernel_rfl) Tryz.underlying273 Tryz.underlying231 (by kernel_rfl) (by kernel_rfl) (fun g hg => by
  obtain rfl : Tryz.laysm146_ren.g 1 = g := Option.some.inj (Tryz.laysm146.m1.symm.trans hg)
  exact Tryz.laysm146.s1_3 W hsh)
theorem zk7 {W : World} (ht : TabI Tryz.prog (zb8 W)) {a : Option Addr} {len cap : Nat} {H : Type} {enc : TypeId × Value → H} {d0 : DataW H} {p : List MemPlace} (h : DataW.Trod enc Tryz.prog W 0 (fun _ => true) true 22 (.slice a len cap) d0 p) :
 Calls Tryz.prog 4 #[.slice a len cap] W fun e W' => e = .returned (.bool true) ∧ Below W.heap.size W W' := by
 obtain ⟨fuel, hf⟩ := h
 rcases open_ints Tryz.underlying22 Tryz.underlying3 zk6 hf with ⟨hcs, hx⟩ | ⟨a', len', cap', zs, hcs, _, hl, hm, hz, hx, hcell, hwz⟩
 ·simp [Value.cells] at hcs
  obtain ⟨rfl, rfl, rfl⟩ := hcs
  letI : Tracks := ⟨false⟩
  exact zpv (l := []) (zem rfl) ht (.slice0 _ _ _)
 ·simp [Value.cells] at hcs
  obtain ⟨rfl, rfl, rfl⟩ := hcs
  simp only [if_true] at hz
  letI : Tracks := ⟨false⟩
  exact zpv (l := zs.take len) (zem rfl) ht (zwy hcell (by omega) hl)
set_option maxRecDepth 100000 in
theorem zj3 (os : Os) (started : os.Started) (H : Type) (enc : TypeId × Value → H) :
 ReturnsInHanded {} Tryz.checked os 4 .any (fun w args => (Rows.countsTurnedSpec.pre enc Tryz.prog Tryz.f4 Rows.countsTurnedRow.domain false w args ∧ laidMetH Tryz.prog Rows.countsTurnedRow.laid w) ∧ sizedMet enc Tryz.prog Tryz.f4 (OpenSpec.ofChange Rows.countsTurnedSpec) false w args)
  (Rows.countsTurnedSpec.post enc Tryz.prog Tryz.f4 false true false false) := by
 refine zoN (C := Tryz.checked) (X := fun w _ => laidMetH Tryz.prog Rows.countsTurnedRow.laid w) (fun _ _ _ hh h => h.of_heap hh) zmr started (by kernel_rfl) Tryz.func4
  (ChangeSpec.witness_shaped (enc := enc) (C := Tryz.checked) (os := os) (X := fun w _ => laidMetH Tryz.prog Rows.countsTurnedRow.laid w) false (World.laidAll Tryz.prog os Rows.countsTurnedRow.laid) #[.slice none 0 0] 8 (World.laidAll_os _ _ _)
    (World.shaped_of_ZipB (by kernel_rfl) (by kernel_rfl)) (by kernel_rfl) (by kernel_rfl) (by kernel_rfl)
    (by rw [MakeChecks.laidMetH_plain _ _ _ (by kernel_rfl)]; exact laidMet_laidAll _ (by kernel_rfl) (by kernel_rfl))) ?_
 intro W base args ds gs before hval0 hW hL hsh
 have hval : ∀ (j : Nat) t v, Tryz.f4.params[j]? = some t → args[j]? = some v → Value.okWide Tryz.prog W .any base t v := hval0
 have hW' := hW
 obtain ⟨p, q, hA0, hV, rfl, _, _⟩ := hW
 have hA : DataW.TrodAll enc Tryz.prog W 0 (fun _ => true) true Tryz.f4.params.toList args.toList ds p := hA0
 rw [Tryz.params4] at hA hval
 obtain ⟨v0, d0, rfl, rfl, h0⟩ := trodAll_one hA
 obtain ⟨rfl, rfl⟩ := trodVars_none hV
 obtain ⟨a0, len, cap, rfl⟩ := okWide_slice Tryz.underlying22 (hval 0 22 v0 rfl rfl)
 simp only [List.append_nil] at hW'
 have hlt : ∀ x ∈ p, x.block < W.heap.size := fun x hx => by simpa using hW'.lt x hx
 refine (zk7 (zmH hL hsh) h0).mono fun e W' ⟨he, hb⟩ => ?_
 subst he
 have hargs : DataW.Trod enc Tryz.prog W' 0 (fun b => decide (b < W.heap.size)) true 22 (.slice a0 len cap) d0 p :=
  Below.trod zfU (by kernel_rfl) (of_decide_eq_true (by kernel_rfl)) h0 hb hlt
 exact ⟨_, rfl, _, _, _, [], p, [], hW', trodAll_mk1 (shut_bool Tryz.underlying4 _), trodAll_mk1 hargs, rfl, hb.frame _, fun h => by cases h⟩
theorem zlw : mapsRowed Tryz.prog = true := by kernel_rfl
theorem zlE : (Rows.countsTurnedRow.inPlace == Tryz.prog.inPlace 4) = true := by kernel_rfl
theorem zlA : (Rows.countsTurnedRow.unfollowed == Tryz.prog.unfollowed 4) = true := by kernel_rfl
theorem zl4 : (Rows.countsTurnedRow.recurses == Tryz.prog.recurses 4) = true := by kernel_rfl
theorem zlQ : (Rows.countsTurnedRow.named == Tryz.prog.varsNamed 4) = true := by kernel_rfl
theorem zlK : joinedFacts Tryz.prog 4 Tryz.f4 Rows.countsTurnedSpec Rows.countsTurnedRow = true := by
 simp only [joinedFacts, Bool.and_eq_true]
 repeat' apply And.intro
 all_goals first
  | with_reducible exact zfU
  | with_reducible exact zlw
  | with_reducible exact zlE
  | with_reducible exact zlA
  | with_reducible exact zl4
  | with_reducible exact zlQ
  | kernel_rfl
theorem zlI : true = Tryz.prog.looks [] := by kernel_rfl
theorem zl7 : false = Rows.countsTurnedRow.goesBy Tryz.prog := by kernel_rfl
theorem zlO : Rows.countsTurnedRow.wfByText (OpenSpec.ofChange Rows.countsTurnedSpec) = true := by kernel_rfl
theorem zlH : Tryz.prog.mainIs = some ("a070a8230f1989dec581fbe51bac0291fa1c750d1bc4d1eda863e0f7dc2d2d33" |> fun h => (true, h.toList)) := by kernel_rfl
theorem zlX : ([22].all fun u => !Tryz.prog.wantsStandIn u) = true := by kernel_rfl
theorem zhg : Tryz.prog.funcNamed Rows.countsTurnedRow.func = some 4 := by kernel_rfl
theorem zk5 : Rows.CountsTurnedSaid :=
 OpenClaim.holds_of_wide 4 Tryz.f4 rfl rfl rfl rfl rfl rfl rfl ⟨rfl, rfl, rfl, rfl, rfl⟩ rfl rfl rfl rfl rfl zhg Tryz.func4 zlK
  (of_decide_eq_true (by kernel_rfl)) (by unfold Func.isWrapper; first | (rw [if_pos (by decide +kernel)]; kernel_rfl) | (rw [if_neg (by decide +kernel)]; exact ⟨rfl, rfl⟩))
  (fun os started H enc _ => zj3 os started H enc)
theorem cardCountsTurned : Rows.CountsTurnedCardSaid :=
 Claim7.holds_tied_plain_at .later [] [.data, .data, .data, .data, .sentinel, .sentinel, .pinned] true (true, "a070a8230f1989dec581fbe51bac0291fa1c750d1bc4d1eda863e0f7dc2d2d33") true zk5 (fun _ h => by cases h) zlO (fun _ h => by cases h) countsTurned_row_tie rfl ⟨rfl, rfl⟩ zlH rfl
  (fun f fn hf hfn => by
    obtain rfl : f = 4 := Option.some.inj (zhg.symm.trans hf) |>.symm
    obtain rfl : fn = Tryz.f4 := (Option.some.inj (Tryz.func4.symm.trans hfn)).symm
    exact ⟨zlI, fun j t ht => by
     rw [Tryz.params4] at ht
     have hm : t ∈ [22] := by simpa using Array.mem_of_getElem? ht
     have hall := zlX
     exact (show Tryz.prog.wantsStandIn t = false by simpa using List.all_eq_true.1 hall t hm)⟩)
  zl7
end
end Go.Proofs.YtjecenjmphpmfaaGreatDoor
