/- Part 2 of the proof: a program logic, contracts of functions and plain facts; no conditions. -/
import Derived.Test.YtpcaaekefgkhjaaGreatDoorQOffersFollowed1
import Derived.Carry
import Derived.Ground.Names2Prog
import Derived.KernelRfl
import Derived.Laws.MakeOwn
import Derived.Lib.LaidTab
import Derived.Lib.SlicesCompact
import Derived.OpenShut
import Derived.Shelf.SlSortCmp.Insertion
import Derived.Shelf.Slices.CompactS
import Derived.Shelf.Slices.Delete
import Derived.Shelf.Sort.Plain
import Derived.Shelf.Strconv.Atoi
import Derived.Shelf.Strconv.Itoa3
import Derived.Shelf.Strings.Prefix
import Derived.Sort.EncStr
import Derived.Sort.Grow
import Derived.Test.YtpcaaekefgkhjaaGreatDoorProg
import Derived.WideKeyRuns
import GoSem.ClaimJoined
set_option linter.unusedVariables false
set_option linter.unusedSimpArgs false
namespace Go.Proofs.YtpcaaekefgkhjaaGreatDoor
set_option maxRecDepth 100000
set_option linter.unusedVariables false
set_option linter.unusedSimpArgs false
section
open Go.HL
/-- cmp.isNaN[int] -/
theorem zgJ [Tracks] {n : Int}  : zah Tryz.prog 175 [.int .i64 n] (.bool false) := by
 refine Con.of_body Tryz.func175 rfl Tryz.ntmps175 rfl rfl ?_
 refine za ?_
 refine das rfl ?_
 refine dn ?_
 refine za ?_
 refine dmv rfl ?_
 refine dmv rfl ?_
 refine dq (zbq rfl rfl) ?_
 refine das rfl ?_
 refine dn ?_
 refine zp ?_
 refine zI rfl ?_
 simp

/-- cmp.isNaN[string] -/
theorem zfI [Tracks] {s : Str}  : zah Tryz.prog 177 [.str s] (.bool false) := by
 refine Con.of_body Tryz.func177 rfl Tryz.ntmps177 rfl rfl ?_
 refine za ?_
 refine das rfl ?_
 refine dn ?_
 refine za ?_
 refine dmv rfl ?_
 refine dmv rfl ?_
 refine dq (zeb rfl rfl) ?_
 refine das rfl ?_
 refine dn ?_
 refine zp ?_
 refine zI rfl ?_
 simp

/-- slices.isNaN[string] -/
theorem ze0 [Tracks] {s : Str}  : zah Tryz.prog 130 [.str s] (.bool false) := by
 refine Con.of_body Tryz.func130 rfl Tryz.ntmps130 rfl rfl ?_
 refine za ?_
 refine das rfl ?_
 refine dn ?_
 refine za ?_
 refine dmv rfl ?_
 refine dmv rfl ?_
 refine dq (zeb rfl rfl) ?_
 refine das rfl ?_
 refine dn ?_
 refine zp ?_
 refine zI rfl ?_
 simp

/-- cmp.Compare[int] -/
theorem zfU [Tracks] {a b : Int}  : zah Tryz.prog 126 [.int .i64 a, .int .i64 b] (.int .i64 (zdh a b)) := by
 refine Con.of_body Tryz.func126 rfl Tryz.ntmps126 rfl rfl ?_
 refine za ?_
 refine das rfl ?_
 refine dn ?_
 refine za ?_
 refine dmv rfl ?_
 refine dq (zw zqE rfl (WeakL.refl _) zgJ) ?_
 refine das rfl ?_
 refine dn ?_
 refine za ?_
 refine dmv rfl ?_
 refine dq (zw zqE rfl (WeakL.refl _) zgJ) ?_
 refine das rfl ?_
 refine dn ?_
 refine zm ?_
 refine za ?_
 refine dmv rfl ?_
 refine dn ?_
 refine zdL rfl ?_
 refine zo ?_
 refine zk ?_
 refine zm ?_
 refine za ?_
 refine dmv rfl ?_
 refine dn ?_
 refine zdL rfl ?_
 refine zo ?_
 refine zk ?_
 refine zm ?_
 refine za ?_
 refine dmv rfl ?_
 refine dmv rfl ?_
 refine dq (zY rfl rfl) ?_
 refine dn ?_
 refine zl rfl (fun h1 => ?_) (fun h2 => ?_)
 ·try simp at h1
  refine za ?_
  refine das rfl ?_
  refine dn ?_
  refine zp ?_
  refine zI rfl ?_
  show HVal.int .i64 _ = _
  unfold zdh; (repeat' split) <;> first | rfl | omega
 ·try simp at h2
  refine zo ?_
  refine zk ?_
  refine zm ?_
  refine za ?_
  refine dmv rfl ?_
  refine dmv rfl ?_
  refine dq (zaT rfl rfl) ?_
  refine dn ?_
  refine zl rfl (fun h3 => ?_) (fun h4 => ?_)
  ·try simp at h3
   refine za ?_
   refine das rfl ?_
   refine dn ?_
   refine zp ?_
   refine zI rfl ?_
   show HVal.int .i64 _ = _
   unfold zdh; (repeat' split) <;> first | rfl | omega
  ·try simp at h4
   refine zo ?_
   refine zk ?_
   refine za ?_
   refine das rfl ?_
   refine dn ?_
   refine zp ?_
   refine zI rfl ?_
   show HVal.int .i64 _ = _
   unfold zdh; (repeat' split) <;> first | rfl | omega

/-- cmp.Or[int] -/
theorem zh7 [Tracks] {l : List Int} (hl : l.length ≤ 1000000) : zah Tryz.prog 125 [eIs l] (.int .i64 (orI l)) := by
 refine Con.of_body Tryz.func125 rfl Tryz.ntmps125 rfl rfl ?_
 refine za ?_
 refine das rfl ?_
 refine dn ?_
 refine za ?_
 refine das rfl ?_
 refine dn ?_
 refine zm ?_
 refine za ?_
 refine dmv rfl ?_
 refine dq (zR zbh rfl) ?_
 refine dmv rfl ?_
 refine dn ?_
 refine zu ?_
 refine zaJ [2, 5, 8, 9, 10, 11, 12, 13, 14, 15, 16] (fun (k : Nat) => [(8, .int .i64 k)]) (fun (k : Nat) => []) (fun (k : Nat) => k ≤ l.length ∧ (orI l = orI (l.drop k))) (fun (k : Nat) => l.length - k) (0) ?_ ?_ ?_ ?_
 ·exact ⟨Nat.zero_le _, by simp_all⟩
 ·exact ⟨rfl, trivial⟩
 ·exact List.Perm.refl _
 ·intro k hinv
  obtain ⟨hk, hg⟩ := hinv
  refine za ?_
  refine dq (zY rfl rfl) ?_
  refine dn ?_
  refine zm ?_
  refine zl rfl (fun h1 => ?_) (fun h2 => ?_)
  ·try simp at h1
   obtain ⟨x, hx⟩ : ∃ x, l[k]? = some x := ⟨_, List.getElem?_eq_getElem h1⟩
   have hdx := zU hx
   rw [hdx] at hg
   refine zo ?_
   refine zk ?_
   refine zm ?_
   refine zu ?_
   refine za ?_
   refine dq (zZ zbh ty3 rfl rfl rfl (by assumption)) ?_
   refine dq (zh ty3 rfl rfl rfl) ?_
   refine das rfl ?_
   refine dn ?_
   refine za ?_
   refine dmv rfl ?_
   refine dmv rfl ?_
   refine dq (zbq rfl rfl) ?_
   refine dn ?_
   refine zl rfl (fun h3 => ?_) (fun h4 => ?_)
   ·try simp at h3
    refine za ?_
    refine dmv rfl ?_
    refine das rfl ?_
    refine dn ?_
    refine zp ?_
    refine zI rfl ?_
    show HVal.int .i64 _ = _
    rw [hg]; simp_all [orI]
   ·try simp at h4
    refine zo ?_
    refine zA ?_
    refine zk ?_
    refine zB ?_
    refine dq (zC rfl rfl (by omega) (by omega)) ?_
    refine dmv rfl ?_
    refine dn ?_
    refine ⟨k + 1, ?_, ?_, ⟨rfl, trivial⟩, (by repeat (first | exact zq | refine zx rfl ?_ | refine zt rfl rfl ?_)), List.Perm.refl _⟩
    ·refine ⟨by omega, ?_⟩
     rw [hg]; simp_all [orI]
    ·dsimp only; omega
  ·try simp at h2
   have hnk : l.length ≤ k := by omega
   obtain rfl : k = l.length := by omega
   rw [zaS (Nat.le_refl _)] at hg
   refine z7 ?_
   refine zag ?_
   refine zaY ?_
   refine zT ?_
   refine zk ?_
   refine za ?_
   refine dmv rfl ?_
   refine das rfl ?_
   refine dn ?_
   refine zp ?_
   refine zI rfl ?_
   show HVal.int .i64 _ = _
   rw [hg]; simp_all [orI]

/-- cmp.Or[benchwarmer/api.Errno] -/
theorem zdk [Tracks] {l : List Int} (hl : l.length ≤ 1000000) : zah Tryz.prog 17 [eIs l] (.int .i64 (orI l)) := by
 refine Con.of_body Tryz.func17 rfl Tryz.ntmps17 rfl rfl ?_
 refine za ?_
 refine das rfl ?_
 refine dn ?_
 refine za ?_
 refine das rfl ?_
 refine dn ?_
 refine zm ?_
 refine za ?_
 refine dmv rfl ?_
 refine dq (zR zfA rfl) ?_
 refine dmv rfl ?_
 refine dn ?_
 refine zu ?_
 refine zaJ [2, 5, 8, 9, 10, 11, 12, 13, 14, 15, 16] (fun (k : Nat) => [(8, .int .i64 k)]) (fun (k : Nat) => []) (fun (k : Nat) => k ≤ l.length ∧ (orI l = orI (l.drop k))) (fun (k : Nat) => l.length - k) (0) ?_ ?_ ?_ ?_
 ·exact ⟨Nat.zero_le _, by simp_all⟩
 ·exact ⟨rfl, trivial⟩
 ·exact List.Perm.refl _
 ·intro k hinv
  obtain ⟨hk, hg⟩ := hinv
  refine za ?_
  refine dq (zY rfl rfl) ?_
  refine dn ?_
  refine zm ?_
  refine zl rfl (fun h1 => ?_) (fun h2 => ?_)
  ·try simp at h1
   obtain ⟨x, hx⟩ : ∃ x, l[k]? = some x := ⟨_, List.getElem?_eq_getElem h1⟩
   have hdx := zU hx
   rw [hdx] at hg
   refine zo ?_
   refine zk ?_
   refine zm ?_
   refine zu ?_
   refine za ?_
   refine dq (zZ zfA zgY rfl rfl rfl (by assumption)) ?_
   refine dq (zh zgY rfl rfl rfl) ?_
   refine das rfl ?_
   refine dn ?_
   refine za ?_
   refine dmv rfl ?_
   refine dmv rfl ?_
   refine dq (zbq rfl rfl) ?_
   refine dn ?_
   refine zl rfl (fun h3 => ?_) (fun h4 => ?_)
   ·try simp at h3
    refine za ?_
    refine dmv rfl ?_
    refine das rfl ?_
    refine dn ?_
    refine zp ?_
    refine zI rfl ?_
    show HVal.int .i64 _ = _
    rw [hg]; simp_all [orI]
   ·try simp at h4
    refine zo ?_
    refine zA ?_
    refine zk ?_
    refine zB ?_
    refine dq (zC rfl rfl (by omega) (by omega)) ?_
    refine dmv rfl ?_
    refine dn ?_
    refine ⟨k + 1, ?_, ?_, ⟨rfl, trivial⟩, (by repeat (first | exact zq | refine zx rfl ?_ | refine zt rfl rfl ?_)), List.Perm.refl _⟩
    ·refine ⟨by omega, ?_⟩
     rw [hg]; simp_all [orI]
    ·dsimp only; omega
  ·try simp at h2
   have hnk : l.length ≤ k := by omega
   obtain rfl : k = l.length := by omega
   rw [zaS (Nat.le_refl _)] at hg
   refine z7 ?_
   refine zag ?_
   refine zaY ?_
   refine zT ?_
   refine zk ?_
   refine za ?_
   refine dmv rfl ?_
   refine das rfl ?_
   refine dn ?_
   refine zp ?_
   refine zI rfl ?_
   show HVal.int .i64 _ = _
   rw [hg]; simp_all [orI]

/-- benchwarmer/base.First -/
theorem ziZ [Tracks] {l : List Int} (hl : l.length ≤ 1000000) : zah Tryz.prog 81 [eIs l] (.int .i64 (orI l)) := by
 refine Con.of_body Tryz.func81 rfl Tryz.ntmps81 rfl rfl ?_
 refine za ?_
 refine das rfl ?_
 refine dn ?_
 refine zm ?_
 refine za ?_
 refine dmv rfl ?_
 refine dq (zR zfA rfl) ?_
 refine dmv rfl ?_
 refine dn ?_
 refine zu ?_
 refine zaJ [2, 4, 7, 8, 9, 10, 11, 12, 13, 14] (fun (k : Nat) => [(7, .int .i64 k)]) (fun (k : Nat) => []) (fun (k : Nat) => k ≤ l.length ∧ (orI l = orI (l.drop k))) (fun (k : Nat) => l.length - k) (0) ?_ ?_ ?_ ?_
 ·exact ⟨Nat.zero_le _, by simp_all⟩
 ·exact ⟨rfl, trivial⟩
 ·exact List.Perm.refl _
 ·intro k hinv
  obtain ⟨hk, hg⟩ := hinv
  refine za ?_
  refine dq (zY rfl rfl) ?_
  refine dn ?_
  refine zm ?_
  refine zl rfl (fun h1 => ?_) (fun h2 => ?_)
  ·try simp at h1
   obtain ⟨x, hx⟩ : ∃ x, l[k]? = some x := ⟨_, List.getElem?_eq_getElem h1⟩
   have hdx := zU hx
   rw [hdx] at hg
   refine zo ?_
   refine zk ?_
   refine zm ?_
   refine zu ?_
   refine za ?_
   refine dq (zZ zfA zgY rfl rfl rfl (by assumption)) ?_
   refine dq (zh zgY rfl rfl rfl) ?_
   refine das rfl ?_
   refine dn ?_
   refine za ?_
   refine dmv rfl ?_
   refine dq (zbq rfl rfl) ?_
   refine dn ?_
   refine zl rfl (fun h3 => ?_) (fun h4 => ?_)
   ·try simp at h3
    refine za ?_
    refine dmv rfl ?_
    refine das rfl ?_
    refine dn ?_
    refine zp ?_
    refine zI rfl ?_
    show HVal.int .i64 _ = _
    rw [hg]; simp_all [orI]
   ·try simp at h4
    refine zo ?_
    refine zA ?_
    refine zk ?_
    refine zB ?_
    refine dq (zC rfl rfl (by omega) (by omega)) ?_
    refine dmv rfl ?_
    refine dn ?_
    refine ⟨k + 1, ?_, ?_, ⟨rfl, trivial⟩, (by repeat (first | exact zq | refine zx rfl ?_ | refine zt rfl rfl ?_)), List.Perm.refl _⟩
    ·refine ⟨by omega, ?_⟩
     rw [hg]; simp_all [orI]
    ·dsimp only; omega
  ·try simp at h2
   have hnk : l.length ≤ k := by omega
   obtain rfl : k = l.length := by omega
   rw [zaS (Nat.le_refl _)] at hg
   refine z7 ?_
   refine zag ?_
   refine zaY ?_
   refine zT ?_
   refine zk ?_
   refine za ?_
   refine das rfl ?_
   refine dn ?_
   refine zp ?_
   refine zI rfl ?_
   show HVal.int .i64 _ = _
   rw [hg]; simp_all [orI]

/-- internal/bytealg.CompareString -/
theorem zeL [Tracks] {a b : Str}  : zah Tryz.prog 74 [.str a, .str b] (.int .i64 (zbu a b)) := by
 refine Con.of_body Tryz.func74 rfl Tryz.ntmps74 rfl rfl ?_
 refine za ?_
 refine das rfl ?_
 refine dn ?_
 refine za ?_
 refine dmv rfl ?_
 refine dmv rfl ?_
 refine dq (zoa Tryz.func124 (by kernel_rfl) (by kernel_rfl) (by kernel_rfl) (by kernel_rfl) rfl rfl rfl) ?_
 refine das rfl ?_
 refine dn ?_
 refine zp ?_
 refine zI rfl ?_
 rfl

/-- strings.Compare -/
theorem zcr [Tracks] {a b : Str}  : zah Tryz.prog 43 [.str a, .str b] (.int .i64 (zbu a b)) := by
 refine Con.of_body Tryz.func43 rfl Tryz.ntmps43 rfl rfl ?_
 refine za ?_
 refine das rfl ?_
 refine dn ?_
 refine za ?_
 refine dmv rfl ?_
 refine dmv rfl ?_
 refine dq (zw ca74 rfl (WeakL.refl _) zeL) ?_
 refine das rfl ?_
 refine dn ?_
 refine zp ?_
 refine zI rfl ?_
 rfl

/-- cmp.Less[string] -/
theorem zjf [Tracks] {a b : Str}  : zah Tryz.prog 129 [.str a, .str b] (.bool (Op.bytesLess a b)) := by
 refine Con.of_body Tryz.func129 rfl Tryz.ntmps129 rfl rfl ?_
 refine za ?_
 refine das rfl ?_
 refine dn ?_
 refine za ?_
 refine dmv rfl ?_
 refine dq (zw zqI rfl (WeakL.refl _) zfI) ?_
 refine dmv rfl ?_
 refine dg rfl rfl (fun hc => ⟨_, OpenTo.refl _, zf rfl⟩) ?_
 refine dg rfl rfl (fun hc => ⟨_, OpenTo.upd (t := 8) rfl (hc) (OpenTo.refl _), zw zqI rfl (WeakL.refl _) zfI⟩) ?_
 refine dg rfl rfl (fun hc => ⟨_, OpenTo.upd (t := 9) rfl (hc) (OpenTo.refl _), zam rfl⟩) ?_
 refine dq (zG rfl (.inr ⟨_, rfl, fun h => by simp_all⟩) (.inl rfl)) ?_
 refine dmv rfl ?_
 refine dg rfl rfl (fun hc => ⟨_, OpenTo.refl _, zf rfl⟩) ?_
 refine dg rfl rfl (fun hc => ⟨_, OpenTo.refl _, zf rfl⟩) ?_
 refine dg rfl rfl (fun hc => ⟨_, OpenTo.upd (t := 14) rfl (hc) (OpenTo.upd (t := 13) rfl (hc) (OpenTo.refl _)), zmr rfl rfl⟩) ?_
 refine dq (zG rfl (.inl rfl) (.inr ⟨_, rfl, fun h => by simp_all⟩)) ?_
 refine das rfl ?_
 refine dn ?_
 refine zp ?_
 refine zI rfl ?_
 rfl

/-- slices.Equal[[]string,string] -/
theorem zdD [Tracks] {l m : List Str} (hl : l.length ≤ 1000000) : zah Tryz.prog 27 [eSs l, eSs m] (.bool (l == m)) := by
 refine Con.of_body Tryz.func27 rfl Tryz.ntmps27 rfl rfl ?_
 refine za ?_
 refine das rfl ?_
 refine dn ?_
 refine zm ?_
 refine za ?_
 refine dmv rfl ?_
 refine dq (zR zQ rfl) ?_
 refine dmv rfl ?_
 refine dq (zR zQ rfl) ?_
 refine dq (zbq rfl rfl) ?_
 refine dn ?_
 refine zl rfl (fun h1 => ?_) (fun h2 => ?_)
 ·try simp at h1
  refine za ?_
  refine das rfl ?_
  refine dn ?_
  refine zp ?_
  refine zI rfl ?_
  show HVal.bool _ = _
  (congr 1; symm; rw [beq_eq_false_iff_ne]; intro h; subst h; omega)
 ·try simp at h2
  refine zo ?_
  refine zk ?_
  refine zm ?_
  refine za ?_
  refine dmv rfl ?_
  refine dq (zR zQ rfl) ?_
  refine dmv rfl ?_
  refine dn ?_
  refine zu ?_
  refine zaJ [4, 5, 13, 14, 15, 16, 17, 18, 19, 20, 21, 22, 23, 24, 25] (fun (k : Nat) => [(13, .int .i64 k)]) (fun (k : Nat) => []) (fun (k : Nat) => k ≤ l.length ∧ (l.length = m.length ∧ (l == m) = (l.drop k == m.drop k))) (fun (k : Nat) => l.length - k) (0) ?_ ?_ ?_ ?_
  ·refine ⟨Nat.zero_le _, ?_, rfl⟩
   omega
  ·exact ⟨rfl, trivial⟩
  ·exact List.Perm.refl _
  ·intro k hinv
   obtain ⟨hk, hg⟩ := hinv
   refine za ?_
   refine dq (zY rfl rfl) ?_
   refine dn ?_
   refine zm ?_
   refine zl rfl (fun h3 => ?_) (fun h4 => ?_)
   ·try simp at h3
    obtain ⟨x, hx⟩ : ∃ x, l[k]? = some x := ⟨_, List.getElem?_eq_getElem h3⟩
    have hdx := zU hx
    obtain ⟨y, hy⟩ : ∃ y, m[k]? = some y := ⟨_, List.getElem?_eq_getElem (by omega)⟩
    rw [hdx, zU hy] at hg
    refine zo ?_
    refine zk ?_
    refine zm ?_
    refine zu ?_
    refine za ?_
    refine dmv rfl ?_
    refine das rfl ?_
    refine dn ?_
    refine zar (fun _ => True) [] mixed ?_
    refine ahp 0 rfl rfl (by kernel_rfl) (by kernel_rfl) (zf rfl) ?_
    refine ahp 1 rfl rfl (by kernel_rfl) (by kernel_rfl) (zf rfl) ?_
    refine ahp 2 rfl rfl (by kernel_rfl) (by kernel_rfl) (zZ zQ ty9 rfl rfl rfl (by assumption)) ?_
    refine ahp 3 rfl rfl (by kernel_rfl) (by kernel_rfl) (zh ty9 rfl rfl rfl) ?_
    refine ahp 4 rfl rfl (by kernel_rfl) (by kernel_rfl) (zf rfl) ?_
    refine ahp 5 rfl rfl (by kernel_rfl) (by kernel_rfl) (zf rfl) ?_
    refine ahp 6 rfl rfl (by kernel_rfl) (by kernel_rfl) (zZ zQ ty9 rfl rfl rfl (by assumption)) ?_
    refine ahp 7 rfl rfl (by kernel_rfl) (by kernel_rfl) (zh ty9 rfl rfl rfl) ?_
    refine ahp 8 rfl rfl (by kernel_rfl) (by kernel_rfl) (zeb rfl rfl) ?_
    refine ahz (by kernel_rfl) ?_
    refine zl rfl (fun h5 => ?_) (fun h6 => ?_)
    ·try simp at h5
     refine za ?_
     refine das rfl ?_
     refine dn ?_
     refine zp ?_
     refine zI rfl ?_
     show HVal.bool _ = _
     (rw [hg.2]; simp_all; done)
    ·try simp at h6
     refine zo ?_
     refine zA ?_
     refine zk ?_
     refine zB ?_
     refine dq (zC rfl rfl (by omega) (by omega)) ?_
     refine dmv rfl ?_
     refine dn ?_
     refine ⟨k + 1, ?_, ?_, ⟨rfl, trivial⟩, (by repeat (first | exact zq | refine zx rfl ?_ | refine zt rfl rfl ?_)), List.Perm.refl _⟩
     ·refine ⟨by omega, hg.1, ?_⟩
      rw [hg.2]; simp_all
     ·dsimp only; omega
   ·try simp at h4
    have hnk : l.length ≤ k := by omega
    obtain rfl : k = l.length := by omega
    rw [zaS (Nat.le_refl _)] at hg
    refine z7 ?_
    refine zag ?_
    refine zaY ?_
    refine zT ?_
    refine zk ?_
    refine za ?_
    refine das rfl ?_
    refine dn ?_
    refine zp ?_
    refine zI rfl ?_
    show HVal.bool _ = _
    (rw [hg.2]; simp_all; done)
end
end Go.Proofs.YtpcaaekefgkhjaaGreatDoor
namespace Go.HL
section
theorem zj3 {l : List Str} : ∀ (k : Nat), k ≤ l.length → zbM l k (l.drop k) = 0 → ∀ (i j : Nat) (a b : Str), k ≤ j → i + 1 = j → l[i]? = some a → l[j]? = some b → Op.bytesLess a b = true := by
 intro k hk
 generalize hm : l.length - k = m
 induction m generalizing k with
 | zero =>
   intro _ i j a b h1 h2 ha hb
   have := zM hb; omega
 | succ m ih =>
   intro h i j a b h1 h2 ha hb
   have hlt : k < l.length := by omega
   have hx := List.getElem?_eq_getElem hlt
   rw [zU hx, zbM] at h
   by_cases hkey : key l[k] = true
   ·simp only [hkey, Bool.not_true, Bool.false_eq_true, if_false] at h
    by_cases hle : (decide (0 < k) && leS l[k] (l.getD (k - 1) [])) = true
    ·rw [if_pos hle] at h; omega
    ·rw [if_neg hle] at h
     by_cases hj : k + 1 ≤ j
     ·exact ih (k + 1) (by omega) (by omega) h i j a b hj h2 ha hb
     ·obtain rfl : j = k := by omega
      have h0 : 0 < j := by omega
      simp only [h0, decide_true, Bool.true_and] at hle
      have e1 : l.getD (j - 1) [] = a := by
       have : j - 1 = i := by omega
       rw [this]; simp [List.getD, ha]
      have e2 : l[j] = b := by rw [hx] at hb; simpa using hb
      rw [e1, e2, zqZ] at hle
      simpa using hle
   ·simp [hkey] at h
theorem zk6 {l : List Str} (h : ze4 l = 0) : SortedS l := by
 have hadj := zj3 (l := l) 0 (Nat.zero_le _) (by simpa [ze4] using h)
 have key : ∀ (d i : Nat) (a b : Str), l[i]? = some a → l[i + d + 1]? = some b → Op.bytesLess a b = true := by
  intro d
  induction d with
  | zero => intro i a b ha hb; exact hadj i (i + 1) a b (by omega) rfl ha hb
  | succ d ih =>
    intro i a b ha hb
    have hlt := zM hb
    have hc := List.getElem?_eq_getElem (l := l) (i := i + d + 1) (by omega)
    have h1 := ih i a _ ha hc
    have h2 := hadj (i + d + 1) (i + (d + 1) + 1) _ b (by omega) (by omega) hc hb
    exact zek h1 h2
 refine List.pairwise_iff_getElem.2 fun i j hi hj hij => ?_
 refine key (j - i - 1) i _ _ (List.getElem?_eq_getElem hi) ?_
 have : i + (j - i - 1) + 1 = j := by omega
 rw [this]; exact List.getElem?_eq_getElem hj
end
end Go.HL
namespace Go.Proofs.YtpcaaekefgkhjaaGreatDoor
set_option maxRecDepth 100000
set_option linter.unusedVariables false
set_option linter.unusedSimpArgs false
section
open Go.HL
/-- slices.BinarySearch[[]string,string] -/
theorem zei [Tracks] {l : List Str} {s : Str} (hl : l.length ≤ 1000000) (hs : SortedS l) : zah Tryz.prog 84 [eSs l, .str s] (.tup [.int .i64 (zdS l s), .bool (l.contains s)]) := by
 refine Con.of_body Tryz.func84 rfl Tryz.ntmps84 rfl rfl ?_
 refine za ?_
 refine das rfl ?_
 refine das rfl ?_
 refine dn ?_
 refine za ?_
 refine dmv rfl ?_
 refine dq (zR zQ rfl) ?_
 refine das rfl ?_
 refine dn ?_
 refine za ?_
 refine dmv rfl ?_
 refine das rfl ?_
 refine das rfl ?_
 refine dn ?_
 refine zm ?_
 refine zu ?_
 refine zaZ [7, 8, 9, 13, 14, 15, 16, 17, 18, 19, 20, 21, 22, 23, 24, 25, 26, 27, 28, 29, 30] (fun (i : Nat) (j : Nat) => [(7, .int .i64 i), (8, .int .i64 j)]) (fun (i : Nat) (j : Nat) => []) (fun (i : Nat) (j : Nat) => i ≤ j ∧ j ≤ l.length ∧ (∀ (k : Nat) (x : Str), k < i → l[k]? = some x → Op.bytesLess x s = true) ∧ (∀ (k : Nat) (x : Str), j ≤ k → l[k]? = some x → Op.bytesLess x s = false)) (fun (i : Nat) (j : Nat) => j - i) (0) (l.length) ?_ ?_ ?_ ?_
 ·exact ⟨Nat.zero_le _, Nat.le_refl _, fun k x h => by omega, fun k x h1 h2 => by have := zM h2; omega⟩
 ·exact ⟨rfl, rfl, trivial⟩
 ·exact List.Perm.refl _
 ·intro i j hinv
  obtain ⟨hij, hjl, ha, hb⟩ := hinv
  refine zm ?_
  refine za ?_
  refine dmv rfl ?_
  refine dmv rfl ?_
  refine dq (zY rfl rfl) ?_
  refine dn ?_
  refine zl rfl (fun h1 => ?_) (fun h2 => ?_)
  ·try simp at h1
   obtain ⟨x, hx⟩ : ∃ x, l[(i + j) / 2]? = some x := ⟨_, List.getElem?_eq_getElem (by omega)⟩
   have hm : (i + j) / 2 < j ∧ i ≤ (i + j) / 2 := by omega
   refine zo ?_
   refine zk ?_
   refine zu ?_
   refine za ?_
   refine dmv rfl ?_
   refine dmv rfl ?_
   refine dq (zC rfl rfl (by omega) (by omega)) ?_
   refine dq (zdu ty3 zi7 rfl) ?_
   refine dq (znv rfl rfl (by omega)) ?_
   refine dq (zfO (zdu zi7 ty3 rfl) (zpe (i := i) (j := j) (by omega))) ?_
   refine das rfl ?_
   refine dn ?_
   refine za ?_
   refine dmv rfl ?_
   refine dmv rfl ?_
   refine dq (zZ (j := (i + j) / 2) (a := x) zQ ty9 rfl rfl rfl hx) ?_
   refine dq (zh ty9 rfl rfl rfl) ?_
   refine dmv rfl ?_
   refine dq (zw zsE rfl (WeakL.refl _) zjf) ?_
   refine dn ?_
   refine zl rfl (fun h3 => ?_) (fun h4 => ?_)
   ·try simp at h3
    refine zB ?_
    refine dmv rfl ?_
    refine dq (zC rfl rfl (by omega) (by omega)) ?_
    refine das rfl ?_
    refine dn ?_
    refine zA ?_
    exact ⟨(i + j) / 2 + 1, j, ⟨by omega, hjl, zqt hs hx h3, hb⟩, by dsimp only; omega, ⟨rfl, rfl, trivial⟩, (by repeat (first | exact zq | refine zx rfl ?_ | refine zt rfl rfl ?_)), List.Perm.refl _⟩
   ·try simp at h4
    refine zB ?_
    refine dmv rfl ?_
    refine das rfl ?_
    refine dn ?_
    refine zA ?_
    exact ⟨i, (i + j) / 2, ⟨by omega, by omega, ha, zqu hs hx h4⟩, by dsimp only; omega, ⟨rfl, rfl, trivial⟩, (by repeat (first | exact zq | refine zx rfl ?_ | refine zt rfl rfl ?_)), List.Perm.refl _⟩
  ·try simp at h2
   obtain rfl : i = j := by omega
   refine z7 ?_
   refine zag ?_
   refine zbc ?_
   refine zT ?_
   refine zk ?_
   refine za ?_
   refine dmv rfl ?_
   refine dmv rfl ?_
   refine dmv rfl ?_
   refine dq (zY rfl rfl) ?_
   refine dmv rfl ?_
   refine dg rfl rfl (fun hc => ⟨_, OpenTo.refl _, zf rfl⟩) ?_
   refine dg rfl rfl (fun hc => ⟨_, OpenTo.refl _, zf rfl⟩) ?_
   refine dg rfl rfl (fun hc => by have hq := hc; (try simp at hq); exact ⟨_, OpenTo.upd (t := 37) rfl (hc) (OpenTo.upd (t := 36) rfl (hc) (OpenTo.refl _)), zZ (j := i) (a := l.getD i []) zQ ty9 rfl rfl rfl (getD_some (by omega))⟩) ?_
   refine dg rfl rfl (fun hc => ⟨_, OpenTo.upd (t := 38) rfl (hc) (OpenTo.refl _), zh ty9 rfl rfl rfl⟩) ?_
   refine dg rfl rfl (fun hc => ⟨_, OpenTo.refl _, zf rfl⟩) ?_
   refine dg rfl rfl (fun hc => ⟨_, OpenTo.upd (t := 40) rfl (hc) (OpenTo.upd (t := 39) rfl (hc) (OpenTo.refl _)), zbs rfl rfl⟩) ?_
   refine dg rfl rfl (fun hc => ⟨_, OpenTo.upd (t := 41) rfl (hc) (OpenTo.refl _), zf rfl⟩) ?_
   refine dg rfl rfl (fun hc => ⟨_, OpenTo.refl _, zf rfl⟩) ?_
   refine dg rfl rfl (fun hc => ⟨_, OpenTo.refl _, zf rfl⟩) ?_
   refine dg rfl rfl (fun hc => ⟨_, OpenTo.upd (t := 44) rfl (hc) (OpenTo.upd (t := 43) rfl (hc) (OpenTo.refl _)), zZ (j := i) (a := l.getD i []) zQ ty9 rfl rfl rfl (getD_some (by simp_all))⟩) ?_
   refine dg rfl rfl (fun hc => ⟨_, OpenTo.upd (t := 45) rfl (hc) (OpenTo.refl _), zh ty9 rfl rfl rfl⟩) ?_
   refine dg rfl rfl (fun hc => ⟨_, OpenTo.upd (t := 46) rfl (hc) (OpenTo.refl _), zw zqq rfl (WeakL.refl _) ze0⟩) ?_
   refine dg rfl rfl (fun hc => ⟨_, OpenTo.upd (t := 47) rfl (hc) (OpenTo.refl _), zf rfl⟩) ?_
   refine dg rfl rfl (fun hc => ⟨_, OpenTo.refl _, zf rfl⟩) ?_
   refine dg rfl rfl (fun hc => ⟨_, OpenTo.upd (t := 49) rfl (hc) (OpenTo.refl _), zw zqq rfl (WeakL.refl _) ze0⟩) ?_
   refine dg rfl rfl (fun hc => ⟨_, OpenTo.upd (t := 48) rfl (hc) (OpenTo.refl _), zG rfl (.inr ⟨_, rfl, fun h => by simp_all⟩) (.inl rfl)⟩) ?_
   refine dg rfl rfl (fun hc => ⟨_, OpenTo.upd (t := 42) rfl (hc) (OpenTo.refl _), zG rfl (.inl rfl) (.inr ⟨_, rfl, fun h => by simp_all⟩)⟩) ?_
   refine dq (zG rfl (.inr ⟨_, rfl, fun h => by simp_all⟩) (.inl rfl)) ?_
   refine das rfl ?_
   refine das rfl ?_
   refine dn ?_
   refine zp ?_
   refine zI rfl ?_
   rw [zkD hjl ha hb, ← zmj hs hjl ha hb, ← zp2 false]

end
end Go.Proofs.YtpcaaekefgkhjaaGreatDoor
namespace Go.HL
section

end
end Go.HL
namespace Go.Proofs.YtpcaaekefgkhjaaGreatDoor
set_option maxRecDepth 100000
set_option linter.unusedVariables false
set_option linter.unusedSimpArgs false
section
open Go.HL
/-- slices.Clone[[]string,string] -/
theorem zdC [Tracks] {l : List Str} (hl : l.length ≤ 1000000) : zoh Tryz.prog 34 [eSs l] 1 (l.map .str) := by
 refine Con.of_body Tryz.func34 rfl Tryz.ntmps34 rfl rfl ?_
 refine za ?_
 refine das rfl ?_
 refine dn ?_
 refine zm ?_
 refine za ?_
 refine dmv rfl ?_
 refine de rfl (zld zQ rfl rfl fun b4 hb4 => ?_)
 refine dn ?_
 refine zl rfl (fun h1 => ?_) (fun h2 => ?_)
 ·try simp at h1
  refine za ?_
  refine das rfl ?_
  refine dn ?_
  refine zp ?_
  exact zbO (Ghost.arr_nil 1) rfl ⟨_, rfl, by simp_all⟩
 ·try simp at h2
  refine zo ?_
  refine zk ?_
  refine za ?_
  refine de rfl (zni zQ ty9 fun v5 => ?_)
  refine dmv rfl ?_
  refine de rfl (zay (i := 0) zQ ty9 rfl rfl rfl rfl rfl (by simp [zbi, zj]) (by simp; omega) fun v7 => ?_)
  refine das rfl ?_
  refine dn ?_
  refine zp ?_
  exact zl3 rfl rfl

end
end Go.Proofs.YtpcaaekefgkhjaaGreatDoor
namespace Go.HL
section

end
end Go.HL
namespace Go.Proofs.YtpcaaekefgkhjaaGreatDoor
set_option maxRecDepth 100000
set_option linter.unusedVariables false
set_option linter.unusedSimpArgs false
section
open Go.HL
set_option linter.unusedSimpArgs false
end
end Go.Proofs.YtpcaaekefgkhjaaGreatDoor
namespace Go.HL
section
def zmf (P : Program) (e : Env) : List ResultVar → List HVal → Prop
 | [], [] => True
 | .tmp t :: r, h :: l => e t = some h ∧ zmf P e r l
 | .cell a t :: r, h :: l => (∃ cs d size bytes zero, e a = some (.vptr cs 0) ∧ Fits P t d size bytes zero ∧ ((d.isAgg = false ∧ cs[0]? = some h) ∨ (d.isAgg = true ∧ size = cs.length ∧ h = .agg cs))) ∧ zmf P e r l
 | _, _ => False
def zqo : List HVal → HVal
 | [h] => h
 | l => .tup l
def RetC [Tracks] (P : Program) (rs : List ResultVar) (Q : HVal → List MObj → Prop) : Exit → Env → List MObj → Prop
 | .normal, e, M | .ret, e, M => ∃ e' M', Ghost e M e' M' ∧ ∃ l h', zmf P e' rs l ∧ Weak (zqo l) h' ∧ Q h' M'
 | _, _, _ => False
theorem zqi [Tracks] {P : Program} {I : Imm} {e : Env} {tmps : Array Value} (he : EnvV I e tmps) {M : List MObj} {w : World} (hs : Sat P I M w) : ∀ (rs : List ResultVar) (l : List HVal), zmf P e rs l →
 ∃ vs : List Value, (rs.mapM (zfC tmps)).run P w = .ok vs w ∧ VL I l vs := by
 intro rs
 induction rs with
 | nil =>
   intro l h
   cases l with
   | nil => exact ⟨[], by simp, VL.nil⟩
   | cons _ _ => exact h.elim
 | cons r rs ih =>
   intro l h
   cases l with
   | nil => cases r <;> exact h.elim
   | cons x l =>
     cases r with
     | tmp t =>
       obtain ⟨h1, h2⟩ := h
       obtain ⟨vs, h3, h4⟩ := ih l h2
       obtain ⟨v, h5, h6⟩ := he t x h1
       refine ⟨v :: vs, ?_, VL.cons h6 h4⟩
       simp only [List.mapM_cons, zfC, Sem.run_bind, Sem.run_pure, Result.andThen_ok, h3]
       simp [h5]
     | cell a t =>
       obtain ⟨⟨cs, d, size, bytes, zero, h1, hf, hh⟩, h2⟩ := h
       obtain ⟨vs, h3, h4⟩ := ih l h2
       obtain ⟨v, h5, h6⟩ := he a _ h1
       obtain ⟨b, base, rc, el, fr, g1, g2, g3, g4⟩ := h6.vptr_inv
       obtain ⟨v', h7, h8⟩ := zex (I := I) (h := x) (o := base + 0) (off := 0) (base := base) hf (hs.imm _ _ g2) rfl g3 g4 (by
        rcases hh with hh | ⟨p1, p2, p3⟩
        ·exact .inl hh
        ·exact .inr ⟨p1, by omega, by rw [p2]; simpa using p3⟩)
       refine ⟨v' :: vs, ?_, VL.cons h8 h4⟩
       have hg : tmps.getD a undef = .pointer (some ⟨b, base + 0, none⟩) := by simp [h5, g1]
       simp only [List.mapM_cons, zfC, Sem.run_bind, Sem.run_pure, Result.andThen_ok, hg, asAddr, h7, h3]

theorem Con.of_bodyc [Tracks] {P : Program} {f : FuncId} {fn : Func} {c : Code} {hargs : List HVal} {M : List MObj} {Q : HVal → List MObj → Prop}
 {n : Nat} (hf : P.funcs[f]? = some fn) (hb : fn.body = some c) (hnt : fn.ntmps = n) (hn' : Nat.ble hargs.length n = true) {rs : List ResultVar} (hrs : fn.results.toList = rs) (h : HWp P n c (zqv hargs) M (RetC P rs Q)) : Con P f hargs M Q := by
 have hn := Nat.le_of_ble_eq_true hn'
 subst hnt hrs
 intro I F w args h1 h2
 refine calls_of_wp hf hb ?_
 have hlen := h1.1
 refine wp_mono (h I F _ w rfl (by simp; omega) ?_ h2) ?_
 ·intro t x hx
  obtain ⟨v, h3, h4⟩ := h1.get hx
  have hlt : t < args.length := zM h3
  refine ⟨v, ?_, h4⟩
  rw [Array.getElem?_append_left (by simpa using hlt)]
  simpa using h3
 ·have key : ∀ (a' : Act) (w' : World), a'.defers = [] → (∃ J e M', Le I J ∧ (∃ e' M'', Ghost e M' e' M'' ∧ ∃ l h', zmf P e' fn.results.toList l ∧ Weak (zqo l) h' ∧ Q h' M'') ∧ EnvV J e a'.tmps ∧ Sat P J (M' ++ F) w') →
   a'.defers = [] ∧ ∃ v, (results fn a'.tmps).run P w' = .ok v w' ∧ (∃ v_1 h M' J, Ending.returned v = Ending.returned v_1 ∧ Le I J ∧ Q h M' ∧ V J h v_1 ∧ Sat P J (M' ++ F) w') := by
   rintro a' w' hd ⟨J, e, M', hl, ⟨e', M'', hg, l, h', hr, hw, hq⟩, he, hs⟩
   obtain ⟨J2, hl2, he2, hs2⟩ := hg J F a'.tmps w' he hs
   refine ⟨hd, ?_⟩
   obtain ⟨vs, h3, h4⟩ := zqi he2 hs2 _ _ hr
   have hrun : (results fn a'.tmps).run P w' = .ok (if h : vs.length = 1 then vs[0] else .tuple vs.toArray) w' := by
    rw [zj0]
    have hm : (fn.results.mapM (zfC a'.tmps)).run P w' = .ok vs.toArray w' := by
     rw [Array.mapM_eq_mapM_toList]
     simp only [Sem.run_map, h3, Result.andThen_ok]
    simp only [Sem.run_bind, Sem.run_pure]
    rw [hm]
    simp
   refine ⟨_, hrun, _, h', M'', J2, rfl, hl.trans hl2, hq, ?_, hs2⟩
   apply hw
   match l, h4 with
   | [], h4 =>
     have : vs = [] := by have := h4.1; simpa using this
     subst this
     exact .tup (by simp) (fun j c v h _ => by simp at h)
   | [x], h4 =>
     have hl1 : vs.length = 1 := by have := h4.1; simpa using this
     match vs, hl1, h4 with
     | [v], _, h4 => exact h4.head
   | x :: y :: r, h4 =>
     have hl1 : vs.length = r.length + 2 := by have := h4.1; simpa using this
     rw [dif_neg (by omega)]
     exact .tup (by simp [hl1]) (fun j c v h1 h2 => h4.2 j c v h1 (by simpa using h2))
  rintro x a' w' ⟨p1, p2, J, e, M', p3, p4, p5, p6⟩
  cases x with
  | normal => exact key a' w' p1 ⟨J, e, M', p3, p4, p5, p6⟩
  | ret => exact key a' w' p1 ⟨J, e, M', p3, p4, p5, p6⟩
  | exit id => exact p4.elim
  | goto l => exact p4.elim
  | panic ch => exact p4.elim
  | outgrown => exact p4.elim

section
variable {P : Program} {e : Env} {dst : Option Tmp} {ty : TypeId} {pos : String} {af : Array Edge} {g : Option (Nat × Bool)} {M : List MObj} {K : HVal → List MObj → Prop}
theorem Fits.arrD [Tracks] {t : TypeId} {n el size bytes : Nat} {zero : Value} (h : Fits P t (.arr n el) size bytes zero) : P.underlying t = some (.array n el) := by
 obtain ⟨x, h1, h2⟩ := h.underlying
 cases x <;> simp [zey] at h2
 obtain ⟨rfl, rfl⟩ := h2
 exact h1
theorem zir [Tracks] {t el : TypeId} {n size bytes sz b2 : Nat} {zero z2 : Value} {d : TD} (hf : Fits P t (.arr n el) size bytes zero) (hel : Fits P el d sz b2 z2) {k : IntKind} {j b o : Nat} (hj : j < n) (w : World) :
 (Instr.indexAt t (.pointer (some ⟨b, o, none⟩)) (.int k (j : Int))).run P w = .ok (.pointer (some ⟨b, o + j * sz, none⟩)) w := by
 have h1 : (0 : Int) ≤ (j : Int) ∧ (j : Int) < (n : Int) := by omega
 simp [Instr.indexAt, asIntOf, run_underlying hf.arrD, h1, hel.run_sizeOf, zde, Instr.sureAddr]
 intro h; omega
/-- An element of an array. -/
theorem zqd [Tracks] {x y : Operand} {t el : TypeId} {n size bytes sz b2 : Nat} {zero z2 : Value} {d : TD} {cs : List HVal} {off : Nat} {k : IntKind} {i : Int} {j : Nat}
 (hf : Fits P t (.arr n el) size bytes zero) (hel : Fits P el d sz b2 z2) (hx : zL e x = some (.vptr cs off)) (hy : zL e y = some (.int k i)) (hi : i = (j : Int)) (hj : j < n) :
 POp P e ⟨dst, .indexAddr t x y, ty, pos, af, g⟩ (.vptr cs (off + j * sz)) :=
 POp.of_val fun I a w ho => by
  subst hi
  obtain ⟨b, base, rc, el, fr, h1, h2, h3, h4⟩ := (ho.one (x := x) (by simp [Op.operands]) hx).vptr_inv
  have h5 := (ho.one (x := y) (by simp [Op.operands]) hy).int_inv
  refine ⟨.pointer (some ⟨b, base + off + j * sz, none⟩), by simp [execOp, h1, h5, zir hf hel hj], ?_⟩
  rw [Nat.add_assoc]; exact .vptr h2 h3 h4
theorem zmX [Tracks] {x y : Operand} {t el : TypeId} {n size bytes sz b2 : Nat} {zero z2 : Value} {d : TD} {b o : Nat} {k : IntKind} {i : Int} {j : Nat}
 (hf : Fits P t (.arr n el) size bytes zero) (hel : Fits P el d sz b2 z2) (hx : zL e x = some (.raw (.pointer (some ⟨b, o, none⟩)))) (hy : zL e y = some (.int k i)) (hi : i = (j : Int)) (hj : j < n) :
 POp P e ⟨dst, .indexAddr t x y, ty, pos, af, g⟩ (.raw (.pointer (some ⟨b, o + j * sz, none⟩))) :=
 POp.of_val fun I a w ho => by
  subst hi
  have h1 := (ho.one (x := x) (by simp [Op.operands]) hx).raw_inv
  have h5 := (ho.one (x := y) (by simp [Op.operands]) hy).int_inv
  exact ⟨_, by simp [execOp, h1, h5, zir hf hel hj], .raw _ rfl⟩

theorem zlN [Tracks] {f : FuncId} {fn : Func} {args : Array Operand} {ats : Array TypeId} {x y : Operand} {s : List UInt8} {c : Int} (hf : P.funcs[f]? = some fn) (h1 : (fn.name == "runtime.NumGoroutine") = false) (h2 : fn.body.isNone = true)
 (h3 : (Extern.findNext fn).isNone = true) (h4 : Extern.find fn = some Extern.BytealgIndexByte.indexByte) (ha : args = #[x, y]) (hx : zL e x = some (.str s)) (hy : zL e y = some (.int .u8 c)) :
 POp P e ⟨dst, .call ⟨.value (.func f), args, ats⟩, ty, pos, af, g⟩ (.int .i64 (Lib.indexByte s c.toNat.toUInt8)) :=
 POp.of_val fun I a w ho => by
  subst ha
  have e1 := (ho.one (x := x) (by simp [Op.operands, Call.operands]) hx).str_inv
  have e2 := (ho.one (x := y) (by simp [Op.operands, Call.operands]) hy).int_inv
  refine ⟨_, ?_, .int _ _⟩
  have h3' : Extern.findNext fn = none := by cases h : Extern.findNext fn with | none => rfl | some _ => rw [h] at h3; simp at h3
  have hcmp : (Extern.BytealgIndexByte.indexByte #[.string ⟨s.toArray⟩, .int .u8 c]).run P w = .ok (.int .i64 (Lib.indexByte s c.toNat.toUInt8)) w := by
   have := Lib.run_indexByteString (P := P) ⟨s.toArray⟩ c w
   simpa using this
  have hev : a.eval (.func f) = .func (.func f) #[] #[] := rfl
  have hmap : (#[x, y] : Array Operand).map a.eval = #[.string ⟨s.toArray⟩, .int .u8 c] := by simp [e1, e2]
  have hargs : (#[] : Array Value) ++ #[.string ⟨s.toArray⟩, .int .u8 c] ++ #[] = #[.string ⟨s.toArray⟩, .int .u8 c] := rfl
  simp only [execOp, resolve, hev, hmap, Deferred.ofValue, invoke, callFunc, Sem.run_bind, Sem.run_pure, Result.andThen_ok, run_program, hf, h1, h2, h3', h4, Bool.false_eq_true, if_false, if_true, run_mark, hargs, hcmp]
end
end
section
def asciiSet (l : List UInt8) : List HVal := (List.range 256).map fun i => .bool (l.contains (UInt8.ofNat i))
theorem zdc (l : List UInt8) : (asciiSet l).length = 256 := by simp [asciiSet]
theorem zii (l : List UInt8) (c : UInt8) : (asciiSet l)[c.toNat]? = some (.bool (l.contains c)) := by
 have := c.toNat_lt
 simp [asciiSet, List.getElem?_range, this]
theorem zj8 {α : Type} (f : α → Bool) : ∀ l : List α, zbi (l.map fun i => .bool (f i)) = true
 | [] => rfl
 | x :: l => by simp only [List.map_cons, zbi]; exact zj8 f l
theorem zlS (l : List UInt8) : zbi (asciiSet l) = true := zj8 _ _
theorem zmQ (l : List UInt8) (c : UInt8) : zW (asciiSet l) (0 + c.toNat * 1) [.bool true] = asciiSet (l ++ [c]) := by
 have hc := c.toNat_lt
 have hl : 0 + c.toNat * 1 = c.toNat := by omega
 rw [hl]
 apply List.ext_getElem?
 intro i
 have hlen := zdc l
 simp only [zW, List.length_singleton]
 by_cases hi : i < c.toNat
 ·rw [List.getElem?_append_left (by simp; omega), List.getElem?_append_left (by simp [hlen]; omega), List.getElem?_take_of_lt hi]
  have h256 : i < 256 := by omega
  have hne : UInt8.ofNat i ≠ c := fun h => by
   have := congrArg UInt8.toNat h
   rw [UInt8.toNat_ofNat_of_lt' (by simpa [UInt8.size] using h256)] at this; omega
  simp [asciiSet, List.getElem?_range, h256, hne]
 ·by_cases he : i = c.toNat
  ·subst he
   rw [List.getElem?_append_left (by simp [hlen]; omega), List.getElem?_append_right (by simp [hlen]; omega)]
   rw [zii]
   simp [hlen, Nat.min_eq_left (Nat.le_of_lt hc)]
  ·rw [List.getElem?_append_right (by simp [hlen]; omega), List.getElem?_drop]
   have e1 : c.toNat + 1 + (i - ((asciiSet l).take c.toNat ++ [HVal.bool true]).length) = i := by simp [hlen]; omega
   rw [e1]
   by_cases h256 : i < 256
   ·have hne : UInt8.ofNat i ≠ c := fun h => by
     have := congrArg UInt8.toNat h
     rw [UInt8.toNat_ofNat_of_lt' (by simpa [UInt8.size] using h256)] at this; omega
    simp [asciiSet, List.getElem?_range, h256, hne]
   ·rw [List.getElem?_eq_none (by rw [zdc]; omega), List.getElem?_eq_none (by rw [zdc]; omega)]
def zeA (p : UInt8 → Bool) (s : Str) : Str := (s.reverse.dropWhile p).reverse
theorem zf2 (p : UInt8 → Bool) (s : Str) (c : UInt8) : zeA p (s ++ [c]) = if p c then zeA p s else s ++ [c] := by
 unfold zeA
 rw [List.reverse_append]
 simp only [List.reverse_cons, List.reverse_nil, List.nil_append, List.singleton_append, List.dropWhile_cons]
 split <;> simp
theorem zpk (p : UInt8 → Bool) : ∀ s : Str, (s.dropWhile p).length ≤ s.length
 | [] => Nat.le_refl _
 | x :: s => by
   rw [List.dropWhile_cons]
   split
   ·exact Nat.le_succ_of_le (zpk p s)
   ·exact Nat.le_refl _
theorem zoA (p : UInt8 → Bool) (s : Str) : (zeA p s).length ≤ s.length := by
 unfold zeA
 rw [List.length_reverse]
 have := zpk p s.reverse
 rwa [List.length_reverse] at this
theorem zpf (p : UInt8 → Bool) : ∀ s : Str, s.dropWhile p = [] → ∀ c ∈ s, p c = true
 | [], _, c, h => by cases h
 | x :: s, h, c, hc => by
   rw [List.dropWhile_cons] at h
   by_cases hx : p x = true
   ·rw [if_pos hx] at h
    rcases List.mem_cons.1 hc with rfl | hc
    ·exact hx
    ·exact zpf p s h c hc
   ·rw [if_neg hx] at h; cases h
theorem zpJ (p : UInt8 → Bool) (s : Str) : ((zeA p s).dropWhile p == []) = s.all p := by
 induction s using List.reverseRecOn' with
 | nil => rfl
 | snoc s c ih =>
   rw [zf2]
   by_cases hc : p c = true
   ·rw [if_pos hc, ih]; simp [hc]
   ·rw [if_neg hc]
    have : (s ++ [c]).all p = false := by simp [hc]
    rw [this]
    cases hd : (s ++ [c]).dropWhile p with
    | nil => exact absurd (zpf _ _ hd c (by simp)) hc
    | cons _ _ => rfl
where
 List.reverseRecOn' {motive : Str → Prop} (nil : motive []) (snoc : ∀ s c, motive s → motive (s ++ [c])) (l : Str) : motive l := by
  have : ∀ n (l : Str), l.length = n → motive l := by
   intro n
   induction n with
   | zero => intro l h; rw [List.length_eq_zero_iff.1 h]; exact nil
   | succ n ih =>
     intro l h
     have hne : l ≠ [] := fun h0 => by subst h0; simp at h
     rw [← List.dropLast_concat_getLast hne]
     exact snoc _ _ (ih _ (by simp [h]))
  exact this l.length l rfl
def zhr : Str := [97, 98, 99, 100, 101, 102, 103, 104, 105, 106, 107, 108, 109, 110, 111, 112, 113, 114, 115, 116, 117, 118, 119, 120, 121, 122, 48, 49, 50, 51, 52, 53, 54, 55, 56, 57, 45, 95]
def zi9 : Str := [97, 98, 99, 100, 101, 102, 103, 104, 105, 106, 107, 108, 109, 110, 111, 112, 113, 114, 115, 116, 117, 118, 119, 120, 121, 122]
theorem zoL {p : UInt8 → Bool} (h : (List.range 256).all (fun i => p (UInt8.ofNat i)) = true) (c : UInt8) : p c = true := by
 have := List.all_eq_true.1 h c.toNat (List.mem_range.2 c.toNat_lt)
 simpa using this
theorem zpE (c : UInt8) : zhr.contains c = zf1 c := by
 have := zoL (p := fun c => zhr.contains c == zf1 c) (by kernel_rfl) c
 simpa using this
theorem zn3 (c : UInt8) : decide (0 ≤ Lib.indexByte zi9 c) = (decide (97 ≤ c.toNat) && decide (c.toNat ≤ 122)) := by
 have := zoL (p := fun c => decide (0 ≤ Lib.indexByte zi9 c) == (decide (97 ≤ c.toNat) && decide (c.toNat ≤ 122))) (by kernel_rfl) c
 simpa using this
theorem zrD (s : Str) : key s = ((!(out s.length 1 40) && ((zeA (zhr.contains ·) s).dropWhile (zhr.contains ·) == [])) && decide (0 ≤ Lib.indexByte zi9 (s.headD 0))) := by
 rw [zpJ, zn3]
 have : (fun x => zhr.contains x) = zf1 := funext zpE
 rw [this]
 unfold key zgM
 cases s with
 | nil => simp [out]
 | cons x r =>
   simp only [List.headD_cons]
   have h1 : (!(out ((x :: r).length : Int) 1 40)) = decide ((x :: r).length ≤ 40) := by
    simp only [out, List.length_cons]
    rw [Bool.eq_iff_iff]; simp; omega
   rw [h1]
   have h2 : ((x :: r) != []) = true := rfl
   rw [h2]
   have hb : ∀ a b c d : Bool, (true && a && c && d && b) = (a && b && (c && d)) := by decide
   exact hb _ _ _ _
theorem znN (n : Int) : (if out n 0 345686399999 then (1 : Int) else 0) = if za7 n then 0 else 1 := by
 have : out n 0 345686399999 = !(za7 n) := by
  simp only [out, za7]; rw [Bool.eq_iff_iff]; simp; try omega
 rw [this]; cases za7 n <;> rfl
end
end Go.HL
namespace Go.Proofs.YtpcaaekefgkhjaaGreatDoor
set_option maxRecDepth 100000
set_option linter.unusedVariables false
set_option linter.unusedSimpArgs false
section
open Go.HL
/-- strings.makeASCIISet -/
theorem zgZ [Tracks] {l : Str} (hl : l.length ≤ 1000000) (ha : ∀ c ∈ l, c.toNat < 128) : zah Tryz.prog 164 [.str l] (.tup [.agg (asciiSet l), .bool true]) := by
 refine Con.of_bodyc Tryz.func164 rfl Tryz.ntmps164 rfl rfl ?_
 refine za ?_
 refine de rfl (zac zgH rfl fun b2 => ?_)
 refine das rfl ?_
 refine dn ?_
 refine zm ?_
 refine za ?_
 refine das rfl ?_
 refine dn ?_
 refine zu ?_
 refine zaJ [3, 4, 5, 6, 7, 8, 9, 10, 11, 12, 13, 14, 15, 16, 17, 18, 19] (fun (k : Nat) => [(4, .int .i64 k)]) (fun (k : Nat) => [.cells b2 (asciiSet (l.take k))]) (fun (k : Nat) => k ≤ l.length ∧ (True)) (fun (k : Nat) => l.length - k) (0) ?_ ?_ ?_ ?_
 ·exact ⟨Nat.zero_le _, by simp_all⟩
 ·exact ⟨rfl, trivial⟩
 ·exact zO rfl
 ·intro k hinv
  obtain ⟨hk, -⟩ := hinv
  refine zm ?_
  refine za ?_
  refine dmv rfl ?_
  refine dmv rfl ?_
  refine dq (zdP ty9 rfl) ?_
  refine dq (zY rfl rfl) ?_
  refine dn ?_
  refine zl rfl (fun h1 => ?_) (fun h2 => ?_)
  ·try simp at h1
   obtain ⟨x, hx⟩ : ∃ x, l[k]? = some x := ⟨_, List.getElem?_eq_getElem h1⟩
   have hdx := zU hx
   have hc := ha x (List.mem_of_getElem? hx)
   refine zo ?_
   refine zk ?_
   refine zm ?_
   refine zu ?_
   refine za ?_
   refine dmv rfl ?_
   refine dmv rfl ?_
   refine dq (zcI ty9 rfl rfl rfl (by assumption)) ?_
   refine das rfl ?_
   refine dn ?_
   refine zm ?_
   refine za ?_
   refine dmv rfl ?_
   refine dq (zbG rfl rfl) ?_
   refine dn ?_
   refine zl rfl (fun h3 => ?_) (fun h3 => ?_)
   ·exfalso
    try simp at h3
    omega
   ·try simp at h3
    refine zo ?_
    refine zk ?_
    refine zB ?_
    refine dmv rfl ?_
    refine dq (zmX zgH ty4 rfl rfl rfl (by omega)) ?_
    refine de0 (zz (i := 0) ty4 rfl rfl rfl rfl rfl (by rw [zdc]; omega) ?_)
    refine dn ?_
    refine zA ?_
    refine zk ?_
    refine zB ?_
    refine dmv rfl ?_
    refine dq (zC rfl rfl (by omega) (by omega)) ?_
    refine das rfl ?_
    refine dn ?_
    refine ⟨k + 1, ?_, ?_, ⟨rfl, trivial⟩, (by repeat (first | exact zq | refine zx rfl ?_ | refine zt rfl rfl ?_)), zO (by show [MObj.cells b2 (zW _ (0 + x.toNat * 1) [.bool true])] = _; rw [zmQ]; dsimp only; rw [List.take_add_one, hx]; rfl)⟩
    ·exact ⟨by omega, trivial⟩
    ·dsimp only; omega
  ·try simp at h2
   have hnk : l.length ≤ k := by omega
   obtain rfl : k = l.length := by omega
   refine z7 ?_
   refine zag ?_
   refine zaY ?_
   refine zT ?_
   refine zk ?_
   refine zP (Ghost.of_eq (M' := [.cells b2 (asciiSet l)]) (by rw [List.take_length])) ?_
   refine za ?_
   refine de rfl (zeX (i := 0) (h := .agg (asciiSet l)) zgH rfl rfl rfl rfl (zdc l) ?_)
   refine de0 (zax (h := .agg (asciiSet l)) zgH rfl rfl (by simp [zdT, zdc]) (zlS l) (zdc l) ?_)
   refine das rfl ?_
   refine dn ?_
   refine zp ?_
   refine ⟨_, _, Ghost.fc0 2 rfl, [_, _], _, ⟨⟨_, _, _, _, _, rfl, zgH, .inr ⟨rfl, rfl, rfl⟩⟩, ⟨rfl, trivial⟩⟩, Weak.refl _, ?_, rfl⟩
   rfl

/-- (*strings.asciiSet).contains -/
theorem zdK [Tracks] {l : Str} {c : UInt8}  : zah Tryz.prog 194 [.vptr (asciiSet l) 0, .int .u8 c.toNat] (.bool (l.contains c)) := by
 have hc := c.toNat_lt
 refine Con.of_body Tryz.func194 rfl Tryz.ntmps194 rfl rfl ?_
 refine za ?_
 refine das rfl ?_
 refine dn ?_
 refine za ?_
 refine dmv rfl ?_
 refine dmv rfl ?_
 refine dq ((zn rfl)) ?_
 refine dq (zqd zgH ty4 rfl rfl rfl (by omega)) ?_
 refine dq (zh ty4 rfl rfl (by rw [show 0 + c.toNat * 1 = c.toNat from by omega]; exact zii l c)) ?_
 refine das rfl ?_
 refine dn ?_
 refine zp ?_
 refine zI rfl ?_
 rfl

/-- strings.trimLeftASCII -/
theorem zgC [Tracks] {s l : Str} (hl : s.length ≤ 1000000) : zah Tryz.prog 165 [.str s, .vptr (asciiSet l) 0] (.str (s.dropWhile (l.contains ·))) := by
 refine Con.of_body Tryz.func165 rfl Tryz.ntmps165 rfl rfl ?_
 refine za ?_
 refine das rfl ?_
 refine dn ?_
 refine zm ?_
 refine zu ?_
 refine zaJ [0, 5, 6, 7, 8, 9, 10, 11, 12, 13, 14] (fun (t : Str) => [(0, .str t)]) (fun (t : Str) => []) (fun (t : Str) => t.length ≤ s.length ∧ s.dropWhile (l.contains ·) = t.dropWhile (l.contains ·)) (fun (t : Str) => t.length) (s) ?_ ?_ ?_ ?_
 ·exact ⟨Nat.le_refl _, rfl⟩
 ·exact ⟨rfl, trivial⟩
 ·exact List.Perm.refl _
 ·intro t hinv
  obtain ⟨ht, hg⟩ := hinv
  refine zm ?_
  refine za ?_
  refine dmv rfl ?_
  refine dq (zdP ty9 rfl) ?_
  refine dq (zaT rfl rfl) ?_
  refine dn ?_
  refine zl rfl (fun h1 => ?_) (fun h2 => ?_)
  ·try simp at h1
   obtain ⟨x, u, rfl⟩ : ∃ x u, t = x :: u := by cases t with | nil => simp at h1 | cons x u => exact ⟨x, u, rfl⟩
   have hlen : (x :: u).length = u.length + 1 := rfl
   refine zo ?_
   refine zk ?_
   refine zu ?_
   refine zm ?_
   refine za ?_
   refine dmv rfl ?_
   refine dmv rfl ?_
   refine dq (zcI (j := 0) (b := x) ty9 rfl rfl rfl rfl) ?_
   refine dq (zw zqN rfl (WeakL.refl _) zdK) ?_
   refine dq (zam rfl) ?_
   refine dn ?_
   refine zl rfl (fun h3 => ?_) (fun h4 => ?_)
   ·try simp at h3
    refine z7 ?_
    refine zag ?_
    refine zlv rfl ?_
    refine zaY ?_
    refine zT ?_
    refine zk ?_
    refine za ?_
    refine dmv rfl ?_
    refine das rfl ?_
    refine dn ?_
    refine zp ?_
    refine zI rfl ?_
    show HVal.str _ = _
    rw [hg]; simp_all [List.dropWhile_cons]
   ·try simp at h4
    refine zo ?_
    refine zk ?_
    refine zB ?_
    refine dmv rfl ?_
    refine dq (zke (l := 1) ty9 rfl ⟨_, _, rfl, rfl⟩ rfl (by omega) (by omega)) ?_
    refine das rfl ?_
    refine dn ?_
    refine zA ?_
    refine ⟨_, ?_, ?_, ⟨rfl, trivial⟩, (by repeat (first | exact zq | refine zx rfl ?_ | refine zt rfl rfl ?_)), List.Perm.refl _⟩
    ·refine ⟨by simp at ht ⊢; omega, ?_⟩
     rw [hg]; simp_all [List.dropWhile_cons]
    ·dsimp only; simp
  ·try simp at h2
   obtain rfl : t = [] := by simpa using h2
   refine z7 ?_
   refine zag ?_
   refine zaY ?_
   refine zT ?_
   refine zk ?_
   refine za ?_
   refine dmv rfl ?_
   refine das rfl ?_
   refine dn ?_
   refine zp ?_
   refine zI rfl ?_
   show HVal.str _ = _
   rw [hg]; simp_all [List.dropWhile_cons]

/-- strings.trimRightASCII -/
theorem zgv [Tracks] {s l : Str} (hl : s.length ≤ 1000000) : zah Tryz.prog 166 [.str s, .vptr (asciiSet l) 0] (.str (zeA (l.contains ·) s)) := by
 refine Con.of_body Tryz.func166 rfl Tryz.ntmps166 rfl rfl ?_
 refine za ?_
 refine das rfl ?_
 refine dn ?_
 refine zm ?_
 refine zu ?_
 refine zaJ [0, 5, 6, 7, 8, 9, 10, 11, 12, 13, 14, 15, 16, 17, 18, 19, 20] (fun (t : Str) => [(0, .str t)]) (fun (t : Str) => []) (fun (t : Str) => t.length ≤ s.length ∧ zeA (l.contains ·) s = zeA (l.contains ·) t) (fun (t : Str) => t.length) (s) ?_ ?_ ?_ ?_
 ·exact ⟨Nat.le_refl _, rfl⟩
 ·exact ⟨rfl, trivial⟩
 ·exact List.Perm.refl _
 ·intro t hinv
  obtain ⟨ht, hg⟩ := hinv
  refine zm ?_
  refine za ?_
  refine dmv rfl ?_
  refine dq (zdP ty9 rfl) ?_
  refine dq (zaT rfl rfl) ?_
  refine dn ?_
  refine zl rfl (fun h1 => ?_) (fun h2 => ?_)
  ·try simp at h1
   obtain ⟨u, x, rfl⟩ : ∃ u x, t = u ++ [x] := ⟨_, _, (List.dropLast_concat_getLast (by intro h0; subst h0; simp at h1)).symm⟩
   have hlen : (u ++ [x]).length = u.length + 1 := by simp
   refine zo ?_
   refine zk ?_
   refine zu ?_
   refine zm ?_
   refine za ?_
   refine dmv rfl ?_
   refine dmv rfl ?_
   refine dmv rfl ?_
   refine dq (zdP ty9 rfl) ?_
   refine dq (za5 rfl rfl (by omega) (by omega)) ?_
   refine dq (zcI (j := u.length) (b := x) ty9 rfl rfl (by omega) (by simp)) ?_
   refine dq (zw zqN rfl (WeakL.refl _) zdK) ?_
   refine dq (zam rfl) ?_
   refine dn ?_
   refine zl rfl (fun h3 => ?_) (fun h4 => ?_)
   ·try simp at h3
    refine z7 ?_
    refine zag ?_
    refine zlv rfl ?_
    refine zaY ?_
    refine zT ?_
    refine zk ?_
    refine za ?_
    refine dmv rfl ?_
    refine das rfl ?_
    refine dn ?_
    refine zp ?_
    refine zI rfl ?_
    show HVal.str _ = _
    rw [hg]; first | rfl | (rw [zf2, if_neg (by simp_all)])
   ·try simp at h4
    refine zo ?_
    refine zk ?_
    refine zB ?_
    refine dmv rfl ?_
    refine dmv rfl ?_
    refine dq (zdP ty9 rfl) ?_
    refine dq (za5 rfl rfl (by omega) (by omega)) ?_
    refine dq (zke (l := 0) (h := u.length) ty9 rfl rfl ⟨_, _, rfl, by omega⟩ (by omega) (by omega)) ?_
    refine das rfl ?_
    refine dn ?_
    refine zA ?_
    refine ⟨_, ?_, ?_, ⟨rfl, trivial⟩, (by repeat (first | exact zq | refine zx rfl ?_ | refine zt rfl rfl ?_)), List.Perm.refl _⟩
    ·refine ⟨by simp at ht ⊢; omega, ?_⟩
     rw [hg, zf2, if_pos (by simp_all)]; simp
    ·dsimp only; simp
  ·try simp at h2
   obtain rfl : t = [] := by simpa using h2
   refine z7 ?_
   refine zag ?_
   refine zaY ?_
   refine zT ?_
   refine zk ?_
   refine za ?_
   refine dmv rfl ?_
   refine das rfl ?_
   refine dn ?_
   refine zp ?_
   refine zI rfl ?_
   show HVal.str _ = _
   rw [hg]; first | rfl | (rw [zf2, if_neg (by simp_all)])

/-- strings.Trim -/
theorem zkS [Tracks] {s l : Str} (hs : s.length ≤ 1000000) (hl : l.length ≤ 1000000) (h2l : 2 ≤ l.length) (ha : ∀ c ∈ l, c.toNat < 128) : zah Tryz.prog 112 [.str s, .str l] (.str ((zeA (l.contains ·) s).dropWhile (l.contains ·))) := by
 refine Con.of_body Tryz.func112 rfl Tryz.ntmps112 rfl rfl ?_
 refine za ?_
 refine das rfl ?_
 refine dn ?_
 refine zm ?_
 refine za ?_
 refine dmv rfl ?_
 refine dq (zbs rfl rfl) ?_
 refine dmv rfl ?_
 refine dg rfl rfl (fun hc => ⟨_, OpenTo.refl _, zf rfl⟩) ?_
 refine dg rfl rfl (fun hc => ⟨_, OpenTo.upd (t := 10) rfl (hc) (OpenTo.refl _), zbs rfl rfl⟩) ?_
 refine dq (zG rfl (.inl rfl) (.inr ⟨_, rfl, fun h => by simp_all⟩)) ?_
 refine dn ?_
 refine zl rfl (fun h1 => ?_) (fun h2 => ?_)
 ·try simp at h1
  refine za ?_
  refine dmv rfl ?_
  refine das rfl ?_
  refine dn ?_
  refine zp ?_
  refine zI rfl ?_
  show HVal.str _ = _
  (rcases h1 with rfl | rfl <;> first | (simp at h2l; done) | (simp [zeA]; done))
 ·try simp at h2
  refine zo ?_
  refine zk ?_
  refine zm ?_
  refine za ?_
  refine dmv rfl ?_
  refine dq (zdP ty9 rfl) ?_
  refine dq (zaj rfl rfl) ?_
  refine dmv rfl ?_
  refine dg rfl rfl (fun hc => ⟨_, OpenTo.refl _, zf rfl⟩) ?_
  refine dg rfl rfl (fun hc => ⟨_, OpenTo.upd (t := 18) rfl (hc) (OpenTo.refl _), zcI (j := 0) (b := l.headD 0) ty9 rfl rfl rfl (hd0 (by intro h0; subst h0; simp at h2l))⟩) ?_
  refine dg rfl rfl (fun hc => ⟨_, OpenTo.upd (t := 19) rfl (hc) (OpenTo.refl _), zY rfl rfl⟩) ?_
  refine dq (zG rfl (.inr ⟨_, rfl, fun h => by simp_all⟩) (.inl rfl)) ?_
  refine dn ?_
  refine zl rfl (fun h3 => ?_) (fun h3 => ?_)
  ·exfalso
   try simp at h3
   omega
  ·try simp at h3
   refine zo ?_
   refine zk ?_
   refine zm ?_
   refine za ?_
   refine dmv rfl ?_
   refine dq (zw zsu rfl (WeakL.refl _) (zgZ (by assumption) (by assumption))) ?_
   refine dmv rfl ?_
   refine dq (zaO rfl rfl) ?_
   refine dq (zaO rfl rfl) ?_
   refine de rfl (zac zgH rfl fun b5 => ?_)
   refine de0 (zax zgH rfl rfl rfl rfl rfl ?_)
   refine das rfl ?_
   refine dn ?_
   refine zP (Ghost.fc0 5 rfl) ?_
   refine za ?_
   refine dmv rfl ?_
   refine dn ?_
   refine zli rfl ?_
   refine za ?_
   refine dmv rfl ?_
   refine dq (zw zsk rfl (WeakL.refl _) (zgv (by assumption))) ?_
   refine dq (zw zsL rfl (WeakL.refl _) (zgC (Nat.le_trans (zoA _ _) hs))) ?_
   refine das rfl ?_
   refine dn ?_
   refine zp ?_
   refine zI rfl ?_
   show HVal.str _ = _
   rfl

/-- internal/stringslite.IndexByte -/
theorem zeO [Tracks] {s : Str} {c : Int}  : zah Tryz.prog 169 [.str s, .int .u8 c] (.int .i64 (Lib.indexByte s c.toNat.toUInt8)) := by
 refine Con.of_body Tryz.func169 rfl Tryz.ntmps169 rfl rfl ?_
 refine za ?_
 refine das rfl ?_
 refine dn ?_
 refine za ?_
 refine dmv rfl ?_
 refine dmv rfl ?_
 refine dq (zlN Tryz.func198 (by kernel_rfl) (by kernel_rfl) (by kernel_rfl) (by kernel_rfl) rfl rfl rfl) ?_
 refine das rfl ?_
 refine dn ?_
 refine zp ?_
 refine zI rfl ?_
 rfl

/-- strings.IndexByte -/
theorem zh3 [Tracks] {s : Str} {c : Int}  : zah Tryz.prog 113 [.str s, .int .u8 c] (.int .i64 (Lib.indexByte s c.toNat.toUInt8)) := by
 refine Con.of_body Tryz.func113 rfl Tryz.ntmps113 rfl rfl ?_
 refine za ?_
 refine das rfl ?_
 refine dn ?_
 refine za ?_
 refine dmv rfl ?_
 refine dmv rfl ?_
 refine dq (zw zss rfl (WeakL.refl _) zeO) ?_
 refine das rfl ?_
 refine dn ?_
 refine zp ?_
 refine zI rfl ?_
 rfl

/-- benchwarmer/benchref1.in -/
theorem zcd [Tracks] {n lo hi : Int}  : zah Tryz.prog 75 [.int .i64 n, .int .i64 lo, .int .i64 hi] (.bool (!(out n lo hi))) := by
 refine Con.of_body Tryz.func75 rfl Tryz.ntmps75 rfl rfl ?_
 refine za ?_
 refine das rfl ?_
 refine dn ?_
 refine za ?_
 refine dmv rfl ?_
 refine dmv rfl ?_
 refine dq (zeR rfl rfl) ?_
 refine dmv rfl ?_
 refine dg rfl rfl (fun hc => ⟨_, OpenTo.refl _, zf rfl⟩) ?_
 refine dg rfl rfl (fun hc => ⟨_, OpenTo.refl _, zf rfl⟩) ?_
 refine dg rfl rfl (fun hc => ⟨_, OpenTo.upd (t := 12) rfl (hc) (OpenTo.upd (t := 11) rfl (hc) (OpenTo.refl _)), zeR rfl rfl⟩) ?_
 refine dq (zG rfl (.inr ⟨_, rfl, fun h => by simp_all⟩) (.inl rfl)) ?_
 refine das rfl ?_
 refine dn ?_
 refine zp ?_
 refine zI rfl ?_
 show HVal.bool _ = _
 congr 1; simp [out]; rw [Bool.eq_iff_iff]; simp; try omega

/-- benchwarmer/benchref1.Key -/
theorem zcO [Tracks] {s : Str} (hs : s.length ≤ 1000000) : zah Tryz.prog 70 [.str s] (.bool (key s)) := by
 refine Con.of_body Tryz.func70 rfl Tryz.ntmps70 rfl rfl ?_
 refine za ?_
 refine das rfl ?_
 refine dn ?_
 refine za ?_
 refine dmv rfl ?_
 refine dq (zdP ty9 rfl) ?_
 refine dq (zw ziU rfl (WeakL.refl _) zcd) ?_
 refine dmv rfl ?_
 refine dg rfl rfl (fun hc => ⟨_, OpenTo.refl _, zf rfl⟩) ?_
 refine dg rfl rfl (fun hc => ⟨_, OpenTo.upd (t := 7) rfl (hc) (OpenTo.refl _), zw zso rfl (WeakL.refl _) (zkS (l := zhr) hs (by decide) (by decide) (by decide))⟩) ?_
 refine dg rfl rfl (fun hc => ⟨_, OpenTo.upd (t := 8) rfl (hc) (OpenTo.refl _), zbs rfl rfl⟩) ?_
 refine dq (zG rfl (.inr ⟨_, rfl, fun h => by simp_all⟩) (.inl rfl)) ?_
 refine dmv rfl ?_
 refine dg rfl rfl (fun hc => ⟨_, OpenTo.refl _, zf rfl⟩) ?_
 refine dg rfl rfl (fun hc => ⟨_, OpenTo.upd (t := 12) rfl (hc) (OpenTo.refl _), zcI (j := 0) (b := s.headD 0) ty9 rfl rfl rfl (hd0 (by rintro rfl; simp [out] at hc))⟩) ?_
 refine dg rfl rfl (fun hc => ⟨_, OpenTo.upd (t := 13) rfl (hc) (OpenTo.refl _), zw zsm rfl (WeakL.refl _) zh3⟩) ?_
 refine dg rfl rfl (fun hc => ⟨_, OpenTo.upd (t := 14) rfl (hc) (OpenTo.refl _), zbG rfl rfl⟩) ?_
 refine dq (zG rfl (.inr ⟨_, rfl, fun h => by simp_all⟩) (.inl rfl)) ?_
 refine das rfl ?_
 refine dn ?_
 refine zp ?_
 refine zI rfl ?_
 show HVal.bool _ = _
 rw [zrD]
 simp [zhr, zi9]

/-- benchwarmer/benchref1.SpanFault -/
theorem zhm [Tracks] {n lo hi : Int}  : zah Tryz.prog 56 [.int .i64 n, .int .i64 lo, .int .i64 hi] (.int .i64 (if out n lo hi then 1 else 0)) := by
 refine Con.of_body Tryz.func56 rfl Tryz.ntmps56 rfl rfl ?_
 refine za ?_
 refine das rfl ?_
 refine dn ?_
 refine zm ?_
 refine za ?_
 refine dmv rfl ?_
 refine dmv rfl ?_
 refine dmv rfl ?_
 refine dq (zw ziU rfl (WeakL.refl _) zcd) ?_
 refine dq (zam rfl) ?_
 refine dn ?_
 refine zl rfl (fun h1 => ?_) (fun h2 => ?_)
 ·try simp at h1
  refine za ?_
  refine das rfl ?_
  refine dn ?_
  refine zp ?_
  refine zI rfl ?_
  show HVal.int .i64 _ = _
  simp_all
 ·try simp at h2
  refine zo ?_
  refine zk ?_
  refine za ?_
  refine das rfl ?_
  refine dn ?_
  refine zp ?_
  refine zI rfl ?_
  show HVal.int .i64 _ = _
  simp_all

/-- benchwarmer/benchref1.MomentFault -/
theorem zcy [Tracks] {n : Int}  : zah Tryz.prog 18 [.int .i64 n] (.int .i64 (if za7 n then 0 else 1)) := by
 refine Con.of_body Tryz.func18 rfl Tryz.ntmps18 rfl rfl ?_
 refine za ?_
 refine das rfl ?_
 refine dn ?_
 refine za ?_
 refine dmv rfl ?_
 refine dq (zw ca56 rfl (WeakL.refl _) zhm) ?_
 refine das rfl ?_
 refine dn ?_
 refine zp ?_
 refine zI rfl ?_
 show HVal.int .i64 _ = _
 rw [znN]
end
end Go.Proofs.YtpcaaekefgkhjaaGreatDoor
namespace Go.Proofs
section
open Go.Shelf
def Tryz.lays190_ren : Go.Shelf.Ren := ⟨fun | 190 => 131 | 125 => 73 | 258 => 178 | 128 => 122 | 129 => 123 | 302 => 200 | 303 => 201 | 304 => 202 | 305 => 203 | 306 => 204 | 307 => 205 | 308 => 129 | 309 => 206 | 310 => 207 | 333 => 226 | 329 => 171 | 330 => 172 | 334 => 227 | 335 => 228 | 336 => 177 | 344 => 252 | n => n, fun | 31 => 26 | 9 => 9 | 3 => 3 | 46 => 147 | 0 => 0 | 51 => 191 | 53 => 193 | 4 => 4 | 183 => 185 | 182 => 184 | 131 => 153 | 5 => 5 | 218 => 241 | 222 => 245 | 228 => 271 | 229 => 272 | n => n, fun | n => n⟩
theorem Tryz.lays190 : Go.Proofs.Lays.n190 Tryz.prog Tryz.lays190_ren := {
 mixed := by kernel_rfl
 f125 := Tryz.func73.trans (congrArg some (by kernel_rfl))
 f128 := Tryz.func122.trans (congrArg some (by kernel_rfl))
 f129 := Tryz.func123.trans (congrArg some (by kernel_rfl))
 f190 := Tryz.func131.trans (congrArg some (by kernel_rfl))
 f258 := Tryz.func178.trans (congrArg some (by kernel_rfl))
 f302 := Tryz.func200.trans (congrArg some (by kernel_rfl))
 f303 := Tryz.func201.trans (congrArg some (by kernel_rfl))
 f304 := Tryz.func202.trans (congrArg some (by kernel_rfl))
 f305 := Tryz.func203.trans (congrArg some (by kernel_rfl))
 f306 := Tryz.func204.trans (congrArg some (by kernel_rfl))
 f307 := Tryz.func205.trans (congrArg some (by kernel_rfl))
 f308 := Tryz.func129.trans (congrArg some (by kernel_rfl))
 f309 := Tryz.func206.trans (congrArg some (by kernel_rfl))
 f310 := Tryz.func207.trans (congrArg some (by kernel_rfl))
 f329 := Tryz.func171.trans (congrArg some (by kernel_rfl))
 f330 := Tryz.func172.trans (congrArg some (by kernel_rfl))
 f333 := Tryz.func226.trans (congrArg some (by kernel_rfl))
 f334 := Tryz.func227.trans (congrArg some (by kernel_rfl))
 f335 := Tryz.func228.trans (congrArg some (by kernel_rfl))
 f336 := Tryz.func177.trans (congrArg some (by kernel_rfl))
 f344 := Tryz.func252.trans (congrArg some (by kernel_rfl))
 t0 := Tryz.underlying0
 a0 := Tryz.isAgg0
 z0 := Tryz.sizeOf0
 v0 := Tryz.zeroValue0
 t3 := Tryz.underlying3
 a3 := Tryz.isAgg3
 z3 := Tryz.sizeOf3
 v3 := Tryz.zeroValue3
 t4 := Tryz.underlying4
 a4 := Tryz.isAgg4
 z4 := Tryz.sizeOf4
 v4 := Tryz.zeroValue4
 t5 := Tryz.underlying5
 a5 := Tryz.isAgg5
 z5 := Tryz.sizeOf5
 v5 := Tryz.zeroValue5
 t9 := Tryz.underlying9
 a9 := Tryz.isAgg9
 z9 := Tryz.sizeOf9
 v9 := Tryz.zeroValue9
 t31 := Tryz.underlying26
 a31 := Tryz.isAgg26
 z31 := Tryz.sizeOf26
 v31 := Tryz.zeroValue26
 t46 := Tryz.underlying147
 a46 := Tryz.isAgg147
 z46 := Tryz.sizeOf147
 v46 := Tryz.zeroValue147
 t51 := Tryz.underlying191
 a51 := Tryz.isAgg191
 z51 := Tryz.sizeOf191
 v51 := Tryz.zeroValue191
 t53 := Tryz.underlying193
 a53 := Tryz.isAgg193
 z53 := Tryz.sizeOf193
 v53 := Tryz.zeroValue193
 t131 := Tryz.underlying153
 a131 := Tryz.isAgg153
 z131 := Tryz.sizeOf153
 v131 := Tryz.zeroValue153
 t182 := Tryz.underlying184
 a182 := Tryz.isAgg184
 z182 := Tryz.sizeOf184
 v182 := Tryz.zeroValue184
 t183 := Tryz.underlying185
 a183 := Tryz.isAgg185
 z183 := Tryz.sizeOf185
 v183 := Tryz.zeroValue185
 t218 := Tryz.underlying241
 a218 := Tryz.isAgg241
 z218 := Tryz.sizeOf241
 v218 := Tryz.zeroValue241
 t222 := Tryz.underlying245
 a222 := Tryz.isAgg245
 z222 := Tryz.sizeOf245
 v222 := Tryz.zeroValue245
 t228 := Tryz.underlying271
 a228 := Tryz.isAgg271
 z228 := Tryz.sizeOf271
 v228 := Tryz.zeroValue271
 t229 := Tryz.underlying272
 a229 := Tryz.isAgg272
 z229 := Tryz.sizeOf272
 v229 := Tryz.zeroValue272 }
def Tryz.lays194_ren : Go.Shelf.Ren := ⟨fun | 194 => 132 | n => n, fun | 31 => 26 | 9 => 9 | 3 => 3 | 4 => 4 | 0 => 0 | n => n, fun | n => n⟩
theorem Tryz.lays194 : Go.Proofs.Lays.n194 Tryz.prog Tryz.lays194_ren := {
 mixed := by kernel_rfl
 f194 := Tryz.func132.trans (congrArg some (by kernel_rfl))
 t0 := Tryz.underlying0
 a0 := Tryz.isAgg0
 z0 := Tryz.sizeOf0
 v0 := Tryz.zeroValue0
 t3 := Tryz.underlying3
 a3 := Tryz.isAgg3
 z3 := Tryz.sizeOf3
 v3 := Tryz.zeroValue3
 t4 := Tryz.underlying4
 a4 := Tryz.isAgg4
 z4 := Tryz.sizeOf4
 v4 := Tryz.zeroValue4
 t9 := Tryz.underlying9
 a9 := Tryz.isAgg9
 z9 := Tryz.sizeOf9
 v9 := Tryz.zeroValue9
 t31 := Tryz.underlying26
 a31 := Tryz.isAgg26
 z31 := Tryz.sizeOf26
 v31 := Tryz.zeroValue26 }
def Tryz.lays171_ren : Go.Shelf.Ren := ⟨fun | 171 => 36 | 243 => 68 | 246 => 111 | 283 => 158 | 284 => 159 | 285 => 160 | 286 => 161 | 129 => 123 | 317 => 190 | 318 => 191 | 319 => 192 | 320 => 193 | 337 => 221 | 338 => 222 | n => n, fun | 3 => 3 | 9 => 9 | 2 => 2 | 4 => 4 | 171 => 229 | 0 => 0 | 53 => 193 | 37 => 231 | 5 => 5 | 173 => 232 | 212 => 265 | 51 => 191 | 20 => 20 | 213 => 266 | 46 => 147 | 232 => 302 | 233 => 303 | n => n, fun | 17 => 1 | 18 => 2 | 19 => 3 | n => n⟩
theorem Tryz.lays171 : Go.Proofs.Lays.n171 Tryz.prog Tryz.lays171_ren := {
 mixed := by kernel_rfl
 f129 := Tryz.func123.trans (congrArg some (by kernel_rfl))
 f171 := Tryz.func36.trans (congrArg some (by kernel_rfl))
 f243 := Tryz.func68.trans (congrArg some (by kernel_rfl))
 f246 := Tryz.func111.trans (congrArg some (by kernel_rfl))
 f283 := Tryz.func158.trans (congrArg some (by kernel_rfl))
 f284 := Tryz.func159.trans (congrArg some (by kernel_rfl))
 f285 := Tryz.func160.trans (congrArg some (by kernel_rfl))
 f286 := Tryz.func161.trans (congrArg some (by kernel_rfl))
 f317 := Tryz.func190.trans (congrArg some (by kernel_rfl))
 f318 := Tryz.func191.trans (congrArg some (by kernel_rfl))
 f319 := Tryz.func192.trans (congrArg some (by kernel_rfl))
 f320 := Tryz.func193.trans (congrArg some (by kernel_rfl))
 f337 := Tryz.func221.trans (congrArg some (by kernel_rfl))
 f338 := Tryz.func222.trans (congrArg some (by kernel_rfl))
 t0 := Tryz.underlying0
 a0 := Tryz.isAgg0
 z0 := Tryz.sizeOf0
 v0 := Tryz.zeroValue0
 t2 := Tryz.underlying2
 a2 := Tryz.isAgg2
 z2 := Tryz.sizeOf2
 v2 := Tryz.zeroValue2
 t3 := Tryz.underlying3
 a3 := Tryz.isAgg3
 z3 := Tryz.sizeOf3
 v3 := Tryz.zeroValue3
 t4 := Tryz.underlying4
 a4 := Tryz.isAgg4
 z4 := Tryz.sizeOf4
 v4 := Tryz.zeroValue4
 t5 := Tryz.underlying5
 a5 := Tryz.isAgg5
 z5 := Tryz.sizeOf5
 v5 := Tryz.zeroValue5
 t9 := Tryz.underlying9
 a9 := Tryz.isAgg9
 z9 := Tryz.sizeOf9
 v9 := Tryz.zeroValue9
 t20 := Tryz.underlying20
 a20 := Tryz.isAgg20
 z20 := Tryz.sizeOf20
 v20 := Tryz.zeroValue20
 t37 := Tryz.underlying231
 a37 := Tryz.isAgg231
 z37 := Tryz.sizeOf231
 v37 := Tryz.zeroValue231
 t46 := Tryz.underlying147
 a46 := Tryz.isAgg147
 z46 := Tryz.sizeOf147
 v46 := Tryz.zeroValue147
 t51 := Tryz.underlying191
 a51 := Tryz.isAgg191
 z51 := Tryz.sizeOf191
 v51 := Tryz.zeroValue191
 t53 := Tryz.underlying193
 a53 := Tryz.isAgg193
 z53 := Tryz.sizeOf193
 v53 := Tryz.zeroValue193
 t171 := Tryz.underlying229
 a171 := Tryz.isAgg229
 z171 := Tryz.sizeOf229
 v171 := Tryz.zeroValue229
 t173 := Tryz.underlying232
 a173 := Tryz.isAgg232
 z173 := Tryz.sizeOf232
 v173 := Tryz.zeroValue232
 t212 := Tryz.underlying265
 a212 := Tryz.isAgg265
 z212 := Tryz.sizeOf265
 v212 := Tryz.zeroValue265
 t213 := Tryz.underlying266
 a213 := Tryz.isAgg266
 z213 := Tryz.sizeOf266
 t232 := Tryz.underlying302
 a232 := Tryz.isAgg302
 z232 := Tryz.sizeOf302
 v232 := Tryz.zeroValue302
 t233 := Tryz.underlying303
 a233 := Tryz.isAgg303
 z233 := Tryz.sizeOf303
 v233 := Tryz.zeroValue303
 g17 := by kernel_rfl
 g18 := by kernel_rfl
 g19 := by kernel_rfl }
def Tryz.lays189_ren : Go.Shelf.Ren := ⟨fun | 189 => 137 | 125 => 73 | 257 => 179 | 128 => 122 | 129 => 123 | 294 => 208 | 295 => 209 | 296 => 210 | 297 => 211 | 298 => 212 | 299 => 213 | 216 => 214 | 300 => 215 | 301 => 216 | 328 => 229 | 329 => 171 | 330 => 172 | 331 => 230 | 332 => 231 | 215 => 175 | 343 => 253 | n => n, fun | 28 => 22 | 3 => 3 | 46 => 147 | 0 => 0 | 51 => 191 | 53 => 193 | 4 => 4 | 183 => 185 | 182 => 184 | 131 => 153 | 5 => 5 | 9 => 9 | 218 => 241 | 222 => 245 | 228 => 271 | 229 => 272 | n => n, fun | n => n⟩
theorem Tryz.lays189 : Go.Proofs.Lays.n189 Tryz.prog Tryz.lays189_ren := {
 mixed := by kernel_rfl
 f125 := Tryz.func73.trans (congrArg some (by kernel_rfl))
 f128 := Tryz.func122.trans (congrArg some (by kernel_rfl))
 f129 := Tryz.func123.trans (congrArg some (by kernel_rfl))
 f189 := Tryz.func137.trans (congrArg some (by kernel_rfl))
 f215 := Tryz.func175.trans (congrArg some (by kernel_rfl))
 f216 := Tryz.func214.trans (congrArg some (by kernel_rfl))
 f257 := Tryz.func179.trans (congrArg some (by kernel_rfl))
 f294 := Tryz.func208.trans (congrArg some (by kernel_rfl))
 f295 := Tryz.func209.trans (congrArg some (by kernel_rfl))
 f296 := Tryz.func210.trans (congrArg some (by kernel_rfl))
 f297 := Tryz.func211.trans (congrArg some (by kernel_rfl))
 f298 := Tryz.func212.trans (congrArg some (by kernel_rfl))
 f299 := Tryz.func213.trans (congrArg some (by kernel_rfl))
 f300 := Tryz.func215.trans (congrArg some (by kernel_rfl))
 f301 := Tryz.func216.trans (congrArg some (by kernel_rfl))
 f328 := Tryz.func229.trans (congrArg some (by kernel_rfl))
 f329 := Tryz.func171.trans (congrArg some (by kernel_rfl))
 f330 := Tryz.func172.trans (congrArg some (by kernel_rfl))
 f331 := Tryz.func230.trans (congrArg some (by kernel_rfl))
 f332 := Tryz.func231.trans (congrArg some (by kernel_rfl))
 f343 := Tryz.func253.trans (congrArg some (by kernel_rfl))
 t0 := Tryz.underlying0
 a0 := Tryz.isAgg0
 z0 := Tryz.sizeOf0
 v0 := Tryz.zeroValue0
 t3 := Tryz.underlying3
 a3 := Tryz.isAgg3
 z3 := Tryz.sizeOf3
 v3 := Tryz.zeroValue3
 t4 := Tryz.underlying4
 a4 := Tryz.isAgg4
 z4 := Tryz.sizeOf4
 v4 := Tryz.zeroValue4
 t5 := Tryz.underlying5
 a5 := Tryz.isAgg5
 z5 := Tryz.sizeOf5
 v5 := Tryz.zeroValue5
 t9 := Tryz.underlying9
 a9 := Tryz.isAgg9
 z9 := Tryz.sizeOf9
 v9 := Tryz.zeroValue9
 t28 := Tryz.underlying22
 a28 := Tryz.isAgg22
 z28 := Tryz.sizeOf22
 v28 := Tryz.zeroValue22
 t46 := Tryz.underlying147
 a46 := Tryz.isAgg147
 z46 := Tryz.sizeOf147
 v46 := Tryz.zeroValue147
 t51 := Tryz.underlying191
 a51 := Tryz.isAgg191
 z51 := Tryz.sizeOf191
 v51 := Tryz.zeroValue191
 t53 := Tryz.underlying193
 a53 := Tryz.isAgg193
 z53 := Tryz.sizeOf193
 v53 := Tryz.zeroValue193
 t131 := Tryz.underlying153
 a131 := Tryz.isAgg153
 z131 := Tryz.sizeOf153
 v131 := Tryz.zeroValue153
 t182 := Tryz.underlying184
 a182 := Tryz.isAgg184
 z182 := Tryz.sizeOf184
 v182 := Tryz.zeroValue184
 t183 := Tryz.underlying185
 a183 := Tryz.isAgg185
 z183 := Tryz.sizeOf185
 v183 := Tryz.zeroValue185
 t218 := Tryz.underlying241
 a218 := Tryz.isAgg241
 z218 := Tryz.sizeOf241
 v218 := Tryz.zeroValue241
 t222 := Tryz.underlying245
 a222 := Tryz.isAgg245
 z222 := Tryz.sizeOf245
 v222 := Tryz.zeroValue245
 t228 := Tryz.underlying271
 a228 := Tryz.isAgg271
 z228 := Tryz.sizeOf271
 v228 := Tryz.zeroValue271
 t229 := Tryz.underlying272
 a229 := Tryz.isAgg272
 z229 := Tryz.sizeOf272
 v229 := Tryz.zeroValue272 }
def Tryz.lays220_ren : Go.Shelf.Ren := ⟨fun | 20 => 138 | n => n, fun | 22 => 22 | 3 => 3 | 4 => 4 | 0 => 0 | n => n, fun | n => n⟩
theorem Tryz.lays220 : Go.Proofs.Lays2.n20 Tryz.prog Tryz.lays220_ren := {
 mixed := by kernel_rfl
 f20 := Tryz.func138.trans (congrArg some (by kernel_rfl))
 t0 := Tryz.underlying0
 a0 := Tryz.isAgg0
 z0 := Tryz.sizeOf0
 v0 := Tryz.zeroValue0
 t3 := Tryz.underlying3
 a3 := Tryz.isAgg3
 z3 := Tryz.sizeOf3
 v3 := Tryz.zeroValue3
 t4 := Tryz.underlying4
 a4 := Tryz.isAgg4
 z4 := Tryz.sizeOf4
 v4 := Tryz.zeroValue4
 t22 := Tryz.underlying22
 a22 := Tryz.isAgg22
 z22 := Tryz.sizeOf22
 v22 := Tryz.zeroValue22
 i3 := by kernel_rfl }
end
end Go.Proofs
namespace Go.HL
section
variable {P : Program}
open Go.Sort Go.Proofs
theorem zft [Tracks] {I : Imm} {F : List MObj} {w : World} {b off n cap sz : Nat} {es : List HVal} (h : Sat P I (.arr (.slice (some ⟨b, off, none⟩) n cap) sz es :: F) w) :
 n = es.length ∧ ∃ rc el fr, w.heap[b]? = some (.cells rc el fr) ∧ Free fr rc.size ∧ (∀ e ∈ es, (zj e).length = sz) ∧ (es.length ≤ cap ∧ cap ≤ 9223372036854775807) ∧ off + cap * sz ≤ rc.size ∧
  (∀ (i j : Nat) (e c : HVal) (v : Value), es[i]? = some e → (zj e)[j]? = some c → rc[off + i * sz + j]? = some v → V I c v) := by
 rcases h.obj _ List.mem_cons_self with ⟨h0, _⟩ | ⟨b', off', cap', rc, el, fr, h1, h2, h3, h4, h5, h6, h7⟩
 ·cases h0
 ·cases h1
  exact ⟨rfl, rc, el, fr, h2, h3, h4, h5, h6, h7⟩
theorem zly [Tracks] {I : Imm} {F : List MObj} {w : World} {b off n cap : Nat} {l : List (List UInt8)} (h : Sat P I (.arr (.slice (some ⟨b, off, none⟩) n cap) 1 (l.map .str) :: F) w) :
 Holds encStr w b off l.toArray ∧ b < w.heap.size ∧ l.length ≤ cap ∧ n = l.length := by
 obtain ⟨h0, rc, el, fr, h2, h3, h4, h5, h6, h7⟩ := zft h
 simp only [List.length_map] at h0 h5
 refine ⟨fun j hj => ?_, ?_, h5.1, h0⟩
 ·have hj' : j < l.length := by simpa using hj
  have hlt : off + j < rc.size := by omega
  constructor
  ·rw [zfx h2, Array.getElem?_eq_getElem hlt]
   have hv := h7 j 0 (.str l[j]) (.str l[j]) rc[off + j] (by simp [hj']) (by simp [zj]) (by simp [Array.getElem?_eq_getElem hlt])
   rw [hv.str_inv]
   simp [hj', encStr]
  ·simp only [World.frozen?, h2]
   have := h3 (off + j) hlt
   simpa using this
 ·rcases Nat.lt_or_ge b w.heap.size with h' | h'
  ·exact h'
  ·simp [Array.getElem?_eq_none h'] at h2
theorem zno [Tracks] {I : Imm} {F : List MObj} {w : World} {b off n cap n' k : Nat} {os : Array Obj} {l zs : List (List UInt8)} (h : Sat P I (.arr (.slice (some ⟨b, off, none⟩) n cap) 1 (l.map .str) :: F) w) (hz : zs.length = l.length) (hn : n' ≤ l.length) :
 Sat P I (.arr (.slice (some ⟨b, off, none⟩) n' cap) 1 ((zs.take n').map .str) :: F) (grow (putRow encStr (Sort.ahead w k) b off zs.toArray) os) := by
 obtain ⟨h0, rc, el, fr, h2, h3, h4, h5, h6, h7⟩ := zft h
 simp only [List.length_map] at h0 h5
 have hlt : b < w.heap.size := by
  rcases Nat.lt_or_ge b w.heap.size with h' | h'
  ·exact h'
  ·simp [Array.getElem?_eq_none h'] at h2
 have hheap : ∀ c, c < w.heap.size → (grow (putRow encStr (Sort.ahead w k) b off zs.toArray) os).heap[c]? = (w.heap.modify b (onCells (putCells encStr off zs.toArray)))[c]? := fun c hc => by
  simp only [grow, putRow, mapBlock, Sort.ahead]
  rw [Array.getElem?_append_left (by simpa using hc)]
 refine h.change (m' := .arr (.slice (some ⟨b, off, none⟩) n' cap) 1 ((zs.take n').map .str)) (fun c hc hnc => ?_) (fun c hc => .inl hc) (by simp [MObj.blocks]) ?_ rfl rfl rfl
 ·rw [hheap c hc, Array.getElem?_modify]
  have : b ≠ c := fun hh => hnc (by subst hh; simp [MObj.blocks])
  rw [if_neg this]
 ·refine .inr ⟨b, off, cap, putCells encStr off zs.toArray rc, el, fr, ?_, ?_, ?_, ?_, ?_, ?_, ?_⟩
  ·simp [hz, Nat.min_eq_left hn]
  ·rw [hheap b hlt, Array.getElem?_modify, if_pos rfl, h2]; rfl
  ·simpa [putCells] using h3
  ·intro e he; obtain ⟨a, _, rfl⟩ := List.mem_map.1 he; simp [zj]
  ·simp; omega
  ·simpa [putCells] using h6
  ·intro i j e c v a1 a2 a3
   have hi : i < n' := by
    have := zM a1; simp at this; omega
   rw [List.getElem?_map, List.getElem?_take_of_lt hi] at a1
   cases hq : zs[i]? with
   | none => rw [hq] at a1; simp at a1
   | some s =>
     rw [hq] at a1; simp at a1; subst a1
     have hj : j = 0 := by have := zM a2; simp [zj] at this; omega
     subst hj
     simp [zj] at a2; subst a2
     have hil : i < zs.length := zM hq
     have hr : off + i * 1 + 0 < rc.size := by omega
     rw [putCells, Array.getElem?_mapIdx, Array.getElem?_eq_getElem hr, Option.map_some, if_pos ⟨by omega, by simp; omega⟩] at a3
     have e1 : off + i * 1 + 0 - off = i := by omega
     rw [e1] at a3
     have e2 : zs.toArray[i]! = s := by
      rw [getElem!_pos zs.toArray i (by simpa using hil)]
      have := List.getElem?_eq_getElem hil
      rw [hq] at this; simpa using (Option.some.inj this).symm
     rw [e2] at a3
     cases a3
     exact .str s

theorem VL.one {I : Imm} {h : HVal} {args : List Value} (hv : VL I [h] args) : ∃ v, args = [v] ∧ V I h v := by
 obtain ⟨h1, h2⟩ := hv
 match args, h1 with
 | [v], _ => exact ⟨v, rfl, h2 0 h v rfl rfl⟩

def zem (l : List (List UInt8)) : List (List UInt8) := l.mergeSort fun x y => decide (x ≤ y)
theorem zgL (l : List (List UInt8)) : (zem l).length = l.length := by simp [zem]

/-- A function that works on a slice of strings in place and hands on nothing. -/
theorem zq1 [Tracks] {P : Program} {f : FuncId} {l zs : List (List UInt8)} {v : Value} (hz : zs.length = l.length)
 (h1 : ∀ (b off cap : Nat) (w : World), Holds encStr w b off l.toArray → b < w.heap.size → l.length ≤ cap → Calls P f #[.slice (some ⟨b, off, none⟩) l.length cap] w fun e w' => e = .returned (.tuple #[]) ∧ ∃ n os, w' = grow (putRow encStr (Sort.ahead w n) b off zs.toArray) os)
 (h0 : l = [] → zah P f [.slice 1 []] (.tup [])) : Con P f [.raw v] [.arr v 1 (l.map .str)] fun x M' => x = .tup [] ∧ M' = [.arr v 1 (zs.map .str)] := by
 intro I F w args ha hs
 obtain ⟨u, rfl, hu⟩ := ha.one
 obtain rfl : u = v := hu.raw_inv
 rcases hs.obj (.arr u 1 (l.map .str)) (by simp) with ⟨rfl, hn⟩ | ⟨b, off, cap, rc, el, fr, rfl, _⟩
 ·have hl : l = [] := by simpa using hn
  subst hl
  have hz0 : zs = [] := List.length_eq_zero_iff.1 hz
  subst hz0
  refine (h0 rfl I (.arr (.slice none 0 0) 1 [] :: F) w [.slice none 0 0] (VL.cons (.slice0 _ _ _) VL.nil) (by simpa using hs)).mono ?_
  rintro _ w' ⟨v, h, M', J, rfl, hle, ⟨rfl, rfl⟩, hv, hsat⟩
  exact ⟨v, _, [.arr (.slice none 0 0) 1 []], J, rfl, hle, ⟨rfl, rfl⟩, hv, by simpa using hsat⟩
 ·rw [List.length_map] at hs ⊢
  obtain ⟨g1, g2, g3, g4⟩ := zly hs
  refine (h1 b off cap w g1 g2 g3).mono ?_
  rintro _ w' ⟨rfl, n, os, rfl⟩
  refine ⟨_, .tup [], _, I, rfl, .refl I, ⟨rfl, rfl⟩, .tup (by simp) (fun j c v h _ => by simp at h), ?_⟩
  have := zno (n' := l.length) (k := n) (os := os) hs hz (Nat.le_refl _)
  rw [← hz, List.take_length, hz] at this
  exact this
/-- The same, where the slice comes back, cut. -/
theorem zpR [Tracks] {P : Program} {f : FuncId} {l zs : List (List UInt8)} {v : Value} (hz : zs.length ≤ l.length)
 (h1 : ∀ (b off cap : Nat) (w : World), Holds encStr w b off l.toArray → b < w.heap.size → l.length ≤ cap → Calls P f #[.slice (some ⟨b, off, none⟩) l.length cap] w fun e w' => e = .returned (.slice (some ⟨b, off, none⟩) zs.length cap) ∧ ∃ n, w' = putRow encStr (Sort.ahead w n) b off (zs ++ List.replicate (l.length - zs.length) []).toArray)
 (h0 : l = [] → ∀ w, Calls P f #[.slice none 0 0] w fun e w' => e = .returned (.slice none 0 0) ∧ w' = w) : Con P f [.raw v] [.arr v 1 (l.map .str)] fun x M' => ∃ u, x = .raw u ∧ M' = [.arr u 1 (zs.map .str)] := by
 intro I F w args ha hs
 obtain ⟨u, rfl, hu⟩ := ha.one
 obtain rfl : u = v := hu.raw_inv
 rcases hs.obj (.arr u 1 (l.map .str)) (by simp) with ⟨rfl, hn⟩ | ⟨b, off, cap, rc, el, fr, rfl, _⟩
 ·have hl : l = [] := by simpa using hn
  subst hl
  have hz0 : zs = [] := List.length_eq_zero_iff.1 (by simpa using hz)
  subst hz0
  refine (h0 rfl w).mono ?_
  rintro _ w' ⟨rfl, rfl⟩
  exact ⟨_, .raw (.slice none 0 0), _, I, rfl, .refl I, ⟨_, rfl, rfl⟩, .raw _ rfl, hs⟩
 ·rw [List.length_map] at hs ⊢
  obtain ⟨g1, g2, g3, g4⟩ := zly hs
  refine (h1 b off cap w g1 g2 g3).mono ?_
  rintro _ w' ⟨rfl, n, rfl⟩
  refine ⟨_, .raw (.slice (some ⟨b, off, none⟩) zs.length cap), _, I, rfl, .refl I, ⟨_, rfl, rfl⟩, .raw _ rfl, ?_⟩
  have := zno (zs := zs ++ List.replicate (l.length - zs.length) []) (n' := zs.length) (k := n) (os := #[]) hs (by simp; omega) hz
  rw [List.take_left' rfl, grow_empty] at this
  exact this
end
section
theorem zkN {α : Type} [BEq α] [LawfulBEq α] [Inhabited α] [DecidableEq α] (d : Array α) (m : Nat) : (Lib.compactUpTo d m).length ≤ m := by
 unfold Lib.compactUpTo
 rw [List.length_map]
 have := List.length_filter_le (Lib.keeps d) (List.range m)
 simpa using this
theorem zn7 (l : List Str) : (Lib.compact l).length ≤ l.length := zkN _ _
end
end Go.HL
namespace Go.Proofs.YtpcaaekefgkhjaaGreatDoor
set_option maxRecDepth 100000
set_option linter.unusedVariables false
set_option linter.unusedSimpArgs false
section
open Go.HL
/-- math/bits.Len64 -/
theorem zje [Tracks]   : zah Tryz.prog 123 [.int .u64 0] (.int .i64 0) := by
 refine Con.of_body Tryz.func123 rfl Tryz.ntmps123 rfl rfl ?_
 refine za ?_
 refine das rfl ?_
 refine dn ?_
 refine zm ?_
 refine za ?_
 refine dmv rfl ?_
 refine dq (zbG rfl rfl) ?_
 refine dn ?_
 refine zdL rfl ?_
 refine zo ?_
 refine zk ?_
 refine zm ?_
 refine za ?_
 refine dmv rfl ?_
 refine dq (zbG rfl rfl) ?_
 refine dn ?_
 refine zdL rfl ?_
 refine zo ?_
 refine zk ?_
 refine zm ?_
 refine za ?_
 refine dmv rfl ?_
 refine dq (zbG rfl rfl) ?_
 refine dn ?_
 refine zdL rfl ?_
 refine zo ?_
 refine zk ?_
 refine za ?_
 refine dmv rfl ?_
 refine dmv rfl ?_
 refine dq (zdu zqx ty5 rfl) ?_
 refine dq (zcI (j := 0) (b := 0) ty9 rfl rfl rfl rfl) ?_
 refine dq (zdu ty5 ty3 rfl) ?_
 refine dq (zC rfl rfl (by decide) (by decide)) ?_
 refine das rfl ?_
 refine dn ?_
 refine zp ?_
 refine zI rfl ?_
 rfl

/-- math/bits.Len -/
theorem zku [Tracks]   : zah Tryz.prog 73 [.int .u64 0] (.int .i64 0) := by
 refine Con.of_body Tryz.func73 rfl Tryz.ntmps73 rfl rfl ?_
 refine za ?_
 refine das rfl ?_
 refine dn ?_
 refine zm ?_
 refine zdL rfl ?_
 refine zo ?_
 refine zk ?_
 refine za ?_
 refine dmv rfl ?_
 refine dq (zw zqs rfl (WeakL.refl _) zje) ?_
 refine das rfl ?_
 refine dn ?_
 refine zp ?_
 refine zI rfl ?_
 rfl

/-- slices.insertionSortOrdered[string] -/
theorem zd5 [Tracks]   : zah Tryz.prog 200 [eSs [], .int .i64 0, .int .i64 0] (.tup []) := by
 refine Con.of_body Tryz.func200 rfl Tryz.ntmps200 rfl rfl ?_
 refine za ?_
 refine dmv rfl ?_
 refine dq (zC rfl rfl (by omega) (by omega)) ?_
 refine das rfl ?_
 refine dn ?_
 refine zu ?_
 refine zaJ [6, 7, 10, 11, 12, 13, 14, 15, 16, 17, 18, 19, 20, 21, 22, 23, 24, 25, 26, 27, 28, 29, 30, 31, 32, 33, 34, 35, 36, 37, 38, 39, 40, 41, 42, 43, 44, 45, 46, 47, 48] (fun (u : Unit) => [(6, .int .i64 1)]) (fun (u : Unit) => []) (fun (u : Unit) => True) (fun (u : Unit) => 0) (()) ?_ ?_ ?_ ?_
 ·trivial
 ·exact ⟨rfl, trivial⟩
 ·exact List.Perm.refl _
 ·intro u hu
  refine zm ?_
  refine za ?_
  refine dmv rfl ?_
  refine dmv rfl ?_
  refine dq (zY rfl rfl) ?_
  refine dn ?_
  refine zdL rfl ?_
  refine z7 ?_
  refine zag ?_
  refine zaY ?_
  refine zT ?_
  refine zqH rfl ?_
  rfl

/-- slices.pdqsortOrdered[string] -/
theorem ze9 [Tracks]   : zah Tryz.prog 178 [eSs [], .int .i64 0, .int .i64 0, .int .i64 0] (.tup []) := by
 refine Con.of_body Tryz.func178 rfl Tryz.ntmps178 rfl rfl ?_
 refine za ?_
 refine das rfl ?_
 refine dn ?_
 refine za ?_
 refine das rfl ?_
 refine dn ?_
 refine zu ?_
 refine zaJ (1 :: 2 :: 3 :: 8 :: 9 :: 10 :: 11 :: 12 :: 13 :: 14 :: 15 :: 16 :: 17 :: 18 :: 19 :: 20 :: 21 :: 22 :: 23 :: 24 :: 25 :: 26 :: 27 :: 28 :: 29 :: 30 :: 31 :: 32 :: 33 :: 34 :: 35 :: 36 :: 37 :: 38 :: 39 :: 40 :: 41 :: 42 :: 43 :: 44 :: 45 :: 46 :: 47 :: 48 :: 49 :: 50 :: 51 :: 52 :: 53 :: 54 :: 55 :: 56 :: 57 :: 58 :: 59 :: 60 :: 61 :: 62 :: 63 :: 64 :: 65 :: 66 :: 67 :: 68 :: 69 :: 70 :: 71 :: 72 :: 73 :: 74 :: 75 :: 76 :: 77 :: 78 :: 79 :: 80 :: 81 :: 82 :: 83 :: 84 :: 85 :: 86 :: 87 :: 88 :: 89 :: 90 :: 91 :: 92 :: 93 :: 94 :: 95 :: 96 :: 97 :: 98 :: 99 :: 100 :: 101 :: 102 :: 103 :: 104 :: 105 :: 106 :: 107 :: 108 :: 109 :: 110 :: 111 :: 112 :: 113 :: 114 :: 115 :: 116 :: 117 :: 118 :: 119 :: 120 :: 121 :: 122 :: 123 :: 124 :: 125 :: 126 :: 127 :: 128 :: 129 :: 130 :: 131 :: 132 :: 133 :: []) (fun (u : Unit) => [(1, .int .i64 0), (2, .int .i64 0)]) (fun (u : Unit) => []) (fun (u : Unit) => True) (fun (u : Unit) => 0) (()) ?_ ?_ ?_ ?_
 ·trivial
 ·exact ⟨rfl, rfl, trivial⟩
 ·exact List.Perm.refl _
 ·intro u hu
  refine zu ?_
  refine za ?_
  refine dmv rfl ?_
  refine dmv rfl ?_
  refine dq (za5 rfl rfl (by omega) (by omega)) ?_
  refine das rfl ?_
  refine dn ?_
  refine zm ?_
  refine za ?_
  refine dmv rfl ?_
  refine dq (zeR rfl rfl) ?_
  refine dn ?_
  refine zli rfl ?_
  refine za ?_
  refine dmv rfl ?_
  refine dmv rfl ?_
  refine dmv rfl ?_
  refine dq (zw zsN rfl (WeakL.refl _) zd5) ?_
  refine dn ?_
  refine zp ?_
  refine zI rfl ?_
  rfl

/-- slices.Sort[[]string,string] -/
theorem zjd [Tracks]   : zah Tryz.prog 131 [eSs []] (.tup []) := by
 refine Con.of_body Tryz.func131 rfl Tryz.ntmps131 rfl rfl ?_
 refine za ?_
 refine dmv rfl ?_
 refine dq (zR zQ rfl) ?_
 refine das rfl ?_
 refine dn ?_
 refine zB ?_
 refine dmv rfl ?_
 refine dmv rfl ?_
 refine dmv rfl ?_
 refine dq (zdu ty3 zi7 rfl) ?_
 refine dq (zw ca73 rfl (WeakL.refl _) zku) ?_
 refine dq (zw zsd rfl (WeakL.refl _) ze9) ?_
 refine dn ?_
 refine zqH rfl ?_
 rfl

/-- slices.Sort: the slice holds the same strings in order -/
theorem zhZ [Tracks] {l : List Str} {v : Value} (hl : l.length ≤ 1000000) : Con Tryz.prog 131 [.raw v] [.arr v 1 (l.map .str)] fun x M' => x = .tup [] ∧ M' = [.arr v 1 ((zem l).map .str)] :=
 zq1 (zgL l) (fun b off cap w h1 h2 _ => Any.slices_Sort_string Tryz.lays190 b off cap l w h1 h2 (by omega)) (fun _ => zjd)

/-- slices.Compact: the slice is cut to the strings that differ from the one before -/
theorem zgA [Tracks] {l : List Str} {v : Value} (hl : l.length ≤ 1000000) : Con Tryz.prog 132 [.raw v] [.arr v 1 (l.map .str)] fun x M' => ∃ u, x = .raw u ∧ M' = [.arr u 1 ((Lib.compact l).map .str)] :=
 zpR (zn7 l) (fun b off cap w h1 h2 h3 => Any.slices_Compact_string Tryz.lays194 b off cap l w h1 (by omega) h3) (fun _ w => Any.slices_Compact_string_empty Tryz.lays194 none 0 w)

/-- benchwarmer/benchref1.once -/
theorem zju [Tracks] {l : List Str} (hl : l.length ≤ 1000000) : zoh Tryz.prog 96 [eSs l] 1 ((Lib.compact (zem l)).map .str) := by
 refine Con.of_body Tryz.func96 rfl Tryz.ntmps96 rfl rfl ?_
 refine za ?_
 refine das rfl ?_
 refine dn ?_
 refine za ?_
 refine dmv rfl ?_
 refine de rfl (zef ca34 rfl (WeakL.refl _) (zdC (by assumption)) fun v4 => ?_)
 refine das rfl ?_
 refine dn ?_
 refine za ?_
 refine dmv rfl ?_
 refine de rfl (zb2 (M1 := [_]) (R := []) zqM rfl (WeakL.refl _) (List.Perm.refl _) (zhZ hl) ?_)
 rintro _ _ ⟨rfl, rfl⟩
 refine dn ?_
 refine za ?_
 refine dmv rfl ?_
 refine de rfl (zb2 (M1 := [_]) (R := []) zqz rfl (WeakL.refl _) (List.Perm.refl _) (zgA (l := zem l) (by rw [zgL]; exact hl)) ?_)
 rintro _ _ ⟨u8, rfl, rfl⟩
 refine das rfl ?_
 refine dn ?_
 refine zp ?_
 refine zl3 rfl ?_
 rfl
end
end Go.Proofs.YtpcaaekefgkhjaaGreatDoor
namespace Go.HL
section
open Op (bytesLess)
theorem zlI (a b : Int) : zdh a b = -zdh b a := by
 unfold zdh; split <;> split <;> (try split) <;> omega
theorem zeV (a b : Str) : zbu a b = -zbu b a := by
 rw [zg8, zg8]
 rcases zcJ a b with h | h | h
 ·have hne : a ≠ b := fun e => by subst e; rw [zbf] at h; cases h
  simp [h, zbN h, hne.symm]
 ·subst h; simp [zbf]
 ·have hne : a ≠ b := fun e => by subst e; rw [zbf] at h; cases h
  simp [h, zbN h, hne]
theorem zpM (a b : Int) : orI [-a, -b] = -orI [a, b] := by
 by_cases h1 : a = 0 <;> by_cases h2 : b = 0 <;> simp [orI, h1, h2]
end
section
section
variable {α : Type} (c : α → α → Int)
def zkC (x : α) : List α → List α
 | [] => [x]
 | y :: t => if c x y < 0 then y :: zkC x t else x :: y :: t
def zd0 (x : α) (S : List α) : List α := (zkC c x S.reverse).reverse
def zcn (l : List α) : List α := l.foldl (fun S x => zd0 c x S) []
theorem zpL (x : α) : zd0 c x [] = [x] := rfl
theorem zlt (x y : α) (S : List α) : zd0 c x (S ++ [y]) = if c x y < 0 then zd0 c x S ++ [y] else S ++ [y, x] := by
 unfold zd0
 rw [List.reverse_append]
 simp only [List.reverse_cons, List.reverse_nil, List.nil_append, List.singleton_append, zkC]
 split <;> simp
theorem zoo (l : List α) (x : α) : zcn c (l ++ [x]) = zd0 c x (zcn c l) := by simp [zcn, List.foldl_append]
theorem zlq (x : α) : ∀ l, (zkC c x l).Perm (x :: l)
 | [] => .refl _
 | y :: t => by
   simp only [zkC]; split
   ·exact ((zlq x t).cons y).trans (.swap _ _ _)
   ·exact .refl _
theorem zoD (x : α) (S : List α) : (zd0 c x S).Perm (x :: S) := by
 unfold zd0
 exact (List.reverse_perm _).trans ((zlq c x _).trans ((List.reverse_perm S).cons x))
theorem zkx : ∀ (l S : List α), (l.foldl (fun S x => zd0 c x S) S).Perm (S ++ l)
 | [], S => by simp
 | x :: l, S => by
   simp only [List.foldl_cons]
   refine (zkx l _).trans ?_
   refine ((zoD c x S).append_right l).trans ?_
   exact (List.perm_middle (a := x) (l₁ := S) (l₂ := l)).symm
theorem zkB (l : List α) : (zcn c l).Perm l := by
 have := zkx c l []
 simpa [zcn] using this
theorem zeQ (l : List α) : (zcn c l).length = l.length := (zkB c l).length_eq
/-- A comparison by which things stand in one line, as far as they are in s. -/
structure Cmp (s : α → Prop) : Prop where
 flip : ∀ x y, s x → s y → (c x y < 0 ↔ 0 < c y x)
 trans : ∀ x y z, s x → s y → s z → c x y ≤ 0 → c y z ≤ 0 → c x z ≤ 0
variable {c}
end
end
section
variable {P : Program}
section
variable {P : Program} {e : Env} {dst : Option Tmp} {ty : TypeId} {pos : String} {af : Array Edge} {g : Option (Nat × Bool)} {M : List MObj} {K : HVal → List MObj → Prop}
theorem zfe {α : Type} : ∀ {l : List α} {i : Nat} {x : α}, l[i]? = some x → l.Perm (x :: l.eraseIdx i)
 | [], i, x, h => by simp at h
 | y :: l, 0, x, h => by simp at h; subst h; exact .refl _
 | y :: l, i + 1, x, h => by
   have := zfe (l := l) (i := i) (x := x) (by simpa using h)
   exact (this.cons y).trans (.swap _ _ _)
/-- A call on one of the owned objects. -/
theorem ze [Tracks] {f : FuncId} {args : Array Operand} {ats : Array TypeId} {hs hs' : List HVal} {i : Nat} {m : MObj} {Q : HVal → List MObj → Prop} (hc : Callable P f) (ha : zdq e args.toList = some hs) (hw : WeakL hs hs') (hm : M[i]? = some m)
 (hp : Con P f hs' [m] Q) (hk : ∀ h M', Q h M' → K h (M' ++ M.eraseIdx i)) : EOp P e M ⟨dst, .call ⟨.value (.func f), args, ats⟩, ty, pos, af, g⟩ K :=
 zb2 (M1 := [m]) hc ha hw (zfe hm) hp hk
/-- The length of an owned slice. -/
theorem zaA [Tracks] {α : Type} {f : α → HVal} {x : Operand} {t el : TypeId} {size bytes : Nat} {zero : Value} {i : Nat} {v : Value} {sz : Nat} {es : List α} (hf : Fits P t (.slice el) size bytes zero) (hx : zL e x = some (.raw v))
 (hm : M[i]? = some (.arr v sz (es.map f))) (hk : K (.int .i64 es.length) M) : EOp P e M ⟨dst, .call ⟨.builtin .len, #[x], #[t]⟩, ty, pos, af, g⟩ K := by
 refine zrE hf hx hm ?_
 rw [List.length_map]; exact hk
/-- An element of an owned slice is loaded, whole or in part, through its address. -/
theorem za6 [Tracks] {α : Type} {f : α → HVal} {x : Operand} {t : TypeId} {d : TD} {size bytes : Nat} {zero : Value} {i b off cap n sz j o : Nat} {es : List α} {y : α} (k : Nat) {h : HVal} (hf : Fits P t d size bytes zero)
 (hx : zL e x = some (.raw (.pointer (some ⟨b, o, none⟩)))) (ho' : o = off + j * sz + k) (hm : M[i]? = some (.arr (.slice (some ⟨b, off, none⟩) n cap) sz (es.map f))) (hj : es[j]? = some y)
 (hd : d.isAgg = false) (hh : (zj (f y))[k]? = some h) (hk : K h M) : EOp P e M ⟨dst, .load t x, ty, pos, af, g⟩ K :=
 zie (j := j) (f := k) (y := f y) hf hx ho' hm (by rw [List.getElem?_map, hj]; rfl) (.inl ⟨hd, hh⟩) hk
end
section
variable {P : Program} {ops : Array Oper} {n : Nat} {K : Env → List MObj → Prop} {rest : List Oper} {e : Env} {M : List MObj} {d : Nat} {op : Op} {ty : TypeId} {pos : String} {af : Array Edge}
/-- An operation with an effect under a guard: what it brings about holds where it is not carried out as well. -/
theorem dgx [Tracks] {j : Nat} {want c : Bool} (Q : HVal → List MObj → Prop) (hd : Nat.blt d n = true) (hg : zew ops e j want = some c) (hn : c = false → ∃ x, Q x M)
 (hp : c = true → ∃ e2, OpenTo e e2 ∧ EOp P e2 M ⟨some d, op, ty, pos, af, some (j, want)⟩ Q)
 (k : ∀ x M', Q x M' → Der P ops n K rest (upd e d (.opt c x)) M') : Der P ops n K (⟨some d, op, ty, pos, af, some (j, want)⟩ :: rest) e M :=
 ⟨fun t ht => by simp at ht; subst ht; exact zev hd, c, hg, fun hc => by
  obtain ⟨e2, h1, h2⟩ := hp hc
  intro I F a w ho hs
  exact Oper.wp_noQ (fun _ _ ⟨v, x, M', J, h3, h4, h5, h7, h8⟩ => ⟨v, .opt c x, M', J, h3, h4, k x M' h5, .opt (fun _ => h7) (fun hf => by rw [hc] at hf; cases hf), h8⟩) (h2 I F a w (ho.open h1) hs),
  fun hc => by
   obtain ⟨x, hx⟩ := hn hc
   subst hc
   exact ⟨x, k x M hx⟩⟩
end
section
variable {P : Program} {e : Env} {dst : Option Tmp} {ty : TypeId} {pos : String} {af : Array Edge} {g : Option (Nat × Bool)}
end
end
section
variable {P : Program}
open Go.Sort Go.Proofs
section
variable {P : Program} {n : Nat} {e : Env} {M : List MObj} {Q : Exit → Env → List MObj → Prop} {c c' : Code}
def zl1 [Tracks] {ι : Type} (e : Env) (ks : List Nat) (W : ι → List (Nat × HVal)) (MM : ι → List MObj) (Iv : ι → Prop) (Q : Exit → Env → List MObj → Prop) : Exit → Env → List MObj → Prop
 | .normal, e', M => ∃ e2 M2, Ghost e' M e2 M2 ∧ ∃ j, Iv j ∧ zdl e2 (W j) ∧ zel ks e e2 ∧ M2.Perm (MM j)
 | x, e', M => Q x e' M
theorem zqg [Tracks] {ι : Type} (ks : List Nat) (W : ι → List (Nat × HVal)) (MM : ι → List MObj) (Iv : ι → Prop) (h1 : HWp P n c e M (zl1 e ks W MM Iv Q))
 (h2 : ∀ i, Iv i → HWp P n c' (loopE e ks (W i)) (MM i) Q) : HWp P n (.seq c c') e M Q := by
 refine zm (zga h1 ?_)
 intro x e1 M1 hq
 cases x with
 | normal =>
   obtain ⟨e2, M2, hg, j, a1, a2, a3, a4⟩ := hq
   exact zP (hg.trans ((Ghost.sub (Sub.loopE a2 a3)).trans (Ghost.perm a4))) (h2 j a1)
 | _ => exact hq
theorem zcs [Tracks] {ι : Type} {e0 e2 : Env} {M2 : List MObj} {ks : List Nat} {W : ι → List (Nat × HVal)} {MM : ι → List MObj} {Iv : ι → Prop} (hg : Ghost e M e2 M2) (h : zl1 e0 ks W MM Iv Q .normal e2 M2) : zl1 e0 ks W MM Iv Q .normal e M := by
 obtain ⟨e3, M3, g, r⟩ := h
 exact ⟨e3, M3, hg.trans g, r⟩
theorem zne [Tracks] {ι : Type} {e0 : Env} {ks : List Nat} {W : ι → List (Nat × HVal)} {MM : ι → List MObj} {Iv : ι → Prop} (j : ι) (h : Iv j) (hW : zdl e (W j)) (hk : zel ks e0 e) (hM : M.Perm (MM j)) : zl1 e0 ks W MM Iv Q .normal e M :=
 ⟨e, M, Ghost.sub (Sub.refl _), j, h, hW, hk, hM⟩
end
/-- Another view of the state within a region. -/
theorem zrQ [Tracks] {P : Program} {ops : Array Oper} {n : Nat} {K : Env → List MObj → Prop} {rest : List Oper} {e : Env} {M M' : List MObj} (hm : M = M') (k : Der P ops n K rest e M') : Der P ops n K rest e M := hm ▸ k
/-- The header of an owned slice, with its capacity. -/
theorem zc6 [Tracks] {P : Program} {n : Nat} {e : Env} {M : List MObj} {c : Code} {Q : Exit → Env → List MObj → Prop} {i : Nat} {v : Value} {sz : Nat} {es : List HVal} (hm : M[i]? = some (.arr v sz es))
 (h0 : v = .slice none 0 0 → es = [] → HWp P n c e M Q) (h1 : ∀ b off cap, v = .slice (some ⟨b, off, none⟩) es.length cap → es.length ≤ cap → HWp P n c e M Q) : HWp P n c e M Q := fun I F a w a1 a2 a3 a4 => by
 rcases a4.obj _ (List.mem_append_left _ (List.mem_of_getElem? hm)) with ⟨g1, g2⟩ | ⟨b, off, cap, rc, el, fr, g1, _, _, _, g5, _⟩
 ·exact h0 g1 g2 I F a w a1 a2 a3 a4
 ·exact h1 b off cap g1 g5.1 I F a w a1 a2 a3 a4
theorem zK [Tracks] {α : Type} {l r : List α} {x : α} (i : Nat) (h : l[i]? = some x) (hr : (l.eraseIdx i).Perm r) : l.Perm (x :: r) := (zfe h).trans (hr.cons x)
theorem zF [Tracks] {α : Type} {l r : List α} {x y : α} (i : Nat) (h : l[i]? = some y) (hy : y = x) (hr : (l.eraseIdx i).Perm r) : l.Perm (x :: r) := hy ▸ zK i h hr
theorem zhX [Tracks] {P : Program} {f : FuncId} {hargs : List HVal} {h : HVal} (hc : ∀ (I : Imm) (w : World) (args : List Value), VL I hargs args → ∃ v, V I h v ∧ Calls P f args.toArray w fun e w' => e = .returned v ∧ w' = w) : zah P f hargs h := by
 intro I F w args ha hs
 obtain ⟨v, hv, hcalls⟩ := hc I w args ha
 refine hcalls.mono ?_
 rintro _ w' ⟨rfl, rfl⟩
 exact ⟨v, h, [], I, rfl, .refl I, ⟨rfl, rfl⟩, hv, hs⟩
end
section
variable {P : Program}
section
variable {P : Program} {e : Env} {dst : Option Tmp} {ty : TypeId} {pos : String} {af : Array Edge} {g : Option (Nat × Bool)} {M : List MObj} {K : HVal → List MObj → Prop}
/-- A whole element of an owned slice is loaded. -/
theorem zdF [Tracks] {α : Type} {f : α → HVal} {x : Operand} {t : TypeId} {d : TD} {size bytes : Nat} {zero : Value} {i b off cap n sz j o : Nat} {es : List α} {y : α} (hf : Fits P t d size bytes zero)
 (hx : zL e x = some (.raw (.pointer (some ⟨b, o, none⟩)))) (ho' : o = off + j * sz) (hm : M[i]? = some (.arr (.slice (some ⟨b, off, none⟩) n cap) sz (es.map f))) (hj : es[j]? = some y)
 (hd : d.isAgg = true) (hs : size = (zj (f y)).length) (hv : f y = .agg (zj (f y))) (hk : K (f y) M) : EOp P e M ⟨dst, .load t x, ty, pos, af, g⟩ K :=
 zie (j := j) (f := 0) (y := f y) hf hx (by omega) hm (by rw [List.getElem?_map, hj]; rfl) (.inr ⟨hd, by omega, by rw [List.drop_zero, hs, List.take_length]; exact hv⟩) hk
/-- A whole element of an owned slice is stored. -/
theorem zeF [Tracks] {α : Type} {f : α → HVal} {x z : Operand} {t : TypeId} {d : TD} {size bytes : Nat} {zero : Value} {i b off cap n sz j o : Nat} {es : List α} {y y' : α} (hf : Fits P t d size bytes zero)
 (hx : zL e x = some (.raw (.pointer (some ⟨b, o, none⟩)))) (ho' : o = off + j * sz) (hz : zL e z = some (f y')) (hm : M[i]? = some (.arr (.slice (some ⟨b, off, none⟩) n cap) sz (es.map f))) (hj : es[j]? = some y)
 (hok : zdT size (f y') = true) (hfl : zbi (zj (f y')) = true) (hle : (zj (f y')).length = (zj (f y)).length)
 (hk : K .junk (M.set i (.arr (.slice (some ⟨b, off, none⟩) n cap) sz ((es.set j y').map f)))) : EOp P e M ⟨dst, .store t x z, ty, pos, af, g⟩ K := by
 have h0 := (zc8 hok).1
 refine za3 (j := j) (f := 0) (y := f y) (y' := f y') hf hx (by omega) hz hm (by rw [List.getElem?_map, hj]; rfl) hok hfl (by omega) ?_ ?_
 ·rw [zmG hle]
 ·rw [List.map_set] at hk; exact hk
end
theorem Sat.arr_take [Tracks] {I : Imm} {F : List MObj} {w : World} {b off n cap sz m : Nat} {es : List HVal} (hm : m ≤ es.length) (h : Sat P I (.arr (.slice (some ⟨b, off, none⟩) n cap) sz es :: F) w) :
 Sat P I (.arr (.slice (some ⟨b, off, none⟩) m cap) sz (es.take m) :: F) w := by
 obtain ⟨_, rc, el, fr, h2, h3, h4, h5, h6, h7⟩ := zft h
 refine h.change (m' := .arr (.slice (some ⟨b, off, none⟩) m cap) sz (es.take m)) (fun _ _ _ => rfl) (fun c hc => .inl hc) (by simp [MObj.blocks]) ?_ rfl rfl rfl
 have hl : (es.take m).length = m := by simp; omega
 refine .inr ⟨b, off, cap, rc, el, fr, by rw [hl], h2, h3, fun e he => h4 e (List.mem_of_mem_take he), by omega, h6, fun i j e c v a1 a2 a3 => ?_⟩
 have hi := zM a1
 rw [List.getElem?_take_of_lt (by omega)] at a1
 exact h7 i j e c v a1 a2 a3
theorem Ghost.take [Tracks] {e : Env} {M : List MObj} {b off n cap sz m : Nat} {es : List HVal} (hm : m ≤ es.length) : Ghost e (.arr (.slice (some ⟨b, off, none⟩) n cap) sz es :: M) e (.arr (.slice (some ⟨b, off, none⟩) m cap) sz (es.take m) :: M) :=
 fun _ I F tmps w h1 h2 => ⟨I, .refl I, h1, h2.arr_take hm⟩
def zgI (cap off sz lo : Nat) : Nat := if cap = lo then off else off + lo * sz
section
variable {P : Program} {e : Env} {dst : Option Tmp} {ty : TypeId} {pos : String} {af : Array Edge} {g : Option (Nat × Bool)} {M : List MObj} {K : HVal → List MObj → Prop}
/-- A slice whose header is known is cut. -/
theorem zlB [Tracks] {x : Operand} {lo hi : Option Operand} {t el : TypeId} {size bytes sz b2 : Nat} {zero z2 : Value} {d : TD} {b off n cap l h : Nat}
 (hf : Fits P t (.slice el) size bytes zero) (hel : Fits P el d sz b2 z2) (hx : zL e x = some (.raw (.slice (some ⟨b, off, none⟩) n cap))) (hlo : zbQ e lo 0 l) (hhi : zbQ e hi n h) (h1 : l ≤ h) (h2 : h ≤ n) (hc : n ≤ cap) :
 POp P e ⟨dst, .slice t x lo hi none, ty, pos, af, g⟩ (.raw (.slice (some ⟨b, zgI cap off sz l, none⟩) (h - l) (cap - l))) :=
 POp.of_val fun I a w ho => by
  have h3 := (ho.one (x := x) (by simp [Op.operands]) hx).raw_inv
  have hb : (Instr.sliceBounds true n cap (Option.map a.eval lo) (Option.map a.eval hi) none).run P w = .ok (l, h, cap) w :=
   zf4 (P := P) (e := e) (lo := lo) (hi := hi) (l := l) (h := h) (len := n) (cap := cap) ho (by intro y hy; simp [Op.operands, hy]) (by intro y hy; simp [Op.operands, hy]) hlo hhi h1 h2 hc true w
  refine ⟨_, ?_, .raw _ rfl⟩
  simp [execOp, Instr.sliceAt, run_underlying hf.slice, h3, Instr.slice, hb, hel.run_sizeOf, zgI]
  try (split <;> simp_all [zde])
  try omega
/-- Cells of an owned slice behind the first m' elements are cleared: what stays are these. -/
theorem ziK [Tracks] {x : Operand} {t el : TypeId} {size bytes sz b2 : Nat} {zero z2 : Value} {d : TD} {i b off n cap m q o c2 : Nat} {es : List HVal} (m' : Nat)
 (hf : Fits P t (.slice el) size bytes zero) (hel : Fits P el d sz b2 z2) (hz : z2.cells.size = sz) (hz1 : z2.cells.toList.all Value.oneCell' = true)
 (hx : zL e x = some (.raw (.slice (some ⟨b, o, none⟩) q c2))) (ho' : q = 0 ∨ o = off + m * sz) (hm : M[i]? = some (.arr (.slice (some ⟨b, off, none⟩) n cap) sz es)) (hmq : m + q ≤ cap) (hmm : m' ≤ m) (hme : m' ≤ es.length)
 (hk : K .junk (M.set i (.arr (.slice (some ⟨b, off, none⟩) m' cap) sz (es.take m')))) : EOp P e M ⟨dst, .call ⟨.builtin .clear, #[x], #[t]⟩, ty, pos, af, g⟩ K :=
 EOp.of_run fun I F a w ho hs => by
  have h1 := (ho.one (x := x) (by simp [Op.operands, Call.operands]) hx).raw_inv
  have hp := hs.pull hm
  obtain ⟨_, rc, el', fr, h2, h3, h4, h5, h6, h7⟩ := zft hp
  have hrun : (execOp a.eval ⟨dst, .call ⟨.builtin .clear, #[x], #[t]⟩, ty, pos, af, g⟩).run P w = ((Builtin.clear_ #[t] ty #[a.eval x]).run P w).andThen fun v w => .ok (.value v) w := by
   simp [execOp, resolve, invoke, builtin]
  rcases Nat.eq_zero_or_pos q with h0 | h0
  ·refine ⟨.tuple #[], .junk, _, w, I, ?_, .refl I, hk, .junk _, ?_⟩
   ·rw [hrun, h1, h0]
    simp [Builtin.clear_, run_underlying hf.slice]
   ·exact Sat.unpull hm (hp.arr_take hme)
  ·have hso : o = off + m * sz := by rcases ho' with h | h; omega; exact h
   have hmul : (m + q) * sz ≤ cap * sz := Nat.mul_le_mul_right _ hmq
   rw [Nat.add_mul] at hmul
   have hlen : (Builtin.zeroCells z2.cells q).toList.length = q * sz := by rw [Array.length_toList, zg7, hz]
   have hone : ∀ v ∈ (Builtin.zeroCells z2.cells q).toList, v.oneCell' = true := fun v hv => by
    simp only [Builtin.zeroCells, Array.toList_map, List.mem_map] at hv
    obtain ⟨r, hr, rfl⟩ := hv
    have hq' : r < q * z2.cells.size := by simpa using hr
    have hpos : 0 < z2.cells.size := by
     rcases Nat.eq_zero_or_pos z2.cells.size with h | h
     ·rw [h] at hq'; simp at hq'
     ·exact h
    have hlt : r % z2.cells.size < z2.cells.size := Nat.mod_lt _ hpos
    rw [getElem!_pos z2.cells _ hlt]
    exact List.all_eq_true.1 hz1 _ (by simp)
   obtain ⟨w', rc', g1, g2, g3, g4, g5, g6, g7, g8, g9⟩ := zdB (P := P) b el' fr (off + m * sz) (Builtin.zeroCells z2.cells q).toList 0 w rc h2 h3 hone (by rw [hlen]; omega)
   refine ⟨.tuple #[], .junk, _, w', I, ?_, .refl I, hk, .junk _, ?_⟩
   ·rw [hrun, h1, hso]
    obtain ⟨r, rfl⟩ : ∃ r, q = r + 1 := ⟨q - 1, by omega⟩
    simp [Builtin.clear_, run_underlying hf.slice, hel.run_zero, g1]
   ·refine Sat.unpull hm (hp.change (m' := .arr (.slice (some ⟨b, off, none⟩) m' cap) sz (es.take m')) (fun k hk hnk => g5 k (by simpa [MObj.blocks] using hnk)) (fun k hk => .inl hk) (by simp [MObj.blocks]) ?_ g7 g8 g9.1 (fun _ => Nat.le_of_eq g9.2.symm))
    have hl : (es.take m').length = m' := by simp; omega
    refine .inr ⟨b, off, cap, rc', el', fr, by rw [hl], g2, by rw [g3]; exact h3, fun e he => h4 e (List.mem_of_mem_take he), by omega, by rw [g3]; exact h6, fun p q' y c v a1 a2 a3 => ?_⟩
    have hi := zM a1
    rw [List.getElem?_take_of_lt (by omega)] at a1
    have hq := zM a2
    rw [h4 y (List.mem_of_getElem? a1)] at hq
    have hpm : (p + 1) * sz ≤ m * sz := Nat.mul_le_mul_right _ (by omega)
    rw [Nat.add_mul] at hpm
    rw [g4, if_neg (by omega)] at a3
    exact h7 p q' y c v a1 a2 a3
theorem zm0 [Tracks] {I : Imm} {a : Act} {o : Oper} (ho : Opds I e a o) {lo hi : Option Operand} (hlo : ∀ x, lo = some x → x ∈ o.op.operands) (hhi : ∀ x, hi = some x → x ∈ o.op.operands)
 {len cap l h : Nat} (h1 : zbQ e lo 0 l) (h2 : zbQ e hi len h) (h3 : l ≤ h) (h4 : h ≤ cap) (b : Bool) (w : World) :
 (Instr.sliceBounds b len cap (lo.map a.eval) (hi.map a.eval) none).run P w = .ok (l, h, cap) w := by
 unfold Instr.sliceBounds
 cases lo with
 | none =>
   simp only [zbQ] at h1
   subst h1
   cases hi with
   | none => simp only [zbQ] at h2; subst h2; simp
   | some y =>
     obtain ⟨k, i, h6, rfl⟩ := h2
     have h7 := (ho.one (hhi y rfl) h6).int_inv
     simp [h7, zcc h4]
 | some x =>
   obtain ⟨k', i', h8, rfl⟩ := h1
   have h9 := (ho.one (hlo x rfl) h8).int_inv
   cases hi with
   | none => simp only [zbQ] at h2; subst h2; simp [h9, zcc h3]
   | some y =>
     obtain ⟨k, i, h6, rfl⟩ := h2
     have h7 := (ho.one (hhi y rfl) h6).int_inv
     simp [h7, h9, zcc h4, zcc h3]
/-- A slice whose header is known is cut, within its capacity. -/
theorem zoq [Tracks] {x : Operand} {lo hi : Option Operand} {t el : TypeId} {size bytes sz b2 : Nat} {zero z2 : Value} {d : TD} {b off n cap l h : Nat}
 (hf : Fits P t (.slice el) size bytes zero) (hel : Fits P el d sz b2 z2) (hx : zL e x = some (.raw (.slice (some ⟨b, off, none⟩) n cap))) (hlo : zbQ e lo 0 l) (hhi : zbQ e hi n h) (h1 : l ≤ h) (h2 : h ≤ cap) :
 POp P e ⟨dst, .slice t x lo hi none, ty, pos, af, g⟩ (.raw (.slice (some ⟨b, zgI cap off sz l, none⟩) (h - l) (cap - l))) :=
 POp.of_val fun I a w ho => by
  have h3 := (ho.one (x := x) (by simp [Op.operands]) hx).raw_inv
  have hb : (Instr.sliceBounds true n cap (Option.map a.eval lo) (Option.map a.eval hi) none).run P w = .ok (l, h, cap) w :=
   zm0 (P := P) (e := e) (lo := lo) (hi := hi) (l := l) (h := h) (len := n) (cap := cap) ho (by intro y hy; simp [Op.operands, hy]) (by intro y hy; simp [Op.operands, hy]) hlo hhi h1 h2 true w
  refine ⟨_, ?_, .raw _ rfl⟩
  simp [execOp, Instr.sliceAt, run_underlying hf.slice, h3, Instr.slice, hb, hel.run_sizeOf, zgI]
  try (split <;> simp_all [zde])
  try omega
/-- s[:h] -/
theorem zks [Tracks] {x : Operand} {hi : Option Operand} {t el : TypeId} {size bytes sz b2 : Nat} {zero z2 : Value} {d : TD} {b off n cap h : Nat}
 (hf : Fits P t (.slice el) size bytes zero) (hel : Fits P el d sz b2 z2) (hx : zL e x = some (.raw (.slice (some ⟨b, off, none⟩) n cap))) (hhi : zbQ e hi n h) (h2 : h ≤ cap) :
 POp P e ⟨dst, .slice t x none hi none, ty, pos, af, g⟩ (.raw (.slice (some ⟨b, off, none⟩) h cap)) := by
 have := zoq (P := P) (dst := dst) (ty := ty) (pos := pos) (af := af) (g := g) (lo := none) (l := 0) hf hel hx rfl hhi (Nat.zero_le _) h2
 have e1 : zgI cap off sz 0 = off := by unfold zgI; split <;> omega
 rwa [e1, Nat.sub_zero, Nat.sub_zero] at this
end
end
section
variable {P : Program}
open Go.ChangeShapes Go.WideShapes Go.RowKit
theorem zmY [Tracks] {W W' : World} {J : Imm} {M : List MObj} (hl : Le (zcT W) J) (hs : Sat P J M W') : Below W.heap.size W W' := by
 have hb : ∀ k, k < W.heap.size → W'.heap[k]? = W.heap[k]? := fun k hk => by
  have h1 : W.heap[k]? = some W.heap[k] := by simp [hk]
  rw [h1]
  exact hs.imm _ _ (hl.heap _ _ h1)
 exact {
  os := hs.os.trans hl.os
  tape := hs.tape.trans hl.tape
  output := hs.output.trans hl.output
  size := by
   rcases Nat.eq_zero_or_pos W.heap.size with h | h
   ·omega
   ·have h1 := hb (W.heap.size - 1) (by omega)
    have h2 : W.heap[W.heap.size - 1]? = some (W.heap[W.heap.size - 1]'(by omega)) := by simp
    rw [h2] at h1
    rcases Nat.lt_or_ge (W.heap.size - 1) W'.heap.size with h3 | h3
    ·omega
    ·rw [Array.getElem?_eq_none h3] at h1; cases h1
  block := hb }
theorem zq7 [Tracks] {W : World} (ht : TabI P (zcT W)) : Sat P (zcT W) [] W := ⟨fun _ _ h => h, fun _ h => by simp at h, by simp [blocks], fun _ h => by simp [blocks] at h, rfl, rfl, rfl, ht, fun _ => Nat.le_refl _⟩
theorem zmL [Tracks] {P : Program} {f : FuncId} {l : List Int} (hc : zah P f [.slice 1 (l.map (.int .i64))] (.bool true)) {W : World} (ht : TabI P (zcT W)) {v : Value} (hv : V (zcT W) (.slice 1 (l.map (.int .i64))) v) :
 Calls P f #[v] W fun e W' => e = .returned (.bool true) ∧ Below W.heap.size W W' := by
 refine (hc (zcT W) [] W [v] (VL.cons hv VL.nil) (zq7 ht)).mono ?_
 rintro e W' ⟨u, h, M', J, rfl, hle, ⟨rfl, rfl⟩, hV, hs⟩
 exact ⟨by rw [hV.bool_inv], zmY hle hs⟩
theorem zrN [Tracks] {W : World} {a : Addr} {len cap : Nat} {zs : List Int} (hcell : ∀ i, i < zs.length → W.cell? (a.add i) = some (.int .i64 (zs.getD i 0))) (hl : len ≤ zs.length) (hc : len ≤ cap) :
 V (zcT W) (.slice 1 ((zs.take len).map (.int .i64))) (.slice (some a) len cap) := by
 rcases Nat.eq_zero_or_pos len with h0 | h0
 ·subst h0; exact .slice0 _ _ _
 ·obtain ⟨b, off, rfl, hj⟩ := ints_at hcell (by omega)
  have hc0 := hj 0 (by omega)
  unfold World.cell? at hc0
  cases hh : W.heap[b]? with
  | none => rw [hh] at hc0; simp at hc0
  | some o =>
    cases o with
    | cells rc el fr =>
      have hrc : ∀ j, j < zs.length → rc[off + j]? = some (.int .i64 (zs.getD j 0)) := fun j hj' => by
       have := hj j hj'
       unfold World.cell? at this
       simpa [hh] using this
      have hlen : ((zs.take len).map (HVal.int .i64)).length = len := by simp; omega
      have hsz : off + zs.length ≤ rc.size := by
       have := hrc (zs.length - 1) (by omega)
       rcases Nat.lt_or_ge (off + (zs.length - 1)) rc.size with h3 | h3
       ·omega
       ·rw [Array.getElem?_eq_none h3] at this; cases this
      have := V.slice (I := zcT W) (sz := 1) (es := (zs.take len).map (.int .i64)) (b := b) (off := off) (cap := cap) (rc := rc) (el := el) (fr := fr) hh
       (fun e he => by obtain ⟨n, _, rfl⟩ := List.mem_map.1 he; rfl) (by omega) (by omega) (fun i j e c v h1 h2 h3 => by
         have hi := zM h1
         rw [hlen] at hi
         rw [List.getElem?_map, List.getElem?_take_of_lt hi] at h1
         have e1 : zs[i]? = some zs[i] := List.getElem?_eq_getElem (by omega)
         rw [e1] at h1
         simp only [Option.map_some, Option.some.injEq] at h1
         subst h1
         cases j with
         | succ j => simp [zj] at h2
         | zero =>
           simp only [zj, List.getElem?_cons_zero, Option.some.injEq] at h2
           subst h2
           have h4 := hrc i (by omega)
           rw [Nat.mul_one, Nat.add_zero, h4] at h3
           simp only [Option.some.injEq] at h3
           subst h3
           have : zs.getD i 0 = zs[i] := by simp [List.getD, e1]
           rw [this]
           exact .int _ _)
      rw [hlen] at this
      exact this
    | _ => rw [hh] at hc0; simp at hc0
end
section
open Go.Sort Go.Proofs Go.RowKit
variable {P : Program}
theorem znK {w : World} {name : String} {d : DataW Unit} : ∀ {laid : List (String × DataW Unit)} {ps : List MemPlace}, DataW.LaidVars P w laid ps → ∀ (i : Nat), laid[i]? = some (name, d) →
 ∃ g t cs fuel p, P.globalNamed name = some g ∧ (P.globals[g]?).map (·.type) = some t ∧ w.var? P name = some cs ∧ DataW.trod (fun _ => ()) P w 0 (fun _ => true) false fuel t cs.toList = some (d, p)
 | [], _, _, i, h => by simp at h
 | (n, x) :: r, ps, h, 0, hi => by
   simp at hi
   obtain ⟨rfl, rfl⟩ := hi
   obtain ⟨g, t, cs, fuel, p, q, h1, h2, h3, h4, _, _⟩ := h
   exact ⟨g, t, cs, fuel, p, h1, h2, h3, h4⟩
 | (n, x) :: r, ps, h, i + 1, hi => by
   obtain ⟨g, t, cs, fuel, p, q, _, _, _, _, h5, _⟩ := h
   exact znK h5 i (by simpa using hi)
theorem zmI [Tracks] {W : World} {laid : List (String × DataW Unit)} {i g : Nat} {t e : TypeId} {n : Nat} (h : laidMet P laid W) (hi : laid[i]? = some ("internal/strconv.uint64pow10", Lib.tabData .u64 Lib.pow10Tab))
 (hg : P.globalNamed "internal/strconv.uint64pow10" = some g) (hty : (P.globals[g]?).map (·.type) = some t) (ht : P.underlying t = some (.array n e)) (he : P.underlying e = some (.int .u64)) (hce : P.cellsOf e = 1) (hct : P.cellsOf t = n)
 (hl : ∀ g, P.globalNamed "internal/bytealg.MaxLen" = some g → ∃ m, W.cell? ⟨g, 0, none⟩ = some (.int .i64 m)) : TabI P (zcT W) := by
 refine ⟨?_, fun g hg => ?_⟩
 rotate_left
 ·obtain ⟨m, hm⟩ := hl g hg
  unfold World.cell? at hm
  cases hh : W.heap[g]? with
  | none => rw [hh] at hm; cases hm
  | some o =>
    rw [hh] at hm
    cases o with
    | cells c t fr => exact ⟨c, t, fr, m, hh, by simpa using hm⟩
    | _ => cases hm
 obtain ⟨ps, h1, _⟩ := h
 obtain ⟨g', t', cs, fuel, p, a1, a2, a3, a4⟩ := znK h1 i hi
 obtain rfl := Option.some.inj (hg.symm.trans a1)
 obtain rfl := Option.some.inj (hty.symm.trans a2)
 intro g' hg'
 obtain rfl := Option.some.inj (hg.symm.trans hg')
 have hc := Lib.cells_of_tab ht he hce hct a4
 have hv := a3
 unfold World.var? at hv
 rw [hg] at hv
 simp only [Option.bind_some] at hv
 cases hh : W.heap[g]? with
 | none => rw [hh] at hv; cases hv
 | some o =>
   cases o with
   | cells c ty fr =>
     rw [hh] at hv
     simp only [Option.some.injEq] at hv
     subst hv
     refine ⟨ty, fr, ?_⟩
     show W.heap[g]? = _
     rw [hh, ← hc]
   | _ => rw [hh] at hv; cases hv
theorem Sat.lt [Tracks] {I : Imm} {M : List MObj} {w : World} (hs : Sat P I M w) : (∀ b, (∃ o, I.heap b = some o) → b < w.heap.size) ∧ ∀ b ∈ blocks M, b < w.heap.size := by
 have key : ∀ b o, w.heap[b]? = some o → b < w.heap.size := fun b o h => by
  rcases Nat.lt_or_ge b w.heap.size with h' | h'
  ·exact h'
  ·simp [Array.getElem?_eq_none h'] at h
 refine ⟨fun b ⟨o, h⟩ => key b o (hs.imm b o h), fun b hb => ?_⟩
 simp only [blocks, List.mem_flatMap] at hb
 obtain ⟨m, hm, hb⟩ := hb
 obtain ⟨o, ho⟩ := (hs.obj m hm).lies hb
 exact key b o ho
end
section
section
variable {P : Program} {e : Env} {dst : Option Tmp} {ty : TypeId} {pos : String} {af : Array Edge} {g : Option (Nat × Bool)} {M : List MObj} {K : HVal → List MObj → Prop}
end
end
section
section
variable {P : Program} {e : Env} {dst : Option Tmp} {ty : TypeId} {pos : String} {af : Array Edge} {g : Option (Nat × Bool)} {M : List MObj} {K : HVal → List MObj → Prop}
end
section
variable {P : Program}
end
end
section
section
variable {κ : Type} [DecidableEq κ]
def klk (x : κ) : List (κ × HVal) → Option HVal
 | [] => none
 | p :: r => if x = p.1 then some p.2 else klk x r
def zjF (x : κ) (h : HVal) : List (κ × HVal) → List (κ × HVal)
 | [] => [(x, h)]
 | p :: r => if x = p.1 then (x, h) :: r else p :: zjF x h r
def KNodup (l : List (κ × HVal)) : Prop := (l.map (·.1)).Nodup
theorem zlb {x y : κ} {h : HVal} : ∀ {l : List (κ × HVal)}, y ∈ (zjF x h l).map (·.1) ↔ y = x ∨ y ∈ l.map (·.1)
 | [] => by simp [zjF]
 | p :: r => by
   simp only [zjF]
   split
   ·rename_i e; subst e; simp
   ·simp only [List.map_cons, List.mem_cons, zlb]
    constructor
    ·rintro (a | a | a)
     ·exact .inr (.inl a)
     ·exact .inl a
     ·exact .inr (.inr a)
    ·rintro (a | a | a)
     ·exact .inr (.inl a)
     ·exact .inl a
     ·exact .inr (.inr a)
theorem KNodup.put {x : κ} {h : HVal} : ∀ {l : List (κ × HVal)}, KNodup l → KNodup (zjF x h l)
 | [], _ => by simp [KNodup, zjF]
 | p :: r, hn => by
   unfold KNodup at *
   simp only [List.map_cons, List.nodup_cons] at hn
   simp only [zjF]
   split
   ·rename_i e; subst e; simpa using hn
   ·rename_i e
    simp only [List.map_cons, List.nodup_cons]
    refine ⟨fun q => ?_, KNodup.put (l := r) hn.2⟩
    rcases zlb.1 q with q | q
    ·exact e q.symm
    ·exact hn.1 q
variable {P : Program} {kt : TypeId} {ek : κ → HVal}
variable [Tracks] {e : Env} {dst : Option Tmp} {ty : TypeId} {pos : String} {af : Array Edge} {g : Option (Nat × Bool)} {M : List MObj} {K : HVal → List MObj → Prop}
end
end
section
section
variable {P : Program}
end
/-! ranges -/
theorem zo0 {α : Type} [DecidableEq α] : ∀ {l m : List α}, l.Nodup → (∀ x ∈ l, x ∈ m) → l.length ≤ m.length
 | [], _, _, _ => Nat.zero_le _
 | a :: l, m, h, hs => by
   have ha := hs a List.mem_cons_self
   obtain ⟨h1, h2⟩ := List.nodup_cons.1 h
   have h3 := zo0 (m := m.erase a) h2 fun x hx => (List.mem_erase_of_ne (fun e : x = a => h1 (by rw [← e]; exact hx))).2 (hs x (List.mem_cons_of_mem _ hx))
   rw [List.length_erase_of_mem ha] at h3
   have := List.length_pos_of_mem ha
   simp; omega
section
variable {P : Program} {e : Env} {dst : Option Tmp} {ty : TypeId} {pos : String} {af : Array Edge} {g : Option (Nat × Bool)} {M : List MObj} {K : HVal → List MObj → Prop}
end
end
section
section
variable {P : Program} {e : Env} {dst : Option Tmp} {ty : TypeId} {pos : String} {af : Array Edge} {g : Option (Nat × Bool)} {M : List MObj} {K : HVal → List MObj → Prop}
end
section
variable {κ : Type} [DecidableEq κ]
variable {P : Program} {kt : TypeId} {ek : κ → HVal} {e : Env} {dst : Option Tmp} {ty : TypeId} {pos : String} {af : Array Edge} {g : Option (Nat × Bool)} {M : List MObj} {K : HVal → List MObj → Prop}
end
end
section
section
variable {κ : Type} [DecidableEq κ] {α : Type}
def alk (x : κ) : List (κ × α) → Option α
 | [] => none
 | p :: r => if x = p.1 then some p.2 else alk x r
def zaz (x : κ) (v : α) : List (κ × α) → List (κ × α)
 | [] => [(x, v)]
 | p :: r => if x = p.1 then (x, v) :: r else p :: zaz x v r
abbrev em (f : α → HVal) (L : List (κ × α)) : List (κ × HVal) := L.map fun p => (p.1, f p.2)
theorem zr7 (f : α → HVal) (x : κ) : ∀ L : List (κ × α), klk x (em f L) = (alk x L).map f
 | [] => rfl
 | p :: r => by
   have ih := zr7 f x r
   simp only [List.map_cons, klk, alk] at ih ⊢
   by_cases h : x = p.1
   ·rw [if_pos h, if_pos h]; rfl
   ·rw [if_neg h, if_neg h]; exact ih
theorem zhg (x y : κ) (v : α) : ∀ (l : List (κ × α)), alk y (zaz x v l) = if y = x then some v else alk y l
 | [] => by simp [zaz, alk]
 | p :: r => by
   have ih := zhg x y v r
   simp only [zaz]
   by_cases h : x = p.1
   ·subst h
    rw [if_pos rfl]; simp only [alk]
    by_cases hy : y = p.1
    ·rw [if_pos hy, if_pos hy]
    ·rw [if_neg hy, if_neg hy, if_neg hy]
   ·rw [if_neg h]; simp only [alk]
    by_cases hy : y = p.1
    ·have : ¬ y = x := fun e => h (e ▸ hy)
     rw [if_pos hy, if_neg this, if_pos hy]
    ·rw [if_neg hy, ih, if_neg hy]
theorem zjV {x : κ} : ∀ {l : List (κ × α)}, alk x l = none ↔ x ∉ l.map (·.1)
 | [] => by simp [alk]
 | p :: r => by
   have ih := zjV (x := x) (l := r)
   simp only [alk, List.map_cons, List.mem_cons, not_or]
   by_cases h : x = p.1
   ·rw [if_pos h]; simp [h]
   ·rw [if_neg h, ih]; simp [h]
theorem zim {x y : κ} {v : α} : ∀ {l : List (κ × α)}, y ∈ (zaz x v l).map (·.1) ↔ y = x ∨ y ∈ l.map (·.1)
 | [] => by simp [zaz]
 | p :: r => by
   have ih := zim (x := x) (y := y) (v := v) (l := r)
   simp only [zaz]
   by_cases h : x = p.1
   ·subst h; rw [if_pos rfl]; simp
   ·rw [if_neg h]; simp only [List.map_cons, List.mem_cons, ih]
    constructor
    ·rintro (h | h | h)
     ·exact .inr (.inl h)
     ·exact .inl h
     ·exact .inr (.inr h)
    ·rintro (h | h | h)
     ·exact .inr (.inl h)
     ·exact .inl h
     ·exact .inr (.inr h)
def ANodup (l : List (κ × α)) : Prop := (l.map (·.1)).Nodup
theorem ANodup.nil {A B : Type} : ANodup ([] : List (A × B)) := List.nodup_nil
theorem ANodup.put {x : κ} {v : α} : ∀ {l : List (κ × α)}, ANodup l → ANodup (zaz x v l)
 | [], _ => by simp [ANodup, zaz]
 | p :: r, hn => by
   have h1 := (List.nodup_cons.1 hn)
   by_cases h : x = p.1
   ·subst h
    have e : zaz p.1 v (p :: r) = (p.1, v) :: r := by simp [zaz]
    rw [e]; exact List.nodup_cons.2 h1
   ·have e : zaz x v (p :: r) = p :: zaz x v r := by simp [zaz, h]
    rw [e]
    refine List.nodup_cons.2 ⟨fun hm => ?_, ANodup.put (l := r) h1.2⟩
    rcases zim.1 hm with e | e
    ·exact h e.symm
    ·exact h1.1 e
theorem ze8 {x : κ} {v : α} : ∀ {l : List (κ × α)}, alk x l = some v → (x, v) ∈ l
 | [], h => by simp [alk] at h
 | p :: r, h => by
   simp only [alk] at h
   by_cases hx : x = p.1
   ·rw [if_pos hx] at h; cases h; rw [hx]; exact List.mem_cons_self
   ·rw [if_neg hx] at h; exact List.mem_cons_of_mem _ (ze8 h)
theorem zmm (x : κ) (v : α) : ∀ (l : List (κ × α)), (zaz x v l).length = if (alk x l).isSome then l.length else l.length + 1
 | [] => by simp [zaz, alk]
 | p :: r => by
   have ih := zmm x v r
   by_cases h : x = p.1
   ·have e1 : zaz x v (p :: r) = (x, v) :: r := by simp [zaz, h]
    have e2 : alk x (p :: r) = some p.2 := by simp [alk, h]
    rw [e1, e2]; simp
   ·have e1 : zaz x v (p :: r) = p :: zaz x v r := by simp [zaz, h]
    have e2 : alk x (p :: r) = alk x r := by simp [alk, h]
    rw [e1, e2, List.length_cons, ih]; split <;> simp
theorem zrb (x : κ) (v : α) (l : List (κ × α)) : (zaz x v l).length ≤ l.length + 1 := by rw [zmm]; split <;> omega
theorem zgt {x : κ} {v : α} {p : κ × α} : ∀ {l : List (κ × α)}, p ∈ zaz x v l → p = (x, v) ∨ p ∈ l
 | [], hp => by simp [zaz] at hp; exact .inl hp
 | q :: r, hp => by
   simp only [zaz] at hp
   by_cases h : x = q.1
   ·rw [if_pos h] at hp
    rcases List.mem_cons.1 hp with e | e
    ·exact .inl e
    ·exact .inr (List.mem_cons_of_mem _ e)
   ·rw [if_neg h] at hp
    rcases List.mem_cons.1 hp with e | e
    ·exact .inr (e ▸ List.mem_cons_self)
    ·rcases zgt e with e | e
     ·exact .inl e
     ·exact .inr (List.mem_cons_of_mem _ e)
theorem zmi (f : α → HVal) (s : Str) : ∀ L : List (Str × α), (zaK s (em f L)).map (·.2) = (alk s L).map f
 | [] => rfl
 | p :: r => by
   have ih := zmi f s r
   obtain ⟨k, v⟩ := p
   simp only [List.map_cons, zaK, alk] at ih ⊢
   by_cases h : s = k
   ·rw [if_pos h, if_pos h]; rfl
   ·rw [if_neg h, if_neg h, ← ih]; cases zaK s (r.map fun p => (p.1, f p.2)) <;> rfl
theorem znD (f : α → HVal) (s : Str) (v : α) : ∀ L : List (Str × α), zdO s (f v) (em f L) = em f (zaz s v L)
 | [] => rfl
 | p :: r => by
   have ih := znD f s v r
   obtain ⟨k, u⟩ := p
   simp only [zdO, List.map_cons, zaK, zaz] at ih ⊢
   by_cases h : s = k
   ·subst h; rw [if_pos rfl, if_pos rfl]; rfl
   ·rw [if_neg h, if_neg h]
    cases hq : zaK s (r.map fun p => (p.1, f p.2)) with
    | none => rw [hq] at ih; simp only [Option.map_none, List.cons_append, List.map_cons, ← ih]
    | some q => rw [hq] at ih; simp only [Option.map_some, List.set_cons_succ, List.map_cons, ← ih]
end
section
variable {κ : Type} [DecidableEq κ] {α : Type}
variable {P : Program} {e : Env} {dst : Option Tmp} {ty : TypeId} {pos : String} {af : Array Edge} {g : Option (Nat × Bool)} {M : List MObj} {K : HVal → List MObj → Prop}
theorem zr0 {f : α → HVal} {o : Option α} {z0 : α} : f (o.getD z0) = (o.map f).getD (f z0) := by cases o <;> rfl
theorem zbP [Tracks] {x y : Operand} {t kt et : TypeId} {size bytes s2 b2 s3 b3 : Nat} {zero z2 z3 : Value} {d : TD} {i b : Nat} {f : α → HVal} {L : List (Str × α)} {s : Str} {z0 : α}
 (hf : Fits P t (.map kt et) size bytes zero) (hkt : Fits P kt .str s2 b2 z2) (het : Fits P et d s3 b3 z3) (hx : zL e x = some (.raw (.map (some b)))) (hy : zL e y = some (.str s)) (hm : M[i]? = some (.map b (sk (em f L)))) (hz : zgN z3 = f z0)
 (hk : K (f ((alk s L).getD z0)) M) : EOp P e M ⟨dst, .lookup t x y false, ty, pos, af, g⟩ K := by
 refine zhK hf hkt het hx hy hm ?_
 rw [zr0 (f := f), ← zmi, ← hz] at hk
 cases h : zaK s (em f L) with
 | none => rw [h] at hk; exact hk
 | some p => rw [h] at hk; exact hk
theorem zfB [Tracks] {x y z : Operand} {t kt et : TypeId} {size bytes s2 b2 : Nat} {zero z2 : Value} {i b : Nat} {f : α → HVal} {L : List (Str × α)} {s : Str} {v : α}
 (hf : Fits P t (.map kt et) size bytes zero) (hkt : Fits P kt .str s2 b2 z2) (hx : zL e x = some (.raw (.map (some b)))) (hy : zL e y = some (.str s)) (hz : zL e z = some (f v)) (hm : M[i]? = some (.map b (sk (em f L))))
 (hk : K .junk (M.set i (.map b (sk (em f (zaz s v L)))))) : EOp P e M ⟨dst, .mapUpdate t x y z, ty, pos, af, g⟩ K := by
 refine zfP hf hkt hx hy hz hm ?_
 rw [znD]; exact hk
variable {kt : TypeId} {ek : κ → HVal}
/-- How zgn entries. -/
theorem zkv [Tracks] {x : Operand} {t kt' et : TypeId} {size bytes : Nat} {zero : Value} {i b : Nat} {l : List (HVal × HVal)} (hf : Fits P t (.map kt' et) size bytes zero) (hx : zL e x = some (.raw (.map (some b)))) (hm : M[i]? = some (.map b l))
 (hk : K (.int .i64 (l.length : Int)) M) : EOp P e M ⟨dst, .call ⟨.builtin .len, #[x], #[t]⟩, ty, pos, af, g⟩ K :=
 EOp.of_run fun I F a w ho hs => by
  have h1 := (ho.one (x := x) (by simp [Op.operands, Call.operands]) hx).raw_inv
  obtain ⟨es, clk, h3, h4, h5⟩ := hs.obj _ (List.mem_append_left _ (List.mem_of_getElem? hm))
  exact ⟨.int .i64 (es.size : Int), _, M, w, I, by rw [zjb (ats := #[])]; simp [h1, Builtin.len_, run_underlying hf.mapD, zdM h3, goInt], .refl I, hk, by rw [h4.1]; exact .int _ _, hs⟩
end
end
section
section
variable {α : Type}
def Srt (c : α → α → Int) (l : List α) : Prop := l.Pairwise fun a b => c a b ≤ 0
theorem Cmp.self {c : α → α → Int} (hc : Cmp c fun _ => True) (x : α) : c x x ≤ 0 := by
 have := hc.flip x x trivial trivial; omega
theorem Srt.get {c : α → α → Int} (hc : Cmp c fun _ => True) {l : List α} (h : Srt c l) {i j : Nat} {x y : α} (hij : i ≤ j) (hx : l[i]? = some x) (hy : l[j]? = some y) : c x y ≤ 0 := by
 rcases Nat.lt_or_ge i j with hlt | hge
 ·have h1 := zM hx
  have h2 := zM hy
  have := List.pairwise_iff_getElem.1 h i j h1 h2 hlt
  rw [List.getElem?_eq_getElem h1] at hx
  rw [List.getElem?_eq_getElem h2] at hy
  rw [Option.some.inj hx, Option.some.inj hy] at this
  exact this
 ·have e : i = j := by omega
  rw [e, hy] at hx
  rw [Option.some.inj hx]; exact hc.self _
theorem Srt.take {c : α → α → Int} {l : List α} (h : Srt c l) (k : Nat) : Srt c (l.take k) := List.Pairwise.sublist (List.take_sublist k l) h
theorem Srt.drop {c : α → α → Int} {l : List α} (h : Srt c l) (k : Nat) : Srt c (l.drop k) := List.Pairwise.sublist (List.drop_sublist k l) h
theorem Srt.nil {c : α → α → Int} : Srt c [] := List.Pairwise.nil
end
end
end Go.HL
section
namespace Go.HL
section
variable {P : Program} {ops : Array Oper} {n : Nat} {S : List MObj → Prop} {ld : List Nat} {K : Env → List MObj → Prop} {e : Env} {M : List MObj} {listed : Array Bool} {fuel : Nat} {d : Nat} {op : Op} {ty : TypeId} {pos : String} {af : Array Edge} {h : HVal}
/-- A load under a guard out of owned objects of which S knows enough is taken first. -/
theorem zdt [Tracks] (i : Nat) {j : Nat} {want c : Bool} (hi : ops[i]? = some ⟨some d, op, ty, pos, af, some (j, want)⟩) (hd : Nat.blt d n = true) (hf : Region.free .any ops listed i = true) (hr : (Region.ready .any ops listed).contains i = true) (hl : i ∈ ld) (hS : S M)
 (hg : zew ops e j want = some c) (hp : c = true → ∃ e2, OpenTo e e2 ∧ ∀ M, S M → EOp P e2 M ⟨some d, op, ty, pos, af, some (j, want)⟩ fun x M' => x = h ∧ M' = M)
 (k : HAny P ops n S ld K fuel (listed.setIfInBounds i true) (upd e d (.opt c h)) M) : HAny P ops n S ld K (fuel + 1) listed e M :=
 HAny.first (T := S) hi (fun t ht => by simp at ht; subst ht; exact zev hd) (.inr ⟨rfl, hl⟩) fuel listed e M (Region.free_spec hi hf) (by simpa using hr)
  ⟨c, hg, fun hc M hM => by
   obtain ⟨e2, h1, h2⟩ := hp hc
   intro I F a w ho hs
   exact Oper.wp_noQ (fun _ _ ⟨v, x, M', J, h3, h4, ⟨e1, e3⟩, h5, h6⟩ => ⟨v, .opt c h, M, J, h3, h4, ⟨rfl, rfl⟩, .opt (fun _ => e1 ▸ h5) (fun hf => by rw [hc] at hf; cases hf), e3 ▸ h6⟩) (h2 M hM I F a w (ho.open h1) hs),
   fun hc => ⟨h, by rw [hc]⟩⟩ hS k
end
theorem zs7 {x : Nat} (h : x < 16) : IntKind.wrap .u8 (x : Int) = (x : Int) := by
 have : (List.range 16).all (fun x => IntKind.wrap .u8 (x : Int) == (x : Int)) = true := by decide
 simpa using List.all_eq_true.1 this x (List.mem_range.2 h)
theorem zrF {x : Nat} (h : x < 16) : IntKind.wrap .u64 (x : Int) = (x : Int) := by
 have : (List.range 16).all (fun x => IntKind.wrap .u64 (x : Int) == (x : Int)) = true := by decide
 simpa using List.all_eq_true.1 this x (List.mem_range.2 h)
theorem zdv {k : IntKind} {a b : Int} (h : a = b) : some (HVal.int k a) = some (.int k b) := by rw [h]
section
variable {α : Type} {c : α → α → Int}
theorem zm2 (l : List α) : zcn c (l.take 1) ++ l.drop 1 = l := by
 cases l with
 | nil => rfl
 | cons x r => simp [zcn, zd0, zkC]
theorem zkO {A R : List α} {x : α} : (A ++ x :: R)[A.length]? = some x := by simp
theorem zhU {A R : List α} {x : α} (h : 0 < A.length) : (A ++ x :: R)[A.length - 1]? = some ((A[A.length - 1]?).getD x) := by
 rw [List.getElem?_append_left (by omega), List.getElem?_eq_getElem (by omega)]
 simp [List.getElem?_eq_getElem (show A.length - 1 < A.length by omega)]
theorem znc {A : List α} (h : 0 < A.length) : ∃ B y, A = B ++ [y] := by
 have hne : A ≠ [] := fun e => by subst e; simp at h
 exact ⟨_, _, (List.dropLast_concat_getLast hne).symm⟩
theorem zgG {A : List α} {y d : α} : ((A ++ [y])[(A ++ [y]).length - 1]?).getD d = y := by simp
theorem zp4 {A R : List α} {x y : α} : (((A ++ [y]) ++ x :: R).set (A ++ [y]).length y).set ((A ++ [y]).length - 1) x = A ++ x :: y :: R := by
 have e1 : ((A ++ [y]) ++ x :: R).set (A ++ [y]).length y = (A ++ [y]) ++ y :: R := by rw [List.set_append_right _ _ (Nat.le_refl _)]; simp
 rw [e1, List.append_assoc]
 have e2 : (A ++ [y]).length - 1 = A.length := by simp
 rw [e2, List.set_append_right _ _ (Nat.le_refl _)]
 simp
/-- The zdg loop ends. -/
theorem zpD {l A B : List α} {x : α} {k : Nat} (hx : l[k]? = some x) (hB : zd0 c x (zcn c (l.take k)) = zd0 c x A ++ B) (h : 0 < A.length → ¬ c x ((A[A.length - 1]?).getD x) < 0) : A ++ x :: (B ++ l.drop (k + 1)) = zcn c (l.take (k + 1)) ++ l.drop (k + 1) := by
 rw [zaE hx, zoo, hB]
 rcases Nat.eq_zero_or_pos A.length with h0 | h0
 ·obtain rfl := List.length_eq_zero_iff.1 h0
  simp [zpL]
 ·obtain ⟨A', y, rfl⟩ := znc h0
  have := h h0
  rw [zgG] at this
  rw [zlt, if_neg this]; simp
theorem zqe {A B : List α} {x y : α} {S : List α} (hB : zd0 c x S = zd0 c x (A ++ [y]) ++ B) (h : c x y < 0) : zd0 c x S = zd0 c x A ++ (y :: B) := by
 rw [hB, zlt, if_pos h]; simp
end
end Go.HL
namespace Go.HL
section
variable {α : Type} {p : α → Bool}
/-- What slices.DeleteFunc has done when it looks at place j. -/
structure DelInv (p : α → Bool) (l : List α) (j : Nat) (D : List α) : Prop where
 len : D.length = l.length
 jle : j ≤ l.length
 lt : ((l.take j).filter (fun x => !p x)).length < j
 kept : D.take ((l.take j).filter (fun x => !p x)).length = (l.take j).filter (fun x => !p x)
 rest : D.drop j = l.drop j
theorem zg4 {l : List α} {j : Nat} {x : α} (hx : l[j]? = some x) : (l.take (j + 1)).filter (fun x => !p x) = (l.take j).filter (fun x => !p x) ++ if p x then [] else [x] := by
 rw [zaE hx, List.filter_append]
 by_cases h : p x <;> simp [h]
theorem DelInv.get {l D : List α} {j : Nat} {x : α} (h : DelInv p l j D) (hx : l[j]? = some x) : D[j]? = some x := by
 have h1 := congrArg (fun t => t[0]?) h.rest
 simp only [List.getElem?_drop, Nat.add_zero] at h1
 rw [h1]; exact hx
theorem DelInv.drop1 {l D : List α} {j : Nat} (h : DelInv p l j D) : D.drop (j + 1) = l.drop (j + 1) := by
 have := congrArg (List.drop 1) h.rest
 simpa [List.drop_drop] using this
theorem DelInv.skip {l D : List α} {j : Nat} {x : α} (h : DelInv p l j D) (hx : l[j]? = some x) (hp : p x = true) : DelInv p l (j + 1) D ∧ ((l.take (j + 1)).filter (fun x => !p x)).length = ((l.take j).filter (fun x => !p x)).length := by
 have e := zg4 (p := p) hx
 rw [if_pos hp, List.append_nil] at e
 refine ⟨⟨h.len, by have := zM hx; omega, by rw [e]; have := h.lt; omega, by rw [e]; exact h.kept, h.drop1⟩, by rw [e]⟩
theorem DelInv.keep {l D : List α} {j : Nat} {x : α} (h : DelInv p l j D) (hx : l[j]? = some x) (hp : p x = false) :
 DelInv p l (j + 1) (D.set ((l.take j).filter (fun x => !p x)).length x) ∧ ((l.take (j + 1)).filter (fun x => !p x)).length = ((l.take j).filter (fun x => !p x)).length + 1 := by
 have e := zg4 (p := p) hx
 rw [if_neg (by simp [hp])] at e
 have hlt := h.lt
 have hj := zM hx
 have hl := h.len
 have el : ((l.take (j + 1)).filter (fun x => !p x)).length = ((l.take j).filter (fun x => !p x)).length + 1 := by rw [e]; simp
 refine ⟨⟨by simp [hl], by omega, by omega, ?_, ?_⟩, el⟩
 ·rw [el, e]
  have hk := h.kept
  generalize ((l.take j).filter (fun x => !p x)) = F at *
  rw [zaE (List.getElem?_set_self (by omega)), List.take_set_of_le (Nat.le_refl _), hk]
 ·rw [List.drop_set_of_lt (by omega)]; exact h.drop1
theorem zhL (p : α → Bool) : ∀ (l : List α) (k : Int), 0 ≤ k → za4 p l k ≠ -1 → ∃ i : Nat, za4 p l k = k + i ∧ i < l.length ∧ (∃ x, l[i]? = some x ∧ p x = true) ∧ ∀ y ∈ l.take i, p y = false
 | [], k, _, h => by simp [za4] at h
 | x :: r, k, h0, h => by
   by_cases hx : p x = true
   ·exact ⟨0, by simp [za4, hx], by simp, ⟨x, rfl, hx⟩, by simp⟩
   ·have e : za4 p (x :: r) k = za4 p r (k + 1) := by simp [za4, hx]
    rw [e] at h ⊢
    obtain ⟨i, h1, h2, ⟨y, h3, h4⟩, h5⟩ := zhL p r (k + 1) (by omega) h
    refine ⟨i + 1, by rw [h1]; simp; omega, by simp; omega, ⟨y, by simpa using h3, h4⟩, fun z hz => ?_⟩
    simp only [List.take_succ_cons, List.mem_cons] at hz
    rcases hz with rfl | hz
    ·simpa using hx
    ·exact h5 z hz
theorem zix (p : α → Bool) : ∀ (l : List α) (k : Int), 0 ≤ k → za4 p l k = -1 → l.filter (fun x => !p x) = l
 | [], _, _, _ => rfl
 | x :: r, k, h0, h => by
   by_cases hx : p x = true
   ·simp [za4, hx] at h; omega
   ·have e : za4 p (x :: r) k = za4 p r (k + 1) := by simp [za4, hx]
    rw [e] at h
    rw [List.filter_cons, if_pos (by simp [hx]), zix p r (k + 1) (by omega) h]
theorem DelInv.start {l : List α} {i : Nat} {x : α} (hi : i < l.length) (hx : l[i]? = some x) (hp : p x = true) (hb : ∀ y ∈ l.take i, p y = false) : DelInv p l (i + 1) l ∧ ((l.take (i + 1)).filter (fun x => !p x)).length = i := by
 have e := zg4 (p := p) hx
 rw [if_pos hp, List.append_nil, (List.filter_eq_self (l := l.take i) (p := fun x => !p x)).2 (fun y hy => by simp [hb y hy])] at e
 have hl : (l.take i).length = i := by simp; omega
 refine ⟨⟨rfl, by omega, by rw [e]; omega, by rw [e, hl], rfl⟩, by rw [e, hl]⟩
theorem DelInv.done {l D : List α} (h : DelInv p l l.length D) : D.take (l.filter (fun x => !p x)).length = l.filter (fun x => !p x) := by
 have := h.kept
 rwa [List.take_length] at this
end
theorem zmP {cap off sz m n : Nat} (h1 : m ≤ n) (h2 : n ≤ cap) : n - m = 0 ∨ zgI cap off sz m = off + m * sz := by
 unfold zgI
 by_cases h : cap = m
 ·exact .inl (by omega)
 ·exact .inr (by rw [if_neg h])
end Go.HL
namespace Go.HL
end Go.HL
end
namespace Go.HL
section
section
variable {α : Type} {c : α → α → Int}
/-- Each block of so zgn elements is sorted. -/
def Blk (c : α → α → Int) (bs : Nat) (l : List α) : Prop := ∀ q, Srt c ((l.drop (bs * q)).take bs)
theorem Blk.all {bs : Nat} {l : List α} (h : Blk c bs l) (hl : l.length ≤ bs) : Srt c l := by
 have := h 0
 rw [Nat.mul_zero, List.drop_zero, List.take_of_length_le hl] at this
 exact this
theorem Blk.nil {bs : Nat} : Blk c bs [] := fun q => by simp [Srt.nil]
theorem Blk.add {bs k : Nat} {Z W : List α} (h : Blk c bs Z) (hZ : Z.length = bs * k) (hW : Srt c W) (hl : W.length ≤ bs) : Blk c bs (Z ++ W) := by
 intro q
 rcases Nat.lt_trichotomy q k with hq | hq | hq
 ·have h1 : bs * q + bs ≤ Z.length := by rw [hZ, ← Nat.mul_succ]; exact Nat.mul_le_mul_left bs hq
  rw [List.drop_append_of_le_length (by omega), List.take_append_of_le_length (by rw [List.length_drop]; omega)]
  exact h q
 ·rw [hq, ← hZ, List.drop_left, List.take_of_length_le hl]; exact hW
 ·have h1 : Z.length + bs ≤ bs * q := by rw [hZ, ← Nat.mul_succ]; exact Nat.mul_le_mul_left bs hq
  rw [List.drop_of_length_le (by rw [List.length_append]; omega)]
  simp [Srt.nil]
theorem Blk.at {bs q a : Nat} {l : List α} (h : Blk c bs l) (ha : a = bs * q) : Srt c ((l.drop a).take bs) := by rw [ha]; exact h q
end
end
section
abbrev pAt (b : Nat) : HVal := .raw (.pointer (some ⟨b, 0, none⟩))
/-- A stream of numbers of which a have been drawn. -/
abbrev St (b : Nat) (l : List Int) (a : Nat) : MObj := .cells b [.slice 1 (l.map (.int .i64)), .int .i64 (a : Int)]
def zeC (x n : Int) : Int := if n < 1 then 0 else if x.tmod n < 0 then x.tmod n + n else x.tmod n
theorem ziI (x n : Int) : ∃ y : Nat, zeC x n = (y : Int) ∧ (y : Int) < max n 1 := by
 have h : 0 ≤ zeC x n ∧ zeC x n < max n 1 := by
  unfold zeC
  split
  ·omega
  ·have h1 := Int.tmod_lt_of_pos x (show 0 < n by omega)
   have h2 : -n < x.tmod n := by
    have := Int.neg_lt_tmod_of_pos' x n (by omega)
    exact this
   split <;> omega
 exact ⟨(zeC x n).toNat, by omega, by omega⟩
where
 Int.neg_lt_tmod_of_pos' (x n : Int) (h : 0 < n) : -n < x.tmod n := by
  rcases Int.le_total 0 x with hx | hx
  ·have := Int.tmod_nonneg n hx; omega
  ·have e : x.tmod n = -((-x).tmod n) := by rw [Int.neg_tmod]; simp
   have := Int.tmod_lt_of_pos (-x) h
   omega
theorem getI {L : List Int} {y : Nat} (h : (y : Int) < max (L.length : Int) 1) (h0 : 0 < L.length) : ∃ z, L[y]? = some z ∧ z ∈ L :=
 ⟨L[y]'(by omega), List.getElem?_eq_getElem _, List.getElem_mem _⟩
theorem getS {L : List Str} {y : Nat} (h : (y : Int) < max (L.length : Int) 1) (h0 : 0 < L.length) : ∃ z, L[y]? = some z ∧ z ∈ L :=
 ⟨L[y]'(by omega), List.getElem?_eq_getElem _, List.getElem_mem _⟩
theorem zpQ (a b : Nat) : ((a : Int)).tmod (b : Int) = ((a % b : Nat) : Int) := by
 exact (Int.ofNat_tmod a b).symm
end
section
abbrev nilS : HVal := .raw (.slice none 0 0)
theorem znI {i : Nat} (h : i < 100) : (Lib.decDigits i).length ≤ 10 := by
 have : (List.range 100).all (fun i => decide ((Lib.decDigits i).length ≤ 10)) = true := by kernel_rfl
 have := List.all_eq_true.1 this i (List.mem_range.2 h)
 simpa using this
end
section
open Op (bytesLess)
/-- A list without the elements that equal the one before (p ahead of the first). -/
def zds (p : Option Str) : List Str → List Str
 | [] => []
 | x :: r => if p = some x then zds (some x) r else x :: zds (some x) r
theorem zkz (x : Str) : ∀ (l : List Str) (p : Option Str), zds p (l ++ [x]) = zds p l ++ if (l.getLast?.or p) = some x then [] else [x]
 | [], p => by
   by_cases h : p = some x
   ·simp only [List.nil_append, zds]
    rw [if_pos h, if_pos (by simpa using h)]
   ·simp only [List.nil_append, zds]
    rw [if_neg h, if_neg (by simpa using h)]
 | y :: l, p => by
   have ih := zkz x l (some y)
   have e : (y :: l).getLast?.or p = l.getLast?.or (some y) := by
    cases l with
    | nil => simp
    | cons z r => simp [List.getLast?_cons_cons]; rw [List.getLast?_eq_some_getLast (by simp)]; simp
   rw [e]
   simp only [List.cons_append, zds, ih]
   split <;> simp
theorem zgl (l : List Str) : ∀ m, m ≤ l.length → Lib.compactUpTo l.toArray m = zds none (l.take m)
 | 0, _ => by simp [Lib.compactUpTo, zds]
 | m + 1, h => by
   have hm : m < l.length := by omega
   have hx := List.getElem?_eq_getElem hm
   rw [Lib.compactUpTo_succ, zgl l m (by omega), zaE hx, zkz]
   congr 1
   have e1 : l.toArray[m]! = l[m] := by simp [getElem!_pos, hm]
   rw [e1]
   cases m with
   | zero => simp [Lib.keeps]
   | succ m =>
     have hl : (l.take (m + 1)).getLast? = some l[m] := by
      rw [zaE (List.getElem?_eq_getElem (show m < l.length by omega)), List.getLast?_append]; rfl
     have e2 : l.toArray[m]! = l[m] := by simp [getElem!_pos, show m < l.length by omega]
     rw [hl]
     simp only [Lib.keeps, e1, Nat.add_sub_cancel, e2]
     by_cases hh : l[m] = l[m + 1]
     ·simp [hh]
     ·have hh' : ¬ l[m + 1] = l[m] := fun h => hh h.symm
      simp [hh, hh']
theorem zff (l : List Str) : Lib.compact l = zds none l := by
 unfold Lib.compact
 rw [zgl l _ (Nat.le_refl _), List.take_length]
theorem zl8 : ∀ (l : List Str) (p : Option Str), (zds p l).length ≤ l.length
 | [], _ => Nat.le_refl _
 | x :: r, p => by
   have := zl8 r (some x)
   simp only [zds]; split <;> simp <;> omega
end
section
def Sh (s : Str) : Prop := s.length ≤ 1000000
/-- The state of KeepList's loops. -/
structure KLs where
 u : Value
 out : List Keep
 lv : Value
 left : List Str
 a : Nat
structure KLok (n a : Nat) (q : KLs) : Prop where
 out : q.out.length ≤ n
 left : q.left.length ≤ 20
 ls : ∀ s ∈ q.left, Sh s
 os : ∀ x ∈ q.out, Sh x.Team ∧ Sh x.Player
 a : q.a ≤ a + 2 * n
theorem ziY : ∀ (l : List Str) (p : Option Str) (s : Str), s ∈ zds p l → s ∈ l
 | [], _, s, h => by simp [zds] at h
 | x :: r, p, s, h => by
   simp only [zds] at h
   split at h
   ·exact List.mem_cons_of_mem _ (ziY r _ s h)
   ·rcases List.mem_cons.1 h with h | h
    ·subst h; simp
    ·exact List.mem_cons_of_mem _ (ziY r _ s h)
theorem zsa {l : List Str} {s : Str} (h : s ∈ Lib.compact (zem l)) : s ∈ l := by
 rw [zff] at h
 have := ziY _ _ _ h
 exact (List.mergeSort_perm _ _).mem_iff.1 this
theorem KLok.add {n a : Nat} {u u' lv lv' : Value} {out : List Keep} {left : List Str} {a1 a2 k : Nat} {t p : Str} {rd : Int} (h : KLok n a ⟨u, out, lv, left, a1⟩) (h1 : a2 ≤ a1 + 2) (ht : Sh t) (hp : left[k]? = some p) :
 KLok (n + 1) a ⟨u', out ++ [⟨t, p, rd⟩], lv', left.eraseIdx k, a2⟩ :=
 ⟨by have := h.out; simp at *; omega, by have := h.left; have := List.length_eraseIdx_le left k; dsimp only at *; omega, fun s hs => h.ls s (List.mem_of_mem_eraseIdx hs), fun x hx => by
  rcases List.mem_append.1 hx with hx | hx
  ·exact h.os x hx
  ·simp at hx; subst hx; exact ⟨ht, h.ls p (List.mem_of_getElem? hp)⟩, by have := h.a; dsimp only at *; omega⟩
theorem zcm {α : Type} {l : List α} {j : Nat} {x y : α} (h : l[j]? = some y) : (l.set j x)[j]? = some x := by
 rw [List.getElem?_set_self (zM h)]
theorem zce {α β : Type} {f : α → β} {l : List α} {j : Nat} {x : α} (h : l[j]? = some x) : (l.map f)[j]? = some (f x) := by
 rw [List.getElem?_map, h]; rfl
theorem zop {α : Type} {l : List α} {j : Nat} {x y : α} (h : x ∈ l.set j y) : x = y ∨ x ∈ l := by
 rcases List.mem_or_eq_of_mem_set h with h | h
 ·exact .inr h
 ·exact .inl h
/-- The state of SwapList's loops: what is out, the row of teams, the draws. -/
structure SLs where
 u : Value
 out : List Swap
 row : List Str
 a : Nat
structure SLok (n a : Nat) (q : SLs) : Prop where
 out : q.out.length ≤ n
 row : q.row.length ≤ 4
 rs : ∀ s ∈ q.row, Sh s
 os : ∀ x ∈ q.out, Sh x.Of ∧ Sh x.Team
 a : q.a ≤ a + 2 * n
theorem SLok.add {n a : Nat} {u u' : Value} {out : List Swap} {row : List Str} {a1 a2 : Nat} {t p : Str} {rd : Int} (h : SLok n a ⟨u, out, row, a1⟩) (h1 : a2 ≤ a1 + 2) (ht : Sh t) (hp : Sh p) :
 SLok (n + 1) a ⟨u', out ++ [⟨rd, t, p⟩], row, a2⟩ :=
 ⟨by have := h.out; simp at *; omega, h.row, h.rs, fun x hx => by
  rcases List.mem_append.1 hx with hx | hx
  ·exact h.os x hx
  ·simp at hx; subst hx; exact ⟨ht, hp⟩, by have := h.a; dsimp only at *; omega⟩
end
section
open Op (bytesLess)
end
section
open Op (bytesLess)
theorem zgd {a b : Str} : zbu a b ≤ 0 ↔ bytesLess b a = false := by
 rw [zg8]
 rcases zcJ a b with h | h | h
 ·simp [h, zbN h]
 ·subst h; simp [zbf]
 ·have hne : a ≠ b := fun e => by subst e; rw [zbf] at h; cases h
  simp [h, zbN h, hne]
theorem zfJ {a b : Str} : zbu a b = 0 ↔ a = b := by
 rw [zg8]
 rcases zcJ a b with h | h | h
 ·have hne : a ≠ b := fun e => by subst e; rw [zbf] at h; cases h
  simp [h, hne]
 ·subst h; simp [zbf]
 ·have hne : a ≠ b := fun e => by subst e; rw [zbf] at h; cases h
  simp [zbN h, hne]
theorem zhB {a b c : Str} (h1 : zbu a b ≤ 0) (h2 : zbu b c ≤ 0) : zbu a c ≤ 0 := by
 rw [zgd] at *
 rcases zcJ a b with h | h | h
 ·rcases zcJ b c with h' | h' | h'
  ·exact zbN (zek h h')
  ·subst h'; exact zbN h
  ·rw [h'] at h2; cases h2
 ·subst h; exact h2
 ·rw [h] at h1; cases h1
theorem zpO (a b : Int) : orI [a, b] = if a ≠ 0 then a else b := by
 simp only [orI]
 by_cases ha : a = 0 <;> by_cases hb : b = 0 <;> simp [ha, hb]
theorem zkK {a b : Int} : zdh a b ≤ 0 ↔ a ≤ b := by unfold zdh; split <;> (try split) <;> omega
theorem zor {a b : Int} : zdh a b = 0 ↔ a = b := by unfold zdh; split <;> (try split) <;> omega
end
section
open Go.Sort Go.Proofs
structure Play where
 Source : Str
 No : Int
 At : Int
 Week : Int
 Match : Str
 Player : Str
 Stat : Str
 Count : Int
 Undo : Int
structure StatS where
 Name : Str
 Count : Int
abbrev Of2 := Str × Str
def zqy (n : Int) : Bool := !(out n 1 60)
def zi1 (p : Play) : Int :=
 if !(key p.Source) then 5 else if out p.No 1 3000 || !(za7 p.At) || !(zqy p.Week) then 1
 else if !(key p.Match) || !(key p.Player) || !(key p.Stat) then 5
 else if out p.Count (-100000) 100000 || out p.Undo 0 (p.No - 1) then 1
 else if decide (0 < p.Undo) && decide (p.Count ≠ 0) then 3 else 0
structure ChkS where
 S : List Str
 W : List (Str × Int)
 c : Bool
def zrH (q : ChkS) (p : Play) : ChkS :=
 ⟨zaX p.Source q.S, zaz p.Match p.Week q.W, q.c || ((alk p.Match q.W).isSome && ((alk p.Match q.W).getD 0 != p.Week))⟩
theorem zmg {p : Play} (h : zi1 p = 0) : key p.Source = true ∧ (1 ≤ p.No ∧ p.No ≤ 3000) ∧ za7 p.At = true ∧ zqy p.Week = true ∧ (key p.Match = true ∧ key p.Player = true ∧ key p.Stat = true) ∧ (-100000 ≤ p.Count ∧ p.Count ≤ 100000) ∧ (0 ≤ p.Undo ∧ p.Undo ≤ p.No - 1) := by
 unfold zi1 at h
 split at h
 ·omega
 split at h
 ·omega
 split at h
 ·omega
 split at h
 ·omega
 rename_i h1 h2 h3 h4
 simp only [Bool.or_eq_true, Bool.not_eq_true', not_or, Bool.not_eq_false, Bool.not_eq_true] at h1 h2 h3 h4
 exact ⟨h1, zej h2.1.1, h2.1.2, h2.2, ⟨h3.1.1, h3.1.2, h3.2⟩, zej h4.1, zej h4.2⟩
def zpK (trust : List Str) (at' : Int) (B : List (Str × Int)) (p : Play) : List (Str × Int) :=
 if at' < p.At ∨ zdR p.Source trust 0 < 0 then B
 else if (alk p.Match B).isSome = false ∨ zdR p.Source trust 0 < (alk p.Match B).getD 0 then zaz p.Match (zdR p.Source trust 0) B else B
def zsF (l : List Play) (trust : List Str) (at' : Int) : List (Str × Int) := l.foldl (zpK trust at') []
def zs4 (l : List Play) (trust : List Str) (at' : Int) (m : Str) : Option Str := (alk m (zsF l trust at')).map fun k => trust.getD k.toNat []
/-! what is taken back -/
structure LnS where
 S : List Str
 c : List (Of2 × Int)
def zst (q : LnS) (p : Play) : LnS := ⟨zaX p.Player q.S, zaz (p.Player, p.Stat) ((alk (p.Player, p.Stat) q.c).getD 0 + p.Count) q.c⟩
def zhx (c : List (Of2 × Int)) (s : Str) : List StatS := (c.filter fun e => e.1.1 == s && e.2 != 0).map fun e => ⟨e.1.2, e.2⟩
theorem zrj {s : Str} (h : key s = true) : s.length ≤ 40 := by
 simp only [key, zgM, Bool.and_eq_true, decide_eq_true_eq] at h; exact h.1.1.1.2
end
section
section
variable {α : Type} [DecidableEq α]
/-- A list without the things that equal the one before (p ahead of the first). -/
def zco (p : Option α) : List α → List α
 | [] => []
 | x :: r => if p = some x then zco (some x) r else x :: zco (some x) r
theorem zio : ∀ (l : List α) (p : Option α) (s : α), s ∈ zco p l → s ∈ l
 | [], _, s, h => by simp [zco] at h
 | x :: r, p, s, h => by
   simp only [zco] at h
   split at h
   ·exact List.mem_cons_of_mem _ (zio r _ s h)
   ·rcases List.mem_cons.1 h with h | h
    ·subst h; simp
    ·exact List.mem_cons_of_mem _ (zio r _ s h)
theorem zj4 (x : α) : ∀ (A : List α) (p : Option α), zco p (A ++ [x]) = zco p A ++ if (A.getLast?.or p) = some x then [] else [x]
 | [], p => by
   by_cases h : p = some x <;> simp [zco, h]
 | y :: A, p => by
   have ih := zj4 x A (some y)
   have e : ((y :: A).getLast?.or p) = (A.getLast?.or (some y)) := by
    cases A with
    | nil => simp
    | cons z A => simp [List.getLast?_cons_cons, List.getLast?_cons]
   simp only [List.cons_append, zco]
   rw [e, ih]
   split <;> simp
/-- A sorted list without repeats: all that was there, still sorted, and neighbours differ. -/
theorem zjD {c : α → α → Int} : ∀ (l : List α) (p : Option α), l.Pairwise (fun x y => c x y ≤ 0) → (∀ q, p = some q → ∀ x ∈ l, c q x ≤ 0) →
 (zco p l).Pairwise (fun x y => c x y ≤ 0) ∧ (∀ q, p = some q → ∀ y ∈ zco p l, c q y ≤ 0) ∧ ∀ q, p = some q → (zco p l)[0]? ≠ some q
 | [], _, _, _ => ⟨by simp [zco], fun q _ y hy => by simp [zco] at hy, fun q _ => by simp [zco]⟩
 | x :: r, p, h, hp => by
   obtain ⟨h1, h2⟩ := List.pairwise_cons.1 h
   obtain ⟨i1, i2, i3⟩ := zjD r (some x) h2 (fun q e y hy => by cases e; exact h1 y hy)
   simp only [zco]
   split
   ·rename_i e
    refine ⟨i1, fun q eq y hy => ?_, fun q eq => ?_⟩
    ·rw [e] at eq; cases eq; exact i2 x rfl y hy
    ·rw [e] at eq; cases eq; exact i3 x rfl
   ·rename_i e
    refine ⟨List.pairwise_cons.2 ⟨fun y hy => i2 x rfl y hy, i1⟩, fun q eq y hy => ?_, fun q eq => ?_⟩
    ·rcases List.mem_cons.1 hy with rfl | hy
     ·exact hp q eq y List.mem_cons_self
     ·exact hp q eq y (List.mem_cons_of_mem _ (zio r _ y hy))
    ·intro h9
     have : x = q := by simpa using h9
     exact e (by rw [eq, this])
theorem ziG {c : α → α → Int} : ∀ (l : List α) (p : Option α), l.Pairwise (fun x y => c x y ≤ 0) → (∀ q, p = some q → ∀ x ∈ l, c q x ≤ 0) → ∀ (i : Nat) (x y : α), (zco p l)[i]? = some x → (zco p l)[i + 1]? = some y → x ≠ y
 | [], _, _, _, i, x, y, hx, _ => by simp [zco] at hx
 | z :: r, p, h, hp, i, x, y, hx, hy => by
   obtain ⟨h1, h2⟩ := List.pairwise_cons.1 h
   have hp' : ∀ q, some z = some q → ∀ w ∈ r, c q w ≤ 0 := fun q e w hw => by cases e; exact h1 w hw
   simp only [zco] at hx hy
   split at hx
   ·rename_i e
    rw [if_pos e] at hy
    exact ziG r (some z) h2 hp' i x y hx hy
   ·rename_i e
    rw [if_neg e] at hy
    cases i with
    | zero =>
      simp at hx hy
      subst hx
      intro hxy
      exact (zjD r (some z) h2 hp').2.2 z rfl (by rw [hy, ← hxy])
    | succ i =>
      simp at hx hy
      exact ziG r (some z) h2 hp' i x y hx hy
variable {c : α → α → Int}
/-- Neighbours that do not compare as alike make a strict list. -/
theorem zod {β : Type} {c : β → β → Int} (hc : Cmp c fun _ => True) {D : List β} (hs : D.Pairwise fun x y => c x y ≤ 0) (h : ∀ (i : Nat) (x y : β), D[i]? = some x → D[i + 1]? = some y → c x y ≠ 0) : D.Pairwise fun x y => c x y < 0 := by
 refine List.pairwise_iff_getElem.2 fun i j hi hj hij => ?_
 have h1 := List.pairwise_iff_getElem.1 hs i j hi hj hij
 have hi1 : i + 1 < D.length := by omega
 have h2 := h i D[i] D[i + 1] (List.getElem?_eq_getElem hi) (List.getElem?_eq_getElem hi1)
 have h3 := List.pairwise_iff_getElem.1 hs i (i + 1) hi hi1 (by omega)
 rcases Nat.lt_or_ge (i + 1) j with hlt | hge
 ·have h4 := List.pairwise_iff_getElem.1 hs (i + 1) j hi1 hj hlt
  have f1 := hc.flip D[i] D[i + 1] trivial trivial
  have f2 := hc.flip D[i] D[j] trivial trivial
  have f3 := hc.flip D[j] D[i] trivial trivial
  have f4 := hc.flip D[i + 1] D[i] trivial trivial
  rcases Int.lt_or_eq_of_le h1 with e | e
  ·exact e
  ·exfalso
   have := hc.trans D[i + 1] D[j] D[i] trivial trivial trivial h4 (by omega)
   omega
 ·have e : j = i + 1 := by omega
  subst e; omega
end
end
section
theorem zpC {α : Type} {l : List α} (h : l.Nodup) {i j : Nat} {a : α} (hi : l[i]? = some a) (hj : l[j]? = some a) : i = j := by
 have key : ∀ (i j : Nat), i < j → l[i]? = some a → l[j]? = some a → False := fun i j hij h1 h2 => by
  have hi := zM h1
  have hj := zM h2
  rw [List.getElem?_eq_getElem hi] at h1
  rw [List.getElem?_eq_getElem hj] at h2
  exact List.pairwise_iff_getElem.1 h i j hi hj hij (Option.some.inj (h1.trans h2.symm))
 rcases Nat.lt_trichotomy i j with h' | h' | h'
 ·exact (key i j h' hi hj).elim
 ·exact h'
 ·exact (key j i h' hj hi).elim
/-! what a range has come to -/
structure VisOk {β : Type} (L : List β) (vis : List Nat) (E : List β) : Prop where
 nd : vis.Nodup
 lt : ∀ j ∈ vis, j < L.length
 eq : E.map some = vis.map fun j => L[j]?
theorem VisOk.nil {β : Type} (L : List β) : VisOk L [] [] := ⟨List.nodup_nil, (fun j h => by cases h), rfl⟩
theorem VisOk.step {β : Type} {L E : List β} {vis : List Nat} (h : VisOk L vis E) {j : Nat} {q : β} (hj : L[j]? = some q) (hn : j ∉ vis) : VisOk L (vis ++ [j]) (E ++ [q]) where
 nd := List.nodup_append.2 ⟨h.nd, by simp, fun a ha b hb => by simp at hb; subst hb; exact fun e => hn (e ▸ ha)⟩
 lt k hk := by
  rcases List.mem_append.1 hk with hk | hk
  ·exact h.lt k hk
  ·simp at hk; subst hk; exact zM hj
 eq := by simp only [List.map_append, h.eq, List.map_cons, List.map_nil, hj]
theorem VisOk.len {β : Type} {L E : List β} {vis : List Nat} (h : VisOk L vis E) : E.length = vis.length := by
 have := congrArg List.length h.eq; simpa using this
theorem VisOk.done {β : Type} {L E : List β} {vis : List Nat} (h : VisOk L vis E) (hl : vis.length = L.length) : E.Perm L := by
 have hp : vis.Perm (List.range L.length) := by
  refine (List.perm_ext_iff_of_nodup h.nd List.nodup_range).2 fun a => ⟨fun ha => List.mem_range.2 (h.lt a ha), fun ha => ?_⟩
  refine Classical.byContradiction fun hna => ?_
  have h1 : (a :: vis).Nodup := List.nodup_cons.2 ⟨hna, h.nd⟩
  have h2 := zo0 h1 (m := List.range L.length) fun j hj => by
   rcases List.mem_cons.1 hj with rfl | hj
   ·exact ha
   ·exact List.mem_range.2 (h.lt j hj)
  simp at h2; omega
 have h1 := hp.map fun j => L[j]?
 rw [← h.eq] at h1
 have h2 : ((List.range L.length).map fun j => L[j]?) = L.map some := by
  refine List.ext_getElem? fun i => ?_
  rw [List.getElem?_map, List.getElem?_map]
  rcases Nat.lt_or_ge i L.length with hi | hi
  ·rw [List.getElem?_range hi, List.getElem?_eq_getElem hi]; simp [hi]
  ·rw [List.getElem?_eq_none (by simpa using hi), List.getElem?_eq_none hi]; rfl
 rw [h2] at h1
 have h3 := h1.filterMap id
 have key : ∀ l : List β, (l.map some).filterMap id = l := fun l => by
  induction l with
  | nil => rfl
  | cons x l ih => simp [ih]
 rwa [key, key] at h3
def NextOk {β : Type} (L : List β) (vis : List Nat) (c : Bool) (vis' : List Nat) : Prop :=
 (c = false ∧ vis' = vis ∧ vis.length = L.length) ∨ (c = true ∧ ∃ j q, L[j]? = some q ∧ j ∉ vis ∧ vis' = vis ++ [j])
theorem NextOk.t {β : Type} {L : List β} {vis vis' : List Nat} {c : Bool} (h : NextOk L vis c vis') (hc : c = true) : ∃ j q, L[j]? = some q ∧ j ∉ vis ∧ vis' = vis ++ [j] := by
 rcases h with ⟨h, _⟩ | ⟨_, h⟩
 ·rw [hc] at h; cases h
 ·exact h
theorem NextOk.f {β : Type} {L : List β} {vis vis' : List Nat} {c : Bool} (h : NextOk L vis c vis') (hc : c = false) : vis' = vis ∧ vis.length = L.length := by
 rcases h with ⟨_, h⟩ | ⟨h, _⟩
 ·exact h
 ·rw [hc] at h; cases h
section
variable {P : Program} {e : Env} {dst : Option Tmp} {ty : TypeId} {pos : String} {af : Array Edge} {g : Option (Nat × Bool)} {M : List MObj} {K : HVal → List MObj → Prop}
theorem zee {α : Type} : ∀ {M : List α} {i : Nat} {m : α}, M[i]? = some m → M.set i m = M
 | [], i, m, h => by simp at h
 | x :: M, 0, m, h => by simp at h; simp [h]
 | x :: M, i + 1, m, h => by simp at h; simp [zee h]
end
section
variable {β : Type}
abbrev Grp (β : Type) := List (Str × (Value × List β))
abbrev gZ (β : Type) : Value × List β := (.slice none 0 0, [])
def gL (s : Str) (G : Grp β) : List β := ((alk s G).getD (gZ β)).2
end
section
variable {P : Program} {e : Env} {dst : Option Tmp} {ty : TypeId} {pos : String} {af : Array Edge} {g : Option (Nat × Bool)} {M : List MObj} {K : HVal → List MObj → Prop} {β : Type} {eb : β → HVal}
end
end
section
section
variable {κ α γ : Type} [DecidableEq κ]
theorem ANodup.map {A B C : Type} (g : B → C) {E : List (A × B)} (h : ANodup E) : ANodup (E.map fun q => (q.1, g q.2)) := by
 unfold ANodup at *; rw [List.map_map]; exact h
end
structure GOk (E : List (Of2 × Int)) (G : Grp StatS) : Prop where
 nd : ANodup G
 raw : ∀ s, gL s G = zhx E s
theorem GOk.nil : GOk [] [] := ⟨ANodup.nil, fun s => rfl⟩
theorem zh0 (E : List (Of2 × Int)) (q : Of2 × Int) (s : Str) : zhx (E ++ [q]) s = zhx E s ++ if q.1.1 = s ∧ q.2 ≠ 0 then [⟨q.1.2, q.2⟩] else [] := by
 unfold zhx
 rw [List.filter_append, List.map_append, List.filter_cons]
 by_cases h : q.1.1 = s ∧ q.2 ≠ 0
 ·rw [if_pos h, if_pos (by simpa using h)]; rfl
 ·rw [if_neg h, if_neg (by simpa using h)]; rfl
theorem GOk.skip {E : List (Of2 × Int)} {G : Grp StatS} (h : GOk E G) {q : Of2 × Int} (hq : q.2 = 0) : GOk (E ++ [q]) G :=
 ⟨h.nd, fun s => by rw [zh0, if_neg (by simp [hq]), List.append_nil, h.raw]⟩
theorem zr4 (s t : Str) (v : Value) (l : List StatS) (G : Grp StatS) : gL t (zaz s (v, l) G) = if t = s then l else gL t G := by
 unfold gL; rw [zhg]; split <;> rfl
theorem GOk.put {E : List (Of2 × Int)} {G : Grp StatS} (h : GOk E G) {q : Of2 × Int} (hq : ¬ q.2 = 0) (v : Value) : GOk (E ++ [q]) (zaz q.1.1 (v, gL q.1.1 G ++ [⟨q.1.2, q.2⟩]) G) := by
 refine ⟨h.nd.put, fun s => ?_⟩
 rw [zr4, zh0]
 by_cases hs : s = q.1.1
 ·rw [if_pos hs, if_pos ⟨hs.symm, hq⟩, hs, h.raw]
 ·rw [if_neg hs, if_neg (fun e => hs e.1.symm), List.append_nil, h.raw]
theorem zjB {s t : Str} {S : List Str} : t ∈ zaX s S ↔ t = s ∨ t ∈ S := by
 unfold zaX
 by_cases h : S.contains s = true
 ·rw [if_pos h]
  have : s ∈ S := by simpa using h
  constructor
  ·exact .inr
  ·rintro (rfl | h)
   ·exact this
   ·exact h
 ·rw [if_neg h]; simp; exact Or.comm
theorem zhJ {s : Str} {S : List Str} (h : S.Nodup) : (zaX s S).Nodup := by
 unfold zaX
 by_cases hc : S.contains s = true
 ·rw [if_pos hc]; exact h
 ·rw [if_neg hc]
  exact List.nodup_append.2 ⟨h, by simp, fun a ha b hb => by simp at hb; subst hb; intro e; subst e; simp at hc; exact hc ha⟩
theorem zq3 (s : Str) (S : List Str) : (zaX s S).length ≤ S.length + 1 := by
 unfold zaX; split
 ·omega
 ·simp
structure LnOk (q : LnS) (n : Nat) : Prop where
 c : ANodup q.c
 S : q.S.Nodup
 k : ∀ s ∈ q.S, s.length ≤ 40
 cl : q.c.length ≤ n
 Sl : q.S.length ≤ n
 bd : ∀ e ∈ q.c, -(100000 * (n : Int)) ≤ e.2 ∧ e.2 ≤ 100000 * (n : Int)
theorem LnOk.val {q : LnS} {n : Nat} (h : LnOk q n) (s : Of2) : -(100000 * (n : Int)) ≤ (alk s q.c).getD 0 ∧ (alk s q.c).getD 0 ≤ 100000 * (n : Int) := by
 cases hq : alk s q.c with
 | none => simp; omega
 | some v => exact h.bd _ (ze8 hq)
theorem LnOk.put {q : LnS} {n : Nat} (h : LnOk q n) {p : Play} (hp : zi1 p = 0) : LnOk (zst q p) (n + 1) := by
 obtain ⟨_, _, _, _, ⟨_, k2, _⟩, hb, _⟩ := zmg hp
 have hv := h.val (p.Player, p.Stat)
 refine ⟨h.c.put, zhJ h.S, fun s hs => ?_, Nat.le_trans (zrb _ _ _) (by have := h.cl; omega), Nat.le_trans (zq3 _ _) (by have := h.Sl; omega), fun e he => ?_⟩
 ·rcases zjB.1 hs with rfl | hs
  ·exact zrj k2
  ·exact h.k s hs
 ·rcases zgt he with rfl | he
  ·dsimp only; omega
  ·have := h.bd e he; omega
theorem LnOk.up {q : LnS} {n : Nat} (h : LnOk q n) : LnOk q (n + 1) :=
 ⟨h.c, h.S, h.k, by have := h.cl; omega, by have := h.Sl; omega, fun e he => by have := h.bd e he; omega⟩
end
section
structure MendS where
 Player : Str
 Week : Int
 Stat : Str
 Count : Int
 At : Int
 Version : Int
 By : Str
abbrev Plc := Str × Int
section
variable {α : Type}
def zaI (f : α → Int) (c : α → α → Int) (d : α) (l : List α) : Nat → List α → Int
 | _, [] => 0
 | k, x :: r => if f x ≠ 0 then f x else if 0 < k ∧ c x (l.getD (k - 1) d) ≤ 0 then 7 else zaI f c d l (k + 1) r
theorem zhH {f : α → Int} {c : α → α → Int} {d : α} {l : List α} {k : Nat} {x : α} {r : List α} (h1 : f x = 0) (h2 : 0 < k → ¬ c x (l.getD (k - 1) d) ≤ 0) : zaI f c d l k (x :: r) = zaI f c d l (k + 1) r := by
 rw [zaI, if_neg (by simp [h1]), if_neg (fun h => h2 h.1 h.2)]
theorem zov {f : α → Int} {c : α → α → Int} {d : α} {l : List α} {k : Nat} {x : α} {r : List α} (h1 : f x ≠ 0) : zaI f c d l k (x :: r) = f x := by
 rw [zaI, if_pos h1]
theorem zoC {f : α → Int} {c : α → α → Int} {d : α} {l : List α} {k : Nat} {x : α} {r : List α} (h1 : f x = 0) (h0 : 0 < k) (h2 : c x (l.getD (k - 1) d) ≤ 0) : zaI f c d l k (x :: r) = 7 := by
 rw [zaI, if_neg (by simp [h1]), if_pos ⟨h0, h2⟩]
theorem zfE {f : α → Int} {c : α → α → Int} {d : α} {l : List α} : ∀ (r : List α) (k : Nat), zaI f c d l k r = 0 → ∀ x ∈ r, f x = 0
 | [], _, _, x, hx => by cases hx
 | p :: r, k, h, x, hx => by
   rw [zaI] at h
   split at h
   ·contradiction
   ·split at h
    ·omega
    ·rename_i h1 _
     rcases List.mem_cons.1 hx with rfl | hx
     ·simpa using h1
     ·exact zfE r (k + 1) h x hx
/-- Each is behind the one ahead of it. -/
theorem zll {f : α → Int} {c : α → α → Int} {d : α} (hc : Cmp c fun _ => True) : ∀ (r : List α) (l : List α) (k : Nat), l.drop k = r → k ≤ l.length → (l.take k).Pairwise (fun a b => c a b < 0) → zaI f c d l k r = 0 → l.Pairwise (fun a b => c a b < 0)
 | [], l, k, hd, hk, hp, _ => by
   have h1 : l.length ≤ k := by simpa using hd
   rw [List.take_of_length_le h1] at hp; exact hp
 | x :: r, l, k, hd, hk, hp, h => by
   rw [zaI] at h
   split at h
   ·contradiction
   ·split at h
    ·omega
    ·rename_i h2
     have hx : l[k]? = some x := by have := congrArg (fun q : List α => q[0]?) hd; simpa using this
     have hlt := zM hx
     refine zll hc r l (k + 1) (by rw [← List.drop_drop (i := 1), hd]; rfl) hlt ?_ h
     rw [zaE hx]
     refine List.pairwise_append.2 ⟨hp, List.pairwise_singleton _ _, fun a ha b hb => ?_⟩
     obtain rfl := List.mem_singleton.1 hb
     obtain ⟨i, hi⟩ := List.getElem?_of_mem ha
     have hik : i < k := by have := zM hi; rw [List.length_take] at this; omega
     have hy : l[k - 1]? = some (l.getD (k - 1) d) := getD_some (by omega)
     have h3 : c (l.getD (k - 1) d) b < 0 := by
      rw [hc.flip _ _ trivial trivial]
      have : ¬ c b (l.getD (k - 1) d) ≤ 0 := fun e => h2 ⟨by omega, e⟩
      omega
     rcases Nat.lt_or_ge i (k - 1) with hlt' | hge
     ·have hyk : (l.take k)[k - 1]? = some (l.getD (k - 1) d) := by rw [List.getElem?_take_of_lt (by omega)]; exact hy
      have h4 : c a (l.getD (k - 1) d) < 0 := by
       have hi2 := zM hi
       have hk2 := zM hyk
       have := List.pairwise_iff_getElem.1 hp i (k - 1) hi2 hk2 hlt'
       rw [List.getElem?_eq_getElem hi2] at hi
       rw [List.getElem?_eq_getElem hk2] at hyk
       rw [Option.some.inj hi, Option.some.inj hyk] at this
       exact this
      have h5 := hc.trans a (l.getD (k - 1) d) b trivial trivial trivial (by omega) (by omega)
      have f1 := hc.flip a (l.getD (k - 1) d) trivial trivial
      have f2 := hc.flip (l.getD (k - 1) d) b trivial trivial
      have f3 := hc.flip a b trivial trivial
      have f4 := hc.flip b a trivial trivial
      rcases Int.lt_or_eq_of_le h5 with e | e
      ·exact e
      ·exfalso
       have := hc.trans b a (l.getD (k - 1) d) trivial trivial trivial (by omega) (by omega)
       omega
     ·have e : i = k - 1 := by omega
      rw [e, List.getElem?_take_of_lt (by omega), hy] at hi
      rw [← Option.some.inj hi]; exact h3
theorem zf0 {f : α → Int} {c : α → α → Int} {d : α} (hc : Cmp c fun _ => True) {l : List α} (h : zaI f c d l 0 l = 0) : l.Pairwise (fun a b => c a b < 0) :=
 zll hc l l 0 rfl (Nat.zero_le _) (by simp) h
theorem Cmp.lex {c d : α → α → Int} (hc : Cmp c fun _ => True) (hd : Cmp d fun _ => True) : Cmp (fun a b => if c a b ≠ 0 then c a b else d a b) fun _ => True where
 flip x y _ _ := by
  have f1 := hc.flip x y trivial trivial
  have f2 := hc.flip y x trivial trivial
  have f3 := hd.flip x y trivial trivial
  by_cases h : c x y = 0
  ·have h' : c y x = 0 := by omega
   rw [if_neg (by simp [h]), if_neg (by simp [h'])]; exact f3
  ·have h' : c y x ≠ 0 := by omega
   rw [if_pos h, if_pos h']; exact f1
 trans x y z _ _ _ h1 h2 := by
  have fxy := hc.flip x y trivial trivial
  have fyx := hc.flip y x trivial trivial
  have fyz := hc.flip y z trivial trivial
  have fzy := hc.flip z y trivial trivial
  have fxz := hc.flip x z trivial trivial
  have fzx := hc.flip z x trivial trivial
  have a1 : c x y ≤ 0 := by split at h1 <;> omega
  have a2 : c y z ≤ 0 := by split at h2 <;> omega
  have a3 := hc.trans x y z trivial trivial trivial a1 a2
  by_cases h : c x z = 0
  ·have b1 := hc.trans z x y trivial trivial trivial (by omega) a1
   have b2 := hc.trans y z x trivial trivial trivial a2 (by omega)
   have e1 : c x y = 0 := by omega
   have e2 : c y z = 0 := by omega
   rw [if_neg (by simp [e1])] at h1
   rw [if_neg (by simp [e2])] at h2
   rw [if_neg (by simp [h])]
   exact hd.trans x y z trivial trivial trivial h1 h2
  ·rw [if_pos h]; exact a3
theorem zg9 (f : α → Str) : Cmp (fun a b => zbu (f a) (f b)) fun _ => True where
 flip x y _ _ := by rw [zeV (f x) (f y)]; omega
 trans x y z _ _ _ h1 h2 := zhB h1 h2
theorem znt (f : α → Int) : Cmp (fun a b => zdh (f a) (f b)) fun _ => True where
 flip x y _ _ := by rw [zlI (f x) (f y)]; omega
 trans x y z _ _ _ h1 h2 := by rw [zkK] at *; omega
theorem zjw (a b : Int) (r : List Int) : orI (a :: b :: r) = if a ≠ 0 then a else orI (b :: r) := by rw [orI]
end
theorem zhd {a b : Int} (h : (if a ≠ 0 then a else b) = 0) : a = 0 ∧ b = 0 := by
 split at h
 ·contradiction
 ·rename_i h1; exact ⟨by simpa using h1, h⟩
theorem zmp (a b : Str) : (Op.bytesLess a b || a == b) = decide (zbu a b ≤ 0) := by
 rw [Bool.eq_iff_iff, decide_eq_true_iff, zgd]
 rcases zcJ a b with h | h | h
 ·simp [h, zbN h]
 ·subst h; simp [zbf]
 ·have hne : a ≠ b := fun e => by subst e; rw [zbf] at h; cases h
  simp [h, zbN h, hne]
/-! what is wrong -/
end
end Go.HL
section
namespace Go.HL
theorem zkR {a b c : Int} (h : orI [a, b, c] = 0) : a = 0 ∧ b = 0 ∧ c = 0 := by
 simp only [orI] at h
 split at h
 ·exact absurd h (by assumption)
 ·split at h
  ·exact absurd h (by assumption)
  ·split at h
   ·exact absurd h (by assumption)
   ·exact ⟨by omega, by omega, by omega⟩
end Go.HL
namespace Go.HL
end Go.HL
namespace Go.HL
end Go.HL
end
namespace Go.HL
section
/-- The state of a loop that draws: the list that grows, how zgn were drawn. -/
structure GL (α : Type) where
 u : Value
 out : List α
 a : Nat
structure GLok {α : Type} (P : α → Prop) (n m : Nat) (q : GL α) : Prop where
 len : q.out.length ≤ n
 all : ∀ x ∈ q.out, P x
 a : q.a ≤ m
section
variable {α : Type} {P : α → Prop}
theorem GLok.add {n m m' : Nat} {u u' : Value} {out : List α} {a1 a2 : Nat} {x : α} (h : GLok P n m ⟨u, out, a1⟩) (hx : P x) (ha : a2 ≤ m') : GLok P (n + 1) m' ⟨u', out ++ [x], a2⟩ :=
 ⟨by have := h.len; simp at *; omega, fun y hy => by
  rcases List.mem_append.1 hy with hy | hy
  ·exact h.all y hy
  ·simp at hy; subst hy; exact hx, ha⟩
theorem GLok.same {n m m' : Nat} {u : Value} {out : List α} {a1 a2 : Nat} (h : GLok P n m ⟨u, out, a1⟩) (ha : a2 ≤ m') : GLok P (n + 1) m' ⟨u, out, a2⟩ :=
 ⟨by have := h.len; dsimp only at *; omega, h.all, ha⟩
theorem zfm {l : List α} {j : Nat} {y : α} (h : ∀ x ∈ l, P x) (hy : P y) : ∀ x ∈ l.set j y, P x := fun x hx => by
 rcases zop hx with rfl | hx
 ·exact hy
 ·exact h x hx
end
theorem zkg : Sh [] := by simp [Sh]
end
section
structure PairS where
 Name : Str
 Val : Str
end
section

end
section
open Op (bytesLess)
end
section

end
section

end
section

end
section

end
section

end
section
def zgw {α : Type} (e : α → HVal) (a b : α) : Bool := zgh (zj (e a)) (zj (e b))
def zcK {α : Type} (e : α → HVal) : List α → List α → Bool
 | [], [] => true
 | a :: l, b :: m => zgw e a b && zcK e l m
 | _, _ => false
theorem zd8 {α : Type} {e : α → HVal} : ∀ {l m : List α}, l.length ≠ m.length → zcK e l m = false
 | [], [], h => absurd rfl h
 | [], _ :: _, _ => rfl
 | _ :: _, [], _ => rfl
 | a :: l, b :: m, h => by
   rw [zcK, zd8 (by intro q; apply h; simp [q])]; simp
end
section
section
variable {α : Type} [DecidableEq α]
end
end
section

end
section

end
section

end
section
theorem Cmp.lt_trans {α : Type} {c : α → α → Int} {s : α → Prop} (h : Cmp c s) {x y z : α} (hx : s x) (hy : s y) (hz : s z) (h1 : c x y < 0) (h2 : c y z < 0) : c x z < 0 := by
 rcases Int.lt_or_le (c x z) 0 with q | q
 ·exact q
 ·exfalso
  have a1 := h.flip y z hy hz
  have a2 := h.flip z x hz hx
  have hzx : c z x ≤ 0 := by
   rcases Int.lt_or_le 0 (c z x) with r | r
   ·have := h.flip x z hx hz; omega
   ·exact r
  have := h.trans z x y hz hx hy hzx (by omega)
  omega
theorem zlP {a b c : Str} (h1 : zbu a b ≤ 0) (h2 : zbu b c ≤ 0) (h : zbu a c = 0) : zbu a b = 0 ∧ zbu b c = 0 := by
 have e := zfJ.1 h
 subst e
 rw [zeV b a] at *
 omega
end
section
theorem zka : ∀ (l : List Str) (p : Option Str) (s : Str), s ∈ l → s ∈ zds p l ∨ p = some s
 | [], _, _, h => by cases h
 | x :: r, p, s, h => by
   simp only [zds]
   rcases List.mem_cons.1 h with rfl | h
   ·split
    ·rename_i e; exact .inr e
    ·exact .inl (by simp)
   ·rcases zka r (some x) s h with q | q
    ·split
     ·exact .inl q
     ·exact .inl (List.mem_cons_of_mem _ q)
    ·cases q
     split
     ·rename_i e; exact .inr e
     ·exact .inl (by simp)
def zlZ (l : List Str) : List Str := Lib.compact (zem l)
theorem zlr {l : List Str} {s : Str} : s ∈ zlZ l ↔ s ∈ l := by
 constructor
 ·exact zsa
 ·intro h
  unfold zlZ
  rw [zff]
  rcases zka (zem l) none s ((List.mergeSort_perm _ _).mem_iff.2 h) with q | q
  ·exact q
  ·cases q
/-- The sums of one player. -/
def zdg {κ : Type} (c : List ((Str × κ) × Int)) (s : Str) : List (κ × Int) := (c.filter fun e => e.1.1 == s).map fun e => (e.1.2, e.2)
theorem zlg {κ : Type} [DecidableEq κ] (s : Str) (st : κ) (v : Int) (s' : Str) : ∀ c : List ((Str × κ) × Int), zdg (zaz (s, st) v c) s' = if s' = s then zaz st v (zdg c s) else zdg c s'
 | [] => by
   by_cases e : s' = s
   ·subst e; simp [zdg, zaz]
   ·have : ¬ s = s' := fun q => e q.symm
    simp [zdg, zaz, e, this]
 | p :: r => by
   have ih := zlg s st v s' r
   obtain ⟨⟨a, b⟩, w⟩ := p
   simp only [zaz, Prod.mk.injEq]
   by_cases h1 : s = a
   ·subst h1
    by_cases h2 : st = b
    ·subst h2
     rw [if_pos ⟨rfl, rfl⟩]
     by_cases e : s' = s
     ·subst e; simp [zdg, zaz]
     ·have : ¬ s = s' := fun q => e q.symm
      simp [zdg, e, this]
    ·rw [if_neg (fun q => h2 q.2)]
     by_cases e : s' = s
     ·subst e
      rw [if_pos rfl] at ih ⊢
      simp only [zdg, List.filter_cons, beq_self_eq_true, if_true, List.map_cons, zaz, if_neg h2] at ih ⊢
      rw [ih]
     ·have : ¬ s = s' := fun q => e q.symm
      rw [if_neg e] at ih ⊢
      simp only [zdg, List.filter_cons, beq_iff_eq, if_neg this] at ih ⊢
      exact ih
   ·rw [if_neg (fun q => h1 q.1)]
    by_cases e : s' = s
    ·subst e
     have : ¬ a = s' := fun q => h1 q.symm
     rw [if_pos rfl] at ih ⊢
     simp only [zdg, List.filter_cons, beq_iff_eq, if_neg this] at ih ⊢
     exact ih
    ·rw [if_neg e] at ih ⊢
     by_cases h3 : a = s'
     ·simp only [zdg, List.filter_cons, beq_iff_eq, if_pos h3, List.map_cons] at ih ⊢
      rw [ih]
     ·simp only [zdg, List.filter_cons, beq_iff_eq, if_neg h3] at ih ⊢
      exact ih
end
section
structure MarketS where
 Teams : List Str
 Vetoes : Int
 Wait : Int
 Deadline : Int
 Least : Int
 Most : Int
structure OwnerS where
 Player : Str
 Team : Str
structure GiveS where
 Player : Str
 From : Str
 To : Str
structure DealS where
 Id : Str
 By : Str
 From : Int
 To : Int
 Gives : List GiveS
structure ReplyS where
 Offer : Str
 Team : Str
 At : Int
 Kind : Int
abbrev zaC (m : MarketS) : HVal := .agg [eSs m.Teams, .int .i64 m.Vetoes, .int .i64 m.Wait, .int .i64 m.Deadline, .int .i64 m.Least, .int .i64 m.Most]
abbrev zaL (x : OwnerS) : HVal := .agg [.str x.Player, .str x.Team]
abbrev zat (l : List OwnerS) : HVal := .slice 2 (l.map zaL)
abbrev zbb (x : GiveS) : HVal := .agg [.str x.Player, .str x.From, .str x.To]
abbrev zki (l : List GiveS) : HVal := .slice 3 (l.map zbb)
abbrev zdr (x : DealS) : HVal := .agg [.str x.Id, .str x.By, .int .i64 x.From, .int .i64 x.To, zki x.Gives]
abbrev zcA (l : List DealS) : HVal := .slice 5 (l.map zdr)
abbrev zbA (x : ReplyS) : HVal := .agg [.str x.Offer, .str x.Team, .int .i64 x.At, .int .i64 x.Kind]
abbrev zbr (l : List ReplyS) : HVal := .slice 4 (l.map zbA)
def zbE : OwnerS := ⟨[], []⟩
def zdf : GiveS := ⟨[], [], []⟩
def zcu : DealS := ⟨[], [], 0, 0, []⟩
def zbU : ReplyS := ⟨[], [], 0, 0⟩
/-! what is wrong -/
def zad (m : MarketS) : Int :=
 if m.Teams.length = 0 then 8 else if (20 : Int) < m.Teams.length then 2
 else if ze4 m.Teams ≠ 0 then ze4 m.Teams
 else if out m.Vetoes 1 20 || out m.Wait 0 864000000 || out m.Deadline 0 345686400000 || out m.Least 0 m.Most || decide (60 < m.Most) then 1 else 0
structure MarketOk (m : MarketS) : Prop where
 pos : 0 < m.Teams.length
 len : m.Teams.length ≤ 20
 sorted : SortedS m.Teams
 least : 0 ≤ m.Least ∧ m.Least ≤ m.Most
 most : m.Most ≤ 60
theorem zfc {m : MarketS} (h : zad m = 0) : MarketOk m := by
 unfold zad at h
 split at h
 ·omega
 split at h
 ·omega
 split at h
 ·rename_i h1 h2 h3; exact absurd h h3
 split at h
 ·omega
 rename_i h1 h2 h3 h4
 simp only [Bool.or_eq_true, not_or, Bool.not_eq_true, decide_eq_true_eq] at h4
 have h5 := zej h4.1.2
 exact ⟨by omega, by omega, zk6 (by simpa using h3), ⟨h5.1, h5.2⟩, by omega⟩
def zeD (a b : OwnerS) : Int := zbu a.Player b.Player
def zci (a b : GiveS) : Int := zbu a.Player b.Player
def zcY (a b : DealS) : Int := zbu a.Id b.Id
def zcf (a b : ReplyS) : Int := orI [zdh a.At b.At, zbu a.Offer b.Offer, zbu a.Team b.Team]
theorem zpc : Cmp zeD fun _ => True := zg9 OwnerS.Player
theorem zle : Cmp zci fun _ => True := zg9 GiveS.Player
theorem zkl : Cmp zcY fun _ => True := zg9 DealS.Id
theorem ziQ : Cmp zcf fun _ => True := by
 have h := Cmp.lex (znt ReplyS.At) (Cmp.lex (zg9 ReplyS.Offer) (zg9 ReplyS.Team))
 have e : zcf = fun a b => if zdh a.At b.At ≠ 0 then zdh a.At b.At else if zbu a.Offer b.Offer ≠ 0 then zbu a.Offer b.Offer else zbu a.Team b.Team := by
  funext a b; unfold zcf; rw [zjw, zpO]
 rw [e]; exact h
def zdG : List OwnerS → Str → Int
 | [], _ => 0
 | x :: r, t => (if x.Team = t then 1 else 0) + zdG r t
theorem zpm (l : List OwnerS) (x : OwnerS) (t : Str) : zdG (l ++ [x]) t = zdG l t + (if x.Team = t then 1 else 0) := by
 induction l with
 | nil => simp [zdG]
 | cons y r ih => simp only [List.cons_append, zdG, ih]; omega
theorem znp (l : List OwnerS) (t : Str) : 0 ≤ zdG l t ∧ zdG l t ≤ l.length := by
 induction l with
 | nil => simp [zdG]
 | cons y r ih => simp only [zdG, List.length_cons]; split <;> omega
def zfd (m : MarketS) (o : List OwnerS) : Bool := m.Teams.all fun t => !(out (zdG o t) m.Least m.Most)
theorem zpp (m : MarketS) (o : List OwnerS) : (!(m.Teams.any fun t => out (zdG o t) m.Least m.Most)) = zfd m o := by
 unfold zfd; rw [List.not_any_eq_all_not]
def za8 (m : MarketS) (x : OwnerS) : Int := if !(key x.Player) then 5 else if !(m.Teams.contains x.Team) then 8 else 0
def zdA (m : MarketS) (o : List OwnerS) : Int := zaI (za8 m) zeD zbE o 0 o
def zct (m : MarketS) (o : List OwnerS) : Int := if 500 < o.length then 2 else if zdA m o ≠ 0 then zdA m o else if zfd m o then 0 else 12
def zbS (m : MarketS) (o : List OwnerS) : Int := if zad m ≠ 0 then zad m else zct m o
theorem zhE {m : MarketS} {o : List OwnerS} (h : zct m o = 0) : o.length ≤ 500 ∧ (∀ x ∈ o, za8 m x = 0) ∧ o.Pairwise (fun a b => zeD a b < 0) ∧ zfd m o = true := by
 unfold zct at h
 split at h
 ·omega
 split at h
 ·rename_i h1 h2; exact absurd h h2
 rename_i h1 h2
 have h3 : zdA m o = 0 := by simpa using h2
 split at h
 ·rename_i h4; exact ⟨by omega, zfE o 0 h3, zf0 zpc h3, h4⟩
 ·omega
theorem zhs {m : MarketS} {o : List OwnerS} (h : zbS m o = 0) : zad m = 0 ∧ zct m o = 0 := by
 unfold zbS at h; exact zhd h
def zaH (m : MarketS) (g : GiveS) : Int := if !(key g.Player) then 5 else if !(m.Teams.contains g.From) || !(m.Teams.contains g.To) then 8 else if g.From = g.To then 16 else 0
def zaR (m : MarketS) (l : List GiveS) : Int := if l.length = 0 then 8 else if 40 < l.length then 2 else zaI (zaH m) zci zdf l 0 l
theorem zdJ {m : MarketS} {l : List GiveS} (h : zaR m l = 0) : 0 < l.length ∧ l.length ≤ 40 ∧ (∀ x ∈ l, zaH m x = 0) ∧ l.Pairwise (fun a b => zci a b < 0) := by
 unfold zaR at h
 split at h
 ·omega
 split at h
 ·omega
 ·exact ⟨by omega, by omega, zfE l 0 h, zf0 zle h⟩
def zcX (l : List GiveS) : List Str := l.flatMap fun g => [g.From, g.To]
theorem zeo (l : List GiveS) : (zcX l).length = 2 * l.length := by
 induction l with
 | nil => rfl
 | cons g r ih => simp only [zcX, List.flatMap_cons, List.length_append, List.length_cons, List.length_nil] at ih ⊢; omega
theorem zjs {l : List GiveS} {k : Nat} {g : GiveS} (h : l[k]? = some g) : zcX (l.take (k + 1)) = zcX (l.take k) ++ [g.From, g.To] := by
 unfold zcX; rw [zaE h, List.flatMap_append]; simp
def zaV (l : List GiveS) : List Str := zlZ (zcX l)
theorem zdn (l : List GiveS) : (zaV l).length ≤ 2 * l.length := by
 unfold zaV zlZ
 rw [zff]
 have := zl8 (zem (zcX l)) none
 rw [zgL, zeo] at this
 exact this
def zaU (m : MarketS) (x : DealS) : Int :=
 if !(key x.Id) then 5 else if !(m.Teams.contains x.By) then 8
 else if out x.To 1 345686400000 || out x.From 0 (x.To - 1) then 1
 else if zaR m x.Gives ≠ 0 then zaR m x.Gives
 else if !((zaV x.Gives).contains x.By) then 16 else 0
theorem zgp {m : MarketS} {x : DealS} (h : zaU m x = 0) : zaR m x.Gives = 0 := by
 unfold zaU at h
 split at h
 ·omega
 split at h
 ·omega
 split at h
 ·omega
 exact (zhd (b := if !((zaV x.Gives).contains x.By) then 16 else 0) h).1
theorem zkd (f t : Int) : (decide (f < 0) || decide (t ≤ f) || decide (345686400000 < t)) = (out t 1 345686400000 || out f 0 (t - 1)) := by
 rw [Bool.eq_iff_iff]; simp [out]; omega
theorem zpH {f t : Int} (h : (f < 0 ∨ t ≤ f) ∨ 345686400000 < t) : (out t 1 345686400000 || out f 0 (t - 1)) = true := by
 rw [← zkd]; simpa using h
theorem zpY {f t : Int} (h : (0 ≤ f ∧ f < t) ∧ t ≤ 345686400000) : out t 1 345686400000 = false ∧ out f 0 (t - 1) = false := by
 have h1 : (out t 1 345686400000 || out f 0 (t - 1)) = false := by rw [← zkd]; simpa using h
 simpa using h1
def zck (m : MarketS) (l : List DealS) : Int := if 500 < l.length then 2 else zaI (zaU m) zcY zcu l 0 l
def zcb (m : MarketS) (l : List DealS) : Int := if zad m ≠ 0 then zad m else zck m l
theorem zfK {m : MarketS} {l : List DealS} (h : zck m l = 0) : l.length ≤ 500 ∧ (∀ x ∈ l, zaU m x = 0) ∧ l.Pairwise (fun a b => zcY a b < 0) := by
 unfold zck at h
 split at h
 ·omega
 ·exact ⟨by omega, zfE l 0 h, zf0 zkl h⟩
theorem znU (m : MarketS) (x : DealS) : zck m [x] = zaU m x := by
 unfold zck
 rw [if_neg (by simp), zaI]
 by_cases h : zaU m x = 0
 ·rw [if_neg (by simp [h]), if_neg (by simp), h]; rfl
 ·rw [if_pos h]
theorem zfF {m : MarketS} {l : List DealS} (h : zcb m l = 0) : zad m = 0 ∧ zck m l = 0 := by
 unfold zcb at h; exact zhd h
def zas (m : MarketS) (x : ReplyS) : Int := if !(key x.Offer) then 5 else if !(m.Teams.contains x.Team) then 8 else if !(za7 x.At) then 1 else if out x.Kind 1 4 then 4 else 0
def zc1 (m : MarketS) (a : List ReplyS) : Int := if 2000 < a.length then 2 else zaI (zas m) zcf zbU a 0 a
def zcw (m : MarketS) (a : List ReplyS) : Int := if zad m ≠ 0 then zad m else zc1 m a
theorem zmO {m : MarketS} {l : List ReplyS} (h : zc1 m l = 0) : l.length ≤ 2000 ∧ (∀ x ∈ l, zas m x = 0) ∧ l.Pairwise (fun a b => zcf a b < 0) := by
 unfold zc1 at h
 split at h
 ·omega
 ·exact ⟨by omega, zfE l 0 h, zf0 ziQ h⟩
theorem zmv {m : MarketS} {l : List ReplyS} (h : zcw m l = 0) : zad m = 0 ∧ zc1 m l = 0 := by
 unfold zcw at h; exact zhd h
def zdo (o : List OwnerS) (g : GiveS) : Option (List OwnerS) :=
 match o[o.findIdx (fun y => y.Player == g.Player)]? with
 | some y => if y.Team = g.From then some (o.set (o.findIdx (fun y => y.Player == g.Player)) ⟨y.Player, g.To⟩) else none
 | none => none
def zbw : List OwnerS → List GiveS → Option (List OwnerS)
 | o, [] => some o
 | o, g :: r => (zdo o g).bind fun p => zbw p r
theorem znQ {α : Type} {p : α → Bool} {l : List α} {i : Nat} {y : α} (hi : l[i]? = some y) (hp : p y = true) (hb : ∀ (j : Nat) (z : α), j < i → l[j]? = some z → p z = false) : l.findIdx p = i := by
 have hl := zM hi
 rw [List.getElem?_eq_getElem hl] at hi
 have e := Option.some.inj hi
 rw [List.findIdx_eq hl]
 refine ⟨by rw [e]; exact hp, fun j hj => ?_⟩
 have := hb j l[j] hj (List.getElem?_eq_getElem (by omega))
 simpa using this
theorem zmq {o : List OwnerS} {g : GiveS} {i : Nat} {y : OwnerS} (hi : o[i]? = some y) (hp : y.Player = g.Player) (hb : ∀ (j : Nat) (z : OwnerS), j < i → o[j]? = some z → z.Player ≠ g.Player) : zdo o g = if y.Team = g.From then some (o.set i ⟨y.Player, g.To⟩) else none := by
 have h := znQ (p := fun y => y.Player == g.Player) hi (by simpa using hp) (fun j z hj hz => by simpa using hb j z hj hz)
 unfold zdo
 rw [h, hi]
theorem zn8 {o : List OwnerS} {g : GiveS} (h : ∀ y ∈ o, y.Player ≠ g.Player) : zdo o g = none := by
 unfold zdo
 rw [List.findIdx_eq_length.2 (fun y hy => by simpa using h y hy), List.getElem?_eq_none (Nat.le_refl _)]
theorem zkw {o : List OwnerS} {i : Nat} {y : OwnerS} {t : Str} (hi : o[i]? = some y) : (o.set i ⟨y.Player, t⟩).map (·.Player) = o.map (·.Player) := by
 rw [List.map_set]
 refine List.ext_getElem? fun j => ?_
 by_cases e : i = j
 ·subst e
  have hl := zM hi
  rw [List.getElem?_set_self (by simpa using hl), List.getElem?_map, hi]; rfl
 ·rw [List.getElem?_set_ne e]
theorem zkn {o : List OwnerS} (h : o.Pairwise fun a b => zeD a b < 0) : SortedS (o.map (·.Player)) :=
 List.pairwise_map.2 (h.imp fun {a b} hab => by
  rcases zcJ a.Player b.Player with q | q | q
  ·exact q
  ·exfalso; unfold zeD at hab; rw [zfJ.2 q] at hab; omega
  ·exfalso
   have h1 : zbu b.Player a.Player ≤ 0 := zgd.2 (zbN q)
   have h2 := zeV a.Player b.Player
   unfold zeD at hab
   have h3 : ¬ zbu a.Player b.Player ≤ 0 := fun e => by
    have := zgd.1 e; rw [q] at this; cases this
   omega)
/-- The one that a search finds. -/
theorem zrc {l : List Str} {s : Str} (hs : SortedS l) (h : l.contains s = true) : l[zdS l s]? = some s ∧ ∀ (j : Nat) (z : Str), j < zdS l s → l[j]? = some z → z ≠ s := by
 obtain ⟨k, hk, e⟩ := List.getElem_of_mem (by simpa using h)
 have hk' : l[k]? = some s := by rw [List.getElem?_eq_getElem hk, e]
 have hp : zdS l s = k := zkD (by omega) (fun j x hj hx => hs.get hj hx hk') (fun j x hj hx => by
  rcases Nat.lt_or_eq_of_le hj with q | q
  ·exact zbN (hs.get q hk' hx)
  ·subst q; rw [hk'] at hx; cases hx; exact zbf _)
 rw [hp]
 refine ⟨hk', fun j z hj hz e2 => ?_⟩
 have := hs.get hj hz hk'
 rw [e2, zbf] at this; cases this
/-! as a walk tells it -/
section
variable {α : Type} {f : α → Int} {c : α → α → Int} {d : α} {l r : List α} {k : Nat} {x : α} {e : Int}
theorem zhq (hg : zaI f c d l 0 l = zaI f c d l k (x :: r)) (he : e ≠ 0) (hf : f x = e) : zaI f c d l 0 l = e := by
 rw [hg, zov (by rw [hf]; exact he), hf]
theorem zhW (hg : zaI f c d l 0 l = zaI f c d l k (x :: r)) (hf : f x = 0) (h0 : 0 < k) (h : c x (l.getD (k - 1) d) ≤ 0) : zaI f c d l 0 l = 7 := by
 rw [hg, zoC hf h0 h]
theorem zkZ {a b : Str} : (Op.bytesLess a b || a == b) = true ↔ zbu a b ≤ 0 := by rw [zmp, decide_eq_true_iff]
theorem zob {a b : Str} (h : (Op.bytesLess a b || a == b) = false) : ¬ zbu a b ≤ 0 := by rwa [zmp, decide_eq_false_iff_not] at h
end
theorem zbp {m : MarketS} {o r : List OwnerS} {k : Nat} {x : OwnerS} {e : Int} (hl : ¬ 500 < o.length) (hg : zdA m o = zaI (za8 m) zeD zbE o k (x :: r)) (he : e ≠ 0) (hf : za8 m x = e) : e = zct m o := by
 have h : zdA m o = e := zhq hg he hf
 rw [zct, if_neg hl, h, if_pos he]
theorem zc3 {m : MarketS} {o r : List OwnerS} {k : Nat} {x : OwnerS} (hl : ¬ 500 < o.length) (hg : zdA m o = zaI (za8 m) zeD zbE o k (x :: r)) (hf : za8 m x = 0) (h0 : 0 < k) (h : (Op.bytesLess x.Player (o.getD (k - 1) zbE).Player || x.Player == (o.getD (k - 1) zbE).Player) = true) : 7 = zct m o := by
 have h : zdA m o = 7 := zhW hg hf h0 (zkZ.1 h)
 rw [zct, if_neg hl, h]; rfl
theorem zmC {m : MarketS} {o r : List OwnerS} {k : Nat} {x : OwnerS} (hf : za8 m x = 0) (h : 0 < k → (Op.bytesLess x.Player (o.getD (k - 1) zbE).Player || x.Player == (o.getD (k - 1) zbE).Player) = false) : zaI (za8 m) zeD zbE o k (x :: r) = zaI (za8 m) zeD zbE o (k + 1) r :=
 zhH hf fun h0 => zob (h h0)
theorem zc7 {m : MarketS} {o : List OwnerS} (h : 500 < o.length) : 2 = zct m o := by rw [zct, if_pos h]
theorem zc4 {m : MarketS} {o : List OwnerS} (hl : ¬ 500 < o.length) (hg : zdA m o = 0) : (if zfd m o then 0 else 12) = zct m o := by
 have h : ¬ zdA m o ≠ 0 := by simp [hg]
 rw [zct, if_neg hl, if_neg h]
theorem zaN {m : MarketS} {l r : List GiveS} {k : Nat} {x : GiveS} {e : Int} (h0 : ¬ l.length = 0) (hl : ¬ 40 < l.length) (hg : zaI (zaH m) zci zdf l 0 l = zaI (zaH m) zci zdf l k (x :: r)) (he : e ≠ 0) (hf : zaH m x = e) : e = zaR m l := by
 rw [zaR, if_neg h0, if_neg hl, zhq hg he hf]
theorem zcL {m : MarketS} {l r : List GiveS} {k : Nat} {x : GiveS} (h0 : ¬ l.length = 0) (hl : ¬ 40 < l.length) (hg : zaI (zaH m) zci zdf l 0 l = zaI (zaH m) zci zdf l k (x :: r)) (hf : zaH m x = 0) (hk : 0 < k) (h : (Op.bytesLess x.Player (l.getD (k - 1) zdf).Player || x.Player == (l.getD (k - 1) zdf).Player) = true) : 7 = zaR m l := by
 rw [zaR, if_neg h0, if_neg hl, zhW hg hf hk (zkZ.1 h)]
theorem zl5 {m : MarketS} {l r : List GiveS} {k : Nat} {x : GiveS} (hf : zaH m x = 0) (h : 0 < k → (Op.bytesLess x.Player (l.getD (k - 1) zdf).Player || x.Player == (l.getD (k - 1) zdf).Player) = false) : zaI (zaH m) zci zdf l k (x :: r) = zaI (zaH m) zci zdf l (k + 1) r :=
 zhH hf fun h0 => zob (h h0)
theorem zcS {m : MarketS} {l : List GiveS} (h0 : ¬ l.length = 0) (hl : ¬ 40 < l.length) (hg : zaI (zaH m) zci zdf l 0 l = 0) : 0 = zaR m l := by
 rw [zaR, if_neg h0, if_neg hl, hg]
theorem zby {m : MarketS} {l r : List DealS} {k : Nat} {x : DealS} {e : Int} (hl : ¬ 500 < l.length) (hg : zaI (zaU m) zcY zcu l 0 l = zaI (zaU m) zcY zcu l k (x :: r)) (he : e ≠ 0) (hf : zaU m x = e) : e = zck m l := by
 rw [zck, if_neg hl, zhq hg he hf]
theorem zcH {m : MarketS} {l r : List DealS} {k : Nat} {x : DealS} (hl : ¬ 500 < l.length) (hg : zaI (zaU m) zcY zcu l 0 l = zaI (zaU m) zcY zcu l k (x :: r)) (hf : zaU m x = 0) (hk : 0 < k) (h : (Op.bytesLess x.Id (l.getD (k - 1) zcu).Id || x.Id == (l.getD (k - 1) zcu).Id) = true) : 7 = zck m l := by
 rw [zck, if_neg hl, zhW hg hf hk (zkZ.1 h)]
theorem zlC {m : MarketS} {l r : List DealS} {k : Nat} {x : DealS} (hf : zaU m x = 0) (h : 0 < k → (Op.bytesLess x.Id (l.getD (k - 1) zcu).Id || x.Id == (l.getD (k - 1) zcu).Id) = false) : zaI (zaU m) zcY zcu l k (x :: r) = zaI (zaU m) zcY zcu l (k + 1) r :=
 zhH hf fun h0 => zob (h h0)
theorem zcB {m : MarketS} {l : List DealS} (h : 500 < l.length) : 2 = zck m l := by rw [zck, if_pos h]
theorem zcD {m : MarketS} {l : List DealS} (hl : ¬ 500 < l.length) (hg : zaI (zaU m) zcY zcu l 0 l = 0) : 0 = zck m l := by rw [zck, if_neg hl, hg]
theorem zai {m : MarketS} {l r : List ReplyS} {k : Nat} {x : ReplyS} {e : Int} (hl : ¬ 2000 < l.length) (hg : zaI (zas m) zcf zbU l 0 l = zaI (zas m) zcf zbU l k (x :: r)) (he : e ≠ 0) (hf : zas m x = e) : e = zc1 m l := by
 rw [zc1, if_neg hl, zhq hg he hf]
theorem zcG {m : MarketS} {l r : List ReplyS} {k : Nat} {x : ReplyS} (hl : ¬ 2000 < l.length) (hg : zaI (zas m) zcf zbU l 0 l = zaI (zas m) zcf zbU l k (x :: r)) (hf : zas m x = 0) (hk : 0 < k) (h : zcf x (l.getD (k - 1) zbU) ≤ 0) : 7 = zc1 m l := by
 rw [zc1, if_neg hl, zhW hg hf hk h]
theorem zmy {m : MarketS} {l r : List ReplyS} {k : Nat} {x : ReplyS} (hf : zas m x = 0) (h : 0 < k → ¬ zcf x (l.getD (k - 1) zbU) ≤ 0) : zaI (zas m) zcf zbU l k (x :: r) = zaI (zas m) zcf zbU l (k + 1) r :=
 zhH hf h
theorem zcF {m : MarketS} {l : List ReplyS} (h : 2000 < l.length) : 2 = zc1 m l := by rw [zc1, if_pos h]
theorem zcC {m : MarketS} {l : List ReplyS} (hl : ¬ 2000 < l.length) (hg : zaI (zas m) zcf zbU l 0 l = 0) : 0 = zc1 m l := by rw [zc1, if_neg hl, hg]
theorem zfG {x y : ReplyS} : 0 ≤ zcf x y ↔ zcf y x ≤ 0 := by
 have h1 := ziQ.flip x y trivial trivial
 have h2 := ziQ.flip y x trivial trivial
 omega
/-- Loops that count. -/
theorem zjA (o : List OwnerS) (t : Str) (k : Nat) (x : OwnerS) (hx : o[k]? = some x) : zdG (o.take (k + 1)) t = zdG (o.take k) t + (if x.Team = t then 1 else 0) := by
 rw [zaE hx, zpm]
/-! an zqL that is looked for -/
theorem znd {a b : Str} : zbu a b < 0 ↔ Op.bytesLess a b = true := by
 have h1 := zeV a b
 constructor
 ·intro h
  rcases zcJ a b with q | q | q
  ·exact q
  ·rw [zfJ.2 q] at h; omega
  ·have := zgd.2 (zbN q); omega
 ·intro h
  have h2 : ¬ zbu a b = 0 := fun e => by rw [zfJ.1 e, zbf] at h; cases h
  have h3 := zgd.2 (zbN h)
  omega
theorem zo6 {l : List OwnerS} {s : Str} {i : Nat} : (bif decide ((i : Int) < (l.length : Int)) then zbu (l.getD i zbE).Player s == 0 else false) = ((l.map (·.Player))[i]? == some s) := by
 by_cases h : i < l.length
 ·have h' : (i : Int) < (l.length : Int) := by omega
  rw [List.getElem?_map, getD_some (d := zbE) h]
  simp only [h', decide_true, cond_true]
  rw [Bool.eq_iff_iff]; simp [zfJ]
 ·have h' : ¬ (i : Int) < (l.length : Int) := by omega
  rw [List.getElem?_map, List.getElem?_eq_none (by omega : l.length ≤ i)]
  simp [h']
theorem ziw {o : List OwnerS} {s : Str} (hs : SortedS (o.map (·.Player))) (h : (o.map (·.Player)).contains s = true) :
 zdS (o.map (·.Player)) s < o.length ∧ o[zdS (o.map (·.Player)) s]? = some (o.getD (zdS (o.map (·.Player)) s) zbE) ∧ (o.getD (zdS (o.map (·.Player)) s) zbE).Player = s ∧ ∀ (j : Nat) (z : OwnerS), j < zdS (o.map (·.Player)) s → o[j]? = some z → z.Player ≠ s := by
 obtain ⟨h1, h2⟩ := zrc hs h
 have hl : zdS (o.map (·.Player)) s < o.length := by simpa using zM h1
 have hg := getD_some (d := zbE) hl
 refine ⟨hl, hg, ?_, fun j z hj hz => h2 j z.Player hj (by rw [List.getElem?_map, hz]; rfl)⟩
 rw [List.getElem?_map, hg] at h1
 simpa using h1
theorem zoH {o : List OwnerS} {s : Str} (h : (o.map (·.Player)).contains s = false) : ∀ y ∈ o, y.Player ≠ s := fun y hy e => by
 have : (o.map (·.Player)).contains s = true := by
  simp only [List.contains_eq_mem, decide_eq_true_eq]
  exact List.mem_map.2 ⟨y, hy, e⟩
 rw [h] at this; cases this
theorem zgb {o : List OwnerS} {s : Str} (h : 0 ≤ za4 (fun y : OwnerS => y.Player == s) o 0) :
 ∃ i : Nat, za4 (fun y : OwnerS => y.Player == s) o 0 = (i : Int) ∧ i < o.length ∧ o[i]? = some (o.getD i zbE) ∧ (o.getD i zbE).Player = s ∧ ∀ (j : Nat) (z : OwnerS), j < i → o[j]? = some z → z.Player ≠ s := by
 obtain ⟨i, h1, h2, ⟨z, h3, h4⟩, h5⟩ := zhL (fun y : OwnerS => y.Player == s) o 0 (by omega) (by omega)
 rw [Int.zero_add] at h1
 have h6 := getD_some (d := zbE) h2
 refine ⟨i, h1, h2, h6, ?_, fun j z hj hz => by simpa using h5 z (List.mem_of_getElem? (by rw [List.getElem?_take_of_lt hj]; exact hz))⟩
 rw [h6] at h3
 rw [Option.some.inj h3]; simpa using h4
theorem zjM {o : List OwnerS} {s : Str} (h : za4 (fun y : OwnerS => y.Player == s) o 0 < 0) : ∀ y ∈ o, y.Player ≠ s := fun y hy e => by
 have h1 := zg3 (fun y : OwnerS => y.Player == s) o 0 (by omega)
 have h2 : o.any (fun y : OwnerS => y.Player == s) = true := List.any_eq_true.2 ⟨y, hy, by simpa using e⟩
 rw [h2] at h1
 have := of_decide_eq_true h1; omega
/-! what an offer does, step by step -/
theorem zlK {o D : List OwnerS} {g : GiveS} {r l : List GiveS} {i : Nat} {y : OwnerS} (hg : zbw o l = zbw D (g :: r)) (hi : D[i]? = some y) (hp : y.Player = g.Player) (hb : ∀ (j : Nat) (z : OwnerS), j < i → D[j]? = some z → z.Player ≠ g.Player) (ht : y.Team = g.From) : zbw o l = zbw (D.set i ⟨y.Player, g.To⟩) r := by
 rw [hg, zbw, zmq hi hp hb, if_pos ht]; rfl
theorem zfg {o D : List OwnerS} {g : GiveS} {r l : List GiveS} {i : Nat} {y : OwnerS} (hg : zbw o l = zbw D (g :: r)) (hi : D[i]? = some y) (hp : y.Player = g.Player) (hb : ∀ (j : Nat) (z : OwnerS), j < i → D[j]? = some z → z.Player ≠ g.Player) (ht : ¬ y.Team = g.From) : zbw o l = none := by
 rw [hg, zbw, zmq hi hp hb, if_neg ht]; rfl
theorem zfM {o D : List OwnerS} {g : GiveS} {r l : List GiveS} (hg : zbw o l = zbw D (g :: r)) (h : ∀ y ∈ D, y.Player ≠ g.Player) : zbw o l = none := by
 rw [hg, zbw, zn8 h]; rfl
def zb8 (o : List OwnerS) (l : List GiveS) : List OwnerS := (zbw o l).getD []
def zb1 (m : MarketS) (o : List OwnerS) (l : List GiveS) : Bool := match zbw o l with | some d => zfd m d | none => false
theorem zeZ {m : MarketS} {o : List OwnerS} {l : List GiveS} (h : zbw o l = none) : zb1 m o l = false ∧ zb8 o l = [] := by
 unfold zb1 zb8; rw [h]; exact ⟨rfl, rfl⟩
theorem zid {m : MarketS} {o d : List OwnerS} {l : List GiveS} (h : zbw o l = some d) : zb1 m o l = zfd m d ∧ zb8 o l = d := by
 unfold zb1 zb8; rw [h]; exact ⟨rfl, rfl⟩
def zdd (m : MarketS) (o : List OwnerS) (x : DealS) : Int := orI [zbS m o, zcb m [x]]
def zi0 (m : MarketS) (o : List OwnerS) (x : DealS) : List OwnerS := if zdd m o x ≠ 0 then [] else if zb1 m o x.Gives then zb8 o x.Gives else []
def ziF (m : MarketS) (o : List OwnerS) (x : DealS) : Int := if zdd m o x ≠ 0 then zdd m o x else if zb1 m o x.Gives then 0 else 11
theorem zpr {a b : Int} (h : orI [a, b] = 0) : a = 0 ∧ b = 0 := by rw [zpO] at h; exact zhd h
theorem zqj {m : MarketS} {x : DealS} (h : zcb m [x] = 0) : zad m = 0 ∧ x.Gives.length ≤ 40 := by
 obtain ⟨h1, h2⟩ := zfF h
 obtain ⟨_, h3, _⟩ := zfK h2
 obtain ⟨_, h4, _⟩ := zdJ (zgp (h3 x (by simp)))
 exact ⟨h1, h4⟩
theorem zqc {m : MarketS} {o : List OwnerS} {x : DealS} (h : zdd m o x = 0) : SortedS (o.map (·.Player)) ∧ x.Gives.length ≤ 40 := by
 obtain ⟨h1, h2⟩ := zpr h
 obtain ⟨_, h3⟩ := zhs h1
 exact ⟨zkn (zhE h3).2.2.1, (zqj h2).2⟩
theorem zjR {m : MarketS} {o : List OwnerS} {x : DealS} (h : zdd m o x ≠ 0) : zi0 m o x = [] ∧ ziF m o x = zdd m o x := by
 unfold zi0 ziF; rw [if_pos h, if_pos h]; exact ⟨rfl, rfl⟩
theorem zk8 {m : MarketS} {o : List OwnerS} {x : DealS} (h : zdd m o x = 0) (hb : zb1 m o x.Gives = false) : zi0 m o x = [] ∧ ziF m o x = 11 := by
 have h1 : ¬ zdd m o x ≠ 0 := by simp [h]
 unfold zi0 ziF; rw [if_neg h1, if_neg h1, hb]; exact ⟨rfl, rfl⟩
theorem zgk {m : MarketS} {o : List OwnerS} {x : DealS} (h : zdd m o x = 0) (hb : zb1 m o x.Gives = true) : zi0 m o x = zb8 o x.Gives ∧ ziF m o x = 0 := by
 have h1 : ¬ zdd m o x ≠ 0 := by simp [h]
 unfold zi0 ziF; rw [if_neg h1, if_neg h1, hb]; exact ⟨rfl, rfl⟩
def zj2 (m : MarketS) (o : List OwnerS) (l : List GiveS) : List OwnerS := if zb1 m o l then zb8 o l else []
theorem zfu {m : MarketS} {o : List OwnerS} {l : List GiveS} (h : zb1 m o l = false) : zj2 m o l = [] := by unfold zj2; rw [h]; rfl
theorem zgR {m : MarketS} {o : List OwnerS} {l : List GiveS} (h : zb1 m o l = true) : zj2 m o l = zb8 o l := by unfold zj2; rw [h]; rfl
end
section

end
section
structure Hall where
 Teams : List Str
 Players : List Str
 Budget : Int
 Places : Int
structure Sale where
 Player : Str
 Team : Str
 Price : Int
def zho : List Sale → Str → Int
 | [], _ => 0
 | x :: r, t => (if x.Team = t then x.Price else 0) + zho r t
def zgn : List Sale → Str → Int
 | [], _ => 0
 | x :: r, t => (if x.Team = t then 1 else 0) + zgn r t
theorem zon (l : List Sale) (x : Sale) (t : Str) : zho (l ++ [x]) t = zho l t + (if x.Team = t then x.Price else 0) := by
 induction l with
 | nil => simp [zho]
 | cons y r ih => simp only [List.cons_append, zho, ih]; omega
theorem zpl (l : List Sale) (x : Sale) (t : Str) : zgn (l ++ [x]) t = zgn l t + (if x.Team = t then 1 else 0) := by
 induction l with
 | nil => simp [zgn]
 | cons y r ih => simp only [List.cons_append, zgn, ih]; omega
abbrev zc9 := List (Str × HVal)
def lkI (L : zc9) (t : Str) : HVal := match zaK t L with | some p => p.2 | none => .int .i64 0
theorem zfX {s t : Str} {v : HVal} : ∀ {L : zc9}, zaK s L = none → zaK t (L ++ [(s, v)]) = if t = s then some (L.length, v) else zaK t L
 | [], _ => by by_cases h : t = s <;> simp [zaK, h]
 | (k, h) :: r, hn => by
   simp only [zaK] at hn
   by_cases hk : s = k
   ·rw [if_pos hk] at hn; cases hn
   ·rw [if_neg hk] at hn
    have hr : zaK s r = none := by cases hq : zaK s r with
     | none => rfl
     | some p => rw [hq] at hn; cases hn
    have ih := zfX (t := t) (v := v) hr
    simp only [List.cons_append, zaK]
    by_cases ht : t = k
    ·have : ¬ t = s := fun e => hk (e ▸ ht)
     rw [if_pos ht, if_neg this, if_pos ht]
    ·rw [if_neg ht, ih]
     by_cases hs : t = s
     ·rw [if_pos hs, if_pos hs]; simp
     ·rw [if_neg hs, if_neg hs, if_neg ht]
theorem zlA {s t : Str} {v : HVal} : ∀ {L : zc9} {j : Nat} {h : HVal}, zaK s L = some (j, h) → (zaK t (L.set j (s, v))) = if t = s then some (j, v) else zaK t L
 | [], j, h, hh => by simp [zaK] at hh
 | (k, x) :: r, j, h, hh => by
   simp only [zaK] at hh
   by_cases hk : s = k
   ·rw [if_pos hk] at hh
    simp only [Option.some.injEq, Prod.mk.injEq] at hh
    obtain ⟨rfl, rfl⟩ := hh
    subst hk
    simp only [List.set_cons_zero, zaK]
    by_cases ht : t = s
    ·rw [if_pos ht, if_pos ht]
    ·rw [if_neg ht, if_neg ht, if_neg ht]
   ·rw [if_neg hk] at hh
    cases hq : zaK s r with
    | none => rw [hq] at hh; cases hh
    | some p =>
      rw [hq] at hh
      simp only [Option.map_some, Option.some.injEq, Prod.mk.injEq] at hh
      obtain ⟨rfl, rfl⟩ := hh
      have ih := zlA (t := t) (v := v) (L := r) (j := p.1) (h := p.2) (by rw [hq])
      simp only [List.set_cons_succ, zaK]
      by_cases ht : t = k
      ·have : ¬ t = s := fun e => hk (e ▸ ht)
       rw [if_pos ht, if_neg this, if_pos ht]
      ·rw [if_neg ht, ih, if_neg ht]
       by_cases hs : t = s
       ·rw [if_pos hs, if_pos hs]; rfl
       ·rw [if_neg hs, if_neg hs]
theorem zlE (s t : Str) (v : HVal) (L : zc9) : (zaK t (zdO s v L)).map (·.2) = if t = s then some v else (zaK t L).map (·.2) := by
 unfold zdO
 cases hq : zaK s L with
 | none => simp only []; rw [zfX hq]; split <;> rfl
 | some p => obtain ⟨j, h⟩ := p; simp only []; rw [zlA hq]; split <;> rfl
theorem zoM (L : zc9) (t : Str) : lkI L t = ((zaK t L).map (·.2)).getD (.int .i64 0) := by
 unfold lkI; cases zaK t L <;> rfl
theorem zk0 (s t : Str) (v : HVal) (L : zc9) : lkI (zdO s v L) t = if t = s then v else lkI L t := by
 rw [zoM, zlE, zoM]; split <;> rfl
theorem zkF (L : zc9) (t : Str) : (zaK t L).isSome = ((zaK t L).map (·.2)).isSome := by cases zaK t L <;> rfl
/-- An auction after sales. -/
structure AucOk (h : Hall) (l : List Sale) (S : List Str) (L H : zc9) : Prop where
 sold : ∀ s, S.contains s = l.any (fun y => y.Player == s)
 left : ∀ t, h.Teams.contains t = true → lkI L t = .int .i64 (h.Budget - zho l t)
 got : ∀ t, lkI H t = .int .i64 (zgn l t)
theorem zlY (s t : Str) (l : List Str) : (zaX s l).contains t = (l.contains t || s == t) := by
 unfold zaX
 by_cases hc : l.contains s = true
 ·rw [if_pos hc]
  by_cases h : s = t
  ·subst h; rw [hc]; simp
  ·have : (s == t) = false := by simpa using h
   simp [this]
 ·rw [if_neg hc, List.contains_eq_any_beq, List.any_append, ← List.contains_eq_any_beq]
  congr 1
  simp only [List.any_cons, List.any_nil, Bool.or_false]
  rw [Bool.eq_iff_iff, beq_iff_eq, beq_iff_eq]; exact eq_comm
theorem AucOk.add {h : Hall} {l : List Sale} {S : List Str} {L H : zc9} (ok : AucOk h l S L H) (x : Sale) (hx : h.Teams.contains x.Team = true) :
 AucOk h (l ++ [x]) (zaX x.Player S) (zdO x.Team (.int .i64 (h.Budget - zho l x.Team - x.Price)) L) (zdO x.Team (.int .i64 (zgn l x.Team + 1)) H) where
 sold s := by rw [zlY, ok.sold, List.any_append]; simp
 left t ht := by
  rw [zk0, zon]
  by_cases e : t = x.Team
  ·subst e; rw [if_pos rfl, if_pos rfl]; congr 1; omega
  ·rw [if_neg e, if_neg (fun q => e q.symm), ok.left t ht]; congr 1; omega
 got t := by
  rw [zk0, zpl]
  by_cases e : t = x.Team
  ·subst e; rw [if_pos rfl, if_pos rfl]
  ·rw [if_neg e, if_neg (fun q => e q.symm), ok.got t]; congr 1; omega
end
section
/-! numbers in decimal -/
def dig (c : UInt8) : Bool := decide (48 ≤ c.toNat) && decide (c.toNat ≤ 57)
def zfs (s : Str) : Str := match s with | 45 :: r => r | _ => s
def numC (s : Str) (n : Int) : Bool := decide ((zfs s = [] ∨ n < ((zfs s).length : Int)) ∨ ((((zfs s).head?).getD 0).toNat : Int) = 48 ∧ ((1 : Int) < ((zfs s).length : Int) ∨ (zfs s).length < s.length))
def numB (s : Str) (n : Int) : Bool := !(numC s n) && (zfs s).all dig
def numV (s : Str) : Int := (Lib.atoi s).getD 0
def zog (s : Str) (n : Int) : Int := if numB s n then numV s else 0
/-- The map of limits. -/
def LimOk (l : List PairS) (L : zc9) : Prop := ∀ t, (zaK t L).map (·.2) = (l.find? (fun p => p.Name == t)).map (fun p => .int .i64 (zog p.Val 9))
theorem LimOk.add {l : List PairS} {L : zc9} (ok : LimOk l L) (x : PairS) (hx : l.any (fun y => y.Name == x.Name) = false) : LimOk (l ++ [x]) (zdO x.Name (.int .i64 (zog x.Val 9)) L) := fun t => by
 rw [zlE, List.find?_append, ok t]
 by_cases e : t = x.Name
 ·subst e
  rw [if_pos rfl]
  have : l.find? (fun p => p.Name == x.Name) = none := by
   rw [List.find?_eq_none]; intro y hy
   have := List.any_eq_false.1 hx y hy
   simpa using this
  rw [this]; simp
 ·rw [if_neg e]
  have hn : (x.Name == t) = false := by simpa using fun q => e q.symm
  cases l.find? (fun p => p.Name == t) with
  | none => simp [List.find?, hn]
  | some p => simp
theorem LimOk.is {l : List PairS} {L : zc9} (ok : LimOk l L) (t : Str) : (zaK t L).isSome = l.any (fun y => y.Name == t) := by
 rw [zkF, ok t]
 rw [Bool.eq_iff_iff]; simp
structure Top where
 team : Str
 first : Int
 second : Int
def Top.step (q : Top) (t : Str) (n : Int) : Top := if q.first < n then ⟨t, n, q.first⟩ else ⟨q.team, q.first, max q.second n⟩
end
section
section
variable {h : Hall} {l : List Sale} {x : Sale} (h6 : x.Player ∈ h.Players ∧ x.Team ∈ h.Teams) (h8 : ∀ y ∈ l, ¬ y.Player = x.Player)
include h6 h8
end
end
section

end
section
theorem Ghost.clear [Tracks] {e : Env} : ∀ {M : List MObj}, Ghost e M e []
 | [] => Ghost.perm (List.Perm.refl _)
 | _ :: _ => Ghost.trans Ghost.drop Ghost.clear
theorem Ghost.last [Tracks] {e : Env} {m : MObj} : ∀ {R : List MObj}, Ghost e (R ++ [m]) e [m]
 | [] => Ghost.perm (List.Perm.refl _)
 | x :: R => Ghost.trans (M' := R ++ [m]) Ghost.drop Ghost.last
theorem Ghost.only [Tracks] {e : Env} {M : List MObj} {i : Nat} {m : MObj} (h : M[i]? = some m) : Ghost e M e [m] :=
 Ghost.trans (Ghost.perm ((zfe h).trans (List.perm_append_comm (l₁ := [m]) (l₂ := M.eraseIdx i)))) Ghost.last
end
section
section
variable {P : Program} {e : Env} {dst : Option Tmp} {ty : TypeId} {pos : String} {af : Array Edge} {g : Option (Nat × Bool)} {M : List MObj} {K : HVal → List MObj → Prop}
theorem zm7 [Tracks] {x y : Operand} {t kt et : TypeId} {size bytes s2 b2 s3 b3 : Nat} {zero z2 : Value} {d : TD} {i b : Nat} {ls : zc9} {s : Str} {h : HVal}
 (hf : Fits P t (.map kt et) size bytes zero) (hkt : Fits P kt .str s2 b2 z2) (het : Fits P et d s3 b3 (.int .i64 0)) (hx : zL e x = some (.raw (.map (some b)))) (hy : zL e y = some (.str s)) (hm : M[i]? = some (.map b (sk ls)))
 (hv : lkI ls s = h) (hk : K h M) : EOp P e M ⟨dst, .lookup t x y false, ty, pos, af, g⟩ K := by
 refine zhK hf hkt het hx hy hm ?_
 show K (lkI ls s) M
 rw [hv]; exact hk
end
end
section
variable {P : Program}
theorem V.hmap_inv {I : Imm} {ks vs : List HVal} {v : Value} (h : V I (.hmap ks vs) v) : ∃ b es clk, v = .map (some b) ∧ I.heap b = some (.map es clk) ∧ es.size = ks.length ∧ es.size = vs.length ∧
 (∀ (j : Nat) (c : HVal) (m : MapEntry), ks[j]? = some c → es[j]? = some m → V I c m.key) ∧ ∀ (j : Nat) (c : HVal) (m : MapEntry), vs[j]? = some c → es[j]? = some m → V I c m.val := by
 cases h with
 | hmap h1 h2 h3 h4 h5 => exact ⟨_, _, _, rfl, h1, h2, h3, h4, h5⟩
/-- A frozen map keyed by strings. -/
abbrev hsm (L : zc9) : HVal := .hmap (L.map fun p => .str p.1) (L.map (·.2))
abbrev hset (S : List (List UInt8)) : HVal := hsm (zb6 S)
theorem zoS (L : zc9) : (sk L).map (·.1) = L.map fun p => HVal.str p.1 := by simp [sk, Function.comp_def]
theorem zpn (L : zc9) : (sk L).map (·.2) = L.map (·.2) := by simp [sk, Function.comp_def]
section
variable {e : Env} {dst : Option Tmp} {ty : TypeId} {pos : String} {af : Array Edge} {g : Option (Nat × Bool)}
theorem zme [Tracks] {x y : Operand} {t kt et : TypeId} {size bytes s2 b2 s3 b3 : Nat} {zero z2 z3 : Value} {d : TD} {ls : zc9} {s : List UInt8}
 (hf : Fits P t (.map kt et) size bytes zero) (hkt : Fits P kt .str s2 b2 z2) (het : Fits P et d s3 b3 z3) (hx : zL e x = some (hsm ls)) (hy : zL e y = some (.str s)) :
 POp P e ⟨dst, .lookup t x y false, ty, pos, af, g⟩ (match zaK s ls with | some p => p.2 | none => zgN z3) :=
 POp.of_run fun I F a w ho hs => by
  obtain ⟨b, es, clk, h1, h3, h4, h4', hK, hV⟩ := (ho.one (x := x) (by simp [Op.operands]) hx).hmap_inv
  have h2 := (ho.one (x := y) (by simp [Op.operands]) hy).str_inv
  have h3 := hs.imm _ _ h3
  have h5 : ∀ (i : Nat) (p : HVal × HVal) (m : MapEntry), (sk ls)[i]? = some p → es[i]? = some m → V I p.1 m.key ∧ V I p.2 m.val := fun i p m a1 a2 => by
   refine ⟨hK i _ m ?_ a2, hV i _ m ?_ a2⟩
   ·rw [← zoS, List.getElem?_map, a1]; rfl
   ·rw [← zpn, List.getElem?_map, a1]; rfl
  obtain ⟨h6, h7⟩ := zgx (by simpa [sk] using h4) h5
  obtain ⟨n1, n2⟩ := zgK (I := I) (s := s) es.toList ls 0 h6 h7
  cases hq : zaK s ls with
  | none =>
    refine ⟨z3, w, I, ?_, .refl I, zja I z3, hs⟩
    simp only [execOp, h1, h2, Instr.lookup, Sem.run_bind, run_underlying hf.mapD, Result.andThen_ok, zdM h3, Sem.run_pure, zc2 hkt.strD, Instr.findKey, run_underlying hkt.strD, n1 hq, het.run_zero]
    simp
  | some p =>
    obtain ⟨j, h⟩ := p
    obtain ⟨v, g1, g2⟩ := n2 j h hq
    refine ⟨v, w, I, ?_, .refl I, g2, hs⟩
    simp only [execOp, h1, h2, Instr.lookup, Sem.run_bind, run_underlying hf.mapD, Result.andThen_ok, zdM h3, Sem.run_pure, zc2 hkt.strD, Instr.findKey, run_underlying hkt.strD, g1]
    simp
end
/-- h, seen as h' while it is only read; objects may hold others. -/
inductive Bow (M : List MObj) : HVal → HVal → Prop
 | weak {h h' : HVal} (hw : Weak h h') : Bow M h h'
 | arr {i : Nat} {v : Value} {sz : Nat} {es : List HVal} (hm : M[i]? = some (.arr v sz es)) : Bow M (.raw v) (.slice sz es)
 | cells {i b off : Nat} {cs cs' : List HVal} (hm : M[i]? = some (.cells b cs)) (hl : cs.length = cs'.length) (h : ∀ (j : Nat) (c c' : HVal), cs[j]? = some c → cs'[j]? = some c' → Bow M c c') : Bow M (.raw (.pointer (some ⟨b, off, none⟩))) (.vptr cs' off)
 | map {i b : Nat} {L : zc9} (hm : M[i]? = some (.map b (sk L))) : Bow M (.raw (.map (some b))) (hsm L)
 | vptr {off : Nat} {l l' : List HVal} (hl : l.length = l'.length) (h : ∀ (j : Nat) (c c' : HVal), l[j]? = some c → l'[j]? = some c' → Bow M c c') : Bow M (.vptr l off) (.vptr l' off)
 | fn {f : Fn} {c1 l l' : List HVal} (hl : l.length = l'.length) (h : ∀ (j : Nat) (c c' : HVal), l[j]? = some c → l'[j]? = some c' → Bow M c c') : Bow M (.fn f c1 l) (.fn f c1 l')
def BowL (M : List MObj) : List HVal → List HVal → Prop
 | [], [] => True
 | h :: r, h' :: r' => Bow M h h' ∧ BowL M r r'
 | _, _ => False
theorem BowL.pt {M : List MObj} : ∀ {l l' : List HVal}, BowL M l l' → l.length = l'.length ∧ ∀ (j : Nat) (c c' : HVal), l[j]? = some c → l'[j]? = some c' → Bow M c c'
 | [], [], _ => ⟨rfl, fun j c c' h => by simp at h⟩
 | h :: r, h' :: r', hb => by
   obtain ⟨h1, h2⟩ := BowL.pt hb.2
   refine ⟨by simp [h1], fun j c c' a1 a2 => ?_⟩
   cases j with
   | zero => simp at a1 a2; subst a1 a2; exact hb.1
   | succ j => exact h2 j c c' (by simpa using a1) (by simpa using a2)
 | [], _ :: _, hb => hb.elim
 | _ :: _, [], hb => hb.elim
theorem Bow.vptrL {M : List MObj} {off : Nat} {l l' : List HVal} (h : BowL M l l') : Bow M (.vptr l off) (.vptr l' off) := .vptr h.pt.1 h.pt.2
theorem Bow.fnL {M : List MObj} {f : Fn} {c1 l l' : List HVal} (h : BowL M l l') : Bow M (.fn f c1 l) (.fn f c1 l') := .fn h.pt.1 h.pt.2
theorem Bow.refl {M : List MObj} {h : HVal} : Bow M h h := .weak (Weak.refl _)
theorem V.vptr_inv' {I : Imm} {cs : List HVal} {off : Nat} {v : Value} (h : V I (.vptr cs off) v) : ∃ b base rc el fr, v = .pointer (some ⟨b, base + off, none⟩) ∧ I.heap b = some (.cells rc el fr) ∧ base + cs.length ≤ rc.size ∧
 ∀ (j : Nat) (c : HVal) (v : Value), cs[j]? = some c → rc[base + j]? = some v → V I c v := by
 cases h with
 | vptr h1 h2 h3 => exact ⟨_, _, _, _, _, rfl, h1, h2, h3⟩
theorem Bow.v [Tracks] {M : List MObj} {I : Imm} {F : List MObj} {w : World} {h h' : HVal} (hb : Bow M h h') (hs : Sat P I (M ++ F) w) : ∀ {v : Value}, V I h v → V (zcT w) h' v := by
 induction hb with
 | weak hw => intro v hv; exact hw _ _ (hv.mono hs.le_all)
 | arr hm => intro v hv; exact (Bor.arr hm).v hs hv
 | @cells i b off cs cs' hm hl _ ih =>
   intro v hv
   rw [hv.raw_inv]
   obtain ⟨rc, el, fr, h2, h3, h4⟩ := hs.obj _ (List.mem_append_left _ (List.mem_of_getElem? hm))
   have := V.vptr (I := zcT w) (cs := cs') (off := off) (base := 0) h2 (by have := h4.1; simp at this; omega) fun j c v a1 a2 => by
    have hj := zM a1
    have hj' := List.getElem?_eq_getElem (l := cs) (i := j) (by omega)
    exact ih j _ c hj' a1 (h4.2 j _ v hj' (by simpa using a2))
   rwa [Nat.zero_add] at this
 | @map i b L hm =>
   intro v hv
   rw [hv.raw_inv]
   obtain ⟨es, clk, h1, h2, h3⟩ := hs.obj _ (List.mem_append_left _ (List.mem_of_getElem? hm))
   have hn : es.size = L.length := by simpa [sk] using h2.1
   refine .hmap (I := zcT w) h1 (by simp [hn]) (by simp [hn]) (fun j c m a1 a2 => ?_) (fun j c m a1 a2 => ?_)
   ·rw [← zoS, List.getElem?_map] at a1
    cases hq : (sk L)[j]? with
    | none => rw [hq] at a1; simp at a1
    | some p => rw [hq] at a1; simp at a1; subst a1; exact ((h3 j p m hq a2).1).mono hs.le_all
   ·rw [← zpn, List.getElem?_map] at a1
    cases hq : (sk L)[j]? with
    | none => rw [hq] at a1; simp at a1
    | some p => rw [hq] at a1; simp at a1; subst a1; exact ((h3 j p m hq a2).2).mono hs.le_all
 | @vptr off l l' hl _ ih =>
   intro v hv
   obtain ⟨b, base, rc, el, fr, rfl, h1, h2, h3⟩ := hv.vptr_inv'
   refine .vptr (I := zcT w) (hs.imm _ _ h1) (by omega) fun j c u a1 a2 => ?_
   have hj := zM a1
   have hj' := List.getElem?_eq_getElem (l := l) (i := j) (by omega)
   exact ih j _ c hj' a1 (h3 j _ u hj' a2)
 | @fn f c1 l l' hl _ ih =>
   intro v hv
   cases hv with
   | fn g1 g2 g3 g4 =>
     refine .fn g1 (by omega) (fun j c u a1 a2 => (g3 j c u a1 a2).mono hs.le_all) fun j c u a1 a2 => ?_
     have hj := zM a1
     have hj' := List.getElem?_eq_getElem (l := l) (i := j) (by omega)
     exact ih j _ c hj' a1 (g4 j _ u hj' a2)
theorem BowL.vl [Tracks] {M : List MObj} {I : Imm} {F : List MObj} {w : World} (hs : Sat P I (M ++ F) w) : ∀ {hs1 hs2 : List HVal} {vs : List Value}, BowL M hs1 hs2 → VL I hs1 vs → VL (zcT w) hs2 vs
 | [], [], vs, _, h => ⟨by have := h.1; simpa using this, fun j c v h1 _ => by simp at h1⟩
 | h :: r, h' :: r', [], _, hv => by have := hv.1; simp at this
 | h :: r, h' :: r', v :: vs, hb, hv => VL.cons (hb.1.v hs hv.head) (BowL.vl hs hb.2 hv.tail)
 | [], _ :: _, _, hb, _ => hb.elim
 | _ :: _, [], _, hb, _ => hb.elim
/-- A function that changes nothing, called while objects are owned that it reads; what it yields hangs on no memory. -/
theorem zpj [Tracks] {e : Env} {dst : Option Tmp} {ty : TypeId} {pos : String} {af : Array Edge} {g : Option (Nat × Bool)} {M : List MObj} {K : HVal → List MObj → Prop} {f : FuncId} {args : Array Operand} {ats : Array TypeId} {hs hs' : List HVal} {h : HVal} (hc : Callable P f) (ha : zdq e args.toList = some hs) (hb : BowL M hs hs') (hp : zah P f hs' h)
 (hg : zfL h = true) (hk : K h M) : EOp P e M ⟨dst, .call ⟨.value (.func f), args, ats⟩, ty, pos, af, g⟩ K := fun I F a w ho hsat => by
 have hrun : (execOp a.eval ⟨dst, .call ⟨.value (.func f), args, ats⟩, ty, pos, af, g⟩).run P w = .ok (.enter f (args.toList.map a.eval).toArray) w := by
  simp [execOp, resolve, Act.eval, Deferred.ofValue, invoke, zfi hc]
  apply Array.ext'; simp
 have hv := zfr (I := I) (f := a.eval) _ _ ha fun x hx h hh => ho.one (by simp only [Op.operands, Call.operands]; exact Array.mem_append_right _ (by simpa using hx)) hh
 simp only [Oper.wp, hrun, Oper.upon]
 refine (hp (zcT w) [] w _ (hb.vl hsat hv) (by simpa using znf hsat)).mono ?_
 rintro x w' ⟨v, y, M', J, rfl, h1, ⟨rfl, rfl⟩, h3, h4⟩
 exact ⟨v, _, M, I, rfl, .refl I, hk, zmE h3 hg, hsat.back h1 h4⟩
end
end Go.HL
