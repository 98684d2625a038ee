/- Part 2 of the proof: a program logic, contracts of functions and plain facts; no conditions. -/
import Derived.Test.YtcihcbnjfclkbaaGreatDoorQRingsFound1
import Derived.Carry
import Derived.Ground.Names2Prog
import Derived.KernelRfl
import Derived.Laws.MakeOwn
import Derived.Lib.LaidTab
import Derived.Lib.SlicesCompact
import Derived.OpenShut
import Derived.Shelf.SlSortCmp.Insertion
import Derived.Shelf.Slices.CompactS
import Derived.Shelf.Slices.Delete
import Derived.Shelf.Sort.Plain
import Derived.Shelf.Strconv.Atoi
import Derived.Shelf.Strconv.Itoa3
import Derived.Shelf.Strings.Prefix
import Derived.Sort.EncStr
import Derived.Sort.Grow
import Derived.Test.YtcihcbnjfclkbaaGreatDoorProg
import Derived.WideKeyRuns
import GoSem.ClaimJoined
set_option linter.unusedVariables false
set_option linter.unusedSimpArgs false
namespace Go.Proofs.YtcihcbnjfclkbaaGreatDoor
set_option maxRecDepth 100000
set_option linter.unusedVariables false
set_option linter.unusedSimpArgs false
section
open Go.HL
/-- cmp.isNaN[int] -/
theorem zgd [Tracks] {n : Int}  : zaa Tryz.prog 181 [.int .i64 n] (.bool false) := by
 refine Con.of_body Tryz.func181 rfl Tryz.ntmps181 rfl rfl ?_
 refine zb ?_
 refine das rfl ?_
 refine dn ?_
 refine zb ?_
 refine dmv rfl ?_
 refine dmv rfl ?_
 refine dq (za6 rfl rfl) ?_
 refine das rfl ?_
 refine dn ?_
 refine zo ?_
 refine zC rfl ?_
 simp

/-- cmp.isNaN[string] -/
theorem ze6 [Tracks] {s : Str}  : zaa Tryz.prog 164 [.str s] (.bool false) := by
 refine Con.of_body Tryz.func164 rfl Tryz.ntmps164 rfl rfl ?_
 refine zb ?_
 refine das rfl ?_
 refine dn ?_
 refine zb ?_
 refine dmv rfl ?_
 refine dmv rfl ?_
 refine dq (zeQ rfl rfl) ?_
 refine das rfl ?_
 refine dn ?_
 refine zo ?_
 refine zC rfl ?_
 simp

/-- slices.isNaN[string] -/
theorem zek [Tracks] {s : Str}  : zaa Tryz.prog 174 [.str s] (.bool false) := by
 refine Con.of_body Tryz.func174 rfl Tryz.ntmps174 rfl rfl ?_
 refine zb ?_
 refine das rfl ?_
 refine dn ?_
 refine zb ?_
 refine dmv rfl ?_
 refine dmv rfl ?_
 refine dq (zeQ rfl rfl) ?_
 refine das rfl ?_
 refine dn ?_
 refine zo ?_
 refine zC rfl ?_
 simp

/-- cmp.Compare[int] -/
theorem zir [Tracks] {a b : Int}  : zaa Tryz.prog 146 [.int .i64 a, .int .i64 b] (.int .i64 (zgs a b)) := by
 refine Con.of_body Tryz.func146 rfl Tryz.ntmps146 rfl rfl ?_
 refine zb ?_
 refine das rfl ?_
 refine dn ?_
 refine zb ?_
 refine dmv rfl ?_
 refine dq (zw zqt rfl (WeakL.refl _) zgd) ?_
 refine das rfl ?_
 refine dn ?_
 refine zb ?_
 refine dmv rfl ?_
 refine dq (zw zqt rfl (WeakL.refl _) zgd) ?_
 refine das rfl ?_
 refine dn ?_
 refine zf ?_
 refine zb ?_
 refine dmv rfl ?_
 refine dn ?_
 refine zcJ rfl ?_
 refine zk ?_
 refine ze ?_
 refine zf ?_
 refine zb ?_
 refine dmv rfl ?_
 refine dn ?_
 refine zcJ rfl ?_
 refine zk ?_
 refine ze ?_
 refine zf ?_
 refine zb ?_
 refine dmv rfl ?_
 refine dmv rfl ?_
 refine dq (zJ rfl rfl) ?_
 refine dn ?_
 refine zj rfl (fun h1 => ?_) (fun h2 => ?_)
 ·try simp at h1
  refine zb ?_
  refine das rfl ?_
  refine dn ?_
  refine zo ?_
  refine zC rfl ?_
  show HVal.int .i64 _ = _
  unfold zgs; (repeat' split) <;> first | rfl | omega
 ·try simp at h2
  refine zk ?_
  refine ze ?_
  refine zf ?_
  refine zb ?_
  refine dmv rfl ?_
  refine dmv rfl ?_
  refine dq (zax rfl rfl) ?_
  refine dn ?_
  refine zj rfl (fun h3 => ?_) (fun h4 => ?_)
  ·try simp at h3
   refine zb ?_
   refine das rfl ?_
   refine dn ?_
   refine zo ?_
   refine zC rfl ?_
   show HVal.int .i64 _ = _
   unfold zgs; (repeat' split) <;> first | rfl | omega
  ·try simp at h4
   refine zk ?_
   refine ze ?_
   refine zb ?_
   refine das rfl ?_
   refine dn ?_
   refine zo ?_
   refine zC rfl ?_
   show HVal.int .i64 _ = _
   unfold zgs; (repeat' split) <;> first | rfl | omega

/-- cmp.Or[int] -/
theorem zrs [Tracks] {l : List Int} (hl : l.length ≤ 1000000) : zaa Tryz.prog 153 [eIs l] (.int .i64 (orI l)) := by
 refine Con.of_body Tryz.func153 rfl Tryz.ntmps153 rfl rfl ?_
 refine zb ?_
 refine das rfl ?_
 refine dn ?_
 refine zb ?_
 refine das rfl ?_
 refine dn ?_
 refine zf ?_
 refine zb ?_
 refine dmv rfl ?_
 refine dq (zB zR rfl) ?_
 refine dmv rfl ?_
 refine dn ?_
 refine zm ?_
 refine z8 [2, 5, 8, 9, 10, 11, 12, 13, 14, 15, 16] (fun (k : Nat) => [(8, .int .i64 k)]) (fun (k : Nat) => []) (fun (k : Nat) => k ≤ l.length ∧ (orI l = orI (l.drop k))) (fun (k : Nat) => l.length - k) (0) ?_ ?_ ?_ ?_
 ·exact ⟨Nat.zero_le _, by simp_all⟩
 ·exact ⟨rfl, trivial⟩
 ·exact List.Perm.refl _
 ·intro k hinv
  obtain ⟨hk, hg⟩ := hinv
  refine zb ?_
  refine dq (zJ rfl rfl) ?_
  refine dn ?_
  refine zf ?_
  refine zj rfl (fun h1 => ?_) (fun h2 => ?_)
  ·try simp at h1
   obtain ⟨x, hx⟩ : ∃ x, l[k]? = some x := ⟨_, List.getElem?_eq_getElem h1⟩
   have hdx := zK hx
   rw [hdx] at hg
   refine zk ?_
   refine ze ?_
   refine zf ?_
   refine zm ?_
   refine zb ?_
   refine dq (zH zR ty3 rfl rfl rfl (by assumption)) ?_
   refine dq (zi ty3 rfl rfl rfl) ?_
   refine das rfl ?_
   refine dn ?_
   refine zb ?_
   refine dmv rfl ?_
   refine dmv rfl ?_
   refine dq (za6 rfl rfl) ?_
   refine dn ?_
   refine zj rfl (fun h3 => ?_) (fun h4 => ?_)
   ·try simp at h3
    refine zb ?_
    refine dmv rfl ?_
    refine das rfl ?_
    refine dn ?_
    refine zo ?_
    refine zC rfl ?_
    show HVal.int .i64 _ = _
    rw [hg]; simp_all [orI]
   ·try simp at h4
    refine zk ?_
    refine zz ?_
    refine ze ?_
    refine zy ?_
    refine dq (zv rfl rfl (by omega) (by omega)) ?_
    refine dmv rfl ?_
    refine dn ?_
    refine ⟨k + 1, ?_, ?_, ⟨rfl, trivial⟩, (by repeat (first | exact zp | refine zu rfl ?_ | refine zq rfl rfl ?_)), List.Perm.refl _⟩
    ·refine ⟨by omega, ?_⟩
     rw [hg]; simp_all [orI]
    ·dsimp only; omega
  ·try simp at h2
   have hnk : l.length ≤ k := by omega
   obtain rfl : k = l.length := by omega
   rw [z6 (Nat.le_refl _)] at hg
   refine zN ?_
   refine zS ?_
   refine zag ?_
   refine zE ?_
   refine ze ?_
   refine zb ?_
   refine dmv rfl ?_
   refine das rfl ?_
   refine dn ?_
   refine zo ?_
   refine zC rfl ?_
   show HVal.int .i64 _ = _
   rw [hg]; simp_all [orI]

/-- cmp.Or[benchwarmer/api.Errno] -/
theorem zhC [Tracks] {l : List Int} (hl : l.length ≤ 1000000) : zaa Tryz.prog 9 [eIs l] (.int .i64 (orI l)) := by
 refine Con.of_body Tryz.func9 rfl Tryz.ntmps9 rfl rfl ?_
 refine zb ?_
 refine das rfl ?_
 refine dn ?_
 refine zb ?_
 refine das rfl ?_
 refine dn ?_
 refine zf ?_
 refine zb ?_
 refine dmv rfl ?_
 refine dq (zB zkI rfl) ?_
 refine dmv rfl ?_
 refine dn ?_
 refine zm ?_
 refine z8 [2, 5, 8, 9, 10, 11, 12, 13, 14, 15, 16] (fun (k : Nat) => [(8, .int .i64 k)]) (fun (k : Nat) => []) (fun (k : Nat) => k ≤ l.length ∧ (orI l = orI (l.drop k))) (fun (k : Nat) => l.length - k) (0) ?_ ?_ ?_ ?_
 ·exact ⟨Nat.zero_le _, by simp_all⟩
 ·exact ⟨rfl, trivial⟩
 ·exact List.Perm.refl _
 ·intro k hinv
  obtain ⟨hk, hg⟩ := hinv
  refine zb ?_
  refine dq (zJ rfl rfl) ?_
  refine dn ?_
  refine zf ?_
  refine zj rfl (fun h1 => ?_) (fun h2 => ?_)
  ·try simp at h1
   obtain ⟨x, hx⟩ : ∃ x, l[k]? = some x := ⟨_, List.getElem?_eq_getElem h1⟩
   have hdx := zK hx
   rw [hdx] at hg
   refine zk ?_
   refine ze ?_
   refine zf ?_
   refine zm ?_
   refine zb ?_
   refine dq (zH zkI zkF rfl rfl rfl (by assumption)) ?_
   refine dq (zi zkF rfl rfl rfl) ?_
   refine das rfl ?_
   refine dn ?_
   refine zb ?_
   refine dmv rfl ?_
   refine dmv rfl ?_
   refine dq (za6 rfl rfl) ?_
   refine dn ?_
   refine zj rfl (fun h3 => ?_) (fun h4 => ?_)
   ·try simp at h3
    refine zb ?_
    refine dmv rfl ?_
    refine das rfl ?_
    refine dn ?_
    refine zo ?_
    refine zC rfl ?_
    show HVal.int .i64 _ = _
    rw [hg]; simp_all [orI]
   ·try simp at h4
    refine zk ?_
    refine zz ?_
    refine ze ?_
    refine zy ?_
    refine dq (zv rfl rfl (by omega) (by omega)) ?_
    refine dmv rfl ?_
    refine dn ?_
    refine ⟨k + 1, ?_, ?_, ⟨rfl, trivial⟩, (by repeat (first | exact zp | refine zu rfl ?_ | refine zq rfl rfl ?_)), List.Perm.refl _⟩
    ·refine ⟨by omega, ?_⟩
     rw [hg]; simp_all [orI]
    ·dsimp only; omega
  ·try simp at h2
   have hnk : l.length ≤ k := by omega
   obtain rfl : k = l.length := by omega
   rw [z6 (Nat.le_refl _)] at hg
   refine zN ?_
   refine zS ?_
   refine zag ?_
   refine zE ?_
   refine ze ?_
   refine zb ?_
   refine dmv rfl ?_
   refine das rfl ?_
   refine dn ?_
   refine zo ?_
   refine zC rfl ?_
   show HVal.int .i64 _ = _
   rw [hg]; simp_all [orI]

/-- benchwarmer/base.First -/
theorem zlO [Tracks] {l : List Int} (hl : l.length ≤ 1000000) : zaa Tryz.prog 93 [eIs l] (.int .i64 (orI l)) := by
 refine Con.of_body Tryz.func93 rfl Tryz.ntmps93 rfl rfl ?_
 refine zb ?_
 refine das rfl ?_
 refine dn ?_
 refine zf ?_
 refine zb ?_
 refine dmv rfl ?_
 refine dq (zB zkI rfl) ?_
 refine dmv rfl ?_
 refine dn ?_
 refine zm ?_
 refine z8 [2, 4, 7, 8, 9, 10, 11, 12, 13, 14] (fun (k : Nat) => [(7, .int .i64 k)]) (fun (k : Nat) => []) (fun (k : Nat) => k ≤ l.length ∧ (orI l = orI (l.drop k))) (fun (k : Nat) => l.length - k) (0) ?_ ?_ ?_ ?_
 ·exact ⟨Nat.zero_le _, by simp_all⟩
 ·exact ⟨rfl, trivial⟩
 ·exact List.Perm.refl _
 ·intro k hinv
  obtain ⟨hk, hg⟩ := hinv
  refine zb ?_
  refine dq (zJ rfl rfl) ?_
  refine dn ?_
  refine zf ?_
  refine zj rfl (fun h1 => ?_) (fun h2 => ?_)
  ·try simp at h1
   obtain ⟨x, hx⟩ : ∃ x, l[k]? = some x := ⟨_, List.getElem?_eq_getElem h1⟩
   have hdx := zK hx
   rw [hdx] at hg
   refine zk ?_
   refine ze ?_
   refine zf ?_
   refine zm ?_
   refine zb ?_
   refine dq (zH zkI zkF rfl rfl rfl (by assumption)) ?_
   refine dq (zi zkF rfl rfl rfl) ?_
   refine das rfl ?_
   refine dn ?_
   refine zb ?_
   refine dmv rfl ?_
   refine dq (za6 rfl rfl) ?_
   refine dn ?_
   refine zj rfl (fun h3 => ?_) (fun h4 => ?_)
   ·try simp at h3
    refine zb ?_
    refine dmv rfl ?_
    refine das rfl ?_
    refine dn ?_
    refine zo ?_
    refine zC rfl ?_
    show HVal.int .i64 _ = _
    rw [hg]; simp_all [orI]
   ·try simp at h4
    refine zk ?_
    refine zz ?_
    refine ze ?_
    refine zy ?_
    refine dq (zv rfl rfl (by omega) (by omega)) ?_
    refine dmv rfl ?_
    refine dn ?_
    refine ⟨k + 1, ?_, ?_, ⟨rfl, trivial⟩, (by repeat (first | exact zp | refine zu rfl ?_ | refine zq rfl rfl ?_)), List.Perm.refl _⟩
    ·refine ⟨by omega, ?_⟩
     rw [hg]; simp_all [orI]
    ·dsimp only; omega
  ·try simp at h2
   have hnk : l.length ≤ k := by omega
   obtain rfl : k = l.length := by omega
   rw [z6 (Nat.le_refl _)] at hg
   refine zN ?_
   refine zS ?_
   refine zag ?_
   refine zE ?_
   refine ze ?_
   refine zb ?_
   refine das rfl ?_
   refine dn ?_
   refine zo ?_
   refine zC rfl ?_
   show HVal.int .i64 _ = _
   rw [hg]; simp_all [orI]

/-- internal/bytealg.CompareString -/
theorem zea [Tracks] {a b : Str}  : zaa Tryz.prog 88 [.str a, .str b] (.int .i64 (za2 a b)) := by
 refine Con.of_body Tryz.func88 rfl Tryz.ntmps88 rfl rfl ?_
 refine zb ?_
 refine das rfl ?_
 refine dn ?_
 refine zb ?_
 refine dmv rfl ?_
 refine dmv rfl ?_
 refine dq (zn4 Tryz.func141 (by kernel_rfl) (by kernel_rfl) (by kernel_rfl) (by kernel_rfl) rfl rfl rfl) ?_
 refine das rfl ?_
 refine dn ?_
 refine zo ?_
 refine zC rfl ?_
 rfl

/-- strings.Compare -/
theorem zcQ [Tracks] {a b : Str}  : zaa Tryz.prog 55 [.str a, .str b] (.int .i64 (za2 a b)) := by
 refine Con.of_body Tryz.func55 rfl Tryz.ntmps55 rfl rfl ?_
 refine zb ?_
 refine das rfl ?_
 refine dn ?_
 refine zb ?_
 refine dmv rfl ?_
 refine dmv rfl ?_
 refine dq (zw ca88 rfl (WeakL.refl _) zea) ?_
 refine das rfl ?_
 refine dn ?_
 refine zo ?_
 refine zC rfl ?_
 rfl

/-- cmp.Less[string] -/
theorem ziq [Tracks] {a b : Str}  : zaa Tryz.prog 110 [.str a, .str b] (.bool (Op.bytesLess a b)) := by
 refine Con.of_body Tryz.func110 rfl Tryz.ntmps110 rfl rfl ?_
 refine zb ?_
 refine das rfl ?_
 refine dn ?_
 refine zb ?_
 refine dmv rfl ?_
 refine dq (zw zqk rfl (WeakL.refl _) ze6) ?_
 refine dmv rfl ?_
 refine dg rfl rfl (fun hc => ⟨_, OpenTo.refl _, zd rfl⟩) ?_
 refine dg rfl rfl (fun hc => ⟨_, OpenTo.upd (t := 8) rfl (hc) (OpenTo.refl _), zw zqk rfl (WeakL.refl _) ze6⟩) ?_
 refine dg rfl rfl (fun hc => ⟨_, OpenTo.upd (t := 9) rfl (hc) (OpenTo.refl _), zaw rfl⟩) ?_
 refine dq (zL rfl (.inr ⟨_, rfl, fun h => by simp_all⟩) (.inl rfl)) ?_
 refine dmv rfl ?_
 refine dg rfl rfl (fun hc => ⟨_, OpenTo.refl _, zd rfl⟩) ?_
 refine dg rfl rfl (fun hc => ⟨_, OpenTo.refl _, zd rfl⟩) ?_
 refine dg rfl rfl (fun hc => ⟨_, OpenTo.upd (t := 14) rfl (hc) (OpenTo.upd (t := 13) rfl (hc) (OpenTo.refl _)), zpu rfl rfl⟩) ?_
 refine dq (zL rfl (.inl rfl) (.inr ⟨_, rfl, fun h => by simp_all⟩)) ?_
 refine das rfl ?_
 refine dn ?_
 refine zo ?_
 refine zC rfl ?_
 rfl

/-- slices.Equal[[]string,string] -/
theorem zc2 [Tracks] {l m : List Str} (hl : l.length ≤ 1000000) : zaa Tryz.prog 18 [eSs l, eSs m] (.bool (l == m)) := by
 refine Con.of_body Tryz.func18 rfl Tryz.ntmps18 rfl rfl ?_
 refine zb ?_
 refine das rfl ?_
 refine dn ?_
 refine zf ?_
 refine zb ?_
 refine dmv rfl ?_
 refine dq (zB zF rfl) ?_
 refine dmv rfl ?_
 refine dq (zB zF rfl) ?_
 refine dq (za6 rfl rfl) ?_
 refine dn ?_
 refine zj rfl (fun h1 => ?_) (fun h2 => ?_)
 ·try simp at h1
  refine zb ?_
  refine das rfl ?_
  refine dn ?_
  refine zo ?_
  refine zC rfl ?_
  show HVal.bool _ = _
  (congr 1; symm; rw [beq_eq_false_iff_ne]; intro h; subst h; omega)
 ·try simp at h2
  refine zk ?_
  refine ze ?_
  refine zf ?_
  refine zb ?_
  refine dmv rfl ?_
  refine dq (zB zF rfl) ?_
  refine dmv rfl ?_
  refine dn ?_
  refine zm ?_
  refine z8 [4, 5, 13, 14, 15, 16, 17, 18, 19, 20, 21, 22, 23, 24, 25] (fun (k : Nat) => [(13, .int .i64 k)]) (fun (k : Nat) => []) (fun (k : Nat) => k ≤ l.length ∧ (l.length = m.length ∧ (l == m) = (l.drop k == m.drop k))) (fun (k : Nat) => l.length - k) (0) ?_ ?_ ?_ ?_
  ·refine ⟨Nat.zero_le _, ?_, rfl⟩
   omega
  ·exact ⟨rfl, trivial⟩
  ·exact List.Perm.refl _
  ·intro k hinv
   obtain ⟨hk, hg⟩ := hinv
   refine zb ?_
   refine dq (zJ rfl rfl) ?_
   refine dn ?_
   refine zf ?_
   refine zj rfl (fun h3 => ?_) (fun h4 => ?_)
   ·try simp at h3
    obtain ⟨x, hx⟩ : ∃ x, l[k]? = some x := ⟨_, List.getElem?_eq_getElem h3⟩
    have hdx := zK hx
    obtain ⟨y, hy⟩ : ∃ y, m[k]? = some y := ⟨_, List.getElem?_eq_getElem (by omega)⟩
    rw [hdx, zK hy] at hg
    refine zk ?_
    refine ze ?_
    refine zf ?_
    refine zm ?_
    refine zb ?_
    refine dmv rfl ?_
    refine das rfl ?_
    refine dn ?_
    refine za7 (fun _ => True) [] mixed ?_
    refine ahp 0 rfl rfl (by kernel_rfl) (by kernel_rfl) (zd rfl) ?_
    refine ahp 1 rfl rfl (by kernel_rfl) (by kernel_rfl) (zd rfl) ?_
    refine ahp 2 rfl rfl (by kernel_rfl) (by kernel_rfl) (zH zF ty9 rfl rfl rfl (by assumption)) ?_
    refine ahp 3 rfl rfl (by kernel_rfl) (by kernel_rfl) (zi ty9 rfl rfl rfl) ?_
    refine ahp 4 rfl rfl (by kernel_rfl) (by kernel_rfl) (zd rfl) ?_
    refine ahp 5 rfl rfl (by kernel_rfl) (by kernel_rfl) (zd rfl) ?_
    refine ahp 6 rfl rfl (by kernel_rfl) (by kernel_rfl) (zH zF ty9 rfl rfl rfl (by assumption)) ?_
    refine ahp 7 rfl rfl (by kernel_rfl) (by kernel_rfl) (zi ty9 rfl rfl rfl) ?_
    refine ahp 8 rfl rfl (by kernel_rfl) (by kernel_rfl) (zeQ rfl rfl) ?_
    refine ahz (by kernel_rfl) ?_
    refine zj rfl (fun h5 => ?_) (fun h6 => ?_)
    ·try simp at h5
     refine zb ?_
     refine das rfl ?_
     refine dn ?_
     refine zo ?_
     refine zC rfl ?_
     show HVal.bool _ = _
     (rw [hg.2]; simp_all; done)
    ·try simp at h6
     refine zk ?_
     refine zz ?_
     refine ze ?_
     refine zy ?_
     refine dq (zv rfl rfl (by omega) (by omega)) ?_
     refine dmv rfl ?_
     refine dn ?_
     refine ⟨k + 1, ?_, ?_, ⟨rfl, trivial⟩, (by repeat (first | exact zp | refine zu rfl ?_ | refine zq rfl rfl ?_)), List.Perm.refl _⟩
     ·refine ⟨by omega, hg.1, ?_⟩
      rw [hg.2]; simp_all
     ·dsimp only; omega
   ·try simp at h4
    have hnk : l.length ≤ k := by omega
    obtain rfl : k = l.length := by omega
    rw [z6 (Nat.le_refl _)] at hg
    refine zN ?_
    refine zS ?_
    refine zag ?_
    refine zE ?_
    refine ze ?_
    refine zb ?_
    refine das rfl ?_
    refine dn ?_
    refine zo ?_
    refine zC rfl ?_
    show HVal.bool _ = _
    (rw [hg.2]; simp_all; done)
end
end Go.Proofs.YtcihcbnjfclkbaaGreatDoor
namespace Go.HL
section
theorem zjs {l : List Str} : ∀ (k : Nat), k ≤ l.length → zbt l k (l.drop k) = 0 → ∀ (i j : Nat) (a b : Str), k ≤ j → i + 1 = j → l[i]? = some a → l[j]? = some b → Op.bytesLess a b = true := by
 intro k hk
 generalize hm : l.length - k = m
 induction m generalizing k with
 | zero =>
   intro _ i j a b h1 h2 ha hb
   have := zD hb; omega
 | succ m ih =>
   intro h i j a b h1 h2 ha hb
   have hlt : k < l.length := by omega
   have hx := List.getElem?_eq_getElem hlt
   rw [zK hx, zbt] at h
   by_cases hkey : key l[k] = true
   ·simp only [hkey, Bool.not_true, Bool.false_eq_true, if_false] at h
    by_cases hle : (decide (0 < k) && leS l[k] (l.getD (k - 1) [])) = true
    ·rw [if_pos hle] at h; omega
    ·rw [if_neg hle] at h
     by_cases hj : k + 1 ≤ j
     ·exact ih (k + 1) (by omega) (by omega) h i j a b hj h2 ha hb
     ·obtain rfl : j = k := by omega
      have h0 : 0 < j := by omega
      simp only [h0, decide_true, Bool.true_and] at hle
      have e1 : l.getD (j - 1) [] = a := by
       have : j - 1 = i := by omega
       rw [this]; simp [List.getD, ha]
      have e2 : l[j] = b := by rw [hx] at hb; simpa using hb
      rw [e1, e2, zqL] at hle
      simpa using hle
   ·simp [hkey] at h
theorem zkl {l : List Str} (h : zeH l = 0) : SortedS l := by
 have hadj := zjs (l := l) 0 (Nat.zero_le _) (by simpa [zeH] using h)
 have key : ∀ (d i : Nat) (a b : Str), l[i]? = some a → l[i + d + 1]? = some b → Op.bytesLess a b = true := by
  intro d
  induction d with
  | zero => intro i a b ha hb; exact hadj i (i + 1) a b (by omega) rfl ha hb
  | succ d ih =>
    intro i a b ha hb
    have hlt := zD hb
    have hc := List.getElem?_eq_getElem (l := l) (i := i + d + 1) (by omega)
    have h1 := ih i a _ ha hc
    have h2 := hadj (i + d + 1) (i + (d + 1) + 1) _ b (by omega) (by omega) hc hb
    exact zda h1 h2
 refine List.pairwise_iff_getElem.2 fun i j hi hj hij => ?_
 refine key (j - i - 1) i _ _ (List.getElem?_eq_getElem hi) ?_
 have : i + (j - i - 1) + 1 = j := by omega
 rw [this]; exact List.getElem?_eq_getElem hj
end
end Go.HL
namespace Go.Proofs.YtcihcbnjfclkbaaGreatDoor
set_option maxRecDepth 100000
set_option linter.unusedVariables false
set_option linter.unusedSimpArgs false
section
open Go.HL
/-- slices.BinarySearch[[]string,string] -/
theorem zdL [Tracks] {l : List Str} {s : Str} (hl : l.length ≤ 1000000) (hs : SortedS l) : zaa Tryz.prog 126 [eSs l, .str s] (.tup [.int .i64 (zcw l s), .bool (l.contains s)]) := by
 refine Con.of_body Tryz.func126 rfl Tryz.ntmps126 rfl rfl ?_
 refine zb ?_
 refine das rfl ?_
 refine das rfl ?_
 refine dn ?_
 refine zb ?_
 refine dmv rfl ?_
 refine dq (zB zF rfl) ?_
 refine das rfl ?_
 refine dn ?_
 refine zb ?_
 refine dmv rfl ?_
 refine das rfl ?_
 refine das rfl ?_
 refine dn ?_
 refine zf ?_
 refine zm ?_
 refine zbf [7, 8, 9, 13, 14, 15, 16, 17, 18, 19, 20, 21, 22, 23, 24, 25, 26, 27, 28, 29, 30] (fun (i : Nat) (j : Nat) => [(7, .int .i64 i), (8, .int .i64 j)]) (fun (i : Nat) (j : Nat) => []) (fun (i : Nat) (j : Nat) => i ≤ j ∧ j ≤ l.length ∧ (∀ (k : Nat) (x : Str), k < i → l[k]? = some x → Op.bytesLess x s = true) ∧ (∀ (k : Nat) (x : Str), j ≤ k → l[k]? = some x → Op.bytesLess x s = false)) (fun (i : Nat) (j : Nat) => j - i) (0) (l.length) ?_ ?_ ?_ ?_
 ·exact ⟨Nat.zero_le _, Nat.le_refl _, fun k x h => by omega, fun k x h1 h2 => by have := zD h2; omega⟩
 ·exact ⟨rfl, rfl, trivial⟩
 ·exact List.Perm.refl _
 ·intro i j hinv
  obtain ⟨hij, hjl, ha, hb⟩ := hinv
  refine zf ?_
  refine zb ?_
  refine dmv rfl ?_
  refine dmv rfl ?_
  refine dq (zJ rfl rfl) ?_
  refine dn ?_
  refine zj rfl (fun h1 => ?_) (fun h2 => ?_)
  ·try simp at h1
   obtain ⟨x, hx⟩ : ∃ x, l[(i + j) / 2]? = some x := ⟨_, List.getElem?_eq_getElem (by omega)⟩
   have hm : (i + j) / 2 < j ∧ i ≤ (i + j) / 2 := by omega
   refine zk ?_
   refine ze ?_
   refine zm ?_
   refine zb ?_
   refine dmv rfl ?_
   refine dmv rfl ?_
   refine dq (zv rfl rfl (by omega) (by omega)) ?_
   refine dq (zbK ty3 zeB rfl) ?_
   refine dq (zgz rfl rfl (by omega)) ?_
   refine dq (zcZ (zbK zeB ty3 rfl) (zmy (i := i) (j := j) (by omega))) ?_
   refine das rfl ?_
   refine dn ?_
   refine zb ?_
   refine dmv rfl ?_
   refine dmv rfl ?_
   refine dq (zH (j := (i + j) / 2) (a := x) zF ty9 rfl rfl rfl hx) ?_
   refine dq (zi ty9 rfl rfl rfl) ?_
   refine dmv rfl ?_
   refine dq (zw zrO rfl (WeakL.refl _) ziq) ?_
   refine dn ?_
   refine zj rfl (fun h3 => ?_) (fun h4 => ?_)
   ·try simp at h3
    refine zy ?_
    refine dmv rfl ?_
    refine dq (zv rfl rfl (by omega) (by omega)) ?_
    refine das rfl ?_
    refine dn ?_
    refine zz ?_
    exact ⟨(i + j) / 2 + 1, j, ⟨by omega, hjl, zop hs hx h3, hb⟩, by dsimp only; omega, ⟨rfl, rfl, trivial⟩, (by repeat (first | exact zp | refine zu rfl ?_ | refine zq rfl rfl ?_)), List.Perm.refl _⟩
   ·try simp at h4
    refine zy ?_
    refine dmv rfl ?_
    refine das rfl ?_
    refine dn ?_
    refine zz ?_
    exact ⟨i, (i + j) / 2, ⟨by omega, by omega, ha, znG hs hx h4⟩, by dsimp only; omega, ⟨rfl, rfl, trivial⟩, (by repeat (first | exact zp | refine zu rfl ?_ | refine zq rfl rfl ?_)), List.Perm.refl _⟩
  ·try simp at h2
   obtain rfl : i = j := by omega
   refine zN ?_
   refine zS ?_
   refine zbr ?_
   refine zE ?_
   refine ze ?_
   refine zb ?_
   refine dmv rfl ?_
   refine dmv rfl ?_
   refine dmv rfl ?_
   refine dq (zJ rfl rfl) ?_
   refine dmv rfl ?_
   refine dg rfl rfl (fun hc => ⟨_, OpenTo.refl _, zd rfl⟩) ?_
   refine dg rfl rfl (fun hc => ⟨_, OpenTo.refl _, zd rfl⟩) ?_
   refine dg rfl rfl (fun hc => by have hq := hc; (try simp at hq); exact ⟨_, OpenTo.upd (t := 37) rfl (hc) (OpenTo.upd (t := 36) rfl (hc) (OpenTo.refl _)), zH (j := i) (a := l.getD i []) zF ty9 rfl rfl rfl (getD_some (by omega))⟩) ?_
   refine dg rfl rfl (fun hc => ⟨_, OpenTo.upd (t := 38) rfl (hc) (OpenTo.refl _), zi ty9 rfl rfl rfl⟩) ?_
   refine dg rfl rfl (fun hc => ⟨_, OpenTo.refl _, zd rfl⟩) ?_
   refine dg rfl rfl (fun hc => ⟨_, OpenTo.upd (t := 40) rfl (hc) (OpenTo.upd (t := 39) rfl (hc) (OpenTo.refl _)), zbb rfl rfl⟩) ?_
   refine dg rfl rfl (fun hc => ⟨_, OpenTo.upd (t := 41) rfl (hc) (OpenTo.refl _), zd rfl⟩) ?_
   refine dg rfl rfl (fun hc => ⟨_, OpenTo.refl _, zd rfl⟩) ?_
   refine dg rfl rfl (fun hc => ⟨_, OpenTo.refl _, zd rfl⟩) ?_
   refine dg rfl rfl (fun hc => ⟨_, OpenTo.upd (t := 44) rfl (hc) (OpenTo.upd (t := 43) rfl (hc) (OpenTo.refl _)), zH (j := i) (a := l.getD i []) zF ty9 rfl rfl rfl (getD_some (by simp_all))⟩) ?_
   refine dg rfl rfl (fun hc => ⟨_, OpenTo.upd (t := 45) rfl (hc) (OpenTo.refl _), zi ty9 rfl rfl rfl⟩) ?_
   refine dg rfl rfl (fun hc => ⟨_, OpenTo.upd (t := 46) rfl (hc) (OpenTo.refl _), zw zqp rfl (WeakL.refl _) zek⟩) ?_
   refine dg rfl rfl (fun hc => ⟨_, OpenTo.upd (t := 47) rfl (hc) (OpenTo.refl _), zd rfl⟩) ?_
   refine dg rfl rfl (fun hc => ⟨_, OpenTo.refl _, zd rfl⟩) ?_
   refine dg rfl rfl (fun hc => ⟨_, OpenTo.upd (t := 49) rfl (hc) (OpenTo.refl _), zw zqp rfl (WeakL.refl _) zek⟩) ?_
   refine dg rfl rfl (fun hc => ⟨_, OpenTo.upd (t := 48) rfl (hc) (OpenTo.refl _), zL rfl (.inr ⟨_, rfl, fun h => by simp_all⟩) (.inl rfl)⟩) ?_
   refine dg rfl rfl (fun hc => ⟨_, OpenTo.upd (t := 42) rfl (hc) (OpenTo.refl _), zL rfl (.inl rfl) (.inr ⟨_, rfl, fun h => by simp_all⟩)⟩) ?_
   refine dq (zL rfl (.inr ⟨_, rfl, fun h => by simp_all⟩) (.inl rfl)) ?_
   refine das rfl ?_
   refine das rfl ?_
   refine dn ?_
   refine zo ?_
   refine zC rfl ?_
   rw [zik hjl ha hb, ← zi0 hs hjl ha hb, ← zpS false]

end
end Go.Proofs.YtcihcbnjfclkbaaGreatDoor
namespace Go.HL
section

end
end Go.HL
namespace Go.Proofs.YtcihcbnjfclkbaaGreatDoor
set_option maxRecDepth 100000
set_option linter.unusedVariables false
set_option linter.unusedSimpArgs false
section
open Go.HL
/-- slices.Clone[[]string,string] -/
theorem zcS [Tracks] {l : List Str} (hl : l.length ≤ 1000000) : ziW Tryz.prog 28 [eSs l] 1 (l.map .str) := by
 refine Con.of_body Tryz.func28 rfl Tryz.ntmps28 rfl rfl ?_
 refine zb ?_
 refine das rfl ?_
 refine dn ?_
 refine zf ?_
 refine zb ?_
 refine dmv rfl ?_
 refine de rfl (zhI zF rfl rfl fun b4 hb4 => ?_)
 refine dn ?_
 refine zj rfl (fun h1 => ?_) (fun h2 => ?_)
 ·try simp at h1
  refine zb ?_
  refine das rfl ?_
  refine dn ?_
  refine zo ?_
  exact zbO (Ghost.arr_nil 1) rfl ⟨_, rfl, by simp_all⟩
 ·try simp at h2
  refine zk ?_
  refine ze ?_
  refine zb ?_
  refine de rfl (zib zF ty9 fun v5 => ?_)
  refine dmv rfl ?_
  refine de rfl (zah (i := 0) zF ty9 rfl rfl rfl rfl rfl (by simp [zaD, zl]) (by simp; omega) fun v7 => ?_)
  refine das rfl ?_
  refine dn ?_
  refine zo ?_
  exact zjm rfl rfl

end
end Go.Proofs.YtcihcbnjfclkbaaGreatDoor
namespace Go.HL
section

end
end Go.HL
namespace Go.Proofs.YtcihcbnjfclkbaaGreatDoor
set_option maxRecDepth 100000
set_option linter.unusedVariables false
set_option linter.unusedSimpArgs false
section
open Go.HL
set_option linter.unusedSimpArgs false
end
end Go.Proofs.YtcihcbnjfclkbaaGreatDoor
namespace Go.HL
section
def zmm (P : Program) (e : Env) : List ResultVar → List HVal → Prop
 | [], [] => True
 | .tmp t :: r, h :: l => e t = some h ∧ zmm P e r l
 | .cell a t :: r, h :: l => (∃ cs d size bytes zero, e a = some (.vptr cs 0) ∧ Fits P t d size bytes zero ∧ ((d.isAgg = false ∧ cs[0]? = some h) ∨ (d.isAgg = true ∧ size = cs.length ∧ h = .agg cs))) ∧ zmm P e r l
 | _, _ => False
def zqA : List HVal → HVal
 | [h] => h
 | l => .tup l
def RetC [Tracks] (P : Program) (rs : List ResultVar) (Q : HVal → List MObj → Prop) : Exit → Env → List MObj → Prop
 | .normal, e, M | .ret, e, M => ∃ e' M', Ghost e M e' M' ∧ ∃ l h', zmm P e' rs l ∧ Weak (zqA l) h' ∧ Q h' M'
 | _, _, _ => False
theorem zpv [Tracks] {P : Program} {I : Imm} {e : Env} {tmps : Array Value} (he : EnvV I e tmps) {M : List MObj} {w : World} (hs : Sat P I M w) : ∀ (rs : List ResultVar) (l : List HVal), zmm P e rs l →
 ∃ vs : List Value, (rs.mapM (zfa tmps)).run P w = .ok vs w ∧ VL I l vs := by
 intro rs
 induction rs with
 | nil =>
   intro l h
   cases l with
   | nil => exact ⟨[], by simp, VL.nil⟩
   | cons _ _ => exact h.elim
 | cons r rs ih =>
   intro l h
   cases l with
   | nil => cases r <;> exact h.elim
   | cons x l =>
     cases r with
     | tmp t =>
       obtain ⟨h1, h2⟩ := h
       obtain ⟨vs, h3, h4⟩ := ih l h2
       obtain ⟨v, h5, h6⟩ := he t x h1
       refine ⟨v :: vs, ?_, VL.cons h6 h4⟩
       simp only [List.mapM_cons, zfa, Sem.run_bind, Sem.run_pure, Result.andThen_ok, h3]
       simp [h5]
     | cell a t =>
       obtain ⟨⟨cs, d, size, bytes, zero, h1, hf, hh⟩, h2⟩ := h
       obtain ⟨vs, h3, h4⟩ := ih l h2
       obtain ⟨v, h5, h6⟩ := he a _ h1
       obtain ⟨b, base, rc, el, fr, g1, g2, g3, g4⟩ := h6.vptr_inv
       obtain ⟨v', h7, h8⟩ := zdX (I := I) (h := x) (o := base + 0) (off := 0) (base := base) hf (hs.imm _ _ g2) rfl g3 g4 (by
        rcases hh with hh | ⟨p1, p2, p3⟩
        ·exact .inl hh
        ·exact .inr ⟨p1, by omega, by rw [p2]; simpa using p3⟩)
       refine ⟨v' :: vs, ?_, VL.cons h8 h4⟩
       have hg : tmps.getD a undef = .pointer (some ⟨b, base + 0, none⟩) := by simp [h5, g1]
       simp only [List.mapM_cons, zfa, Sem.run_bind, Sem.run_pure, Result.andThen_ok, hg, asAddr, h7, h3]

theorem Con.of_bodyc [Tracks] {P : Program} {f : FuncId} {fn : Func} {c : Code} {hargs : List HVal} {M : List MObj} {Q : HVal → List MObj → Prop}
 {n : Nat} (hf : P.funcs[f]? = some fn) (hb : fn.body = some c) (hnt : fn.ntmps = n) (hn' : Nat.ble hargs.length n = true) {rs : List ResultVar} (hrs : fn.results.toList = rs) (h : HWp P n c (zql hargs) M (RetC P rs Q)) : Con P f hargs M Q := by
 have hn := Nat.le_of_ble_eq_true hn'
 subst hnt hrs
 intro I F w args h1 h2
 refine calls_of_wp hf hb ?_
 have hlen := h1.1
 refine wp_mono (h I F _ w rfl (by simp; omega) ?_ h2) ?_
 ·intro t x hx
  obtain ⟨v, h3, h4⟩ := h1.get hx
  have hlt : t < args.length := zD h3
  refine ⟨v, ?_, h4⟩
  rw [Array.getElem?_append_left (by simpa using hlt)]
  simpa using h3
 ·have key : ∀ (a' : Act) (w' : World), a'.defers = [] → (∃ J e M', Le I J ∧ (∃ e' M'', Ghost e M' e' M'' ∧ ∃ l h', zmm P e' fn.results.toList l ∧ Weak (zqA l) h' ∧ Q h' M'') ∧ EnvV J e a'.tmps ∧ Sat P J (M' ++ F) w') →
   a'.defers = [] ∧ ∃ v, (results fn a'.tmps).run P w' = .ok v w' ∧ (∃ v_1 h M' J, Ending.returned v = Ending.returned v_1 ∧ Le I J ∧ Q h M' ∧ V J h v_1 ∧ Sat P J (M' ++ F) w') := by
   rintro a' w' hd ⟨J, e, M', hl, ⟨e', M'', hg, l, h', hr, hw, hq⟩, he, hs⟩
   obtain ⟨J2, hl2, he2, hs2⟩ := hg J F a'.tmps w' he hs
   refine ⟨hd, ?_⟩
   obtain ⟨vs, h3, h4⟩ := zpv he2 hs2 _ _ hr
   have hrun : (results fn a'.tmps).run P w' = .ok (if h : vs.length = 1 then vs[0] else .tuple vs.toArray) w' := by
    rw [zjR]
    have hm : (fn.results.mapM (zfa a'.tmps)).run P w' = .ok vs.toArray w' := by
     rw [Array.mapM_eq_mapM_toList]
     simp only [Sem.run_map, h3, Result.andThen_ok]
    simp only [Sem.run_bind, Sem.run_pure]
    rw [hm]
    simp
   refine ⟨_, hrun, _, h', M'', J2, rfl, hl.trans hl2, hq, ?_, hs2⟩
   apply hw
   match l, h4 with
   | [], h4 =>
     have : vs = [] := by have := h4.1; simpa using this
     subst this
     exact .tup (by simp) (fun j c v h _ => by simp at h)
   | [x], h4 =>
     have hl1 : vs.length = 1 := by have := h4.1; simpa using this
     match vs, hl1, h4 with
     | [v], _, h4 => exact h4.head
   | x :: y :: r, h4 =>
     have hl1 : vs.length = r.length + 2 := by have := h4.1; simpa using this
     rw [dif_neg (by omega)]
     exact .tup (by simp [hl1]) (fun j c v h1 h2 => h4.2 j c v h1 (by simpa using h2))
  rintro x a' w' ⟨p1, p2, J, e, M', p3, p4, p5, p6⟩
  cases x with
  | normal => exact key a' w' p1 ⟨J, e, M', p3, p4, p5, p6⟩
  | ret => exact key a' w' p1 ⟨J, e, M', p3, p4, p5, p6⟩
  | exit id => exact p4.elim
  | goto l => exact p4.elim
  | panic ch => exact p4.elim
  | outgrown => exact p4.elim

section
variable {P : Program} {e : Env} {dst : Option Tmp} {ty : TypeId} {pos : String} {af : Array Edge} {g : Option (Nat × Bool)} {M : List MObj} {K : HVal → List MObj → Prop}
theorem Fits.arrD [Tracks] {t : TypeId} {n el size bytes : Nat} {zero : Value} (h : Fits P t (.arr n el) size bytes zero) : P.underlying t = some (.array n el) := by
 obtain ⟨x, h1, h2⟩ := h.underlying
 cases x <;> simp [zez] at h2
 obtain ⟨rfl, rfl⟩ := h2
 exact h1
theorem zhO [Tracks] {t el : TypeId} {n size bytes sz b2 : Nat} {zero z2 : Value} {d : TD} (hf : Fits P t (.arr n el) size bytes zero) (hel : Fits P el d sz b2 z2) {k : IntKind} {j b o : Nat} (hj : j < n) (w : World) :
 (Instr.indexAt t (.pointer (some ⟨b, o, none⟩)) (.int k (j : Int))).run P w = .ok (.pointer (some ⟨b, o + j * sz, none⟩)) w := by
 have h1 : (0 : Int) ≤ (j : Int) ∧ (j : Int) < (n : Int) := by omega
 simp [Instr.indexAt, asIntOf, run_underlying hf.arrD, h1, hel.run_sizeOf, zbZ, Instr.sureAddr]
 intro h; omega
/-- An element of an array. -/
theorem zpN [Tracks] {x y : Operand} {t el : TypeId} {n size bytes sz b2 : Nat} {zero z2 : Value} {d : TD} {cs : List HVal} {off : Nat} {k : IntKind} {i : Int} {j : Nat}
 (hf : Fits P t (.arr n el) size bytes zero) (hel : Fits P el d sz b2 z2) (hx : zx e x = some (.vptr cs off)) (hy : zx e y = some (.int k i)) (hi : i = (j : Int)) (hj : j < n) :
 POp P e ⟨dst, .indexAddr t x y, ty, pos, af, g⟩ (.vptr cs (off + j * sz)) :=
 POp.of_val fun I a w ho => by
  subst hi
  obtain ⟨b, base, rc, el, fr, h1, h2, h3, h4⟩ := (ho.one (x := x) (by simp [Op.operands]) hx).vptr_inv
  have h5 := (ho.one (x := y) (by simp [Op.operands]) hy).int_inv
  refine ⟨.pointer (some ⟨b, base + off + j * sz, none⟩), by simp [execOp, h1, h5, zhO hf hel hj], ?_⟩
  rw [Nat.add_assoc]; exact .vptr h2 h3 h4
theorem zl2 [Tracks] {x y : Operand} {t el : TypeId} {n size bytes sz b2 : Nat} {zero z2 : Value} {d : TD} {b o : Nat} {k : IntKind} {i : Int} {j : Nat}
 (hf : Fits P t (.arr n el) size bytes zero) (hel : Fits P el d sz b2 z2) (hx : zx e x = some (.raw (.pointer (some ⟨b, o, none⟩)))) (hy : zx e y = some (.int k i)) (hi : i = (j : Int)) (hj : j < n) :
 POp P e ⟨dst, .indexAddr t x y, ty, pos, af, g⟩ (.raw (.pointer (some ⟨b, o + j * sz, none⟩))) :=
 POp.of_val fun I a w ho => by
  subst hi
  have h1 := (ho.one (x := x) (by simp [Op.operands]) hx).raw_inv
  have h5 := (ho.one (x := y) (by simp [Op.operands]) hy).int_inv
  exact ⟨_, by simp [execOp, h1, h5, zhO hf hel hj], .raw _ rfl⟩

theorem zlx [Tracks] {f : FuncId} {fn : Func} {args : Array Operand} {ats : Array TypeId} {x y : Operand} {s : List UInt8} {c : Int} (hf : P.funcs[f]? = some fn) (h1 : (fn.name == "runtime.NumGoroutine") = false) (h2 : fn.body.isNone = true)
 (h3 : (Extern.findNext fn).isNone = true) (h4 : Extern.find fn = some Extern.BytealgIndexByte.indexByte) (ha : args = #[x, y]) (hx : zx e x = some (.str s)) (hy : zx e y = some (.int .u8 c)) :
 POp P e ⟨dst, .call ⟨.value (.func f), args, ats⟩, ty, pos, af, g⟩ (.int .i64 (Lib.indexByte s c.toNat.toUInt8)) :=
 POp.of_val fun I a w ho => by
  subst ha
  have e1 := (ho.one (x := x) (by simp [Op.operands, Call.operands]) hx).str_inv
  have e2 := (ho.one (x := y) (by simp [Op.operands, Call.operands]) hy).int_inv
  refine ⟨_, ?_, .int _ _⟩
  have h3' : Extern.findNext fn = none := by cases h : Extern.findNext fn with | none => rfl | some _ => rw [h] at h3; simp at h3
  have hcmp : (Extern.BytealgIndexByte.indexByte #[.string ⟨s.toArray⟩, .int .u8 c]).run P w = .ok (.int .i64 (Lib.indexByte s c.toNat.toUInt8)) w := by
   have := Lib.run_indexByteString (P := P) ⟨s.toArray⟩ c w
   simpa using this
  have hev : a.eval (.func f) = .func (.func f) #[] #[] := rfl
  have hmap : (#[x, y] : Array Operand).map a.eval = #[.string ⟨s.toArray⟩, .int .u8 c] := by simp [e1, e2]
  have hargs : (#[] : Array Value) ++ #[.string ⟨s.toArray⟩, .int .u8 c] ++ #[] = #[.string ⟨s.toArray⟩, .int .u8 c] := rfl
  simp only [execOp, resolve, hev, hmap, Deferred.ofValue, invoke, callFunc, Sem.run_bind, Sem.run_pure, Result.andThen_ok, run_program, hf, h1, h2, h3', h4, Bool.false_eq_true, if_false, if_true, run_mark, hargs, hcmp]
end
end
section
def asciiSet (l : List UInt8) : List HVal := (List.range 256).map fun i => .bool (l.contains (UInt8.ofNat i))
theorem zcx (l : List UInt8) : (asciiSet l).length = 256 := by simp [asciiSet]
theorem zh3 (l : List UInt8) (c : UInt8) : (asciiSet l)[c.toNat]? = some (.bool (l.contains c)) := by
 have := c.toNat_lt
 simp [asciiSet, List.getElem?_range, this]
theorem zjn {α : Type} (f : α → Bool) : ∀ l : List α, zaD (l.map fun i => .bool (f i)) = true
 | [] => rfl
 | x :: l => by simp only [List.map_cons, zaD]; exact zjn f l
theorem zlC (l : List UInt8) : zaD (asciiSet l) = true := zjn _ _
theorem zlN (l : List UInt8) (c : UInt8) : z7 (asciiSet l) (0 + c.toNat * 1) [.bool true] = asciiSet (l ++ [c]) := by
 have hc := c.toNat_lt
 have hl : 0 + c.toNat * 1 = c.toNat := by omega
 rw [hl]
 apply List.ext_getElem?
 intro i
 have hlen := zcx l
 simp only [z7, List.length_singleton]
 by_cases hi : i < c.toNat
 ·rw [List.getElem?_append_left (by simp; omega), List.getElem?_append_left (by simp [hlen]; omega), List.getElem?_take_of_lt hi]
  have h256 : i < 256 := by omega
  have hne : UInt8.ofNat i ≠ c := fun h => by
   have := congrArg UInt8.toNat h
   rw [UInt8.toNat_ofNat_of_lt' (by simpa [UInt8.size] using h256)] at this; omega
  simp [asciiSet, List.getElem?_range, h256, hne]
 ·by_cases he : i = c.toNat
  ·subst he
   rw [List.getElem?_append_left (by simp [hlen]; omega), List.getElem?_append_right (by simp [hlen]; omega)]
   rw [zh3]
   simp [hlen, Nat.min_eq_left (Nat.le_of_lt hc)]
  ·rw [List.getElem?_append_right (by simp [hlen]; omega), List.getElem?_drop]
   have e1 : c.toNat + 1 + (i - ((asciiSet l).take c.toNat ++ [HVal.bool true]).length) = i := by simp [hlen]; omega
   rw [e1]
   by_cases h256 : i < 256
   ·have hne : UInt8.ofNat i ≠ c := fun h => by
     have := congrArg UInt8.toNat h
     rw [UInt8.toNat_ofNat_of_lt' (by simpa [UInt8.size] using h256)] at this; omega
    simp [asciiSet, List.getElem?_range, h256, hne]
   ·rw [List.getElem?_eq_none (by rw [zcx]; omega), List.getElem?_eq_none (by rw [zcx]; omega)]
def zd4 (p : UInt8 → Bool) (s : Str) : Str := (s.reverse.dropWhile p).reverse
theorem zfw (p : UInt8 → Bool) (s : Str) (c : UInt8) : zd4 p (s ++ [c]) = if p c then zd4 p s else s ++ [c] := by
 unfold zd4
 rw [List.reverse_append]
 simp only [List.reverse_cons, List.reverse_nil, List.nil_append, List.singleton_append, List.dropWhile_cons]
 split <;> simp
theorem zos (p : UInt8 → Bool) : ∀ s : Str, (s.dropWhile p).length ≤ s.length
 | [] => Nat.le_refl _
 | x :: s => by
   rw [List.dropWhile_cons]
   split
   ·exact Nat.le_succ_of_le (zos p s)
   ·exact Nat.le_refl _
theorem zpr (p : UInt8 → Bool) (s : Str) : (zd4 p s).length ≤ s.length := by
 unfold zd4
 rw [List.length_reverse]
 have := zos p s.reverse
 rwa [List.length_reverse] at this
theorem zoV (p : UInt8 → Bool) : ∀ s : Str, s.dropWhile p = [] → ∀ c ∈ s, p c = true
 | [], _, c, h => by cases h
 | x :: s, h, c, hc => by
   rw [List.dropWhile_cons] at h
   by_cases hx : p x = true
   ·rw [if_pos hx] at h
    rcases List.mem_cons.1 hc with rfl | hc
    ·exact hx
    ·exact zoV p s h c hc
   ·rw [if_neg hx] at h; cases h
theorem zpP (p : UInt8 → Bool) (s : Str) : ((zd4 p s).dropWhile p == []) = s.all p := by
 induction s using List.reverseRecOn' with
 | nil => rfl
 | snoc s c ih =>
   rw [zfw]
   by_cases hc : p c = true
   ·rw [if_pos hc, ih]; simp [hc]
   ·rw [if_neg hc]
    have : (s ++ [c]).all p = false := by simp [hc]
    rw [this]
    cases hd : (s ++ [c]).dropWhile p with
    | nil => exact absurd (zoV _ _ hd c (by simp)) hc
    | cons _ _ => rfl
where
 List.reverseRecOn' {motive : Str → Prop} (nil : motive []) (snoc : ∀ s c, motive s → motive (s ++ [c])) (l : Str) : motive l := by
  have : ∀ n (l : Str), l.length = n → motive l := by
   intro n
   induction n with
   | zero => intro l h; rw [List.length_eq_zero_iff.1 h]; exact nil
   | succ n ih =>
     intro l h
     have hne : l ≠ [] := fun h0 => by subst h0; simp at h
     rw [← List.dropLast_concat_getLast hne]
     exact snoc _ _ (ih _ (by simp [h]))
  exact this l.length l rfl
def zg7 : Str := [97, 98, 99, 100, 101, 102, 103, 104, 105, 106, 107, 108, 109, 110, 111, 112, 113, 114, 115, 116, 117, 118, 119, 120, 121, 122, 48, 49, 50, 51, 52, 53, 54, 55, 56, 57, 45, 95]
def zii : Str := [97, 98, 99, 100, 101, 102, 103, 104, 105, 106, 107, 108, 109, 110, 111, 112, 113, 114, 115, 116, 117, 118, 119, 120, 121, 122]
theorem zox {p : UInt8 → Bool} (h : (List.range 256).all (fun i => p (UInt8.ofNat i)) = true) (c : UInt8) : p c = true := by
 have := List.all_eq_true.1 h c.toNat (List.mem_range.2 c.toNat_lt)
 simpa using this
theorem zp9 (c : UInt8) : zg7.contains c = zfq c := by
 have := zox (p := fun c => zg7.contains c == zfq c) (by kernel_rfl) c
 simpa using this
theorem znT (c : UInt8) : decide (0 ≤ Lib.indexByte zii c) = (decide (97 ≤ c.toNat) && decide (c.toNat ≤ 122)) := by
 have := zox (p := fun c => decide (0 ≤ Lib.indexByte zii c) == (decide (97 ≤ c.toNat) && decide (c.toNat ≤ 122))) (by kernel_rfl) c
 simpa using this
theorem zq6 (s : Str) : key s = ((!(out s.length 1 40) && ((zd4 (zg7.contains ·) s).dropWhile (zg7.contains ·) == [])) && decide (0 ≤ Lib.indexByte zii (s.headD 0))) := by
 rw [zpP, znT]
 have : (fun x => zg7.contains x) = zfq := funext zp9
 rw [this]
 unfold key zgS
 cases s with
 | nil => simp [out]
 | cons x r =>
   simp only [List.headD_cons]
   have h1 : (!(out ((x :: r).length : Int) 1 40)) = decide ((x :: r).length ≤ 40) := by
    simp only [out, List.length_cons]
    rw [Bool.eq_iff_iff]; simp; omega
   rw [h1]
   have h2 : ((x :: r) != []) = true := rfl
   rw [h2]
   have hb : ∀ a b c d : Bool, (true && a && c && d && b) = (a && b && (c && d)) := by decide
   exact hb _ _ _ _
end
end Go.HL
namespace Go.Proofs.YtcihcbnjfclkbaaGreatDoor
set_option maxRecDepth 100000
set_option linter.unusedVariables false
set_option linter.unusedSimpArgs false
section
open Go.HL
/-- strings.makeASCIISet -/
theorem zgr [Tracks] {l : Str} (hl : l.length ≤ 1000000) (ha : ∀ c ∈ l, c.toNat < 128) : zaa Tryz.prog 118 [.str l] (.tup [.agg (asciiSet l), .bool true]) := by
 refine Con.of_bodyc Tryz.func118 rfl Tryz.ntmps118 rfl rfl ?_
 refine zb ?_
 refine de rfl (zab zge rfl fun b2 => ?_)
 refine das rfl ?_
 refine dn ?_
 refine zf ?_
 refine zb ?_
 refine das rfl ?_
 refine dn ?_
 refine zm ?_
 refine z8 [3, 4, 5, 6, 7, 8, 9, 10, 11, 12, 13, 14, 15, 16, 17, 18, 19] (fun (k : Nat) => [(4, .int .i64 k)]) (fun (k : Nat) => [.cells b2 (asciiSet (l.take k))]) (fun (k : Nat) => k ≤ l.length ∧ (True)) (fun (k : Nat) => l.length - k) (0) ?_ ?_ ?_ ?_
 ·exact ⟨Nat.zero_le _, by simp_all⟩
 ·exact ⟨rfl, trivial⟩
 ·exact zT rfl
 ·intro k hinv
  obtain ⟨hk, -⟩ := hinv
  refine zf ?_
  refine zb ?_
  refine dmv rfl ?_
  refine dmv rfl ?_
  refine dq (zdb ty9 rfl) ?_
  refine dq (zJ rfl rfl) ?_
  refine dn ?_
  refine zj rfl (fun h1 => ?_) (fun h2 => ?_)
  ·try simp at h1
   obtain ⟨x, hx⟩ : ∃ x, l[k]? = some x := ⟨_, List.getElem?_eq_getElem h1⟩
   have hdx := zK hx
   have hc := ha x (List.mem_of_getElem? hx)
   refine zk ?_
   refine ze ?_
   refine zf ?_
   refine zm ?_
   refine zb ?_
   refine dmv rfl ?_
   refine dmv rfl ?_
   refine dq (zb2 ty9 rfl rfl rfl (by assumption)) ?_
   refine das rfl ?_
   refine dn ?_
   refine zf ?_
   refine zb ?_
   refine dmv rfl ?_
   refine dq (zbw rfl rfl) ?_
   refine dn ?_
   refine zj rfl (fun h3 => ?_) (fun h3 => ?_)
   ·exfalso
    try simp at h3
    omega
   ·try simp at h3
    refine zk ?_
    refine ze ?_
    refine zy ?_
    refine dmv rfl ?_
    refine dq (zl2 zge ty4 rfl rfl rfl (by omega)) ?_
    refine de0 (zt (i := 0) ty4 rfl rfl rfl rfl rfl (by rw [zcx]; omega) ?_)
    refine dn ?_
    refine zz ?_
    refine ze ?_
    refine zy ?_
    refine dmv rfl ?_
    refine dq (zv rfl rfl (by omega) (by omega)) ?_
    refine das rfl ?_
    refine dn ?_
    refine ⟨k + 1, ?_, ?_, ⟨rfl, trivial⟩, (by repeat (first | exact zp | refine zu rfl ?_ | refine zq rfl rfl ?_)), zT (by show [MObj.cells b2 (z7 _ (0 + x.toNat * 1) [.bool true])] = _; rw [zlN]; dsimp only; rw [List.take_add_one, hx]; rfl)⟩
    ·exact ⟨by omega, trivial⟩
    ·dsimp only; omega
  ·try simp at h2
   have hnk : l.length ≤ k := by omega
   obtain rfl : k = l.length := by omega
   refine zN ?_
   refine zS ?_
   refine zag ?_
   refine zE ?_
   refine ze ?_
   refine zO (Ghost.of_eq (M' := [.cells b2 (asciiSet l)]) (by rw [List.take_length])) ?_
   refine zb ?_
   refine de rfl (zei (i := 0) (h := .agg (asciiSet l)) zge rfl rfl rfl rfl (zcx l) ?_)
   refine de0 (zao (h := .agg (asciiSet l)) zge rfl rfl (by simp [zdi, zcx]) (zlC l) (zcx l) ?_)
   refine das rfl ?_
   refine dn ?_
   refine zo ?_
   refine ⟨_, _, Ghost.fc0 2 rfl, [_, _], _, ⟨⟨_, _, _, _, _, rfl, zge, .inr ⟨rfl, rfl, rfl⟩⟩, ⟨rfl, trivial⟩⟩, Weak.refl _, ?_, rfl⟩
   rfl

/-- (*strings.asciiSet).contains -/
theorem zc6 [Tracks] {l : Str} {c : UInt8}  : zaa Tryz.prog 169 [.vptr (asciiSet l) 0, .int .u8 c.toNat] (.bool (l.contains c)) := by
 have hc := c.toNat_lt
 refine Con.of_body Tryz.func169 rfl Tryz.ntmps169 rfl rfl ?_
 refine zb ?_
 refine das rfl ?_
 refine dn ?_
 refine zb ?_
 refine dmv rfl ?_
 refine dmv rfl ?_
 refine dq ((zar rfl)) ?_
 refine dq (zpN zge ty4 rfl rfl rfl (by omega)) ?_
 refine dq (zi ty4 rfl rfl (by rw [show 0 + c.toNat * 1 = c.toNat from by omega]; exact zh3 l c)) ?_
 refine das rfl ?_
 refine dn ?_
 refine zo ?_
 refine zC rfl ?_
 rfl

/-- strings.trimLeftASCII -/
theorem zf0 [Tracks] {s l : Str} (hl : s.length ≤ 1000000) : zaa Tryz.prog 119 [.str s, .vptr (asciiSet l) 0] (.str (s.dropWhile (l.contains ·))) := by
 refine Con.of_body Tryz.func119 rfl Tryz.ntmps119 rfl rfl ?_
 refine zb ?_
 refine das rfl ?_
 refine dn ?_
 refine zf ?_
 refine zm ?_
 refine z8 [0, 5, 6, 7, 8, 9, 10, 11, 12, 13, 14] (fun (t : Str) => [(0, .str t)]) (fun (t : Str) => []) (fun (t : Str) => t.length ≤ s.length ∧ s.dropWhile (l.contains ·) = t.dropWhile (l.contains ·)) (fun (t : Str) => t.length) (s) ?_ ?_ ?_ ?_
 ·exact ⟨Nat.le_refl _, rfl⟩
 ·exact ⟨rfl, trivial⟩
 ·exact List.Perm.refl _
 ·intro t hinv
  obtain ⟨ht, hg⟩ := hinv
  refine zf ?_
  refine zb ?_
  refine dmv rfl ?_
  refine dq (zdb ty9 rfl) ?_
  refine dq (zax rfl rfl) ?_
  refine dn ?_
  refine zj rfl (fun h1 => ?_) (fun h2 => ?_)
  ·try simp at h1
   obtain ⟨x, u, rfl⟩ : ∃ x u, t = x :: u := by cases t with | nil => simp at h1 | cons x u => exact ⟨x, u, rfl⟩
   have hlen : (x :: u).length = u.length + 1 := rfl
   refine zk ?_
   refine ze ?_
   refine zm ?_
   refine zf ?_
   refine zb ?_
   refine dmv rfl ?_
   refine dmv rfl ?_
   refine dq (zb2 (j := 0) (b := x) ty9 rfl rfl rfl rfl) ?_
   refine dq (zw zqz rfl (WeakL.refl _) zc6) ?_
   refine dq (zaw rfl) ?_
   refine dn ?_
   refine zj rfl (fun h3 => ?_) (fun h4 => ?_)
   ·try simp at h3
    refine zN ?_
    refine zS ?_
    refine ze7 rfl ?_
    refine zag ?_
    refine zE ?_
    refine ze ?_
    refine zb ?_
    refine dmv rfl ?_
    refine das rfl ?_
    refine dn ?_
    refine zo ?_
    refine zC rfl ?_
    show HVal.str _ = _
    rw [hg]; simp_all [List.dropWhile_cons]
   ·try simp at h4
    refine zk ?_
    refine ze ?_
    refine zy ?_
    refine dmv rfl ?_
    refine dq (zjK (l := 1) ty9 rfl ⟨_, _, rfl, rfl⟩ rfl (by omega) (by omega)) ?_
    refine das rfl ?_
    refine dn ?_
    refine zz ?_
    refine ⟨_, ?_, ?_, ⟨rfl, trivial⟩, (by repeat (first | exact zp | refine zu rfl ?_ | refine zq rfl rfl ?_)), List.Perm.refl _⟩
    ·refine ⟨by simp at ht ⊢; omega, ?_⟩
     rw [hg]; simp_all [List.dropWhile_cons]
    ·dsimp only; simp
  ·try simp at h2
   obtain rfl : t = [] := by simpa using h2
   refine zN ?_
   refine zS ?_
   refine zag ?_
   refine zE ?_
   refine ze ?_
   refine zb ?_
   refine dmv rfl ?_
   refine das rfl ?_
   refine dn ?_
   refine zo ?_
   refine zC rfl ?_
   show HVal.str _ = _
   rw [hg]; simp_all [List.dropWhile_cons]

/-- strings.trimRightASCII -/
theorem zfL [Tracks] {s l : Str} (hl : s.length ≤ 1000000) : zaa Tryz.prog 120 [.str s, .vptr (asciiSet l) 0] (.str (zd4 (l.contains ·) s)) := by
 refine Con.of_body Tryz.func120 rfl Tryz.ntmps120 rfl rfl ?_
 refine zb ?_
 refine das rfl ?_
 refine dn ?_
 refine zf ?_
 refine zm ?_
 refine z8 [0, 5, 6, 7, 8, 9, 10, 11, 12, 13, 14, 15, 16, 17, 18, 19, 20] (fun (t : Str) => [(0, .str t)]) (fun (t : Str) => []) (fun (t : Str) => t.length ≤ s.length ∧ zd4 (l.contains ·) s = zd4 (l.contains ·) t) (fun (t : Str) => t.length) (s) ?_ ?_ ?_ ?_
 ·exact ⟨Nat.le_refl _, rfl⟩
 ·exact ⟨rfl, trivial⟩
 ·exact List.Perm.refl _
 ·intro t hinv
  obtain ⟨ht, hg⟩ := hinv
  refine zf ?_
  refine zb ?_
  refine dmv rfl ?_
  refine dq (zdb ty9 rfl) ?_
  refine dq (zax rfl rfl) ?_
  refine dn ?_
  refine zj rfl (fun h1 => ?_) (fun h2 => ?_)
  ·try simp at h1
   obtain ⟨u, x, rfl⟩ : ∃ u x, t = u ++ [x] := ⟨_, _, (List.dropLast_concat_getLast (by intro h0; subst h0; simp at h1)).symm⟩
   have hlen : (u ++ [x]).length = u.length + 1 := by simp
   refine zk ?_
   refine ze ?_
   refine zm ?_
   refine zf ?_
   refine zb ?_
   refine dmv rfl ?_
   refine dmv rfl ?_
   refine dmv rfl ?_
   refine dq (zdb ty9 rfl) ?_
   refine dq (zay rfl rfl (by omega) (by omega)) ?_
   refine dq (zb2 (j := u.length) (b := x) ty9 rfl rfl (by omega) (by simp)) ?_
   refine dq (zw zqz rfl (WeakL.refl _) zc6) ?_
   refine dq (zaw rfl) ?_
   refine dn ?_
   refine zj rfl (fun h3 => ?_) (fun h4 => ?_)
   ·try simp at h3
    refine zN ?_
    refine zS ?_
    refine ze7 rfl ?_
    refine zag ?_
    refine zE ?_
    refine ze ?_
    refine zb ?_
    refine dmv rfl ?_
    refine das rfl ?_
    refine dn ?_
    refine zo ?_
    refine zC rfl ?_
    show HVal.str _ = _
    rw [hg]; first | rfl | (rw [zfw, if_neg (by simp_all)])
   ·try simp at h4
    refine zk ?_
    refine ze ?_
    refine zy ?_
    refine dmv rfl ?_
    refine dmv rfl ?_
    refine dq (zdb ty9 rfl) ?_
    refine dq (zay rfl rfl (by omega) (by omega)) ?_
    refine dq (zjK (l := 0) (h := u.length) ty9 rfl rfl ⟨_, _, rfl, by omega⟩ (by omega) (by omega)) ?_
    refine das rfl ?_
    refine dn ?_
    refine zz ?_
    refine ⟨_, ?_, ?_, ⟨rfl, trivial⟩, (by repeat (first | exact zp | refine zu rfl ?_ | refine zq rfl rfl ?_)), List.Perm.refl _⟩
    ·refine ⟨by simp at ht ⊢; omega, ?_⟩
     rw [hg, zfw, if_pos (by simp_all)]; simp
    ·dsimp only; simp
  ·try simp at h2
   obtain rfl : t = [] := by simpa using h2
   refine zN ?_
   refine zS ?_
   refine zag ?_
   refine zE ?_
   refine ze ?_
   refine zb ?_
   refine dmv rfl ?_
   refine das rfl ?_
   refine dn ?_
   refine zo ?_
   refine zC rfl ?_
   show HVal.str _ = _
   rw [hg]; first | rfl | (rw [zfw, if_neg (by simp_all)])

/-- strings.Trim -/
theorem zj7 [Tracks] {s l : Str} (hs : s.length ≤ 1000000) (hl : l.length ≤ 1000000) (h2l : 2 ≤ l.length) (ha : ∀ c ∈ l, c.toNat < 128) : zaa Tryz.prog 74 [.str s, .str l] (.str ((zd4 (l.contains ·) s).dropWhile (l.contains ·))) := by
 refine Con.of_body Tryz.func74 rfl Tryz.ntmps74 rfl rfl ?_
 refine zb ?_
 refine das rfl ?_
 refine dn ?_
 refine zf ?_
 refine zb ?_
 refine dmv rfl ?_
 refine dq (zbb rfl rfl) ?_
 refine dmv rfl ?_
 refine dg rfl rfl (fun hc => ⟨_, OpenTo.refl _, zd rfl⟩) ?_
 refine dg rfl rfl (fun hc => ⟨_, OpenTo.upd (t := 10) rfl (hc) (OpenTo.refl _), zbb rfl rfl⟩) ?_
 refine dq (zL rfl (.inl rfl) (.inr ⟨_, rfl, fun h => by simp_all⟩)) ?_
 refine dn ?_
 refine zj rfl (fun h1 => ?_) (fun h2 => ?_)
 ·try simp at h1
  refine zb ?_
  refine dmv rfl ?_
  refine das rfl ?_
  refine dn ?_
  refine zo ?_
  refine zC rfl ?_
  show HVal.str _ = _
  (rcases h1 with rfl | rfl <;> first | (simp at h2l; done) | (simp [zd4]; done))
 ·try simp at h2
  refine zk ?_
  refine ze ?_
  refine zf ?_
  refine zb ?_
  refine dmv rfl ?_
  refine dq (zdb ty9 rfl) ?_
  refine dq (zaJ rfl rfl) ?_
  refine dmv rfl ?_
  refine dg rfl rfl (fun hc => ⟨_, OpenTo.refl _, zd rfl⟩) ?_
  refine dg rfl rfl (fun hc => ⟨_, OpenTo.upd (t := 18) rfl (hc) (OpenTo.refl _), zb2 (j := 0) (b := l.headD 0) ty9 rfl rfl rfl (hd0 (by intro h0; subst h0; simp at h2l))⟩) ?_
  refine dg rfl rfl (fun hc => ⟨_, OpenTo.upd (t := 19) rfl (hc) (OpenTo.refl _), zJ rfl rfl⟩) ?_
  refine dq (zL rfl (.inr ⟨_, rfl, fun h => by simp_all⟩) (.inl rfl)) ?_
  refine dn ?_
  refine zj rfl (fun h3 => ?_) (fun h3 => ?_)
  ·exfalso
   try simp at h3
   omega
  ·try simp at h3
   refine zk ?_
   refine ze ?_
   refine zf ?_
   refine zb ?_
   refine dmv rfl ?_
   refine dq (zw zrM rfl (WeakL.refl _) (zgr (by assumption) (by assumption))) ?_
   refine dmv rfl ?_
   refine dq (zan rfl rfl) ?_
   refine dq (zan rfl rfl) ?_
   refine de rfl (zab zge rfl fun b5 => ?_)
   refine de0 (zao zge rfl rfl rfl rfl rfl ?_)
   refine das rfl ?_
   refine dn ?_
   refine zO (Ghost.fc0 5 rfl) ?_
   refine zb ?_
   refine dmv rfl ?_
   refine dn ?_
   refine zlf rfl ?_
   refine zb ?_
   refine dmv rfl ?_
   refine dq (zw zrH rfl (WeakL.refl _) (zfL (by assumption))) ?_
   refine dq (zw zrU rfl (WeakL.refl _) (zf0 (Nat.le_trans (zpr _ _) hs))) ?_
   refine das rfl ?_
   refine dn ?_
   refine zo ?_
   refine zC rfl ?_
   show HVal.str _ = _
   rfl

/-- internal/stringslite.IndexByte -/
theorem zef [Tracks] {s : Str} {c : Int}  : zaa Tryz.prog 123 [.str s, .int .u8 c] (.int .i64 (Lib.indexByte s c.toNat.toUInt8)) := by
 refine Con.of_body Tryz.func123 rfl Tryz.ntmps123 rfl rfl ?_
 refine zb ?_
 refine das rfl ?_
 refine dn ?_
 refine zb ?_
 refine dmv rfl ?_
 refine dmv rfl ?_
 refine dq (zlx Tryz.func173 (by kernel_rfl) (by kernel_rfl) (by kernel_rfl) (by kernel_rfl) rfl rfl rfl) ?_
 refine das rfl ?_
 refine dn ?_
 refine zo ?_
 refine zC rfl ?_
 rfl

/-- strings.IndexByte -/
theorem zhi [Tracks] {s : Str} {c : Int}  : zaa Tryz.prog 75 [.str s, .int .u8 c] (.int .i64 (Lib.indexByte s c.toNat.toUInt8)) := by
 refine Con.of_body Tryz.func75 rfl Tryz.ntmps75 rfl rfl ?_
 refine zb ?_
 refine das rfl ?_
 refine dn ?_
 refine zb ?_
 refine dmv rfl ?_
 refine dmv rfl ?_
 refine dq (zw zr1 rfl (WeakL.refl _) zef) ?_
 refine das rfl ?_
 refine dn ?_
 refine zo ?_
 refine zC rfl ?_
 rfl

/-- benchwarmer/benchref1.in -/
theorem zcp [Tracks] {n lo hi : Int}  : zaa Tryz.prog 42 [.int .i64 n, .int .i64 lo, .int .i64 hi] (.bool (!(out n lo hi))) := by
 refine Con.of_body Tryz.func42 rfl Tryz.ntmps42 rfl rfl ?_
 refine zb ?_
 refine das rfl ?_
 refine dn ?_
 refine zb ?_
 refine dmv rfl ?_
 refine dmv rfl ?_
 refine dq (zfz rfl rfl) ?_
 refine dmv rfl ?_
 refine dg rfl rfl (fun hc => ⟨_, OpenTo.refl _, zd rfl⟩) ?_
 refine dg rfl rfl (fun hc => ⟨_, OpenTo.refl _, zd rfl⟩) ?_
 refine dg rfl rfl (fun hc => ⟨_, OpenTo.upd (t := 12) rfl (hc) (OpenTo.upd (t := 11) rfl (hc) (OpenTo.refl _)), zfz rfl rfl⟩) ?_
 refine dq (zL rfl (.inr ⟨_, rfl, fun h => by simp_all⟩) (.inl rfl)) ?_
 refine das rfl ?_
 refine dn ?_
 refine zo ?_
 refine zC rfl ?_
 show HVal.bool _ = _
 congr 1; simp [out]; rw [Bool.eq_iff_iff]; simp; try omega

/-- benchwarmer/benchref1.Key -/
theorem zet [Tracks] {s : Str} (hs : s.length ≤ 1000000) : zaa Tryz.prog 41 [.str s] (.bool (key s)) := by
 refine Con.of_body Tryz.func41 rfl Tryz.ntmps41 rfl rfl ?_
 refine zb ?_
 refine das rfl ?_
 refine dn ?_
 refine zb ?_
 refine dmv rfl ?_
 refine dq (zdb ty9 rfl) ?_
 refine dq (zw zka rfl (WeakL.refl _) zcp) ?_
 refine dmv rfl ?_
 refine dg rfl rfl (fun hc => ⟨_, OpenTo.refl _, zd rfl⟩) ?_
 refine dg rfl rfl (fun hc => ⟨_, OpenTo.upd (t := 7) rfl (hc) (OpenTo.refl _), zw ca74 rfl (WeakL.refl _) (zj7 (l := zg7) hs (by decide) (by decide) (by decide))⟩) ?_
 refine dg rfl rfl (fun hc => ⟨_, OpenTo.upd (t := 8) rfl (hc) (OpenTo.refl _), zbb rfl rfl⟩) ?_
 refine dq (zL rfl (.inr ⟨_, rfl, fun h => by simp_all⟩) (.inl rfl)) ?_
 refine dmv rfl ?_
 refine dg rfl rfl (fun hc => ⟨_, OpenTo.refl _, zd rfl⟩) ?_
 refine dg rfl rfl (fun hc => ⟨_, OpenTo.upd (t := 12) rfl (hc) (OpenTo.refl _), zb2 (j := 0) (b := s.headD 0) ty9 rfl rfl rfl (hd0 (by rintro rfl; simp [out] at hc))⟩) ?_
 refine dg rfl rfl (fun hc => ⟨_, OpenTo.upd (t := 13) rfl (hc) (OpenTo.refl _), zw ca75 rfl (WeakL.refl _) zhi⟩) ?_
 refine dg rfl rfl (fun hc => ⟨_, OpenTo.upd (t := 14) rfl (hc) (OpenTo.refl _), zbw rfl rfl⟩) ?_
 refine dq (zL rfl (.inr ⟨_, rfl, fun h => by simp_all⟩) (.inl rfl)) ?_
 refine das rfl ?_
 refine dn ?_
 refine zo ?_
 refine zC rfl ?_
 show HVal.bool _ = _
 rw [zq6]
 simp [zg7, zii]
end
end Go.Proofs.YtcihcbnjfclkbaaGreatDoor
namespace Go.Proofs
section
open Go.Shelf
def Tryz.lays190_ren : Go.Shelf.Ren := ⟨fun | 190 => 26 | 125 => 69 | 258 => 68 | 128 => 113 | 129 => 114 | 302 => 104 | 303 => 105 | 304 => 106 | 305 => 107 | 306 => 108 | 307 => 109 | 308 => 110 | 309 => 111 | 310 => 112 | 333 => 159 | 329 => 160 | 330 => 161 | 334 => 162 | 335 => 163 | 336 => 164 | 344 => 190 | n => n, fun | 31 => 26 | 9 => 9 | 3 => 3 | 46 => 135 | 0 => 0 | 51 => 177 | 53 => 179 | 4 => 4 | 183 => 171 | 182 => 170 | 131 => 144 | 5 => 5 | 218 => 224 | 222 => 228 | 228 => 258 | 229 => 259 | n => n, fun | n => n⟩
theorem Tryz.lays190 : Go.Proofs.Lays.n190 Tryz.prog Tryz.lays190_ren := {
 mixed := by kernel_rfl
 f125 := Tryz.func69.trans (congrArg some (by kernel_rfl))
 f128 := Tryz.func113.trans (congrArg some (by kernel_rfl))
 f129 := Tryz.func114.trans (congrArg some (by kernel_rfl))
 f190 := Tryz.func26.trans (congrArg some (by kernel_rfl))
 f258 := Tryz.func68.trans (congrArg some (by kernel_rfl))
 f302 := Tryz.func104.trans (congrArg some (by kernel_rfl))
 f303 := Tryz.func105.trans (congrArg some (by kernel_rfl))
 f304 := Tryz.func106.trans (congrArg some (by kernel_rfl))
 f305 := Tryz.func107.trans (congrArg some (by kernel_rfl))
 f306 := Tryz.func108.trans (congrArg some (by kernel_rfl))
 f307 := Tryz.func109.trans (congrArg some (by kernel_rfl))
 f308 := Tryz.func110.trans (congrArg some (by kernel_rfl))
 f309 := Tryz.func111.trans (congrArg some (by kernel_rfl))
 f310 := Tryz.func112.trans (congrArg some (by kernel_rfl))
 f329 := Tryz.func160.trans (congrArg some (by kernel_rfl))
 f330 := Tryz.func161.trans (congrArg some (by kernel_rfl))
 f333 := Tryz.func159.trans (congrArg some (by kernel_rfl))
 f334 := Tryz.func162.trans (congrArg some (by kernel_rfl))
 f335 := Tryz.func163.trans (congrArg some (by kernel_rfl))
 f336 := Tryz.func164.trans (congrArg some (by kernel_rfl))
 f344 := Tryz.func190.trans (congrArg some (by kernel_rfl))
 t0 := Tryz.underlying0
 a0 := Tryz.isAgg0
 z0 := Tryz.sizeOf0
 v0 := Tryz.zeroValue0
 t3 := Tryz.underlying3
 a3 := Tryz.isAgg3
 z3 := Tryz.sizeOf3
 v3 := Tryz.zeroValue3
 t4 := Tryz.underlying4
 a4 := Tryz.isAgg4
 z4 := Tryz.sizeOf4
 v4 := Tryz.zeroValue4
 t5 := Tryz.underlying5
 a5 := Tryz.isAgg5
 z5 := Tryz.sizeOf5
 v5 := Tryz.zeroValue5
 t9 := Tryz.underlying9
 a9 := Tryz.isAgg9
 z9 := Tryz.sizeOf9
 v9 := Tryz.zeroValue9
 t31 := Tryz.underlying26
 a31 := Tryz.isAgg26
 z31 := Tryz.sizeOf26
 v31 := Tryz.zeroValue26
 t46 := Tryz.underlying135
 a46 := Tryz.isAgg135
 z46 := Tryz.sizeOf135
 v46 := Tryz.zeroValue135
 t51 := Tryz.underlying177
 a51 := Tryz.isAgg177
 z51 := Tryz.sizeOf177
 v51 := Tryz.zeroValue177
 t53 := Tryz.underlying179
 a53 := Tryz.isAgg179
 z53 := Tryz.sizeOf179
 v53 := Tryz.zeroValue179
 t131 := Tryz.underlying144
 a131 := Tryz.isAgg144
 z131 := Tryz.sizeOf144
 v131 := Tryz.zeroValue144
 t182 := Tryz.underlying170
 a182 := Tryz.isAgg170
 z182 := Tryz.sizeOf170
 v182 := Tryz.zeroValue170
 t183 := Tryz.underlying171
 a183 := Tryz.isAgg171
 z183 := Tryz.sizeOf171
 v183 := Tryz.zeroValue171
 t218 := Tryz.underlying224
 a218 := Tryz.isAgg224
 z218 := Tryz.sizeOf224
 v218 := Tryz.zeroValue224
 t222 := Tryz.underlying228
 a222 := Tryz.isAgg228
 z222 := Tryz.sizeOf228
 v222 := Tryz.zeroValue228
 t228 := Tryz.underlying258
 a228 := Tryz.isAgg258
 z228 := Tryz.sizeOf258
 v228 := Tryz.zeroValue258
 t229 := Tryz.underlying259
 a229 := Tryz.isAgg259
 z229 := Tryz.sizeOf259
 v229 := Tryz.zeroValue259 }
def Tryz.lays194_ren : Go.Shelf.Ren := ⟨fun | 194 => 27 | n => n, fun | 31 => 26 | 9 => 9 | 3 => 3 | 4 => 4 | 0 => 0 | n => n, fun | n => n⟩
theorem Tryz.lays194 : Go.Proofs.Lays.n194 Tryz.prog Tryz.lays194_ren := {
 mixed := by kernel_rfl
 f194 := Tryz.func27.trans (congrArg some (by kernel_rfl))
 t0 := Tryz.underlying0
 a0 := Tryz.isAgg0
 z0 := Tryz.sizeOf0
 v0 := Tryz.zeroValue0
 t3 := Tryz.underlying3
 a3 := Tryz.isAgg3
 z3 := Tryz.sizeOf3
 v3 := Tryz.zeroValue3
 t4 := Tryz.underlying4
 a4 := Tryz.isAgg4
 z4 := Tryz.sizeOf4
 v4 := Tryz.zeroValue4
 t9 := Tryz.underlying9
 a9 := Tryz.isAgg9
 z9 := Tryz.sizeOf9
 v9 := Tryz.zeroValue9
 t31 := Tryz.underlying26
 a31 := Tryz.isAgg26
 z31 := Tryz.sizeOf26
 v31 := Tryz.zeroValue26 }
def Tryz.lays171_ren : Go.Shelf.Ren := ⟨fun | 171 => 35 | 243 => 71 | 246 => 115 | 283 => 165 | 284 => 166 | 285 => 167 | 286 => 168 | 129 => 114 | 317 => 191 | 318 => 192 | 319 => 193 | 320 => 194 | 337 => 207 | 338 => 208 | n => n, fun | 3 => 3 | 9 => 9 | 2 => 2 | 4 => 4 | 171 => 230 | 0 => 0 | 53 => 179 | 37 => 232 | 5 => 5 | 173 => 233 | 212 => 262 | 51 => 177 | 20 => 20 | 213 => 263 | 46 => 135 | 232 => 290 | 233 => 291 | n => n, fun | 17 => 1 | 18 => 4 | 19 => 5 | n => n⟩
theorem Tryz.lays171 : Go.Proofs.Lays.n171 Tryz.prog Tryz.lays171_ren := {
 mixed := by kernel_rfl
 f129 := Tryz.func114.trans (congrArg some (by kernel_rfl))
 f171 := Tryz.func35.trans (congrArg some (by kernel_rfl))
 f243 := Tryz.func71.trans (congrArg some (by kernel_rfl))
 f246 := Tryz.func115.trans (congrArg some (by kernel_rfl))
 f283 := Tryz.func165.trans (congrArg some (by kernel_rfl))
 f284 := Tryz.func166.trans (congrArg some (by kernel_rfl))
 f285 := Tryz.func167.trans (congrArg some (by kernel_rfl))
 f286 := Tryz.func168.trans (congrArg some (by kernel_rfl))
 f317 := Tryz.func191.trans (congrArg some (by kernel_rfl))
 f318 := Tryz.func192.trans (congrArg some (by kernel_rfl))
 f319 := Tryz.func193.trans (congrArg some (by kernel_rfl))
 f320 := Tryz.func194.trans (congrArg some (by kernel_rfl))
 f337 := Tryz.func207.trans (congrArg some (by kernel_rfl))
 f338 := Tryz.func208.trans (congrArg some (by kernel_rfl))
 t0 := Tryz.underlying0
 a0 := Tryz.isAgg0
 z0 := Tryz.sizeOf0
 v0 := Tryz.zeroValue0
 t2 := Tryz.underlying2
 a2 := Tryz.isAgg2
 z2 := Tryz.sizeOf2
 v2 := Tryz.zeroValue2
 t3 := Tryz.underlying3
 a3 := Tryz.isAgg3
 z3 := Tryz.sizeOf3
 v3 := Tryz.zeroValue3
 t4 := Tryz.underlying4
 a4 := Tryz.isAgg4
 z4 := Tryz.sizeOf4
 v4 := Tryz.zeroValue4
 t5 := Tryz.underlying5
 a5 := Tryz.isAgg5
 z5 := Tryz.sizeOf5
 v5 := Tryz.zeroValue5
 t9 := Tryz.underlying9
 a9 := Tryz.isAgg9
 z9 := Tryz.sizeOf9
 v9 := Tryz.zeroValue9
 t20 := Tryz.underlying20
 a20 := Tryz.isAgg20
 z20 := Tryz.sizeOf20
 v20 := Tryz.zeroValue20
 t37 := Tryz.underlying232
 a37 := Tryz.isAgg232
 z37 := Tryz.sizeOf232
 v37 := Tryz.zeroValue232
 t46 := Tryz.underlying135
 a46 := Tryz.isAgg135
 z46 := Tryz.sizeOf135
 v46 := Tryz.zeroValue135
 t51 := Tryz.underlying177
 a51 := Tryz.isAgg177
 z51 := Tryz.sizeOf177
 v51 := Tryz.zeroValue177
 t53 := Tryz.underlying179
 a53 := Tryz.isAgg179
 z53 := Tryz.sizeOf179
 v53 := Tryz.zeroValue179
 t171 := Tryz.underlying230
 a171 := Tryz.isAgg230
 z171 := Tryz.sizeOf230
 v171 := Tryz.zeroValue230
 t173 := Tryz.underlying233
 a173 := Tryz.isAgg233
 z173 := Tryz.sizeOf233
 v173 := Tryz.zeroValue233
 t212 := Tryz.underlying262
 a212 := Tryz.isAgg262
 z212 := Tryz.sizeOf262
 v212 := Tryz.zeroValue262
 t213 := Tryz.underlying263
 a213 := Tryz.isAgg263
 z213 := Tryz.sizeOf263
 t232 := Tryz.underlying290
 a232 := Tryz.isAgg290
 z232 := Tryz.sizeOf290
 v232 := Tryz.zeroValue290
 t233 := Tryz.underlying291
 a233 := Tryz.isAgg291
 z233 := Tryz.sizeOf291
 v233 := Tryz.zeroValue291
 g17 := by kernel_rfl
 g18 := by kernel_rfl
 g19 := by kernel_rfl }
end
end Go.Proofs
namespace Go.HL
section
variable {P : Program}
open Go.Sort Go.Proofs
theorem zeJ [Tracks] {I : Imm} {F : List MObj} {w : World} {b off n cap sz : Nat} {es : List HVal} (h : Sat P I (.arr (.slice (some ⟨b, off, none⟩) n cap) sz es :: F) w) :
 n = es.length ∧ ∃ rc el fr, w.heap[b]? = some (.cells rc el fr) ∧ Free fr rc.size ∧ (∀ e ∈ es, (zl e).length = sz) ∧ (es.length ≤ cap ∧ cap ≤ 9223372036854775807) ∧ off + cap * sz ≤ rc.size ∧
  (∀ (i j : Nat) (e c : HVal) (v : Value), es[i]? = some e → (zl e)[j]? = some c → rc[off + i * sz + j]? = some v → V I c v) := by
 rcases h.obj _ List.mem_cons_self with ⟨h0, _⟩ | ⟨b', off', cap', rc, el, fr, h1, h2, h3, h4, h5, h6, h7⟩
 ·cases h0
 ·cases h1
  exact ⟨rfl, rc, el, fr, h2, h3, h4, h5, h6, h7⟩
theorem zlb [Tracks] {I : Imm} {F : List MObj} {w : World} {b off n cap : Nat} {l : List (List UInt8)} (h : Sat P I (.arr (.slice (some ⟨b, off, none⟩) n cap) 1 (l.map .str) :: F) w) :
 Holds encStr w b off l.toArray ∧ b < w.heap.size ∧ l.length ≤ cap ∧ n = l.length := by
 obtain ⟨h0, rc, el, fr, h2, h3, h4, h5, h6, h7⟩ := zeJ h
 simp only [List.length_map] at h0 h5
 refine ⟨fun j hj => ?_, ?_, h5.1, h0⟩
 ·have hj' : j < l.length := by simpa using hj
  have hlt : off + j < rc.size := by omega
  constructor
  ·rw [zeo h2, Array.getElem?_eq_getElem hlt]
   have hv := h7 j 0 (.str l[j]) (.str l[j]) rc[off + j] (by simp [hj']) (by simp [zl]) (by simp [Array.getElem?_eq_getElem hlt])
   rw [hv.str_inv]
   simp [hj', encStr]
  ·simp only [World.frozen?, h2]
   have := h3 (off + j) hlt
   simpa using this
 ·rcases Nat.lt_or_ge b w.heap.size with h' | h'
  ·exact h'
  ·simp [Array.getElem?_eq_none h'] at h2
theorem zng [Tracks] {I : Imm} {F : List MObj} {w : World} {b off n cap n' k : Nat} {os : Array Obj} {l zs : List (List UInt8)} (h : Sat P I (.arr (.slice (some ⟨b, off, none⟩) n cap) 1 (l.map .str) :: F) w) (hz : zs.length = l.length) (hn : n' ≤ l.length) :
 Sat P I (.arr (.slice (some ⟨b, off, none⟩) n' cap) 1 ((zs.take n').map .str) :: F) (grow (putRow encStr (Sort.ahead w k) b off zs.toArray) os) := by
 obtain ⟨h0, rc, el, fr, h2, h3, h4, h5, h6, h7⟩ := zeJ h
 simp only [List.length_map] at h0 h5
 have hlt : b < w.heap.size := by
  rcases Nat.lt_or_ge b w.heap.size with h' | h'
  ·exact h'
  ·simp [Array.getElem?_eq_none h'] at h2
 have hheap : ∀ c, c < w.heap.size → (grow (putRow encStr (Sort.ahead w k) b off zs.toArray) os).heap[c]? = (w.heap.modify b (onCells (putCells encStr off zs.toArray)))[c]? := fun c hc => by
  simp only [grow, putRow, mapBlock, Sort.ahead]
  rw [Array.getElem?_append_left (by simpa using hc)]
 refine h.change (m' := .arr (.slice (some ⟨b, off, none⟩) n' cap) 1 ((zs.take n').map .str)) (fun c hc hnc => ?_) (fun c hc => .inl hc) (by simp [MObj.blocks]) ?_ rfl rfl rfl
 ·rw [hheap c hc, Array.getElem?_modify]
  have : b ≠ c := fun hh => hnc (by subst hh; simp [MObj.blocks])
  rw [if_neg this]
 ·refine .inr ⟨b, off, cap, putCells encStr off zs.toArray rc, el, fr, ?_, ?_, ?_, ?_, ?_, ?_, ?_⟩
  ·simp [hz, Nat.min_eq_left hn]
  ·rw [hheap b hlt, Array.getElem?_modify, if_pos rfl, h2]; rfl
  ·simpa [putCells] using h3
  ·intro e he; obtain ⟨a, _, rfl⟩ := List.mem_map.1 he; simp [zl]
  ·simp; omega
  ·simpa [putCells] using h6
  ·intro i j e c v a1 a2 a3
   have hi : i < n' := by
    have := zD a1; simp at this; omega
   rw [List.getElem?_map, List.getElem?_take_of_lt hi] at a1
   cases hq : zs[i]? with
   | none => rw [hq] at a1; simp at a1
   | some s =>
     rw [hq] at a1; simp at a1; subst a1
     have hj : j = 0 := by have := zD a2; simp [zl] at this; omega
     subst hj
     simp [zl] at a2; subst a2
     have hil : i < zs.length := zD hq
     have hr : off + i * 1 + 0 < rc.size := by omega
     rw [putCells, Array.getElem?_mapIdx, Array.getElem?_eq_getElem hr, Option.map_some, if_pos ⟨by omega, by simp; omega⟩] at a3
     have e1 : off + i * 1 + 0 - off = i := by omega
     rw [e1] at a3
     have e2 : zs.toArray[i]! = s := by
      rw [getElem!_pos zs.toArray i (by simpa using hil)]
      have := List.getElem?_eq_getElem hil
      rw [hq] at this; simpa using (Option.some.inj this).symm
     rw [e2] at a3
     cases a3
     exact .str s

theorem VL.one {I : Imm} {h : HVal} {args : List Value} (hv : VL I [h] args) : ∃ v, args = [v] ∧ V I h v := by
 obtain ⟨h1, h2⟩ := hv
 match args, h1 with
 | [v], _ => exact ⟨v, rfl, h2 0 h v rfl rfl⟩

def zbR (l : List (List UInt8)) : List (List UInt8) := l.mergeSort fun x y => decide (x ≤ y)
theorem zhW (l : List (List UInt8)) : (zbR l).length = l.length := by simp [zbR]

/-- A function that works on a slice of strings in place and hands on nothing. -/
theorem zq2 [Tracks] {P : Program} {f : FuncId} {l zs : List (List UInt8)} {v : Value} (hz : zs.length = l.length)
 (h1 : ∀ (b off cap : Nat) (w : World), Holds encStr w b off l.toArray → b < w.heap.size → l.length ≤ cap → Calls P f #[.slice (some ⟨b, off, none⟩) l.length cap] w fun e w' => e = .returned (.tuple #[]) ∧ ∃ n os, w' = grow (putRow encStr (Sort.ahead w n) b off zs.toArray) os)
 (h0 : l = [] → zaa P f [.slice 1 []] (.tup [])) : Con P f [.raw v] [.arr v 1 (l.map .str)] fun x M' => x = .tup [] ∧ M' = [.arr v 1 (zs.map .str)] := by
 intro I F w args ha hs
 obtain ⟨u, rfl, hu⟩ := ha.one
 obtain rfl : u = v := hu.raw_inv
 rcases hs.obj (.arr u 1 (l.map .str)) (by simp) with ⟨rfl, hn⟩ | ⟨b, off, cap, rc, el, fr, rfl, _⟩
 ·have hl : l = [] := by simpa using hn
  subst hl
  have hz0 : zs = [] := List.length_eq_zero_iff.1 hz
  subst hz0
  refine (h0 rfl I (.arr (.slice none 0 0) 1 [] :: F) w [.slice none 0 0] (VL.cons (.slice0 _ _ _) VL.nil) (by simpa using hs)).mono ?_
  rintro _ w' ⟨v, h, M', J, rfl, hle, ⟨rfl, rfl⟩, hv, hsat⟩
  exact ⟨v, _, [.arr (.slice none 0 0) 1 []], J, rfl, hle, ⟨rfl, rfl⟩, hv, by simpa using hsat⟩
 ·rw [List.length_map] at hs ⊢
  obtain ⟨g1, g2, g3, g4⟩ := zlb hs
  refine (h1 b off cap w g1 g2 g3).mono ?_
  rintro _ w' ⟨rfl, n, os, rfl⟩
  refine ⟨_, .tup [], _, I, rfl, .refl I, ⟨rfl, rfl⟩, .tup (by simp) (fun j c v h _ => by simp at h), ?_⟩
  have := zng (n' := l.length) (k := n) (os := os) hs hz (Nat.le_refl _)
  rw [← hz, List.take_length, hz] at this
  exact this
/-- The same, where the slice comes back, cut. -/
theorem zps [Tracks] {P : Program} {f : FuncId} {l zs : List (List UInt8)} {v : Value} (hz : zs.length ≤ l.length)
 (h1 : ∀ (b off cap : Nat) (w : World), Holds encStr w b off l.toArray → b < w.heap.size → l.length ≤ cap → Calls P f #[.slice (some ⟨b, off, none⟩) l.length cap] w fun e w' => e = .returned (.slice (some ⟨b, off, none⟩) zs.length cap) ∧ ∃ n, w' = putRow encStr (Sort.ahead w n) b off (zs ++ List.replicate (l.length - zs.length) []).toArray)
 (h0 : l = [] → ∀ w, Calls P f #[.slice none 0 0] w fun e w' => e = .returned (.slice none 0 0) ∧ w' = w) : Con P f [.raw v] [.arr v 1 (l.map .str)] fun x M' => ∃ u, x = .raw u ∧ M' = [.arr u 1 (zs.map .str)] := by
 intro I F w args ha hs
 obtain ⟨u, rfl, hu⟩ := ha.one
 obtain rfl : u = v := hu.raw_inv
 rcases hs.obj (.arr u 1 (l.map .str)) (by simp) with ⟨rfl, hn⟩ | ⟨b, off, cap, rc, el, fr, rfl, _⟩
 ·have hl : l = [] := by simpa using hn
  subst hl
  have hz0 : zs = [] := List.length_eq_zero_iff.1 (by simpa using hz)
  subst hz0
  refine (h0 rfl w).mono ?_
  rintro _ w' ⟨rfl, rfl⟩
  exact ⟨_, .raw (.slice none 0 0), _, I, rfl, .refl I, ⟨_, rfl, rfl⟩, .raw _ rfl, hs⟩
 ·rw [List.length_map] at hs ⊢
  obtain ⟨g1, g2, g3, g4⟩ := zlb hs
  refine (h1 b off cap w g1 g2 g3).mono ?_
  rintro _ w' ⟨rfl, n, rfl⟩
  refine ⟨_, .raw (.slice (some ⟨b, off, none⟩) zs.length cap), _, I, rfl, .refl I, ⟨_, rfl, rfl⟩, .raw _ rfl, ?_⟩
  have := zng (zs := zs ++ List.replicate (l.length - zs.length) []) (n' := zs.length) (k := n) (os := #[]) hs (by simp; omega) hz
  rw [List.take_left' rfl, grow_empty] at this
  exact this
end
section
theorem zks {α : Type} [BEq α] [LawfulBEq α] [Inhabited α] [DecidableEq α] (d : Array α) (m : Nat) : (Lib.compactUpTo d m).length ≤ m := by
 unfold Lib.compactUpTo
 rw [List.length_map]
 have := List.length_filter_le (Lib.keeps d) (List.range m)
 simpa using this
theorem zog (l : List Str) : (Lib.compact l).length ≤ l.length := zks _ _
end
end Go.HL
namespace Go.Proofs.YtcihcbnjfclkbaaGreatDoor
set_option maxRecDepth 100000
set_option linter.unusedVariables false
set_option linter.unusedSimpArgs false
section
open Go.HL
/-- math/bits.Len64 -/
theorem zip [Tracks]   : zaa Tryz.prog 114 [.int .u64 0] (.int .i64 0) := by
 refine Con.of_body Tryz.func114 rfl Tryz.ntmps114 rfl rfl ?_
 refine zb ?_
 refine das rfl ?_
 refine dn ?_
 refine zf ?_
 refine zb ?_
 refine dmv rfl ?_
 refine dq (zbw rfl rfl) ?_
 refine dn ?_
 refine zcJ rfl ?_
 refine zk ?_
 refine ze ?_
 refine zf ?_
 refine zb ?_
 refine dmv rfl ?_
 refine dq (zbw rfl rfl) ?_
 refine dn ?_
 refine zcJ rfl ?_
 refine zk ?_
 refine ze ?_
 refine zf ?_
 refine zb ?_
 refine dmv rfl ?_
 refine dq (zbw rfl rfl) ?_
 refine dn ?_
 refine zcJ rfl ?_
 refine zk ?_
 refine ze ?_
 refine zb ?_
 refine dmv rfl ?_
 refine dmv rfl ?_
 refine dq (zbK zqw ty5 rfl) ?_
 refine dq (zb2 (j := 0) (b := 0) ty9 rfl rfl rfl rfl) ?_
 refine dq (zbK ty5 ty3 rfl) ?_
 refine dq (zv rfl rfl (by decide) (by decide)) ?_
 refine das rfl ?_
 refine dn ?_
 refine zo ?_
 refine zC rfl ?_
 rfl

/-- math/bits.Len -/
theorem zjM [Tracks]   : zaa Tryz.prog 69 [.int .u64 0] (.int .i64 0) := by
 refine Con.of_body Tryz.func69 rfl Tryz.ntmps69 rfl rfl ?_
 refine zb ?_
 refine das rfl ?_
 refine dn ?_
 refine zf ?_
 refine zcJ rfl ?_
 refine zk ?_
 refine ze ?_
 refine zb ?_
 refine dmv rfl ?_
 refine dq (zw zqD rfl (WeakL.refl _) zip) ?_
 refine das rfl ?_
 refine dn ?_
 refine zo ?_
 refine zC rfl ?_
 rfl

/-- slices.insertionSortOrdered[string] -/
theorem zdG [Tracks]   : zaa Tryz.prog 104 [eSs [], .int .i64 0, .int .i64 0] (.tup []) := by
 refine Con.of_body Tryz.func104 rfl Tryz.ntmps104 rfl rfl ?_
 refine zb ?_
 refine dmv rfl ?_
 refine dq (zv rfl rfl (by omega) (by omega)) ?_
 refine das rfl ?_
 refine dn ?_
 refine zm ?_
 refine z8 [6, 7, 10, 11, 12, 13, 14, 15, 16, 17, 18, 19, 20, 21, 22, 23, 24, 25, 26, 27, 28, 29, 30, 31, 32, 33, 34, 35, 36, 37, 38, 39, 40, 41, 42, 43, 44, 45, 46, 47, 48] (fun (u : Unit) => [(6, .int .i64 1)]) (fun (u : Unit) => []) (fun (u : Unit) => True) (fun (u : Unit) => 0) (()) ?_ ?_ ?_ ?_
 ·trivial
 ·exact ⟨rfl, trivial⟩
 ·exact List.Perm.refl _
 ·intro u hu
  refine zf ?_
  refine zb ?_
  refine dmv rfl ?_
  refine dmv rfl ?_
  refine dq (zJ rfl rfl) ?_
  refine dn ?_
  refine zcJ rfl ?_
  refine zN ?_
  refine zS ?_
  refine zag ?_
  refine zE ?_
  refine zqE rfl ?_
  rfl

/-- slices.pdqsortOrdered[string] -/
theorem zeD [Tracks]   : zaa Tryz.prog 68 [eSs [], .int .i64 0, .int .i64 0, .int .i64 0] (.tup []) := by
 refine Con.of_body Tryz.func68 rfl Tryz.ntmps68 rfl rfl ?_
 refine zb ?_
 refine das rfl ?_
 refine dn ?_
 refine zb ?_
 refine das rfl ?_
 refine dn ?_
 refine zm ?_
 refine z8 (1 :: 2 :: 3 :: 8 :: 9 :: 10 :: 11 :: 12 :: 13 :: 14 :: 15 :: 16 :: 17 :: 18 :: 19 :: 20 :: 21 :: 22 :: 23 :: 24 :: 25 :: 26 :: 27 :: 28 :: 29 :: 30 :: 31 :: 32 :: 33 :: 34 :: 35 :: 36 :: 37 :: 38 :: 39 :: 40 :: 41 :: 42 :: 43 :: 44 :: 45 :: 46 :: 47 :: 48 :: 49 :: 50 :: 51 :: 52 :: 53 :: 54 :: 55 :: 56 :: 57 :: 58 :: 59 :: 60 :: 61 :: 62 :: 63 :: 64 :: 65 :: 66 :: 67 :: 68 :: 69 :: 70 :: 71 :: 72 :: 73 :: 74 :: 75 :: 76 :: 77 :: 78 :: 79 :: 80 :: 81 :: 82 :: 83 :: 84 :: 85 :: 86 :: 87 :: 88 :: 89 :: 90 :: 91 :: 92 :: 93 :: 94 :: 95 :: 96 :: 97 :: 98 :: 99 :: 100 :: 101 :: 102 :: 103 :: 104 :: 105 :: 106 :: 107 :: 108 :: 109 :: 110 :: 111 :: 112 :: 113 :: 114 :: 115 :: 116 :: 117 :: 118 :: 119 :: 120 :: 121 :: 122 :: 123 :: 124 :: 125 :: 126 :: 127 :: 128 :: 129 :: 130 :: 131 :: 132 :: 133 :: []) (fun (u : Unit) => [(1, .int .i64 0), (2, .int .i64 0)]) (fun (u : Unit) => []) (fun (u : Unit) => True) (fun (u : Unit) => 0) (()) ?_ ?_ ?_ ?_
 ·trivial
 ·exact ⟨rfl, rfl, trivial⟩
 ·exact List.Perm.refl _
 ·intro u hu
  refine zm ?_
  refine zb ?_
  refine dmv rfl ?_
  refine dmv rfl ?_
  refine dq (zay rfl rfl (by omega) (by omega)) ?_
  refine das rfl ?_
  refine dn ?_
  refine zf ?_
  refine zb ?_
  refine dmv rfl ?_
  refine dq (zfz rfl rfl) ?_
  refine dn ?_
  refine zlf rfl ?_
  refine zb ?_
  refine dmv rfl ?_
  refine dmv rfl ?_
  refine dmv rfl ?_
  refine dq (zw zrJ rfl (WeakL.refl _) zdG) ?_
  refine dn ?_
  refine zo ?_
  refine zC rfl ?_
  rfl

/-- slices.Sort[[]string,string] -/
theorem zit [Tracks]   : zaa Tryz.prog 26 [eSs []] (.tup []) := by
 refine Con.of_body Tryz.func26 rfl Tryz.ntmps26 rfl rfl ?_
 refine zb ?_
 refine dmv rfl ?_
 refine dq (zB zF rfl) ?_
 refine das rfl ?_
 refine dn ?_
 refine zy ?_
 refine dmv rfl ?_
 refine dmv rfl ?_
 refine dmv rfl ?_
 refine dq (zbK ty3 zeB rfl) ?_
 refine dq (zw ca69 rfl (WeakL.refl _) zjM) ?_
 refine dq (zw ca68 rfl (WeakL.refl _) zeD) ?_
 refine dn ?_
 refine zqE rfl ?_
 rfl

/-- slices.Sort: the slice holds the same strings in order -/
theorem zhe [Tracks] {l : List Str} {v : Value} (hl : l.length ≤ 1000000) : Con Tryz.prog 26 [.raw v] [.arr v 1 (l.map .str)] fun x M' => x = .tup [] ∧ M' = [.arr v 1 ((zbR l).map .str)] :=
 zq2 (zhW l) (fun b off cap w h1 h2 _ => Any.slices_Sort_string Tryz.lays190 b off cap l w h1 h2 (by omega)) (fun _ => zit)

/-- slices.Compact: the slice is cut to the strings that differ from the one before -/
theorem ziR [Tracks] {l : List Str} {v : Value} (hl : l.length ≤ 1000000) : Con Tryz.prog 27 [.raw v] [.arr v 1 (l.map .str)] fun x M' => ∃ u, x = .raw u ∧ M' = [.arr u 1 ((Lib.compact l).map .str)] :=
 zps (zog l) (fun b off cap w h1 h2 h3 => Any.slices_Compact_string Tryz.lays194 b off cap l w h1 (by omega) h3) (fun _ w => Any.slices_Compact_string_empty Tryz.lays194 none 0 w)
end
end Go.Proofs.YtcihcbnjfclkbaaGreatDoor
namespace Go.HL
section
open Op (bytesLess)
theorem zdB (a b : Str) : za2 a b = -za2 b a := by
 rw [zgE, zgE]
 rcases zb1 a b with h | h | h
 ·have hne : a ≠ b := fun e => by subst e; rw [zau] at h; cases h
  simp [h, zbh h, hne.symm]
 ·subst h; simp [zau]
 ·have hne : a ≠ b := fun e => by subst e; rw [zau] at h; cases h
  simp [h, zbh h, hne]
theorem zpI (a b : Int) : orI [-a, -b] = -orI [a, b] := by
 by_cases h1 : a = 0 <;> by_cases h2 : b = 0 <;> simp [orI, h1, h2]
end
section
variable {P : Program}
section
variable {P : Program} {e : Env} {dst : Option Tmp} {ty : TypeId} {pos : String} {af : Array Edge} {g : Option (Nat × Bool)} {M : List MObj} {K : HVal → List MObj → Prop}
theorem zeu {α : Type} : ∀ {l : List α} {i : Nat} {x : α}, l[i]? = some x → l.Perm (x :: l.eraseIdx i)
 | [], i, x, h => by simp at h
 | y :: l, 0, x, h => by simp at h; subst h; exact .refl _
 | y :: l, i + 1, x, h => by
   have := zeu (l := l) (i := i) (x := x) (by simpa using h)
   exact (this.cons y).trans (.swap _ _ _)
/-- A call on one of the owned objects. -/
theorem zh [Tracks] {f : FuncId} {args : Array Operand} {ats : Array TypeId} {hs hs' : List HVal} {i : Nat} {m : MObj} {Q : HVal → List MObj → Prop} (hc : Callable P f) (ha : zcD e args.toList = some hs) (hw : WeakL hs hs') (hm : M[i]? = some m)
 (hp : Con P f hs' [m] Q) (hk : ∀ h M', Q h M' → K h (M' ++ M.eraseIdx i)) : EOp P e M ⟨dst, .call ⟨.value (.func f), args, ats⟩, ty, pos, af, g⟩ K :=
 zds (M1 := [m]) hc ha hw (zeu hm) hp hk
/-- The length of an owned slice. -/
theorem zaZ [Tracks] {α : Type} {f : α → HVal} {x : Operand} {t el : TypeId} {size bytes : Nat} {zero : Value} {i : Nat} {v : Value} {sz : Nat} {es : List α} (hf : Fits P t (.slice el) size bytes zero) (hx : zx e x = some (.raw v))
 (hm : M[i]? = some (.arr v sz (es.map f))) (hk : K (.int .i64 es.length) M) : EOp P e M ⟨dst, .call ⟨.builtin .len, #[x], #[t]⟩, ty, pos, af, g⟩ K := by
 refine zq1 hf hx hm ?_
 rw [List.length_map]; exact hk
/-- An element of an owned slice is loaded, whole or in part, through its address. -/
theorem za5 [Tracks] {α : Type} {f : α → HVal} {x : Operand} {t : TypeId} {d : TD} {size bytes : Nat} {zero : Value} {i b off cap n sz j o : Nat} {es : List α} {y : α} (k : Nat) {h : HVal} (hf : Fits P t d size bytes zero)
 (hx : zx e x = some (.raw (.pointer (some ⟨b, o, none⟩)))) (ho' : o = off + j * sz + k) (hm : M[i]? = some (.arr (.slice (some ⟨b, off, none⟩) n cap) sz (es.map f))) (hj : es[j]? = some y)
 (hd : d.isAgg = false) (hh : (zl (f y))[k]? = some h) (hk : K h M) : EOp P e M ⟨dst, .load t x, ty, pos, af, g⟩ K :=
 zhE (j := j) (f := k) (y := f y) hf hx ho' hm (by rw [List.getElem?_map, hj]; rfl) (.inl ⟨hd, hh⟩) hk
end
section
variable {P : Program} {ops : Array Oper} {n : Nat} {K : Env → List MObj → Prop} {rest : List Oper} {e : Env} {M : List MObj} {d : Nat} {op : Op} {ty : TypeId} {pos : String} {af : Array Edge}
/-- An operation with an effect under a guard: what it brings about holds where it is not carried out as well. -/
theorem dgx [Tracks] {j : Nat} {want c : Bool} (Q : HVal → List MObj → Prop) (hd : Nat.blt d n = true) (hg : zdE ops e j want = some c) (hn : c = false → ∃ x, Q x M)
 (hp : c = true → ∃ e2, OpenTo e e2 ∧ EOp P e2 M ⟨some d, op, ty, pos, af, some (j, want)⟩ Q)
 (k : ∀ x M', Q x M' → Der P ops n K rest (upd e d (.opt c x)) M') : Der P ops n K (⟨some d, op, ty, pos, af, some (j, want)⟩ :: rest) e M :=
 ⟨fun t ht => by simp at ht; subst ht; exact zdC hd, c, hg, fun hc => by
  obtain ⟨e2, h1, h2⟩ := hp hc
  intro I F a w ho hs
  exact Oper.wp_noQ (fun _ _ ⟨v, x, M', J, h3, h4, h5, h7, h8⟩ => ⟨v, .opt c x, M', J, h3, h4, k x M' h5, .opt (fun _ => h7) (fun hf => by rw [hc] at hf; cases hf), h8⟩) (h2 I F a w (ho.open h1) hs),
  fun hc => by
   obtain ⟨x, hx⟩ := hn hc
   subst hc
   exact ⟨x, k x M hx⟩⟩
end
section
variable {P : Program} {e : Env} {dst : Option Tmp} {ty : TypeId} {pos : String} {af : Array Edge} {g : Option (Nat × Bool)}
end
end
section
abbrev pAt (b : Nat) : HVal := .raw (.pointer (some ⟨b, 0, none⟩))
/-- A stream of numbers of which a have been drawn. -/
abbrev St (b : Nat) (l : List Int) (a : Nat) : MObj := .cells b [.slice 1 (l.map (.int .i64)), .int .i64 (a : Int)]
def zd6 (x n : Int) : Int := if n < 1 then 0 else if x.tmod n < 0 then x.tmod n + n else x.tmod n
theorem zhu (x n : Int) : ∃ y : Nat, zd6 x n = (y : Int) ∧ (y : Int) < max n 1 := by
 have h : 0 ≤ zd6 x n ∧ zd6 x n < max n 1 := by
  unfold zd6
  split
  ·omega
  ·have h1 := Int.tmod_lt_of_pos x (show 0 < n by omega)
   have h2 : -n < x.tmod n := by
    have := Int.neg_lt_tmod_of_pos' x n (by omega)
    exact this
   split <;> omega
 exact ⟨(zd6 x n).toNat, by omega, by omega⟩
where
 Int.neg_lt_tmod_of_pos' (x n : Int) (h : 0 < n) : -n < x.tmod n := by
  rcases Int.le_total 0 x with hx | hx
  ·have := Int.tmod_nonneg n hx; omega
  ·have e : x.tmod n = -((-x).tmod n) := by rw [Int.neg_tmod]; simp
   have := Int.tmod_lt_of_pos (-x) h
   omega
theorem getI {L : List Int} {y : Nat} (h : (y : Int) < max (L.length : Int) 1) (h0 : 0 < L.length) : ∃ z, L[y]? = some z ∧ z ∈ L :=
 ⟨L[y]'(by omega), List.getElem?_eq_getElem _, List.getElem_mem _⟩
theorem getS {L : List Str} {y : Nat} (h : (y : Int) < max (L.length : Int) 1) (h0 : 0 < L.length) : ∃ z, L[y]? = some z ∧ z ∈ L :=
 ⟨L[y]'(by omega), List.getElem?_eq_getElem _, List.getElem_mem _⟩
theorem zpV (a b : Nat) : ((a : Int)).tmod (b : Int) = ((a % b : Nat) : Int) := by
 exact (Int.ofNat_tmod a b).symm
end
end Go.HL
namespace Go.Proofs.YtcihcbnjfclkbaaGreatDoor
set_option maxRecDepth 100000
set_option linter.unusedVariables false
set_option linter.unusedSimpArgs false
section
open Go.HL
/-- benchwarmer/benchmake.Below -/
theorem zdU [Tracks] {x n : Int} (hn : n ≤ 4000000000) : zaa Tryz.prog 73 [.int .i64 x, .int .i64 n] (.int .i64 (zd6 x n)) := by
 refine Con.of_body Tryz.func73 rfl Tryz.ntmps73 rfl rfl ?_
 refine zb ?_
 refine das rfl ?_
 refine dn ?_
 refine zf ?_
 refine zb ?_
 refine dmv rfl ?_
 refine dq (zJ rfl rfl) ?_
 refine dn ?_
 refine zj rfl (fun h1 => ?_) (fun h2 => ?_)
 ·try simp at h1
  refine zb ?_
  refine das rfl ?_
  refine dn ?_
  refine zo ?_
  refine zC rfl ?_
  show HVal.int .i64 _ = _
  simp_all [zd6]
  try omega
 ·try simp at h2
  refine zk ?_
  refine ze ?_
  refine zb ?_
  refine dmv rfl ?_
  refine dmv rfl ?_
  refine dq (znn rfl rfl (by omega)) ?_
  refine das rfl ?_
  refine dn ?_
  refine zf ?_
  refine zb ?_
  refine dmv rfl ?_
  refine dq (zJ rfl rfl) ?_
  refine dn ?_
  refine zj rfl (fun h3 => ?_) (fun h4 => ?_)
  ·try simp at h3
   refine zy ?_
   refine dmv rfl ?_
   refine dmv rfl ?_
   have hm := Int.tmod_lt_of_pos x (show 0 < n by omega)
   obtain ⟨y, hy1, hy2⟩ := zhu x n
   have hb : zd6 x n = x.tmod n + n := by unfold zd6; rw [if_neg (by omega), if_pos (by omega)]
   refine dq (zv rfl rfl (by omega) (by omega)) ?_
   refine das rfl ?_
   refine dn ?_
   refine ze ?_
   refine zb ?_
   refine dmv rfl ?_
   refine das rfl ?_
   refine dn ?_
   refine zo ?_
   refine zC rfl ?_
   show HVal.int .i64 _ = _
   simp_all [zd6]
   try omega
  ·try simp at h4
   refine zk ?_
   refine ze ?_
   refine zb ?_
   refine dmv rfl ?_
   refine das rfl ?_
   refine dn ?_
   refine zo ?_
   refine zC rfl ?_
   show HVal.int .i64 _ = _
   simp_all [zd6]
   try omega

/-- (*benchwarmer/benchmake.Stream).Next -/
theorem zal [Tracks] {b : Nat} {l : List Int} {a : Nat} {n : Int} (ha : a ≤ 1000000) (hn : n ≤ 4000000000) : Con Tryz.prog 39 [pAt b, .int .i64 n] [St b l a] (fun x M' => ∃ y : Nat, x = .int .i64 (y : Int) ∧ (y : Int) < max n 1 ∧ M' = [St b l (a + 1)]) := by
 refine Con.of_body Tryz.func39 rfl Tryz.ntmps39 rfl rfl ?_
 refine zb ?_
 refine das rfl ?_
 refine dn ?_
 refine zb ?_
 refine dmv rfl ?_
 refine dq ((zV rfl)) ?_
 refine dq (zn zgf rfl ty3 (by decide) rfl) ?_
 refine de rfl (zG (i := 0) ty3 rfl rfl (.inl ⟨rfl, rfl⟩) ?_)
 refine dq (zv rfl rfl (by omega) (by omega)) ?_
 refine dq ((zV rfl)) ?_
 refine dq (zn zgf rfl ty3 (by decide) rfl) ?_
 refine de0 (zt (i := 0) ty3 rfl rfl rfl rfl rfl (Nat.le_of_ble_eq_true rfl) ?_)
 refine dn ?_
 refine zf ?_
 refine zb ?_
 refine dmv rfl ?_
 refine dq ((zV rfl)) ?_
 refine dq (zn zgf rfl zR (by decide) rfl) ?_
 refine de rfl (zG (i := 0) zR rfl rfl (.inl ⟨rfl, rfl⟩) ?_)
 refine dq (zB zR rfl) ?_
 refine dq (zaJ rfl rfl) ?_
 refine dn ?_
 refine zj rfl (fun h1 => ?_) (fun h2 => ?_)
 ·try simp at h1
  refine zb ?_
  refine dmv rfl ?_
  refine dq ((zV rfl)) ?_
  refine dq (zn zgf rfl ty3 (by decide) rfl) ?_
  refine de rfl (zG (i := 0) ty3 rfl rfl (.inl ⟨rfl, rfl⟩) ?_)
  refine dq (zij rfl rfl) ?_
  refine dmv rfl ?_
  refine dq (zw zpA rfl (WeakL.refl _) (zdU (by assumption))) ?_
  refine das rfl ?_
  refine dn ?_
  refine zo ?_
  refine zbG rfl ?_
  obtain ⟨y, h1, h2⟩ := zhu _ n
  exact ⟨y, congrArg _ h1, h2, rfl⟩
 ·try simp at h2
  refine zk ?_
  refine ze ?_
  have hl0 : 0 < l.length := List.length_pos_iff.2 (by simpa using h2)
  refine za7 (fun M => ∃ i : Nat, M[i]? = some (St b l (a + 1))) [3, 8] mixed ?_
  refine ahp 0 rfl rfl (by kernel_rfl) (by kernel_rfl) (zd rfl) ?_
  refine ahp 1 rfl rfl (by kernel_rfl) (by kernel_rfl) ((zV rfl)) ?_
  refine ahp 2 rfl rfl (by kernel_rfl) (by kernel_rfl) (zn zgf rfl ty3 (by decide) rfl) ?_
  refine ahl 3 rfl rfl (by kernel_rfl) (by kernel_rfl) (by simp) (⟨0, rfl⟩) (fun M hM => by obtain ⟨i, hi⟩ := hM; exact zG (i := i) ty3 rfl hi (.inl ⟨rfl, rfl⟩) ⟨rfl, rfl⟩) ?_
  refine ahp 4 rfl rfl (by kernel_rfl) (by kernel_rfl) (zay rfl rfl (by omega) (by omega)) ?_
  refine ahp 5 rfl rfl (by kernel_rfl) (by kernel_rfl) (zd rfl) ?_
  refine ahp 6 rfl rfl (by kernel_rfl) (by kernel_rfl) ((zV rfl)) ?_
  refine ahp 7 rfl rfl (by kernel_rfl) (by kernel_rfl) (zn zgf rfl zR (by decide) rfl) ?_
  refine ahl 8 rfl rfl (by kernel_rfl) (by kernel_rfl) (by simp) (⟨0, rfl⟩) (fun M hM => by obtain ⟨i, hi⟩ := hM; exact zG (i := i) zR rfl hi (.inl ⟨rfl, rfl⟩) ⟨rfl, rfl⟩) ?_
  refine ahp 9 rfl rfl (by kernel_rfl) (by kernel_rfl) (zB zR rfl) ?_
  refine ahp 10 rfl rfl (by kernel_rfl) (by kernel_rfl) (zcZ (h' := .int .i64 ((a % l.length : Nat) : Int)) (znn rfl rfl (by omega)) (by show HVal.int .i64 (((a : Int) + 1 - 1).tmod _) = _; rw [show ((a : Int) + 1 - 1) = (a : Int) by omega]; exact congrArg _ (zpV _ _))) ?_
  refine ahp 11 rfl rfl (by kernel_rfl) (by kernel_rfl) (zaK rfl) ?_
  refine ahz (by kernel_rfl) ?_
  refine za7 (fun M => ∃ i : Nat, M[i]? = some (St b l (a + 1))) [3, 8] mixed ?_
  refine ahp 0 rfl rfl (by kernel_rfl) (by kernel_rfl) (zd rfl) ?_
  refine ahp 1 rfl rfl (by kernel_rfl) (by kernel_rfl) ((zV rfl)) ?_
  refine ahp 2 rfl rfl (by kernel_rfl) (by kernel_rfl) (zn zgf rfl ty3 (by decide) rfl) ?_
  refine ahl 3 rfl rfl (by kernel_rfl) (by kernel_rfl) (by simp) (⟨0, rfl⟩) (fun M hM => by obtain ⟨i, hi⟩ := hM; exact zG (i := i) ty3 rfl hi (.inl ⟨rfl, rfl⟩) ⟨rfl, rfl⟩) ?_
  refine ahp 4 rfl rfl (by kernel_rfl) (by kernel_rfl) (zay rfl rfl (by omega) (by omega)) ?_
  refine ahp 5 rfl rfl (by kernel_rfl) (by kernel_rfl) (zd rfl) ?_
  refine ahp 6 rfl rfl (by kernel_rfl) (by kernel_rfl) ((zV rfl)) ?_
  refine ahp 7 rfl rfl (by kernel_rfl) (by kernel_rfl) (zn zgf rfl zR (by decide) rfl) ?_
  refine ahl 8 rfl rfl (by kernel_rfl) (by kernel_rfl) (by simp) (⟨0, rfl⟩) (fun M hM => by obtain ⟨i, hi⟩ := hM; exact zG (i := i) zR rfl hi (.inl ⟨rfl, rfl⟩) ⟨rfl, rfl⟩) ?_
  refine ahp 9 rfl rfl (by kernel_rfl) (by kernel_rfl) (zB zR rfl) ?_
  refine ahp 10 rfl rfl (by kernel_rfl) (by kernel_rfl) (zqU rfl rfl (by omega)) ?_
  refine ahp 11 rfl rfl (by kernel_rfl) (by kernel_rfl) (zaK rfl) ?_
  refine ahz (by kernel_rfl) ?_
  refine zb ?_
  refine dmv rfl ?_
  refine dq ((zV rfl)) ?_
  refine dq (zn zgf rfl zR (by decide) rfl) ?_
  refine de rfl (zG (i := 0) zR rfl rfl (.inl ⟨rfl, rfl⟩) ?_)
  refine dmv rfl ?_
  refine dq (zH (j := a % l.length) (a := l[a % l.length]'(Nat.mod_lt _ (by omega))) zR ty3 rfl rfl rfl (List.getElem?_eq_getElem _)) ?_
  refine dq (zi ty3 rfl rfl rfl) ?_
  refine dq (zw zpA rfl (WeakL.refl _) (zdU (by omega))) ?_
  refine dmv rfl ?_
  refine dmv rfl ?_
  refine dq (zgB rfl rfl) ?_
  refine dq (zij rfl rfl) ?_
  refine dq (zgB rfl rfl) ?_
  refine dmv rfl ?_
  refine dq (zw zpA rfl (WeakL.refl _) (zdU (by assumption))) ?_
  refine das rfl ?_
  refine dn ?_
  refine zo ?_
  refine zbG rfl ?_
  obtain ⟨y, h1, h2⟩ := zhu _ n
  exact ⟨y, congrArg _ h1, h2, rfl⟩

/-- (*benchwarmer/benchmake.Stream).Range -/
theorem zai [Tracks] {b : Nat} {l : List Int} {a : Nat} {lo hi : Int} (ha : a ≤ 1000000) (hlh : lo ≤ hi) (h0 : -1000000000 ≤ lo) (h1 : hi ≤ 1000000000) : Con Tryz.prog 30 [pAt b, .int .i64 lo, .int .i64 hi] [St b l a] (fun x M' => ∃ y : Int, x = .int .i64 y ∧ (lo ≤ y ∧ y ≤ hi) ∧ M' = [St b l (a + 1)]) := by
 refine Con.of_body Tryz.func30 rfl Tryz.ntmps30 rfl rfl ?_
 refine zb ?_
 refine das rfl ?_
 refine dn ?_
 refine zf ?_
 refine zb ?_
 refine dmv rfl ?_
 refine dmv rfl ?_
 refine dq (zJ rfl rfl) ?_
 refine dn ?_
 refine zj rfl (fun h1 => ?_) (fun h1 => ?_)
 ·exfalso
  try simp at h1
  omega
 ·try simp at h1
  refine zk ?_
  refine ze ?_
  refine zb ?_
  refine dmv rfl ?_
  refine dmv rfl ?_
  refine dmv rfl ?_
  refine dmv rfl ?_
  refine dq (zay rfl rfl (by omega) (by omega)) ?_
  refine dq (zv rfl rfl (by omega) (by omega)) ?_
  refine de rfl (zh (i := 0) zeL rfl (WeakL.refl _) rfl (zal (by assumption) (by omega)) ?_)
  rintro _ _ ⟨y17, rfl, hy17, rfl⟩
  refine dq (zv rfl rfl (by omega) (by omega)) ?_
  refine das rfl ?_
  refine dn ?_
  refine zo ?_
  exact zbG rfl ⟨_, rfl, by omega, rfl⟩

/-- (*benchwarmer/benchmake.Stream).Flip -/
theorem zaE [Tracks] {b : Nat} {l : List Int} {a : Nat} {n : Int} (ha : a ≤ 1000000) (hn : n ≤ 4000000000) : Con Tryz.prog 32 [pAt b, .int .i64 n] [St b l a] (fun x M' => ∃ y : Bool, x = .bool y ∧ M' = [St b l (a + 1)]) := by
 refine Con.of_body Tryz.func32 rfl Tryz.ntmps32 rfl rfl ?_
 refine zb ?_
 refine das rfl ?_
 refine dn ?_
 refine zb ?_
 refine dmv rfl ?_
 refine dmv rfl ?_
 refine de rfl (zh (i := 0) zeL rfl (WeakL.refl _) rfl (zal (by assumption) (by assumption)) ?_)
 rintro _ _ ⟨y7, rfl, hy7, rfl⟩
 refine dq (zaJ rfl rfl) ?_
 refine das rfl ?_
 refine dn ?_
 refine zo ?_
 exact zbG rfl ⟨_, rfl, rfl⟩

/-- (*benchwarmer/benchmake.Stream).Pick -/
theorem zc [Tracks] {b : Nat} {l : List Int} {a : Nat} {L : List Int} (ha : a ≤ 1000000) (h0 : 0 < L.length) (h1 : L.length ≤ 1000000) : Con Tryz.prog 31 [pAt b, .slice 1 (L.map (.int .i64))] [St b l a] (fun x M' => ∃ y : Int, x = .int .i64 y ∧ y ∈ L ∧ M' = [St b l (a + 1)]) := by
 refine Con.of_body Tryz.func31 rfl Tryz.ntmps31 rfl rfl ?_
 refine zb ?_
 refine das rfl ?_
 refine dn ?_
 refine zb ?_
 refine dmv rfl ?_
 refine dmv rfl ?_
 refine dmv rfl ?_
 refine dq (zB zR rfl) ?_
 refine de rfl (zh (i := 0) zeL rfl (WeakL.refl _) rfl (zal (by assumption) (by omega)) ?_)
 rintro _ _ ⟨y9, rfl, hy9, rfl⟩
 obtain ⟨z, hz, hm⟩ := getI hy9 h0
 refine dq (zH (j := y9) (a := z) zR ty3 rfl rfl rfl hz) ?_
 refine dq (zi ty3 rfl rfl rfl) ?_
 refine das rfl ?_
 refine dn ?_
 refine zo ?_
 exact zbG rfl ⟨_, rfl, hm, rfl⟩

/-- (*benchwarmer/benchmake.Stream).Some -/
theorem zP [Tracks] {b : Nat} {l : List Int} {a : Nat} {L : List Str} (ha : a ≤ 1000000) (h0 : 0 < L.length) (h1 : L.length ≤ 1000000) : Con Tryz.prog 33 [pAt b, eSs L] [St b l a] (fun x M' => ∃ y : Str, x = .str y ∧ y ∈ L ∧ M' = [St b l (a + 1)]) := by
 refine Con.of_body Tryz.func33 rfl Tryz.ntmps33 rfl rfl ?_
 refine zb ?_
 refine das rfl ?_
 refine dn ?_
 refine zb ?_
 refine dmv rfl ?_
 refine dmv rfl ?_
 refine dmv rfl ?_
 refine dq (zB zF rfl) ?_
 refine de rfl (zh (i := 0) zeL rfl (WeakL.refl _) rfl (zal (by assumption) (by omega)) ?_)
 rintro _ _ ⟨y9, rfl, hy9, rfl⟩
 obtain ⟨z, hz, hm⟩ := getS hy9 h0
 refine dq (zH (j := y9) (a := z) zF ty9 rfl rfl rfl hz) ?_
 refine dq (zi ty9 rfl rfl rfl) ?_
 refine das rfl ?_
 refine dn ?_
 refine zo ?_
 exact zbG rfl ⟨_, rfl, hm, rfl⟩

/-- (*benchwarmer/benchmake.Stream).Odd -/
theorem zap [Tracks] {b : Nat} {l : List Int} {a : Nat} {lo hi : Int} (ha : a ≤ 900000) (hlh : lo ≤ hi) (h0 : -1000000000 ≤ lo) (h1 : hi ≤ 1000000000) : Con Tryz.prog 34 [pAt b, .int .i64 lo, .int .i64 hi] [St b l a] (fun x M' => ∃ y : Int, x = .int .i64 y ∧ M' = [St b l (a + 2)]) := by
 refine Con.of_body Tryz.func34 rfl Tryz.ntmps34 rfl rfl ?_
 refine zb ?_
 refine das rfl ?_
 refine dn ?_
 refine zf ?_
 refine zb ?_
 refine dmv rfl ?_
 refine de rfl (zh (i := 0) zgX rfl (WeakL.refl _) rfl (zaE (by omega) (by omega)) ?_)
 rintro _ _ ⟨y8, rfl, rfl⟩
 refine dn ?_
 refine zj rfl (fun h1 => ?_) (fun h2 => ?_)
 ·try simp at h1
  refine zb ?_
  refine dmv rfl ?_
  refine dmv rfl ?_
  refine dq (zay rfl rfl (by omega) (by omega)) ?_
  refine dmv rfl ?_
  refine dq (zv rfl rfl (by omega) (by omega)) ?_
  refine dmv rfl ?_
  refine dmv rfl ?_
  refine dq (zM (hs := [_, _, _, _, _, _]) zR ty3 rfl rfl (by decide) (by decide) rfl) ?_
  refine de rfl (zh (i := 0) zac rfl (WeakL.refl _) rfl (zc (L := [_, _, _, _, _, _]) (by omega) (by simp_all) (by simp_all)) ?_)
  rintro _ _ ⟨y17, rfl, hy17, rfl⟩
  refine das rfl ?_
  refine dn ?_
  refine zo ?_
  exact zbG rfl ⟨_, rfl, rfl⟩
 ·try simp at h2
  refine zk ?_
  refine ze ?_
  refine zb ?_
  refine dmv rfl ?_
  refine dmv rfl ?_
  refine dmv rfl ?_
  refine de rfl (zh (i := 0) zeY rfl (WeakL.refl _) rfl (zai (by omega) (by assumption) (by assumption) (by assumption)) ?_)
  rintro _ _ ⟨y21, rfl, hy21, rfl⟩
  refine das rfl ?_
  refine dn ?_
  refine zo ?_
  exact zbG rfl ⟨_, rfl, rfl⟩
end
end Go.Proofs.YtcihcbnjfclkbaaGreatDoor
namespace Go.HL
section
variable {P : Program}
open Go.Sort Go.Proofs
section
variable {P : Program} {n : Nat} {e : Env} {M : List MObj} {Q : Exit → Env → List MObj → Prop} {c c' : Code}
def zlI [Tracks] {ι : Type} (e : Env) (ks : List Nat) (W : ι → List (Nat × HVal)) (MM : ι → List MObj) (Iv : ι → Prop) (Q : Exit → Env → List MObj → Prop) : Exit → Env → List MObj → Prop
 | .normal, e', M => ∃ e2 M2, Ghost e' M e2 M2 ∧ ∃ j, Iv j ∧ zcL e2 (W j) ∧ zdM ks e e2 ∧ M2.Perm (MM j)
 | x, e', M => Q x e' M
theorem zp7 [Tracks] {ι : Type} (ks : List Nat) (W : ι → List (Nat × HVal)) (MM : ι → List MObj) (Iv : ι → Prop) (h1 : HWp P n c e M (zlI e ks W MM Iv Q))
 (h2 : ∀ i, Iv i → HWp P n c' (loopE e ks (W i)) (MM i) Q) : HWp P n (.seq c c') e M Q := by
 refine zf (zfC h1 ?_)
 intro x e1 M1 hq
 cases x with
 | normal =>
   obtain ⟨e2, M2, hg, j, a1, a2, a3, a4⟩ := hq
   exact zO (hg.trans ((Ghost.sub (Sub.loopE a2 a3)).trans (Ghost.perm a4))) (h2 j a1)
 | _ => exact hq
theorem zbS [Tracks] {ι : Type} {e0 e2 : Env} {M2 : List MObj} {ks : List Nat} {W : ι → List (Nat × HVal)} {MM : ι → List MObj} {Iv : ι → Prop} (hg : Ghost e M e2 M2) (h : zlI e0 ks W MM Iv Q .normal e2 M2) : zlI e0 ks W MM Iv Q .normal e M := by
 obtain ⟨e3, M3, g, r⟩ := h
 exact ⟨e3, M3, hg.trans g, r⟩
theorem znk [Tracks] {ι : Type} {e0 : Env} {ks : List Nat} {W : ι → List (Nat × HVal)} {MM : ι → List MObj} {Iv : ι → Prop} (j : ι) (h : Iv j) (hW : zcL e (W j)) (hk : zdM ks e0 e) (hM : M.Perm (MM j)) : zlI e0 ks W MM Iv Q .normal e M :=
 ⟨e, M, Ghost.sub (Sub.refl _), j, h, hW, hk, hM⟩
end
/-- Another view of the state within a region. -/
theorem zoQ [Tracks] {P : Program} {ops : Array Oper} {n : Nat} {K : Env → List MObj → Prop} {rest : List Oper} {e : Env} {M M' : List MObj} (hm : M = M') (k : Der P ops n K rest e M') : Der P ops n K rest e M := hm ▸ k
/-- The header of an owned slice, with its capacity. -/
theorem zc1 [Tracks] {P : Program} {n : Nat} {e : Env} {M : List MObj} {c : Code} {Q : Exit → Env → List MObj → Prop} {i : Nat} {v : Value} {sz : Nat} {es : List HVal} (hm : M[i]? = some (.arr v sz es))
 (h0 : v = .slice none 0 0 → es = [] → HWp P n c e M Q) (h1 : ∀ b off cap, v = .slice (some ⟨b, off, none⟩) es.length cap → es.length ≤ cap → HWp P n c e M Q) : HWp P n c e M Q := fun I F a w a1 a2 a3 a4 => by
 rcases a4.obj _ (List.mem_append_left _ (List.mem_of_getElem? hm)) with ⟨g1, g2⟩ | ⟨b, off, cap, rc, el, fr, g1, _, _, _, g5, _⟩
 ·exact h0 g1 g2 I F a w a1 a2 a3 a4
 ·exact h1 b off cap g1 g5.1 I F a w a1 a2 a3 a4
theorem zQ [Tracks] {α : Type} {l r : List α} {x : α} (i : Nat) (h : l[i]? = some x) (hr : (l.eraseIdx i).Perm r) : l.Perm (x :: r) := (zeu h).trans (hr.cons x)
theorem zI [Tracks] {α : Type} {l r : List α} {x y : α} (i : Nat) (h : l[i]? = some y) (hy : y = x) (hr : (l.eraseIdx i).Perm r) : l.Perm (x :: r) := hy ▸ zQ i h hr
theorem zlB [Tracks] {P : Program} {f : FuncId} {hargs : List HVal} {h : HVal} (hc : ∀ (I : Imm) (w : World) (args : List Value), VL I hargs args → ∃ v, V I h v ∧ Calls P f args.toArray w fun e w' => e = .returned v ∧ w' = w) : zaa P f hargs h := by
 intro I F w args ha hs
 obtain ⟨v, hv, hcalls⟩ := hc I w args ha
 refine hcalls.mono ?_
 rintro _ w' ⟨rfl, rfl⟩
 exact ⟨v, h, [], I, rfl, .refl I, ⟨rfl, rfl⟩, hv, hs⟩
end
section
abbrev nilS : HVal := .raw (.slice none 0 0)
theorem zqP {i : Nat} (h : i < 100) : (Lib.decDigits i).length ≤ 10 := by
 have : (List.range 100).all (fun i => decide ((Lib.decDigits i).length ≤ 10)) = true := by kernel_rfl
 have := List.all_eq_true.1 this i (List.mem_range.2 h)
 simpa using this
end
end Go.HL
namespace Go.Proofs.YtcihcbnjfclkbaaGreatDoor
set_option maxRecDepth 100000
set_option linter.unusedVariables false
set_option linter.unusedSimpArgs false
section
open Go.HL
/-- strconv.Itoa of a small number -/
theorem zkf [Tracks] {i : Nat} (hi : i < 100) : zaa Tryz.prog 35 [.int .i64 (i : Int)] (.str (Lib.decDigits i)) :=
 zlB fun I w args ha => by
  obtain ⟨u, rfl, hu⟩ := ha.one
  obtain rfl := hu.int_inv
  exact ⟨_, .str _, Any.strconv_Itoa_small Tryz.lays171 i hi w⟩
end
end Go.Proofs.YtcihcbnjfclkbaaGreatDoor
namespace Go.HL
section
section
variable {α : Type} (c : α → α → Int)
def zj1 (x : α) : List α → List α
 | [] => [x]
 | y :: t => if c x y < 0 then y :: zj1 x t else x :: y :: t
def zdn (x : α) (S : List α) : List α := (zj1 c x S.reverse).reverse
def zb4 (l : List α) : List α := l.foldl (fun S x => zdn c x S) []
theorem zpE (x : α) : zdn c x [] = [x] := rfl
theorem zk4 (x y : α) (S : List α) : zdn c x (S ++ [y]) = if c x y < 0 then zdn c x S ++ [y] else S ++ [y, x] := by
 unfold zdn
 rw [List.reverse_append]
 simp only [List.reverse_cons, List.reverse_nil, List.nil_append, List.singleton_append, zj1]
 split <;> simp
theorem znW (l : List α) (x : α) : zb4 c (l ++ [x]) = zdn c x (zb4 c l) := by simp [zb4, List.foldl_append]
theorem zlo (x : α) : ∀ l, (zj1 c x l).Perm (x :: l)
 | [] => .refl _
 | y :: t => by
   simp only [zj1]; split
   ·exact ((zlo x t).cons y).trans (.swap _ _ _)
   ·exact .refl _
theorem zpd (x : α) (S : List α) : (zdn c x S).Perm (x :: S) := by
 unfold zdn
 exact (List.reverse_perm _).trans ((zlo c x _).trans ((List.reverse_perm S).cons x))
theorem zjF : ∀ (l S : List α), (l.foldl (fun S x => zdn c x S) S).Perm (S ++ l)
 | [], S => by simp
 | x :: l, S => by
   simp only [List.foldl_cons]
   refine (zjF l _).trans ?_
   refine ((zpd c x S).append_right l).trans ?_
   exact (List.perm_middle (a := x) (l₁ := S) (l₂ := l)).symm
theorem zn1 (l : List α) : (zb4 c l).Perm l := by
 have := zjF c l []
 simpa [zb4] using this
theorem zfc (l : List α) : (zb4 c l).length = l.length := (zn1 c l).length_eq
/-- A comparison by which things stand in one line, as far as they are in s. -/
structure Cmp (s : α → Prop) : Prop where
 flip : ∀ x y, s x → s y → (c x y < 0 ↔ 0 < c y x)
 trans : ∀ x y z, s x → s y → s z → c x y ≤ 0 → c y z ≤ 0 → c x z ≤ 0
variable {c}
end
end
section
variable {P : Program}
section
variable {P : Program} {e : Env} {dst : Option Tmp} {ty : TypeId} {pos : String} {af : Array Edge} {g : Option (Nat × Bool)} {M : List MObj} {K : HVal → List MObj → Prop}
/-- A whole element of an owned slice is loaded. -/
theorem zcV [Tracks] {α : Type} {f : α → HVal} {x : Operand} {t : TypeId} {d : TD} {size bytes : Nat} {zero : Value} {i b off cap n sz j o : Nat} {es : List α} {y : α} (hf : Fits P t d size bytes zero)
 (hx : zx e x = some (.raw (.pointer (some ⟨b, o, none⟩)))) (ho' : o = off + j * sz) (hm : M[i]? = some (.arr (.slice (some ⟨b, off, none⟩) n cap) sz (es.map f))) (hj : es[j]? = some y)
 (hd : d.isAgg = true) (hs : size = (zl (f y)).length) (hv : f y = .agg (zl (f y))) (hk : K (f y) M) : EOp P e M ⟨dst, .load t x, ty, pos, af, g⟩ K :=
 zhE (j := j) (f := 0) (y := f y) hf hx (by omega) hm (by rw [List.getElem?_map, hj]; rfl) (.inr ⟨hd, by omega, by rw [List.drop_zero, hs, List.take_length]; exact hv⟩) hk
/-- A whole element of an owned slice is stored. -/
theorem zdl [Tracks] {α : Type} {f : α → HVal} {x z : Operand} {t : TypeId} {d : TD} {size bytes : Nat} {zero : Value} {i b off cap n sz j o : Nat} {es : List α} {y y' : α} (hf : Fits P t d size bytes zero)
 (hx : zx e x = some (.raw (.pointer (some ⟨b, o, none⟩)))) (ho' : o = off + j * sz) (hz : zx e z = some (f y')) (hm : M[i]? = some (.arr (.slice (some ⟨b, off, none⟩) n cap) sz (es.map f))) (hj : es[j]? = some y)
 (hok : zdi size (f y') = true) (hfl : zaD (zl (f y')) = true) (hle : (zl (f y')).length = (zl (f y)).length)
 (hk : K .junk (M.set i (.arr (.slice (some ⟨b, off, none⟩) n cap) sz ((es.set j y').map f)))) : EOp P e M ⟨dst, .store t x z, ty, pos, af, g⟩ K := by
 have h0 := (zcs hok).1
 refine zaQ (j := j) (f := 0) (y := f y) (y' := f y') hf hx (by omega) hz hm (by rw [List.getElem?_map, hj]; rfl) hok hfl (by omega) ?_ ?_
 ·rw [zmu hle]
 ·rw [List.map_set] at hk; exact hk
end
theorem ziI : ∀ {cs : List HVal} {j : Nat} {c : HVal}, zaD cs = true → cs[j]? = some c → zaD [c] = true
 | [], j, c, _, h => by simp at h
 | x :: r, 0, c, hf, h => by
   simp at h; subst h
   cases x <;> simp_all [zaD]
 | x :: r, j + 1, c, hf, h => by
   refine ziI (cs := r) (j := j) ?_ (by simpa using h)
   cases x <;> simp_all [zaD]
theorem Sat.arr_take [Tracks] {I : Imm} {F : List MObj} {w : World} {b off n cap sz m : Nat} {es : List HVal} (hm : m ≤ es.length) (h : Sat P I (.arr (.slice (some ⟨b, off, none⟩) n cap) sz es :: F) w) :
 Sat P I (.arr (.slice (some ⟨b, off, none⟩) m cap) sz (es.take m) :: F) w := by
 obtain ⟨_, rc, el, fr, h2, h3, h4, h5, h6, h7⟩ := zeJ h
 refine h.change (m' := .arr (.slice (some ⟨b, off, none⟩) m cap) sz (es.take m)) (fun _ _ _ => rfl) (fun c hc => .inl hc) (by simp [MObj.blocks]) ?_ rfl rfl rfl
 have hl : (es.take m).length = m := by simp; omega
 refine .inr ⟨b, off, cap, rc, el, fr, by rw [hl], h2, h3, fun e he => h4 e (List.mem_of_mem_take he), by omega, h6, fun i j e c v a1 a2 a3 => ?_⟩
 have hi := zD a1
 rw [List.getElem?_take_of_lt (by omega)] at a1
 exact h7 i j e c v a1 a2 a3
theorem Ghost.take [Tracks] {e : Env} {M : List MObj} {b off n cap sz m : Nat} {es : List HVal} (hm : m ≤ es.length) : Ghost e (.arr (.slice (some ⟨b, off, none⟩) n cap) sz es :: M) e (.arr (.slice (some ⟨b, off, none⟩) m cap) sz (es.take m) :: M) :=
 fun _ I F tmps w h1 h2 => ⟨I, .refl I, h1, h2.arr_take hm⟩
def zfo (cap off sz lo : Nat) : Nat := if cap = lo then off else off + lo * sz
section
variable {P : Program} {e : Env} {dst : Option Tmp} {ty : TypeId} {pos : String} {af : Array Edge} {g : Option (Nat × Bool)} {M : List MObj} {K : HVal → List MObj → Prop}
/-- A slice whose header is known is cut. -/
theorem zoD [Tracks] {x : Operand} {lo hi : Option Operand} {t el : TypeId} {size bytes sz b2 : Nat} {zero z2 : Value} {d : TD} {b off n cap l h : Nat}
 (hf : Fits P t (.slice el) size bytes zero) (hel : Fits P el d sz b2 z2) (hx : zx e x = some (.raw (.slice (some ⟨b, off, none⟩) n cap))) (hlo : zbk e lo 0 l) (hhi : zbk e hi n h) (h1 : l ≤ h) (h2 : h ≤ n) (hc : n ≤ cap) :
 POp P e ⟨dst, .slice t x lo hi none, ty, pos, af, g⟩ (.raw (.slice (some ⟨b, zfo cap off sz l, none⟩) (h - l) (cap - l))) :=
 POp.of_val fun I a w ho => by
  have h3 := (ho.one (x := x) (by simp [Op.operands]) hx).raw_inv
  have hb : (Instr.sliceBounds true n cap (Option.map a.eval lo) (Option.map a.eval hi) none).run P w = .ok (l, h, cap) w :=
   zfp (P := P) (e := e) (lo := lo) (hi := hi) (l := l) (h := h) (len := n) (cap := cap) ho (by intro y hy; simp [Op.operands, hy]) (by intro y hy; simp [Op.operands, hy]) hlo hhi h1 h2 hc true w
  refine ⟨_, ?_, .raw _ rfl⟩
  simp [execOp, Instr.sliceAt, run_underlying hf.slice, h3, Instr.slice, hb, hel.run_sizeOf, zfo]
  try (split <;> simp_all [zbZ])
  try omega
/-- Cells of an owned slice behind the first m' elements are cleared: what stays are these. -/
theorem zmo [Tracks] {x : Operand} {t el : TypeId} {size bytes sz b2 : Nat} {zero z2 : Value} {d : TD} {i b off n cap m q o c2 : Nat} {es : List HVal} (m' : Nat)
 (hf : Fits P t (.slice el) size bytes zero) (hel : Fits P el d sz b2 z2) (hz : z2.cells.size = sz) (hz1 : z2.cells.toList.all Value.oneCell' = true)
 (hx : zx e x = some (.raw (.slice (some ⟨b, o, none⟩) q c2))) (ho' : q = 0 ∨ o = off + m * sz) (hm : M[i]? = some (.arr (.slice (some ⟨b, off, none⟩) n cap) sz es)) (hmq : m + q ≤ cap) (hmm : m' ≤ m) (hme : m' ≤ es.length)
 (hk : K .junk (M.set i (.arr (.slice (some ⟨b, off, none⟩) m' cap) sz (es.take m')))) : EOp P e M ⟨dst, .call ⟨.builtin .clear, #[x], #[t]⟩, ty, pos, af, g⟩ K :=
 EOp.of_run fun I F a w ho hs => by
  have h1 := (ho.one (x := x) (by simp [Op.operands, Call.operands]) hx).raw_inv
  have hp := hs.pull hm
  obtain ⟨_, rc, el', fr, h2, h3, h4, h5, h6, h7⟩ := zeJ hp
  have hrun : (execOp a.eval ⟨dst, .call ⟨.builtin .clear, #[x], #[t]⟩, ty, pos, af, g⟩).run P w = ((Builtin.clear_ #[t] ty #[a.eval x]).run P w).andThen fun v w => .ok (.value v) w := by
   simp [execOp, resolve, invoke, builtin]
  rcases Nat.eq_zero_or_pos q with h0 | h0
  ·refine ⟨.tuple #[], .junk, _, w, I, ?_, .refl I, hk, .junk _, ?_⟩
   ·rw [hrun, h1, h0]
    simp [Builtin.clear_, run_underlying hf.slice]
   ·exact Sat.unpull hm (hp.arr_take hme)
  ·have hso : o = off + m * sz := by rcases ho' with h | h; omega; exact h
   have hmul : (m + q) * sz ≤ cap * sz := Nat.mul_le_mul_right _ hmq
   rw [Nat.add_mul] at hmul
   have hlen : (Builtin.zeroCells z2.cells q).toList.length = q * sz := by rw [Array.length_toList, zgC, hz]
   have hone : ∀ v ∈ (Builtin.zeroCells z2.cells q).toList, v.oneCell' = true := fun v hv => by
    simp only [Builtin.zeroCells, Array.toList_map, List.mem_map] at hv
    obtain ⟨r, hr, rfl⟩ := hv
    have hq' : r < q * z2.cells.size := by simpa using hr
    have hpos : 0 < z2.cells.size := by
     rcases Nat.eq_zero_or_pos z2.cells.size with h | h
     ·rw [h] at hq'; simp at hq'
     ·exact h
    have hlt : r % z2.cells.size < z2.cells.size := Nat.mod_lt _ hpos
    rw [getElem!_pos z2.cells _ hlt]
    exact List.all_eq_true.1 hz1 _ (by simp)
   obtain ⟨w', rc', g1, g2, g3, g4, g5, g6, g7, g8, g9⟩ := zck (P := P) b el' fr (off + m * sz) (Builtin.zeroCells z2.cells q).toList 0 w rc h2 h3 hone (by rw [hlen]; omega)
   refine ⟨.tuple #[], .junk, _, w', I, ?_, .refl I, hk, .junk _, ?_⟩
   ·rw [hrun, h1, hso]
    obtain ⟨r, rfl⟩ : ∃ r, q = r + 1 := ⟨q - 1, by omega⟩
    simp [Builtin.clear_, run_underlying hf.slice, hel.run_zero, g1]
   ·refine Sat.unpull hm (hp.change (m' := .arr (.slice (some ⟨b, off, none⟩) m' cap) sz (es.take m')) (fun k hk hnk => g5 k (by simpa [MObj.blocks] using hnk)) (fun k hk => .inl hk) (by simp [MObj.blocks]) ?_ g7 g8 g9.1 (fun _ => Nat.le_of_eq g9.2.symm))
    have hl : (es.take m').length = m' := by simp; omega
    refine .inr ⟨b, off, cap, rc', el', fr, by rw [hl], g2, by rw [g3]; exact h3, fun e he => h4 e (List.mem_of_mem_take he), by omega, by rw [g3]; exact h6, fun p q' y c v a1 a2 a3 => ?_⟩
    have hi := zD a1
    rw [List.getElem?_take_of_lt (by omega)] at a1
    have hq := zD a2
    rw [h4 y (List.mem_of_getElem? a1)] at hq
    have hpm : (p + 1) * sz ≤ m * sz := Nat.mul_le_mul_right _ (by omega)
    rw [Nat.add_mul] at hpm
    rw [g4, if_neg (by omega)] at a3
    exact h7 p q' y c v a1 a2 a3
theorem zmU [Tracks] {I : Imm} {a : Act} {o : Oper} (ho : Opds I e a o) {lo hi : Option Operand} (hlo : ∀ x, lo = some x → x ∈ o.op.operands) (hhi : ∀ x, hi = some x → x ∈ o.op.operands)
 {len cap l h : Nat} (h1 : zbk e lo 0 l) (h2 : zbk e hi len h) (h3 : l ≤ h) (h4 : h ≤ cap) (b : Bool) (w : World) :
 (Instr.sliceBounds b len cap (lo.map a.eval) (hi.map a.eval) none).run P w = .ok (l, h, cap) w := by
 unfold Instr.sliceBounds
 cases lo with
 | none =>
   simp only [zbk] at h1
   subst h1
   cases hi with
   | none => simp only [zbk] at h2; subst h2; simp
   | some y =>
     obtain ⟨k, i, h6, rfl⟩ := h2
     have h7 := (ho.one (hhi y rfl) h6).int_inv
     simp [h7, zbN h4]
 | some x =>
   obtain ⟨k', i', h8, rfl⟩ := h1
   have h9 := (ho.one (hlo x rfl) h8).int_inv
   cases hi with
   | none => simp only [zbk] at h2; subst h2; simp [h9, zbN h3]
   | some y =>
     obtain ⟨k, i, h6, rfl⟩ := h2
     have h7 := (ho.one (hhi y rfl) h6).int_inv
     simp [h7, h9, zbN h4, zbN h3]
/-- A slice whose header is known is cut, within its capacity. -/
theorem zjZ [Tracks] {x : Operand} {lo hi : Option Operand} {t el : TypeId} {size bytes sz b2 : Nat} {zero z2 : Value} {d : TD} {b off n cap l h : Nat}
 (hf : Fits P t (.slice el) size bytes zero) (hel : Fits P el d sz b2 z2) (hx : zx e x = some (.raw (.slice (some ⟨b, off, none⟩) n cap))) (hlo : zbk e lo 0 l) (hhi : zbk e hi n h) (h1 : l ≤ h) (h2 : h ≤ cap) :
 POp P e ⟨dst, .slice t x lo hi none, ty, pos, af, g⟩ (.raw (.slice (some ⟨b, zfo cap off sz l, none⟩) (h - l) (cap - l))) :=
 POp.of_val fun I a w ho => by
  have h3 := (ho.one (x := x) (by simp [Op.operands]) hx).raw_inv
  have hb : (Instr.sliceBounds true n cap (Option.map a.eval lo) (Option.map a.eval hi) none).run P w = .ok (l, h, cap) w :=
   zmU (P := P) (e := e) (lo := lo) (hi := hi) (l := l) (h := h) (len := n) (cap := cap) ho (by intro y hy; simp [Op.operands, hy]) (by intro y hy; simp [Op.operands, hy]) hlo hhi h1 h2 true w
  refine ⟨_, ?_, .raw _ rfl⟩
  simp [execOp, Instr.sliceAt, run_underlying hf.slice, h3, Instr.slice, hb, hel.run_sizeOf, zfo]
  try (split <;> simp_all [zbZ])
  try omega
/-- s[:h] -/
theorem zjj [Tracks] {x : Operand} {hi : Option Operand} {t el : TypeId} {size bytes sz b2 : Nat} {zero z2 : Value} {d : TD} {b off n cap h : Nat}
 (hf : Fits P t (.slice el) size bytes zero) (hel : Fits P el d sz b2 z2) (hx : zx e x = some (.raw (.slice (some ⟨b, off, none⟩) n cap))) (hhi : zbk e hi n h) (h2 : h ≤ cap) :
 POp P e ⟨dst, .slice t x none hi none, ty, pos, af, g⟩ (.raw (.slice (some ⟨b, off, none⟩) h cap)) := by
 have := zjZ (P := P) (dst := dst) (ty := ty) (pos := pos) (af := af) (g := g) (lo := none) (l := 0) hf hel hx rfl hhi (Nat.zero_le _) h2
 have e1 : zfo cap off sz 0 = off := by unfold zfo; split <;> omega
 rwa [e1, Nat.sub_zero, Nat.sub_zero] at this
end
end
section
variable {P : Program}
open Go.ChangeShapes Go.WideShapes Go.RowKit
theorem zlM [Tracks] {W W' : World} {J : Imm} {M : List MObj} (hl : Le (zbV W) J) (hs : Sat P J M W') : Below W.heap.size W W' := by
 have hb : ∀ k, k < W.heap.size → W'.heap[k]? = W.heap[k]? := fun k hk => by
  have h1 : W.heap[k]? = some W.heap[k] := by simp [hk]
  rw [h1]
  exact hs.imm _ _ (hl.heap _ _ h1)
 exact {
  os := hs.os.trans hl.os
  tape := hs.tape.trans hl.tape
  output := hs.output.trans hl.output
  size := by
   rcases Nat.eq_zero_or_pos W.heap.size with h | h
   ·omega
   ·have h1 := hb (W.heap.size - 1) (by omega)
    have h2 : W.heap[W.heap.size - 1]? = some (W.heap[W.heap.size - 1]'(by omega)) := by simp
    rw [h2] at h1
    rcases Nat.lt_or_ge (W.heap.size - 1) W'.heap.size with h3 | h3
    ·omega
    ·rw [Array.getElem?_eq_none h3] at h1; cases h1
  block := hb }
theorem zrb [Tracks] {W : World} (ht : TabI P (zbV W)) : Sat P (zbV W) [] W := ⟨fun _ _ h => h, fun _ h => by simp at h, by simp [blocks], fun _ h => by simp [blocks] at h, rfl, rfl, rfl, ht, fun _ => Nat.le_refl _⟩
theorem zmA [Tracks] {P : Program} {f : FuncId} {l : List Int} (hc : zaa P f [.slice 1 (l.map (.int .i64))] (.bool true)) {W : World} (ht : TabI P (zbV W)) {v : Value} (hv : V (zbV W) (.slice 1 (l.map (.int .i64))) v) :
 Calls P f #[v] W fun e W' => e = .returned (.bool true) ∧ Below W.heap.size W W' := by
 refine (hc (zbV W) [] W [v] (VL.cons hv VL.nil) (zrb ht)).mono ?_
 rintro e W' ⟨u, h, M', J, rfl, hle, ⟨rfl, rfl⟩, hV, hs⟩
 exact ⟨by rw [hV.bool_inv], zlM hle hs⟩
theorem zru [Tracks] {W : World} {a : Addr} {len cap : Nat} {zs : List Int} (hcell : ∀ i, i < zs.length → W.cell? (a.add i) = some (.int .i64 (zs.getD i 0))) (hl : len ≤ zs.length) (hc : len ≤ cap) :
 V (zbV W) (.slice 1 ((zs.take len).map (.int .i64))) (.slice (some a) len cap) := by
 rcases Nat.eq_zero_or_pos len with h0 | h0
 ·subst h0; exact .slice0 _ _ _
 ·obtain ⟨b, off, rfl, hj⟩ := ints_at hcell (by omega)
  have hc0 := hj 0 (by omega)
  unfold World.cell? at hc0
  cases hh : W.heap[b]? with
  | none => rw [hh] at hc0; simp at hc0
  | some o =>
    cases o with
    | cells rc el fr =>
      have hrc : ∀ j, j < zs.length → rc[off + j]? = some (.int .i64 (zs.getD j 0)) := fun j hj' => by
       have := hj j hj'
       unfold World.cell? at this
       simpa [hh] using this
      have hlen : ((zs.take len).map (HVal.int .i64)).length = len := by simp; omega
      have hsz : off + zs.length ≤ rc.size := by
       have := hrc (zs.length - 1) (by omega)
       rcases Nat.lt_or_ge (off + (zs.length - 1)) rc.size with h3 | h3
       ·omega
       ·rw [Array.getElem?_eq_none h3] at this; cases this
      have := V.slice (I := zbV W) (sz := 1) (es := (zs.take len).map (.int .i64)) (b := b) (off := off) (cap := cap) (rc := rc) (el := el) (fr := fr) hh
       (fun e he => by obtain ⟨n, _, rfl⟩ := List.mem_map.1 he; rfl) (by omega) (by omega) (fun i j e c v h1 h2 h3 => by
         have hi := zD h1
         rw [hlen] at hi
         rw [List.getElem?_map, List.getElem?_take_of_lt hi] at h1
         have e1 : zs[i]? = some zs[i] := List.getElem?_eq_getElem (by omega)
         rw [e1] at h1
         simp only [Option.map_some, Option.some.injEq] at h1
         subst h1
         cases j with
         | succ j => simp [zl] at h2
         | zero =>
           simp only [zl, List.getElem?_cons_zero, Option.some.injEq] at h2
           subst h2
           have h4 := hrc i (by omega)
           rw [Nat.mul_one, Nat.add_zero, h4] at h3
           simp only [Option.some.injEq] at h3
           subst h3
           have : zs.getD i 0 = zs[i] := by simp [List.getD, e1]
           rw [this]
           exact .int _ _)
      rw [hlen] at this
      exact this
    | _ => rw [hh] at hc0; simp at hc0
end
section
open Go.Sort Go.Proofs Go.RowKit
variable {P : Program}
theorem znj {w : World} {name : String} {d : DataW Unit} : ∀ {laid : List (String × DataW Unit)} {ps : List MemPlace}, DataW.LaidVars P w laid ps → ∀ (i : Nat), laid[i]? = some (name, d) →
 ∃ g t cs fuel p, P.globalNamed name = some g ∧ (P.globals[g]?).map (·.type) = some t ∧ w.var? P name = some cs ∧ DataW.trod (fun _ => ()) P w 0 (fun _ => true) false fuel t cs.toList = some (d, p)
 | [], _, _, i, h => by simp at h
 | (n, x) :: r, ps, h, 0, hi => by
   simp at hi
   obtain ⟨rfl, rfl⟩ := hi
   obtain ⟨g, t, cs, fuel, p, q, h1, h2, h3, h4, _, _⟩ := h
   exact ⟨g, t, cs, fuel, p, h1, h2, h3, h4⟩
 | (n, x) :: r, ps, h, i + 1, hi => by
   obtain ⟨g, t, cs, fuel, p, q, _, _, _, _, h5, _⟩ := h
   exact znj h5 i (by simpa using hi)
theorem zmv [Tracks] {W : World} {laid : List (String × DataW Unit)} {i g : Nat} {t e : TypeId} {n : Nat} (h : laidMet P laid W) (hi : laid[i]? = some ("internal/strconv.uint64pow10", Lib.tabData .u64 Lib.pow10Tab))
 (hg : P.globalNamed "internal/strconv.uint64pow10" = some g) (hty : (P.globals[g]?).map (·.type) = some t) (ht : P.underlying t = some (.array n e)) (he : P.underlying e = some (.int .u64)) (hce : P.cellsOf e = 1) (hct : P.cellsOf t = n)
 (hl : ∀ g, P.globalNamed "internal/bytealg.MaxLen" = some g → ∃ m, W.cell? ⟨g, 0, none⟩ = some (.int .i64 m)) : TabI P (zbV W) := by
 refine ⟨?_, fun g hg => ?_⟩
 rotate_left
 ·obtain ⟨m, hm⟩ := hl g hg
  unfold World.cell? at hm
  cases hh : W.heap[g]? with
  | none => rw [hh] at hm; cases hm
  | some o =>
    rw [hh] at hm
    cases o with
    | cells c t fr => exact ⟨c, t, fr, m, hh, by simpa using hm⟩
    | _ => cases hm
 obtain ⟨ps, h1, _⟩ := h
 obtain ⟨g', t', cs, fuel, p, a1, a2, a3, a4⟩ := znj h1 i hi
 obtain rfl := Option.some.inj (hg.symm.trans a1)
 obtain rfl := Option.some.inj (hty.symm.trans a2)
 intro g' hg'
 obtain rfl := Option.some.inj (hg.symm.trans hg')
 have hc := Lib.cells_of_tab ht he hce hct a4
 have hv := a3
 unfold World.var? at hv
 rw [hg] at hv
 simp only [Option.bind_some] at hv
 cases hh : W.heap[g]? with
 | none => rw [hh] at hv; cases hv
 | some o =>
   cases o with
   | cells c ty fr =>
     rw [hh] at hv
     simp only [Option.some.injEq] at hv
     subst hv
     refine ⟨ty, fr, ?_⟩
     show W.heap[g]? = _
     rw [hh, ← hc]
   | _ => rw [hh] at hv; cases hv
theorem Sat.lt [Tracks] {I : Imm} {M : List MObj} {w : World} (hs : Sat P I M w) : (∀ b, (∃ o, I.heap b = some o) → b < w.heap.size) ∧ ∀ b ∈ blocks M, b < w.heap.size := by
 have key : ∀ b o, w.heap[b]? = some o → b < w.heap.size := fun b o h => by
  rcases Nat.lt_or_ge b w.heap.size with h' | h'
  ·exact h'
  ·simp [Array.getElem?_eq_none h'] at h
 refine ⟨fun b ⟨o, h⟩ => key b o (hs.imm b o h), fun b hb => ?_⟩
 simp only [blocks, List.mem_flatMap] at hb
 obtain ⟨m, hm, hb⟩ := hb
 obtain ⟨o, ho⟩ := (hs.obj m hm).lies hb
 exact key b o ho
end
section
section
variable {P : Program} {e : Env} {dst : Option Tmp} {ty : TypeId} {pos : String} {af : Array Edge} {g : Option (Nat × Bool)} {M : List MObj} {K : HVal → List MObj → Prop}
/-- make([]T, n) of elements of one cell. -/
theorem zg4 [Tracks] {x y : Operand} {t el : TypeId} {size bytes b2 : Nat} {zero z2 : Value} {d : TD} {n : Nat}
 (hf : Fits P t (.slice el) size bytes zero) (hel : Fits P el d 1 b2 z2) (hz : z2.cells = #[z2]) (hby : Nat.ble b2 1000 = true) (hc : zl (zd7 z2) = [zd7 z2])
 (hx : zx e x = some (.int .i64 (n : Int))) (hy : zx e y = some (.int .i64 (n : Int))) (hn : n ≤ 1000000)
 (hk : ∀ b, K (.raw (.slice (some ⟨b, 0, none⟩) n n)) (.arr (.slice (some ⟨b, 0, none⟩) n n) 1 (List.replicate n (zd7 z2)) :: M)) : EOp P e M ⟨dst, .makeSlice t x y, ty, pos, af, g⟩ K :=
 EOp.of_run fun I F a w ho hs => by
  have h1 := (ho.one (x := x) (by simp [Op.operands]) hx).int_inv
  have h2 := (ho.one (x := y) (by simp [Op.operands]) hy).int_inv
  obtain ⟨i, hi, his, hib, hiz⟩ := hel.typeInfo
  have hb : b2 ≤ 1000 := Nat.le_of_ble_eq_true hby
  have hbn : b2 * n ≤ 1000 * 1000000 := Nat.mul_le_mul hb hn
  have hrun := run_make (P := P) w t el i z2 hf.slice hi hiz .i64 .i64 (n : Int) (n : Int) (by omega) (by omega) (by rw [hib]; omega) (by omega)
  refine ⟨.slice (some ⟨w.heap.size, 0, none⟩) n n, _, _, push w (.cells (madeCells z2.cells (n * 1)) el (0, 0)), I, ?_, .refl I, hk w.heap.size, .raw _ rfl, ?_⟩
  ·simp only [execOp, h1, h2, Sem.run_bind, hrun, his, Result.andThen_ok, Sem.run_pure]
   rfl
  ·refine hs.new_own _ _ rfl (.inr ⟨w.heap.size, 0, n, madeCells z2.cells (n * 1), el, (0, 0), by simp, by simp [push], Free.zero _, ?_, ⟨by simp, by omega⟩, by simp [size_madeCells], ?_⟩)
   ·intro h hh
    rw [List.eq_of_mem_replicate hh, hc]; rfl
   ·intro i j h c v a1 a2 a3
    have hh := List.eq_of_mem_replicate (List.mem_of_getElem? a1)
    subst hh
    rw [hc] at a2
    cases j with
    | succ j => simp at a2
    | zero =>
      simp at a2; subst a2
      rw [hz] at a3
      simp [madeCells] at a3
      obtain ⟨k, hk1, hk2⟩ := a3
      have : v = z2 := by simpa [Nat.mod_one] using hk2.symm
      rw [this]; exact zeM I z2
end
end
section
section
variable {P : Program} {e : Env} {dst : Option Tmp} {ty : TypeId} {pos : String} {af : Array Edge} {g : Option (Nat × Bool)} {M : List MObj} {K : HVal → List MObj → Prop}
theorem V.tup2 [Tracks] {I : Imm} {c d : HVal} {u v : Value} (h1 : V I c u) (h2 : V I d v) : V I (.tup [c, d]) (.tuple #[u, v]) :=
 .tup (by simp) (fun j c v h3 h4 => (VL.cons h1 (VL.cons h2 VL.nil)).2 j c v h3 (by simpa using h4))
theorem zmX [Tracks] {x y : Operand} {t kt et : TypeId} {size bytes s2 b2 s3 b3 : Nat} {zero z2 z3 : Value} {d : TD} {i b : Nat} {ls : List (List UInt8 × HVal)} {s : List UInt8}
 (hf : Fits P t (.map kt et) size bytes zero) (hkt : Fits P kt .str s2 b2 z2) (het : Fits P et d s3 b3 z3) (hx : zx e x = some (.raw (.map (some b)))) (hy : zx e y = some (.str s)) (hm : M[i]? = some (.map b (sk ls)))
 (hk : K (.tup [match zaf s ls with | some p => p.2 | none => zd7 z3, .bool (zaf s ls).isSome]) M) : EOp P e M ⟨dst, .lookup t x y true, ty, pos, af, g⟩ K :=
 EOp.of_run fun I F a w ho hs => by
  have h1 := (ho.one (x := x) (by simp [Op.operands]) hx).raw_inv
  have h2 := (ho.one (x := y) (by simp [Op.operands]) hy).str_inv
  obtain ⟨es, clk, h3, h4, h5⟩ := hs.obj _ (List.mem_append_left _ (List.mem_of_getElem? hm))
  obtain ⟨h6, h7⟩ := zcW h4.1 h5
  obtain ⟨n1, n2⟩ := zdw (I := I) (s := s) es.toList ls 0 h6 h7
  cases hq : zaf s ls with
  | none =>
    rw [hq] at hk
    refine ⟨.tuple #[z3, .bool false], _, M, w, I, ?_, .refl I, hk, V.tup2 (zeM I z3) (.bool _), hs⟩
    simp only [execOp, h1, h2, Instr.lookup, Sem.run_bind, run_underlying hf.mapD, Result.andThen_ok, zbH h3, Sem.run_pure, za0 hkt.strD, Instr.findKey, run_underlying hkt.strD, n1 hq, het.run_zero]
    simp
  | some p =>
    obtain ⟨j, h⟩ := p
    rw [hq] at hk
    obtain ⟨v, g1, g2⟩ := n2 j h hq
    refine ⟨.tuple #[v, .bool true], _, M, w, I, ?_, .refl I, hk, V.tup2 g2 (.bool _), hs⟩
    simp only [execOp, h1, h2, Instr.lookup, Sem.run_bind, run_underlying hf.mapD, Result.andThen_ok, zbH h3, Sem.run_pure, za0 hkt.strD, Instr.findKey, run_underlying hkt.strD, g1]
    simp
end
section
variable {P : Program}
end
end
section
section
variable {κ : Type} [DecidableEq κ]
def kk (ek : κ → HVal) (l : List (κ × HVal)) : List (HVal × HVal) := l.map fun p => (ek p.1, p.2)
def zi7 (x : κ) (h : HVal) : List (κ × HVal) → List (κ × HVal)
 | [] => [(x, h)]
 | p :: r => if x = p.1 then (x, h) :: r else p :: zi7 x h r
def KNodup (l : List (κ × HVal)) : Prop := (l.map (·.1)).Nodup
theorem zlm {x y : κ} {h : HVal} : ∀ {l : List (κ × HVal)}, y ∈ (zi7 x h l).map (·.1) ↔ y = x ∨ y ∈ l.map (·.1)
 | [] => by simp [zi7]
 | p :: r => by
   simp only [zi7]
   split
   ·rename_i e; subst e; simp
   ·simp only [List.map_cons, List.mem_cons, zlm]
    constructor
    ·rintro (a | a | a)
     ·exact .inr (.inl a)
     ·exact .inl a
     ·exact .inr (.inr a)
    ·rintro (a | a | a)
     ·exact .inr (.inl a)
     ·exact .inl a
     ·exact .inr (.inr a)
theorem KNodup.put {x : κ} {h : HVal} : ∀ {l : List (κ × HVal)}, KNodup l → KNodup (zi7 x h l)
 | [], _ => by simp [KNodup, zi7]
 | p :: r, hn => by
   unfold KNodup at *
   simp only [List.map_cons, List.nodup_cons] at hn
   simp only [zi7]
   split
   ·rename_i e; subst e; simpa using hn
   ·rename_i e
    simp only [List.map_cons, List.nodup_cons]
    refine ⟨fun q => ?_, KNodup.put (l := r) hn.2⟩
    rcases zlm.1 q with q | q
    ·exact e q.symm
    ·exact hn.1 q
variable {P : Program} {kt : TypeId} {ek : κ → HVal}
variable [Tracks] {e : Env} {dst : Option Tmp} {ty : TypeId} {pos : String} {af : Array Edge} {g : Option (Nat × Bool)} {M : List MObj} {K : HVal → List MObj → Prop}
end
end
section
section
variable {P : Program}
end
/-! ranges -/
theorem zgI {α : Type} [DecidableEq α] : ∀ {l m : List α}, l.Nodup → (∀ x ∈ l, x ∈ m) → l.length ≤ m.length
 | [], _, _, _ => Nat.zero_le _
 | a :: l, m, h, hs => by
   have ha := hs a List.mem_cons_self
   obtain ⟨h1, h2⟩ := List.nodup_cons.1 h
   have h3 := zgI (m := m.erase a) h2 fun x hx => (List.mem_erase_of_ne (fun e : x = a => h1 (by rw [← e]; exact hx))).2 (hs x (List.mem_cons_of_mem _ hx))
   rw [List.length_erase_of_mem ha] at h3
   have := List.length_pos_of_mem ha
   simp; omega
section
variable {P : Program} {e : Env} {dst : Option Tmp} {ty : TypeId} {pos : String} {af : Array Edge} {g : Option (Nat × Bool)} {M : List MObj} {K : HVal → List MObj → Prop}
end
end
section
section
variable {P : Program} {e : Env} {dst : Option Tmp} {ty : TypeId} {pos : String} {af : Array Edge} {g : Option (Nat × Bool)} {M : List MObj} {K : HVal → List MObj → Prop}
end
section
variable {κ : Type} [DecidableEq κ]
variable {P : Program} {kt : TypeId} {ek : κ → HVal} {e : Env} {dst : Option Tmp} {ty : TypeId} {pos : String} {af : Array Edge} {g : Option (Nat × Bool)} {M : List MObj} {K : HVal → List MObj → Prop}
end
end
section
section
variable {κ : Type} [DecidableEq κ] {α : Type}
def alk (x : κ) : List (κ × α) → Option α
 | [] => none
 | p :: r => if x = p.1 then some p.2 else alk x r
def zaC (x : κ) (v : α) : List (κ × α) → List (κ × α)
 | [] => [(x, v)]
 | p :: r => if x = p.1 then (x, v) :: r else p :: zaC x v r
abbrev em (f : α → HVal) (L : List (κ × α)) : List (κ × HVal) := L.map fun p => (p.1, f p.2)
theorem zkc (x y : κ) (v : α) : ∀ (l : List (κ × α)), alk y (zaC x v l) = if y = x then some v else alk y l
 | [] => by simp [zaC, alk]
 | p :: r => by
   have ih := zkc x y v r
   simp only [zaC]
   by_cases h : x = p.1
   ·subst h
    rw [if_pos rfl]; simp only [alk]
    by_cases hy : y = p.1
    ·rw [if_pos hy, if_pos hy]
    ·rw [if_neg hy, if_neg hy, if_neg hy]
   ·rw [if_neg h]; simp only [alk]
    by_cases hy : y = p.1
    ·have : ¬ y = x := fun e => h (e ▸ hy)
     rw [if_pos hy, if_neg this, if_pos hy]
    ·rw [if_neg hy, ih, if_neg hy]
theorem ziX {x : κ} : ∀ {l : List (κ × α)}, alk x l = none ↔ x ∉ l.map (·.1)
 | [] => by simp [alk]
 | p :: r => by
   have ih := ziX (x := x) (l := r)
   simp only [alk, List.map_cons, List.mem_cons, not_or]
   by_cases h : x = p.1
   ·rw [if_pos h]; simp [h]
   ·rw [if_neg h, ih]; simp [h]
theorem zmg {x : κ} {v : α} : ∀ {l : List (κ × α)}, alk x l = none → zaC x v l = l ++ [(x, v)]
 | [], _ => rfl
 | p :: r, h => by
   simp only [alk] at h
   by_cases hx : x = p.1
   ·rw [if_pos hx] at h; cases h
   ·rw [if_neg hx] at h
    simp only [zaC, if_neg hx, List.cons_append, zmg h]
theorem zhT {x y : κ} {v : α} : ∀ {l : List (κ × α)}, y ∈ (zaC x v l).map (·.1) ↔ y = x ∨ y ∈ l.map (·.1)
 | [] => by simp [zaC]
 | p :: r => by
   have ih := zhT (x := x) (y := y) (v := v) (l := r)
   simp only [zaC]
   by_cases h : x = p.1
   ·subst h; rw [if_pos rfl]; simp
   ·rw [if_neg h]; simp only [List.map_cons, List.mem_cons, ih]
    constructor
    ·rintro (h | h | h)
     ·exact .inr (.inl h)
     ·exact .inl h
     ·exact .inr (.inr h)
    ·rintro (h | h | h)
     ·exact .inr (.inl h)
     ·exact .inl h
     ·exact .inr (.inr h)
def ANodup (l : List (κ × α)) : Prop := (l.map (·.1)).Nodup
theorem ANodup.nil {A B : Type} : ANodup ([] : List (A × B)) := List.nodup_nil
theorem ANodup.put {x : κ} {v : α} : ∀ {l : List (κ × α)}, ANodup l → ANodup (zaC x v l)
 | [], _ => by simp [ANodup, zaC]
 | p :: r, hn => by
   have h1 := (List.nodup_cons.1 hn)
   by_cases h : x = p.1
   ·subst h
    have e : zaC p.1 v (p :: r) = (p.1, v) :: r := by simp [zaC]
    rw [e]; exact List.nodup_cons.2 h1
   ·have e : zaC x v (p :: r) = p :: zaC x v r := by simp [zaC, h]
    rw [e]
    refine List.nodup_cons.2 ⟨fun hm => ?_, ANodup.put (l := r) h1.2⟩
    rcases zhT.1 hm with e | e
    ·exact h e.symm
    ·exact h1.1 e
theorem zcH {x : κ} {v : α} : ∀ {l : List (κ × α)}, alk x l = some v → (x, v) ∈ l
 | [], h => by simp [alk] at h
 | p :: r, h => by
   simp only [alk] at h
   by_cases hx : x = p.1
   ·rw [if_pos hx] at h; cases h; rw [hx]; exact List.mem_cons_self
   ·rw [if_neg hx] at h; exact List.mem_cons_of_mem _ (zcH h)
theorem zlX (x : κ) (v : α) : ∀ (l : List (κ × α)), (zaC x v l).length = if (alk x l).isSome then l.length else l.length + 1
 | [] => by simp [zaC, alk]
 | p :: r => by
   have ih := zlX x v r
   by_cases h : x = p.1
   ·have e1 : zaC x v (p :: r) = (x, v) :: r := by simp [zaC, h]
    have e2 : alk x (p :: r) = some p.2 := by simp [alk, h]
    rw [e1, e2]; simp
   ·have e1 : zaC x v (p :: r) = p :: zaC x v r := by simp [zaC, h]
    have e2 : alk x (p :: r) = alk x r := by simp [alk, h]
    rw [e1, e2, List.length_cons, ih]; split <;> simp
theorem zrd (x : κ) (v : α) (l : List (κ × α)) : (zaC x v l).length ≤ l.length + 1 := by rw [zlX]; split <;> omega
theorem zdz {x : κ} {v : α} {p : κ × α} : ∀ {l : List (κ × α)}, p ∈ zaC x v l → p = (x, v) ∨ p ∈ l
 | [], hp => by simp [zaC] at hp; exact .inl hp
 | q :: r, hp => by
   simp only [zaC] at hp
   by_cases h : x = q.1
   ·rw [if_pos h] at hp
    rcases List.mem_cons.1 hp with e | e
    ·exact .inl e
    ·exact .inr (List.mem_cons_of_mem _ e)
   ·rw [if_neg h] at hp
    rcases List.mem_cons.1 hp with e | e
    ·exact .inr (e ▸ List.mem_cons_self)
    ·rcases zdz e with e | e
     ·exact .inl e
     ·exact .inr (List.mem_cons_of_mem _ e)
theorem zi6 (f : α → HVal) (s : Str) : ∀ L : List (Str × α), (zaf s (em f L)).map (·.2) = (alk s L).map f
 | [] => rfl
 | p :: r => by
   have ih := zi6 f s r
   obtain ⟨k, v⟩ := p
   simp only [List.map_cons, zaf, alk] at ih ⊢
   by_cases h : s = k
   ·rw [if_pos h, if_pos h]; rfl
   ·rw [if_neg h, if_neg h, ← ih]; cases zaf s (r.map fun p => (p.1, f p.2)) <;> rfl
theorem znm (f : α → HVal) (s : Str) (v : α) : ∀ L : List (Str × α), zdD s (f v) (em f L) = em f (zaC s v L)
 | [] => rfl
 | p :: r => by
   have ih := znm f s v r
   obtain ⟨k, u⟩ := p
   simp only [zdD, List.map_cons, zaf, zaC] at ih ⊢
   by_cases h : s = k
   ·subst h; rw [if_pos rfl, if_pos rfl]; rfl
   ·rw [if_neg h, if_neg h]
    cases hq : zaf s (r.map fun p => (p.1, f p.2)) with
    | none => rw [hq] at ih; simp only [Option.map_none, List.cons_append, List.map_cons, ← ih]
    | some q => rw [hq] at ih; simp only [Option.map_some, List.set_cons_succ, List.map_cons, ← ih]
end
section
variable {κ : Type} [DecidableEq κ] {α : Type}
variable {P : Program} {e : Env} {dst : Option Tmp} {ty : TypeId} {pos : String} {af : Array Edge} {g : Option (Nat × Bool)} {M : List MObj} {K : HVal → List MObj → Prop}
theorem zm2 [Tracks] {x y z : Operand} {t kt et : TypeId} {size bytes s2 b2 : Nat} {zero z2 : Value} {i b : Nat} {f : α → HVal} {L : List (Str × α)} {s : Str} {v : α}
 (hf : Fits P t (.map kt et) size bytes zero) (hkt : Fits P kt .str s2 b2 z2) (hx : zx e x = some (.raw (.map (some b)))) (hy : zx e y = some (.str s)) (hz : zx e z = some (f v)) (hm : M[i]? = some (.map b (sk (em f L))))
 (hk : K .junk (M.set i (.map b (sk (em f (zaC s v L)))))) : EOp P e M ⟨dst, .mapUpdate t x y z, ty, pos, af, g⟩ K := by
 refine zhc hf hkt hx hy hz hm ?_
 rw [znm]; exact hk
variable {kt : TypeId} {ek : κ → HVal}
end
end
section
section
variable {α : Type}
def Srt (c : α → α → Int) (l : List α) : Prop := l.Pairwise fun a b => c a b ≤ 0
theorem Cmp.self {c : α → α → Int} (hc : Cmp c fun _ => True) (x : α) : c x x ≤ 0 := by
 have := hc.flip x x trivial trivial; omega
theorem Srt.get {c : α → α → Int} (hc : Cmp c fun _ => True) {l : List α} (h : Srt c l) {i j : Nat} {x y : α} (hij : i ≤ j) (hx : l[i]? = some x) (hy : l[j]? = some y) : c x y ≤ 0 := by
 rcases Nat.lt_or_ge i j with hlt | hge
 ·have h1 := zD hx
  have h2 := zD hy
  have := List.pairwise_iff_getElem.1 h i j h1 h2 hlt
  rw [List.getElem?_eq_getElem h1] at hx
  rw [List.getElem?_eq_getElem h2] at hy
  rw [Option.some.inj hx, Option.some.inj hy] at this
  exact this
 ·have e : i = j := by omega
  rw [e, hy] at hx
  rw [Option.some.inj hx]; exact hc.self _
theorem Srt.take {c : α → α → Int} {l : List α} (h : Srt c l) (k : Nat) : Srt c (l.take k) := List.Pairwise.sublist (List.take_sublist k l) h
theorem Srt.drop {c : α → α → Int} {l : List α} (h : Srt c l) (k : Nat) : Srt c (l.drop k) := List.Pairwise.sublist (List.drop_sublist k l) h
theorem Srt.nil {c : α → α → Int} : Srt c [] := List.Pairwise.nil
end
end
end Go.HL
section
namespace Go.HL
section
variable {P : Program} {ops : Array Oper} {n : Nat} {S : List MObj → Prop} {ld : List Nat} {K : Env → List MObj → Prop} {e : Env} {M : List MObj} {listed : Array Bool} {fuel : Nat} {d : Nat} {op : Op} {ty : TypeId} {pos : String} {af : Array Edge} {h : HVal}
/-- A load under a guard out of owned objects of which S knows enough is taken first. -/
theorem zko [Tracks] (i : Nat) {j : Nat} {want c : Bool} (hi : ops[i]? = some ⟨some d, op, ty, pos, af, some (j, want)⟩) (hd : Nat.blt d n = true) (hf : Region.free .any ops listed i = true) (hr : (Region.ready .any ops listed).contains i = true) (hl : i ∈ ld) (hS : S M)
 (hg : zdE ops e j want = some c) (hp : c = true → ∃ e2, OpenTo e e2 ∧ ∀ M, S M → EOp P e2 M ⟨some d, op, ty, pos, af, some (j, want)⟩ fun x M' => x = h ∧ M' = M)
 (k : HAny P ops n S ld K fuel (listed.setIfInBounds i true) (upd e d (.opt c h)) M) : HAny P ops n S ld K (fuel + 1) listed e M :=
 HAny.first (T := S) hi (fun t ht => by simp at ht; subst ht; exact zdC hd) (.inr ⟨rfl, hl⟩) fuel listed e M (Region.free_spec hi hf) (by simpa using hr)
  ⟨c, hg, fun hc M hM => by
   obtain ⟨e2, h1, h2⟩ := hp hc
   intro I F a w ho hs
   exact Oper.wp_noQ (fun _ _ ⟨v, x, M', J, h3, h4, ⟨e1, e3⟩, h5, h6⟩ => ⟨v, .opt c h, M, J, h3, h4, ⟨rfl, rfl⟩, .opt (fun _ => e1 ▸ h5) (fun hf => by rw [hc] at hf; cases hf), e3 ▸ h6⟩) (h2 M hM I F a w (ho.open h1) hs),
   fun hc => ⟨h, by rw [hc]⟩⟩ hS k
end
theorem zr3 {x : Nat} (h : x < 16) : IntKind.wrap .u8 (x : Int) = (x : Int) := by
 have : (List.range 16).all (fun x => IntKind.wrap .u8 (x : Int) == (x : Int)) = true := by decide
 simpa using List.all_eq_true.1 this x (List.mem_range.2 h)
theorem zqS {x : Nat} (h : x < 16) : IntKind.wrap .u64 (x : Int) = (x : Int) := by
 have : (List.range 16).all (fun x => IntKind.wrap .u64 (x : Int) == (x : Int)) = true := by decide
 simpa using List.all_eq_true.1 this x (List.mem_range.2 h)
theorem zbY {k : IntKind} {a b : Int} (h : a = b) : some (HVal.int k a) = some (.int k b) := by rw [h]
section
variable {α : Type} {c : α → α → Int}
theorem zmW (l : List α) : zb4 c (l.take 1) ++ l.drop 1 = l := by
 cases l with
 | nil => rfl
 | cons x r => simp [zb4, zdn, zj1]
theorem zkp {A R : List α} {x : α} : (A ++ x :: R)[A.length]? = some x := by simp
theorem zg0 {A R : List α} {x : α} (h : 0 < A.length) : (A ++ x :: R)[A.length - 1]? = some ((A[A.length - 1]?).getD x) := by
 rw [List.getElem?_append_left (by omega), List.getElem?_eq_getElem (by omega)]
 simp [List.getElem?_eq_getElem (show A.length - 1 < A.length by omega)]
theorem zm5 {A : List α} (h : 0 < A.length) : ∃ B y, A = B ++ [y] := by
 have hne : A ≠ [] := fun e => by subst e; simp at h
 exact ⟨_, _, (List.dropLast_concat_getLast hne).symm⟩
theorem zgc {A : List α} {y d : α} : ((A ++ [y])[(A ++ [y]).length - 1]?).getD d = y := by simp
theorem zpB {A R : List α} {x y : α} : (((A ++ [y]) ++ x :: R).set (A ++ [y]).length y).set ((A ++ [y]).length - 1) x = A ++ x :: y :: R := by
 have e1 : ((A ++ [y]) ++ x :: R).set (A ++ [y]).length y = (A ++ [y]) ++ y :: R := by rw [List.set_append_right _ _ (Nat.le_refl _)]; simp
 rw [e1, List.append_assoc]
 have e2 : (A ++ [y]).length - 1 = A.length := by simp
 rw [e2, List.set_append_right _ _ (Nat.le_refl _)]
 simp
/-- The zcA loop ends. -/
theorem zqc {l A B : List α} {x : α} {k : Nat} (hx : l[k]? = some x) (hB : zdn c x (zb4 c (l.take k)) = zdn c x A ++ B) (h : 0 < A.length → ¬ c x ((A[A.length - 1]?).getD x) < 0) : A ++ x :: (B ++ l.drop (k + 1)) = zb4 c (l.take (k + 1)) ++ l.drop (k + 1) := by
 rw [zb3 hx, znW, hB]
 rcases Nat.eq_zero_or_pos A.length with h0 | h0
 ·obtain rfl := List.length_eq_zero_iff.1 h0
  simp [zpE]
 ·obtain ⟨A', y, rfl⟩ := zm5 h0
  have := h h0
  rw [zgc] at this
  rw [zk4, if_neg this]; simp
theorem zqd {A B : List α} {x y : α} {S : List α} (hB : zdn c x S = zdn c x (A ++ [y]) ++ B) (h : c x y < 0) : zdn c x S = zdn c x A ++ (y :: B) := by
 rw [hB, zk4, if_pos h]; simp
end
end Go.HL
namespace Go.HL
section
variable {α : Type} {p : α → Bool}
/-- What slices.DeleteFunc has done when it looks at place j. -/
structure DelInv (p : α → Bool) (l : List α) (j : Nat) (D : List α) : Prop where
 len : D.length = l.length
 jle : j ≤ l.length
 lt : ((l.take j).filter (fun x => !p x)).length < j
 kept : D.take ((l.take j).filter (fun x => !p x)).length = (l.take j).filter (fun x => !p x)
 rest : D.drop j = l.drop j
theorem DelInv.get {l D : List α} {j : Nat} {x : α} (h : DelInv p l j D) (hx : l[j]? = some x) : D[j]? = some x := by
 have h1 := congrArg (fun t => t[0]?) h.rest
 simp only [List.getElem?_drop, Nat.add_zero] at h1
 rw [h1]; exact hx
theorem DelInv.done {l D : List α} (h : DelInv p l l.length D) : D.take (l.filter (fun x => !p x)).length = l.filter (fun x => !p x) := by
 have := h.kept
 rwa [List.take_length] at this
end
theorem zpK {cap off sz m n : Nat} (h1 : m ≤ n) (h2 : n ≤ cap) : n - m = 0 ∨ zfo cap off sz m = off + m * sz := by
 unfold zfo
 by_cases h : cap = m
 ·exact .inl (by omega)
 ·exact .inr (by rw [if_neg h])
end Go.HL
namespace Go.HL
end Go.HL
end
namespace Go.HL
section
section
variable {α : Type} {c : α → α → Int}
/-- Each block of so zfe elements is sorted. -/
def Blk (c : α → α → Int) (bs : Nat) (l : List α) : Prop := ∀ q, Srt c ((l.drop (bs * q)).take bs)
theorem Blk.all {bs : Nat} {l : List α} (h : Blk c bs l) (hl : l.length ≤ bs) : Srt c l := by
 have := h 0
 rw [Nat.mul_zero, List.drop_zero, List.take_of_length_le hl] at this
 exact this
theorem Blk.nil {bs : Nat} : Blk c bs [] := fun q => by simp [Srt.nil]
theorem Blk.add {bs k : Nat} {Z W : List α} (h : Blk c bs Z) (hZ : Z.length = bs * k) (hW : Srt c W) (hl : W.length ≤ bs) : Blk c bs (Z ++ W) := by
 intro q
 rcases Nat.lt_trichotomy q k with hq | hq | hq
 ·have h1 : bs * q + bs ≤ Z.length := by rw [hZ, ← Nat.mul_succ]; exact Nat.mul_le_mul_left bs hq
  rw [List.drop_append_of_le_length (by omega), List.take_append_of_le_length (by rw [List.length_drop]; omega)]
  exact h q
 ·rw [hq, ← hZ, List.drop_left, List.take_of_length_le hl]; exact hW
 ·have h1 : Z.length + bs ≤ bs * q := by rw [hZ, ← Nat.mul_succ]; exact Nat.mul_le_mul_left bs hq
  rw [List.drop_of_length_le (by rw [List.length_append]; omega)]
  simp [Srt.nil]
theorem Blk.at {bs q a : Nat} {l : List α} (h : Blk c bs l) (ha : a = bs * q) : Srt c ((l.drop a).take bs) := by rw [ha]; exact h q
theorem Blk.last {bs q a : Nat} {l : List α} (h : Blk c bs l) (ha : a = bs * q) (hl : l.length ≤ a + bs) : Srt c (l.drop a) := by
 have := h.at ha
 rw [List.take_of_length_le (by rw [List.length_drop]; omega)] at this
 exact this
end
end
section
open Op (bytesLess)
/-- A list without the elements that equal the one before (p ahead of the first). -/
def zd5 (p : Option Str) : List Str → List Str
 | [] => []
 | x :: r => if p = some x then zd5 (some x) r else x :: zd5 (some x) r
theorem zju (x : Str) : ∀ (l : List Str) (p : Option Str), zd5 p (l ++ [x]) = zd5 p l ++ if (l.getLast?.or p) = some x then [] else [x]
 | [], p => by
   by_cases h : p = some x
   ·simp only [List.nil_append, zd5]
    rw [if_pos h, if_pos (by simpa using h)]
   ·simp only [List.nil_append, zd5]
    rw [if_neg h, if_neg (by simpa using h)]
 | y :: l, p => by
   have ih := zju x l (some y)
   have e : (y :: l).getLast?.or p = l.getLast?.or (some y) := by
    cases l with
    | nil => simp
    | cons z r => simp [List.getLast?_cons_cons]; rw [List.getLast?_eq_some_getLast (by simp)]; simp
   rw [e]
   simp only [List.cons_append, zd5, ih]
   split <;> simp
theorem zfO (l : List Str) : ∀ m, m ≤ l.length → Lib.compactUpTo l.toArray m = zd5 none (l.take m)
 | 0, _ => by simp [Lib.compactUpTo, zd5]
 | m + 1, h => by
   have hm : m < l.length := by omega
   have hx := List.getElem?_eq_getElem hm
   rw [Lib.compactUpTo_succ, zfO l m (by omega), zb3 hx, zju]
   congr 1
   have e1 : l.toArray[m]! = l[m] := by simp [getElem!_pos, hm]
   rw [e1]
   cases m with
   | zero => simp [Lib.keeps]
   | succ m =>
     have hl : (l.take (m + 1)).getLast? = some l[m] := by
      rw [zb3 (List.getElem?_eq_getElem (show m < l.length by omega)), List.getLast?_append]; rfl
     have e2 : l.toArray[m]! = l[m] := by simp [getElem!_pos, show m < l.length by omega]
     rw [hl]
     simp only [Lib.keeps, e1, Nat.add_sub_cancel, e2]
     by_cases hh : l[m] = l[m + 1]
     ·simp [hh]
     ·have hh' : ¬ l[m + 1] = l[m] := fun h => hh h.symm
      simp [hh, hh']
theorem zhx (l : List Str) : Lib.compact l = zd5 none l := by
 unfold Lib.compact
 rw [zfO l _ (Nat.le_refl _), List.take_length]
theorem zmq : ∀ (l : List Str) (p : Option Str), (zd5 p l).length ≤ l.length
 | [], _ => Nat.le_refl _
 | x :: r, p => by
   have := zmq r (some x)
   simp only [zd5]; split <;> simp <;> omega
theorem zmt (l : List Str) : (zbR l).Pairwise (fun x y => x ≤ y) := by
 have := List.pairwise_mergeSort (le := fun x y : Str => decide (x ≤ y)) (fun a b c h1 h2 => by
  simp only [decide_eq_true_eq] at *; exact List.le_trans h1 h2) (fun a b => by
  simp only [Bool.or_eq_true, decide_eq_true_eq]; exact List.le_total a b) l
 exact this.imp (fun h => by simpa using h)
end
section
def Sh (s : Str) : Prop := s.length ≤ 1000000
/-- The state of KeepList's loops. -/
structure KLs where
 u : Value
 out : List Keep
 lv : Value
 left : List Str
 a : Nat
structure KLok (n a : Nat) (q : KLs) : Prop where
 out : q.out.length ≤ n
 left : q.left.length ≤ 20
 ls : ∀ s ∈ q.left, Sh s
 os : ∀ x ∈ q.out, Sh x.Team ∧ Sh x.Player
 a : q.a ≤ a + 2 * n
theorem KLok.add {n a : Nat} {u u' lv lv' : Value} {out : List Keep} {left : List Str} {a1 a2 k : Nat} {t p : Str} {rd : Int} (h : KLok n a ⟨u, out, lv, left, a1⟩) (h1 : a2 ≤ a1 + 2) (ht : Sh t) (hp : left[k]? = some p) :
 KLok (n + 1) a ⟨u', out ++ [⟨t, p, rd⟩], lv', left.eraseIdx k, a2⟩ :=
 ⟨by have := h.out; simp at *; omega, by have := h.left; have := List.length_eraseIdx_le left k; dsimp only at *; omega, fun s hs => h.ls s (List.mem_of_mem_eraseIdx hs), fun x hx => by
  rcases List.mem_append.1 hx with hx | hx
  ·exact h.os x hx
  ·simp at hx; subst hx; exact ⟨ht, h.ls p (List.mem_of_getElem? hp)⟩, by have := h.a; dsimp only at *; omega⟩
theorem zmk {α : Type} {l : List α} {j : Nat} {x y : α} (h : l[j]? = some y) : (l.set j x)[j]? = some x := by
 rw [List.getElem?_set_self (zD h)]
theorem zcn {α β : Type} {f : α → β} {l : List α} {j : Nat} {x : α} (h : l[j]? = some x) : (l.map f)[j]? = some (f x) := by
 rw [List.getElem?_map, h]; rfl
theorem zoj {α : Type} {l : List α} {j : Nat} {x y : α} (h : x ∈ l.set j y) : x = y ∨ x ∈ l := by
 rcases List.mem_or_eq_of_mem_set h with h | h
 ·exact .inr h
 ·exact .inl h
/-- The state of SwapList's loops: what is out, the row of teams, the draws. -/
structure SLs where
 u : Value
 out : List Swap
 row : List Str
 a : Nat
structure SLok (n a : Nat) (q : SLs) : Prop where
 out : q.out.length ≤ n
 row : q.row.length ≤ 4
 rs : ∀ s ∈ q.row, Sh s
 os : ∀ x ∈ q.out, Sh x.Of ∧ Sh x.Team
 a : q.a ≤ a + 2 * n
theorem SLok.add {n a : Nat} {u u' : Value} {out : List Swap} {row : List Str} {a1 a2 : Nat} {t p : Str} {rd : Int} (h : SLok n a ⟨u, out, row, a1⟩) (h1 : a2 ≤ a1 + 2) (ht : Sh t) (hp : Sh p) :
 SLok (n + 1) a ⟨u', out ++ [⟨rd, t, p⟩], row, a2⟩ :=
 ⟨by have := h.out; simp at *; omega, h.row, h.rs, fun x hx => by
  rcases List.mem_append.1 hx with hx | hx
  ·exact h.os x hx
  ·simp at hx; subst hx; exact ⟨ht, hp⟩, by have := h.a; dsimp only at *; omega⟩
end
section
open Op (bytesLess)
end
section
open Op (bytesLess)
theorem zfD {a b : Str} : za2 a b ≤ 0 ↔ bytesLess b a = false := by
 rw [zgE]
 rcases zb1 a b with h | h | h
 ·simp [h, zbh h]
 ·subst h; simp [zau]
 ·have hne : a ≠ b := fun e => by subst e; rw [zau] at h; cases h
  simp [h, zbh h, hne]
theorem zdA {a b : Str} : za2 a b = 0 ↔ a = b := by
 rw [zgE]
 rcases zb1 a b with h | h | h
 ·have hne : a ≠ b := fun e => by subst e; rw [zau] at h; cases h
  simp [h, hne]
 ·subst h; simp [zau]
 ·have hne : a ≠ b := fun e => by subst e; rw [zau] at h; cases h
  simp [zbh h, hne]
theorem zgZ {a b c : Str} (h1 : za2 a b ≤ 0) (h2 : za2 b c ≤ 0) : za2 a c ≤ 0 := by
 rw [zfD] at *
 rcases zb1 a b with h | h | h
 ·rcases zb1 b c with h' | h' | h'
  ·exact zbh (zda h h')
  ·subst h'; exact zbh h
  ·rw [h'] at h2; cases h2
 ·subst h; exact h2
 ·rw [h] at h1; cases h1
theorem zpJ (a b : Int) : orI [a, b] = if a ≠ 0 then a else b := by
 simp only [orI]
 by_cases ha : a = 0 <;> by_cases hb : b = 0 <;> simp [ha, hb]
end
section
open Go.Sort Go.Proofs
structure Play where
 Source : Str
 No : Int
 At : Int
 Week : Int
 Match : Str
 Player : Str
 Stat : Str
 Count : Int
 Undo : Int
structure StatS where
 Name : Str
 Count : Int
abbrev Of2 := Str × Str
def zjz (n : Int) : Bool := !(out n 1 60)
def zhM (p : Play) : Int :=
 if !(key p.Source) then 5 else if out p.No 1 3000 || !(zjP p.At) || !(zjz p.Week) then 1
 else if !(key p.Match) || !(key p.Player) || !(key p.Stat) then 5
 else if out p.Count (-100000) 100000 || out p.Undo 0 (p.No - 1) then 1
 else if decide (0 < p.Undo) && decide (p.Count ≠ 0) then 3 else 0
structure ChkS where
 S : List Str
 W : List (Str × Int)
 c : Bool
def zqF (q : ChkS) (p : Play) : ChkS :=
 ⟨zc9 p.Source q.S, zaC p.Match p.Week q.W, q.c || ((alk p.Match q.W).isSome && ((alk p.Match q.W).getD 0 != p.Week))⟩
theorem zmE {p : Play} (h : zhM p = 0) : key p.Source = true ∧ (1 ≤ p.No ∧ p.No ≤ 3000) ∧ zjP p.At = true ∧ zjz p.Week = true ∧ (key p.Match = true ∧ key p.Player = true ∧ key p.Stat = true) ∧ (-100000 ≤ p.Count ∧ p.Count ≤ 100000) ∧ (0 ≤ p.Undo ∧ p.Undo ≤ p.No - 1) := by
 unfold zhM at h
 split at h
 ·omega
 split at h
 ·omega
 split at h
 ·omega
 split at h
 ·omega
 rename_i h1 h2 h3 h4
 simp only [Bool.or_eq_true, Bool.not_eq_true', not_or, Bool.not_eq_false, Bool.not_eq_true] at h1 h2 h3 h4
 exact ⟨h1, zia h2.1.1, h2.1.2, h2.2, ⟨h3.1.1, h3.1.2, h3.2⟩, zia h4.1, zia h4.2⟩
def zqa (trust : List Str) (at' : Int) (B : List (Str × Int)) (p : Play) : List (Str × Int) :=
 if at' < p.At ∨ zdf p.Source trust 0 < 0 then B
 else if (alk p.Match B).isSome = false ∨ zdf p.Source trust 0 < (alk p.Match B).getD 0 then zaC p.Match (zdf p.Source trust 0) B else B
def zrX (l : List Play) (trust : List Str) (at' : Int) : List (Str × Int) := l.foldl (zqa trust at') []
def zrR (l : List Play) (trust : List Str) (at' : Int) (m : Str) : Option Str := (alk m (zrX l trust at')).map fun k => trust.getD k.toNat []
/-! what is taken back -/
structure LnS where
 S : List Str
 c : List (Of2 × Int)
def zrL (q : LnS) (p : Play) : LnS := ⟨zc9 p.Player q.S, zaC (p.Player, p.Stat) ((alk (p.Player, p.Stat) q.c).getD 0 + p.Count) q.c⟩
def zha (c : List (Of2 × Int)) (s : Str) : List StatS := (c.filter fun e => e.1.1 == s && e.2 != 0).map fun e => ⟨e.1.2, e.2⟩
theorem zq8 {s : Str} (h : key s = true) : s.length ≤ 40 := by
 simp only [key, zgS, Bool.and_eq_true, decide_eq_true_eq] at h; exact h.1.1.1.2
end
section
section
variable {α : Type} [DecidableEq α]
variable {c : α → α → Int}
end
end
section
structure VisOk {β : Type} (L : List β) (vis : List Nat) (E : List β) : Prop where
 nd : vis.Nodup
 lt : ∀ j ∈ vis, j < L.length
 eq : E.map some = vis.map fun j => L[j]?
theorem VisOk.nil {β : Type} (L : List β) : VisOk L [] [] := ⟨List.nodup_nil, (fun j h => by cases h), rfl⟩
theorem VisOk.step {β : Type} {L E : List β} {vis : List Nat} (h : VisOk L vis E) {j : Nat} {q : β} (hj : L[j]? = some q) (hn : j ∉ vis) : VisOk L (vis ++ [j]) (E ++ [q]) where
 nd := List.nodup_append.2 ⟨h.nd, by simp, fun a ha b hb => by simp at hb; subst hb; exact fun e => hn (e ▸ ha)⟩
 lt k hk := by
  rcases List.mem_append.1 hk with hk | hk
  ·exact h.lt k hk
  ·simp at hk; subst hk; exact zD hj
 eq := by simp only [List.map_append, h.eq, List.map_cons, List.map_nil, hj]
theorem VisOk.len {β : Type} {L E : List β} {vis : List Nat} (h : VisOk L vis E) : E.length = vis.length := by
 have := congrArg List.length h.eq; simpa using this
theorem VisOk.le {β : Type} {L E : List β} {vis : List Nat} (h : VisOk L vis E) : vis.length ≤ L.length := by
 have := zgI h.nd (m := List.range L.length) fun j hj => List.mem_range.2 (h.lt j hj)
 simpa using this
theorem VisOk.done {β : Type} {L E : List β} {vis : List Nat} (h : VisOk L vis E) (hl : vis.length = L.length) : E.Perm L := by
 have hp : vis.Perm (List.range L.length) := by
  refine (List.perm_ext_iff_of_nodup h.nd List.nodup_range).2 fun a => ⟨fun ha => List.mem_range.2 (h.lt a ha), fun ha => ?_⟩
  refine Classical.byContradiction fun hna => ?_
  have h1 : (a :: vis).Nodup := List.nodup_cons.2 ⟨hna, h.nd⟩
  have h2 := zgI h1 (m := List.range L.length) fun j hj => by
   rcases List.mem_cons.1 hj with rfl | hj
   ·exact ha
   ·exact List.mem_range.2 (h.lt j hj)
  simp at h2; omega
 have h1 := hp.map fun j => L[j]?
 rw [← h.eq] at h1
 have h2 : ((List.range L.length).map fun j => L[j]?) = L.map some := by
  refine List.ext_getElem? fun i => ?_
  rw [List.getElem?_map, List.getElem?_map]
  rcases Nat.lt_or_ge i L.length with hi | hi
  ·rw [List.getElem?_range hi, List.getElem?_eq_getElem hi]; simp [hi]
  ·rw [List.getElem?_eq_none (by simpa using hi), List.getElem?_eq_none hi]; rfl
 rw [h2] at h1
 have h3 := h1.filterMap id
 have key : ∀ l : List β, (l.map some).filterMap id = l := fun l => by
  induction l with
  | nil => rfl
  | cons x l ih => simp [ih]
 rwa [key, key] at h3
def NextOk {β : Type} (L : List β) (vis : List Nat) (c : Bool) (vis' : List Nat) : Prop :=
 (c = false ∧ vis' = vis ∧ vis.length = L.length) ∨ (c = true ∧ ∃ j q, L[j]? = some q ∧ j ∉ vis ∧ vis' = vis ++ [j])
theorem NextOk.t {β : Type} {L : List β} {vis vis' : List Nat} {c : Bool} (h : NextOk L vis c vis') (hc : c = true) : ∃ j q, L[j]? = some q ∧ j ∉ vis ∧ vis' = vis ++ [j] := by
 rcases h with ⟨h, _⟩ | ⟨_, h⟩
 ·rw [hc] at h; cases h
 ·exact h
theorem NextOk.f {β : Type} {L : List β} {vis vis' : List Nat} {c : Bool} (h : NextOk L vis c vis') (hc : c = false) : vis' = vis ∧ vis.length = L.length := by
 rcases h with ⟨_, h⟩ | ⟨h, _⟩
 ·exact h
 ·rw [hc] at h; cases h
section
variable {P : Program} {e : Env} {dst : Option Tmp} {ty : TypeId} {pos : String} {af : Array Edge} {g : Option (Nat × Bool)} {M : List MObj} {K : HVal → List MObj → Prop}
end
section
variable {β : Type}
abbrev Grp (β : Type) := List (Str × (Value × List β))
abbrev gZ (β : Type) : Value × List β := (.slice none 0 0, [])
def gL (s : Str) (G : Grp β) : List β := ((alk s G).getD (gZ β)).2
end
section
variable {P : Program} {e : Env} {dst : Option Tmp} {ty : TypeId} {pos : String} {af : Array Edge} {g : Option (Nat × Bool)} {M : List MObj} {K : HVal → List MObj → Prop} {β : Type} {eb : β → HVal}
end
end
section
section
variable {κ α γ : Type} [DecidableEq κ]
theorem ANodup.perm {A B : Type} {E L : List (A × B)} (hn : ANodup L) (hp : E.Perm L) : ANodup E := (hp.map (fun p : A × B => p.1)).nodup_iff.2 hn
theorem ANodup.map {A B C : Type} (g : B → C) {E : List (A × B)} (h : ANodup E) : ANodup (E.map fun q => (q.1, g q.2)) := by
 unfold ANodup at *; rw [List.map_map]; exact h
end
structure GOk (E : List (Of2 × Int)) (G : Grp StatS) : Prop where
 nd : ANodup G
 raw : ∀ s, gL s G = zha E s
theorem GOk.nil : GOk [] [] := ⟨ANodup.nil, fun s => rfl⟩
theorem zlD (E : List (Of2 × Int)) (q : Of2 × Int) (s : Str) : zha (E ++ [q]) s = zha E s ++ if q.1.1 = s ∧ q.2 ≠ 0 then [⟨q.1.2, q.2⟩] else [] := by
 unfold zha
 rw [List.filter_append, List.map_append, List.filter_cons]
 by_cases h : q.1.1 = s ∧ q.2 ≠ 0
 ·rw [if_pos h, if_pos (by simpa using h)]; rfl
 ·rw [if_neg h, if_neg (by simpa using h)]; rfl
theorem zrf (s t : Str) (v : Value) (l : List StatS) (G : Grp StatS) : gL t (zaC s (v, l) G) = if t = s then l else gL t G := by
 unfold gL; rw [zkc]; split <;> rfl
theorem GOk.put {E : List (Of2 × Int)} {G : Grp StatS} (h : GOk E G) {q : Of2 × Int} (hq : ¬ q.2 = 0) (v : Value) : GOk (E ++ [q]) (zaC q.1.1 (v, gL q.1.1 G ++ [⟨q.1.2, q.2⟩]) G) := by
 refine ⟨h.nd.put, fun s => ?_⟩
 rw [zrf, zlD]
 by_cases hs : s = q.1.1
 ·rw [if_pos hs, if_pos ⟨hs.symm, hq⟩, hs, h.raw]
 ·rw [if_neg hs, if_neg (fun e => hs e.1.symm), List.append_nil, h.raw]
theorem zjb {s t : Str} {S : List Str} : t ∈ zc9 s S ↔ t = s ∨ t ∈ S := by
 unfold zc9
 by_cases h : S.contains s = true
 ·rw [if_pos h]
  have : s ∈ S := by simpa using h
  constructor
  ·exact .inr
  ·rintro (rfl | h)
   ·exact this
   ·exact h
 ·rw [if_neg h]; simp; exact Or.comm
theorem zgN {s : Str} {S : List Str} (h : S.Nodup) : (zc9 s S).Nodup := by
 unfold zc9
 by_cases hc : S.contains s = true
 ·rw [if_pos hc]; exact h
 ·rw [if_neg hc]
  exact List.nodup_append.2 ⟨h, by simp, fun a ha b hb => by simp at hb; subst hb; intro e; subst e; simp at hc; exact hc ha⟩
theorem zqO (s : Str) (S : List Str) : (zc9 s S).length ≤ S.length + 1 := by
 unfold zc9; split
 ·omega
 ·simp
structure LnOk (q : LnS) (n : Nat) : Prop where
 c : ANodup q.c
 S : q.S.Nodup
 k : ∀ s ∈ q.S, s.length ≤ 40
 cl : q.c.length ≤ n
 Sl : q.S.length ≤ n
 bd : ∀ e ∈ q.c, -(100000 * (n : Int)) ≤ e.2 ∧ e.2 ≤ 100000 * (n : Int)
theorem LnOk.val {q : LnS} {n : Nat} (h : LnOk q n) (s : Of2) : -(100000 * (n : Int)) ≤ (alk s q.c).getD 0 ∧ (alk s q.c).getD 0 ≤ 100000 * (n : Int) := by
 cases hq : alk s q.c with
 | none => simp; omega
 | some v => exact h.bd _ (zcH hq)
theorem LnOk.put {q : LnS} {n : Nat} (h : LnOk q n) {p : Play} (hp : zhM p = 0) : LnOk (zrL q p) (n + 1) := by
 obtain ⟨_, _, _, _, ⟨_, k2, _⟩, hb, _⟩ := zmE hp
 have hv := h.val (p.Player, p.Stat)
 refine ⟨h.c.put, zgN h.S, fun s hs => ?_, Nat.le_trans (zrd _ _ _) (by have := h.cl; omega), Nat.le_trans (zqO _ _) (by have := h.Sl; omega), fun e he => ?_⟩
 ·rcases zjb.1 hs with rfl | hs
  ·exact zq8 k2
  ·exact h.k s hs
 ·rcases zdz he with rfl | he
  ·dsimp only; omega
  ·have := h.bd e he; omega
theorem LnOk.up {q : LnS} {n : Nat} (h : LnOk q n) : LnOk q (n + 1) :=
 ⟨h.c, h.S, h.k, by have := h.cl; omega, by have := h.Sl; omega, fun e he => by have := h.bd e he; omega⟩
end
section
structure MendS where
 Player : Str
 Week : Int
 Stat : Str
 Count : Int
 At : Int
 Version : Int
 By : Str
abbrev Plc := Str × Int
section
variable {α : Type}
def zaB (f : α → Int) (c : α → α → Int) (d : α) (l : List α) : Nat → List α → Int
 | _, [] => 0
 | k, x :: r => if f x ≠ 0 then f x else if 0 < k ∧ c x (l.getD (k - 1) d) ≤ 0 then 7 else zaB f c d l (k + 1) r
theorem ziG {f : α → Int} {c : α → α → Int} {d : α} {l : List α} {k : Nat} {x : α} {r : List α} (h1 : f x = 0) (h2 : 0 < k → ¬ c x (l.getD (k - 1) d) ≤ 0) : zaB f c d l k (x :: r) = zaB f c d l (k + 1) r := by
 rw [zaB, if_neg (by simp [h1]), if_neg (fun h => h2 h.1 h.2)]
theorem zoT {f : α → Int} {c : α → α → Int} {d : α} {l : List α} {k : Nat} {x : α} {r : List α} (h1 : f x ≠ 0) : zaB f c d l k (x :: r) = f x := by
 rw [zaB, if_pos h1]
theorem zo8 {f : α → Int} {c : α → α → Int} {d : α} {l : List α} {k : Nat} {x : α} {r : List α} (h1 : f x = 0) (h0 : 0 < k) (h2 : c x (l.getD (k - 1) d) ≤ 0) : zaB f c d l k (x :: r) = 7 := by
 rw [zaB, if_neg (by simp [h1]), if_pos ⟨h0, h2⟩]
theorem zgb {f : α → Int} {c : α → α → Int} {d : α} {l : List α} : ∀ (r : List α) (k : Nat), zaB f c d l k r = 0 → ∀ x ∈ r, f x = 0
 | [], _, _, x, hx => by cases hx
 | p :: r, k, h, x, hx => by
   rw [zaB] at h
   split at h
   ·contradiction
   ·split at h
    ·omega
    ·rename_i h1 _
     rcases List.mem_cons.1 hx with rfl | hx
     ·simpa using h1
     ·exact zgb r (k + 1) h x hx
/-- Each is behind the one ahead of it. -/
theorem zkW {f : α → Int} {c : α → α → Int} {d : α} (hc : Cmp c fun _ => True) : ∀ (r : List α) (l : List α) (k : Nat), l.drop k = r → k ≤ l.length → (l.take k).Pairwise (fun a b => c a b < 0) → zaB f c d l k r = 0 → l.Pairwise (fun a b => c a b < 0)
 | [], l, k, hd, hk, hp, _ => by
   have h1 : l.length ≤ k := by simpa using hd
   rw [List.take_of_length_le h1] at hp; exact hp
 | x :: r, l, k, hd, hk, hp, h => by
   rw [zaB] at h
   split at h
   ·contradiction
   ·split at h
    ·omega
    ·rename_i h2
     have hx : l[k]? = some x := by have := congrArg (fun q : List α => q[0]?) hd; simpa using this
     have hlt := zD hx
     refine zkW hc r l (k + 1) (by rw [← List.drop_drop (i := 1), hd]; rfl) hlt ?_ h
     rw [zb3 hx]
     refine List.pairwise_append.2 ⟨hp, List.pairwise_singleton _ _, fun a ha b hb => ?_⟩
     obtain rfl := List.mem_singleton.1 hb
     obtain ⟨i, hi⟩ := List.getElem?_of_mem ha
     have hik : i < k := by have := zD hi; rw [List.length_take] at this; omega
     have hy : l[k - 1]? = some (l.getD (k - 1) d) := getD_some (by omega)
     have h3 : c (l.getD (k - 1) d) b < 0 := by
      rw [hc.flip _ _ trivial trivial]
      have : ¬ c b (l.getD (k - 1) d) ≤ 0 := fun e => h2 ⟨by omega, e⟩
      omega
     rcases Nat.lt_or_ge i (k - 1) with hlt' | hge
     ·have hyk : (l.take k)[k - 1]? = some (l.getD (k - 1) d) := by rw [List.getElem?_take_of_lt (by omega)]; exact hy
      have h4 : c a (l.getD (k - 1) d) < 0 := by
       have hi2 := zD hi
       have hk2 := zD hyk
       have := List.pairwise_iff_getElem.1 hp i (k - 1) hi2 hk2 hlt'
       rw [List.getElem?_eq_getElem hi2] at hi
       rw [List.getElem?_eq_getElem hk2] at hyk
       rw [Option.some.inj hi, Option.some.inj hyk] at this
       exact this
      have h5 := hc.trans a (l.getD (k - 1) d) b trivial trivial trivial (by omega) (by omega)
      have f1 := hc.flip a (l.getD (k - 1) d) trivial trivial
      have f2 := hc.flip (l.getD (k - 1) d) b trivial trivial
      have f3 := hc.flip a b trivial trivial
      have f4 := hc.flip b a trivial trivial
      rcases Int.lt_or_eq_of_le h5 with e | e
      ·exact e
      ·exfalso
       have := hc.trans b a (l.getD (k - 1) d) trivial trivial trivial (by omega) (by omega)
       omega
     ·have e : i = k - 1 := by omega
      rw [e, List.getElem?_take_of_lt (by omega), hy] at hi
      rw [← Option.some.inj hi]; exact h3
theorem zg5 {f : α → Int} {c : α → α → Int} {d : α} (hc : Cmp c fun _ => True) {l : List α} (h : zaB f c d l 0 l = 0) : l.Pairwise (fun a b => c a b < 0) :=
 zkW hc l l 0 rfl (Nat.zero_le _) (by simp) h
theorem zj5 (f : α → Str) : Cmp (fun a b => za2 (f a) (f b)) fun _ => True where
 flip x y _ _ := by rw [zdB (f x) (f y)]; omega
 trans x y z _ _ _ h1 h2 := zgZ h1 h2
end
theorem zif {a b : Int} (h : (if a ≠ 0 then a else b) = 0) : a = 0 ∧ b = 0 := by
 split at h
 ·contradiction
 ·rename_i h1; exact ⟨by simpa using h1, h⟩
theorem zmr (a b : Str) : (Op.bytesLess a b || a == b) = decide (za2 a b ≤ 0) := by
 rw [Bool.eq_iff_iff, decide_eq_true_iff, zfD]
 rcases zb1 a b with h | h | h
 ·simp [h, zbh h]
 ·subst h; simp [zau]
 ·have hne : a ≠ b := fun e => by subst e; rw [zau] at h; cases h
  simp [h, zbh h, hne]
/-! what is wrong -/
def zhJ (x : MendS) : Int :=
 if !(key x.Player) || !(key x.Stat) || !(key x.By) then 5
 else if !(zjz x.Week) || out x.Count (-100000) 100000 || !(zjP x.At) || out x.Version 1 1000 then 1 else 0
theorem zme {x : MendS} (h : zhJ x = 0) : key x.Player = true ∧ key x.Stat = true ∧ zjz x.Week = true ∧ (-100000 ≤ x.Count ∧ x.Count ≤ 100000) ∧ zjP x.At = true := by
 unfold zhJ at h
 split at h
 ·omega
 split at h
 ·omega
 rename_i h1 h2
 simp only [Bool.or_eq_true, Bool.not_eq_true', not_or, Bool.not_eq_false, Bool.not_eq_true] at h1 h2
 exact ⟨h1.1.1, h1.1.2, h2.1.1.1, zia h2.1.1.2, h2.1.2⟩
end
end Go.HL
section
namespace Go.HL
end Go.HL
namespace Go.HL
end Go.HL
namespace Go.HL
end Go.HL
end
namespace Go.HL
section
/-- The state of a loop that draws: the list that grows, how zfe were drawn. -/
structure GL (α : Type) where
 u : Value
 out : List α
 a : Nat
structure GLok {α : Type} (P : α → Prop) (n m : Nat) (q : GL α) : Prop where
 len : q.out.length ≤ n
 all : ∀ x ∈ q.out, P x
 a : q.a ≤ m
section
variable {α : Type} {P : α → Prop}
theorem GLok.add {n m m' : Nat} {u u' : Value} {out : List α} {a1 a2 : Nat} {x : α} (h : GLok P n m ⟨u, out, a1⟩) (hx : P x) (ha : a2 ≤ m') : GLok P (n + 1) m' ⟨u', out ++ [x], a2⟩ :=
 ⟨by have := h.len; simp at *; omega, fun y hy => by
  rcases List.mem_append.1 hy with hy | hy
  ·exact h.all y hy
  ·simp at hy; subst hy; exact hx, ha⟩
theorem GLok.same {n m m' : Nat} {u : Value} {out : List α} {a1 a2 : Nat} (h : GLok P n m ⟨u, out, a1⟩) (ha : a2 ≤ m') : GLok P (n + 1) m' ⟨u, out, a2⟩ :=
 ⟨by have := h.len; dsimp only at *; omega, h.all, ha⟩
theorem zgK {l : List α} {j : Nat} {y : α} (h : ∀ x ∈ l, P x) (hy : P y) : ∀ x ∈ l.set j y, P x := fun x hx => by
 rcases zoj hx with rfl | hx
 ·exact hy
 ·exact h x hx
end
theorem zri : Sh [] := by simp [Sh]
end
section
structure PairS where
 Name : Str
 Val : Str
end
section

end
section
open Op (bytesLess)
end
section

end
section

end
section

end
section

end
section

end
section
def zgu {α : Type} (e : α → HVal) (a b : α) : Bool := zgg (zl (e a)) (zl (e b))
def zcg {α : Type} (e : α → HVal) : List α → List α → Bool
 | [], [] => true
 | a :: l, b :: m => zgu e a b && zcg e l m
 | _, _ => false
theorem zdJ {α : Type} {e : α → HVal} : ∀ {l m : List α}, l.length ≠ m.length → zcg e l m = false
 | [], [], h => absurd rfl h
 | [], _ :: _, _ => rfl
 | _ :: _, [], _ => rfl
 | a :: l, b :: m, h => by
   rw [zcg, zdJ (by intro q; apply h; simp [q])]; simp
end
section
section
variable {α : Type} [DecidableEq α]
end
end
section

end
section

end
section

end
section
theorem Cmp.lt_trans {α : Type} {c : α → α → Int} {s : α → Prop} (h : Cmp c s) {x y z : α} (hx : s x) (hy : s y) (hz : s z) (h1 : c x y < 0) (h2 : c y z < 0) : c x z < 0 := by
 rcases Int.lt_or_le (c x z) 0 with q | q
 ·exact q
 ·exfalso
  have a1 := h.flip y z hy hz
  have a2 := h.flip z x hz hx
  have hzx : c z x ≤ 0 := by
   rcases Int.lt_or_le 0 (c z x) with r | r
   ·have := h.flip x z hx hz; omega
   ·exact r
  have := h.trans z x y hz hx hy hzx (by omega)
  omega
theorem zlv {a b c : Str} (h1 : za2 a b ≤ 0) (h2 : za2 b c ≤ 0) (h : za2 a c = 0) : za2 a b = 0 ∧ za2 b c = 0 := by
 have e := zdA.1 h
 subst e
 rw [zdB b a] at *
 omega
end
section
def SLt (a b : Str) : Prop := a ≤ b ∧ a ≠ b
theorem znD {a b : List Str} (ha : a.Pairwise SLt) (hb : b.Pairwise SLt) (h : ∀ x, x ∈ a ↔ x ∈ b) : a = b := by
 have na : a.Nodup := ha.imp fun q => q.2
 have nb : b.Nodup := hb.imp fun q => q.2
 have hp : a.Perm b := (List.perm_ext_iff_of_nodup na nb).2 h
 exact List.Perm.eq_of_pairwise (le := SLt) (fun x y _ _ h1 h2 => List.le_antisymm h1.1 h2.1) ha hb hp
def zqn (l : List Str) : List Str := Lib.compact (zbR l)
theorem zlQ {l : List Str} (h : l.Nodup) : (zbR l).Pairwise SLt := by
 have hn : (zbR l).Nodup := (List.mergeSort_perm _ _).nodup_iff.2 h
 have hs := zmt l
 rw [List.pairwise_iff_getElem] at *
 intro i j hi hj hij
 exact ⟨hs i j hi hj hij, List.pairwise_iff_getElem.1 hn i j hi hj hij⟩
/-- The sums of one player. -/
def zcA {κ : Type} (c : List ((Str × κ) × Int)) (s : Str) : List (κ × Int) := (c.filter fun e => e.1.1 == s).map fun e => (e.1.2, e.2)
theorem zlh {κ : Type} [DecidableEq κ] (s : Str) (st : κ) (v : Int) (s' : Str) : ∀ c : List ((Str × κ) × Int), zcA (zaC (s, st) v c) s' = if s' = s then zaC st v (zcA c s) else zcA c s'
 | [] => by
   by_cases e : s' = s
   ·subst e; simp [zcA, zaC]
   ·have : ¬ s = s' := fun q => e q.symm
    simp [zcA, zaC, e, this]
 | p :: r => by
   have ih := zlh s st v s' r
   obtain ⟨⟨a, b⟩, w⟩ := p
   simp only [zaC, Prod.mk.injEq]
   by_cases h1 : s = a
   ·subst h1
    by_cases h2 : st = b
    ·subst h2
     rw [if_pos ⟨rfl, rfl⟩]
     by_cases e : s' = s
     ·subst e; simp [zcA, zaC]
     ·have : ¬ s = s' := fun q => e q.symm
      simp [zcA, e, this]
    ·rw [if_neg (fun q => h2 q.2)]
     by_cases e : s' = s
     ·subst e
      rw [if_pos rfl] at ih ⊢
      simp only [zcA, List.filter_cons, beq_self_eq_true, if_true, List.map_cons, zaC, if_neg h2] at ih ⊢
      rw [ih]
     ·have : ¬ s = s' := fun q => e q.symm
      rw [if_neg e] at ih ⊢
      simp only [zcA, List.filter_cons, beq_iff_eq, if_neg this] at ih ⊢
      exact ih
   ·rw [if_neg (fun q => h1 q.1)]
    by_cases e : s' = s
    ·subst e
     have : ¬ a = s' := fun q => h1 q.symm
     rw [if_pos rfl] at ih ⊢
     simp only [zcA, List.filter_cons, beq_iff_eq, if_neg this] at ih ⊢
     exact ih
    ·rw [if_neg e] at ih ⊢
     by_cases h3 : a = s'
     ·simp only [zcA, List.filter_cons, beq_iff_eq, if_pos h3, List.map_cons] at ih ⊢
      rw [ih]
     ·simp only [zcA, List.filter_cons, beq_iff_eq, if_neg h3] at ih ⊢
      exact ih
end
section
structure MarketS where
 Teams : List Str
 Vetoes : Int
 Wait : Int
 Deadline : Int
 Least : Int
 Most : Int
structure OwnerS where
 Player : Str
 Team : Str
structure GiveS where
 Player : Str
 From : Str
 To : Str
structure DealS where
 Id : Str
 By : Str
 From : Int
 To : Int
 Gives : List GiveS
abbrev zaS (m : MarketS) : HVal := .agg [eSs m.Teams, .int .i64 m.Vetoes, .int .i64 m.Wait, .int .i64 m.Deadline, .int .i64 m.Least, .int .i64 m.Most]
abbrev zas (x : OwnerS) : HVal := .agg [.str x.Player, .str x.Team]
abbrev zbd (l : List OwnerS) : HVal := .slice 2 (l.map zas)
abbrev za8 (x : GiveS) : HVal := .agg [.str x.Player, .str x.From, .str x.To]
abbrev zgD (l : List GiveS) : HVal := .slice 3 (l.map za8)
abbrev zim (x : DealS) : HVal := .agg [.str x.Id, .str x.By, .int .i64 x.From, .int .i64 x.To, zgD x.Gives]
abbrev zrv (l : List DealS) : HVal := .slice 5 (l.map zim)
def zbF : OwnerS := ⟨[], []⟩
def zdh : GiveS := ⟨[], [], []⟩
def zcf : DealS := ⟨[], [], 0, 0, []⟩
def zae (m : MarketS) : Int :=
 if m.Teams.length = 0 then 8 else if (20 : Int) < m.Teams.length then 2
 else if zeH m.Teams ≠ 0 then zeH m.Teams
 else if out m.Vetoes 1 20 || out m.Wait 0 864000000 || out m.Deadline 0 345686400000 || out m.Least 0 m.Most || decide (60 < m.Most) then 1 else 0
structure MarketOk (m : MarketS) : Prop where
 pos : 0 < m.Teams.length
 len : m.Teams.length ≤ 20
 sorted : SortedS m.Teams
 least : 0 ≤ m.Least ∧ m.Least ≤ m.Most
 most : m.Most ≤ 60
theorem zjp {m : MarketS} (h : zae m = 0) : MarketOk m := by
 unfold zae at h
 split at h
 ·omega
 split at h
 ·omega
 split at h
 ·rename_i h1 h2 h3; exact absurd h h3
 split at h
 ·omega
 rename_i h1 h2 h3 h4
 simp only [Bool.or_eq_true, not_or, Bool.not_eq_true, decide_eq_true_eq] at h4
 have h5 := zia h4.1.2
 exact ⟨by omega, by omega, zkl (by simpa using h3), ⟨h5.1, h5.2⟩, by omega⟩
def zd8 (a b : OwnerS) : Int := za2 a.Player b.Player
def zcz (a b : GiveS) : Int := za2 a.Player b.Player
def zdj (a b : DealS) : Int := za2 a.Id b.Id
theorem zoP : Cmp zd8 fun _ => True := zj5 OwnerS.Player
theorem zo7 : Cmp zcz fun _ => True := zj5 GiveS.Player
theorem zoc : Cmp zdj fun _ => True := zj5 DealS.Id
def zcT : List OwnerS → Str → Int
 | [], _ => 0
 | x :: r, t => (if x.Team = t then 1 else 0) + zcT r t
theorem zoM (l : List OwnerS) (x : OwnerS) (t : Str) : zcT (l ++ [x]) t = zcT l t + (if x.Team = t then 1 else 0) := by
 induction l with
 | nil => simp [zcT]
 | cons y r ih => simp only [List.cons_append, zcT, ih]; omega
theorem zm4 (l : List OwnerS) (t : Str) : 0 ≤ zcT l t ∧ zcT l t ≤ l.length := by
 induction l with
 | nil => simp [zcT]
 | cons y r ih => simp only [zcT, List.length_cons]; split <;> omega
def ze1 (m : MarketS) (o : List OwnerS) : Bool := m.Teams.all fun t => !(out (zcT o t) m.Least m.Most)
theorem zow (m : MarketS) (o : List OwnerS) : (!(m.Teams.any fun t => out (zcT o t) m.Least m.Most)) = ze1 m o := by
 unfold ze1; rw [List.not_any_eq_all_not]
def zaI (m : MarketS) (x : OwnerS) : Int := if !(key x.Player) then 5 else if !(m.Teams.contains x.Team) then 8 else 0
def zc4 (m : MarketS) (o : List OwnerS) : Int := zaB (zaI m) zd8 zbF o 0 o
def zbT (m : MarketS) (o : List OwnerS) : Int := if 500 < o.length then 2 else if zc4 m o ≠ 0 then zc4 m o else if ze1 m o then 0 else 12
def zbm (m : MarketS) (o : List OwnerS) : Int := if zae m ≠ 0 then zae m else zbT m o
theorem zjA {m : MarketS} {o : List OwnerS} (h : zbT m o = 0) : o.length ≤ 500 ∧ (∀ x ∈ o, zaI m x = 0) ∧ o.Pairwise (fun a b => zd8 a b < 0) ∧ ze1 m o = true := by
 unfold zbT at h
 split at h
 ·omega
 split at h
 ·rename_i h1 h2; exact absurd h h2
 rename_i h1 h2
 have h3 : zc4 m o = 0 := by simpa using h2
 split at h
 ·rename_i h4; exact ⟨by omega, zgb o 0 h3, zg5 zoP h3, h4⟩
 ·omega
theorem zof {m : MarketS} {o : List OwnerS} (h : zbm m o = 0) : zae m = 0 ∧ zbT m o = 0 := by
 unfold zbm at h; exact zif h
def za3 (m : MarketS) (g : GiveS) : Int := if !(key g.Player) then 5 else if !(m.Teams.contains g.From) || !(m.Teams.contains g.To) then 8 else if g.From = g.To then 16 else 0
def zbc (m : MarketS) (l : List GiveS) : Int := if l.length = 0 then 8 else if 40 < l.length then 2 else zaB (za3 m) zcz zdh l 0 l
theorem zkO {m : MarketS} {l : List GiveS} (h : zbc m l = 0) : 0 < l.length ∧ l.length ≤ 40 ∧ (∀ x ∈ l, za3 m x = 0) ∧ l.Pairwise (fun a b => zcz a b < 0) := by
 unfold zbc at h
 split at h
 ·omega
 split at h
 ·omega
 ·exact ⟨by omega, by omega, zgb l 0 h, zg5 zo7 h⟩
def zdH (l : List GiveS) : List Str := l.flatMap fun g => [g.From, g.To]
theorem zfj (l : List GiveS) : (zdH l).length = 2 * l.length := by
 induction l with
 | nil => rfl
 | cons g r ih => simp only [zdH, List.flatMap_cons, List.length_append, List.length_cons, List.length_nil] at ih ⊢; omega
theorem zmR {l : List GiveS} {k : Nat} {g : GiveS} (h : l[k]? = some g) : zdH (l.take (k + 1)) = zdH (l.take k) ++ [g.From, g.To] := by
 unfold zdH; rw [zb3 h, List.flatMap_append]; simp
def zfn (l : List GiveS) : List Str := zqn (zdH l)
theorem zpi (l : List GiveS) : (zfn l).length ≤ 2 * l.length := by
 unfold zfn zqn
 rw [zhx]
 have := zmq (zbR (zdH l)) none
 rw [zhW, zfj] at this
 exact this
def zbv (m : MarketS) (x : DealS) : Int :=
 if !(key x.Id) then 5 else if !(m.Teams.contains x.By) then 8
 else if out x.To 1 345686400000 || out x.From 0 (x.To - 1) then 1
 else if zbc m x.Gives ≠ 0 then zbc m x.Gives
 else if !((zfn x.Gives).contains x.By) then 16 else 0
theorem zpM {m : MarketS} {x : DealS} (h : zbv m x = 0) : zbc m x.Gives = 0 := by
 unfold zbv at h
 split at h
 ·omega
 split at h
 ·omega
 split at h
 ·omega
 exact (zif (b := if !((zfn x.Gives).contains x.By) then 16 else 0) h).1
def zcd (m : MarketS) (l : List DealS) : Int := if 500 < l.length then 2 else zaB (zbv m) zdj zcf l 0 l
def zcc (m : MarketS) (l : List DealS) : Int := if zae m ≠ 0 then zae m else zcd m l
theorem zo1 {m : MarketS} {l : List DealS} (h : zcd m l = 0) : l.length ≤ 500 ∧ (∀ x ∈ l, zbv m x = 0) ∧ l.Pairwise (fun a b => zdj a b < 0) := by
 unfold zcd at h
 split at h
 ·omega
 ·exact ⟨by omega, zgb l 0 h, zg5 zoc h⟩
theorem znU (m : MarketS) (x : DealS) : zcd m [x] = zbv m x := by
 unfold zcd
 rw [if_neg (by simp), zaB]
 by_cases h : zbv m x = 0
 ·rw [if_neg (by simp [h]), if_neg (by simp), h]; rfl
 ·rw [if_pos h]
theorem zoS {m : MarketS} {l : List DealS} (h : zcc m l = 0) : zae m = 0 ∧ zcd m l = 0 := by
 unfold zcc at h; exact zif h
def zjS (o : List OwnerS) (g : GiveS) : Option (List OwnerS) :=
 match o[o.findIdx (fun y => y.Player == g.Player)]? with
 | some y => if y.Team = g.From then some (o.set (o.findIdx (fun y => y.Player == g.Player)) ⟨y.Player, g.To⟩) else none
 | none => none
def zcy : List OwnerS → List GiveS → Option (List OwnerS)
 | o, [] => some o
 | o, g :: r => (zjS o g).bind fun p => zcy p r
theorem znI {α : Type} {p : α → Bool} {l : List α} {i : Nat} {y : α} (hi : l[i]? = some y) (hp : p y = true) (hb : ∀ (j : Nat) (z : α), j < i → l[j]? = some z → p z = false) : l.findIdx p = i := by
 have hl := zD hi
 rw [List.getElem?_eq_getElem hl] at hi
 have e := Option.some.inj hi
 rw [List.findIdx_eq hl]
 refine ⟨by rw [e]; exact hp, fun j hj => ?_⟩
 have := hb j l[j] hj (List.getElem?_eq_getElem (by omega))
 simpa using this
theorem zl6 {o : List OwnerS} {g : GiveS} {i : Nat} {y : OwnerS} (hi : o[i]? = some y) (hp : y.Player = g.Player) (hb : ∀ (j : Nat) (z : OwnerS), j < i → o[j]? = some z → z.Player ≠ g.Player) : zjS o g = if y.Team = g.From then some (o.set i ⟨y.Player, g.To⟩) else none := by
 have h := znI (p := fun y => y.Player == g.Player) hi (by simpa using hp) (fun j z hj hz => by simpa using hb j z hj hz)
 unfold zjS
 rw [h, hi]
theorem zny {o : List OwnerS} {g : GiveS} (h : ∀ y ∈ o, y.Player ≠ g.Player) : zjS o g = none := by
 unfold zjS
 rw [List.findIdx_eq_length.2 (fun y hy => by simpa using h y hy), List.getElem?_eq_none (Nat.le_refl _)]
theorem zoa {o : List OwnerS} {i : Nat} {y : OwnerS} {t : Str} (hi : o[i]? = some y) : (o.set i ⟨y.Player, t⟩).map (·.Player) = o.map (·.Player) := by
 rw [List.map_set]
 refine List.ext_getElem? fun j => ?_
 by_cases e : i = j
 ·subst e
  have hl := zD hi
  rw [List.getElem?_set_self (by simpa using hl), List.getElem?_map, hi]; rfl
 ·rw [List.getElem?_set_ne e]
theorem znN {o : List OwnerS} (h : o.Pairwise fun a b => zd8 a b < 0) : SortedS (o.map (·.Player)) :=
 List.pairwise_map.2 (h.imp fun {a b} hab => by
  rcases zb1 a.Player b.Player with q | q | q
  ·exact q
  ·exfalso; unfold zd8 at hab; rw [zdA.2 q] at hab; omega
  ·exfalso
   have h1 : za2 b.Player a.Player ≤ 0 := zfD.2 (zbh q)
   have h2 := zdB a.Player b.Player
   unfold zd8 at hab
   have h3 : ¬ za2 a.Player b.Player ≤ 0 := fun e => by
    have := zfD.1 e; rw [q] at this; cases this
   omega)
/-- The one that a search finds. -/
theorem zin {l : List Str} {s : Str} (hs : SortedS l) (h : l.contains s = true) : l[zcw l s]? = some s ∧ ∀ (j : Nat) (z : Str), j < zcw l s → l[j]? = some z → z ≠ s := by
 obtain ⟨k, hk, e⟩ := List.getElem_of_mem (by simpa using h)
 have hk' : l[k]? = some s := by rw [List.getElem?_eq_getElem hk, e]
 have hp : zcw l s = k := zik (by omega) (fun j x hj hx => hs.get hj hx hk') (fun j x hj hx => by
  rcases Nat.lt_or_eq_of_le hj with q | q
  ·exact zbh (hs.get q hk' hx)
  ·subst q; rw [hk'] at hx; cases hx; exact zau _)
 rw [hp]
 refine ⟨hk', fun j z hj hz e2 => ?_⟩
 have := hs.get hj hz hk'
 rw [e2, zau] at this; cases this
/-! as a walk tells it -/
section
variable {α : Type} {f : α → Int} {c : α → α → Int} {d : α} {l r : List α} {k : Nat} {x : α} {e : Int}
theorem ziU (hg : zaB f c d l 0 l = zaB f c d l k (x :: r)) (he : e ≠ 0) (hf : f x = e) : zaB f c d l 0 l = e := by
 rw [hg, zoT (by rw [hf]; exact he), hf]
theorem ziF (hg : zaB f c d l 0 l = zaB f c d l k (x :: r)) (hf : f x = 0) (h0 : 0 < k) (h : c x (l.getD (k - 1) d) ≤ 0) : zaB f c d l 0 l = 7 := by
 rw [hg, zo8 hf h0 h]
theorem zj2 {a b : Str} : (Op.bytesLess a b || a == b) = true ↔ za2 a b ≤ 0 := by rw [zmr, decide_eq_true_iff]
theorem znz {a b : Str} (h : (Op.bytesLess a b || a == b) = false) : ¬ za2 a b ≤ 0 := by rwa [zmr, decide_eq_false_iff_not] at h
end
theorem zaT {m : MarketS} {o r : List OwnerS} {k : Nat} {x : OwnerS} {e : Int} (hl : ¬ 500 < o.length) (hg : zc4 m o = zaB (zaI m) zd8 zbF o k (x :: r)) (he : e ≠ 0) (hf : zaI m x = e) : e = zbT m o := by
 have h : zc4 m o = e := ziU hg he hf
 rw [zbT, if_neg hl, h, if_pos he]
theorem zco {m : MarketS} {o r : List OwnerS} {k : Nat} {x : OwnerS} (hl : ¬ 500 < o.length) (hg : zc4 m o = zaB (zaI m) zd8 zbF o k (x :: r)) (hf : zaI m x = 0) (h0 : 0 < k) (h : (Op.bytesLess x.Player (o.getD (k - 1) zbF).Player || x.Player == (o.getD (k - 1) zbF).Player) = true) : 7 = zbT m o := by
 have h : zc4 m o = 7 := ziF hg hf h0 (zj2.1 h)
 rw [zbT, if_neg hl, h]; rfl
theorem zmP {m : MarketS} {o r : List OwnerS} {k : Nat} {x : OwnerS} (hf : zaI m x = 0) (h : 0 < k → (Op.bytesLess x.Player (o.getD (k - 1) zbF).Player || x.Player == (o.getD (k - 1) zbF).Player) = false) : zaB (zaI m) zd8 zbF o k (x :: r) = zaB (zaI m) zd8 zbF o (k + 1) r :=
 ziG hf fun h0 => znz (h h0)
theorem zcl {m : MarketS} {o : List OwnerS} (h : 500 < o.length) : 2 = zbT m o := by rw [zbT, if_pos h]
theorem zcq {m : MarketS} {o : List OwnerS} (hl : ¬ 500 < o.length) (hg : zc4 m o = 0) : (if ze1 m o then 0 else 12) = zbT m o := by
 have h : ¬ zc4 m o ≠ 0 := by simp [hg]
 rw [zbT, if_neg hl, if_neg h]
theorem zbl {m : MarketS} {l r : List GiveS} {k : Nat} {x : GiveS} {e : Int} (h0 : ¬ l.length = 0) (hl : ¬ 40 < l.length) (hg : zaB (za3 m) zcz zdh l 0 l = zaB (za3 m) zcz zdh l k (x :: r)) (he : e ≠ 0) (hf : za3 m x = e) : e = zbc m l := by
 rw [zbc, if_neg h0, if_neg hl, ziU hg he hf]
theorem zeT {m : MarketS} {l r : List GiveS} {k : Nat} {x : GiveS} (h0 : ¬ l.length = 0) (hl : ¬ 40 < l.length) (hg : zaB (za3 m) zcz zdh l 0 l = zaB (za3 m) zcz zdh l k (x :: r)) (hf : za3 m x = 0) (hk : 0 < k) (h : (Op.bytesLess x.Player (l.getD (k - 1) zdh).Player || x.Player == (l.getD (k - 1) zdh).Player) = true) : 7 = zbc m l := by
 rw [zbc, if_neg h0, if_neg hl, ziF hg hf hk (zj2.1 h)]
theorem zp1 {m : MarketS} {l r : List GiveS} {k : Nat} {x : GiveS} (hf : za3 m x = 0) (h : 0 < k → (Op.bytesLess x.Player (l.getD (k - 1) zdh).Player || x.Player == (l.getD (k - 1) zdh).Player) = false) : zaB (za3 m) zcz zdh l k (x :: r) = zaB (za3 m) zcz zdh l (k + 1) r :=
 ziG hf fun h0 => znz (h h0)
theorem zeZ {m : MarketS} {l : List GiveS} (h0 : ¬ l.length = 0) (hl : ¬ 40 < l.length) (hg : zaB (za3 m) zcz zdh l 0 l = 0) : 0 = zbc m l := by
 rw [zbc, if_neg h0, if_neg hl, hg]
theorem zfQ {m : MarketS} {l r : List DealS} {k : Nat} {x : DealS} {e : Int} (hl : ¬ 500 < l.length) (hg : zaB (zbv m) zdj zcf l 0 l = zaB (zbv m) zdj zcf l k (x :: r)) (he : e ≠ 0) (hf : zbv m x = e) : e = zcd m l := by
 rw [zcd, if_neg hl, ziU hg he hf]
theorem zfV {m : MarketS} {l r : List DealS} {k : Nat} {x : DealS} (hl : ¬ 500 < l.length) (hg : zaB (zbv m) zdj zcf l 0 l = zaB (zbv m) zdj zcf l k (x :: r)) (hf : zbv m x = 0) (hk : 0 < k) (h : (Op.bytesLess x.Id (l.getD (k - 1) zcf).Id || x.Id == (l.getD (k - 1) zcf).Id) = true) : 7 = zcd m l := by
 rw [zcd, if_neg hl, ziF hg hf hk (zj2.1 h)]
theorem zoO {m : MarketS} {l r : List DealS} {k : Nat} {x : DealS} (hf : zbv m x = 0) (h : 0 < k → (Op.bytesLess x.Id (l.getD (k - 1) zcf).Id || x.Id == (l.getD (k - 1) zcf).Id) = false) : zaB (zbv m) zdj zcf l k (x :: r) = zaB (zbv m) zdj zcf l (k + 1) r :=
 ziG hf fun h0 => znz (h h0)
theorem zfY {m : MarketS} {l : List DealS} (h : 500 < l.length) : 2 = zcd m l := by rw [zcd, if_pos h]
theorem zfX {m : MarketS} {l : List DealS} (hl : ¬ 500 < l.length) (hg : zaB (zbv m) zdj zcf l 0 l = 0) : 0 = zcd m l := by rw [zcd, if_neg hl, hg]
/-- Loops that count. -/
theorem ziM (o : List OwnerS) (t : Str) (k : Nat) (x : OwnerS) (hx : o[k]? = some x) : zcT (o.take (k + 1)) t = zcT (o.take k) t + (if x.Team = t then 1 else 0) := by
 rw [zb3 hx, zoM]
/-! an zqq that is looked for -/
theorem zfy {a b : Str} : za2 a b < 0 ↔ Op.bytesLess a b = true := by
 have h1 := zdB a b
 constructor
 ·intro h
  rcases zb1 a b with q | q | q
  ·exact q
  ·rw [zdA.2 q] at h; omega
  ·have := zfD.2 (zbh q); omega
 ·intro h
  have h2 : ¬ za2 a b = 0 := fun e => by rw [zdA.1 e, zau] at h; cases h
  have h3 := zfD.2 (zbh h)
  omega
theorem zo5 {l : List OwnerS} {s : Str} {i : Nat} : (bif decide ((i : Int) < (l.length : Int)) then za2 (l.getD i zbF).Player s == 0 else false) = ((l.map (·.Player))[i]? == some s) := by
 by_cases h : i < l.length
 ·have h' : (i : Int) < (l.length : Int) := by omega
  rw [List.getElem?_map, getD_some (d := zbF) h]
  simp only [h', decide_true, cond_true]
  rw [Bool.eq_iff_iff]; simp [zdA]
 ·have h' : ¬ (i : Int) < (l.length : Int) := by omega
  rw [List.getElem?_map, List.getElem?_eq_none (by omega : l.length ≤ i)]
  simp [h']
theorem zhG {o : List OwnerS} {s : Str} (hs : SortedS (o.map (·.Player))) (h : (o.map (·.Player)).contains s = true) :
 zcw (o.map (·.Player)) s < o.length ∧ o[zcw (o.map (·.Player)) s]? = some (o.getD (zcw (o.map (·.Player)) s) zbF) ∧ (o.getD (zcw (o.map (·.Player)) s) zbF).Player = s ∧ ∀ (j : Nat) (z : OwnerS), j < zcw (o.map (·.Player)) s → o[j]? = some z → z.Player ≠ s := by
 obtain ⟨h1, h2⟩ := zin hs h
 have hl : zcw (o.map (·.Player)) s < o.length := by simpa using zD h1
 have hg := getD_some (d := zbF) hl
 refine ⟨hl, hg, ?_, fun j z hj hz => h2 j z.Player hj (by rw [List.getElem?_map, hz]; rfl)⟩
 rw [List.getElem?_map, hg] at h1
 simpa using h1
theorem zoE {o : List OwnerS} {s : Str} (h : (o.map (·.Player)).contains s = false) : ∀ y ∈ o, y.Player ≠ s := fun y hy e => by
 have : (o.map (·.Player)).contains s = true := by
  simp only [List.contains_eq_mem, decide_eq_true_eq]
  exact List.mem_map.2 ⟨y, hy, e⟩
 rw [h] at this; cases this
theorem zpf {o D : List OwnerS} {g : GiveS} {r l : List GiveS} {i : Nat} {y : OwnerS} (hg : zcy o l = zcy D (g :: r)) (hi : D[i]? = some y) (hp : y.Player = g.Player) (hb : ∀ (j : Nat) (z : OwnerS), j < i → D[j]? = some z → z.Player ≠ g.Player) (ht : y.Team = g.From) : zcy o l = zcy (D.set i ⟨y.Player, g.To⟩) r := by
 rw [hg, zcy, zl6 hi hp hb, if_pos ht]; rfl
theorem zjB {o D : List OwnerS} {g : GiveS} {r l : List GiveS} {i : Nat} {y : OwnerS} (hg : zcy o l = zcy D (g :: r)) (hi : D[i]? = some y) (hp : y.Player = g.Player) (hb : ∀ (j : Nat) (z : OwnerS), j < i → D[j]? = some z → z.Player ≠ g.Player) (ht : ¬ y.Team = g.From) : zcy o l = none := by
 rw [hg, zcy, zl6 hi hp hb, if_neg ht]; rfl
theorem zle {o D : List OwnerS} {g : GiveS} {r l : List GiveS} (hg : zcy o l = zcy D (g :: r)) (h : ∀ y ∈ D, y.Player ≠ g.Player) : zcy o l = none := by
 rw [hg, zcy, zny h]; rfl
def ziZ (o : List OwnerS) (l : List GiveS) : List OwnerS := (zcy o l).getD []
def zgi (m : MarketS) (o : List OwnerS) (l : List GiveS) : Bool := match zcy o l with | some d => ze1 m d | none => false
theorem zkZ {m : MarketS} {o : List OwnerS} {l : List GiveS} (h : zcy o l = none) : zgi m o l = false ∧ ziZ o l = [] := by
 unfold zgi ziZ; rw [h]; exact ⟨rfl, rfl⟩
theorem zoL {m : MarketS} {o d : List OwnerS} {l : List GiveS} (h : zcy o l = some d) : zgi m o l = ze1 m d ∧ ziZ o l = d := by
 unfold zgi ziZ; rw [h]; exact ⟨rfl, rfl⟩
def zct (m : MarketS) (o : List OwnerS) (x : DealS) : Int := orI [zbm m o, zcc m [x]]
def zhZ (m : MarketS) (o : List OwnerS) (x : DealS) : List OwnerS := if zct m o x ≠ 0 then [] else if zgi m o x.Gives then ziZ o x.Gives else []
def zho (m : MarketS) (o : List OwnerS) (x : DealS) : Int := if zct m o x ≠ 0 then zct m o x else if zgi m o x.Gives then 0 else 11
theorem zpC {a b : Int} (h : orI [a, b] = 0) : a = 0 ∧ b = 0 := by rw [zpJ] at h; exact zif h
theorem zp2 {m : MarketS} {x : DealS} (h : zcc m [x] = 0) : zae m = 0 ∧ x.Gives.length ≤ 40 := by
 obtain ⟨h1, h2⟩ := zoS h
 obtain ⟨_, h3, _⟩ := zo1 h2
 obtain ⟨_, h4, _⟩ := zkO (zpM (h3 x (by simp)))
 exact ⟨h1, h4⟩
theorem zpt {m : MarketS} {o : List OwnerS} {x : DealS} (h : zct m o x = 0) : SortedS (o.map (·.Player)) ∧ x.Gives.length ≤ 40 := by
 obtain ⟨h1, h2⟩ := zpC h
 obtain ⟨_, h3⟩ := zof h1
 exact ⟨znN (zjA h3).2.2.1, (zp2 h2).2⟩
theorem zja {m : MarketS} {o : List OwnerS} {x : DealS} (h : zct m o x ≠ 0) : zhZ m o x = [] ∧ zho m o x = zct m o x := by
 unfold zhZ zho; rw [if_pos h, if_pos h]; exact ⟨rfl, rfl⟩
theorem zkz {m : MarketS} {o : List OwnerS} {x : DealS} (h : zct m o x = 0) (hb : zgi m o x.Gives = false) : zhZ m o x = [] ∧ zho m o x = 11 := by
 have h1 : ¬ zct m o x ≠ 0 := by simp [h]
 unfold zhZ zho; rw [if_neg h1, if_neg h1, hb]; exact ⟨rfl, rfl⟩
theorem zfG {m : MarketS} {o : List OwnerS} {x : DealS} (h : zct m o x = 0) (hb : zgi m o x.Gives = true) : zhZ m o x = ziZ o x.Gives ∧ zho m o x = 0 := by
 have h1 : ¬ zct m o x ≠ 0 := by simp [h]
 unfold zhZ zho; rw [if_neg h1, if_neg h1, hb]; exact ⟨rfl, rfl⟩
end
section
structure GoodM (m : MarketS) : Prop where
 pos : 0 < m.Teams.length
 len : m.Teams.length ≤ 5
 sh : ∀ s ∈ m.Teams, s.length ≤ 10
def zbD : List Str := [[116, 97], [116, 98], [116, 99], [116, 100]]
theorem zdK : ∀ s ∈ zbD, s.length ≤ 10 := by decide
def zic (x : OwnerS) : Prop := Sh x.Player ∧ Sh x.Team
structure GoodOw (l : List OwnerS) : Prop where
 len : l.length ≤ 13
 all : ∀ x ∈ l, Sh x.Player ∧ Sh x.Team
theorem zlH {s : Str} {n : Nat} (h : s.length ≤ n) (hn : n ≤ 1000000) : Sh s := by unfold Sh; omega
/-- What is left of a list, some of it gone. -/
structure LeftOf {α : Type} (l k : List α) : Prop where
 len : k.length ≤ l.length
 sub : ∀ x ∈ k, x ∈ l
theorem LeftOf.take {α : Type} {l D : List α} (n : Nat) (hl : D.length = l.length) (h : ∀ x ∈ D, x ∈ l) : LeftOf l (D.take n) :=
 ⟨by rw [List.length_take]; omega, fun x hx => h x (List.mem_of_mem_take hx)⟩
theorem LeftOf.refl {α : Type} (l : List α) : LeftOf l l := ⟨Nat.le_refl _, fun _ h => h⟩
end
section

end
section
structure Hall where
 Teams : List Str
 Players : List Str
 Budget : Int
 Places : Int
structure Sale where
 Player : Str
 Team : Str
 Price : Int
def zgO : List Sale → Str → Int
 | [], _ => 0
 | x :: r, t => (if x.Team = t then x.Price else 0) + zgO r t
def zfe : List Sale → Str → Int
 | [], _ => 0
 | x :: r, t => (if x.Team = t then 1 else 0) + zfe r t
theorem zob (l : List Sale) (x : Sale) (t : Str) : zgO (l ++ [x]) t = zgO l t + (if x.Team = t then x.Price else 0) := by
 induction l with
 | nil => simp [zgO]
 | cons y r ih => simp only [List.cons_append, zgO, ih]; omega
theorem zoq (l : List Sale) (x : Sale) (t : Str) : zfe (l ++ [x]) t = zfe l t + (if x.Team = t then 1 else 0) := by
 induction l with
 | nil => simp [zfe]
 | cons y r ih => simp only [List.cons_append, zfe, ih]; omega
abbrev zce := List (Str × HVal)
def lkI (L : zce) (t : Str) : HVal := match zaf t L with | some p => p.2 | none => .int .i64 0
theorem zfg {s t : Str} {v : HVal} : ∀ {L : zce}, zaf s L = none → zaf t (L ++ [(s, v)]) = if t = s then some (L.length, v) else zaf t L
 | [], _ => by by_cases h : t = s <;> simp [zaf, h]
 | (k, h) :: r, hn => by
   simp only [zaf] at hn
   by_cases hk : s = k
   ·rw [if_pos hk] at hn; cases hn
   ·rw [if_neg hk] at hn
    have hr : zaf s r = none := by cases hq : zaf s r with
     | none => rfl
     | some p => rw [hq] at hn; cases hn
    have ih := zfg (t := t) (v := v) hr
    simp only [List.cons_append, zaf]
    by_cases ht : t = k
    ·have : ¬ t = s := fun e => hk (e ▸ ht)
     rw [if_pos ht, if_neg this, if_pos ht]
    ·rw [if_neg ht, ih]
     by_cases hs : t = s
     ·rw [if_pos hs, if_pos hs]; simp
     ·rw [if_neg hs, if_neg hs, if_neg ht]
theorem zk9 {s t : Str} {v : HVal} : ∀ {L : zce} {j : Nat} {h : HVal}, zaf s L = some (j, h) → (zaf t (L.set j (s, v))) = if t = s then some (j, v) else zaf t L
 | [], j, h, hh => by simp [zaf] at hh
 | (k, x) :: r, j, h, hh => by
   simp only [zaf] at hh
   by_cases hk : s = k
   ·rw [if_pos hk] at hh
    simp only [Option.some.injEq, Prod.mk.injEq] at hh
    obtain ⟨rfl, rfl⟩ := hh
    subst hk
    simp only [List.set_cons_zero, zaf]
    by_cases ht : t = s
    ·rw [if_pos ht, if_pos ht]
    ·rw [if_neg ht, if_neg ht, if_neg ht]
   ·rw [if_neg hk] at hh
    cases hq : zaf s r with
    | none => rw [hq] at hh; cases hh
    | some p =>
      rw [hq] at hh
      simp only [Option.map_some, Option.some.injEq, Prod.mk.injEq] at hh
      obtain ⟨rfl, rfl⟩ := hh
      have ih := zk9 (t := t) (v := v) (L := r) (j := p.1) (h := p.2) (by rw [hq])
      simp only [List.set_cons_succ, zaf]
      by_cases ht : t = k
      ·have : ¬ t = s := fun e => hk (e ▸ ht)
       rw [if_pos ht, if_neg this, if_pos ht]
      ·rw [if_neg ht, ih, if_neg ht]
       by_cases hs : t = s
       ·rw [if_pos hs, if_pos hs]; rfl
       ·rw [if_neg hs, if_neg hs]
theorem zkY (s t : Str) (v : HVal) (L : zce) : (zaf t (zdD s v L)).map (·.2) = if t = s then some v else (zaf t L).map (·.2) := by
 unfold zdD
 cases hq : zaf s L with
 | none => simp only []; rw [zfg hq]; split <;> rfl
 | some p => obtain ⟨j, h⟩ := p; simp only []; rw [zk9 hq]; split <;> rfl
theorem zoW (L : zce) (t : Str) : lkI L t = ((zaf t L).map (·.2)).getD (.int .i64 0) := by
 unfold lkI; cases zaf t L <;> rfl
theorem zkM (s t : Str) (v : HVal) (L : zce) : lkI (zdD s v L) t = if t = s then v else lkI L t := by
 rw [zoW, zkY, zoW]; split <;> rfl
theorem zkA (L : zce) (t : Str) : (zaf t L).isSome = ((zaf t L).map (·.2)).isSome := by cases zaf t L <;> rfl
/-- An auction after sales. -/
structure AucOk (h : Hall) (l : List Sale) (S : List Str) (L H : zce) : Prop where
 sold : ∀ s, S.contains s = l.any (fun y => y.Player == s)
 left : ∀ t, h.Teams.contains t = true → lkI L t = .int .i64 (h.Budget - zgO l t)
 got : ∀ t, lkI H t = .int .i64 (zfe l t)
theorem zhb (s t : Str) (l : List Str) : (zc9 s l).contains t = (l.contains t || s == t) := by
 unfold zc9
 by_cases hc : l.contains s = true
 ·rw [if_pos hc]
  by_cases h : s = t
  ·subst h; rw [hc]; simp
  ·have : (s == t) = false := by simpa using h
   simp [this]
 ·rw [if_neg hc, List.contains_eq_any_beq, List.any_append, ← List.contains_eq_any_beq]
  congr 1
  simp only [List.any_cons, List.any_nil, Bool.or_false]
  rw [Bool.eq_iff_iff, beq_iff_eq, beq_iff_eq]; exact eq_comm
theorem AucOk.add {h : Hall} {l : List Sale} {S : List Str} {L H : zce} (ok : AucOk h l S L H) (x : Sale) (hx : h.Teams.contains x.Team = true) :
 AucOk h (l ++ [x]) (zc9 x.Player S) (zdD x.Team (.int .i64 (h.Budget - zgO l x.Team - x.Price)) L) (zdD x.Team (.int .i64 (zfe l x.Team + 1)) H) where
 sold s := by rw [zhb, ok.sold, List.any_append]; simp
 left t ht := by
  rw [zkM, zob]
  by_cases e : t = x.Team
  ·subst e; rw [if_pos rfl, if_pos rfl]; congr 1; omega
  ·rw [if_neg e, if_neg (fun q => e q.symm), ok.left t ht]; congr 1; omega
 got t := by
  rw [zkM, zoq]
  by_cases e : t = x.Team
  ·subst e; rw [if_pos rfl, if_pos rfl]
  ·rw [if_neg e, if_neg (fun q => e q.symm), ok.got t]; congr 1; omega
end
section
/-! numbers in decimal -/
def dig (c : UInt8) : Bool := decide (48 ≤ c.toNat) && decide (c.toNat ≤ 57)
def zeN (s : Str) : Str := match s with | 45 :: r => r | _ => s
def numC (s : Str) (n : Int) : Bool := decide ((zeN s = [] ∨ n < ((zeN s).length : Int)) ∨ ((((zeN s).head?).getD 0).toNat : Int) = 48 ∧ ((1 : Int) < ((zeN s).length : Int) ∨ (zeN s).length < s.length))
def numB (s : Str) (n : Int) : Bool := !(numC s n) && (zeN s).all dig
def numV (s : Str) : Int := (Lib.atoi s).getD 0
def znL (s : Str) (n : Int) : Int := if numB s n then numV s else 0
/-- The map of limits. -/
def LimOk (l : List PairS) (L : zce) : Prop := ∀ t, (zaf t L).map (·.2) = (l.find? (fun p => p.Name == t)).map (fun p => .int .i64 (znL p.Val 9))
theorem LimOk.add {l : List PairS} {L : zce} (ok : LimOk l L) (x : PairS) (hx : l.any (fun y => y.Name == x.Name) = false) : LimOk (l ++ [x]) (zdD x.Name (.int .i64 (znL x.Val 9)) L) := fun t => by
 rw [zkY, List.find?_append, ok t]
 by_cases e : t = x.Name
 ·subst e
  rw [if_pos rfl]
  have : l.find? (fun p => p.Name == x.Name) = none := by
   rw [List.find?_eq_none]; intro y hy
   have := List.any_eq_false.1 hx y hy
   simpa using this
  rw [this]; simp
 ·rw [if_neg e]
  have hn : (x.Name == t) = false := by simpa using fun q => e q.symm
  cases l.find? (fun p => p.Name == t) with
  | none => simp [List.find?, hn]
  | some p => simp
theorem LimOk.is {l : List PairS} {L : zce} (ok : LimOk l L) (t : Str) : (zaf t L).isSome = l.any (fun y => y.Name == t) := by
 rw [zkA, ok t]
 rw [Bool.eq_iff_iff]; simp
structure Top where
 team : Str
 first : Int
 second : Int
def Top.step (q : Top) (t : Str) (n : Int) : Top := if q.first < n then ⟨t, n, q.first⟩ else ⟨q.team, q.first, max q.second n⟩
end
section
section
variable {h : Hall} {l : List Sale} {x : Sale} (h6 : x.Player ∈ h.Players ∧ x.Team ∈ h.Teams) (h8 : ∀ y ∈ l, ¬ y.Player = x.Player)
include h6 h8
end
end
section

end
section
theorem Ghost.clear [Tracks] {e : Env} : ∀ {M : List MObj}, Ghost e M e []
 | [] => Ghost.perm (List.Perm.refl _)
 | _ :: _ => Ghost.trans Ghost.drop Ghost.clear
theorem Ghost.last [Tracks] {e : Env} {m : MObj} : ∀ {R : List MObj}, Ghost e (R ++ [m]) e [m]
 | [] => Ghost.perm (List.Perm.refl _)
 | x :: R => Ghost.trans (M' := R ++ [m]) Ghost.drop Ghost.last
theorem Ghost.only [Tracks] {e : Env} {M : List MObj} {i : Nat} {m : MObj} (h : M[i]? = some m) : Ghost e M e [m] :=
 Ghost.trans (Ghost.perm ((zeu h).trans (List.perm_append_comm (l₁ := [m]) (l₂ := M.eraseIdx i)))) Ghost.last
end
section
section
variable {P : Program} {e : Env} {dst : Option Tmp} {ty : TypeId} {pos : String} {af : Array Edge} {g : Option (Nat × Bool)} {M : List MObj} {K : HVal → List MObj → Prop}
theorem zmS [Tracks] {x y : Operand} {t kt et : TypeId} {size bytes s2 b2 s3 b3 : Nat} {zero z2 : Value} {d : TD} {i b : Nat} {ls : zce} {s : Str} {h : HVal}
 (hf : Fits P t (.map kt et) size bytes zero) (hkt : Fits P kt .str s2 b2 z2) (het : Fits P et d s3 b3 (.int .i64 0)) (hx : zx e x = some (.raw (.map (some b)))) (hy : zx e y = some (.str s)) (hm : M[i]? = some (.map b (sk ls)))
 (hv : lkI ls s = h) (hk : K h M) : EOp P e M ⟨dst, .lookup t x y false, ty, pos, af, g⟩ K := by
 refine znJ hf hkt het hx hy hm ?_
 show K (lkI ls s) M
 rw [hv]; exact hk
end
end
section
variable {P : Program}
theorem V.hmap_inv {I : Imm} {ks vs : List HVal} {v : Value} (h : V I (.hmap ks vs) v) : ∃ b es clk, v = .map (some b) ∧ I.heap b = some (.map es clk) ∧ es.size = ks.length ∧ es.size = vs.length ∧
 (∀ (j : Nat) (c : HVal) (m : MapEntry), ks[j]? = some c → es[j]? = some m → V I c m.key) ∧ ∀ (j : Nat) (c : HVal) (m : MapEntry), vs[j]? = some c → es[j]? = some m → V I c m.val := by
 cases h with
 | hmap h1 h2 h3 h4 h5 => exact ⟨_, _, _, rfl, h1, h2, h3, h4, h5⟩
/-- A frozen map keyed by strings. -/
abbrev hsm (L : zce) : HVal := .hmap (L.map fun p => .str p.1) (L.map (·.2))
abbrev hset (S : List (List UInt8)) : HVal := hsm (mset S)
theorem zl5 (L : zce) : (sk L).map (·.1) = L.map fun p => HVal.str p.1 := by simp [sk, Function.comp_def]
theorem zl8 (L : zce) : (sk L).map (·.2) = L.map (·.2) := by simp [sk, Function.comp_def]
section
variable {e : Env} {dst : Option Tmp} {ty : TypeId} {pos : String} {af : Array Edge} {g : Option (Nat × Bool)}
theorem zhw [Tracks] {x y : Operand} {t kt et : TypeId} {size bytes s2 b2 s3 b3 : Nat} {zero z2 z3 : Value} {d : TD} {ls : zce} {s : List UInt8}
 (hf : Fits P t (.map kt et) size bytes zero) (hkt : Fits P kt .str s2 b2 z2) (het : Fits P et d s3 b3 z3) (hx : zx e x = some (hsm ls)) (hy : zx e y = some (.str s)) :
 POp P e ⟨dst, .lookup t x y false, ty, pos, af, g⟩ (match zaf s ls with | some p => p.2 | none => zd7 z3) :=
 POp.of_run fun I F a w ho hs => by
  obtain ⟨b, es, clk, h1, h3, h4, h4', hK, hV⟩ := (ho.one (x := x) (by simp [Op.operands]) hx).hmap_inv
  have h2 := (ho.one (x := y) (by simp [Op.operands]) hy).str_inv
  have h3 := hs.imm _ _ h3
  have h5 : ∀ (i : Nat) (p : HVal × HVal) (m : MapEntry), (sk ls)[i]? = some p → es[i]? = some m → V I p.1 m.key ∧ V I p.2 m.val := fun i p m a1 a2 => by
   refine ⟨hK i _ m ?_ a2, hV i _ m ?_ a2⟩
   ·rw [← zl5, List.getElem?_map, a1]; rfl
   ·rw [← zl8, List.getElem?_map, a1]; rfl
  obtain ⟨h6, h7⟩ := zcW (by simpa [sk] using h4) h5
  obtain ⟨n1, n2⟩ := zdw (I := I) (s := s) es.toList ls 0 h6 h7
  cases hq : zaf s ls with
  | none =>
    refine ⟨z3, w, I, ?_, .refl I, zeM I z3, hs⟩
    simp only [execOp, h1, h2, Instr.lookup, Sem.run_bind, run_underlying hf.mapD, Result.andThen_ok, zbH h3, Sem.run_pure, za0 hkt.strD, Instr.findKey, run_underlying hkt.strD, n1 hq, het.run_zero]
    simp
  | some p =>
    obtain ⟨j, h⟩ := p
    obtain ⟨v, g1, g2⟩ := n2 j h hq
    refine ⟨v, w, I, ?_, .refl I, g2, hs⟩
    simp only [execOp, h1, h2, Instr.lookup, Sem.run_bind, run_underlying hf.mapD, Result.andThen_ok, zbH h3, Sem.run_pure, za0 hkt.strD, Instr.findKey, run_underlying hkt.strD, g1]
    simp
end
/-- h, seen as h' while it is only read; objects may hold others. -/
inductive Bow (M : List MObj) : HVal → HVal → Prop
 | weak {h h' : HVal} (hw : Weak h h') : Bow M h h'
 | arr {i : Nat} {v : Value} {sz : Nat} {es : List HVal} (hm : M[i]? = some (.arr v sz es)) : Bow M (.raw v) (.slice sz es)
 | cells {i b off : Nat} {cs cs' : List HVal} (hm : M[i]? = some (.cells b cs)) (hl : cs.length = cs'.length) (h : ∀ (j : Nat) (c c' : HVal), cs[j]? = some c → cs'[j]? = some c' → Bow M c c') : Bow M (.raw (.pointer (some ⟨b, off, none⟩))) (.vptr cs' off)
 | map {i b : Nat} {L : zce} (hm : M[i]? = some (.map b (sk L))) : Bow M (.raw (.map (some b))) (hsm L)
 | vptr {off : Nat} {l l' : List HVal} (hl : l.length = l'.length) (h : ∀ (j : Nat) (c c' : HVal), l[j]? = some c → l'[j]? = some c' → Bow M c c') : Bow M (.vptr l off) (.vptr l' off)
 | fn {f : Fn} {c1 l l' : List HVal} (hl : l.length = l'.length) (h : ∀ (j : Nat) (c c' : HVal), l[j]? = some c → l'[j]? = some c' → Bow M c c') : Bow M (.fn f c1 l) (.fn f c1 l')
def BowL (M : List MObj) : List HVal → List HVal → Prop
 | [], [] => True
 | h :: r, h' :: r' => Bow M h h' ∧ BowL M r r'
 | _, _ => False
theorem BowL.pt {M : List MObj} : ∀ {l l' : List HVal}, BowL M l l' → l.length = l'.length ∧ ∀ (j : Nat) (c c' : HVal), l[j]? = some c → l'[j]? = some c' → Bow M c c'
 | [], [], _ => ⟨rfl, fun j c c' h => by simp at h⟩
 | h :: r, h' :: r', hb => by
   obtain ⟨h1, h2⟩ := BowL.pt hb.2
   refine ⟨by simp [h1], fun j c c' a1 a2 => ?_⟩
   cases j with
   | zero => simp at a1 a2; subst a1 a2; exact hb.1
   | succ j => exact h2 j c c' (by simpa using a1) (by simpa using a2)
 | [], _ :: _, hb => hb.elim
 | _ :: _, [], hb => hb.elim
theorem Bow.cellsL {M : List MObj} {i b off : Nat} {cs cs' : List HVal} (hm : M[i]? = some (.cells b cs)) (h : BowL M cs cs') : Bow M (.raw (.pointer (some ⟨b, off, none⟩))) (.vptr cs' off) := .cells hm h.pt.1 h.pt.2
theorem Bow.vptrL {M : List MObj} {off : Nat} {l l' : List HVal} (h : BowL M l l') : Bow M (.vptr l off) (.vptr l' off) := .vptr h.pt.1 h.pt.2
theorem Bow.fnL {M : List MObj} {f : Fn} {c1 l l' : List HVal} (h : BowL M l l') : Bow M (.fn f c1 l) (.fn f c1 l') := .fn h.pt.1 h.pt.2
theorem Bow.refl {M : List MObj} {h : HVal} : Bow M h h := .weak (Weak.refl _)
theorem V.vptr_inv' {I : Imm} {cs : List HVal} {off : Nat} {v : Value} (h : V I (.vptr cs off) v) : ∃ b base rc el fr, v = .pointer (some ⟨b, base + off, none⟩) ∧ I.heap b = some (.cells rc el fr) ∧ base + cs.length ≤ rc.size ∧
 ∀ (j : Nat) (c : HVal) (v : Value), cs[j]? = some c → rc[base + j]? = some v → V I c v := by
 cases h with
 | vptr h1 h2 h3 => exact ⟨_, _, _, _, _, rfl, h1, h2, h3⟩
theorem Bow.v [Tracks] {M : List MObj} {I : Imm} {F : List MObj} {w : World} {h h' : HVal} (hb : Bow M h h') (hs : Sat P I (M ++ F) w) : ∀ {v : Value}, V I h v → V (zbV w) h' v := by
 induction hb with
 | weak hw => intro v hv; exact hw _ _ (hv.mono hs.le_all)
 | arr hm => intro v hv; exact (Bor.arr hm).v hs hv
 | @cells i b off cs cs' hm hl _ ih =>
   intro v hv
   rw [hv.raw_inv]
   obtain ⟨rc, el, fr, h2, h3, h4⟩ := hs.obj _ (List.mem_append_left _ (List.mem_of_getElem? hm))
   have := V.vptr (I := zbV w) (cs := cs') (off := off) (base := 0) h2 (by have := h4.1; simp at this; omega) fun j c v a1 a2 => by
    have hj := zD a1
    have hj' := List.getElem?_eq_getElem (l := cs) (i := j) (by omega)
    exact ih j _ c hj' a1 (h4.2 j _ v hj' (by simpa using a2))
   rwa [Nat.zero_add] at this
 | @map i b L hm =>
   intro v hv
   rw [hv.raw_inv]
   obtain ⟨es, clk, h1, h2, h3⟩ := hs.obj _ (List.mem_append_left _ (List.mem_of_getElem? hm))
   have hn : es.size = L.length := by simpa [sk] using h2.1
   refine .hmap (I := zbV w) h1 (by simp [hn]) (by simp [hn]) (fun j c m a1 a2 => ?_) (fun j c m a1 a2 => ?_)
   ·rw [← zl5, List.getElem?_map] at a1
    cases hq : (sk L)[j]? with
    | none => rw [hq] at a1; simp at a1
    | some p => rw [hq] at a1; simp at a1; subst a1; exact ((h3 j p m hq a2).1).mono hs.le_all
   ·rw [← zl8, List.getElem?_map] at a1
    cases hq : (sk L)[j]? with
    | none => rw [hq] at a1; simp at a1
    | some p => rw [hq] at a1; simp at a1; subst a1; exact ((h3 j p m hq a2).2).mono hs.le_all
 | @vptr off l l' hl _ ih =>
   intro v hv
   obtain ⟨b, base, rc, el, fr, rfl, h1, h2, h3⟩ := hv.vptr_inv'
   refine .vptr (I := zbV w) (hs.imm _ _ h1) (by omega) fun j c u a1 a2 => ?_
   have hj := zD a1
   have hj' := List.getElem?_eq_getElem (l := l) (i := j) (by omega)
   exact ih j _ c hj' a1 (h3 j _ u hj' a2)
 | @fn f c1 l l' hl _ ih =>
   intro v hv
   cases hv with
   | fn g1 g2 g3 g4 =>
     refine .fn g1 (by omega) (fun j c u a1 a2 => (g3 j c u a1 a2).mono hs.le_all) fun j c u a1 a2 => ?_
     have hj := zD a1
     have hj' := List.getElem?_eq_getElem (l := l) (i := j) (by omega)
     exact ih j _ c hj' a1 (g4 j _ u hj' a2)
theorem BowL.vl [Tracks] {M : List MObj} {I : Imm} {F : List MObj} {w : World} (hs : Sat P I (M ++ F) w) : ∀ {hs1 hs2 : List HVal} {vs : List Value}, BowL M hs1 hs2 → VL I hs1 vs → VL (zbV w) hs2 vs
 | [], [], vs, _, h => ⟨by have := h.1; simpa using this, fun j c v h1 _ => by simp at h1⟩
 | h :: r, h' :: r', [], _, hv => by have := hv.1; simp at this
 | h :: r, h' :: r', v :: vs, hb, hv => VL.cons (hb.1.v hs hv.head) (BowL.vl hs hb.2 hv.tail)
 | [], _ :: _, _, hb, _ => hb.elim
 | _ :: _, [], _, hb, _ => hb.elim
/-- A function that changes nothing, called while objects are owned that it reads; what it yields hangs on no memory. -/
theorem zh1 [Tracks] {e : Env} {dst : Option Tmp} {ty : TypeId} {pos : String} {af : Array Edge} {g : Option (Nat × Bool)} {M : List MObj} {K : HVal → List MObj → Prop} {f : FuncId} {args : Array Operand} {ats : Array TypeId} {hs hs' : List HVal} {h : HVal} (hc : Callable P f) (ha : zcD e args.toList = some hs) (hb : BowL M hs hs') (hp : zaa P f hs' h)
 (hg : zdY h = true) (hk : K h M) : EOp P e M ⟨dst, .call ⟨.value (.func f), args, ats⟩, ty, pos, af, g⟩ K := fun I F a w ho hsat => by
 have hrun : (execOp a.eval ⟨dst, .call ⟨.value (.func f), args, ats⟩, ty, pos, af, g⟩).run P w = .ok (.enter f (args.toList.map a.eval).toArray) w := by
  simp [execOp, resolve, Act.eval, Deferred.ofValue, invoke, zcU hc]
  apply Array.ext'; simp
 have hv := zdO (I := I) (f := a.eval) _ _ ha fun x hx h hh => ho.one (by simp only [Op.operands, Call.operands]; exact Array.mem_append_right _ (by simpa using hx)) hh
 simp only [Oper.wp, hrun, Oper.upon]
 refine (hp (zbV w) [] w _ (hb.vl hsat hv) (by simpa using zih hsat)).mono ?_
 rintro x w' ⟨v, y, M', J, rfl, h1, ⟨rfl, rfl⟩, h3, h4⟩
 exact ⟨v, _, M, I, rfl, .refl I, hk, zg6 h3 hg, hsat.back h1 h4⟩
end
end Go.HL
namespace Go.Proofs.YtcihcbnjfclkbaaGreatDoor
set_option maxRecDepth 100000
set_option linter.unusedVariables false
set_option linter.unusedSimpArgs false
section
open Go.HL
/-- slices.IndexFunc[[]string,string] -/
theorem zeb [Tracks] {l : List Str} {fid : FuncId} {caps : List HVal} {p : Str → Bool} (hca : Callable Tryz.prog fid) (hp : ∀ x, zaa Tryz.prog fid ([HVal.str x] ++ caps) (.bool (p x))) (hl : l.length ≤ 1000000) : zaa Tryz.prog 175 [.slice 1 (l.map HVal.str), .fn (.func fid) [] caps] (.int .i64 (zde p l 0)) := by
 refine Con.of_body Tryz.func175 rfl Tryz.ntmps175 rfl rfl ?_
 refine zb ?_
 refine das rfl ?_
 refine dn ?_
 refine zf ?_
 refine zb ?_
 refine dmv rfl ?_
 refine dq (zB zF rfl) ?_
 refine dmv rfl ?_
 refine dn ?_
 refine zm ?_
 refine z8 [4, 5, 8, 9, 10, 11, 12, 13, 14, 15, 16, 17, 18] (fun (k : Nat) => [(8, .int .i64 k)]) (fun (k : Nat) => []) (fun (k : Nat) => k ≤ l.length ∧ (zde p l 0 = zde p (l.drop k) k)) (fun (k : Nat) => l.length - k) (0) ?_ ?_ ?_ ?_
 ·exact ⟨Nat.zero_le _, rfl⟩
 ·exact ⟨rfl, trivial⟩
 ·exact List.Perm.refl _
 ·intro k hinv
  obtain ⟨hk, hg⟩ := hinv
  refine zb ?_
  refine dq (zJ rfl rfl) ?_
  refine dn ?_
  refine zf ?_
  refine zj rfl (fun h1 => ?_) (fun h2 => ?_)
  ·try simp at h1
   obtain ⟨x, hx⟩ : ∃ x, l[k]? = some x := ⟨_, List.getElem?_eq_getElem h1⟩
   have hdx := zK hx
   rw [hdx] at hg
   refine zk ?_
   refine ze ?_
   refine zf ?_
   refine zm ?_
   refine zb ?_
   refine dmv rfl ?_
   refine das rfl ?_
   refine dn ?_
   refine zb ?_
   refine dmv rfl ?_
   refine dmv rfl ?_
   refine dmv rfl ?_
   refine dq (zH zF ty9 rfl rfl rfl (by first | assumption | simp_all)) ?_
   refine dq (zi ty9 rfl rfl rfl) ?_
   refine dq (zci hca rfl rfl (WeakL.refl _) (hp _)) ?_
   refine dn ?_
   refine zj rfl (fun h3 => ?_) (fun h4 => ?_)
   ·try simp at h3
    refine zb ?_
    refine dmv rfl ?_
    refine das rfl ?_
    refine dn ?_
    refine zo ?_
    refine zC rfl ?_
    show HVal.int .i64 _ = _
    first | (rw [hg]; rfl) | (rw [hg]; simp_all [zde])
   ·try simp at h4
    refine zk ?_
    refine zz ?_
    refine ze ?_
    refine zy ?_
    refine dq (zv rfl rfl (by omega) (by omega)) ?_
    refine dmv rfl ?_
    refine dn ?_
    refine ⟨k + 1, ?_, ?_, ⟨rfl, trivial⟩, (by repeat (first | exact zp | refine zu rfl ?_ | refine zq rfl rfl ?_)), List.Perm.refl _⟩
    ·refine ⟨by omega, ?_⟩
     rw [hg, zde, if_neg (by simp_all)]; rfl
    ·dsimp only; omega
  ·try simp at h2
   have hnk : l.length ≤ k := by omega
   obtain rfl : k = l.length := by omega
   rw [z6 (Nat.le_refl _)] at hg
   refine zN ?_
   refine zS ?_
   refine zag ?_
   refine zE ?_
   refine ze ?_
   refine zb ?_
   refine das rfl ?_
   refine dn ?_
   refine zo ?_
   refine zC rfl ?_
   show HVal.int .i64 _ = _
   first | (rw [hg]; rfl) | (rw [hg]; simp_all [zde])

/-- slices.ContainsFunc[[]string,string] -/
theorem zdP [Tracks] {l : List Str} {fid : FuncId} {caps : List HVal} {p : Str → Bool} (hca : Callable Tryz.prog fid) (hp : ∀ x, zaa Tryz.prog fid ([HVal.str x] ++ caps) (.bool (p x))) (hl : l.length ≤ 1000000) : zaa Tryz.prog 127 [.slice 1 (l.map HVal.str), .fn (.func fid) [] caps] (.bool (l.any p)) := by
 refine Con.of_body Tryz.func127 rfl Tryz.ntmps127 rfl rfl ?_
 refine zb ?_
 refine das rfl ?_
 refine dn ?_
 refine zb ?_
 refine dmv rfl ?_
 refine dmv rfl ?_
 refine dq (zw zr5 rfl (WeakL.refl _) (zeb hca hp hl)) ?_
 refine dq (zbw rfl rfl) ?_
 refine das rfl ?_
 refine dn ?_
 refine zo ?_
 refine zC rfl ?_
 congr 1; exact zgl p l 0 (by omega)

/-- benchwarmer/trade.isTeam -/
theorem zdR [Tracks] {m : MarketS} {t : Str} (hm : MarketOk m) : zaa Tryz.prog 78 [.vptr (zl (zaS m)) 0, .str t] (.bool (m.Teams.contains t)) := by
 refine Con.of_body Tryz.func78 rfl Tryz.ntmps78 rfl rfl ?_
 refine zb ?_
 refine das rfl ?_
 refine dn ?_
 refine zb ?_
 refine dmv rfl ?_
 refine dq ((by first | exact zar rfl | exact zV rfl)) ?_
 refine dq (zg zW rfl zF (by decide) rfl) ?_
 refine dq (zi zF rfl rfl rfl) ?_
 refine dmv rfl ?_
 refine dq (zw zrF rfl (WeakL.refl _) (zdL (l := m.Teams) (s := t) (by have := hm.len; omega) hm.sorted)) ?_
 refine dmv rfl ?_
 refine dq (zan rfl rfl) ?_
 refine dq (zan rfl rfl) ?_
 refine das rfl ?_
 refine das rfl ?_
 refine dn ?_
 refine zb ?_
 refine dmv rfl ?_
 refine das rfl ?_
 refine dn ?_
 refine zo ?_
 refine zC rfl ?_
 rfl

/-- benchwarmer/trade.CheckMarket -/
theorem zeF [Tracks] {m : MarketS} (ht : m.Teams.length ≤ 1000000) : zaa Tryz.prog 76 [zaS m] (.int .i64 (zae m)) := by
 refine Con.of_body Tryz.func76 rfl Tryz.ntmps76 rfl rfl ?_
 refine zb ?_
 refine dq (zaL rfl rfl) ?_
 refine das rfl ?_
 refine dn ?_
 refine zf ?_
 refine zm ?_
 refine zb ?_
 refine dq (zg zW rfl zF (by decide) rfl) ?_
 refine dq (zi zF rfl rfl rfl) ?_
 refine dq (zB zF rfl) ?_
 refine dq (zaJ rfl rfl) ?_
 refine das rfl ?_
 refine dn ?_
 refine zj rfl (fun h1 => ?_) (fun h2 => ?_)
 ·try simp at h1
  refine zb ?_
  refine das rfl ?_
  refine dn ?_
  refine zo ?_
  refine zC rfl ?_
  show HVal.int .i64 _ = _
  first
  | (rw [zae, if_pos (by simpa using h1)]; done)
  | (rw [zae, if_neg (by simpa using h2), if_pos (by omega)]; done)
  | (rw [zae, if_neg (by simpa using h2), if_neg (by omega)]; simp_all; done)
 ·try simp at h2
  refine zb ?_
  refine dq (zg zW rfl zF (by decide) rfl) ?_
  refine dq (zi zF rfl rfl rfl) ?_
  refine dq (zB zF rfl) ?_
  refine dq (zax rfl rfl) ?_
  refine das rfl ?_
  refine dn ?_
  refine zj rfl (fun h3 => ?_) (fun h4 => ?_)
  ·try simp at h3
   refine zb ?_
   refine das rfl ?_
   refine dn ?_
   refine zo ?_
   refine zC rfl ?_
   show HVal.int .i64 _ = _
   first
   | (rw [zae, if_pos (by simpa using h1)]; done)
   | (rw [zae, if_neg (by simpa using h2), if_pos (by omega)]; done)
   | (rw [zae, if_neg (by simpa using h2), if_neg (by omega)]; simp_all; done)
  ·try simp at h4
   refine zk ?_
   refine zz ?_
   refine ze ?_
   refine zf ?_
   refine zb ?_
   refine dq (zg zW rfl zF (by decide) rfl) ?_
   refine dq (zi zF rfl rfl rfl) ?_
   refine dq (zw zrC rfl (WeakL.refl _) (zlt (by first | assumption | omega | (simp; omega) | simp_all))) ?_
   refine das rfl ?_
   refine dn ?_
   refine zb ?_
   refine dmv rfl ?_
   refine dq (za6 rfl rfl) ?_
   refine dn ?_
   refine zj rfl (fun h5 => ?_) (fun h6 => ?_)
   ·try simp at h5
    refine zb ?_
    refine dmv rfl ?_
    refine das rfl ?_
    refine dn ?_
    refine zo ?_
    refine zC rfl ?_
    show HVal.int .i64 _ = _
    first
    | (rw [zae, if_pos (by simpa using h1)]; done)
    | (rw [zae, if_neg (by simpa using h2), if_pos (by omega)]; done)
    | (rw [zae, if_neg (by simpa using h2), if_neg (by omega)]; simp_all; done)
   ·try simp at h6
    refine zk ?_
    refine ze ?_
    refine zf ?_
    refine zb ?_
    refine dq (zg zW rfl ty3 (by decide) rfl) ?_
    refine dq (zi ty3 rfl rfl rfl) ?_
    refine dq (zw zg9 rfl (WeakL.refl _) zdd) ?_
    refine dmv rfl ?_
    refine dg rfl rfl (fun hc => ⟨_, OpenTo.refl _, zg zW rfl ty3 (by decide) rfl⟩) ?_
    refine dg rfl rfl (fun hc => ⟨_, OpenTo.upd (t := 24) rfl (by first | exact hc | simp_all) (OpenTo.refl _), zi ty3 rfl rfl rfl⟩) ?_
    refine dg rfl rfl (fun hc => ⟨_, OpenTo.upd (t := 25) rfl (by first | exact hc | simp_all) (OpenTo.refl _), zw zg9 rfl (WeakL.refl _) zdd⟩) ?_
    refine dq (zL rfl (.inl rfl) (.inr ⟨_, rfl, fun h => by simp_all⟩)) ?_
    refine dmv rfl ?_
    refine dg rfl rfl (fun hc => ⟨_, OpenTo.refl _, zg zW rfl ty3 (by decide) rfl⟩) ?_
    refine dg rfl rfl (fun hc => ⟨_, OpenTo.upd (t := 29) rfl (by first | exact hc | simp_all) (OpenTo.refl _), zi ty3 rfl rfl rfl⟩) ?_
    refine dg rfl rfl (fun hc => ⟨_, OpenTo.upd (t := 30) rfl (by first | exact hc | simp_all) (OpenTo.refl _), zw zg9 rfl (WeakL.refl _) zdd⟩) ?_
    refine dq (zL rfl (.inl rfl) (.inr ⟨_, rfl, fun h => by simp_all⟩)) ?_
    refine dmv rfl ?_
    refine dg rfl rfl (fun hc => ⟨_, OpenTo.refl _, zg zW rfl ty3 (by decide) rfl⟩) ?_
    refine dg rfl rfl (fun hc => ⟨_, OpenTo.upd (t := 34) rfl (by first | exact hc | simp_all) (OpenTo.refl _), zi ty3 rfl rfl rfl⟩) ?_
    refine dg rfl rfl (fun hc => ⟨_, OpenTo.refl _, zg zW rfl ty3 (by decide) rfl⟩) ?_
    refine dg rfl rfl (fun hc => ⟨_, OpenTo.upd (t := 36) rfl (by first | exact hc | simp_all) (OpenTo.refl _), zi ty3 rfl rfl rfl⟩) ?_
    refine dg rfl rfl (fun hc => ⟨_, OpenTo.upd (t := 37) rfl (by first | exact hc | simp_all) (OpenTo.upd (t := 35) rfl (by first | exact hc | simp_all) (OpenTo.refl _)), zw zg9 rfl (WeakL.refl _) zdd⟩) ?_
    refine dq (zL rfl (.inl rfl) (.inr ⟨_, rfl, fun h => by simp_all⟩)) ?_
    refine dmv rfl ?_
    refine dg rfl rfl (fun hc => ⟨_, OpenTo.refl _, zg zW rfl ty3 (by decide) rfl⟩) ?_
    refine dg rfl rfl (fun hc => ⟨_, OpenTo.upd (t := 41) rfl (by first | exact hc | simp_all) (OpenTo.refl _), zi ty3 rfl rfl rfl⟩) ?_
    refine dg rfl rfl (fun hc => ⟨_, OpenTo.upd (t := 42) rfl (by first | exact hc | simp_all) (OpenTo.refl _), zax rfl rfl⟩) ?_
    refine dq (zL rfl (.inl rfl) (.inr ⟨_, rfl, fun h => by simp_all⟩)) ?_
    refine dn ?_
    refine zj rfl (fun h7 => ?_) (fun h8 => ?_)
    ·try simp at h7
     refine zb ?_
     refine das rfl ?_
     refine dn ?_
     refine zo ?_
     refine zC rfl ?_
     show HVal.int .i64 _ = _
     first
     | (rw [zae, if_pos (by simpa using h1)]; done)
     | (rw [zae, if_neg (by simpa using h2), if_pos (by omega)]; done)
     | (rw [zae, if_neg (by simpa using h2), if_neg (by omega)]; simp_all; done)
    ·try simp at h8
     refine zk ?_
     refine ze ?_
     refine zb ?_
     refine das rfl ?_
     refine dn ?_
     refine zo ?_
     refine zC rfl ?_
     show HVal.int .i64 _ = _
     first
     | (rw [zae, if_pos (by simpa using h1)]; done)
     | (rw [zae, if_neg (by simpa using h2), if_pos (by omega)]; done)
     | (rw [zae, if_neg (by simpa using h2), if_neg (by omega)]; simp_all; done)

/-- benchwarmer/trade.within$1 -/
theorem ziY [Tracks] {m : MarketS} {o : List OwnerS} {L : zce} {t : Str} (hL : ∀ t, lkI L t = .int .i64 (zcT o t)) : zaa Tryz.prog 128 [.str t, .vptr [hsm L] 0, .vptr [.vptr (zl (zaS m)) 0] 0] (.bool (out (zcT o t) m.Least m.Most)) := by
 refine Con.of_body Tryz.func128 rfl Tryz.ntmps128 rfl rfl ?_
 refine zb ?_
 refine das rfl ?_
 refine dn ?_
 refine za7 (fun _ => True) [] mixed ?_
 refine ahp 0 rfl rfl (by kernel_rfl) (by kernel_rfl) (zi zgW rfl rfl rfl) ?_
 refine ahp 1 rfl rfl (by kernel_rfl) (by kernel_rfl) (zd rfl) ?_
 refine ahp 2 rfl rfl (by kernel_rfl) (by kernel_rfl) (zcZ (zhw zgW ty9 ty3 rfl rfl) (show _ = _ from hL t)) ?_
 refine ahp 3 rfl rfl (by kernel_rfl) (by kernel_rfl) (zi zoo rfl rfl rfl) ?_
 refine ahp 4 rfl rfl (by kernel_rfl) (by kernel_rfl) ((by first | exact zar rfl | exact zV rfl)) ?_
 refine ahp 5 rfl rfl (by kernel_rfl) (by kernel_rfl) (zg zW rfl ty3 (by decide) rfl) ?_
 refine ahp 6 rfl rfl (by kernel_rfl) (by kernel_rfl) (zi ty3 rfl rfl rfl) ?_
 refine ahp 7 rfl rfl (by kernel_rfl) (by kernel_rfl) (zi zoo rfl rfl rfl) ?_
 refine ahp 8 rfl rfl (by kernel_rfl) (by kernel_rfl) ((by first | exact zar rfl | exact zV rfl)) ?_
 refine ahp 9 rfl rfl (by kernel_rfl) (by kernel_rfl) (zg zW rfl ty3 (by decide) rfl) ?_
 refine ahp 10 rfl rfl (by kernel_rfl) (by kernel_rfl) (zi ty3 rfl rfl rfl) ?_
 refine ahp 11 rfl rfl (by kernel_rfl) (by kernel_rfl) (zw zg9 rfl (WeakL.refl _) zdd) ?_
 refine ahp 12 rfl rfl (by kernel_rfl) (by kernel_rfl) (zaK rfl) ?_
 refine ahz (by kernel_rfl) ?_
 refine zo ?_
 refine zC rfl ?_
 rfl

/-- benchwarmer/trade.within -/
theorem zgJ [Tracks] {m : MarketS} {o : List OwnerS} (ht : m.Teams.length ≤ 1000000) (ho : o.length ≤ 1000000) : zaa Tryz.prog 79 [.vptr (zl (zaS m)) 0, zbd o] (.bool (ze1 m o)) := by
 refine Con.of_body Tryz.func79 rfl Tryz.ntmps79 rfl rfl ?_
 refine zb ?_
 refine dq (zaL rfl rfl) ?_
 refine das rfl ?_
 refine dn ?_
 refine zb ?_
 refine de rfl (ziu fun m8 => ?_)
 refine de rfl (zab zgW rfl fun b5 => ?_)
 refine de0 (zao zgW rfl rfl rfl rfl rfl ?_)
 refine dn ?_
 refine zO (Ghost.fc0 5 rfl) ?_
 refine zf ?_
 refine zb ?_
 refine dmv rfl ?_
 refine dq (zB zat rfl) ?_
 refine dmv rfl ?_
 refine dn ?_
 refine zm ?_
 refine zbf [7, 11, 12, 13, 14, 15, 16, 17, 18, 19, 20] (fun (k : Nat) (L : zce) => [(11, .int .i64 k)]) (fun (k : Nat) (L : zce) => [.map m8 (sk L)]) (fun (k : Nat) (L : zce) => k ≤ o.length ∧ (∀ t, lkI L t = .int .i64 (zcT (o.take k) t))) (fun (k : Nat) (L : zce) => o.length - k) (0) ([]) ?_ ?_ ?_ ?_
 ·exact ⟨Nat.zero_le _, fun t => by simp [lkI, zaf, zcT]⟩
 ·exact ⟨rfl, trivial⟩
 ·exact zT rfl
 ·intro k L hinv
  obtain ⟨hk, hL⟩ := hinv
  refine zb ?_
  refine dq (zJ rfl rfl) ?_
  refine dn ?_
  refine zf ?_
  refine zj rfl (fun h1 => ?_) (fun h2 => ?_)
  ·try simp at h1
   obtain ⟨x, hx⟩ : ∃ x, o[k]? = some x := ⟨_, List.getElem?_eq_getElem h1⟩
   have hdx := zK hx
   have hcb := zm4 (o.take k) x.Team
   rw [List.length_take] at hcb
   refine zk ?_
   refine ze ?_
   refine zf ?_
   refine zm ?_
   refine zb ?_
   refine dq (zH zat zZ rfl rfl rfl (by first | assumption | simp_all)) ?_
   refine dq (zY zZ rfl rfl rfl rfl) ?_
   refine de rfl (zab zZ rfl fun b7 => ?_)
   refine de0 (zao zZ rfl rfl rfl rfl rfl ?_)
   refine dn ?_
   refine zO (Ghost.fc0 7 rfl) ?_
   refine zy ?_
   refine dq (zi zgW rfl rfl rfl) ?_
   refine dq (zg zZ rfl ty9 (by decide) rfl) ?_
   refine dq (zi ty9 rfl rfl rfl) ?_
   refine de rfl (zmS (i := 0) zgW ty9 ty3 rfl rfl rfl (hL x.Team) ?_)
   refine dq (zv rfl rfl (by omega) (by omega)) ?_
   refine de0 (zhc (i := 0) zgW ty9 rfl rfl rfl rfl ?_)
   refine dn ?_
   refine zz ?_
   refine ze ?_
   refine zy ?_
   refine dq (zv rfl rfl (by omega) (by omega)) ?_
   refine dmv rfl ?_
   refine dn ?_
   refine ⟨k + 1, _, ?_, ?_, ⟨rfl, trivial⟩, (by repeat (first | exact zp | refine zu rfl ?_ | refine zq rfl rfl ?_)), zT rfl⟩
   ·refine ⟨by omega, fun t => ?_⟩
    rw [zkM, ziM o t k x hx]
    by_cases e : t = x.Team
    ·rw [if_pos e, if_pos e.symm, e]
    ·rw [if_neg e, if_neg (fun q => e q.symm), hL t, Int.add_zero]
   ·dsimp only; omega
  ·try simp at h2
   have hnk : o.length ≤ k := by omega
   obtain rfl : k = o.length := by omega
   rw [List.take_length] at hL
   refine zN ?_
   refine zS ?_
   refine zbr ?_
   refine zE ?_
   refine ze ?_
   refine zb ?_
   refine dq (zi zoo rfl rfl rfl) ?_
   refine dq ((by first | exact zar rfl | exact zV rfl)) ?_
   refine dq (zg zW rfl zF (by decide) rfl) ?_
   refine dq (zi zF rfl rfl rfl) ?_
   refine dq (zcr rfl rfl) ?_
   refine de rfl (zh1 (hs' := [eSs m.Teams, .fn (.func 128) [] [.vptr [hsm L] 0, .vptr [.vptr (zl (zaS m)) 0] 0]]) zrS rfl ⟨.refl, .fnL ⟨.vptrL ⟨.map (i := 0) rfl, trivial⟩, .refl, trivial⟩, trivial⟩ (zdP (p := fun t => out (zcT o t) m.Least m.Most) zrA (fun _ => ziY hL) ht) rfl ?_)
   refine dq (zaw rfl) ?_
   refine das rfl ?_
   refine dn ?_
   refine zo ?_
   refine zbO Ghost.clear rfl ⟨?_, rfl⟩
   show HVal.bool _ = _
   rw [← zow]

/-- benchwarmer/trade.CheckOwners -/
theorem zeG [Tracks] {m : MarketS} {o : List OwnerS} (ht : m.Teams.length ≤ 1000000) (ho : o.length ≤ 1000000) : zaa Tryz.prog 46 [zaS m, zbd o] (.int .i64 (zbm m o)) := by
 refine Con.of_body Tryz.func46 rfl Tryz.ntmps46 rfl rfl ?_
 refine zb ?_
 refine dq (zaL rfl rfl) ?_
 refine das rfl ?_
 refine dn ?_
 refine zf ?_
 refine zb ?_
 refine dq (zY zW rfl rfl rfl rfl) ?_
 refine dq (zw ca76 rfl (WeakL.refl _) (zeF (by first | assumption | omega | (simp; omega) | simp_all))) ?_
 refine das rfl ?_
 refine dn ?_
 refine zb ?_
 refine dmv rfl ?_
 refine dq (za6 rfl rfl) ?_
 refine dn ?_
 refine zj rfl (fun h1 => ?_) (fun h2 => ?_)
 ·try simp at h1
  refine zb ?_
  refine dmv rfl ?_
  refine das rfl ?_
  refine dn ?_
  refine zo ?_
  refine zC rfl ?_
  show HVal.int .i64 _ = _
  first
  | (rw [zbm, if_pos (by simpa using h1)]; done)
  | (rw [hE]; exact congrArg _ (zcl (by omega)))
  | (rw [hE, ← zcq (by omega) hg]; simp_all; done)
  | (rw [hE]
     refine congrArg _ (zaT (e := 5) (by omega) hg (by decide) ?_)
     rw [zaI, if_pos]
     simp_all
     done)
  | (rw [hE]
     refine congrArg _ (zaT (e := 8) (by omega) hg (by decide) ?_)
     rw [zaI, if_neg, if_pos]
     all_goals simp_all
     done)
  | (rw [hE]
     refine congrArg _ (zco (by omega) hg ?_ ?_ ?_)
     ·rw [zaI, if_neg, if_neg] <;> simp_all
     ·simp_all
     ·simp_all)
 ·try simp at h2
  refine zk ?_
  refine ze ?_
  refine zf ?_
  have hz : zae m = 0 := by simpa using h2
  have hm := zjp hz
  have ht20 := hm.len
  have hE : zbm m o = zbT m o := by rw [zbm, if_neg (by simp [hz])]
  refine zb ?_
  refine dmv rfl ?_
  refine dq (zB zat rfl) ?_
  refine dq (zax rfl rfl) ?_
  refine dn ?_
  refine zj rfl (fun h3 => ?_) (fun h4 => ?_)
  ·try simp at h3
   refine zb ?_
   refine das rfl ?_
   refine dn ?_
   refine zo ?_
   refine zC rfl ?_
   show HVal.int .i64 _ = _
   first
   | (rw [zbm, if_pos (by simpa using h1)]; done)
   | (rw [hE]; exact congrArg _ (zcl (by omega)))
   | (rw [hE, ← zcq (by omega) hg]; simp_all; done)
   | (rw [hE]
      refine congrArg _ (zaT (e := 5) (by omega) hg (by decide) ?_)
      rw [zaI, if_pos]
      simp_all
      done)
   | (rw [hE]
      refine congrArg _ (zaT (e := 8) (by omega) hg (by decide) ?_)
      rw [zaI, if_neg, if_pos]
      all_goals simp_all
      done)
   | (rw [hE]
      refine congrArg _ (zco (by omega) hg ?_ ?_ ?_)
      ·rw [zaI, if_neg, if_neg] <;> simp_all
      ·simp_all
      ·simp_all)
  ·try simp at h4
   refine zk ?_
   refine ze ?_
   refine zf ?_
   refine zb ?_
   refine dmv rfl ?_
   refine dq (zB zat rfl) ?_
   refine dmv rfl ?_
   refine dn ?_
   refine zm ?_
   refine z8 [4, 6, 7, 18, 19, 20, 21, 22, 23, 24, 25, 26, 27, 28, 29, 30, 31, 32, 33, 34, 35, 36, 37, 38, 39, 40, 41, 42, 43, 44, 45, 46, 47] (fun (k : Nat) => [(18, .int .i64 k)]) (fun (k : Nat) => []) (fun (k : Nat) => k ≤ o.length ∧ (zc4 m o = zaB (zaI m) zd8 zbF o k (o.drop k))) (fun (k : Nat) => o.length - k) (0) ?_ ?_ ?_ ?_
   ·exact ⟨Nat.zero_le _, rfl⟩
   ·exact ⟨rfl, trivial⟩
   ·exact List.Perm.refl _
   ·intro k hinv
    obtain ⟨hk, hg⟩ := hinv
    refine zb ?_
    refine dq (zJ rfl rfl) ?_
    refine dn ?_
    refine zf ?_
    refine zj rfl (fun h5 => ?_) (fun h6 => ?_)
    ·try simp at h5
     obtain ⟨x, hx⟩ : ∃ x, o[k]? = some x := ⟨_, List.getElem?_eq_getElem h5⟩
     have hdx := zK hx
     rw [hdx] at hg
     refine zk ?_
     refine ze ?_
     refine zf ?_
     refine zm ?_
     refine zb ?_
     refine dmv rfl ?_
     refine dq (zH zat zZ rfl rfl rfl (by first | assumption | simp_all)) ?_
     refine dq (zY zZ rfl rfl rfl rfl) ?_
     refine de rfl (zab zZ rfl fun b7 => ?_)
     refine das rfl ?_
     refine de0 (zao zZ rfl rfl rfl rfl rfl ?_)
     refine dn ?_
     refine zO (Ghost.fc0 7 rfl) ?_
     refine zm ?_
     refine zb ?_
     refine dq (zg zZ rfl ty9 (by decide) rfl) ?_
     refine dq (zi ty9 rfl rfl rfl) ?_
     refine dq (zw znC rfl (WeakL.refl _) zfs) ?_
     refine dq (zaw rfl) ?_
     refine das rfl ?_
     refine dn ?_
     refine zj rfl (fun h7 => ?_) (fun h8 => ?_)
     ·try simp at h7
      refine zb ?_
      refine das rfl ?_
      refine dn ?_
      refine zo ?_
      refine zC rfl ?_
      show HVal.int .i64 _ = _
      first
      | (rw [zbm, if_pos (by simpa using h1)]; done)
      | (rw [hE]; exact congrArg _ (zcl (by omega)))
      | (rw [hE, ← zcq (by omega) hg]; simp_all; done)
      | (rw [hE]
         refine congrArg _ (zaT (e := 5) (by omega) hg (by decide) ?_)
         rw [zaI, if_pos]
         simp_all
         done)
      | (rw [hE]
         refine congrArg _ (zaT (e := 8) (by omega) hg (by decide) ?_)
         rw [zaI, if_neg, if_pos]
         all_goals simp_all
         done)
      | (rw [hE]
         refine congrArg _ (zco (by omega) hg ?_ ?_ ?_)
         ·rw [zaI, if_neg, if_neg] <;> simp_all
         ·simp_all
         ·simp_all)
     ·try simp at h8
      refine zb ?_
      refine dq (zg zZ rfl ty9 (by decide) rfl) ?_
      refine dq (zi ty9 rfl rfl rfl) ?_
      refine dq (zw znQ rfl (WeakL.refl _) (zdR hm)) ?_
      refine dq (zaw rfl) ?_
      refine das rfl ?_
      refine dn ?_
      refine zj rfl (fun h9 => ?_) (fun h10 => ?_)
      ·try simp at h9
       refine zb ?_
       refine das rfl ?_
       refine dn ?_
       refine zo ?_
       refine zC rfl ?_
       show HVal.int .i64 _ = _
       first
       | (rw [zbm, if_pos (by simpa using h1)]; done)
       | (rw [hE]; exact congrArg _ (zcl (by omega)))
       | (rw [hE, ← zcq (by omega) hg]; simp_all; done)
       | (rw [hE]
          refine congrArg _ (zaT (e := 5) (by omega) hg (by decide) ?_)
          rw [zaI, if_pos]
          simp_all
          done)
       | (rw [hE]
          refine congrArg _ (zaT (e := 8) (by omega) hg (by decide) ?_)
          rw [zaI, if_neg, if_pos]
          all_goals simp_all
          done)
       | (rw [hE]
          refine congrArg _ (zco (by omega) hg ?_ ?_ ?_)
          ·rw [zaI, if_neg, if_neg] <;> simp_all
          ·simp_all
          ·simp_all)
      ·try simp at h10
       refine za7 (fun _ => True) [] mixed ?_
       refine ahp 0 rfl rfl (by kernel_rfl) (by kernel_rfl) (zd rfl) ?_
       refine ahp 1 rfl rfl (by kernel_rfl) (by kernel_rfl) (zax rfl rfl) ?_
       refine ahp 2 rfl rfl (by kernel_rfl) (by kernel_rfl) (zd rfl) ?_
       refine ahg 3 rfl rfl (by kernel_rfl) (by kernel_rfl) rfl (fun hc => ⟨_, OpenTo.refl _, zg zZ rfl ty9 (by decide) rfl⟩) ?_
       refine ahg 4 rfl rfl (by kernel_rfl) (by kernel_rfl) rfl (fun hc => ⟨_, OpenTo.upd (t := 37) rfl (by first | exact hc | simp_all) (OpenTo.refl _), zi ty9 rfl rfl rfl⟩) ?_
       refine ahg 5 rfl rfl (by kernel_rfl) (by kernel_rfl) rfl (fun hc => ⟨_, OpenTo.refl _, zd rfl⟩) ?_
       refine ahg 6 rfl rfl (by kernel_rfl) (by kernel_rfl) rfl (fun hc => ⟨_, OpenTo.refl _, zd rfl⟩) ?_
       refine ahg 7 rfl rfl (by kernel_rfl) (by kernel_rfl) rfl (fun hc => by have hq := hc; (try simp at hq); exact ⟨_, OpenTo.upd (t := 40) rfl (by first | exact hc | simp_all) (OpenTo.refl _), zay rfl rfl (by omega) (by omega)⟩) ?_
       refine ahg 8 rfl rfl (by kernel_rfl) (by kernel_rfl) rfl (fun hc => by have hq := hc; (try simp at hq); exact ⟨_, OpenTo.upd (t := 41) rfl (by first | exact hc | simp_all) (OpenTo.upd (t := 39) rfl (by first | exact hc | simp_all) (OpenTo.refl _)), zH (j := k - 1) (a := o.getD (k - 1) zbF) zat zZ rfl rfl (by omega) (getD_some (by omega))⟩) ?_
       refine ahg 9 rfl rfl (by kernel_rfl) (by kernel_rfl) rfl (fun hc => ⟨_, OpenTo.upd (t := 42) rfl (by first | exact hc | simp_all) (OpenTo.refl _), zg zZ rfl ty9 (by decide) rfl⟩) ?_
       refine ahg 10 rfl rfl (by kernel_rfl) (by kernel_rfl) rfl (fun hc => ⟨_, OpenTo.upd (t := 43) rfl (by first | exact hc | simp_all) (OpenTo.refl _), zi ty9 rfl rfl rfl⟩) ?_
       refine ahg 11 rfl rfl (by kernel_rfl) (by kernel_rfl) rfl (fun hc => ⟨_, OpenTo.upd (t := 44) rfl (by first | exact hc | simp_all) (OpenTo.upd (t := 38) rfl (by first | exact hc | simp_all) (OpenTo.refl _)), zdp rfl rfl⟩) ?_
       refine ahp 12 rfl rfl (by kernel_rfl) (by kernel_rfl) (zL rfl (.inr ⟨_, rfl, fun h => by simp_all⟩) (.inl rfl)) ?_
       refine ahp 13 rfl rfl (by kernel_rfl) (by kernel_rfl) (zaK rfl) ?_
       refine ahz (by kernel_rfl) ?_
       refine zj rfl (fun h11 => ?_) (fun h12 => ?_)
       ·try simp at h11
        refine zb ?_
        refine das rfl ?_
        refine dn ?_
        refine zo ?_
        refine zC rfl ?_
        show HVal.int .i64 _ = _
        first
        | (rw [zbm, if_pos (by simpa using h1)]; done)
        | (rw [hE]; exact congrArg _ (zcl (by omega)))
        | (rw [hE, ← zcq (by omega) hg]; simp_all; done)
        | (rw [hE]
           refine congrArg _ (zaT (e := 5) (by omega) hg (by decide) ?_)
           rw [zaI, if_pos]
           simp_all
           done)
        | (rw [hE]
           refine congrArg _ (zaT (e := 8) (by omega) hg (by decide) ?_)
           rw [zaI, if_neg, if_pos]
           all_goals simp_all
           done)
        | (rw [hE]
           refine congrArg _ (zco (by omega) hg ?_ ?_ ?_)
           ·rw [zaI, if_neg, if_neg] <;> simp_all
           ·simp_all
           ·simp_all)
       ·try simp at h12
        refine zk ?_
        refine zz ?_
        refine zz ?_
        refine ze ?_
        refine zy ?_
        refine dq (zv rfl rfl (by omega) (by omega)) ?_
        refine dmv rfl ?_
        refine dn ?_
        refine ⟨k + 1, ?_, ?_, ⟨rfl, trivial⟩, (by repeat (first | exact zp | refine zu rfl ?_ | refine zq rfl rfl ?_)), List.Perm.refl _⟩
        ·refine ⟨by omega, ?_⟩
         rw [hg, zmP (by rw [zaI, if_neg (by simp_all), if_neg (by simp_all)]) (by intro hk0; simp_all)]
        ·dsimp only; omega
    ·try simp at h6
     have hnk : o.length ≤ k := by omega
     obtain rfl : k = o.length := by omega
     rw [z6 (Nat.le_refl _)] at hg
     refine zN ?_
     refine zS ?_
     refine zag ?_
     refine zE ?_
     refine ze ?_
     refine zf ?_
     refine zb ?_
     refine dmv rfl ?_
     refine dq (zw ca79 rfl (WeakL.refl _) (zgJ (by first | assumption | omega | (simp; omega) | simp_all) (by first | assumption | omega | (simp; omega) | simp_all))) ?_
     refine dq (zaw rfl) ?_
     refine dn ?_
     refine zj rfl (fun h13 => ?_) (fun h14 => ?_)
     ·try simp at h13
      refine zb ?_
      refine das rfl ?_
      refine dn ?_
      refine zo ?_
      refine zC rfl ?_
      show HVal.int .i64 _ = _
      first
      | (rw [zbm, if_pos (by simpa using h1)]; done)
      | (rw [hE]; exact congrArg _ (zcl (by omega)))
      | (rw [hE, ← zcq (by omega) hg]; simp_all; done)
      | (rw [hE]
         refine congrArg _ (zaT (e := 5) (by omega) hg (by decide) ?_)
         rw [zaI, if_pos]
         simp_all
         done)
      | (rw [hE]
         refine congrArg _ (zaT (e := 8) (by omega) hg (by decide) ?_)
         rw [zaI, if_neg, if_pos]
         all_goals simp_all
         done)
      | (rw [hE]
         refine congrArg _ (zco (by omega) hg ?_ ?_ ?_)
         ·rw [zaI, if_neg, if_neg] <;> simp_all
         ·simp_all
         ·simp_all)
     ·try simp at h14
      refine zk ?_
      refine ze ?_
      refine zb ?_
      refine das rfl ?_
      refine dn ?_
      refine zo ?_
      refine zC rfl ?_
      show HVal.int .i64 _ = _
      first
      | (rw [zbm, if_pos (by simpa using h1)]; done)
      | (rw [hE]; exact congrArg _ (zcl (by omega)))
      | (rw [hE, ← zcq (by omega) hg]; simp_all; done)
      | (rw [hE]
         refine congrArg _ (zaT (e := 5) (by omega) hg (by decide) ?_)
         rw [zaI, if_pos]
         simp_all
         done)
      | (rw [hE]
         refine congrArg _ (zaT (e := 8) (by omega) hg (by decide) ?_)
         rw [zaI, if_neg, if_pos]
         all_goals simp_all
         done)
      | (rw [hE]
         refine congrArg _ (zco (by omega) hg ?_ ?_ ?_)
         ·rw [zaI, if_neg, if_neg] <;> simp_all
         ·simp_all
         ·simp_all)

/-- benchwarmer/trade.givesFault -/
theorem zhm [Tracks] {m : MarketS} {l : List GiveS} (hm : MarketOk m) (hl : l.length ≤ 1000000) : zaa Tryz.prog 201 [.vptr (zl (zaS m)) 0, zgD l] (.int .i64 (zbc m l)) := by
 refine Con.of_body Tryz.func201 rfl Tryz.ntmps201 rfl rfl ?_
 refine zb ?_
 refine das rfl ?_
 refine dn ?_
 refine zf ?_
 refine zm ?_
 refine zb ?_
 refine dmv rfl ?_
 refine dq (zB zbg rfl) ?_
 refine dq (zaJ rfl rfl) ?_
 refine das rfl ?_
 refine dn ?_
 refine zj rfl (fun h1 => ?_) (fun h2 => ?_)
 ·try simp at h1
  refine zb ?_
  refine das rfl ?_
  refine dn ?_
  refine zo ?_
  refine zC rfl ?_
  show HVal.int .i64 _ = _
  first
  | (rw [zbc, if_pos (by simpa using h1)]; done)
  | (rw [zbc, if_neg (by simpa using h2), if_pos (by omega)]; done)
  | (exact congrArg _ (zeZ (by simpa using h2) (by omega) hg))
  | (refine congrArg _ (zbl (e := 5) (by simpa using h2) (by omega) hg (by decide) ?_)
     rw [za3, if_pos]
     simp_all
     done)
  | (refine congrArg _ (zbl (e := 8) (by simpa using h2) (by omega) hg (by decide) ?_)
     rw [za3, if_neg, if_pos]
     all_goals simp_all
     done)
  | (refine congrArg _ (zbl (e := 16) (by simpa using h2) (by omega) hg (by decide) ?_)
     rw [za3, if_neg, if_neg, if_pos]
     all_goals simp_all
     done)
  | (refine congrArg _ (zeT (by simpa using h2) (by omega) hg ?_ ?_ ?_)
     ·rw [za3, if_neg, if_neg, if_neg] <;> simp_all
     ·simp_all
     ·simp_all)
 ·try simp at h2
  refine zb ?_
  refine dmv rfl ?_
  refine dq (zB zbg rfl) ?_
  refine dq (zax rfl rfl) ?_
  refine das rfl ?_
  refine dn ?_
  refine zj rfl (fun h3 => ?_) (fun h4 => ?_)
  ·try simp at h3
   refine zb ?_
   refine das rfl ?_
   refine dn ?_
   refine zo ?_
   refine zC rfl ?_
   show HVal.int .i64 _ = _
   first
   | (rw [zbc, if_pos (by simpa using h1)]; done)
   | (rw [zbc, if_neg (by simpa using h2), if_pos (by omega)]; done)
   | (exact congrArg _ (zeZ (by simpa using h2) (by omega) hg))
   | (refine congrArg _ (zbl (e := 5) (by simpa using h2) (by omega) hg (by decide) ?_)
      rw [za3, if_pos]
      simp_all
      done)
   | (refine congrArg _ (zbl (e := 8) (by simpa using h2) (by omega) hg (by decide) ?_)
      rw [za3, if_neg, if_pos]
      all_goals simp_all
      done)
   | (refine congrArg _ (zbl (e := 16) (by simpa using h2) (by omega) hg (by decide) ?_)
      rw [za3, if_neg, if_neg, if_pos]
      all_goals simp_all
      done)
   | (refine congrArg _ (zeT (by simpa using h2) (by omega) hg ?_ ?_ ?_)
      ·rw [za3, if_neg, if_neg, if_neg] <;> simp_all
      ·simp_all
      ·simp_all)
  ·try simp at h4
   refine zk ?_
   refine zz ?_
   refine ze ?_
   refine zf ?_
   refine zb ?_
   refine dmv rfl ?_
   refine dq (zB zbg rfl) ?_
   refine dmv rfl ?_
   refine dn ?_
   refine zm ?_
   refine z8 [4, 5, 6, 17, 18, 19, 20, 21, 22, 23, 24, 25, 26, 27, 28, 29, 30, 31, 32, 33, 34, 35, 36, 37, 38, 39, 40, 41, 42, 43, 44, 45, 46, 47, 48, 49, 50, 51, 52, 53, 54, 55, 56, 57, 58, 59, 60] (fun (k : Nat) => [(17, .int .i64 k)]) (fun (k : Nat) => []) (fun (k : Nat) => k ≤ l.length ∧ (zaB (za3 m) zcz zdh l 0 l = zaB (za3 m) zcz zdh l k (l.drop k))) (fun (k : Nat) => l.length - k) (0) ?_ ?_ ?_ ?_
   ·exact ⟨Nat.zero_le _, rfl⟩
   ·exact ⟨rfl, trivial⟩
   ·exact List.Perm.refl _
   ·intro k hinv
    obtain ⟨hk, hg⟩ := hinv
    refine zb ?_
    refine dq (zJ rfl rfl) ?_
    refine dn ?_
    refine zf ?_
    refine zj rfl (fun h5 => ?_) (fun h6 => ?_)
    ·try simp at h5
     obtain ⟨x, hx⟩ : ∃ x, l[k]? = some x := ⟨_, List.getElem?_eq_getElem h5⟩
     have hdx := zK hx
     rw [hdx] at hg
     refine zk ?_
     refine ze ?_
     refine zf ?_
     refine zm ?_
     refine zb ?_
     refine dmv rfl ?_
     refine dq (zH zbg zaz rfl rfl rfl (by first | assumption | simp_all)) ?_
     refine dq (zY zaz rfl rfl rfl rfl) ?_
     refine de rfl (zab zaz rfl fun b6 => ?_)
     refine das rfl ?_
     refine de0 (zao zaz rfl rfl rfl rfl rfl ?_)
     refine dn ?_
     refine zO (Ghost.fc0 6 rfl) ?_
     refine zm ?_
     refine zb ?_
     refine dq (zg zaz rfl ty9 (by decide) rfl) ?_
     refine dq (zi ty9 rfl rfl rfl) ?_
     refine dq (zw znC rfl (WeakL.refl _) zfs) ?_
     refine dq (zaw rfl) ?_
     refine das rfl ?_
     refine dn ?_
     refine zj rfl (fun h7 => ?_) (fun h8 => ?_)
     ·try simp at h7
      refine zb ?_
      refine das rfl ?_
      refine dn ?_
      refine zo ?_
      refine zC rfl ?_
      show HVal.int .i64 _ = _
      first
      | (rw [zbc, if_pos (by simpa using h1)]; done)
      | (rw [zbc, if_neg (by simpa using h2), if_pos (by omega)]; done)
      | (exact congrArg _ (zeZ (by simpa using h2) (by omega) hg))
      | (refine congrArg _ (zbl (e := 5) (by simpa using h2) (by omega) hg (by decide) ?_)
         rw [za3, if_pos]
         simp_all
         done)
      | (refine congrArg _ (zbl (e := 8) (by simpa using h2) (by omega) hg (by decide) ?_)
         rw [za3, if_neg, if_pos]
         all_goals simp_all
         done)
      | (refine congrArg _ (zbl (e := 16) (by simpa using h2) (by omega) hg (by decide) ?_)
         rw [za3, if_neg, if_neg, if_pos]
         all_goals simp_all
         done)
      | (refine congrArg _ (zeT (by simpa using h2) (by omega) hg ?_ ?_ ?_)
         ·rw [za3, if_neg, if_neg, if_neg] <;> simp_all
         ·simp_all
         ·simp_all)
     ·try simp at h8
      refine zb ?_
      refine dmv rfl ?_
      refine dq (zg zaz rfl ty9 (by decide) rfl) ?_
      refine dq (zi ty9 rfl rfl rfl) ?_
      refine dq (zw znQ rfl (WeakL.refl _) (zdR hm)) ?_
      refine dq (zaw rfl) ?_
      refine dmv rfl ?_
      refine dg rfl rfl (fun hc => ⟨_, OpenTo.refl _, zd rfl⟩) ?_
      refine dg rfl rfl (fun hc => ⟨_, OpenTo.refl _, zg zaz rfl ty9 (by decide) rfl⟩) ?_
      refine dg rfl rfl (fun hc => ⟨_, OpenTo.upd (t := 35) rfl (by first | exact hc | simp_all) (OpenTo.refl _), zi ty9 rfl rfl rfl⟩) ?_
      refine dg rfl rfl (fun hc => ⟨_, OpenTo.upd (t := 36) rfl (by first | exact hc | simp_all) (OpenTo.upd (t := 34) rfl (by first | exact hc | simp_all) (OpenTo.refl _)), zw znQ rfl (WeakL.refl _) (zdR hm)⟩) ?_
      refine dg rfl rfl (fun hc => ⟨_, OpenTo.upd (t := 37) rfl (by first | exact hc | simp_all) (OpenTo.refl _), zaw rfl⟩) ?_
      refine dq (zL rfl (.inl rfl) (.inr ⟨_, rfl, fun h => by simp_all⟩)) ?_
      refine das rfl ?_
      refine dn ?_
      refine zj rfl (fun h9 => ?_) (fun h10 => ?_)
      ·try simp at h9
       refine zb ?_
       refine das rfl ?_
       refine dn ?_
       refine zo ?_
       refine zC rfl ?_
       show HVal.int .i64 _ = _
       first
       | (rw [zbc, if_pos (by simpa using h1)]; done)
       | (rw [zbc, if_neg (by simpa using h2), if_pos (by omega)]; done)
       | (exact congrArg _ (zeZ (by simpa using h2) (by omega) hg))
       | (refine congrArg _ (zbl (e := 5) (by simpa using h2) (by omega) hg (by decide) ?_)
          rw [za3, if_pos]
          simp_all
          done)
       | (refine congrArg _ (zbl (e := 8) (by simpa using h2) (by omega) hg (by decide) ?_)
          rw [za3, if_neg, if_pos]
          all_goals simp_all
          done)
       | (refine congrArg _ (zbl (e := 16) (by simpa using h2) (by omega) hg (by decide) ?_)
          rw [za3, if_neg, if_neg, if_pos]
          all_goals simp_all
          done)
       | (refine congrArg _ (zeT (by simpa using h2) (by omega) hg ?_ ?_ ?_)
          ·rw [za3, if_neg, if_neg, if_neg] <;> simp_all
          ·simp_all
          ·simp_all)
      ·try simp at h10
       refine zb ?_
       refine dq (zg zaz rfl ty9 (by decide) rfl) ?_
       refine dq (zi ty9 rfl rfl rfl) ?_
       refine dq (zg zaz rfl ty9 (by decide) rfl) ?_
       refine dq (zi ty9 rfl rfl rfl) ?_
       refine dq (zbb rfl rfl) ?_
       refine das rfl ?_
       refine dn ?_
       refine zj rfl (fun h11 => ?_) (fun h12 => ?_)
       ·try simp at h11
        refine zb ?_
        refine das rfl ?_
        refine dn ?_
        refine zo ?_
        refine zC rfl ?_
        show HVal.int .i64 _ = _
        first
        | (rw [zbc, if_pos (by simpa using h1)]; done)
        | (rw [zbc, if_neg (by simpa using h2), if_pos (by omega)]; done)
        | (exact congrArg _ (zeZ (by simpa using h2) (by omega) hg))
        | (refine congrArg _ (zbl (e := 5) (by simpa using h2) (by omega) hg (by decide) ?_)
           rw [za3, if_pos]
           simp_all
           done)
        | (refine congrArg _ (zbl (e := 8) (by simpa using h2) (by omega) hg (by decide) ?_)
           rw [za3, if_neg, if_pos]
           all_goals simp_all
           done)
        | (refine congrArg _ (zbl (e := 16) (by simpa using h2) (by omega) hg (by decide) ?_)
           rw [za3, if_neg, if_neg, if_pos]
           all_goals simp_all
           done)
        | (refine congrArg _ (zeT (by simpa using h2) (by omega) hg ?_ ?_ ?_)
           ·rw [za3, if_neg, if_neg, if_neg] <;> simp_all
           ·simp_all
           ·simp_all)
       ·try simp at h12
        refine za7 (fun _ => True) [] mixed ?_
        refine ahp 0 rfl rfl (by kernel_rfl) (by kernel_rfl) (zd rfl) ?_
        refine ahp 1 rfl rfl (by kernel_rfl) (by kernel_rfl) (zax rfl rfl) ?_
        refine ahp 2 rfl rfl (by kernel_rfl) (by kernel_rfl) (zd rfl) ?_
        refine ahg 3 rfl rfl (by kernel_rfl) (by kernel_rfl) rfl (fun hc => ⟨_, OpenTo.refl _, zg zaz rfl ty9 (by decide) rfl⟩) ?_
        refine ahg 4 rfl rfl (by kernel_rfl) (by kernel_rfl) rfl (fun hc => ⟨_, OpenTo.upd (t := 50) rfl (by first | exact hc | simp_all) (OpenTo.refl _), zi ty9 rfl rfl rfl⟩) ?_
        refine ahg 5 rfl rfl (by kernel_rfl) (by kernel_rfl) rfl (fun hc => ⟨_, OpenTo.refl _, zd rfl⟩) ?_
        refine ahg 6 rfl rfl (by kernel_rfl) (by kernel_rfl) rfl (fun hc => ⟨_, OpenTo.refl _, zd rfl⟩) ?_
        refine ahg 7 rfl rfl (by kernel_rfl) (by kernel_rfl) rfl (fun hc => by have hq := hc; (try simp at hq); exact ⟨_, OpenTo.upd (t := 53) rfl (by first | exact hc | simp_all) (OpenTo.refl _), zay rfl rfl (by omega) (by omega)⟩) ?_
        refine ahg 8 rfl rfl (by kernel_rfl) (by kernel_rfl) rfl (fun hc => by have hq := hc; (try simp at hq); exact ⟨_, OpenTo.upd (t := 54) rfl (by first | exact hc | simp_all) (OpenTo.upd (t := 52) rfl (by first | exact hc | simp_all) (OpenTo.refl _)), zH (j := k - 1) (a := l.getD (k - 1) zdh) zbg zaz rfl rfl (by omega) (getD_some (by omega))⟩) ?_
        refine ahg 9 rfl rfl (by kernel_rfl) (by kernel_rfl) rfl (fun hc => ⟨_, OpenTo.upd (t := 55) rfl (by first | exact hc | simp_all) (OpenTo.refl _), zg zaz rfl ty9 (by decide) rfl⟩) ?_
        refine ahg 10 rfl rfl (by kernel_rfl) (by kernel_rfl) rfl (fun hc => ⟨_, OpenTo.upd (t := 56) rfl (by first | exact hc | simp_all) (OpenTo.refl _), zi ty9 rfl rfl rfl⟩) ?_
        refine ahg 11 rfl rfl (by kernel_rfl) (by kernel_rfl) rfl (fun hc => ⟨_, OpenTo.upd (t := 57) rfl (by first | exact hc | simp_all) (OpenTo.upd (t := 51) rfl (by first | exact hc | simp_all) (OpenTo.refl _)), zdp rfl rfl⟩) ?_
        refine ahp 12 rfl rfl (by kernel_rfl) (by kernel_rfl) (zL rfl (.inr ⟨_, rfl, fun h => by simp_all⟩) (.inl rfl)) ?_
        refine ahp 13 rfl rfl (by kernel_rfl) (by kernel_rfl) (zaK rfl) ?_
        refine ahz (by kernel_rfl) ?_
        refine zj rfl (fun h13 => ?_) (fun h14 => ?_)
        ·try simp at h13
         refine zb ?_
         refine das rfl ?_
         refine dn ?_
         refine zo ?_
         refine zC rfl ?_
         show HVal.int .i64 _ = _
         first
         | (rw [zbc, if_pos (by simpa using h1)]; done)
         | (rw [zbc, if_neg (by simpa using h2), if_pos (by omega)]; done)
         | (exact congrArg _ (zeZ (by simpa using h2) (by omega) hg))
         | (refine congrArg _ (zbl (e := 5) (by simpa using h2) (by omega) hg (by decide) ?_)
            rw [za3, if_pos]
            simp_all
            done)
         | (refine congrArg _ (zbl (e := 8) (by simpa using h2) (by omega) hg (by decide) ?_)
            rw [za3, if_neg, if_pos]
            all_goals simp_all
            done)
         | (refine congrArg _ (zbl (e := 16) (by simpa using h2) (by omega) hg (by decide) ?_)
            rw [za3, if_neg, if_neg, if_pos]
            all_goals simp_all
            done)
         | (refine congrArg _ (zeT (by simpa using h2) (by omega) hg ?_ ?_ ?_)
            ·rw [za3, if_neg, if_neg, if_neg] <;> simp_all
            ·simp_all
            ·simp_all)
        ·try simp at h14
         refine zk ?_
         refine zz ?_
         refine zz ?_
         refine ze ?_
         refine zy ?_
         refine dq (zv rfl rfl (by omega) (by omega)) ?_
         refine dmv rfl ?_
         refine dn ?_
         refine ⟨k + 1, ?_, ?_, ⟨rfl, trivial⟩, (by repeat (first | exact zp | refine zu rfl ?_ | refine zq rfl rfl ?_)), List.Perm.refl _⟩
         ·refine ⟨by omega, ?_⟩
          rw [hg, zp1 (by rw [za3, if_neg (by simp_all), if_neg (by simp_all), if_neg (by simp_all)]) (by intro hk0; simp_all)]
         ·dsimp only; omega
    ·try simp at h6
     have hnk : l.length ≤ k := by omega
     obtain rfl : k = l.length := by omega
     rw [z6 (Nat.le_refl _)] at hg
     refine zN ?_
     refine zS ?_
     refine zag ?_
     refine zE ?_
     refine ze ?_
     refine zb ?_
     refine das rfl ?_
     refine dn ?_
     refine zo ?_
     refine zC rfl ?_
     show HVal.int .i64 _ = _
     first
     | (rw [zbc, if_pos (by simpa using h1)]; done)
     | (rw [zbc, if_neg (by simpa using h2), if_pos (by omega)]; done)
     | (exact congrArg _ (zeZ (by simpa using h2) (by omega) hg))
     | (refine congrArg _ (zbl (e := 5) (by simpa using h2) (by omega) hg (by decide) ?_)
        rw [za3, if_pos]
        simp_all
        done)
     | (refine congrArg _ (zbl (e := 8) (by simpa using h2) (by omega) hg (by decide) ?_)
        rw [za3, if_neg, if_pos]
        all_goals simp_all
        done)
     | (refine congrArg _ (zbl (e := 16) (by simpa using h2) (by omega) hg (by decide) ?_)
        rw [za3, if_neg, if_neg, if_pos]
        all_goals simp_all
        done)
     | (refine congrArg _ (zeT (by simpa using h2) (by omega) hg ?_ ?_ ?_)
        ·rw [za3, if_neg, if_neg, if_neg] <;> simp_all
        ·simp_all
        ·simp_all)

/-- benchwarmer/trade.concerned -/
theorem zis [Tracks] {x : DealS} (hx : x.Gives.length ≤ 1000) : zaa Tryz.prog 202 [zim x] (eSs (zfn x.Gives)) := by
 refine Con.of_body Tryz.func202 rfl Tryz.ntmps202 rfl rfl ?_
 refine zb ?_
 refine dq (zaL rfl rfl) ?_
 refine das rfl ?_
 refine dn ?_
 refine zb ?_
 refine das rfl ?_
 refine dn ?_
 refine zO (Ghost.arr_nil 1) ?_
 refine zf ?_
 refine zb ?_
 refine dq ((by first | exact zg zbI rfl zbg (by decide) rfl | exact zn zbI rfl zbg (by decide) rfl)) ?_
 refine dq (zi zbg rfl rfl rfl) ?_
 refine dq (zB zbg rfl) ?_
 refine dmv rfl ?_
 refine dn ?_
 refine zm ?_
 refine zbf [3, 5, 9, 10, 11, 12, 13, 14, 15, 16, 17, 18, 19, 20] (fun (k : Nat) (u : Value) => [(9, .int .i64 k), (3, .raw u)]) (fun (k : Nat) (u : Value) => [.arr u 1 ((zdH (x.Gives.take k)).map .str)]) (fun (k : Nat) (u : Value) => k ≤ x.Gives.length ∧ (True)) (fun (k : Nat) (u : Value) => x.Gives.length - k) (0) (.slice none 0 0) ?_ ?_ ?_ ?_
 ·exact ⟨Nat.zero_le _, trivial⟩
 ·exact ⟨rfl, rfl, trivial⟩
 ·exact zT (by simp [zdH])
 ·intro k u hinv
  obtain ⟨hk, -⟩ := hinv
  refine zb ?_
  refine dq (zJ rfl rfl) ?_
  refine dn ?_
  refine zf ?_
  refine zj rfl (fun h1 => ?_) (fun h2 => ?_)
  ·try simp at h1
   obtain ⟨g, hg⟩ : ∃ g, x.Gives[k]? = some g := ⟨_, List.getElem?_eq_getElem h1⟩
   have hdg := zK hg
   refine zk ?_
   refine ze ?_
   refine zf ?_
   refine zm ?_
   refine zb ?_
   refine dq (zH zbg zaz rfl rfl rfl (by first | assumption | simp_all)) ?_
   refine dq (zY zaz rfl rfl rfl rfl) ?_
   refine de rfl (zab zaz rfl fun b5 => ?_)
   refine de0 (zao zaz rfl rfl rfl rfl rfl ?_)
   refine dn ?_
   refine zO (Ghost.fc0 5 rfl) ?_
   refine zy ?_
   refine dmv rfl ?_
   refine dq ((by first | exact zg zaz rfl ty9 (by decide) rfl | exact zn zaz rfl ty9 (by decide) rfl)) ?_
   refine dq (zi ty9 rfl rfl rfl) ?_
   refine dq ((by first | exact zg zaz rfl ty9 (by decide) rfl | exact zn zaz rfl ty9 (by decide) rfl)) ?_
   refine dq (zi ty9 rfl rfl rfl) ?_
   refine dq (zM (hs := [_, _]) zF ty9 rfl rfl (by decide) (by decide) rfl) ?_
   refine de rfl (zah (i := 0) zF ty9 rfl rfl rfl rfl rfl (by simp [zaD, zl]) (by have := zfj (x.Gives.take k); simp only [List.length_map, List.length_cons, List.length_nil, List.length_take] at *; omega) fun v19 => ?_)
   refine das rfl ?_
   refine dn ?_
   refine zz ?_
   refine ze ?_
   refine zy ?_
   refine dq (zv rfl rfl (by omega) (by omega)) ?_
   refine dmv rfl ?_
   refine dn ?_
   exact ⟨k + 1, v19, ⟨by omega, trivial⟩, by dsimp only; omega, ⟨rfl, rfl, trivial⟩, (by repeat (first | exact zp | refine zu rfl ?_ | refine zq rfl rfl ?_)), zT (by dsimp only; rw [zmR hg]; simp)⟩
  ·try simp at h2
   have hnk : x.Gives.length ≤ k := by omega
   obtain rfl : k = x.Gives.length := by omega
   rw [List.take_length]
   refine zN ?_
   refine zS ?_
   refine zbr ?_
   refine zE ?_
   refine ze ?_
   refine zb ?_
   refine dmv rfl ?_
   refine de rfl (zds (M1 := [_]) (R := []) ca26 rfl (WeakL.refl _) (List.Perm.refl _) (zhe (l := zdH x.Gives) (by rw [zfj]; omega)) ?_)
   rintro _ _ ⟨rfl, rfl⟩
   refine dn ?_
   refine zb ?_
   refine dmv rfl ?_
   refine de rfl (zds (M1 := [_]) (R := []) ca27 rfl (WeakL.refl _) (List.Perm.refl _) (ziR (l := zbR (zdH x.Gives)) (by rw [zhW, zfj]; omega)) ?_)
   rintro _ _ ⟨u24, rfl, rfl⟩
   refine das rfl ?_
   refine dn ?_
   refine zo ?_
   exact zrn (M := []) 2 rfl rfl rfl

/-- benchwarmer/trade.offerFault -/
theorem zhp [Tracks] {m : MarketS} {x : DealS} (hm : MarketOk m) (hx : x.Gives.length ≤ 1000000) : zaa Tryz.prog 180 [.vptr (zl (zaS m)) 0, zim x] (.int .i64 (zbv m x)) := by
 refine Con.of_body Tryz.func180 rfl Tryz.ntmps180 rfl rfl ?_
 refine zb ?_
 refine dq (zaL rfl rfl) ?_
 refine das rfl ?_
 refine dn ?_
 refine zf ?_
 refine zm ?_
 refine zb ?_
 refine dq (zg zbI rfl ty9 (by decide) rfl) ?_
 refine dq (zi ty9 rfl rfl rfl) ?_
 refine dq (zw znC rfl (WeakL.refl _) zfs) ?_
 refine dq (zaw rfl) ?_
 refine das rfl ?_
 refine dn ?_
 refine zj rfl (fun h1 => ?_) (fun h2 => ?_)
 ·try simp at h1
  refine zb ?_
  refine das rfl ?_
  refine dn ?_
  refine zo ?_
  refine zC rfl ?_
  show HVal.int .i64 _ = _
  simp_all [zbv]
 ·try simp at h2
  refine zb ?_
  refine dmv rfl ?_
  refine dq (zg zbI rfl ty9 (by decide) rfl) ?_
  refine dq (zi ty9 rfl rfl rfl) ?_
  refine dq (zw znQ rfl (WeakL.refl _) (zdR hm)) ?_
  refine dq (zaw rfl) ?_
  refine das rfl ?_
  refine dn ?_
  refine zj rfl (fun h3 => ?_) (fun h4 => ?_)
  ·try simp at h3
   refine zb ?_
   refine das rfl ?_
   refine dn ?_
   refine zo ?_
   refine zC rfl ?_
   show HVal.int .i64 _ = _
   simp_all [zbv]
  ·try simp at h4
   refine zb ?_
   refine dq (zg zbI rfl zhP (by decide) rfl) ?_
   refine dq (zg zhP rfl ty3 (by decide) rfl) ?_
   refine dq (zi ty3 rfl rfl rfl) ?_
   refine dq (zw zg9 rfl (WeakL.refl _) zdd) ?_
   refine dmv rfl ?_
   refine dg rfl rfl (fun hc => ⟨_, OpenTo.refl _, zg zbI rfl zhP (by decide) rfl⟩) ?_
   refine dg rfl rfl (fun hc => ⟨_, OpenTo.upd (t := 23) rfl (by first | exact hc | simp_all) (OpenTo.refl _), zg zhP rfl ty3 (by decide) rfl⟩) ?_
   refine dg rfl rfl (fun hc => ⟨_, OpenTo.upd (t := 24) rfl (by first | exact hc | simp_all) (OpenTo.refl _), zi ty3 rfl rfl rfl⟩) ?_
   refine dg rfl rfl (fun hc => ⟨_, OpenTo.refl _, zg zbI rfl zhP (by decide) rfl⟩) ?_
   refine dg rfl rfl (fun hc => ⟨_, OpenTo.upd (t := 26) rfl (by first | exact hc | simp_all) (OpenTo.refl _), zg zhP rfl ty3 (by decide) rfl⟩) ?_
   refine dg rfl rfl (fun hc => ⟨_, OpenTo.upd (t := 27) rfl (by first | exact hc | simp_all) (OpenTo.refl _), zi ty3 rfl rfl rfl⟩) ?_
   refine dg rfl rfl (fun hc => by
    have hxo := zia (n := x.To) (lo := 1) (hi := 345686400000) (by simpa using hc)
    exact ⟨_, OpenTo.upd (t := 28) rfl (by first | exact hc | simp_all) (OpenTo.refl _), zay rfl rfl (by omega) (by omega)⟩) ?_
   refine dg rfl rfl (fun hc => ⟨_, OpenTo.upd (t := 29) rfl (by first | exact hc | simp_all) (OpenTo.upd (t := 25) rfl (by first | exact hc | simp_all) (OpenTo.refl _)), zw zg9 rfl (WeakL.refl _) zdd⟩) ?_
   refine dq (zL rfl (.inl rfl) (.inr ⟨_, rfl, fun h => by simp_all⟩)) ?_
   refine das rfl ?_
   refine dn ?_
   refine zj rfl (fun h5 => ?_) (fun h6 => ?_)
   ·try simp at h5
    refine zb ?_
    refine das rfl ?_
    refine dn ?_
    refine zo ?_
    refine zC rfl ?_
    show HVal.int .i64 _ = _
    simp_all [zbv]
   ·try simp at h6
    refine zk ?_
    refine zz ?_
    refine ze ?_
    refine zf ?_
    refine zb ?_
    refine dmv rfl ?_
    refine dq (zg zbI rfl zbg (by decide) rfl) ?_
    refine dq (zi zbg rfl rfl rfl) ?_
    refine dq (zw zrQ rfl (WeakL.refl _) (zhm (by first | assumption | omega | (simp; omega) | simp_all) (by first | assumption | omega | (simp; omega) | simp_all))) ?_
    refine das rfl ?_
    refine dn ?_
    refine zb ?_
    refine dmv rfl ?_
    refine dq (za6 rfl rfl) ?_
    refine dn ?_
    refine zj rfl (fun h7 => ?_) (fun h8 => ?_)
    ·try simp at h7
     refine zb ?_
     refine dmv rfl ?_
     refine das rfl ?_
     refine dn ?_
     refine zo ?_
     refine zC rfl ?_
     show HVal.int .i64 _ = _
     simp_all [zbv]
    ·try simp at h8
     refine zk ?_
     refine ze ?_
     refine zf ?_
     obtain ⟨hgo1, hgo2, _⟩ := zkO (m := m) (l := x.Gives) (by simp_all)
     refine za7 (fun _ => True) [] mixed ?_
     refine ahp 0 rfl rfl (by kernel_rfl) (by kernel_rfl) (zY zbI rfl rfl rfl rfl) ?_
     refine ahp 1 rfl rfl (by kernel_rfl) (by kernel_rfl) (zw zrP rfl (WeakL.refl _) (zis (by first | assumption | omega | (simp; omega) | simp_all))) ?_
     refine ahp 2 rfl rfl (by kernel_rfl) (by kernel_rfl) (zg zbI rfl ty9 (by decide) rfl) ?_
     refine ahp 3 rfl rfl (by kernel_rfl) (by kernel_rfl) (zi ty9 rfl rfl rfl) ?_
     refine ahp 4 rfl rfl (by kernel_rfl) (by kernel_rfl) (zw zl4 rfl (WeakL.refl _) (zaW (l := zfn x.Gives) (s := x.By) (by have := zpi x.Gives; omega))) ?_
     refine ahp 5 rfl rfl (by kernel_rfl) (by kernel_rfl) (zaw rfl) ?_
     refine ahz (by kernel_rfl) ?_
     refine zj rfl (fun h9 => ?_) (fun h10 => ?_)
     ·try simp at h9
      refine zb ?_
      refine das rfl ?_
      refine dn ?_
      refine zo ?_
      refine zC rfl ?_
      show HVal.int .i64 _ = _
      simp_all [zbv]
     ·try simp at h10
      refine zk ?_
      refine ze ?_
      refine zb ?_
      refine das rfl ?_
      refine dn ?_
      refine zo ?_
      refine zC rfl ?_
      show HVal.int .i64 _ = _
      simp_all [zbv]

/-- benchwarmer/trade.CheckOffers -/
theorem zhf [Tracks] {m : MarketS} {l : List DealS} (ht : m.Teams.length ≤ 1000000) (hl : l.length ≤ 1000000) (hx : ∀ x ∈ l, x.Gives.length ≤ 1000000) : zaa Tryz.prog 142 [zaS m, zrv l] (.int .i64 (zcc m l)) := by
 refine Con.of_body Tryz.func142 rfl Tryz.ntmps142 rfl rfl ?_
 refine zb ?_
 refine dq (zaL rfl rfl) ?_
 refine das rfl ?_
 refine dn ?_
 refine zf ?_
 refine zb ?_
 refine dq (zY zW rfl rfl rfl rfl) ?_
 refine dq (zw ca76 rfl (WeakL.refl _) (zeF (by first | assumption | omega | (simp; omega) | simp_all))) ?_
 refine das rfl ?_
 refine dn ?_
 refine zb ?_
 refine dmv rfl ?_
 refine dq (za6 rfl rfl) ?_
 refine dn ?_
 refine zj rfl (fun h1 => ?_) (fun h2 => ?_)
 ·try simp at h1
  refine zb ?_
  refine dmv rfl ?_
  refine das rfl ?_
  refine dn ?_
  refine zo ?_
  refine zC rfl ?_
  show HVal.int .i64 _ = _
  first
  | (rw [zcc, if_pos (by simpa using h1)]; done)
  | (rw [hE]; exact congrArg _ (zfY (by omega)))
  | (rw [hE]; exact congrArg _ (zfX (by omega) hg))
  | (rw [hE]
     refine congrArg _ (zfQ (by omega) hg ?_ rfl)
     simp_all
     done)
  | (rw [hE]
     refine congrArg _ (zfV (by omega) hg ?_ ?_ ?_)
     ·simp_all
     ·simp_all
     ·simp_all)
 ·try simp at h2
  refine zk ?_
  refine ze ?_
  refine zf ?_
  have hz : zae m = 0 := by simpa using h2
  have hm := zjp hz
  have ht20 := hm.len
  have hE : zcc m l = zcd m l := by rw [zcc, if_neg (by simp [hz])]
  refine zb ?_
  refine dmv rfl ?_
  refine dq (zB zjU rfl) ?_
  refine dq (zax rfl rfl) ?_
  refine dn ?_
  refine zj rfl (fun h3 => ?_) (fun h4 => ?_)
  ·try simp at h3
   refine zb ?_
   refine das rfl ?_
   refine dn ?_
   refine zo ?_
   refine zC rfl ?_
   show HVal.int .i64 _ = _
   first
   | (rw [zcc, if_pos (by simpa using h1)]; done)
   | (rw [hE]; exact congrArg _ (zfY (by omega)))
   | (rw [hE]; exact congrArg _ (zfX (by omega) hg))
   | (rw [hE]
      refine congrArg _ (zfQ (by omega) hg ?_ rfl)
      simp_all
      done)
   | (rw [hE]
      refine congrArg _ (zfV (by omega) hg ?_ ?_ ?_)
      ·simp_all
      ·simp_all
      ·simp_all)
  ·try simp at h4
   refine zk ?_
   refine ze ?_
   refine zf ?_
   refine zb ?_
   refine dmv rfl ?_
   refine dq (zB zjU rfl) ?_
   refine dmv rfl ?_
   refine dn ?_
   refine zm ?_
   refine z8 [4, 6, 7, 8, 19, 20, 21, 22, 23, 24, 25, 26, 27, 28, 29, 30, 31, 32, 33, 34, 35, 36, 37, 38, 39, 40, 41, 42] (fun (k : Nat) => [(19, .int .i64 k)]) (fun (k : Nat) => []) (fun (k : Nat) => k ≤ l.length ∧ (zaB (zbv m) zdj zcf l 0 l = zaB (zbv m) zdj zcf l k (l.drop k))) (fun (k : Nat) => l.length - k) (0) ?_ ?_ ?_ ?_
   ·exact ⟨Nat.zero_le _, rfl⟩
   ·exact ⟨rfl, trivial⟩
   ·exact List.Perm.refl _
   ·intro k hinv
    obtain ⟨hk, hg⟩ := hinv
    refine zb ?_
    refine dq (zJ rfl rfl) ?_
    refine dn ?_
    refine zf ?_
    refine zj rfl (fun h5 => ?_) (fun h6 => ?_)
    ·try simp at h5
     obtain ⟨y, hy⟩ : ∃ y, l[k]? = some y := ⟨_, List.getElem?_eq_getElem h5⟩
     have hdy := zK hy
     rw [hdy] at hg
     refine zk ?_
     refine ze ?_
     refine zf ?_
     refine zm ?_
     refine zb ?_
     refine dmv rfl ?_
     refine dq (zH zjU zbI rfl rfl rfl (by first | assumption | simp_all)) ?_
     refine dq (zY zbI rfl rfl rfl rfl) ?_
     refine de rfl (zab zbI rfl fun b7 => ?_)
     refine das rfl ?_
     refine de0 (zao zbI rfl rfl rfl rfl rfl ?_)
     refine dn ?_
     refine zO (Ghost.fc0 7 rfl) ?_
     refine zf ?_
     refine zb ?_
     refine dq (zY zbI rfl rfl rfl rfl) ?_
     refine dq (zw zr6 rfl (WeakL.refl _) (zhp (x := y) hm (hx y (List.mem_of_getElem? hy)))) ?_
     refine das rfl ?_
     refine dn ?_
     refine zb ?_
     refine dmv rfl ?_
     refine dq (za6 rfl rfl) ?_
     refine dn ?_
     refine zj rfl (fun h7 => ?_) (fun h8 => ?_)
     ·try simp at h7
      refine zb ?_
      refine dmv rfl ?_
      refine das rfl ?_
      refine dn ?_
      refine zo ?_
      refine zC rfl ?_
      show HVal.int .i64 _ = _
      first
      | (rw [zcc, if_pos (by simpa using h1)]; done)
      | (rw [hE]; exact congrArg _ (zfY (by omega)))
      | (rw [hE]; exact congrArg _ (zfX (by omega) hg))
      | (rw [hE]
         refine congrArg _ (zfQ (by omega) hg ?_ rfl)
         simp_all
         done)
      | (rw [hE]
         refine congrArg _ (zfV (by omega) hg ?_ ?_ ?_)
         ·simp_all
         ·simp_all
         ·simp_all)
     ·try simp at h8
      refine zk ?_
      refine ze ?_
      refine za7 (fun _ => True) [] mixed ?_
      refine ahp 0 rfl rfl (by kernel_rfl) (by kernel_rfl) (zd rfl) ?_
      refine ahp 1 rfl rfl (by kernel_rfl) (by kernel_rfl) (zax rfl rfl) ?_
      refine ahp 2 rfl rfl (by kernel_rfl) (by kernel_rfl) (zd rfl) ?_
      refine ahg 3 rfl rfl (by kernel_rfl) (by kernel_rfl) rfl (fun hc => ⟨_, OpenTo.refl _, zg zbI rfl ty9 (by decide) rfl⟩) ?_
      refine ahg 4 rfl rfl (by kernel_rfl) (by kernel_rfl) rfl (fun hc => ⟨_, OpenTo.upd (t := 32) rfl (by first | exact hc | simp_all) (OpenTo.refl _), zi ty9 rfl rfl rfl⟩) ?_
      refine ahg 5 rfl rfl (by kernel_rfl) (by kernel_rfl) rfl (fun hc => ⟨_, OpenTo.refl _, zd rfl⟩) ?_
      refine ahg 6 rfl rfl (by kernel_rfl) (by kernel_rfl) rfl (fun hc => ⟨_, OpenTo.refl _, zd rfl⟩) ?_
      refine ahg 7 rfl rfl (by kernel_rfl) (by kernel_rfl) rfl (fun hc => by have hq := hc; (try simp at hq); exact ⟨_, OpenTo.upd (t := 35) rfl (by first | exact hc | simp_all) (OpenTo.refl _), zay rfl rfl (by omega) (by omega)⟩) ?_
      refine ahg 8 rfl rfl (by kernel_rfl) (by kernel_rfl) rfl (fun hc => by have hq := hc; (try simp at hq); exact ⟨_, OpenTo.upd (t := 36) rfl (by first | exact hc | simp_all) (OpenTo.upd (t := 34) rfl (by first | exact hc | simp_all) (OpenTo.refl _)), zH (j := k - 1) (a := l.getD (k - 1) zcf) zjU zbI rfl rfl (by omega) (getD_some (by omega))⟩) ?_
      refine ahg 9 rfl rfl (by kernel_rfl) (by kernel_rfl) rfl (fun hc => ⟨_, OpenTo.upd (t := 37) rfl (by first | exact hc | simp_all) (OpenTo.refl _), zg zbI rfl ty9 (by decide) rfl⟩) ?_
      refine ahg 10 rfl rfl (by kernel_rfl) (by kernel_rfl) rfl (fun hc => ⟨_, OpenTo.upd (t := 38) rfl (by first | exact hc | simp_all) (OpenTo.refl _), zi ty9 rfl rfl rfl⟩) ?_
      refine ahg 11 rfl rfl (by kernel_rfl) (by kernel_rfl) rfl (fun hc => ⟨_, OpenTo.upd (t := 39) rfl (by first | exact hc | simp_all) (OpenTo.upd (t := 33) rfl (by first | exact hc | simp_all) (OpenTo.refl _)), zdp rfl rfl⟩) ?_
      refine ahp 12 rfl rfl (by kernel_rfl) (by kernel_rfl) (zL rfl (.inr ⟨_, rfl, fun h => by simp_all⟩) (.inl rfl)) ?_
      refine ahz (by kernel_rfl) ?_
      refine zj rfl (fun h9 => ?_) (fun h10 => ?_)
      ·try simp at h9
       refine zb ?_
       refine das rfl ?_
       refine dn ?_
       refine zo ?_
       refine zC rfl ?_
       show HVal.int .i64 _ = _
       first
       | (rw [zcc, if_pos (by simpa using h1)]; done)
       | (rw [hE]; exact congrArg _ (zfY (by omega)))
       | (rw [hE]; exact congrArg _ (zfX (by omega) hg))
       | (rw [hE]
          refine congrArg _ (zfQ (by omega) hg ?_ rfl)
          simp_all
          done)
       | (rw [hE]
          refine congrArg _ (zfV (by omega) hg ?_ ?_ ?_)
          ·simp_all
          ·simp_all
          ·simp_all)
      ·try simp at h10
       refine zk ?_
       refine zz ?_
       refine ze ?_
       refine zy ?_
       refine dq (zv rfl rfl (by omega) (by omega)) ?_
       refine dmv rfl ?_
       refine dn ?_
       refine ⟨k + 1, ?_, ?_, ⟨rfl, trivial⟩, (by repeat (first | exact zp | refine zu rfl ?_ | refine zq rfl rfl ?_)), List.Perm.refl _⟩
       ·refine ⟨by omega, ?_⟩
        rw [hg, zoO (by simp_all) (by intro hk0; simp_all)]
       ·dsimp only; omega
    ·try simp at h6
     have hnk : l.length ≤ k := by omega
     obtain rfl : k = l.length := by omega
     rw [z6 (Nat.le_refl _)] at hg
     refine zN ?_
     refine zS ?_
     refine zag ?_
     refine zE ?_
     refine ze ?_
     refine zb ?_
     refine das rfl ?_
     refine dn ?_
     refine zo ?_
     refine zC rfl ?_
     show HVal.int .i64 _ = _
     first
     | (rw [zcc, if_pos (by simpa using h1)]; done)
     | (rw [hE]; exact congrArg _ (zfY (by omega)))
     | (rw [hE]; exact congrArg _ (zfX (by omega) hg))
     | (rw [hE]
        refine congrArg _ (zfQ (by omega) hg ?_ rfl)
        simp_all
        done)
     | (rw [hE]
        refine congrArg _ (zfV (by omega) hg ?_ ?_ ?_)
        ·simp_all
        ·simp_all
        ·simp_all)
end
end Go.Proofs.YtcihcbnjfclkbaaGreatDoor
