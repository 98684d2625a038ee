/- Part 4 of the proof: a program logic, contracts of functions and plain facts; no conditions. -/
import Derived.Test.YtcihcbnjfclkbaaGreatDoorQRingsFound3
import Derived.Shelf.Slices.CompactI
import Derived.Shelf.Slices.In.SortNone
import Derived.Shelf.Sort.Plain
set_option linter.unusedVariables false
set_option linter.unusedSimpArgs false
namespace Go.Proofs.YtcihcbnjfclkbaaGreatDoor
set_option maxRecDepth 100000
set_option linter.unusedVariables false
set_option linter.unusedSimpArgs false
section
open Go.HL
/-- benchwarmer/trade.team -/
theorem zcY [Tracks] {o : List OwnerS} {s : Str} (ho : o.length ≤ 1000000) : zaa Tryz.prog 47 [zbd o, .str s] (.str (zaA o s)) := by
 refine Con.of_body Tryz.func47 rfl Tryz.ntmps47 rfl rfl ?_
 refine zb ?_
 refine das rfl ?_
 refine dn ?_
 refine zf ?_
 refine zb ?_
 refine dmv rfl ?_
 refine dq (zB zat rfl) ?_
 refine dmv rfl ?_
 refine dn ?_
 refine zm ?_
 refine z8 [4, 6, 9, 10, 11, 12, 13, 14, 15, 16, 17, 18, 19] (fun (k : Nat) => [(9, .int .i64 k)]) (fun (k : Nat) => []) (fun (k : Nat) => k ≤ o.length ∧ (zaA o s = zaA (o.drop k) s)) (fun (k : Nat) => o.length - k) (0) ?_ ?_ ?_ ?_
 ·exact ⟨Nat.zero_le _, rfl⟩
 ·exact ⟨rfl, trivial⟩
 ·exact List.Perm.refl _
 ·intro k hinv
  obtain ⟨hk, hg⟩ := hinv
  refine zb ?_
  refine dq (zJ rfl rfl) ?_
  refine dn ?_
  refine zf ?_
  refine zj rfl (fun h1 => ?_) (fun h2 => ?_)
  ·try simp at h1
   obtain ⟨x, hx⟩ : ∃ x, o[k]? = some x := ⟨_, List.getElem?_eq_getElem h1⟩
   have hdx := zK hx
   rw [hdx] at hg
   refine zk ?_
   refine ze ?_
   refine zf ?_
   refine zm ?_
   refine zb ?_
   refine dq (zH zat zZ rfl rfl rfl (by first | assumption | simp_all)) ?_
   refine dq (zY zZ rfl rfl rfl rfl) ?_
   refine de rfl (zab zZ rfl fun b6 => ?_)
   refine de0 (zao zZ rfl rfl rfl rfl rfl ?_)
   refine dn ?_
   refine zO (Ghost.fc0 6 rfl) ?_
   refine zb ?_
   refine dq (zg zZ rfl ty9 (by decide) rfl) ?_
   refine dq (zi ty9 rfl rfl rfl) ?_
   refine dmv rfl ?_
   refine dq (zbb rfl rfl) ?_
   refine dn ?_
   refine zj rfl (fun h3 => ?_) (fun h4 => ?_)
   ·try simp at h3
    refine zb ?_
    refine dq (zg zZ rfl ty9 (by decide) rfl) ?_
    refine dq (zi ty9 rfl rfl rfl) ?_
    refine das rfl ?_
    refine dn ?_
    refine zo ?_
    refine zC rfl ?_
    first | (rw [hg, zaA, if_pos (by simpa using h3)]; done) | (rw [hg, z6 (Nat.le_refl _)]; rfl)
   ·try simp at h4
    refine zk ?_
    refine zz ?_
    refine ze ?_
    refine zy ?_
    refine dq (zv rfl rfl (by omega) (by omega)) ?_
    refine dmv rfl ?_
    refine dn ?_
    refine ⟨k + 1, ?_, ?_, ⟨rfl, trivial⟩, (by repeat (first | exact zp | refine zu rfl ?_ | refine zq rfl rfl ?_)), List.Perm.refl _⟩
    ·refine ⟨by omega, ?_⟩
     rw [hg, zaA, if_neg (by simpa using h4)]
    ·dsimp only; omega
  ·try simp at h2
   have hnk : o.length ≤ k := by omega
   obtain rfl : k = o.length := by omega
   refine zN ?_
   refine zS ?_
   refine zag ?_
   refine zE ?_
   refine ze ?_
   refine zb ?_
   refine das rfl ?_
   refine dn ?_
   refine zo ?_
   refine zC rfl ?_
   first | (rw [hg, zaA, if_pos (by simpa using h3)]; done) | (rw [hg, z6 (Nat.le_refl _)]; rfl)

/-- benchwarmer/benchref1.teamOf -/
theorem zbM [Tracks] {o : List OwnerS} {s : Str} (ho : o.length ≤ 1000000) : zaa Tryz.prog 45 [zbd o, .str s] (.str (zaA o s)) := by
 refine Con.of_body Tryz.func45 rfl Tryz.ntmps45 rfl rfl ?_
 refine zb ?_
 refine das rfl ?_
 refine dn ?_
 refine zf ?_
 refine zb ?_
 refine dmv rfl ?_
 refine dq (zB zat rfl) ?_
 refine dmv rfl ?_
 refine dn ?_
 refine zm ?_
 refine z8 [4, 6, 9, 10, 11, 12, 13, 14, 15, 16, 17, 18, 19] (fun (k : Nat) => [(9, .int .i64 k)]) (fun (k : Nat) => []) (fun (k : Nat) => k ≤ o.length ∧ (zaA o s = zaA (o.drop k) s)) (fun (k : Nat) => o.length - k) (0) ?_ ?_ ?_ ?_
 ·exact ⟨Nat.zero_le _, rfl⟩
 ·exact ⟨rfl, trivial⟩
 ·exact List.Perm.refl _
 ·intro k hinv
  obtain ⟨hk, hg⟩ := hinv
  refine zb ?_
  refine dq (zJ rfl rfl) ?_
  refine dn ?_
  refine zf ?_
  refine zj rfl (fun h1 => ?_) (fun h2 => ?_)
  ·try simp at h1
   obtain ⟨x, hx⟩ : ∃ x, o[k]? = some x := ⟨_, List.getElem?_eq_getElem h1⟩
   have hdx := zK hx
   rw [hdx] at hg
   refine zk ?_
   refine ze ?_
   refine zf ?_
   refine zm ?_
   refine zb ?_
   refine dq (zH zat zZ rfl rfl rfl (by first | assumption | simp_all)) ?_
   refine dq (zY zZ rfl rfl rfl rfl) ?_
   refine de rfl (zab zZ rfl fun b6 => ?_)
   refine de0 (zao zZ rfl rfl rfl rfl rfl ?_)
   refine dn ?_
   refine zO (Ghost.fc0 6 rfl) ?_
   refine zb ?_
   refine dq (zg zZ rfl ty9 (by decide) rfl) ?_
   refine dq (zi ty9 rfl rfl rfl) ?_
   refine dmv rfl ?_
   refine dq (zbb rfl rfl) ?_
   refine dn ?_
   refine zj rfl (fun h3 => ?_) (fun h4 => ?_)
   ·try simp at h3
    refine zb ?_
    refine dq (zg zZ rfl ty9 (by decide) rfl) ?_
    refine dq (zi ty9 rfl rfl rfl) ?_
    refine das rfl ?_
    refine dn ?_
    refine zo ?_
    refine zC rfl ?_
    first | (rw [hg, zaA, if_pos (by simpa using h3)]; done) | (rw [hg, z6 (Nat.le_refl _)]; rfl)
   ·try simp at h4
    refine zk ?_
    refine zz ?_
    refine ze ?_
    refine zy ?_
    refine dq (zv rfl rfl (by omega) (by omega)) ?_
    refine dmv rfl ?_
    refine dn ?_
    refine ⟨k + 1, ?_, ?_, ⟨rfl, trivial⟩, (by repeat (first | exact zp | refine zu rfl ?_ | refine zq rfl rfl ?_)), List.Perm.refl _⟩
    ·refine ⟨by omega, ?_⟩
     rw [hg, zaA, if_neg (by simpa using h4)]
    ·dsimp only; omega
  ·try simp at h2
   have hnk : o.length ≤ k := by omega
   obtain rfl : k = o.length := by omega
   refine zN ?_
   refine zS ?_
   refine zag ?_
   refine zE ?_
   refine ze ?_
   refine zb ?_
   refine das rfl ?_
   refine dn ?_
   refine zo ?_
   refine zC rfl ?_
   first | (rw [hg, zaA, if_pos (by simpa using h3)]; done) | (rw [hg, z6 (Nat.le_refl _)]; rfl)

/-- benchwarmer/trade.forFault -/
theorem ziL [Tracks] {o : List OwnerS} {x : WantS} (ho : o.length ≤ 1000000) (hf : x.For.length ≤ 1000000) : zaa Tryz.prog 48 [zbd o, zb7 x] (.int .i64 (zaH o x)) := by
 refine Con.of_body Tryz.func48 rfl Tryz.ntmps48 rfl rfl ?_
 refine zb ?_
 refine dq (zaL rfl rfl) ?_
 refine das rfl ?_
 refine dn ?_
 refine zf ?_
 refine zb ?_
 refine dq (zg zU rfl zF (by decide) rfl) ?_
 refine dq (zi zF rfl rfl rfl) ?_
 refine dq (zB zF rfl) ?_
 refine dq (zax rfl rfl) ?_
 refine dn ?_
 refine zj rfl (fun h1 => ?_) (fun h2 => ?_)
 ·try simp at h1
  refine zb ?_
  refine das rfl ?_
  refine dn ?_
  refine zo ?_
  refine zC rfl ?_
  show HVal.int .i64 _ = _
  first
  | (rw [zaH, if_pos (by omega)]; done)
  | (rw [zaH, if_neg (by omega), hg, z6 (Nat.le_refl _)]; rfl)
  | (rw [zaH, if_neg (by omega), hg, zaY, if_pos (by simp_all)]; done)
  | (rw [zaH, if_neg (by omega), hg, zaY, if_neg (by simp_all), if_pos (by simp_all)]; done)
  | (rw [zaH, if_neg (by omega), hg, zaY, if_neg (by simp_all), if_neg (by simp_all), if_pos (by simp_all)]; done)
 ·try simp at h2
  refine zk ?_
  refine ze ?_
  refine zf ?_
  refine zb ?_
  refine dq (zg zU rfl zF (by decide) rfl) ?_
  refine dq (zi zF rfl rfl rfl) ?_
  refine dq (zB zF rfl) ?_
  refine dmv rfl ?_
  refine dn ?_
  refine zm ?_
  refine z8 [4, 5, 6, 14, 15, 16, 17, 18, 19, 20, 21, 22, 23, 24, 25, 26, 27, 28, 29, 30, 31, 32, 33, 34, 35, 36, 37, 38, 39, 40] (fun (k : Nat) => [(14, .int .i64 k)]) (fun (k : Nat) => []) (fun (k : Nat) => k ≤ x.For.length ∧ (zaY o x 0 x.For = zaY o x k (x.For.drop k))) (fun (k : Nat) => x.For.length - k) (0) ?_ ?_ ?_ ?_
  ·exact ⟨Nat.zero_le _, rfl⟩
  ·exact ⟨rfl, trivial⟩
  ·exact List.Perm.refl _
  ·intro k hinv
   obtain ⟨hk, hg⟩ := hinv
   refine zb ?_
   refine dq (zJ rfl rfl) ?_
   refine dn ?_
   refine zf ?_
   refine zj rfl (fun h3 => ?_) (fun h4 => ?_)
   ·try simp at h3
    obtain ⟨y, hy⟩ : ∃ y, x.For[k]? = some y := ⟨_, List.getElem?_eq_getElem h3⟩
    have hdy := zK hy
    rw [hdy] at hg
    refine zk ?_
    refine ze ?_
    refine zf ?_
    refine zm ?_
    refine zb ?_
    refine dmv rfl ?_
    refine dq (zH zF ty9 rfl rfl rfl (by first | assumption | simp_all)) ?_
    refine dq (zi ty9 rfl rfl rfl) ?_
    refine das rfl ?_
    refine das rfl ?_
    refine dn ?_
    refine zm ?_
    refine zb ?_
    refine dmv rfl ?_
    refine dmv rfl ?_
    refine dq (zw zkr rfl (WeakL.refl _) (zcY ho)) ?_
    refine dq (zbb rfl rfl) ?_
    refine das rfl ?_
    refine dn ?_
    refine zj rfl (fun h5 => ?_) (fun h6 => ?_)
    ·try simp at h5
     refine zb ?_
     refine das rfl ?_
     refine dn ?_
     refine zo ?_
     refine zC rfl ?_
     show HVal.int .i64 _ = _
     first
     | (rw [zaH, if_pos (by omega)]; done)
     | (rw [zaH, if_neg (by omega), hg, z6 (Nat.le_refl _)]; rfl)
     | (rw [zaH, if_neg (by omega), hg, zaY, if_pos (by simp_all)]; done)
     | (rw [zaH, if_neg (by omega), hg, zaY, if_neg (by simp_all), if_pos (by simp_all)]; done)
     | (rw [zaH, if_neg (by omega), hg, zaY, if_neg (by simp_all), if_neg (by simp_all), if_pos (by simp_all)]; done)
    ·try simp at h6
     refine zb ?_
     refine dq (zg zU rfl zF (by decide) rfl) ?_
     refine dq (zi zF rfl rfl rfl) ?_
     refine dmv rfl ?_
     refine dq (zfr zF ty9 rfl rfl ⟨_, _, rfl, rfl⟩ (by omega) (by omega)) ?_
     refine dmv rfl ?_
     refine dq (zw zl4 rfl (WeakL.refl _) (zaW (l := x.For.take k) (s := y) (by rw [List.length_take]; omega))) ?_
     refine das rfl ?_
     refine dn ?_
     refine zj rfl (fun h7 => ?_) (fun h8 => ?_)
     ·try simp at h7
      refine zb ?_
      refine das rfl ?_
      refine dn ?_
      refine zo ?_
      refine zC rfl ?_
      show HVal.int .i64 _ = _
      first
      | (rw [zaH, if_pos (by omega)]; done)
      | (rw [zaH, if_neg (by omega), hg, z6 (Nat.le_refl _)]; rfl)
      | (rw [zaH, if_neg (by omega), hg, zaY, if_pos (by simp_all)]; done)
      | (rw [zaH, if_neg (by omega), hg, zaY, if_neg (by simp_all), if_pos (by simp_all)]; done)
      | (rw [zaH, if_neg (by omega), hg, zaY, if_neg (by simp_all), if_neg (by simp_all), if_pos (by simp_all)]; done)
     ·try simp at h8
      refine za7 (fun _ => True) [] mixed ?_
      refine ahp 0 rfl rfl (by kernel_rfl) (by kernel_rfl) (zd rfl) ?_
      refine ahp 1 rfl rfl (by kernel_rfl) (by kernel_rfl) (zd rfl) ?_
      refine ahp 2 rfl rfl (by kernel_rfl) (by kernel_rfl) (zw zkr rfl (WeakL.refl _) (zcY ho)) ?_
      refine ahp 3 rfl rfl (by kernel_rfl) (by kernel_rfl) (zd rfl) ?_
      refine ahp 4 rfl rfl (by kernel_rfl) (by kernel_rfl) (zg zU rfl ty9 (by decide) rfl) ?_
      refine ahp 5 rfl rfl (by kernel_rfl) (by kernel_rfl) (zi ty9 rfl rfl rfl) ?_
      refine ahp 6 rfl rfl (by kernel_rfl) (by kernel_rfl) (zw zkr rfl (WeakL.refl _) (zcY ho)) ?_
      refine ahp 7 rfl rfl (by kernel_rfl) (by kernel_rfl) (zbb rfl rfl) ?_
      refine ahp 8 rfl rfl (by kernel_rfl) (by kernel_rfl) (zaK rfl) ?_
      refine ahz (by kernel_rfl) ?_
      refine zj rfl (fun h9 => ?_) (fun h10 => ?_)
      ·try simp at h9
       refine zb ?_
       refine das rfl ?_
       refine dn ?_
       refine zo ?_
       refine zC rfl ?_
       show HVal.int .i64 _ = _
       first
       | (rw [zaH, if_pos (by omega)]; done)
       | (rw [zaH, if_neg (by omega), hg, z6 (Nat.le_refl _)]; rfl)
       | (rw [zaH, if_neg (by omega), hg, zaY, if_pos (by simp_all)]; done)
       | (rw [zaH, if_neg (by omega), hg, zaY, if_neg (by simp_all), if_pos (by simp_all)]; done)
       | (rw [zaH, if_neg (by omega), hg, zaY, if_neg (by simp_all), if_neg (by simp_all), if_pos (by simp_all)]; done)
      ·try simp at h10
       refine zk ?_
       refine zz ?_
       refine zz ?_
       refine ze ?_
       refine zy ?_
       refine dq (zv rfl rfl (by omega) (by omega)) ?_
       refine dmv rfl ?_
       refine dn ?_
       refine ⟨k + 1, ?_, ?_, ⟨rfl, trivial⟩, (by repeat (first | exact zp | refine zu rfl ?_ | refine zq rfl rfl ?_)), List.Perm.refl _⟩
       ·refine ⟨by omega, ?_⟩
        rw [hg, zjQ (by simp_all) (by simp_all) (by simp_all)]
       ·dsimp only; omega
   ·try simp at h4
    have hnk : x.For.length ≤ k := by omega
    obtain rfl : k = x.For.length := by omega
    refine zN ?_
    refine zS ?_
    refine zag ?_
    refine zE ?_
    refine ze ?_
    refine zb ?_
    refine das rfl ?_
    refine dn ?_
    refine zo ?_
    refine zC rfl ?_
    show HVal.int .i64 _ = _
    first
    | (rw [zaH, if_pos (by omega)]; done)
    | (rw [zaH, if_neg (by omega), hg, z6 (Nat.le_refl _)]; rfl)
    | (rw [zaH, if_neg (by omega), hg, zaY, if_pos (by simp_all)]; done)
    | (rw [zaH, if_neg (by omega), hg, zaY, if_neg (by simp_all), if_pos (by simp_all)]; done)
    | (rw [zaH, if_neg (by omega), hg, zaY, if_neg (by simp_all), if_neg (by simp_all), if_pos (by simp_all)]; done)

/-- benchwarmer/trade.CheckWants -/
theorem zdr [Tracks] {m : MarketS} {o : List OwnerS} {w : List WantS} (ht : m.Teams.length ≤ 1000000) (ho : o.length ≤ 1000000) (hw : w.length ≤ 1000000) (hf : ∀ x ∈ w, x.For.length ≤ 1000000) : zaa Tryz.prog 12 [zaS m, zbd o, za1 w] (.int .i64 (zaj m o w)) := by
 refine Con.of_body Tryz.func12 rfl Tryz.ntmps12 rfl rfl ?_
 refine zb ?_
 refine dq (zaL rfl rfl) ?_
 refine das rfl ?_
 refine dn ?_
 refine zf ?_
 refine zb ?_
 refine dq (zY zW rfl rfl rfl rfl) ?_
 refine dmv rfl ?_
 refine dq (zw ca46 rfl (WeakL.refl _) (zeG ht ho)) ?_
 refine das rfl ?_
 refine dn ?_
 refine zb ?_
 refine dmv rfl ?_
 refine dq (za6 rfl rfl) ?_
 refine dn ?_
 refine zj rfl (fun h1 => ?_) (fun h2 => ?_)
 ·try simp at h1
  refine zb ?_
  refine dmv rfl ?_
  refine das rfl ?_
  refine dn ?_
  refine zo ?_
  refine zC rfl ?_
  show HVal.int .i64 _ = _
  first
  | (rw [zaj, if_pos (by simpa using h1)]; done)
  | (rw [zaj, if_neg (by simpa using h2), zX, if_pos (by omega)]; done)
  | (rw [zaj, if_neg (by simpa using h2), zX, if_neg (by omega), hg, z6 (Nat.le_refl _)]; rfl)
  | (rw [zaj, if_neg (by simpa using h2), zX, if_neg (by omega), hg, zad, if_pos (by simp_all)]; done)
  | (rw [zaj, if_neg (by simpa using h2), zX, if_neg (by omega), hg, zad, if_neg (by simp_all), if_pos (by simp_all)]; done)
  | (rw [zaj, if_neg (by simpa using h2), zX, if_neg (by omega), hg, zad, if_neg (by simp_all), if_neg (by simp_all), if_pos (by simp_all)]; done)
 ·try simp at h2
  refine zk ?_
  refine ze ?_
  refine zf ?_
  refine zb ?_
  refine dmv rfl ?_
  refine dq (zB zaP rfl) ?_
  refine dq (zax rfl rfl) ?_
  refine dn ?_
  refine zj rfl (fun h3 => ?_) (fun h4 => ?_)
  ·try simp at h3
   refine zb ?_
   refine das rfl ?_
   refine dn ?_
   refine zo ?_
   refine zC rfl ?_
   show HVal.int .i64 _ = _
   first
   | (rw [zaj, if_pos (by simpa using h1)]; done)
   | (rw [zaj, if_neg (by simpa using h2), zX, if_pos (by omega)]; done)
   | (rw [zaj, if_neg (by simpa using h2), zX, if_neg (by omega), hg, z6 (Nat.le_refl _)]; rfl)
   | (rw [zaj, if_neg (by simpa using h2), zX, if_neg (by omega), hg, zad, if_pos (by simp_all)]; done)
   | (rw [zaj, if_neg (by simpa using h2), zX, if_neg (by omega), hg, zad, if_neg (by simp_all), if_pos (by simp_all)]; done)
   | (rw [zaj, if_neg (by simpa using h2), zX, if_neg (by omega), hg, zad, if_neg (by simp_all), if_neg (by simp_all), if_pos (by simp_all)]; done)
  ·try simp at h4
   refine zk ?_
   refine ze ?_
   refine zf ?_
   refine zb ?_
   refine dmv rfl ?_
   refine dq (zB zaP rfl) ?_
   refine dmv rfl ?_
   refine dn ?_
   refine zm ?_
   refine z8 [6, 8, 9, 10, 22, 23, 24, 25, 26, 27, 28, 29, 30, 31, 32, 33, 34, 35, 36, 37, 38, 39, 40, 41, 42, 43, 44, 45, 46, 47, 48, 49, 50, 51, 52, 53] (fun (k : Nat) => [(22, .int .i64 k)]) (fun (k : Nat) => []) (fun (k : Nat) => k ≤ w.length ∧ (zad o w 0 w = zad o w k (w.drop k))) (fun (k : Nat) => w.length - k) (0) ?_ ?_ ?_ ?_
   ·exact ⟨Nat.zero_le _, rfl⟩
   ·exact ⟨rfl, trivial⟩
   ·exact List.Perm.refl _
   ·intro k hinv
    obtain ⟨hk, hg⟩ := hinv
    refine zb ?_
    refine dq (zJ rfl rfl) ?_
    refine dn ?_
    refine zf ?_
    refine zj rfl (fun h5 => ?_) (fun h6 => ?_)
    ·try simp at h5
     obtain ⟨x, hx⟩ : ∃ x, w[k]? = some x := ⟨_, List.getElem?_eq_getElem h5⟩
     have hdx := zK hx
     rw [hdx] at hg
     refine zk ?_
     refine ze ?_
     refine zf ?_
     refine zm ?_
     refine zb ?_
     refine dmv rfl ?_
     refine dq (zH zaP zU rfl rfl rfl (by first | assumption | simp_all)) ?_
     refine dq (zY zU rfl rfl rfl rfl) ?_
     refine de rfl (zab zU rfl fun b9 => ?_)
     refine das rfl ?_
     refine de0 (zao zU rfl rfl rfl rfl rfl ?_)
     refine dn ?_
     refine zO (Ghost.fc0 9 rfl) ?_
     refine zf ?_
     refine zm ?_
     refine zb ?_
     refine dmv rfl ?_
     refine dq (zg zU rfl ty9 (by decide) rfl) ?_
     refine dq (zi ty9 rfl rfl rfl) ?_
     refine dq (zw zkr rfl (WeakL.refl _) (zcY ho)) ?_
     refine dq (zbb rfl rfl) ?_
     refine das rfl ?_
     refine dn ?_
     refine zj rfl (fun h7 => ?_) (fun h8 => ?_)
     ·try simp at h7
      refine zb ?_
      refine das rfl ?_
      refine dn ?_
      refine zo ?_
      refine zC rfl ?_
      show HVal.int .i64 _ = _
      first
      | (rw [zaj, if_pos (by simpa using h1)]; done)
      | (rw [zaj, if_neg (by simpa using h2), zX, if_pos (by omega)]; done)
      | (rw [zaj, if_neg (by simpa using h2), zX, if_neg (by omega), hg, z6 (Nat.le_refl _)]; rfl)
      | (rw [zaj, if_neg (by simpa using h2), zX, if_neg (by omega), hg, zad, if_pos (by simp_all)]; done)
      | (rw [zaj, if_neg (by simpa using h2), zX, if_neg (by omega), hg, zad, if_neg (by simp_all), if_pos (by simp_all)]; done)
      | (rw [zaj, if_neg (by simpa using h2), zX, if_neg (by omega), hg, zad, if_neg (by simp_all), if_neg (by simp_all), if_pos (by simp_all)]; done)
     ·try simp at h8
      refine za7 (fun _ => True) [] mixed ?_
      refine ahp 0 rfl rfl (by kernel_rfl) (by kernel_rfl) (zd rfl) ?_
      refine ahp 1 rfl rfl (by kernel_rfl) (by kernel_rfl) (zax rfl rfl) ?_
      refine ahp 2 rfl rfl (by kernel_rfl) (by kernel_rfl) (zd rfl) ?_
      refine ahg 3 rfl rfl (by kernel_rfl) (by kernel_rfl) rfl (fun hc => ⟨_, OpenTo.refl _, zg zU rfl ty9 (by decide) rfl⟩) ?_
      refine ahg 4 rfl rfl (by kernel_rfl) (by kernel_rfl) rfl (fun hc => ⟨_, OpenTo.upd (t := 37) rfl (by first | exact hc | simp_all) (OpenTo.refl _), zi ty9 rfl rfl rfl⟩) ?_
      refine ahg 5 rfl rfl (by kernel_rfl) (by kernel_rfl) rfl (fun hc => ⟨_, OpenTo.refl _, zd rfl⟩) ?_
      refine ahg 6 rfl rfl (by kernel_rfl) (by kernel_rfl) rfl (fun hc => ⟨_, OpenTo.refl _, zd rfl⟩) ?_
      refine ahg 7 rfl rfl (by kernel_rfl) (by kernel_rfl) rfl (fun hc => by have hq := hc; (try simp at hq); exact ⟨_, OpenTo.upd (t := 40) rfl (by first | exact hc | simp_all) (OpenTo.refl _), zay rfl rfl (by omega) (by omega)⟩) ?_
      refine ahg 8 rfl rfl (by kernel_rfl) (by kernel_rfl) rfl (fun hc => by have hq := hc; (try simp at hq); exact ⟨_, OpenTo.upd (t := 41) rfl (by first | exact hc | simp_all) (OpenTo.upd (t := 39) rfl (by first | exact hc | simp_all) (OpenTo.refl _)), zH (j := k - 1) (a := w.getD (k - 1) zbQ) zaP zU rfl rfl (by omega) (getD_some (by omega))⟩) ?_
      refine ahg 9 rfl rfl (by kernel_rfl) (by kernel_rfl) rfl (fun hc => ⟨_, OpenTo.upd (t := 42) rfl (by first | exact hc | simp_all) (OpenTo.refl _), zg zU rfl ty9 (by decide) rfl⟩) ?_
      refine ahg 10 rfl rfl (by kernel_rfl) (by kernel_rfl) rfl (fun hc => ⟨_, OpenTo.upd (t := 43) rfl (by first | exact hc | simp_all) (OpenTo.refl _), zi ty9 rfl rfl rfl⟩) ?_
      refine ahg 11 rfl rfl (by kernel_rfl) (by kernel_rfl) rfl (fun hc => ⟨_, OpenTo.upd (t := 44) rfl (by first | exact hc | simp_all) (OpenTo.upd (t := 38) rfl (by first | exact hc | simp_all) (OpenTo.refl _)), zdp rfl rfl⟩) ?_
      refine ahp 12 rfl rfl (by kernel_rfl) (by kernel_rfl) (zL rfl (.inr ⟨_, rfl, fun h => by simp_all⟩) (.inl rfl)) ?_
      refine ahp 13 rfl rfl (by kernel_rfl) (by kernel_rfl) (zaK rfl) ?_
      refine ahz (by kernel_rfl) ?_
      refine zj rfl (fun h9 => ?_) (fun h10 => ?_)
      ·try simp at h9
       refine zb ?_
       refine das rfl ?_
       refine dn ?_
       refine zo ?_
       refine zC rfl ?_
       show HVal.int .i64 _ = _
       first
       | (rw [zaj, if_pos (by simpa using h1)]; done)
       | (rw [zaj, if_neg (by simpa using h2), zX, if_pos (by omega)]; done)
       | (rw [zaj, if_neg (by simpa using h2), zX, if_neg (by omega), hg, z6 (Nat.le_refl _)]; rfl)
       | (rw [zaj, if_neg (by simpa using h2), zX, if_neg (by omega), hg, zad, if_pos (by simp_all)]; done)
       | (rw [zaj, if_neg (by simpa using h2), zX, if_neg (by omega), hg, zad, if_neg (by simp_all), if_pos (by simp_all)]; done)
       | (rw [zaj, if_neg (by simpa using h2), zX, if_neg (by omega), hg, zad, if_neg (by simp_all), if_neg (by simp_all), if_pos (by simp_all)]; done)
      ·try simp at h10
       refine zk ?_
       refine zz ?_
       refine ze ?_
       refine zb ?_
       refine dmv rfl ?_
       refine dq (zY zU rfl rfl rfl rfl) ?_
       refine dq (zw ca48 rfl (WeakL.refl _) (ziL ho (hf x (List.mem_of_getElem? hx)))) ?_
       refine das rfl ?_
       refine dn ?_
       refine zb ?_
       refine dmv rfl ?_
       refine dq (za6 rfl rfl) ?_
       refine dn ?_
       refine zj rfl (fun h11 => ?_) (fun h12 => ?_)
       ·try simp at h11
        refine zb ?_
        refine dmv rfl ?_
        refine das rfl ?_
        refine dn ?_
        refine zo ?_
        refine zC rfl ?_
        show HVal.int .i64 _ = _
        first
        | (rw [zaj, if_pos (by simpa using h1)]; done)
        | (rw [zaj, if_neg (by simpa using h2), zX, if_pos (by omega)]; done)
        | (rw [zaj, if_neg (by simpa using h2), zX, if_neg (by omega), hg, z6 (Nat.le_refl _)]; rfl)
        | (rw [zaj, if_neg (by simpa using h2), zX, if_neg (by omega), hg, zad, if_pos (by simp_all)]; done)
        | (rw [zaj, if_neg (by simpa using h2), zX, if_neg (by omega), hg, zad, if_neg (by simp_all), if_pos (by simp_all)]; done)
        | (rw [zaj, if_neg (by simpa using h2), zX, if_neg (by omega), hg, zad, if_neg (by simp_all), if_neg (by simp_all), if_pos (by simp_all)]; done)
       ·try simp at h12
        refine zk ?_
        refine zz ?_
        refine ze ?_
        refine zy ?_
        refine dq (zv rfl rfl (by omega) (by omega)) ?_
        refine dmv rfl ?_
        refine dn ?_
        refine ⟨k + 1, ?_, ?_, ⟨rfl, trivial⟩, (by repeat (first | exact zp | refine zu rfl ?_ | refine zq rfl rfl ?_)), List.Perm.refl _⟩
        ·refine ⟨by omega, ?_⟩
         rw [hg, zad, if_neg (by simp_all), if_neg (by simp_all), if_neg (by simp_all)]
        ·dsimp only; omega
    ·try simp at h6
     have hnk : w.length ≤ k := by omega
     obtain rfl : k = w.length := by omega
     refine zN ?_
     refine zS ?_
     refine zag ?_
     refine zE ?_
     refine ze ?_
     refine zb ?_
     refine das rfl ?_
     refine dn ?_
     refine zo ?_
     refine zC rfl ?_
     show HVal.int .i64 _ = _
     first
     | (rw [zaj, if_pos (by simpa using h1)]; done)
     | (rw [zaj, if_neg (by simpa using h2), zX, if_pos (by omega)]; done)
     | (rw [zaj, if_neg (by simpa using h2), zX, if_neg (by omega), hg, z6 (Nat.le_refl _)]; rfl)
     | (rw [zaj, if_neg (by simpa using h2), zX, if_neg (by omega), hg, zad, if_pos (by simp_all)]; done)
     | (rw [zaj, if_neg (by simpa using h2), zX, if_neg (by omega), hg, zad, if_neg (by simp_all), if_pos (by simp_all)]; done)
     | (rw [zaj, if_neg (by simpa using h2), zX, if_neg (by omega), hg, zad, if_neg (by simp_all), if_neg (by simp_all), if_pos (by simp_all)]; done)

set_option maxHeartbeats 1000000 in
/-- benchwarmer/benchref1.WantsFault -/
theorem zgt [Tracks] {o : List OwnerS} {w : List WantS} (ho : o.length ≤ 1000000) (hw : w.length ≤ 1000000) (hf : ∀ x ∈ w, x.For.length ≤ 1000000) : zaa Tryz.prog 11 [zbd o, za1 w] (.int .i64 (zX o w)) := by
 refine Con.of_body Tryz.func11 rfl Tryz.ntmps11 rfl rfl ?_
 refine zb ?_
 refine das rfl ?_
 refine dn ?_
 refine zf ?_
 refine zb ?_
 refine dmv rfl ?_
 refine dq (zB zaP rfl) ?_
 refine dq (zax rfl rfl) ?_
 refine dn ?_
 refine zj rfl (fun h1 => ?_) (fun h2 => ?_)
 ·try simp at h1
  refine zb ?_
  refine das rfl ?_
  refine dn ?_
  refine zo ?_
  refine zC rfl ?_
  show HVal.int .i64 _ = _
  first
  | (refine congrArg _ (zbo (e := 8) ?_ hg ?_ ?_ (zh4 ?_ hj2 ?_) ?_).symm <;> first | omega | assumption | decide | (simp_all; done))
  | (refine congrArg _ (zbo (e := 6) ?_ hg ?_ ?_ (zhK ?_ hj2 ?_ ?_) ?_).symm <;> first | omega | assumption | decide | (simp_all; done))
  | (refine congrArg _ (zbo (e := 16) ?_ hg ?_ ?_ (zf9 ?_ hj2 ?_ ?_ ?_) ?_).symm <;> first | omega | assumption | decide | (simp_all; done))
  | (rw [zX, if_pos (by omega)]; done)
  | (rw [zX, if_neg (by omega), hg, z6 (Nat.le_refl _)]; rfl)
  | (rw [zX, if_neg (by omega), hg, zad, if_pos (by simp_all)]; done)
  | (rw [zX, if_neg (by omega), hg, zad, if_neg (by simp_all), if_pos (by simp_all)]; done)
  | (rw [zX, if_neg (by omega), hg, zad, if_neg (by simp_all), if_neg (by simp_all), if_pos (by rw [zaH, if_pos (by omega)]; decide), zaH, if_pos (by omega)]; done)
 ·try simp at h2
  refine zk ?_
  refine ze ?_
  refine zf ?_
  refine zb ?_
  refine dmv rfl ?_
  refine dq (zB zaP rfl) ?_
  refine dmv rfl ?_
  refine dn ?_
  refine zm ?_
  refine z8 (4 :: 5 :: 6 :: 7 :: 8 :: 14 :: 15 :: 16 :: 17 :: 18 :: 19 :: 20 :: 21 :: 22 :: 23 :: 24 :: 25 :: 26 :: 27 :: 28 :: 29 :: 30 :: 31 :: 32 :: 33 :: 34 :: 35 :: 36 :: 37 :: 38 :: 39 :: 40 :: 41 :: 42 :: 43 :: 44 :: 45 :: 46 :: 47 :: 48 :: 49 :: 50 :: 51 :: 52 :: 53 :: 54 :: 55 :: 56 :: 57 :: 58 :: 59 :: 60 :: 61 :: 62 :: 63 :: 64 :: 65 :: 66 :: 67 :: 68 :: 69 :: 70 :: 71 :: 72 :: 73 :: 74 :: []) (fun (k : Nat) => [(14, .int .i64 k)]) (fun (k : Nat) => []) (fun (k : Nat) => k ≤ w.length ∧ (zad o w 0 w = zad o w k (w.drop k))) (fun (k : Nat) => w.length - k) (0) ?_ ?_ ?_ ?_
  ·exact ⟨Nat.zero_le _, rfl⟩
  ·exact ⟨rfl, trivial⟩
  ·exact List.Perm.refl _
  ·intro k hinv
   obtain ⟨hk, hg⟩ := hinv
   refine zb ?_
   refine dq (zJ rfl rfl) ?_
   refine dn ?_
   refine zf ?_
   refine zj rfl (fun h3 => ?_) (fun h4 => ?_)
   ·try simp at h3
    obtain ⟨x, hx⟩ : ∃ x, w[k]? = some x := ⟨_, List.getElem?_eq_getElem h3⟩
    have hdx := zK hx
    rw [hdx] at hg
    have hfx := hf x (List.mem_of_getElem? hx)
    refine zk ?_
    refine ze ?_
    refine zf ?_
    refine zm ?_
    refine zb ?_
    refine dmv rfl ?_
    refine dq (zH zaP zU rfl rfl rfl (by first | assumption | simp_all)) ?_
    refine dq (zY zU rfl rfl rfl rfl) ?_
    refine de rfl (zab zU rfl fun b6 => ?_)
    refine das rfl ?_
    refine de0 (zao zU rfl rfl rfl rfl rfl ?_)
    refine dn ?_
    refine zO (Ghost.fc0 6 rfl) ?_
    refine zf ?_
    refine zm ?_
    refine zb ?_
    refine dmv rfl ?_
    refine dq (zg zU rfl ty9 (by decide) rfl) ?_
    refine dq (zi ty9 rfl rfl rfl) ?_
    refine dq (zw zkq rfl (WeakL.refl _) (zbM ho)) ?_
    refine dq (zbb rfl rfl) ?_
    refine das rfl ?_
    refine dn ?_
    refine zj rfl (fun h5 => ?_) (fun h6 => ?_)
    ·try simp at h5
     refine zb ?_
     refine das rfl ?_
     refine dn ?_
     refine zo ?_
     refine zC rfl ?_
     show HVal.int .i64 _ = _
     first
     | (refine congrArg _ (zbo (e := 8) ?_ hg ?_ ?_ (zh4 ?_ hj2 ?_) ?_).symm <;> first | omega | assumption | decide | (simp_all; done))
     | (refine congrArg _ (zbo (e := 6) ?_ hg ?_ ?_ (zhK ?_ hj2 ?_ ?_) ?_).symm <;> first | omega | assumption | decide | (simp_all; done))
     | (refine congrArg _ (zbo (e := 16) ?_ hg ?_ ?_ (zf9 ?_ hj2 ?_ ?_ ?_) ?_).symm <;> first | omega | assumption | decide | (simp_all; done))
     | (rw [zX, if_pos (by omega)]; done)
     | (rw [zX, if_neg (by omega), hg, z6 (Nat.le_refl _)]; rfl)
     | (rw [zX, if_neg (by omega), hg, zad, if_pos (by simp_all)]; done)
     | (rw [zX, if_neg (by omega), hg, zad, if_neg (by simp_all), if_pos (by simp_all)]; done)
     | (rw [zX, if_neg (by omega), hg, zad, if_neg (by simp_all), if_neg (by simp_all), if_pos (by rw [zaH, if_pos (by omega)]; decide), zaH, if_pos (by omega)]; done)
    ·try simp at h6
     refine za7 (fun _ => True) [] mixed ?_
     refine ahp 0 rfl rfl (by kernel_rfl) (by kernel_rfl) (zd rfl) ?_
     refine ahp 1 rfl rfl (by kernel_rfl) (by kernel_rfl) (zax rfl rfl) ?_
     refine ahp 2 rfl rfl (by kernel_rfl) (by kernel_rfl) (zd rfl) ?_
     refine ahg 3 rfl rfl (by kernel_rfl) (by kernel_rfl) rfl (fun hc => ⟨_, OpenTo.refl _, zg zU rfl ty9 (by decide) rfl⟩) ?_
     refine ahg 4 rfl rfl (by kernel_rfl) (by kernel_rfl) rfl (fun hc => ⟨_, OpenTo.upd (t := 29) rfl (by first | exact hc | simp_all) (OpenTo.refl _), zi ty9 rfl rfl rfl⟩) ?_
     refine ahg 5 rfl rfl (by kernel_rfl) (by kernel_rfl) rfl (fun hc => ⟨_, OpenTo.refl _, zd rfl⟩) ?_
     refine ahg 6 rfl rfl (by kernel_rfl) (by kernel_rfl) rfl (fun hc => ⟨_, OpenTo.refl _, zd rfl⟩) ?_
     refine ahg 7 rfl rfl (by kernel_rfl) (by kernel_rfl) rfl (fun hc => by have hq := hc; (try simp at hq); exact ⟨_, OpenTo.upd (t := 32) rfl (by first | exact hc | simp_all) (OpenTo.refl _), zay rfl rfl (by omega) (by omega)⟩) ?_
     refine ahg 8 rfl rfl (by kernel_rfl) (by kernel_rfl) rfl (fun hc => by have hq := hc; (try simp at hq); exact ⟨_, OpenTo.upd (t := 33) rfl (by first | exact hc | simp_all) (OpenTo.upd (t := 31) rfl (by first | exact hc | simp_all) (OpenTo.refl _)), zH (j := k - 1) (a := w.getD (k - 1) zbQ) zaP zU rfl rfl (by omega) (getD_some (by omega))⟩) ?_
     refine ahg 9 rfl rfl (by kernel_rfl) (by kernel_rfl) rfl (fun hc => ⟨_, OpenTo.upd (t := 34) rfl (by first | exact hc | simp_all) (OpenTo.refl _), zg zU rfl ty9 (by decide) rfl⟩) ?_
     refine ahg 10 rfl rfl (by kernel_rfl) (by kernel_rfl) rfl (fun hc => ⟨_, OpenTo.upd (t := 35) rfl (by first | exact hc | simp_all) (OpenTo.refl _), zi ty9 rfl rfl rfl⟩) ?_
     refine ahg 11 rfl rfl (by kernel_rfl) (by kernel_rfl) rfl (fun hc => ⟨_, OpenTo.upd (t := 36) rfl (by first | exact hc | simp_all) (OpenTo.upd (t := 30) rfl (by first | exact hc | simp_all) (OpenTo.refl _)), zdp rfl rfl⟩) ?_
     refine ahp 12 rfl rfl (by kernel_rfl) (by kernel_rfl) (zL rfl (.inr ⟨_, rfl, fun h => by simp_all⟩) (.inl rfl)) ?_
     refine ahp 13 rfl rfl (by kernel_rfl) (by kernel_rfl) (zaK rfl) ?_
     refine ahz (by kernel_rfl) ?_
     refine zj rfl (fun h7 => ?_) (fun h8 => ?_)
     ·try simp at h7
      refine zb ?_
      refine das rfl ?_
      refine dn ?_
      refine zo ?_
      refine zC rfl ?_
      show HVal.int .i64 _ = _
      first
      | (refine congrArg _ (zbo (e := 8) ?_ hg ?_ ?_ (zh4 ?_ hj2 ?_) ?_).symm <;> first | omega | assumption | decide | (simp_all; done))
      | (refine congrArg _ (zbo (e := 6) ?_ hg ?_ ?_ (zhK ?_ hj2 ?_ ?_) ?_).symm <;> first | omega | assumption | decide | (simp_all; done))
      | (refine congrArg _ (zbo (e := 16) ?_ hg ?_ ?_ (zf9 ?_ hj2 ?_ ?_ ?_) ?_).symm <;> first | omega | assumption | decide | (simp_all; done))
      | (rw [zX, if_pos (by omega)]; done)
      | (rw [zX, if_neg (by omega), hg, z6 (Nat.le_refl _)]; rfl)
      | (rw [zX, if_neg (by omega), hg, zad, if_pos (by simp_all)]; done)
      | (rw [zX, if_neg (by omega), hg, zad, if_neg (by simp_all), if_pos (by simp_all)]; done)
      | (rw [zX, if_neg (by omega), hg, zad, if_neg (by simp_all), if_neg (by simp_all), if_pos (by rw [zaH, if_pos (by omega)]; decide), zaH, if_pos (by omega)]; done)
     ·try simp at h8
      refine zb ?_
      refine dq (zg zU rfl zF (by decide) rfl) ?_
      refine dq (zi zF rfl rfl rfl) ?_
      refine dq (zB zF rfl) ?_
      refine dq (zax rfl rfl) ?_
      refine das rfl ?_
      refine dn ?_
      refine zj rfl (fun h9 => ?_) (fun h10 => ?_)
      ·try simp at h9
       refine zb ?_
       refine das rfl ?_
       refine dn ?_
       refine zo ?_
       refine zC rfl ?_
       show HVal.int .i64 _ = _
       first
       | (refine congrArg _ (zbo (e := 8) ?_ hg ?_ ?_ (zh4 ?_ hj2 ?_) ?_).symm <;> first | omega | assumption | decide | (simp_all; done))
       | (refine congrArg _ (zbo (e := 6) ?_ hg ?_ ?_ (zhK ?_ hj2 ?_ ?_) ?_).symm <;> first | omega | assumption | decide | (simp_all; done))
       | (refine congrArg _ (zbo (e := 16) ?_ hg ?_ ?_ (zf9 ?_ hj2 ?_ ?_ ?_) ?_).symm <;> first | omega | assumption | decide | (simp_all; done))
       | (rw [zX, if_pos (by omega)]; done)
       | (rw [zX, if_neg (by omega), hg, z6 (Nat.le_refl _)]; rfl)
       | (rw [zX, if_neg (by omega), hg, zad, if_pos (by simp_all)]; done)
       | (rw [zX, if_neg (by omega), hg, zad, if_neg (by simp_all), if_pos (by simp_all)]; done)
       | (rw [zX, if_neg (by omega), hg, zad, if_neg (by simp_all), if_neg (by simp_all), if_pos (by rw [zaH, if_pos (by omega)]; decide), zaH, if_pos (by omega)]; done)
      ·try simp at h10
       refine zk ?_
       refine zz ?_
       refine ze ?_
       refine zb ?_
       refine dq (zg zU rfl zF (by decide) rfl) ?_
       refine dq (zi zF rfl rfl rfl) ?_
       refine dq (zB zF rfl) ?_
       refine dmv rfl ?_
       refine dn ?_
       refine zm ?_
       refine z8 [4, 7, 8, 47, 48, 49, 50, 51, 52, 53, 54, 55, 56, 57, 58, 59, 60, 61, 62, 63, 64, 65, 66, 67, 68, 69, 70, 71, 72, 73] (fun (j : Nat) => [(47, .int .i64 j)]) (fun (j : Nat) => []) (fun (j : Nat) => j ≤ x.For.length ∧ (zaY o x 0 x.For = zaY o x j (x.For.drop j))) (fun (j : Nat) => x.For.length - j) (0) ?_ ?_ ?_ ?_
       ·exact ⟨Nat.zero_le _, rfl⟩
       ·exact ⟨rfl, trivial⟩
       ·exact List.Perm.refl _
       ·intro j hinv
        obtain ⟨hj, hj2⟩ := hinv
        refine zb ?_
        refine dq (zJ rfl rfl) ?_
        refine dn ?_
        refine zf ?_
        refine zj rfl (fun h11 => ?_) (fun h12 => ?_)
        ·try simp at h11
         obtain ⟨y, hy⟩ : ∃ y, x.For[j]? = some y := ⟨_, List.getElem?_eq_getElem h11⟩
         have hdy := zK hy
         rw [hdy] at hj2
         refine zk ?_
         refine ze ?_
         refine zf ?_
         refine zm ?_
         refine zb ?_
         refine dmv rfl ?_
         refine dq (zH zF ty9 rfl rfl rfl (by first | assumption | simp_all)) ?_
         refine dq (zi ty9 rfl rfl rfl) ?_
         refine das rfl ?_
         refine das rfl ?_
         refine dn ?_
         refine zm ?_
         refine zb ?_
         refine dmv rfl ?_
         refine dmv rfl ?_
         refine dq (zw zkq rfl (WeakL.refl _) (zbM ho)) ?_
         refine dq (zbb rfl rfl) ?_
         refine das rfl ?_
         refine dn ?_
         refine zj rfl (fun h13 => ?_) (fun h14 => ?_)
         ·try simp at h13
          refine zb ?_
          refine das rfl ?_
          refine dn ?_
          refine zo ?_
          refine zC rfl ?_
          show HVal.int .i64 _ = _
          first
          | (refine congrArg _ (zbo (e := 8) ?_ hg ?_ ?_ (zh4 ?_ hj2 ?_) ?_).symm <;> first | omega | assumption | decide | (simp_all; done))
          | (refine congrArg _ (zbo (e := 6) ?_ hg ?_ ?_ (zhK ?_ hj2 ?_ ?_) ?_).symm <;> first | omega | assumption | decide | (simp_all; done))
          | (refine congrArg _ (zbo (e := 16) ?_ hg ?_ ?_ (zf9 ?_ hj2 ?_ ?_ ?_) ?_).symm <;> first | omega | assumption | decide | (simp_all; done))
          | (rw [zX, if_pos (by omega)]; done)
          | (rw [zX, if_neg (by omega), hg, z6 (Nat.le_refl _)]; rfl)
          | (rw [zX, if_neg (by omega), hg, zad, if_pos (by simp_all)]; done)
          | (rw [zX, if_neg (by omega), hg, zad, if_neg (by simp_all), if_pos (by simp_all)]; done)
          | (rw [zX, if_neg (by omega), hg, zad, if_neg (by simp_all), if_neg (by simp_all), if_pos (by rw [zaH, if_pos (by omega)]; decide), zaH, if_pos (by omega)]; done)
         ·try simp at h14
          refine zb ?_
          refine dq (zg zU rfl zF (by decide) rfl) ?_
          refine dq (zi zF rfl rfl rfl) ?_
          refine dmv rfl ?_
          refine dq (zfr zF ty9 rfl rfl ⟨_, _, rfl, rfl⟩ (by omega) (by omega)) ?_
          refine dmv rfl ?_
          refine dq (zw zl4 rfl (WeakL.refl _) (zaW (l := x.For.take j) (s := y) (by rw [List.length_take]; omega))) ?_
          refine das rfl ?_
          refine dn ?_
          refine zj rfl (fun h15 => ?_) (fun h16 => ?_)
          ·try simp at h15
           refine zb ?_
           refine das rfl ?_
           refine dn ?_
           refine zo ?_
           refine zC rfl ?_
           show HVal.int .i64 _ = _
           first
           | (refine congrArg _ (zbo (e := 8) ?_ hg ?_ ?_ (zh4 ?_ hj2 ?_) ?_).symm <;> first | omega | assumption | decide | (simp_all; done))
           | (refine congrArg _ (zbo (e := 6) ?_ hg ?_ ?_ (zhK ?_ hj2 ?_ ?_) ?_).symm <;> first | omega | assumption | decide | (simp_all; done))
           | (refine congrArg _ (zbo (e := 16) ?_ hg ?_ ?_ (zf9 ?_ hj2 ?_ ?_ ?_) ?_).symm <;> first | omega | assumption | decide | (simp_all; done))
           | (rw [zX, if_pos (by omega)]; done)
           | (rw [zX, if_neg (by omega), hg, z6 (Nat.le_refl _)]; rfl)
           | (rw [zX, if_neg (by omega), hg, zad, if_pos (by simp_all)]; done)
           | (rw [zX, if_neg (by omega), hg, zad, if_neg (by simp_all), if_pos (by simp_all)]; done)
           | (rw [zX, if_neg (by omega), hg, zad, if_neg (by simp_all), if_neg (by simp_all), if_pos (by rw [zaH, if_pos (by omega)]; decide), zaH, if_pos (by omega)]; done)
          ·try simp at h16
           refine za7 (fun _ => True) [] mixed ?_
           refine ahp 0 rfl rfl (by kernel_rfl) (by kernel_rfl) (zd rfl) ?_
           refine ahp 1 rfl rfl (by kernel_rfl) (by kernel_rfl) (zd rfl) ?_
           refine ahp 2 rfl rfl (by kernel_rfl) (by kernel_rfl) (zw zkq rfl (WeakL.refl _) (zbM ho)) ?_
           refine ahp 3 rfl rfl (by kernel_rfl) (by kernel_rfl) (zd rfl) ?_
           refine ahp 4 rfl rfl (by kernel_rfl) (by kernel_rfl) (zg zU rfl ty9 (by decide) rfl) ?_
           refine ahp 5 rfl rfl (by kernel_rfl) (by kernel_rfl) (zi ty9 rfl rfl rfl) ?_
           refine ahp 6 rfl rfl (by kernel_rfl) (by kernel_rfl) (zw zkq rfl (WeakL.refl _) (zbM ho)) ?_
           refine ahp 7 rfl rfl (by kernel_rfl) (by kernel_rfl) (zbb rfl rfl) ?_
           refine ahp 8 rfl rfl (by kernel_rfl) (by kernel_rfl) (zaK rfl) ?_
           refine ahz (by kernel_rfl) ?_
           refine zj rfl (fun h17 => ?_) (fun h18 => ?_)
           ·try simp at h17
            refine zb ?_
            refine das rfl ?_
            refine dn ?_
            refine zo ?_
            refine zC rfl ?_
            show HVal.int .i64 _ = _
            first
            | (refine congrArg _ (zbo (e := 8) ?_ hg ?_ ?_ (zh4 ?_ hj2 ?_) ?_).symm <;> first | omega | assumption | decide | (simp_all; done))
            | (refine congrArg _ (zbo (e := 6) ?_ hg ?_ ?_ (zhK ?_ hj2 ?_ ?_) ?_).symm <;> first | omega | assumption | decide | (simp_all; done))
            | (refine congrArg _ (zbo (e := 16) ?_ hg ?_ ?_ (zf9 ?_ hj2 ?_ ?_ ?_) ?_).symm <;> first | omega | assumption | decide | (simp_all; done))
            | (rw [zX, if_pos (by omega)]; done)
            | (rw [zX, if_neg (by omega), hg, z6 (Nat.le_refl _)]; rfl)
            | (rw [zX, if_neg (by omega), hg, zad, if_pos (by simp_all)]; done)
            | (rw [zX, if_neg (by omega), hg, zad, if_neg (by simp_all), if_pos (by simp_all)]; done)
            | (rw [zX, if_neg (by omega), hg, zad, if_neg (by simp_all), if_neg (by simp_all), if_pos (by rw [zaH, if_pos (by omega)]; decide), zaH, if_pos (by omega)]; done)
           ·try simp at h18
            refine zk ?_
            refine zz ?_
            refine zz ?_
            refine ze ?_
            refine zy ?_
            refine dq (zv rfl rfl (by omega) (by omega)) ?_
            refine dmv rfl ?_
            refine dn ?_
            refine ⟨j + 1, ?_, ?_, ⟨rfl, trivial⟩, (by repeat (first | exact zp | refine zu rfl ?_ | refine zq rfl rfl ?_)), List.Perm.refl _⟩
            ·refine ⟨by omega, ?_⟩
             rw [hj2, zjQ (by simp_all) (by simp_all) (by simp_all)]
            ·dsimp only; omega
        ·try simp at h12
         have hnj : x.For.length ≤ j := by omega
         obtain rfl : j = x.For.length := by omega
         refine zN ?_
         refine zS ?_
         refine zag ?_
         refine zE ?_
         refine zz ?_
         refine ze ?_
         refine zy ?_
         refine dq (zv rfl rfl (by omega) (by omega)) ?_
         refine dmv rfl ?_
         refine dn ?_
         refine ⟨k + 1, ?_, ?_, ⟨rfl, trivial⟩, (by repeat (first | exact zp | refine zu rfl ?_ | refine zq rfl rfl ?_)), List.Perm.refl _⟩
         ·refine ⟨by omega, ?_⟩
          rw [hg, zad, if_neg (by simp_all), if_neg (by simp_all), if_neg (by rw [zaH, if_neg (by omega), hj2, z6 (Nat.le_refl _)]; simp [zaY])]
         ·dsimp only; omega
   ·try simp at h4
    have hnk : w.length ≤ k := by omega
    obtain rfl : k = w.length := by omega
    refine zN ?_
    refine zS ?_
    refine zag ?_
    refine zE ?_
    refine ze ?_
    refine zb ?_
    refine das rfl ?_
    refine dn ?_
    refine zo ?_
    refine zC rfl ?_
    show HVal.int .i64 _ = _
    first
    | (refine congrArg _ (zbo (e := 8) ?_ hg ?_ ?_ (zh4 ?_ hj2 ?_) ?_).symm <;> first | omega | assumption | decide | (simp_all; done))
    | (refine congrArg _ (zbo (e := 6) ?_ hg ?_ ?_ (zhK ?_ hj2 ?_ ?_) ?_).symm <;> first | omega | assumption | decide | (simp_all; done))
    | (refine congrArg _ (zbo (e := 16) ?_ hg ?_ ?_ (zf9 ?_ hj2 ?_ ?_ ?_) ?_).symm <;> first | omega | assumption | decide | (simp_all; done))
    | (rw [zX, if_pos (by omega)]; done)
    | (rw [zX, if_neg (by omega), hg, z6 (Nat.le_refl _)]; rfl)
    | (rw [zX, if_neg (by omega), hg, zad, if_pos (by simp_all)]; done)
    | (rw [zX, if_neg (by omega), hg, zad, if_neg (by simp_all), if_pos (by simp_all)]; done)
    | (rw [zX, if_neg (by omega), hg, zad, if_neg (by simp_all), if_neg (by simp_all), if_pos (by rw [zaH, if_pos (by omega)]; decide), zaH, if_pos (by omega)]; done)

/-- slices.BinarySearchFunc[[]benchwarmer/api.Wants,benchwarmer/api.Wants,string] -/
theorem zes [Tracks] {l : List WantS} {s : Str} {fid : FuncId} (hca : Callable Tryz.prog fid) (hp : ∀ x : WantS, zaa Tryz.prog fid [zb7 x, .str s] (.int .i64 (za2 x.Player s))) (hl : l.length ≤ 1000000) (hs : SortedS (l.map (·.Player))) : zaa Tryz.prog 82 [za1 l, .str s, .fn (.func fid) [] []] (.tup [.int .i64 (zcw (l.map (·.Player)) s), .bool ((l.map (·.Player)).contains s)]) := by
 have hLl : (l.map (·.Player)).length = l.length := List.length_map _
 refine Con.of_body Tryz.func82 rfl Tryz.ntmps82 rfl rfl ?_
 refine zb ?_
 refine das rfl ?_
 refine das rfl ?_
 refine dn ?_
 refine zb ?_
 refine dmv rfl ?_
 refine dq (zB zaP rfl) ?_
 refine das rfl ?_
 refine dn ?_
 refine zb ?_
 refine dmv rfl ?_
 refine das rfl ?_
 refine das rfl ?_
 refine dn ?_
 refine zf ?_
 refine zm ?_
 refine zbf [9, 10, 11, 15, 16, 17, 18, 19, 20, 21, 22, 23, 24, 25, 26, 27, 28, 29, 30, 31, 32, 33, 34] (fun (i : Nat) (j : Nat) => [(9, .int .i64 i), (10, .int .i64 j)]) (fun (i : Nat) (j : Nat) => []) (fun (i : Nat) (j : Nat) => i ≤ j ∧ j ≤ (l.map (·.Player)).length ∧ (∀ (k : Nat) (x : Str), k < i → (l.map (·.Player))[k]? = some x → Op.bytesLess x s = true) ∧ (∀ (k : Nat) (x : Str), j ≤ k → (l.map (·.Player))[k]? = some x → Op.bytesLess x s = false)) (fun (i : Nat) (j : Nat) => j - i) (0) (l.length) ?_ ?_ ?_ ?_
 ·exact ⟨Nat.zero_le _, by rw [hLl]; exact Nat.le_refl _, fun k x h => by omega, fun k x h1 h2 => by have := zD h2; omega⟩
 ·exact ⟨rfl, rfl, trivial⟩
 ·exact List.Perm.refl _
 ·intro i j hinv
  obtain ⟨hij, hjl, ha, hb⟩ := hinv
  rw [hLl] at hjl
  refine zf ?_
  refine zb ?_
  refine dmv rfl ?_
  refine dmv rfl ?_
  refine dq (zJ rfl rfl) ?_
  refine dn ?_
  refine zj rfl (fun h1 => ?_) (fun h2 => ?_)
  ·try simp at h1
   obtain ⟨x, hx⟩ : ∃ x, l[(i + j) / 2]? = some x := ⟨_, List.getElem?_eq_getElem (by omega)⟩
   have hxL : (l.map (·.Player))[(i + j) / 2]? = some x.Player := by rw [List.getElem?_map, hx]; rfl
   have hm : (i + j) / 2 < j ∧ i ≤ (i + j) / 2 := by omega
   refine zk ?_
   refine ze ?_
   refine zm ?_
   refine zb ?_
   refine dmv rfl ?_
   refine dmv rfl ?_
   refine dq (zv rfl rfl (by omega) (by omega)) ?_
   refine dq (zbK ty3 zeB rfl) ?_
   refine dq (zgz rfl rfl (by omega)) ?_
   refine dq (zcZ (zbK zeB ty3 rfl) (zmy (i := i) (j := j) (by omega))) ?_
   refine das rfl ?_
   refine dn ?_
   refine zb ?_
   refine dmv rfl ?_
   refine dmv rfl ?_
   refine dmv rfl ?_
   refine dq (zH (j := (i + j) / 2) (a := x) zaP zU rfl rfl rfl hx) ?_
   refine dq (zY zU rfl rfl rfl rfl) ?_
   refine dmv rfl ?_
   refine dq (zci hca rfl rfl (WeakL.refl _) (hp _)) ?_
   refine dq (zJ rfl rfl) ?_
   refine dn ?_
   refine zj rfl (fun h3 => ?_) (fun h4 => ?_)
   ·try simp at h3
    refine zy ?_
    refine dmv rfl ?_
    refine dq (zv rfl rfl (by omega) (by omega)) ?_
    refine das rfl ?_
    refine dn ?_
    refine zz ?_
    exact ⟨(i + j) / 2 + 1, j, ⟨by omega, by rw [hLl]; exact hjl, zop hs hxL (zfy.1 h3), hb⟩, by dsimp only; omega, ⟨rfl, rfl, trivial⟩, (by repeat (first | exact zp | refine zu rfl ?_ | refine zq rfl rfl ?_)), List.Perm.refl _⟩
   ·try simp at h4
    refine zy ?_
    refine dmv rfl ?_
    refine das rfl ?_
    refine dn ?_
    refine zz ?_
    exact ⟨i, (i + j) / 2, ⟨by omega, by omega, ha, znG hs hxL (by have q := fun e => (show ¬ za2 x.Player s < 0 by omega) (zfy.2 e); simpa using q)⟩, by dsimp only; omega, ⟨rfl, rfl, trivial⟩, (by repeat (first | exact zp | refine zu rfl ?_ | refine zq rfl rfl ?_)), List.Perm.refl _⟩
  ·try simp at h2
   obtain rfl : i = j := by omega
   have hjl2 : i ≤ (l.map (·.Player)).length := by rw [hLl]; exact hjl
   refine zN ?_
   refine zS ?_
   refine zbr ?_
   refine zE ?_
   refine ze ?_
   refine zb ?_
   refine dmv rfl ?_
   refine dmv rfl ?_
   refine dmv rfl ?_
   refine dq (zJ rfl rfl) ?_
   refine dmv rfl ?_
   refine dg rfl rfl (fun hc => ⟨_, OpenTo.refl _, zd rfl⟩) ?_
   refine dg rfl rfl (fun hc => ⟨_, OpenTo.refl _, zd rfl⟩) ?_
   refine dg rfl rfl (fun hc => ⟨_, OpenTo.refl _, zd rfl⟩) ?_
   refine dg rfl rfl (fun hc => by have hq := hc; (try simp at hq); exact ⟨_, OpenTo.upd (t := 42) rfl (by first | exact hc | simp_all) (OpenTo.upd (t := 41) rfl (by first | exact hc | simp_all) (OpenTo.refl _)), zH (j := i) (a := l.getD i zbQ) zaP zU rfl rfl rfl (getD_some (by omega))⟩) ?_
   refine dg rfl rfl (fun hc => ⟨_, OpenTo.upd (t := 43) rfl (by first | exact hc | simp_all) (OpenTo.refl _), zY zU rfl rfl rfl rfl⟩) ?_
   refine dg rfl rfl (fun hc => ⟨_, OpenTo.refl _, zd rfl⟩) ?_
   refine dg rfl rfl (fun hc => ⟨_, OpenTo.upd (t := 45) rfl (by first | exact hc | simp_all) (OpenTo.upd (t := 44) rfl (by first | exact hc | simp_all) (OpenTo.upd (t := 40) rfl (by first | exact hc | simp_all) (OpenTo.refl _))), zci hca rfl rfl (WeakL.refl _) (hp _)⟩) ?_
   refine dg rfl rfl (fun hc => ⟨_, OpenTo.upd (t := 46) rfl (by first | exact hc | simp_all) (OpenTo.refl _), zaJ rfl rfl⟩) ?_
   refine dq (zL rfl (.inr ⟨_, rfl, fun h => by simp_all⟩) (.inl rfl)) ?_
   refine das rfl ?_
   refine das rfl ?_
   refine dn ?_
   refine zo ?_
   refine zC rfl ?_
   rw [zik hjl2 ha hb, ← zi0 hs hjl2 ha hb, ← zpq]

/-- benchwarmer/trade.find$1 -/
theorem zkj [Tracks] {x : WantS} {s : Str}  : zaa Tryz.prog 83 [zb7 x, .str s] (.int .i64 (za2 x.Player s)) := by
 refine Con.of_body Tryz.func83 rfl Tryz.ntmps83 rfl rfl ?_
 refine zb ?_
 refine dq (zaL rfl rfl) ?_
 refine das rfl ?_
 refine dn ?_
 refine zb ?_
 refine dq (zg zU rfl ty9 (by decide) rfl) ?_
 refine dq (zi ty9 rfl rfl rfl) ?_
 refine dmv rfl ?_
 refine dq (zw znM rfl (WeakL.refl _) zcQ) ?_
 refine das rfl ?_
 refine dn ?_
 refine zo ?_
 refine zC rfl ?_
 rfl

/-- benchwarmer/trade.find -/
theorem zhs [Tracks] {w : List WantS} {s : Str} (hw : w.length ≤ 1000000) (hs : SortedS (w.map (·.Player))) : zaa Tryz.prog 51 [za1 w, .str s] (.int .i64 (zba w s)) := by
 refine Con.of_body Tryz.func51 rfl Tryz.ntmps51 rfl rfl ?_
 refine zb ?_
 refine das rfl ?_
 refine dn ?_
 refine zb ?_
 refine dmv rfl ?_
 refine dmv rfl ?_
 refine dq (zw ca82 rfl (WeakL.refl _) (zes (l := w) ca83 (fun _ => zkj) hw hs)) ?_
 refine dmv rfl ?_
 refine dq (zan rfl rfl) ?_
 refine dq (zan rfl rfl) ?_
 refine das rfl ?_
 refine das rfl ?_
 refine dn ?_
 refine zf ?_
 refine zb ?_
 refine dmv rfl ?_
 refine dq (zaw rfl) ?_
 refine dn ?_
 refine zj rfl (fun h1 => ?_) (fun h2 => ?_)
 ·try simp at h1
  refine zb ?_
  refine das rfl ?_
  refine dn ?_
  refine zo ?_
  refine zC rfl ?_
  show HVal.int .i64 _ = _
  rw [zba]
  first | (rw [if_pos (by simpa using h2)]; done) | (rw [if_neg (by simpa using h1)]; done)
 ·try simp at h2
  refine zk ?_
  refine ze ?_
  refine zb ?_
  refine dmv rfl ?_
  refine das rfl ?_
  refine dn ?_
  refine zo ?_
  refine zC rfl ?_
  show HVal.int .i64 _ = _
  rw [zba]
  first | (rw [if_pos (by simpa using h2)]; done) | (rw [if_neg (by simpa using h1)]; done)
end
end Go.Proofs.YtcihcbnjfclkbaaGreatDoor
namespace Go.HL
section
/-! sets of numbers as bits -/
def zaV : List Nat → Nat
 | [] => 0
 | k :: p => zaV p ||| 2 ^ k
theorem zeS (k : Nat) : ∀ p : List Nat, (zaV p).testBit k = decide (k ∈ p)
 | [] => by simp [zaV]
 | j :: p => by
   rw [zaV, Nat.testBit_or, zeS k p, Nat.testBit_two_pow]
   by_cases h : j = k <;> by_cases h2 : k ∈ p <;> simp [h, h2, eq_comm]
   exact fun e => h e.symm
theorem zjk {n : Nat} : ∀ {p : List Nat}, (∀ k ∈ p, k < n) → zaV p < 2 ^ n
 | [], _ => by simp [zaV]; exact Nat.two_pow_pos n
 | k :: p, h => by
   rw [zaV]
   exact Nat.or_lt_two_pow (zjk fun j hj => h j (List.mem_cons_of_mem _ hj)) (Nat.pow_lt_pow_right (by omega) (h k (by simp)))
theorem zrr {p q : List Nat} (h : ∀ k, k ∈ p ↔ k ∈ q) : zaV p = zaV q := by
 refine Nat.eq_of_testBit_eq fun i => ?_
 rw [zeS, zeS, decide_eq_decide]; exact h i
theorem zf4 (p : List Nat) (k : Nat) : zaV (p ++ [k]) = zaV p ||| 2 ^ k := by
 rw [show zaV p ||| 2 ^ k = zaV (k :: p) from rfl]
 exact zrr fun j => by simp [or_comm]
theorem zpX {n : Nat} {p : List Nat} (h : ∀ k, k ∈ p ↔ k < n) : zaV p = 2 ^ n - 1 := by
 refine Nat.eq_of_testBit_eq fun i => ?_
 rw [zeS, Nat.testBit_two_pow_sub_one, decide_eq_decide]; exact h i
/-! the table -/
abbrev za9 : Int := -1000
def zbj (best : List Int) (ok : Bool) (s k : Nat) (more : Int) (nx : List Int) : List Int :=
 if s.testBit k = false ∧ ok = true then nx.set (s ||| 2 ^ k) (max (nx.getD (s ||| 2 ^ k) 0) (best.getD s 0 + more)) else nx
def zb5 (al : Nat → Nat → Bool) (cs : List Nat) (i : Nat) (best : List Int) (nx : List Int) (s : Nat) : List Int :=
 if best.getD s 0 = za9 then nx else cs.foldl (fun nx k => zbj best (al i k) s k 1 nx) (zbj best (al i i) s i 0 nx)
def zgU (al : Nat → Nat → Bool) (cs : List Nat) (i : Nat) (best : List Int) : List Int :=
 (List.range best.length).foldl (zb5 al cs i best) (List.replicate best.length za9)
def za4 (al : Nat → Nat → Bool) (can : List (List Nat)) (fr : Nat) (best : List Int) : Nat → List Int
 | 0 => best
 | m + 1 => zgU al (can.getD (fr + m) []) (fr + m) (za4 al can fr best m)
def zaM (n got : Nat) : List Int := (List.replicate (2 ^ n) za9).set got 0
def zbJ (al : Nat → Nat → Bool) (can : List (List Nat)) (fr got : Nat) : Int := (za4 al can fr (zaM can.length got) (can.length - fr)).getD (2 ^ can.length - 1) 0
/-! lengths -/
theorem zdy {best nx : List Int} {ok : Bool} {s k : Nat} {m : Int} : (zbj best ok s k m nx).length = nx.length := by
 unfold zbj; split <;> simp
theorem zfk {al : Nat → Nat → Bool} {i s : Nat} {best : List Int} : ∀ {cs : List Nat} {nx : List Int}, (cs.foldl (fun nx k => zbj best (al i k) s k 1 nx) nx).length = nx.length
 | [], _ => rfl
 | k :: t, nx => by rw [List.foldl_cons, zfk, zdy]
theorem zmn {al : Nat → Nat → Bool} {cs : List Nat} {i s : Nat} {best nx : List Int} : (zb5 al cs i best nx s).length = nx.length := by
 unfold zb5; split
 ·rfl
 ·rw [zfk, zdy]
theorem zf6 {al : Nat → Nat → Bool} {cs : List Nat} {i : Nat} {best : List Int} : ∀ {ss : List Nat} {nx : List Int}, (ss.foldl (zb5 al cs i best) nx).length = nx.length
 | [], _ => rfl
 | k :: t, nx => by rw [List.foldl_cons, zf6, zmn]
theorem zlr {al : Nat → Nat → Bool} {cs : List Nat} {i : Nat} {best : List Int} : (zgU al cs i best).length = best.length := by
 unfold zgU; rw [zf6, List.length_replicate]
theorem zi3 {al : Nat → Nat → Bool} {can : List (List Nat)} {fr : Nat} {best : List Int} : ∀ m, (za4 al can fr best m).length = best.length
 | 0 => rfl
 | m + 1 => by rw [za4, zlr, zi3]
/-! ways to go on -/
inductive WayB (al : Nat → Nat → Bool) (can : List (List Nat)) (fr : Nat) (g : List Nat) : List Nat → Int → Prop
 | nil : WayB al can fr g [] 0
 | snoc {q : List Nat} {c : Int} {k : Nat} (h : WayB al can fr g q c) (hk : k ∈ (fr + q.length) :: can.getD (fr + q.length) []) (ha : al (fr + q.length) k = true) (hn : k ∉ g ++ q) :
    WayB al can fr g (q ++ [k]) (c + if k = fr + q.length then 0 else 1)
theorem WayB.bd {al : Nat → Nat → Bool} {can : List (List Nat)} {fr : Nat} {g q : List Nat} {c : Int} (h : WayB al can fr g q c) : 0 ≤ c ∧ c ≤ q.length := by
 induction h with
 | nil => simp
 | snoc h hk ha hn ih => rw [List.length_append, List.length_singleton]; split <;> omega
/-- All numbers of whom one could get are less than n, and nobody could get themselves. -/
structure CanOk (can : List (List Nat)) : Prop where
 lt : ∀ i, ∀ k ∈ can.getD i [], k < can.length
 ne : ∀ i, i ∉ can.getD i []
 len : can.length ≤ 14
section
variable {al : Nat → Nat → Bool} {can : List (List Nat)} {fr : Nat} {g : List Nat}
theorem zed {l : List Int} {i j : Nat} {a : Int} : (l.set i a).getD j 0 = if i = j ∧ i < l.length then a else l.getD j 0 := by
 rw [List.getD_eq_getElem?_getD, List.getD_eq_getElem?_getD, List.getElem?_set]
 by_cases h : i = j
 ·subst h
  by_cases h2 : i < l.length
  ·simp [h2]
  ·simp [h2, List.getElem?_eq_none (Nat.le_of_not_lt h2)]
 ·simp [h]
theorem znd {best nx : List Int} {ok : Bool} {s k : Nat} {m : Int} (t : Nat) : nx.getD t 0 ≤ (zbj best ok s k m nx).getD t 0 := by
 unfold zbj; split
 ·rw [zed]; split
  ·rename_i h; rw [← h.1]; exact Int.le_max_left _ _
  ·exact Int.le_refl _
 ·exact Int.le_refl _
theorem zgT {i s : Nat} {best : List Int} (t : Nat) : ∀ {cs : List Nat} {nx : List Int}, nx.getD t 0 ≤ (cs.foldl (fun nx k => zbj best (al i k) s k 1 nx) nx).getD t 0
 | [], _ => Int.le_refl _
 | k :: r, nx => by rw [List.foldl_cons]; exact Int.le_trans (znd t) (zgT t)
theorem zro {cs : List Nat} {i s : Nat} {best nx : List Int} (t : Nat) : nx.getD t 0 ≤ (zb5 al cs i best nx s).getD t 0 := by
 unfold zb5; split
 ·exact Int.le_refl _
 ·exact Int.le_trans (znd t) (zgT t)
theorem zm8 {cs : List Nat} {i : Nat} {best : List Int} (t : Nat) : ∀ {ss : List Nat} {nx : List Int}, nx.getD t 0 ≤ (ss.foldl (zb5 al cs i best) nx).getD t 0
 | [], _ => Int.le_refl _
 | k :: r, nx => by rw [List.foldl_cons]; exact Int.le_trans (zro t) (zm8 t)
theorem zl7 {best nx : List Int} {s k : Nat} {m : Int} (h1 : s.testBit k = false) (h2 : s ||| 2 ^ k < nx.length) : best.getD s 0 + m ≤ (zbj best true s k m nx).getD (s ||| 2 ^ k) 0 := by
 unfold zbj; rw [if_pos ⟨h1, rfl⟩, zed, if_pos ⟨rfl, h2⟩]; exact Int.le_max_right _ _
theorem zk6 {i s k : Nat} {best : List Int} (h1 : s.testBit k = false) (ha : al i k = true) : ∀ {cs : List Nat} {nx : List Int}, s ||| 2 ^ k < nx.length → k ∈ cs → best.getD s 0 + 1 ≤ (cs.foldl (fun nx k => zbj best (al i k) s k 1 nx) nx).getD (s ||| 2 ^ k) 0
 | j :: r, nx, h2, hm => by
   rw [List.foldl_cons]
   rcases List.mem_cons.1 hm with rfl | hm
   ·refine Int.le_trans ?_ (zgT _)
    rw [ha]; exact zl7 h1 h2
   ·exact zk6 h1 ha (by rw [zdy]; exact h2) hm
theorem zqZ {cs : List Nat} {i s k : Nat} {best nx : List Int} (hb : best.getD s 0 ≠ za9) (h1 : s.testBit k = false) (ha : al i k = true) (h2 : s ||| 2 ^ k < nx.length) (hk : k ∈ i :: cs) :
 best.getD s 0 + (if k = i then 0 else 1) ≤ (zb5 al cs i best nx s).getD (s ||| 2 ^ k) 0 := by
 unfold zb5; rw [if_neg hb]
 split
 ·rename_i e
  subst e
  refine Int.le_trans ?_ (zgT _)
  rw [ha]; exact zl7 h1 h2
 ·rename_i e
  rcases List.mem_cons.1 hk with h | h
  ·exact absurd h e
  ·exact zk6 h1 ha (by rw [zdy]; exact h2) h
theorem zmG {cs : List Nat} {i s k : Nat} {best : List Int} (hb : best.getD s 0 ≠ za9) (h1 : s.testBit k = false) (ha : al i k = true) (hk : k ∈ i :: cs) : ∀ {ss : List Nat} {nx : List Int}, s ||| 2 ^ k < nx.length → s ∈ ss →
 best.getD s 0 + (if k = i then 0 else 1) ≤ (ss.foldl (zb5 al cs i best) nx).getD (s ||| 2 ^ k) 0
 | j :: r, nx, h2, hm => by
   rw [List.foldl_cons]
   rcases List.mem_cons.1 hm with rfl | hm
   ·exact Int.le_trans (zqZ hb h1 ha h2 hk) (zm8 _)
   ·exact zmG hb h1 ha hk (by rw [zmn]; exact h2) hm
/-- Whatever a table says comes of something. -/
def zfl (S : Nat → Int → Prop) (nx : List Int) : Prop := ∀ t, nx.getD t 0 ≠ za9 → t < nx.length → S t (nx.getD t 0)
theorem zk8 {S : Nat → Int → Prop} {best nx : List Int} {ok : Bool} {s k : Nat} {m : Int} (h : zfl S nx) (hs : s.testBit k = false → ok = true → S (s ||| 2 ^ k) (best.getD s 0 + m)) : zfl S (zbj best ok s k m nx) := by
 intro t ht hl
 rw [zdy] at hl
 unfold zbj at ht ⊢
 split at ht
 ·rename_i hc
  rw [if_pos hc]
  rw [zed] at ht ⊢
  split at ht
  ·rename_i e
   rw [if_pos e]
   obtain ⟨e, hl2⟩ := e
   subst e
   rcases Int.le_total (nx.getD (s ||| 2 ^ k) 0) (best.getD s 0 + m) with q | q
   ·rw [Int.max_eq_right q]; exact hs hc.1 hc.2
   ·rw [Int.max_eq_left q] at ht ⊢; exact h _ ht hl
  ·rename_i e
   rw [if_neg e]; exact h t ht hl
 ·rename_i hc
  rw [if_neg hc]; exact h t ht hl
theorem zjo {S : Nat → Int → Prop} {i s : Nat} {best : List Int} : ∀ {cs : List Nat} {nx : List Int}, zfl S nx → (∀ k ∈ cs, s.testBit k = false → al i k = true → S (s ||| 2 ^ k) (best.getD s 0 + 1)) →
 zfl S (cs.foldl (fun nx k => zbj best (al i k) s k 1 nx) nx)
 | [], _, h, _ => h
 | k :: r, nx, h, hs => by
   rw [List.foldl_cons]
   exact zjo (zk8 h (hs k (by simp))) fun j hj => hs j (List.mem_cons_of_mem _ hj)
theorem zpF {S : Nat → Int → Prop} {cs : List Nat} {i s : Nat} {best nx : List Int} (h : zfl S nx) (hi : i ∉ cs) (hs : best.getD s 0 ≠ za9 → ∀ k ∈ i :: cs, s.testBit k = false → al i k = true → S (s ||| 2 ^ k) (best.getD s 0 + (if k = i then 0 else 1))) : zfl S (zb5 al cs i best nx s) := by
 unfold zb5; split
 ·exact h
 ·rename_i hb
  refine zjo (zk8 h fun h1 h2 => ?_) fun k hk h1 h2 => ?_
  ·have := hs hb i (by simp) h1 h2
   rwa [if_pos rfl] at this
  ·have := hs hb k (List.mem_cons_of_mem _ hk) h1 h2
   rwa [if_neg (fun e : k = i => hi (e ▸ hk))] at this
theorem zld {S : Nat → Int → Prop} {cs : List Nat} {i : Nat} {best : List Int} (hi : i ∉ cs) : ∀ {ss : List Nat} {nx : List Int}, zfl S nx → (∀ s ∈ ss, best.getD s 0 ≠ za9 → ∀ k ∈ i :: cs, s.testBit k = false → al i k = true → S (s ||| 2 ^ k) (best.getD s 0 + (if k = i then 0 else 1))) →
 zfl S (ss.foldl (zb5 al cs i best) nx)
 | [], _, h, _ => h
 | s :: r, nx, h, hs => by
   rw [List.foldl_cons]
   exact zld hi (zpF h hi (hs s (by simp))) fun j hj => hs j (List.mem_cons_of_mem _ hj)
theorem WayB.lt {q : List Nat} {c : Int} (hc : CanOk can) (h : WayB al can fr g q c) (hl : fr + q.length ≤ can.length) : ∀ k ∈ q, k < can.length := by
 induction h with
 | nil => simp
 | snoc h hk ha hn ih =>
   rw [List.length_append, List.length_singleton] at hl
   intro k hm
   rcases List.mem_append.1 hm with hm | hm
   ·exact ih (by omega) k hm
   ·rw [List.mem_singleton.1 hm]
    rcases List.mem_cons.1 hk with e | e
    ·omega
    ·exact hc.lt _ _ e
/-- What the table says after m steps. -/
structure TabB (al : Nat → Nat → Bool) (can : List (List Nat)) (fr : Nat) (g : List Nat) (m : Nat) (best : List Int) : Prop where
 len : best.length = 2 ^ can.length
 frm : zfl (fun s c => ∃ q, WayB al can fr g q c ∧ q.length = m ∧ zaV (g ++ q) = s) best
 all : ∀ q c, WayB al can fr g q c → q.length = m → c ≤ best.getD (zaV (g ++ q)) 0
theorem zna (hc : CanOk can) (hg : ∀ k ∈ g, k < can.length) : ∀ m, fr + m ≤ can.length → TabB al can fr g m (za4 al can fr (zaM can.length (zaV g)) m)
 | 0, _ => by
   have hl := zjk hg
   refine ⟨by rw [za4]; unfold zaM; simp, fun t ht h2 => ?_, fun q c h hq => ?_⟩
   ·rw [za4] at ht ⊢
    unfold zaM at ht h2 ⊢
    rw [zed, List.length_replicate] at *
    split at ht
    ·rename_i e
     rw [if_pos e]
     exact ⟨[], .nil, rfl, by rw [List.append_nil]; exact e.1⟩
    ·exfalso; apply ht
     rw [za4, List.length_set, List.length_replicate] at h2
     simp [h2]
   ·cases h with
    | nil => rw [za4, List.append_nil]; unfold zaM; rw [zed, if_pos ⟨rfl, by simpa using hl⟩]; exact Int.le_refl _
    | snoc => simp at hq
 | m + 1, hm => by
   have ih := zna hc hg m (by omega)
   rw [za4]
   refine ⟨by rw [zlr]; exact ih.len, ?_, fun q c h hq => ?_⟩
   ·unfold zgU
    refine zld (hc.ne _) (fun t ht h2 => ?_) fun s hs hb k hk h1 ha => ?_
    ·exfalso; apply ht
     rw [List.length_replicate] at h2
     simp [h2]
    ·obtain ⟨q, w1, w2, w3⟩ := ih.frm s hb (List.mem_range.1 hs)
     subst w2 w3
     refine ⟨q ++ [k], .snoc w1 hk ha fun hm2 => ?_, by simp, by rw [← List.append_assoc, zf4]⟩
     rw [zeS] at h1
     simp at h1 hm2
     rcases hm2 with e | e
     ·exact h1.1 e
     ·exact h1.2 e
   ·cases h with
    | nil => simp at hq
    | snoc h hk ha hn =>
      rename_i q c k
      rw [List.length_append, List.length_singleton] at hq
      have hq2 : q.length = m := by omega
      subst hq2
      have h1 := ih.all q c h rfl
      have h0 := h.bd
      have hql := h.lt hc (by omega)
      have hkl : k < can.length := by
       rcases List.mem_cons.1 hk with e | e
       ·omega
       ·exact hc.lt _ _ e
      have hsl : zaV (g ++ q) < 2 ^ can.length := zjk fun j hj => (List.mem_append.1 hj).elim (hg j) (hql j)
      have hsl2 : zaV (g ++ q) ||| 2 ^ k < 2 ^ can.length := Nat.or_lt_two_pow hsl (Nat.pow_lt_pow_right (by omega) hkl)
      rw [← List.append_assoc, zf4]
      unfold zgU
      refine Int.le_trans ?_ (zmG (k := k) (s := zaV (g ++ q)) (by have : za9 = -1000 := rfl; omega) (by rw [zeS]; simpa using hn) ha hk (by rw [List.length_replicate, ih.len]; exact hsl2) (List.mem_range.2 (by rw [ih.len]; exact hsl)))
      omega
/-! all together -/
theorem WayB.nodup {q : List Nat} {c : Int} (hg : g.Nodup) (h : WayB al can fr g q c) : (g ++ q).Nodup := by
 induction h with
 | nil => simpa using hg
 | snoc h hk ha hn ih =>
   rw [← List.append_assoc]
   refine List.nodup_append.2 ⟨ih, by simp, fun a ha b hb => ?_⟩
   rw [List.mem_singleton.1 hb]
   exact fun e => hn (e ▸ ha)
theorem zqG {n : Nat} : ∀ {p : List Nat}, p.Nodup → (∀ k ∈ p, k < n) → p.length = n → ∀ k, k ∈ p ↔ k < n := fun {p} hn hl he k => by
 refine ⟨hl k, fun hk => ?_⟩
 refine Classical.byContradiction fun hm => ?_
 have h1 : (k :: p).Nodup := List.nodup_cons.2 ⟨hm, hn⟩
 have h2 : (k :: p).length ≤ (List.range n).length := zgI h1 fun j hj => by
  rcases List.mem_cons.1 hj with rfl | hj
  ·exact List.mem_range.2 hk
  ·exact List.mem_range.2 (hl j hj)
 simp at h2; omega
/-- The number of the best way: it is reached, or there is no way; no way is better. -/
theorem zmO (hc : CanOk can) (hg : ∀ k ∈ g, k < can.length) (hn : g.Nodup) (hl : g.length = fr) (hf : fr ≤ can.length) :
 (zbJ al can fr (zaV g) ≠ za9 → ∃ q, WayB al can fr g q (zbJ al can fr (zaV g)) ∧ fr + q.length = can.length) ∧ ∀ q c, WayB al can fr g q c → fr + q.length = can.length → c ≤ zbJ al can fr (zaV g) := by
 have h := zna (al := al) (fr := fr) hc hg (can.length - fr) (by omega)
 have hp := Nat.two_pow_pos can.length
 refine ⟨fun hb => ?_, fun q c hw hq => ?_⟩
 ·obtain ⟨q, w1, w2, _⟩ := h.frm _ hb (by rw [h.len]; omega)
  exact ⟨q, w1, by omega⟩
 ·have h1 := h.all q c hw (by omega)
  have hfu : zaV (g ++ q) = 2 ^ can.length - 1 := zpX (zqG (hw.nodup hn) (fun k hk => (List.mem_append.1 hk).elim (hg k) (hw.lt hc (by omega) k)) (by rw [List.length_append]; omega))
  rw [hfu] at h1; exact h1
end
end
section
/-- To whom one points who is not gone; -1: to nobody. -/
def zew (w : List WantS) (g : List Bool) : List Str → Int
 | [] => -1
 | s :: t => if 0 ≤ zba w s ∧ g.getD (zba w s).toNat false = false then zba w s else zew w g t
def zbA (w : List WantS) (g : List Bool) (i : Nat) : Int := if g.getD i false = true then -1 else zew w g ((w.getD i zbQ).For)
def zaF (w : List WantS) (g : List Bool) : List Int := (List.range w.length).map (zbA w g)
theorem zbq {w : List WantS} {g : List Bool} : (zaF w g).length = w.length := by unfold zaF; simp
theorem zgL {w : List WantS} {g : List Bool} {i : Nat} (h : i < w.length) : (zaF w g)[i]? = some (zbA w g i) := by
 unfold zaF; rw [List.getElem?_map, List.getElem?_range h]; rfl
theorem zki {w : List WantS} {g : List Bool} (hs : SortedS (w.map (·.Player))) : ∀ {t : List Str}, zew w g t = -1 ∨ ∃ k : Nat, zew w g t = (k : Int) ∧ k < w.length ∧ g.getD k false = false
 | [] => .inl rfl
 | s :: t => by
   rw [zew]
   split
   ·rename_i h
    right
    have := (zmi hs (s := s)).2
    exact ⟨(zba w s).toNat, by omega, by omega, h.2⟩
   ·exact zki hs
/-- All who are not gone point to somebody who is not gone. -/
def zeR (w : List WantS) (g : List Bool) : Prop := ∀ i, i < w.length → g.getD i false = false → 0 ≤ zbA w g i
def SubG (g h : List Bool) : Prop := ∀ i, g.getD i false = true → h.getD i false = true
theorem SubG.refl (g : List Bool) : SubG g g := fun _ h => h
theorem SubG.trans {a b c : List Bool} (h1 : SubG a b) (h2 : SubG b c) : SubG a c := fun i h => h2 i (h1 i h)
theorem zkX {w : List WantS} {g h : List Bool} (hs : SubG g h) : ∀ {t : List Str}, 0 ≤ zew w h t → 0 ≤ zew w g t
 | [], hp => hp
 | s :: t, hp => by
   rw [zew] at hp ⊢
   split at hp
   ·rename_i hc
    have hb : g.getD (zba w s).toNat false = false := by
     cases hb : g.getD (zba w s).toNat false with
     | false => rfl
     | true => have := hs _ hb; rw [hc.2] at this; cases this
    rw [if_pos ⟨hc.1, hb⟩]
    exact hc.1
   ·split
    ·rename_i h; exact h.1
    ·exact zkX hs hp
/-- The least set of those who go, so that all others point to somebody. -/
structure CoreG (w : List WantS) (g G : List Bool) : Prop where
 sub : SubG g G
 len : G.length = w.length
 cl : zeR w G
 least : ∀ H, SubG g H → zeR w H → SubG G H
theorem zma {a b : List Bool} (hl : a.length = b.length) (h : ∀ i, a.getD i false = b.getD i false) : a = b := by
 refine List.ext_getElem? fun i => ?_
 have := h i
 rw [List.getD_eq_getElem?_getD, List.getD_eq_getElem?_getD] at this
 rcases Nat.lt_or_ge i a.length with q | q
 ·rw [List.getElem?_eq_getElem q, List.getElem?_eq_getElem (by omega)] at this ⊢
  simpa using this
 ·rw [List.getElem?_eq_none q, List.getElem?_eq_none (by omega)]
theorem zd3 {w : List WantS} {g G H : List Bool} (h1 : CoreG w g G) (h2 : CoreG w g H) : G = H := by
 refine zma (h1.len.trans h2.len.symm) fun i => ?_
 have a := h1.least H h2.sub h2.cl i
 have b := h2.least G h1.sub h1.cl i
 cases hg : G.getD i false <;> cases hh : H.getD i false <;> simp_all
theorem zgm {w : List WantS} {g : List Bool} (hl : g.length = w.length) (hc : zeR w g) : CoreG w g g := ⟨SubG.refl _, hl, hc, fun _ h _ => h⟩
/-- Who points to nobody may go. -/
theorem zhV {w : List WantS} {g h G : List Bool} (hs : SubG g h) (hd : ∀ i, g.getD i false = false → h.getD i false = true → ∀ H, SubG g H → zeR w H → H.getD i false = true) : CoreG w g G ↔ CoreG w h G := by
 have key : ∀ H, SubG g H → zeR w H → SubG h H := fun H h1 h2 i hi => by
  cases hg : g.getD i false with
  | true => exact h1 i hg
  | false => exact hd i hg hi H h1 h2
 constructor
 ·intro c
  exact ⟨key G c.sub c.cl, c.len, c.cl, fun H h1 h2 => c.least H (hs.trans h1) h2⟩
 ·intro c
  exact ⟨hs.trans c.sub, c.len, c.cl, fun H h1 h2 => c.least H (key H h1 h2) h2⟩
theorem zkg {w : List WantS} {g : List Bool} {i : Nat} (hi : i < w.length) (hg : g.getD i false = false) (hp : zbA w g i < 0) : ∀ H, SubG g H → zeR w H → H.getD i false = true := fun H h1 h2 => by
 refine Classical.byContradiction fun hn => ?_
 have hh : H.getD i false = false := by simpa using hn
 have := h2 i hi hh
 unfold zbA at this hp
 rw [if_neg (by rw [hh]; simp)] at this
 rw [if_neg (by rw [hg]; simp)] at hp
 have := zkX h1 this
 omega
/-! the walk along a ring -/
def zgQ (to : List Int) : Nat → List Int → Int → List Int
 | 0, l, _ => l
 | m + 1, l, k => if l.contains k = true then l else zgQ to m (l ++ [k]) (to.getD k.toNat 0)
def zd9 (to : List Int) (n i : Nat) : List Int := zgQ to n [(i : Int)] (to.getD i 0)
def zd0 (to : List Int) (n i : Nat) : Bool := to.getD ((zd9 to n i).getLastD 0).toNat 0 == (i : Int)
/-- The ring with the least one who is in a ring; none: []. -/
def zcC (to : List Int) (g : List Bool) (n : Nat) : Nat → Nat → List Int
 | _, 0 => []
 | i, m + 1 => if g.getD i false = false ∧ zd0 to n i = true then zd9 to n i else zcC to g n (i + 1) m
def zam (to : List Int) (g : List Bool) (n : Nat) : List Int := zcC to g n 0 n
def zbP (g : List Bool) : List Int → List Bool
 | [] => g
 | k :: t => zbP (g.set k.toNat true) t
def zdx (w : List WantS) (l : List Int) : List Str := l.map fun k => (w.getD k.toNat zbQ).Player
inductive RingsR (w : List WantS) : List Bool → List (List Str) → Prop
 | done {g G : List Bool} (h : CoreG w g G) (h2 : zam (zaF w G) G w.length = []) : RingsR w g []
 | more {g G : List Bool} {out : List (List Str)} (h : CoreG w g G) (h2 : zam (zaF w G) G w.length ≠ []) (h3 : RingsR w (zbP G (zam (zaF w G) G w.length)) out) :
    RingsR w g (zdx w (zam (zaF w G) G w.length) :: out)
theorem zl3 {w : List WantS} {g : List Bool} {a : List (List Str)} (h : RingsR w g a) : ∀ {b : List (List Str)}, RingsR w g b → a = b := by
 induction h with
 | done h h2 =>
   intro b hb
   cases hb with
   | done => rfl
   | more g1 g2 g3 =>
     have := zd3 h g1
     subst this
     exact absurd h2 g2
 | more h h2 h3 ih =>
   intro b hb
   cases hb with
   | done g1 g2 =>
     have := zd3 h g1
     subst this
     exact absurd g2 h2
   | more g1 g2 g3 =>
     have := zd3 h g1
     subst this
     rw [ih g3]
theorem zjJ {w : List WantS} {g h : List Bool} (hc : ∀ G, CoreG w g G ↔ CoreG w h G) {a : List (List Str)} : RingsR w g a ↔ RingsR w h a := by
 constructor
 ·intro r
  cases r with
  | done g1 g2 => exact .done ((hc _).1 g1) g2
  | more g1 g2 g3 => exact .more ((hc _).1 g1) g2 g3
 ·intro r
  cases r with
  | done g1 g2 => exact .done ((hc _).2 g1) g2
  | more g1 g2 g3 => exact .more ((hc _).2 g1) g2 g3
/-- How zfe are not gone. -/
def zaR (g : List Bool) : Nat := g.countP fun b => !b
theorem zfR {g : List Bool} {k : Nat} (hk : g.getD k false = false) (hl : k < g.length) : zaR (g.set k true) < zaR g := by
 unfold zaR
 have e : g = g.take k ++ g[k] :: g.drop (k + 1) := by rw [List.getElem_cons_drop, List.take_append_drop]
 have h0 : g[k] = false := by rw [List.getD_eq_getElem?_getD, List.getElem?_eq_getElem hl] at hk; simpa using hk
 rw [List.set_eq_take_append_cons_drop, if_pos hl]
 conv => rhs; rw [e]
 rw [List.countP_append, List.countP_append, List.countP_cons, List.countP_cons, h0]
 simp
theorem ze0 {g : List Bool} {k : Nat} : zaR (g.set k true) ≤ zaR g := by
 by_cases hl : k < g.length
 ·by_cases hk : g.getD k false = false
  ·exact Nat.le_of_lt (zfR hk hl)
  ·have : g.set k true = g := by
    refine zma (by simp) fun i => ?_
    rw [getD_setG]
    split
    ·rename_i h; rw [← h.1]; simpa using hk
    ·rfl
   rw [this]; exact Nat.le_refl _
 ·rw [List.set_eq_of_length_le (by omega)]; exact Nat.le_refl _
where
 getD_setG {l : List Bool} {i j : Nat} {a : Bool} : (l.set i a).getD j false = if i = j ∧ i < l.length then a else l.getD j false := by
  rw [List.getD_eq_getElem?_getD, List.getD_eq_getElem?_getD, List.getElem?_set]
  by_cases h : i = j
  ·subst h
   by_cases h2 : i < l.length
   ·simp [h2]
   ·simp [h2, List.getElem?_eq_none (Nat.le_of_not_lt h2)]
  ·simp [h]
theorem zeW : ∀ {l : List Int} {g : List Bool}, (zbP g l).length = g.length
 | [], _ => rfl
 | k :: t, g => by rw [zbP, zeW]; simp
theorem zm9 : ∀ {l : List Int} {g : List Bool}, zaR (zbP g l) ≤ zaR g
 | [], _ => Nat.le_refl _
 | k :: t, g => by rw [zbP]; exact Nat.le_trans zm9 ze0
theorem zkR {to : List Int} : ∀ {m : Nat} {l : List Int} {k : Int}, l ≠ [] → (zgQ to m l k).head? = l.head?
 | 0, _, _, _ => rfl
 | m + 1, l, k, h => by
   rw [zgQ]; split
   ·rfl
   ·rw [zkR (by simp)]
    cases l with
    | nil => exact absurd rfl h
    | cons a t => rfl
theorem zou {to : List Int} {n i : Nat} : (zd9 to n i).head? = some (i : Int) := by unfold zd9; rw [zkR (by simp)]; rfl
theorem zfi {to : List Int} {g : List Bool} {n : Nat} : ∀ {m i : Nat}, zcC to g n i m ≠ [] → ∃ j, i ≤ j ∧ j < i + m ∧ g.getD j false = false ∧ zd0 to n j = true ∧ zcC to g n i m = zd9 to n j ∧ ∀ k, i ≤ k → k < j → ¬ (g.getD k false = false ∧ zd0 to n k = true)
 | 0, i, h => absurd rfl h
 | m + 1, i, h => by
   rw [zcC] at h ⊢
   split at h
   ·rename_i hc
    rw [if_pos hc]
    exact ⟨i, Nat.le_refl _, by omega, hc.1, hc.2, rfl, fun k h1 h2 => by omega⟩
   ·rename_i hc
    rw [if_neg hc]
    obtain ⟨j, j1, j2, j3, j4, j5, j6⟩ := zfi (m := m) (i := i + 1) h
    exact ⟨j, by omega, by omega, j3, j4, j5, fun k h1 h2 => by
     rcases Nat.eq_or_lt_of_le h1 with e | e
     ·subst e; exact hc
     ·exact j6 k e h2⟩
theorem zig {w : List WantS} {g : List Bool} (hl : g.length = w.length) {to : List Int} (h : zam to g w.length ≠ []) : zaR (zbP g (zam to g w.length)) < zaR g := by
 obtain ⟨j, _, j2, j3, _, j5, _⟩ := zfi h
 have hh := zou (to := to) (n := w.length) (i := j)
 unfold zam
 rw [j5]
 cases hr : zd9 to w.length j with
 | nil => rw [hr] at hh; cases hh
 | cons a t =>
   rw [hr] at hh
   simp at hh
   subst hh
   rw [zbP]
   exact Nat.lt_of_le_of_lt zm9 (zfR (by simpa using j3) (by simp; omega))
theorem ziC {w : List WantS} : ∀ (n : Nat) (g : List Bool), g.length = w.length → zaR g ≤ n → ∃ G, CoreG w g G
 | n, g, hl, hn => by
   by_cases hc : zeR w g
   ·exact ⟨g, zgm hl hc⟩
   ·obtain ⟨i, h1, h2, h3⟩ : ∃ i, i < w.length ∧ g.getD i false = false ∧ zbA w g i < 0 := by
     refine Classical.byContradiction fun hn => hc fun i h1 h2 => ?_
     refine Classical.byContradiction fun h3 => hn ⟨i, h1, h2, by omega⟩
    have hlt := zfR (g := g) (k := i) h2 (by omega)
    cases n with
    | zero => omega
    | succ n =>
      obtain ⟨G, hG⟩ := ziC n (g.set i true) (by simpa using hl) (by omega)
      refine ⟨G, (zhV (h := g.set i true) (fun j hj => ?_) fun j hg hj H s1 s2 => ?_).2 hG⟩
      ·rw [ze0.getD_setG]; split
       ·rfl
       ·exact hj
      ·rw [ze0.getD_setG] at hj
       split at hj
       ·rename_i e; rw [← e.1]; exact zkg h1 h2 h3 H s1 s2
       ·rw [hg] at hj; cases hj
theorem zfS {w : List WantS} : ∀ (n : Nat) (g : List Bool), g.length = w.length → zaR g ≤ n → ∃ out, RingsR w g out
 | n, g, hl, hn => by
   obtain ⟨G, hG⟩ := ziC n g hl hn
   by_cases h : zam (zaF w G) G w.length = []
   ·exact ⟨[], .done hG h⟩
   ·have h1 := zig hG.len h
    have h2 : zaR G ≤ zaR g := by
     unfold zaR
     have hle : ∀ (a b : List Bool), a.length = b.length → (∀ i, a.getD i false = true → b.getD i false = true) → b.countP (fun b => !b) ≤ a.countP fun b => !b := by
      intro a
      induction a with
      | nil => intro b hb _; simp at hb; rw [List.length_eq_zero_iff.1 hb.symm]; exact Nat.le_refl _
      | cons x a ih =>
        intro b hb hi
        cases b with
        | nil => simp at hb
        | cons y b =>
          have i1 := ih b (by simpa using hb) fun i h => by have := hi (i + 1) (by simpa using h); simpa using this
          have i0 := hi 0
          simp at i0
          rw [List.countP_cons, List.countP_cons]
          cases x <;> cases y <;> simp_all <;> omega
     exact hle g G (by rw [hl, hG.len]) hG.sub
    cases n with
    | zero => omega
    | succ n =>
      obtain ⟨out, ho⟩ := zfS n (zbP G (zam (zaF w G) G w.length)) (by rw [zeW]; exact hG.len) (by omega)
      exact ⟨_, .more hG h ho⟩
/-- The rings of all wants. -/
noncomputable def zd1 (w : List WantS) : List (List Str) := Classical.choose (zfS (w := w) (zaR (List.replicate w.length false)) (List.replicate w.length false) (by simp) (Nat.le_refl _))
theorem znc (w : List WantS) : RingsR w (List.replicate w.length false) (zd1 w) := Classical.choose_spec (zfS (w := w) (zaR (List.replicate w.length false)) (List.replicate w.length false) (by simp) (Nat.le_refl _))
end
section
def zdW (P : List Int) (n k : Nat) : List Int := P.take k ++ List.replicate (n - k) (-1)
theorem zlR {P : List Int} {n k : Nat} (hl : P.length = n) (hk : k ≤ n) : (zdW P n k).length = n := by unfold zdW; simp; omega
theorem zpa {P : List Int} {n : Nat} : zdW P n 0 = List.replicate n (-1) := by unfold zdW; simp
theorem zpL {P : List Int} {n : Nat} (hl : P.length = n) : zdW P n n = P := by unfold zdW; rw [List.take_of_length_le (by omega)]; simp
theorem zl9 {P : List Int} {n k : Nat} (hl : P.length = n) (hk : k < n) : (zdW P n k)[k]? = some (-1) := by
 unfold zdW
 rw [List.getElem?_append_right (by rw [List.length_take]; omega), List.length_take, List.getElem?_replicate, if_pos (by omega)]
theorem zl0 {P : List Int} {n k : Nat} {a : Int} (hl : P.length = n) (hP : P[k]? = some a) : (zdW P n k).set k a = zdW P n (k + 1) := by
 have hk := zD hP
 unfold zdW
 have e : n - k = (n - (k + 1)) + 1 := by omega
 rw [e, List.replicate_succ, List.set_append, if_neg (by rw [List.length_take]; omega), List.length_take, show k - min k P.length = 0 by omega, List.set_cons_zero, List.take_add_one, hP]
 simp
theorem zla {P : List Int} {n k : Nat} (hl : P.length = n) (hP : P[k]? = some (-1)) : zdW P n k = zdW P n (k + 1) := by
 rw [← zl0 hl hP]
 refine List.ext_getElem? fun p => ?_
 rw [List.getElem?_set]
 split
 ·rename_i h; subst h
  have hk := zD hP
  have := zl9 (P := P) (n := n) hl (show k < n by omega)
  rw [this, if_pos (zD this)]
 ·rfl
/-! letting go -/
structure DropI (w : List WantS) (h h2 : List Bool) (k : Nat) (sm : Bool) : Prop where
 len : h2.length = w.length
 sub : SubG h h2
 new : ∀ i, h.getD i false = false → h2.getD i false = true → i < k ∧ i < w.length ∧ zbA w h i < 0
 old : ∀ i, i < k → i < w.length → h.getD i false = false → zbA w h i < 0 → h2.getD i false = true
 eq : sm = false → h2 = h
 lt : sm = true → zaR h2 < zaR h
 le : zaR h2 ≤ zaR h
theorem getD_setG {l : List Bool} {i j : Nat} {a : Bool} : (l.set i a).getD j false = if i = j ∧ i < l.length then a else l.getD j false := ze0.getD_setG
theorem DropI.start {w : List WantS} {h : List Bool} (hl : h.length = w.length) : DropI w h h 0 false :=
 ⟨hl, SubG.refl _, fun i h1 h2 => (by rw [h1] at h2; cases h2), fun i hi => by omega, fun _ => rfl, fun e => (by cases e), Nat.le_refl _⟩
theorem DropI.set {w : List WantS} {h h2 : List Bool} {k : Nat} {sm : Bool} (d : DropI w h h2 k sm) (hk : k < w.length) (hb : h2.getD k false = false) (hp : zbA w h k < 0) : DropI w h (h2.set k true) (k + 1) true := by
 have hl := zfR hb (by rw [d.len]; exact hk)
 have hle := d.le
 have h0 : h.getD k false = false := by
  cases e : h.getD k false with
  | false => rfl
  | true => have := d.sub k e; rw [hb] at this; cases this
 refine ⟨by simpa using d.len, fun i hi => ?_, fun i h1 h3 => ?_, fun i hi hiw h1 h3 => ?_, fun e => (by cases e), fun _ => by omega, by omega⟩
 ·rw [getD_setG]; split
  ·rfl
  ·exact d.sub i hi
 ·rw [getD_setG] at h3
  split at h3
  ·rename_i e; rw [← e.1]; exact ⟨by omega, hk, hp⟩
  ·have := d.new i h1 h3; exact ⟨by omega, this.2⟩
 ·rw [getD_setG]; split
  ·rfl
  ·rename_i e
   refine d.old i ?_ hiw h1 h3
   rcases Nat.lt_succ_iff_lt_or_eq.1 hi with q | q
   ·exact q
   ·exact absurd ⟨q.symm, by rw [d.len]; exact hk⟩ e
theorem DropI.skip {w : List WantS} {h h2 : List Bool} {k : Nat} {sm : Bool} (d : DropI w h h2 k sm) (hn : h2.getD k false = true ∨ 0 ≤ zbA w h k) : DropI w h h2 (k + 1) sm := by
 refine ⟨d.len, d.sub, fun i h1 h3 => ?_, fun i hi hiw h1 h3 => ?_, d.eq, d.lt, d.le⟩
 ·have := d.new i h1 h3; exact ⟨by omega, this.2⟩
 ·rcases Nat.lt_succ_iff_lt_or_eq.1 hi with q | q
  ·exact d.old i q hiw h1 h3
  ·subst q
   rcases hn with e | e
   ·exact e
   ·omega
theorem DropI.done {w : List WantS} {h h2 : List Bool} (d : DropI w h h2 w.length false) : CoreG w h h ∧ h2 = h := by
 have e := d.eq rfl
 subst e
 refine ⟨zgm d.len fun i hi hg => ?_, rfl⟩
 refine Classical.byContradiction fun hn => ?_
 have := d.old i hi hi hg (by omega)
 rw [hg] at this; cases this
theorem DropI.next {w : List WantS} {h h2 : List Bool} {k : Nat} {sm : Bool} (d : DropI w h h2 k sm) (G : List Bool) : CoreG w h G ↔ CoreG w h2 G :=
 zhV d.sub fun i h1 h3 H s1 s2 => by
  obtain ⟨_, a, b⟩ := d.new i h1 h3
  exact zkg a h1 b H s1 s2
/-! following -/
structure ClosedT (to : List Int) (g : List Bool) : Prop where
 nx : ∀ i, i < to.length → g.getD i false = false → ∃ k : Nat, to[i]? = some (k : Int) ∧ k < to.length ∧ g.getD k false = false
theorem zc5 {w : List WantS} {g G : List Bool} (hs : SortedS (w.map (·.Player))) (h : CoreG w g G) : ClosedT (zaF w G) G := ⟨fun i hi hg => by
 rw [zbq] at hi ⊢
 have h1 := h.cl i hi hg
 rw [zgL hi]
 unfold zbA at h1 ⊢
 rw [if_neg (by rw [hg]; simp)] at h1 ⊢
 rcases zki (g := G) hs (t := (w.getD i zbQ).For) with e | ⟨k, e1, e2, e3⟩
 ·omega
 ·exact ⟨k, by rw [e1], e2, e3⟩⟩
structure WalkI (to : List Int) (g : List Bool) (i : Nat) (L : List Int) (kk : Int) : Prop where
 nd : L.Nodup
 all : ∀ z ∈ L, ∃ a : Nat, z = (a : Int) ∧ a < to.length ∧ g.getD a false = false
 at' : ∃ b : Nat, kk = (b : Int) ∧ b < to.length ∧ g.getD b false = false
 ne : L ≠ []
 fu : ∃ f, f + L.length = to.length + 1 ∧ zgQ to f L kk = zd9 to to.length i
theorem WalkI.len {to : List Int} {g : List Bool} {i : Nat} {L : List Int} {kk : Int} (h : WalkI to g i L kk) : L.length ≤ to.length := by
 have hn : (L.map Int.toNat).Nodup := by
  refine List.pairwise_map.2 (h.nd.imp_of_mem fun {a b} ha hb hab e => hab ?_)
  obtain ⟨x, rfl, _⟩ := h.all _ ha
  obtain ⟨y, rfl, _⟩ := h.all _ hb
  simp at e; rw [e]
 have := zgI hn (m := List.range to.length) fun x hx => by
  obtain ⟨z, hz, rfl⟩ := List.mem_map.1 hx
  obtain ⟨a, rfl, ha, _⟩ := h.all z hz
  exact List.mem_range.2 (by simpa using ha)
 simpa using this
theorem WalkI.start {to : List Int} {g : List Bool} (hc : ClosedT to g) {i : Nat} (hi : i < to.length) (hg : g.getD i false = false) : WalkI to g i [(i : Int)] (to.getD i 0) := by
 obtain ⟨k, k1, k2, k3⟩ := hc.nx i hi hg
 refine ⟨by simp, fun z hz => ⟨i, List.mem_singleton.1 hz, hi, hg⟩, ⟨k, by rw [List.getD_eq_getElem?_getD, k1]; rfl, k2, k3⟩, by simp, to.length, by simp, rfl⟩
theorem WalkI.step {to : List Int} {g : List Bool} (hc : ClosedT to g) {i : Nat} {L : List Int} {kk : Int} (h : WalkI to g i L kk) (hn : L.contains kk = false) : WalkI to g i (L ++ [kk]) (to.getD kk.toNat 0) := by
 obtain ⟨b, rfl, b2, b3⟩ := h.at'
 obtain ⟨k, k1, k2, k3⟩ := hc.nx b b2 b3
 obtain ⟨f, f1, f2⟩ := h.fu
 have hl := h.len
 have hm : (b : Int) ∉ L := by rw [← List.contains_iff_mem, hn]; simp
 refine ⟨List.nodup_append.2 ⟨h.nd, by simp, fun a ha c hc => by rw [List.mem_singleton.1 hc]; exact fun e => hm (e ▸ ha)⟩, fun z hz => ?_, ⟨k, ?_, k2, k3⟩, by simp, f - 1, by simp; omega, ?_⟩
 ·rcases List.mem_append.1 hz with e | e
  ·exact h.all z e
  ·exact ⟨b, List.mem_singleton.1 e, b2, b3⟩
 ·simp only [Int.toNat_natCast]; rw [List.getD_eq_getElem?_getD, k1]; rfl
 ·obtain ⟨f', rfl⟩ : ∃ f', f = f' + 1 := ⟨f - 1, by omega⟩
  rw [zgQ, if_neg (by rw [hn]; simp)] at f2
  exact f2
theorem WalkI.done {to : List Int} {g : List Bool} {i : Nat} {L : List Int} {kk : Int} (h : WalkI to g i L kk) (hn : L.contains kk = true) : zd9 to to.length i = L := by
 obtain ⟨f, f1, f2⟩ := h.fu
 have hl := h.len
 obtain ⟨f', rfl⟩ : ∃ f', f = f' + 1 := ⟨f - 1, by omega⟩
 rw [zgQ, if_pos hn] at f2
 exact f2.symm
theorem WalkI.last {to : List Int} {g : List Bool} {i : Nat} {L : List Int} {kk : Int} (h : WalkI to g i L kk) : ∃ b : Nat, L[L.length - 1]? = some (b : Int) ∧ L.getLastD 0 = (b : Int) ∧ b < to.length ∧ g.getD b false = false := by
 obtain ⟨A, z, e⟩ : ∃ A z, L = A ++ [z] := ⟨L.dropLast, L.getLast h.ne, (List.dropLast_concat_getLast h.ne).symm⟩
 subst e
 obtain ⟨b, rfl, b2, b3⟩ := h.all z (by simp)
 refine ⟨b, by simp, by simp, b2, b3⟩
/-! taking a ring out -/
theorem zlk : ∀ {l : List Int} {g : List Bool} {z : Int}, zbP g (l ++ [z]) = (zbP g l).set z.toNat true
 | [], _, _ => rfl
 | k :: t, g, z => by rw [List.cons_append, zbP, zbP, zlk]
theorem zod {w : List WantS} {l : List Int} {z : Int} : zdx w (l ++ [z]) = zdx w l ++ [(w.getD z.toNat zbQ).Player] := by unfold zdx; simp
theorem zmC {to : List Int} {g : List Bool} (hc : ClosedT to g) : ∀ z ∈ zam to g to.length, ∃ a : Nat, z = (a : Int) ∧ a < to.length ∧ g.getD a false = false := fun z hz => by
 by_cases he : zam to g to.length = []
 ·rw [he] at hz; cases hz
 obtain ⟨j, _, j2, j3, j4, j5, _⟩ := zfi he
 unfold zam at hz
 rw [j5] at hz
 have key : ∀ (m : Nat) (L : List Int) (kk : Int), WalkI to g j L kk → to.length + 1 - L.length ≤ m → ∀ z ∈ zd9 to to.length j, ∃ a : Nat, z = (a : Int) ∧ a < to.length ∧ g.getD a false = false := by
  intro m
  induction m with
  | zero => intro L kk hw hm; have := hw.len; omega
  | succ m ih =>
    intro L kk hw hm z hz
    cases hcn : L.contains kk with
    | true => rw [hw.done hcn] at hz; exact hw.all z hz
    | false => exact ih _ _ (hw.step hc hcn) (by simp; omega) z hz
 exact key _ _ _ (WalkI.start hc (by omega) j3) (Nat.le_refl _) z hz
theorem zml {to : List Int} {g : List Bool} (hc : ClosedT to g) : (zam to g to.length).length ≤ to.length := by
 by_cases he : zam to g to.length = []
 ·rw [he]; exact Nat.zero_le _
 obtain ⟨j, _, j2, j3, j4, j5, _⟩ := zfi he
 unfold zam
 rw [j5]
 have key : ∀ (m : Nat) (L : List Int) (kk : Int), WalkI to g j L kk → to.length + 1 - L.length ≤ m → (zd9 to to.length j).length ≤ to.length := by
  intro m
  induction m with
  | zero => intro L kk hw hm; have := hw.len; omega
  | succ m ih =>
    intro L kk hw hm
    cases hcn : L.contains kk with
    | true => rw [hw.done hcn]; exact hw.len
    | false => exact ih _ _ (hw.step hc hcn) (by simp; omega)
 exact key _ _ _ (WalkI.start hc (by omega) j3) (Nat.le_refl _)
/-- What is left of the rings, and what is out already. -/
def ze5 (w : List WantS) (g : List Bool) (out : List (List Str)) : Prop := ∃ rest, RingsR w g rest ∧ zd1 w = out ++ rest
theorem zjY {w : List WantS} : ze5 w (List.replicate w.length false) [] := ⟨_, znc w, rfl⟩
theorem zo9 {w : List WantS} {g h : List Bool} {out : List (List Str)} (hc : ∀ G, CoreG w g G ↔ CoreG w h G) : ze5 w g out ↔ ze5 w h out := by
 constructor
 ·rintro ⟨r, r1, r2⟩; exact ⟨r, (zjJ hc).1 r1, r2⟩
 ·rintro ⟨r, r1, r2⟩; exact ⟨r, (zjJ hc).2 r1, r2⟩
theorem zhA {w : List WantS} {g G : List Bool} {out : List (List Str)} (hc : CoreG w g G) (h : ze5 w g out) (hr : zam (zaF w G) G w.length = []) : zd1 w = out := by
 obtain ⟨r, r1, r2⟩ := h
 rw [zl3 r1 (.done hc hr)] at r2
 simpa using r2
theorem zlp {w : List WantS} {g G : List Bool} {out : List (List Str)} (hc : CoreG w g G) (h : ze5 w g out) (hr : zam (zaF w G) G w.length ≠ []) :
 ze5 w (zbP G (zam (zaF w G) G w.length)) (out ++ [zdx w (zam (zaF w G) G w.length)]) := by
 obtain ⟨r, r1, r2⟩ := h
 cases r1 with
 | done g1 g2 =>
   have := zd3 hc g1
   subst this
   exact absurd g2 hr
 | more g1 g2 g3 =>
   have := zd3 hc g1
   subst this
   exact ⟨_, g3, by rw [r2]; simp⟩
theorem zmc {l : List Int} {z : Int} : l.contains z = l.any (· == z) := by
 rw [Bool.eq_iff_iff, List.contains_iff_mem, List.any_eq_true]
 constructor
 ·intro h; exact ⟨z, h, by simp⟩
 ·rintro ⟨y, hy, e⟩; rw [beq_iff_eq] at e; exact e ▸ hy
theorem zi1 : ∀ {a b : List Bool}, a.length = b.length → SubG a b → zaR b ≤ zaR a
 | [], b, hb, _ => by simp at hb; rw [List.length_eq_zero_iff.1 hb.symm]; exact Nat.le_refl _
 | x :: a, [], hb, _ => by simp at hb
 | x :: a, y :: b, hb, hi => by
   have i1 := zi1 (a := a) (b := b) (by simpa using hb) fun i h => hi (i + 1) h
   have i0 : x = true → y = true := fun h => hi 0 h
   unfold zaR at i1 ⊢
   rw [List.countP_cons, List.countP_cons]
   cases x <;> cases y <;> (try simp_all) <;> (try omega)
theorem zje {n : Nat} : zaR (List.replicate n false) = n := by unfold zaR; rw [List.countP_replicate]; rfl
/-- The rings, or none where the wants are wrong. -/
noncomputable def zfN (m : MarketS) (o : List OwnerS) (w : List WantS) : List (List Str) := if zaj m o w = 0 then zd1 w else []
abbrev znV (l : List (List Str)) : HVal := .slice 1 (l.map eSs)
end
section
structure OutS where
 Points : Int
 Weight : Int
abbrev most : Int := 1000000000000
end
section
abbrev NW := List (Int × Int)
/-- One player more. -/
def one (p : Int × Int) (O : List OutS) : NW := O.map fun o => (p.1 + o.Points, p.2 * o.Weight)
def tot : NW → Int
 | [] => 0
 | p :: r => p.2 + tot r
/-- All weights are above 0. -/
def PosW (L : NW) : Prop := ∀ p ∈ L, 1 ≤ p.2
theorem PosW.tot {L : NW} (h : PosW L) : 0 ≤ tot L := by
 induction L with
 | nil => simp [HL.tot]
 | cons p L ih =>
   have := ih fun q hq => h q (List.mem_cons_of_mem _ hq)
   have := h p List.mem_cons_self
   simp only [HL.tot]; omega
theorem PosW.le {L : NW} (h : PosW L) {p : Int × Int} (hp : p ∈ L) : p.2 ≤ HL.tot L := by
 induction L with
 | nil => cases hp
 | cons q L ih =>
   have hL : PosW L := fun q hq => h q (List.mem_cons_of_mem _ hq)
   have h1 := hL.tot
   have h2 := h q List.mem_cons_self
   rcases List.mem_cons.1 hp with rfl | hp
   ·simp only [HL.tot]; omega
   ·have := ih hL hp; simp only [HL.tot]; omega
theorem PosW.alk {L : NW} (h : PosW L) (k : Int) : 0 ≤ (alk k L).getD 0 ∧ (alk k L).getD 0 ≤ HL.tot L := by
 cases hq : HL.alk k L with
 | none => have := h.tot; simp; omega
 | some v =>
   have hm := zcH hq
   have h1 := h _ hm
   have h2 := h.le hm
   simp only [Option.getD_some]
   simp only at h1 h2
   omega
theorem PosW.one {p : Int × Int} (hp : 1 ≤ p.2) {O : List OutS} (hO : ∀ y ∈ O, 1 ≤ y.Weight) : PosW (HL.one p O) := fun q hq => by
 obtain ⟨o, ho, rfl⟩ := List.mem_map.1 hq
 have := hO o ho
 have : 1 * 1 ≤ p.2 * o.Weight := Int.mul_le_mul hp this (by decide) (by omega)
 dsimp only; omega
end
section
variable {P : Program}
open Go.Sort Go.Proofs
end
section

end
section
/-- All weights are above 0. -/
def PosO (Y : List OutS) : Prop := ∀ q ∈ Y, 1 ≤ q.Weight
theorem PosO.take {Y : List OutS} (h : PosO Y) (k : Nat) : PosO (Y.take k) := fun x hx => h x (List.mem_of_mem_take hx)
def IncO (Y : List OutS) : Prop := Y.Pairwise fun a b => a.Points < b.Points
theorem IncO.drop {Y : List OutS} (h : IncO Y) {i : Nat} {n : Int} {q : OutS} (hq : Y[i]? = some q) (hn : n ≤ q.Points) : ∀ x ∈ Y.drop i, n ≤ x.Points := by
 intro x hx
 have hi : i < Y.length := (List.getElem?_eq_some_iff.1 hq).1
 have he : Y[i] = q := (List.getElem?_eq_some_iff.1 hq).2
 rw [List.drop_eq_getElem_cons hi, he] at hx
 rcases List.mem_cons.1 hx with rfl | hx
 ·exact hn
 ·have hp : (Y.drop i).Pairwise fun a b => a.Points < b.Points := List.Pairwise.sublist (List.drop_sublist i Y) h
  rw [List.drop_eq_getElem_cons hi, he] at hp
  have := (List.pairwise_cons.1 hp).1 x hx
  omega
end
section

end
section
def hiW (A : Int) : Int := A / 18446744073709551616
def loW (A : Int) : Int := A % 18446744073709551616
end
section

end
section
theorem VisOk.rest {L E : NW} {vis : List Nat} (hv : VisOk L vis E) : ∃ E' : NW, (E ++ E').Perm L := by
 let rest := (List.range L.length).filter fun j => decide (j ∉ vis)
 have hr : ∀ j, j ∈ rest ↔ j < L.length ∧ j ∉ vis := fun j => by simp [rest]
 refine ⟨rest.map fun j => L.getD j (0, 0), ?_⟩
 have nd : (vis ++ rest).Nodup := List.nodup_append.2 ⟨hv.nd, List.Pairwise.filter _ List.nodup_range, fun a ha b hb e => ((hr b).1 hb).2 (e ▸ ha)⟩
 have hall : VisOk L (vis ++ rest) (E ++ rest.map fun j => L.getD j (0, 0)) := by
  refine ⟨nd, fun j hj => ?_, ?_⟩
  ·rcases List.mem_append.1 hj with h | h
   ·exact hv.lt j h
   ·exact ((hr j).1 h).1
  ·rw [List.map_append, List.map_append, hv.eq, List.map_map]
   congr 1
   refine List.map_congr_left fun j hj => ?_
   have := ((hr j).1 hj).1
   show some (L.getD j (0, 0)) = L[j]?
   rw [List.getElem?_eq_getElem this]; simp [List.getD, List.getElem?_eq_getElem this]
 refine hall.done ?_
 have hp : (vis ++ rest).Perm (List.range L.length) := (List.perm_ext_iff_of_nodup nd List.nodup_range).2 fun a => by
  rw [List.mem_append, hr, List.mem_range]
  constructor
  ·rintro (h | h)
   ·exact hv.lt a h
   ·exact h.1
  ·intro h
   by_cases c : a ∈ vis
   ·exact .inl c
   ·exact .inr ⟨h, c⟩
 have := hp.length_eq
 rwa [List.length_range] at this
end
section
variable {P : Program}
end
section
open Go
theorem zrD {m : Int} (h0 : 0 ≤ m) (h1 : m < 18446744073709551616) : IntKind.u64.wrap (((m % 2 ^ IntKind.u64.bits).toNat &&& 4294967295 % 2 ^ IntKind.u64.bits : Nat) : Int) = m % 4294967296 := by
 have e1 : (4294967295 % 2 ^ IntKind.u64.bits : Nat) = 2 ^ 32 - 1 := rfl
 rw [e1, Nat.and_two_pow_sub_one_eq_mod]
 have e2 : m % 2 ^ IntKind.u64.bits = m := by
  simp [IntKind.bits]; omega
 rw [e2]
 simp [IntKind.wrap, IntKind.bits, IntKind.signed]; omega
section
variable {P : Program} {e : Env} {dst : Option Tmp} {ty : TypeId} {pos : String} {af : Array Edge} {g : Option (Nat × Bool)}
theorem zhH [Tracks] {x y : Operand} {t t' : TypeId} {m : Int} (hx : zx e x = some (.int .u64 m)) (hy : zx e y = some (.int .u64 4294967295)) (h0 : 0 ≤ m) (h1 : m < 18446744073709551616) :
 POp P e ⟨dst, .binOp .and t x y t', ty, pos, af, g⟩ (.int .u64 (m % 4294967296)) :=
 POp.of_val fun I a w ho => ⟨.int .u64 (m % 4294967296), by
  have g1 := (ho.one (x := x) (by simp [Op.operands]) hx).int_inv
  have g2 := (ho.one (x := y) (by simp [Op.operands]) hy).int_inv
  have g3 := zrD h0 h1
  simp [execOp, g1, g2, eqGuard, binOp, Op.intBits]
  simpa using g3, .int _ _⟩
theorem zlG {n : Int} (h1 : 0 ≤ n) (h2 : n < 18446744073709551616) : IntKind.wrap .u64 n = n := by
 simp [IntKind.wrap, IntKind.bits, IntKind.signed]; omega
theorem zg8 [Tracks] {x y : Operand} {t t' : TypeId} {m n : Int} (hx : zx e x = some (.int .u64 m)) (hy : zx e y = some (.int .u64 n)) (h1 : 0 ≤ m + n) (h2 : m + n < 18446744073709551616) :
 POp P e ⟨dst, .binOp .add t x y t', ty, pos, af, g⟩ (.int .u64 (m + n)) := by
 have := zgB (P := P) (dst := dst) (ty := ty) (pos := pos) (af := af) (g := g) (t := t) (t' := t') hx hy
 rwa [zlG h1 h2] at this
theorem zgV [Tracks] {x y : Operand} {t t' : TypeId} {m n : Int} (hx : zx e x = some (.int .u64 m)) (hy : zx e y = some (.int .u64 n)) (h1 : 0 ≤ m * n) (h2 : m * n < 18446744073709551616) :
 POp P e ⟨dst, .binOp .mul t x y t', ty, pos, af, g⟩ (.int .u64 (m * n)) := by
 have := zij (P := P) (dst := dst) (ty := ty) (pos := pos) (af := af) (g := g) (t := t) (t' := t') hx hy
 rwa [zlG h1 h2] at this
theorem zoK [Tracks] {x y : Operand} {t t' : TypeId} {m n : Int} (hx : zx e x = some (.int .u64 m)) (hy : zx e y = some (.int .u64 n)) :
 POp P e ⟨dst, .binOp .mul t x y t', ty, pos, af, g⟩ (.int .u64 (loW (m * n))) := by
 have := zij (P := P) (dst := dst) (ty := ty) (pos := pos) (af := af) (g := g) (t := t) (t' := t') hx hy
 have e : IntKind.wrap .u64 (m * n) = loW (m * n) := by unfold loW; simp [IntKind.wrap, IntKind.bits, IntKind.signed]
 rwa [e] at this
theorem zfd [Tracks] {x y : Operand} {t t' : TypeId} {m : Int} {k' : IntKind} (hx : zx e x = some (.int .u64 m)) (hy : zx e y = some (.int k' 32)) :
 POp P e ⟨dst, .binOp .shr t x y t', ty, pos, af, g⟩ (.int .u64 (m / 4294967296)) := by
 have := zgz (P := P) (dst := dst) (ty := ty) (pos := pos) (af := af) (g := g) (t := t) (t' := t') hx hy (by decide)
 have e : m.fdiv (2 ^ min (32 : Int).toNat IntKind.u64.bits) = m / 4294967296 := by
  show m.fdiv 4294967296 = _
  exact (Int.fdiv_eq_ediv_of_nonneg m (by decide))
 rwa [e] at this
end
/-- The halves of a product of two small numbers. -/
def zaq (m : Int) : Int := m % 4294967296
def zaN (m : Int) : Int := m / 4294967296
theorem zoe {m : Int} (h0 : 0 ≤ m) (h1 : m < 1099511627776) : (0 ≤ zaq m ∧ zaq m < 4294967296) ∧ (0 ≤ zaN m ∧ zaN m < 256) ∧ m = zaN m * 4294967296 + zaq m := by unfold zaq zaN; omega
theorem zeV {a b A B : Int} (ha : 0 ≤ a ∧ a < A) (hb : 0 ≤ b ∧ b < B) : 0 ≤ a * b ∧ a * b ≤ (A - 1) * (B - 1) := ⟨Int.mul_nonneg ha.1 hb.1, Int.mul_le_mul (by omega) (by omega) hb.1 (by omega)⟩
theorem zmV {m n : Int} (hm : m = zaN m * 4294967296 + zaq m) (hn : n = zaN n * 4294967296 + zaq n) : m * n = zaN m * zaN n * 18446744073709551616 + (zaN m * zaq n + zaq m * zaN n) * 4294967296 + zaq m * zaq n := by
 conv => lhs; rw [hm, hn]
 generalize zaN m = a; generalize zaN n = b; generalize zaq m = c; generalize zaq n = d
 simp only [Int.mul_add, Int.add_mul]
 have e1 : a * 4294967296 * (b * 4294967296) = a * b * 18446744073709551616 := by rw [Int.mul_assoc, Int.mul_left_comm 4294967296, Int.mul_assoc a b]; rfl
 have e2 : c * (b * 4294967296) = c * b * 4294967296 := (Int.mul_assoc _ _ _).symm
 have e3 : a * 4294967296 * d = a * d * 4294967296 := Int.mul_right_comm _ _ _
 rw [e1, e2, e3]; omega
theorem zqg {m n : Int} (hm0 : 0 ≤ m) (hm : m < 1099511627776) (hn0 : 0 ≤ n) (hn : n < 1099511627776) :
 zaN m * zaN n + (zaN m * zaq n + zaq m * zaq n / 4294967296) / 4294967296 + ((zaN m * zaq n + zaq m * zaq n / 4294967296) % 4294967296 + zaq m * zaN n) / 4294967296 = hiW (m * n) := by
 have a := zoe hm0 hm
 have b := zoe hn0 hn
 have e := zmV a.2.2 b.2.2
 have h1 := zeV a.1 b.1
 have h2 := zeV a.1 b.2.1
 have h3 := zeV a.2.1 b.1
 unfold hiW
 rw [e]
 generalize zaN m * zaN n = p at *
 generalize zaN m * zaq n = q at *
 generalize zaq m * zaN n = r at *
 generalize zaq m * zaq n = s at *
 omega
end
section
open Go
section
variable {P : Program} {e : Env} {dst : Option Tmp} {ty : TypeId} {pos : String} {af : Array Edge} {g : Option (Nat × Bool)}
def znB (l : List Int) : HVal :=
 match l with
 | [] => .raw (.slice none 0 0)
 | x :: t => .slice 1 ((x :: t).map (HVal.int .i64))
theorem zj9 {l : List Int} (h : l ≠ []) : znB l = .slice 1 (l.map (HVal.int .i64)) := by
 cases l with
 | nil => exact absurd rfl h
 | cons x t => rfl
theorem zjO [Tracks] {x y : Operand} {t t' el : TypeId} {size bytes : Nat} {zero : Value} {l : List Int} (hf : Fits P t (.slice el) size bytes zero) (hx : zx e x = some (znB l)) (hy : zx e y = some (.raw (.slice none 0 0))) :
 POp P e ⟨dst, .binOp .eql t x y t', ty, pos, af, g⟩ (.bool (decide (l = []))) :=
 POp.of_val fun I a w ho => by
  have hv := ho.one (x := x) (by simp [Op.operands]) hx
  have h2 := (ho.one (x := y) (by simp [Op.operands]) hy).raw_inv
  obtain ⟨p, n, cap, h1, h3⟩ : ∃ p n cap, a.eval x = .slice p n cap ∧ p.isNone = decide (l = []) := by
   cases l with
   | nil => exact ⟨_, _, _, hv.raw_inv, rfl⟩
   | cons z t =>
     rcases hv.slice_inv with ⟨h0, _⟩ | ⟨b, off, cap', rc, el', fr, h3, _⟩
     ·simp at h0
     ·exact ⟨_, _, _, h3, by simp⟩
  refine ⟨.bool (decide (l = [])), ?_, .bool _⟩
  rw [← h3]
  simp [execOp, h1, h2, eqGuard, binOp, zhd hf.slice]
end
end
section
variable {P : Program}
theorem zf8 [Tracks] {e : Env} {dst : Option Tmp} {ty : TypeId} {pos : String} {af : Array Edge} {g : Option (Nat × Bool)} {M : List MObj} {K : HVal → List MObj → Prop} {t el : TypeId} {size bytes sz b2 n : Nat} {zero z2 : Value} {d : TD} {parts : Array (Nat × Operand)} {hs : List HVal}
 (hf : Fits P t (.slice el) size bytes zero) (hel : Fits P el d sz b2 z2) (hz : z2.cells.size = sz) (hn : parts.toList.length = n) (hsz : n * sz ≤ 16777216) (h0 : n * sz ≠ 0)
 (hr : zfJ e sz 0 parts.toList = some hs) (hk : ∀ v, K (.raw v) (.arr v sz hs :: M)) : EOp P e M ⟨dst, .buildSlice t n parts, ty, pos, af, g⟩ K :=
 EOp.of_run fun I F a w ho hs' => by
  let zr : Array Value := (Array.range (n * sz)).map (z2.cells[· % z2.cells.size]!)
  obtain ⟨rc, h1, h2, h3, h4, h5, h6⟩ := zgP (I := I) (f := a.eval) parts.toList 0 hs zr hr (fun x hx h hh => ho.one (by simpa [Op.operands] using hx) hh) (by simp [zr, hn])
  have hl : hs.length = n := by omega
  have hpos : 0 < sz := by
   rcases Nat.eq_zero_or_pos sz with h | h
   ·rw [h] at h0; simp at h0
   ·exact h
  have hnle : n ≤ n * sz := Nat.le_mul_of_pos_right n hpos
  refine ⟨.slice (some ⟨w.heap.size, 0, none⟩) n n, .raw (.slice (some ⟨w.heap.size, 0, none⟩) n n), _, push w (.cells rc el (0, 0)), I, ?_, .refl I, hk _, .raw _ rfl, ?_⟩
  ·have hp : (parts.map fun x => (x.1, a.eval x.2)).toList = parts.toList.map fun p => (p.1, a.eval p.2) := by simp
   have hle : ¬ n * sz > 2 ^ 24 := by omega
   simp only [execOp, Instr.buildSlice, Sem.run_bind, run_underlying hf.slice, Result.andThen_ok, hel.run_sizeOf]
   rw [if_neg hle]
   simp only [Sem.run_pure, Result.andThen_ok]
   rw [if_neg h0]
   simp only [Sem.run_bind, hel.run_zero, Result.andThen_ok, Sem.run_pure, hp]
   have h1' : Instr.fill (fun i => some (i * sz, sz)) ((Array.range (n * sz)).map fun x => z2.cells[x % z2.cells.size]!) (parts.toList.map fun p => (p.1, a.eval p.2)) = some rc := h1
   rw [h1']
   simp [newRow]
  ·have hrc : rc.size = n * sz := by rw [h2]; simp [zr]
   exact hs'.new_own (.cells rc el (0, 0)) (.arr (.slice (some ⟨w.heap.size, 0, none⟩) n n) sz hs) rfl (.inr ⟨w.heap.size, 0, n, rc, el, (0, 0), by rw [hl], by simp [push], Free.zero _, h5, ⟨by omega, by omega⟩, by omega, fun i j x c v b1 b2 b3 => h6 i j x c v b1 b2 (by simpa using b3)⟩)
end
end Go.HL
namespace Go.Proofs.YtcihcbnjfclkbaaGreatDoor
set_option maxRecDepth 100000
set_option linter.unusedVariables false
set_option linter.unusedSimpArgs false
section
open Go.HL
/-- math/bits.Mul64 -/
theorem zio [Tracks] {m n : Int} (hm0 : 0 ≤ m) (hm1 : m < 1099511627776) (hn0 : 0 ≤ n) (hn1 : n < 1099511627776) : zaa Tryz.prog 199 [.int .u64 m, .int .u64 n] (.tup [.int .u64 (hiW (m * n)), .int .u64 (loW (m * n))]) := by
 have ma := zoe hm0 hm1
 have na := zoe hn0 hn1
 have h00 := zeV ma.1 na.1
 have h10 := zeV ma.2.1 na.1
 have h01 := zeV ma.1 na.2.1
 have h11 := zeV ma.2.1 na.2.1
 have hhi := zqg hm0 hm1 hn0 hn1
 refine Con.of_body Tryz.func199 rfl Tryz.ntmps199 rfl rfl ?_
 refine zb ?_
 refine das rfl ?_
 refine das rfl ?_
 refine dn ?_
 refine zb ?_
 refine dmv rfl ?_
 refine dq (zhH rfl rfl (by omega) (by omega)) ?_
 refine das rfl ?_
 refine dn ?_
 refine zb ?_
 refine dmv rfl ?_
 refine dq (zfd rfl rfl) ?_
 refine das rfl ?_
 refine dn ?_
 refine zb ?_
 refine dmv rfl ?_
 refine dq (zhH rfl rfl (by omega) (by omega)) ?_
 refine das rfl ?_
 refine dn ?_
 refine zb ?_
 refine dmv rfl ?_
 refine dq (zfd rfl rfl) ?_
 refine das rfl ?_
 refine dn ?_
 refine zb ?_
 refine dmv rfl ?_
 refine dmv rfl ?_
 refine dq (zgV (m := zaq m) (n := zaq n) rfl rfl (by omega) (by omega)) ?_
 refine das rfl ?_
 refine dn ?_
 refine zb ?_
 refine dmv rfl ?_
 refine dmv rfl ?_
 refine dq (zgV (m := zaN m) (n := zaq n) rfl rfl (by omega) (by omega)) ?_
 refine dmv rfl ?_
 refine dq (zfd (m := zaq m * zaq n) rfl rfl) ?_
 refine dq (zg8 (m := zaN m * zaq n) (n := zaq m * zaq n / 4294967296) rfl rfl (by omega) (by omega)) ?_
 refine das rfl ?_
 refine dn ?_
 refine zb ?_
 refine dmv rfl ?_
 refine dq (zhH (m := zaN m * zaq n + zaq m * zaq n / 4294967296) rfl rfl (by omega) (by omega)) ?_
 refine das rfl ?_
 refine dn ?_
 refine zb ?_
 refine dmv rfl ?_
 refine dq (zfd (m := zaN m * zaq n + zaq m * zaq n / 4294967296) rfl rfl) ?_
 refine das rfl ?_
 refine dn ?_
 refine zb ?_
 refine dmv rfl ?_
 refine dmv rfl ?_
 refine dmv rfl ?_
 refine dq (zgV (m := zaq m) (n := zaN n) rfl rfl (by omega) (by omega)) ?_
 refine dq (zg8 (m := (zaN m * zaq n + zaq m * zaq n / 4294967296) % 4294967296) (n := zaq m * zaN n) rfl rfl (by omega) (by omega)) ?_
 refine das rfl ?_
 refine dn ?_
 refine zb ?_
 refine dmv rfl ?_
 refine dmv rfl ?_
 refine dq (zgV (m := zaN m) (n := zaN n) rfl rfl (by omega) (by omega)) ?_
 refine dmv rfl ?_
 refine dq (zg8 (m := zaN m * zaN n) (n := (zaN m * zaq n + zaq m * zaq n / 4294967296) / 4294967296) rfl rfl (by omega) (by omega)) ?_
 refine dmv rfl ?_
 refine dq (zfd (m := (zaN m * zaq n + zaq m * zaq n / 4294967296) % 4294967296 + zaq m * zaN n) rfl rfl) ?_
 refine dq (zg8 (m := zaN m * zaN n + (zaN m * zaq n + zaq m * zaq n / 4294967296) / 4294967296) (n := ((zaN m * zaq n + zaq m * zaq n / 4294967296) % 4294967296 + zaq m * zaN n) / 4294967296) rfl rfl (by omega) (by omega)) ?_
 refine das rfl ?_
 refine dn ?_
 refine zb ?_
 refine dmv rfl ?_
 refine dmv rfl ?_
 refine dq (zoK (m := m) (n := n) rfl rfl) ?_
 refine das rfl ?_
 refine dn ?_
 refine zo ?_
 refine zC rfl ?_
 show HVal.tup [HVal.int .u64 _, HVal.int .u64 _] = _
 rw [hhi]

/-- slices.Index[[]int,int] -/
theorem zgk [Tracks] {l : List Int} {z : Int} (hl : l.length ≤ 1000000) : zaa Tryz.prog 129 [.slice 1 (l.map (.int .i64)), .int .i64 z] (.int .i64 (zde (· == z) l 0)) := by
 refine Con.of_body Tryz.func129 rfl Tryz.ntmps129 rfl rfl ?_
 refine zb ?_
 refine das rfl ?_
 refine dn ?_
 refine zf ?_
 refine zb ?_
 refine dmv rfl ?_
 refine dq (zB zR rfl) ?_
 refine dmv rfl ?_
 refine dn ?_
 refine zm ?_
 refine z8 [4, 5, 8, 9, 10, 11, 12, 13, 14, 15, 16, 17, 18] (fun (k : Nat) => [(8, .int .i64 k)]) (fun (k : Nat) => []) (fun (k : Nat) => k ≤ l.length ∧ (zde (· == z) l 0 = zde (· == z) (l.drop k) k)) (fun (k : Nat) => l.length - k) (0) ?_ ?_ ?_ ?_
 ·exact ⟨Nat.zero_le _, rfl⟩
 ·exact ⟨rfl, trivial⟩
 ·exact List.Perm.refl _
 ·intro k hinv
  obtain ⟨hk, hg⟩ := hinv
  refine zb ?_
  refine dq (zJ rfl rfl) ?_
  refine dn ?_
  refine zf ?_
  refine zj rfl (fun h1 => ?_) (fun h2 => ?_)
  ·try simp at h1
   obtain ⟨x, hx⟩ : ∃ x, l[k]? = some x := ⟨_, List.getElem?_eq_getElem h1⟩
   have hdx := zK hx
   rw [hdx] at hg
   refine zk ?_
   refine ze ?_
   refine zf ?_
   refine zm ?_
   refine zb ?_
   refine dmv rfl ?_
   refine das rfl ?_
   refine dn ?_
   refine zb ?_
   refine dmv rfl ?_
   refine dmv rfl ?_
   refine dmv rfl ?_
   refine dq (zH zR ty3 rfl rfl rfl (by first | assumption | simp_all)) ?_
   refine dq (zi ty3 rfl rfl rfl) ?_
   refine dq (zaJ rfl rfl) ?_
   refine dn ?_
   refine zj rfl (fun h3 => ?_) (fun h4 => ?_)
   ·try simp at h3
    refine zb ?_
    refine dmv rfl ?_
    refine das rfl ?_
    refine dn ?_
    refine zo ?_
    refine zC rfl ?_
    show HVal.int .i64 _ = _
    first | (rw [hg]; rfl) | (rw [hg]; simp_all [zde])
   ·try simp at h4
    refine zk ?_
    refine zz ?_
    refine ze ?_
    refine zy ?_
    refine dq (zv rfl rfl (by omega) (by omega)) ?_
    refine dmv rfl ?_
    refine dn ?_
    refine ⟨k + 1, ?_, ?_, ⟨rfl, trivial⟩, (by repeat (first | exact zp | refine zu rfl ?_ | refine zq rfl rfl ?_)), List.Perm.refl _⟩
    ·refine ⟨by omega, ?_⟩
     rw [hg, zde, if_neg (by simp_all; try omega)]; rfl
    ·dsimp only; omega
  ·try simp at h2
   have hnk : l.length ≤ k := by omega
   obtain rfl : k = l.length := by omega
   rw [z6 (Nat.le_refl _)] at hg
   refine zN ?_
   refine zS ?_
   refine zag ?_
   refine zE ?_
   refine ze ?_
   refine zb ?_
   refine das rfl ?_
   refine dn ?_
   refine zo ?_
   refine zC rfl ?_
   show HVal.int .i64 _ = _
   first | (rw [hg]; rfl) | (rw [hg]; simp_all [zde])

/-- slices.Contains[[]int,int] -/
theorem zfu [Tracks] {l : List Int} {z : Int} (hl : l.length ≤ 1000000) : zaa Tryz.prog 80 [.slice 1 (l.map (.int .i64)), .int .i64 z] (.bool (l.contains z)) := by
 refine Con.of_body Tryz.func80 rfl Tryz.ntmps80 rfl rfl ?_
 refine zb ?_
 refine das rfl ?_
 refine dn ?_
 refine zb ?_
 refine dmv rfl ?_
 refine dmv rfl ?_
 refine dq (zw zry rfl (WeakL.refl _) (zgk (by first | assumption | omega | (simp; omega) | simp_all))) ?_
 refine dq (zbw rfl rfl) ?_
 refine das rfl ?_
 refine dn ?_
 refine zo ?_
 refine zC rfl ?_
 show HVal.bool _ = _
 rw [zmc, ← zgl _ l 0 (by omega)]

/-- math/bits.Mul -/
theorem zjH [Tracks] {m n : Int} (hm0 : 0 ≤ m) (hm1 : m < 1099511627776) (hn0 : 0 ≤ n) (hn1 : n < 1099511627776) : zaa Tryz.prog 176 [.int .u64 m, .int .u64 n] (.tup [.int .u64 (hiW (m * n)), .int .u64 (loW (m * n))]) := by
 refine Con.of_body Tryz.func176 rfl Tryz.ntmps176 rfl rfl ?_
 refine zb ?_
 refine das rfl ?_
 refine das rfl ?_
 refine dn ?_
 refine zf ?_
 refine zcJ rfl ?_
 refine zk ?_
 refine ze ?_
 refine zb ?_
 refine dmv rfl ?_
 refine dmv rfl ?_
 refine dq (zw zrZ rfl (WeakL.refl _) (zio hm0 hm1 hn0 hn1)) ?_
 refine dmv rfl ?_
 refine dq (zan rfl rfl) ?_
 refine dq (zan rfl rfl) ?_
 refine das rfl ?_
 refine das rfl ?_
 refine dn ?_
 refine zb ?_
 refine dmv rfl ?_
 refine dmv rfl ?_
 refine das rfl ?_
 refine das rfl ?_
 refine dn ?_
 refine zo ?_
 refine zC rfl ?_
 rfl

/-- slices.Repeat[[]int,int] -/
theorem zdS [Tracks] {v : Int} {n : Nat} (hn : n ≤ 1000000) : ziW Tryz.prog 130 [.slice 1 ([v].map (HVal.int .i64)), .int .i64 (n : Int)] 1 (((List.replicate n v).map (HVal.int .i64))) := by
 have e1 : hiW (1 * (n : Int)) = 0 := by unfold hiW; omega
 have e2 : loW (1 * (n : Int)) = n := by unfold loW; omega
 refine Con.of_body Tryz.func130 rfl Tryz.ntmps130 rfl rfl ?_
 refine zb ?_
 refine das rfl ?_
 refine dn ?_
 refine zf ?_
 refine zb ?_
 refine dmv rfl ?_
 refine dq (zJ rfl rfl) ?_
 refine dn ?_
 refine zj rfl (fun h1 => ?_) (fun h1 => ?_)
 ·exfalso
  try simp at h1
  omega
 ·try simp at h1
  refine zk ?_
  refine ze ?_
  refine zb ?_
  refine dmv rfl ?_
  refine dq (zB zR rfl) ?_
  refine dq (zcZ (zbK ty3 zeB rfl) (congrArg _ (zlG (n := 1) (by decide) (by decide)))) ?_
  refine dmv rfl ?_
  refine dq (zcZ (zbK ty3 zeB rfl) (congrArg _ (zlG (by omega) (by omega)))) ?_
  refine dq (zw zrV rfl (WeakL.refl _) (zjH (m := 1) (n := n) (by omega) (by omega) (by omega) (by omega))) ?_
  refine dmv rfl ?_
  refine dq (zan rfl rfl) ?_
  refine dq (zan rfl rfl) ?_
  refine das rfl ?_
  refine das rfl ?_
  refine dn ?_
  simp only [e1, e2]
  refine zf ?_
  refine zb ?_
  refine dmv rfl ?_
  refine dq (zax rfl rfl) ?_
  refine dmv rfl ?_
  refine dg rfl rfl (fun hc => ⟨_, OpenTo.refl _, zd rfl⟩) ?_
  refine dg rfl rfl (fun hc => ⟨_, OpenTo.upd (t := 24) rfl (by first | exact hc | simp_all) (OpenTo.refl _), zax rfl rfl⟩) ?_
  refine dq (zL rfl (.inl rfl) (.inr ⟨_, rfl, fun h => by simp_all⟩)) ?_
  refine dn ?_
  refine zj rfl (fun h2 => ?_) (fun h2 => ?_)
  ·exfalso
   try simp at h2
   first | omega | (simp at h2; omega)
  ·try simp at h2
   refine zk ?_
   refine ze ?_
   refine zb ?_
   refine dmv rfl ?_
   refine dq (zcZ (zbK zeB ty3 rfl) (congrArg _ (zhX (by omega) (by omega)))) ?_
   refine de rfl (zg4 (n := n) zR ty3 rfl rfl rfl rfl rfl hn fun b30 => ?_)
   refine das rfl ?_
   refine dn ?_
   refine zb ?_
   refine dmv rfl ?_
   refine dmv rfl ?_
   refine de rfl (zoh (k := 0) (off := 0) zR ty3 rfl rfl rfl (by simp) (by simp [zl]) rfl ?_)
   refine das rfl ?_
   refine dn ?_
   refine zf ?_
   refine zm ?_
   refine z8 [8, 34, 35, 36, 37, 38, 39, 40, 41, 42, 43, 44, 45, 46] (fun (j : Nat) => [(8, .int .i64 (j : Int))]) (fun (j : Nat) => [.arr (.slice (some ⟨b30, 0, none⟩) n n) 1 ((zbs v n j).map (HVal.int .i64))]) (fun (j : Nat) => j ≤ n ∧ (0 < n → 0 < j)) (fun (j : Nat) => n - j) (Nat.min 1 n) ?_ ?_ ?_ ?_
   ·exact ⟨Nat.min_le_right _ _, fun h => by show 0 < min 1 n; omega⟩
   ·exact ⟨zbY (by rw [List.length_replicate]; rfl), trivial⟩
   ·exact zT (by rw [← zn3]; simp; exact .inr rfl)
   ·intro j hinv
    obtain ⟨hj, hj0⟩ := hinv
    have hrl : ((zbs v n j).map (HVal.int .i64)).length = n := by rw [List.length_map, zfM hj]
    refine zf ?_
    refine zb ?_
    refine dmv rfl ?_
    refine dmv rfl ?_
    first
    | refine de rfl (zaZ (i := 0) zR rfl rfl ?_)
    | refine de rfl (zaZ (i := 1) zR rfl rfl ?_)
    | refine de rfl (zaZ (i := 2) zR rfl rfl ?_)
    | refine de rfl (zaZ (i := 3) zR rfl rfl ?_)
    refine dq (zJ rfl rfl) ?_
    refine dn ?_
    refine zj rfl (fun h3 => ?_) (fun h4 => ?_)
    ·try simp at h3
     rw [zfM hj] at h3
     have hj1 : Nat.min j (n - j) ≤ j := Nat.min_le_left _ _
     have hj3 : Nat.min j (n - j) ≤ n - j := Nat.min_le_right _ _
     have hjm : j + Nat.min j (n - j) ≤ n := by omega
     have hjp : 0 < Nat.min j (n - j) := by show 0 < min j (n - j); omega
     refine zk ?_
     refine ze ?_
     refine zm ?_
     refine zb0 (fun _ => True) [] mixed ?_
     refine ahp 0 rfl rfl (by kernel_rfl) (by kernel_rfl) (zd rfl) ?_
     refine ahp 1 rfl rfl (by kernel_rfl) (by kernel_rfl) (zd rfl) ?_
     refine ahp 2 rfl rfl (by kernel_rfl) (by kernel_rfl) (zd rfl) ?_
     refine ahp 3 rfl rfl (by kernel_rfl) (by kernel_rfl) (zjZ (l := j) (h := n) zR ty3 rfl ⟨_, _, rfl, rfl⟩ rfl (by omega) (by omega)) ?_
     refine ahp 4 rfl rfl (by kernel_rfl) (by kernel_rfl) (zd rfl) ?_
     refine ahp 5 rfl rfl (by kernel_rfl) (by kernel_rfl) (zd rfl) ?_
     refine ahp 6 rfl rfl (by kernel_rfl) (by kernel_rfl) (zjj (h := j) zR ty3 rfl ⟨_, _, rfl, rfl⟩ (by omega)) ?_
     refine ahe 7 rfl (by kernel_rfl) ?_
     refine zA rfl (zmQ (k := 0) (off := 0) (d := j) (s := j) (es := (zbs v n j).map (HVal.int .i64)) zR ty3 rfl (by unfold zfo; rw [if_neg (by omega)]; omega) rfl rfl hrl.symm (by simp [zl]) (zkN _) (by rw [hrl]; omega) (by rw [hrl]; exact hjm) ?_)
     refine ⟨fun _ => .inl trivial, ?_⟩
     refine ahp 8 rfl rfl (by kernel_rfl) (by kernel_rfl) (zv rfl rfl (by omega) (by omega)) ?_
     refine ahp 9 rfl rfl (by kernel_rfl) (by kernel_rfl) (zaK rfl) ?_
     refine ahz (by kernel_rfl) ?_
     refine zz ?_
     exact ⟨j + Nat.min j (n - j), ⟨hjm, by omega⟩, by dsimp only; omega, ⟨rfl, trivial⟩, (by repeat (first | exact zp | refine zu rfl ?_ | refine zq rfl rfl ?_)), zT (by dsimp only; rw [← zoH hj1 hjm, List.map_append, List.map_append, List.map_take, List.map_take, List.map_drop]; rfl)⟩
    ·try simp at h4
     rw [zfM hj] at h4
     obtain rfl : j = n := by omega
     refine zN ?_
     refine zS ?_
     refine zag ?_
     refine zE ?_
     refine ze ?_
     refine zb ?_
     refine dmv rfl ?_
     refine das rfl ?_
     refine dn ?_
     refine zo ?_
     refine zbG rfl ⟨_, rfl, ?_⟩
     rw [zmx]

set_option maxHeartbeats 1000000 in
/-- benchwarmer/trade.points -/
theorem zke [Tracks] {w : List WantS} {g : List Bool} (hw : w.length ≤ 500) (hs : SortedS (w.map (·.Player))) (hf : ∀ x ∈ w, x.For.length ≤ 1000000) (hgl : g.length = w.length) : ziW Tryz.prog 81 [za1 w, .slice 1 (g.map .bool)] 1 (((zaF w g).map (HVal.int .i64))) := by
 have hPl := zbq (w := w) (g := g)
 refine Con.of_body Tryz.func81 rfl Tryz.ntmps81 rfl rfl ?_
 refine zb ?_
 refine das rfl ?_
 refine dn ?_
 refine zb ?_
 refine dq (zM (hs := [_]) zR ty3 rfl rfl (by decide) (by decide) rfl) ?_
 refine dmv rfl ?_
 refine dq (zB zaP rfl) ?_
 refine de rfl (zel zqy rfl (WeakL.refl _) (zdS (v := -1) (n := w.length) (by omega)) fun v14 => ?_)
 refine das rfl ?_
 refine dn ?_
 refine zf ?_
 refine zb ?_
 refine dmv rfl ?_
 refine dq (zB zaP rfl) ?_
 refine dmv rfl ?_
 refine dn ?_
 refine zm ?_
 refine z8 [6, 7, 9, 10, 17, 18, 19, 20, 21, 22, 23, 24, 25, 26, 27, 28, 29, 30, 31, 32, 33, 34, 35, 36, 37, 38, 39, 40, 41, 42, 43, 44, 45, 46, 47, 48, 49, 50] (fun (k : Nat) => [(17, .int .i64 k)]) (fun (k : Nat) => [.arr v14 1 ((zdW (zaF w g) w.length k).map (HVal.int .i64))]) (fun (k : Nat) => k ≤ w.length ∧ (True)) (fun (k : Nat) => w.length - k) (0) ?_ ?_ ?_ ?_
 ·exact ⟨Nat.zero_le _, trivial⟩
 ·exact ⟨rfl, trivial⟩
 ·exact zT (by rw [zpa])
 ·intro k hinv
  obtain ⟨hk, -⟩ := hinv
  refine zb ?_
  refine dq (zJ rfl rfl) ?_
  refine dn ?_
  refine zf ?_
  refine zj rfl (fun h1 => ?_) (fun h2 => ?_)
  ·try simp at h1
   obtain ⟨x, hx⟩ : ∃ x, w[k]? = some x := ⟨_, List.getElem?_eq_getElem h1⟩
   have hdx := zK hx
   have hfx := hf x (List.mem_of_getElem? hx)
   obtain ⟨gk, hgk⟩ : ∃ b, g[k]? = some b := ⟨_, List.getElem?_eq_getElem (by omega)⟩
   have hgd : g.getD k false = gk := by rw [List.getD_eq_getElem?_getD, hgk]; rfl
   have hwx : w.getD k zbQ = x := by rw [List.getD_eq_getElem?_getD, hx]; rfl
   have hPk := zgL (w := w) (g := g) (i := k) (by omega)
   refine zk ?_
   refine ze ?_
   refine zf ?_
   refine zm ?_
   refine zb ?_
   refine dmv rfl ?_
   refine dq (zH zaP zU rfl rfl rfl (by first | assumption | simp_all)) ?_
   refine dq (zY zU rfl rfl rfl rfl) ?_
   refine de rfl (zab zU rfl fun b7 => ?_)
   refine das rfl ?_
   refine de0 (zao zU rfl rfl rfl rfl rfl ?_)
   refine dn ?_
   refine zO (Ghost.fc0 7 rfl) ?_
   refine zf ?_
   refine zb ?_
   refine dmv rfl ?_
   refine dmv rfl ?_
   refine dq (zH (j := k) (a := gk) zcv ty4 rfl rfl rfl hgk) ?_
   refine dq (zi ty4 rfl rfl rfl) ?_
   refine dn ?_
   refine zj rfl (fun h3 => ?_) (fun h4 => ?_)
   ·try simp at h3
    refine zN ?_
    refine zS ?_
    refine zE ?_
    refine ze ?_
    refine zy ?_
    refine dq (zv rfl rfl (by omega) (by omega)) ?_
    refine dmv rfl ?_
    refine dn ?_
    exact ⟨k + 1, ⟨by omega, trivial⟩, by dsimp only; omega, ⟨rfl, trivial⟩, (by repeat (first | exact zp | refine zu rfl ?_ | refine zq rfl rfl ?_)), zT (by dsimp only; rw [zla hPl (by rw [hPk, zbA, if_pos (by rw [hgd]; simp_all)])])⟩
   ·try simp at h4
    refine zk ?_
    refine ze ?_
    refine zb ?_
    refine dq ((by first | exact zg zU rfl zF (by decide) rfl | exact zn zU rfl zF (by decide) rfl)) ?_
    refine dq (zi zF rfl rfl rfl) ?_
    refine dq (zB zF rfl) ?_
    refine dmv rfl ?_
    refine dn ?_
    refine zm ?_
    refine z8 [9, 10, 29, 30, 31, 32, 33, 34, 35, 36, 37, 38, 39, 40, 41, 42, 43, 44, 45, 46, 47, 48, 49] (fun (j : Nat) => [(29, .int .i64 j)]) (fun (j : Nat) => [.arr v14 1 ((zdW (zaF w g) w.length k).map (HVal.int .i64))]) (fun (j : Nat) => j ≤ x.For.length ∧ (zew w g x.For = zew w g (x.For.drop j))) (fun (j : Nat) => x.For.length - j) (0) ?_ ?_ ?_ ?_
    ·exact ⟨Nat.zero_le _, rfl⟩
    ·exact ⟨rfl, trivial⟩
    ·exact List.Perm.refl _
    ·intro j hinv
     obtain ⟨hj, hj2⟩ := hinv
     refine zb ?_
     refine dq (zJ rfl rfl) ?_
     refine dn ?_
     refine zf ?_
     refine zj rfl (fun h5 => ?_) (fun h6 => ?_)
     ·try simp at h5
      obtain ⟨y, hy⟩ : ∃ y, x.For[j]? = some y := ⟨_, List.getElem?_eq_getElem h5⟩
      have hdy := zK hy
      rw [hdy] at hj2
      refine zk ?_
      refine ze ?_
      refine zf ?_
      refine zm ?_
      refine zb ?_
      refine dq (zH zF ty9 rfl rfl rfl (by first | assumption | simp_all)) ?_
      refine dq (zi ty9 rfl rfl rfl) ?_
      refine das rfl ?_
      refine dn ?_
      have hfb := zmi hs (s := y)
      refine zb ?_
      refine dmv rfl ?_
      refine dmv rfl ?_
      refine dq (zw ca51 rfl (WeakL.refl _) (zhs (w := w) (s := y) (by omega) hs)) ?_
      refine das rfl ?_
      refine dn ?_
      refine zb ?_
      refine dmv rfl ?_
      refine dq (zbw rfl rfl) ?_
      refine dmv rfl ?_
      refine dg rfl rfl (fun hc => ⟨_, OpenTo.refl _, zd rfl⟩) ?_
      refine dg rfl rfl (fun hc => ⟨_, OpenTo.refl _, zd rfl⟩) ?_
      refine dg rfl rfl (fun hc => by
       have hf0 : 0 ≤ zba w y := by simpa using hc
       exact ⟨_, OpenTo.upd (t := 40) rfl (by first | exact hc | simp_all) (OpenTo.upd (t := 39) rfl (by first | exact hc | simp_all) (OpenTo.refl _)), zH (j := (zba w y).toNat) (a := g.getD (zba w y).toNat false) zcv ty4 rfl rfl (by omega) (getD_some (by omega))⟩) ?_
      refine dg rfl rfl (fun hc => ⟨_, OpenTo.upd (t := 41) rfl (by first | exact hc | simp_all) (OpenTo.refl _), zi ty4 rfl rfl rfl⟩) ?_
      refine dg rfl rfl (fun hc => ⟨_, OpenTo.upd (t := 42) rfl (by first | exact hc | simp_all) (OpenTo.refl _), zaw rfl⟩) ?_
      refine dq (zL rfl (.inr ⟨_, rfl, fun h => by simp_all⟩) (.inl rfl)) ?_
      refine dn ?_
      refine zj rfl (fun h7 => ?_) (fun h8 => ?_)
      ·try simp at h7
       have hpk : zbA w g k = zba w y := by rw [zbA, if_neg (by rw [hgd]; simp_all), hwx, hj2, zew, if_pos (by rw [List.getD_eq_getElem?_getD]; exact h7)]
       refine zc1 (i := 0) rfl (fun h0 he => ?_) (fun gb off cap hv hcap => ?_)
       ·exfalso
        have h9 : (zdW (zaF w g) w.length k).length = 0 := by rw [← List.length_map (f := HVal.int .i64), he]; rfl
        rw [zlR hPl hk] at h9; omega
       rw [List.length_map, zlR hPl hk] at hv hcap
       subst hv
       refine zb ?_
       refine dmv rfl ?_
       refine dmv rfl ?_
       refine dmv rfl ?_
       refine dq (zak (j := k) zR ty3 rfl rfl rfl (by omega)) ?_
       refine de0 (zaQ (i := 0) (j := k) (f := 0) (y := .int .i64 (-1)) (y' := .int .i64 (zba w y)) ty3 rfl (by omega) rfl rfl (zcn (zl9 hPl (by omega))) rfl rfl (by simp [zl]) rfl ?_)
       refine dn ?_
       refine zN ?_
       refine ze7 rfl ?_
       refine zS ?_
       refine zag ?_
       refine zE ?_
       refine zz ?_
       refine ze ?_
       refine zy ?_
       refine dq (zv rfl rfl (by omega) (by omega)) ?_
       refine dmv rfl ?_
       refine dn ?_
       exact ⟨k + 1, ⟨by omega, trivial⟩, by dsimp only; omega, ⟨rfl, trivial⟩, (by repeat (first | exact zp | refine zu rfl ?_ | refine zq rfl rfl ?_)), zT (by dsimp only; rw [← zl0 hPl (hPk.trans (congrArg some hpk)), List.map_set]; rfl)⟩
      ·try simp at h8
       refine zk ?_
       refine zz ?_
       refine ze ?_
       refine zy ?_
       refine dq (zv rfl rfl (by omega) (by omega)) ?_
       refine dmv rfl ?_
       refine dn ?_
       exact ⟨j + 1, ⟨by omega, by rw [hj2, zew, if_neg (by simp_all)]⟩, by dsimp only; omega, ⟨rfl, trivial⟩, (by repeat (first | exact zp | refine zu rfl ?_ | refine zq rfl rfl ?_)), List.Perm.refl _⟩
     ·try simp at h6
      have hnj : x.For.length ≤ j := by omega
      obtain rfl : j = x.For.length := by omega
      rw [z6 (Nat.le_refl _)] at hj2
      refine zN ?_
      refine zS ?_
      refine zag ?_
      refine zE ?_
      refine zz ?_
      refine ze ?_
      refine zy ?_
      refine dq (zv rfl rfl (by omega) (by omega)) ?_
      refine dmv rfl ?_
      refine dn ?_
      exact ⟨k + 1, ⟨by omega, trivial⟩, by dsimp only; omega, ⟨rfl, trivial⟩, (by repeat (first | exact zp | refine zu rfl ?_ | refine zq rfl rfl ?_)), zT (by dsimp only; rw [zla hPl (by rw [hPk, zbA, if_neg (by rw [hgd]; simp_all), hwx, hj2]; rfl)])⟩
  ·try simp at h2
   have hnk : w.length ≤ k := by omega
   obtain rfl : k = w.length := by omega
   refine zN ?_
   refine zS ?_
   refine zag ?_
   refine zE ?_
   refine ze ?_
   refine zb ?_
   refine dmv rfl ?_
   refine das rfl ?_
   refine dn ?_
   refine zo ?_
   refine zbG rfl ⟨_, rfl, ?_⟩
   rw [zpL hPl]

set_option maxHeartbeats 1000000 in
/-- benchwarmer/trade.drop -/
theorem zmz [Tracks] {w : List WantS} {g : List Bool} {gv : Value} (hw : w.length ≤ 500) (hs : SortedS (w.map (·.Player))) (hf : ∀ x ∈ w, x.For.length ≤ 1000000) (hgl : g.length = w.length) : Con Tryz.prog 50 [za1 w, .raw gv] [.arr gv 1 (g.map .bool)] (fun x M' => ∃ G : List Bool, x = .slice 1 ((zaF w G).map (HVal.int .i64)) ∧ CoreG w g G ∧ M' = [.arr gv 1 (G.map .bool)]) := by
 refine Con.of_body Tryz.func50 rfl Tryz.ntmps50 rfl rfl ?_
 refine zb ?_
 refine das rfl ?_
 refine dn ?_
 refine zm ?_
 refine z8 [4, 5, 6, 7, 8, 9, 10, 11, 12, 13, 14, 15, 16, 17, 18, 19, 20, 21, 22, 23, 24, 25, 26, 27, 28, 29, 30, 31, 32, 33, 34] (fun (h : List Bool) => []) (fun (h : List Bool) => [.arr gv 1 (h.map .bool)]) (fun (h : List Bool) => h.length = w.length ∧ ∀ G, CoreG w g G ↔ CoreG w h G) (fun (h : List Bool) => zaR h) (g) ?_ ?_ ?_ ?_
 ·exact ⟨hgl, fun _ => Iff.rfl⟩
 ·exact trivial
 ·exact List.Perm.refl _
 ·intro h hinv
  obtain ⟨hhl, hco⟩ := hinv
  refine zm ?_
  refine zb ?_
  refine dmv rfl ?_
  refine dmv rfl ?_
  refine de rfl (zoi (hs' := [za1 w, .slice 1 (h.map .bool)]) ca81 rfl ⟨.weak (Weak.refl _), .arr (i := 0) rfl, trivial⟩ (zke (w := w) (g := h) hw hs hf hhl) (by simp [zl, zen, zdY]) fun v10 => ?_)
  refine das rfl ?_
  refine das rfl ?_
  refine dn ?_
  refine zO (Ghost.fa 5 (i := 0) rfl rfl) ?_
  have hPl := zbq (w := w) (g := h)
  refine zf ?_
  refine zb ?_
  refine dmv rfl ?_
  refine dq (zB zaP rfl) ?_
  refine dmv rfl ?_
  refine dn ?_
  refine zm ?_
  refine zcI [6, 7, 13, 14, 15, 16, 17, 18, 19, 20, 21, 22, 23, 24, 25, 26, 27, 28, 29, 30, 31] (fun (k : Nat) (hB : List Bool) (sm : Bool) => [(13, .int .i64 k), (6, .bool sm)]) (fun (k : Nat) (hB : List Bool) (sm : Bool) => [.arr gv 1 (hB.map .bool)]) (fun (k : Nat) (hB : List Bool) (sm : Bool) => k ≤ w.length ∧ (DropI w h hB k sm)) (fun (k : Nat) (hB : List Bool) (sm : Bool) => w.length - k) (0) (h) (false) ?_ ?_ ?_ ?_
  ·exact ⟨Nat.zero_le _, DropI.start hhl⟩
  ·exact ⟨rfl, rfl, trivial⟩
  ·exact List.Perm.refl _
  ·intro k hB sm hinv
   obtain ⟨hk, hd⟩ := hinv
   refine zb ?_
   refine dq (zJ rfl rfl) ?_
   refine dn ?_
   refine zf ?_
   refine zj rfl (fun h1 => ?_) (fun h2 => ?_)
   ·try simp at h1
    obtain ⟨x, hx⟩ : ∃ x, w[k]? = some x := ⟨_, List.getElem?_eq_getElem h1⟩
    have hdx := zK hx
    have h2l := hd.len
    obtain ⟨gk, hgk⟩ : ∃ b, hB[k]? = some b := ⟨_, List.getElem?_eq_getElem (by omega)⟩
    have hgd : hB.getD k false = gk := by rw [List.getD_eq_getElem?_getD, hgk]; rfl
    refine zc1 (i := 0) rfl (fun h0 he => ?_) (fun gb off cap hv hcap => ?_)
    ·exfalso
     have h9 : hB.length = 0 := by rw [← List.length_map (f := HVal.bool), he]; rfl
     omega
    rw [List.length_map] at hv hcap
    subst hv
    refine zk ?_
    refine ze ?_
    refine zf ?_
    refine zm ?_
    refine zb ?_
    refine dmv rfl ?_
    refine das rfl ?_
    refine dn ?_
    refine zb ?_
    refine dmv rfl ?_
    refine dmv rfl ?_
    refine dq (zak (j := k) zcv ty4 rfl rfl rfl (by omega)) ?_
    refine de rfl (za5 (i := 0) (j := k) 0 ty4 rfl (by omega) rfl hgk rfl rfl ?_)
    refine dq (zaw rfl) ?_
    refine dmv rfl ?_
    refine dg rfl rfl (fun hc => ⟨_, OpenTo.refl _, zd rfl⟩) ?_
    refine dg rfl rfl (fun hc => ⟨_, OpenTo.refl _, zd rfl⟩) ?_
    refine dg rfl rfl (fun hc => by have hq := hc; (try simp at hq); exact ⟨_, OpenTo.upd (t := 23) rfl (by first | exact hc | simp_all) (OpenTo.upd (t := 22) rfl (by first | exact hc | simp_all) (OpenTo.refl _)), zH (j := k) (a := zbA w h k) zR ty3 rfl rfl rfl (zgL (by omega))⟩) ?_
    refine dg rfl rfl (fun hc => ⟨_, OpenTo.upd (t := 24) rfl (by first | exact hc | simp_all) (OpenTo.refl _), zi ty3 rfl rfl rfl⟩) ?_
    refine dg rfl rfl (fun hc => ⟨_, OpenTo.upd (t := 25) rfl (by first | exact hc | simp_all) (OpenTo.refl _), zJ rfl rfl⟩) ?_
    refine dq (zL rfl (.inr ⟨_, rfl, fun h => by simp_all⟩) (.inl rfl)) ?_
    refine dn ?_
    refine zj rfl (fun h3 => ?_) (fun h4 => ?_)
    ·try simp at h3
     refine zy ?_
     refine dmv rfl ?_
     refine dmv rfl ?_
     refine dq (zak (j := k) zcv ty4 rfl rfl rfl (by omega)) ?_
     refine de0 (zaQ (i := 0) (j := k) (f := 0) (y := .bool gk) (y' := .bool true) ty4 rfl (by omega) rfl rfl (zcn hgk) rfl rfl (by simp [zl]) rfl ?_)
     refine das rfl ?_
     refine dn ?_
     refine zz ?_
     refine ze ?_
     refine zy ?_
     refine dq (zv rfl rfl (by omega) (by omega)) ?_
     refine dmv rfl ?_
     refine dn ?_
     exact ⟨k + 1, hB.set k true, true, ⟨by omega, hd.set (by omega) (by rw [hgd]; simp_all) (by simp_all)⟩, by dsimp only; omega, ⟨rfl, rfl, trivial⟩, (by repeat (first | exact zp | refine zu rfl ?_ | refine zq rfl rfl ?_)), zT (by dsimp only; rw [List.map_set]; rfl)⟩
    ·try simp at h4
     refine zk ?_
     refine zz ?_
     refine ze ?_
     refine zy ?_
     refine dq (zv rfl rfl (by omega) (by omega)) ?_
     refine dmv rfl ?_
     refine dn ?_
     exact ⟨k + 1, hB, sm, ⟨by omega, hd.skip (by rw [hgd]; by_cases hq : gk = true <;> simp_all)⟩, by dsimp only; omega, ⟨rfl, rfl, trivial⟩, (by repeat (first | exact zp | refine zu rfl ?_ | refine zq rfl rfl ?_)), List.Perm.refl _⟩
   ·try simp at h2
    have hnk : w.length ≤ k := by omega
    obtain rfl : k = w.length := by omega
    refine zN ?_
    refine zS ?_
    refine zdu ?_
    refine zE ?_
    refine ze ?_
    refine zb ?_
    refine dmv rfl ?_
    refine dq (zaw rfl) ?_
    refine dn ?_
    refine zj rfl (fun h5 => ?_) (fun h6 => ?_)
    ·try simp at h5
     refine zb ?_
     refine dmv rfl ?_
     refine das rfl ?_
     refine dn ?_
     refine zo ?_
     have hsm : sm = false := by first | assumption | simp_all
     subst hsm
     obtain ⟨hc1, hc2⟩ := hd.done
     subst hc2
     exact zbG rfl ⟨_, rfl, (hco _).2 hc1, rfl⟩
    ·try simp at h6
     refine zk ?_
     refine zz ?_
     exact ⟨hB, ⟨hd.len, fun G => (hco G).trans (hd.next G)⟩, hd.lt (by first | assumption | simp_all), trivial, (by repeat (first | exact zp | refine zu rfl ?_ | refine zq rfl rfl ?_)), List.Perm.refl _⟩

set_option maxHeartbeats 1000000 in
/-- benchwarmer/trade.ring -/
theorem zmH [Tracks] {to : List Int} {g : List Bool} {gv : Value} (hn : to.length ≤ 500) (hgl : g.length = to.length) (hc : ClosedT to g) : Con Tryz.prog 49 [.slice 1 (to.map (HVal.int .i64)), .raw gv] [.arr gv 1 (g.map .bool)] (fun x M' => x = znB (zam to g to.length) ∧ M' = [.arr gv 1 (g.map .bool)]) := by
 refine Con.of_body Tryz.func49 rfl Tryz.ntmps49 rfl rfl ?_
 refine zb ?_
 refine das rfl ?_
 refine dn ?_
 refine zf ?_
 refine zb ?_
 refine dmv rfl ?_
 refine dq (zB zR rfl) ?_
 refine dmv rfl ?_
 refine dn ?_
 refine zm ?_
 refine z8 [4, 5, 6, 7, 10, 11, 12, 13, 14, 15, 16, 17, 18, 19, 20, 21, 22, 23, 24, 25, 26, 27, 28, 29, 30, 31, 32, 33, 34, 35, 36, 37, 38, 39, 40, 41, 42, 43, 44, 45, 46, 47] (fun (k : Nat) => [(10, .int .i64 k)]) (fun (k : Nat) => [.arr gv 1 (g.map .bool)]) (fun (k : Nat) => k ≤ to.length ∧ (zam to g to.length = zcC to g to.length k (to.length - k))) (fun (k : Nat) => to.length - k) (0) ?_ ?_ ?_ ?_
 ·exact ⟨Nat.zero_le _, rfl⟩
 ·exact ⟨rfl, trivial⟩
 ·exact List.Perm.refl _
 ·intro k hinv
  obtain ⟨hk, hg⟩ := hinv
  refine zb ?_
  refine dq (zJ rfl rfl) ?_
  refine dn ?_
  refine zf ?_
  refine zj rfl (fun h1 => ?_) (fun h2 => ?_)
  ·try simp at h1
   obtain ⟨x, hx⟩ : ∃ x, to[k]? = some x := ⟨_, List.getElem?_eq_getElem h1⟩
   have hdx := zK hx
   obtain ⟨gk, hgk⟩ : ∃ b, g[k]? = some b := ⟨_, List.getElem?_eq_getElem (by omega)⟩
   have hgd : g.getD k false = gk := by rw [List.getD_eq_getElem?_getD, hgk]; rfl
   have hxd : to.getD k 0 = x := by rw [List.getD_eq_getElem?_getD, hx]; rfl
   rw [show to.length - k = (to.length - (k + 1)) + 1 by omega, zcC] at hg
   refine zc1 (i := 0) rfl (fun h0 he => ?_) (fun gb off cap hv hcap => ?_)
   ·exfalso
    have h9 : g.length = 0 := by rw [← List.length_map (f := HVal.bool), he]; rfl
    omega
   rw [List.length_map] at hv hcap
   subst hv
   refine zk ?_
   refine ze ?_
   refine zf ?_
   refine zm ?_
   refine zb ?_
   refine dmv rfl ?_
   refine das rfl ?_
   refine dn ?_
   refine zf ?_
   refine zb ?_
   refine dmv rfl ?_
   refine dmv rfl ?_
   refine dq (zak (j := k) zcv ty4 rfl rfl rfl (by omega)) ?_
   refine de rfl (za5 (i := 0) (j := k) 0 ty4 rfl (by omega) rfl hgk rfl rfl ?_)
   refine dn ?_
   refine zj rfl (fun h3 => ?_) (fun h4 => ?_)
   ·try simp at h3
    refine zN ?_
    refine zS ?_
    refine zE ?_
    refine ze ?_
    refine zy ?_
    refine dq (zv rfl rfl (by omega) (by omega)) ?_
    refine dmv rfl ?_
    refine dn ?_
    exact ⟨k + 1, ⟨by omega, by rw [hg, if_neg (by rw [hgd]; simp_all)]⟩, by dsimp only; omega, ⟨rfl, trivial⟩, (by repeat (first | exact zp | refine zu rfl ?_ | refine zq rfl rfl ?_)), List.Perm.refl _⟩
   ·try simp at h4
    refine zk ?_
    refine ze ?_
    refine zb ?_
    refine dmv rfl ?_
    refine de rfl (zf8 (hs := [_]) zR ty3 rfl rfl (by decide) (by decide) rfl fun v18 => ?_)
    refine das rfl ?_
    refine dn ?_
    refine zf ?_
    refine zb ?_
    refine dmv rfl ?_
    refine dmv rfl ?_
    refine dq (zH (j := k) (a := x) zR ty3 rfl rfl rfl hx) ?_
    refine dq (zi ty3 rfl rfl rfl) ?_
    refine das rfl ?_
    refine dn ?_
    refine zm ?_
    refine zcI [6, 7, 23, 24, 25, 26, 27, 28, 29, 30, 31, 32, 33, 34] (fun (u : Value) (L : List Int) (kk : Int) => [(6, .raw u), (7, .int .i64 kk)]) (fun (u : Value) (L : List Int) (kk : Int) => [.arr u 1 (L.map (HVal.int .i64)), .arr (.slice (some ⟨gb, off, none⟩) g.length cap) 1 (g.map .bool)]) (fun (u : Value) (L : List Int) (kk : Int) => WalkI to g k L kk) (fun (u : Value) (L : List Int) (kk : Int) => to.length + 1 - L.length) (v18) ([(k : Int)]) (x) ?_ ?_ ?_ ?_
    ·rw [← hxd]; exact WalkI.start hc (by omega) (by rw [hgd]; simp_all)
    ·exact ⟨rfl, rfl, trivial⟩
    ·exact List.Perm.refl _
    ·intro u L kk hW
     refine zf ?_
     refine zb ?_
     refine dmv rfl ?_
     refine dmv rfl ?_
     refine de rfl (zh0 (hs' := [.slice 1 (L.map (HVal.int .i64)), .int .i64 kk]) ca80 rfl ⟨.arr (i := 0) rfl, .weak (Weak.refl _), trivial⟩ (zfu (l := L) (z := kk) (by have := hW.len; omega)) rfl ?_)
     refine dq (zaw rfl) ?_
     refine dn ?_
     refine zj rfl (fun h5 => ?_) (fun h6 => ?_)
     ·try simp at h5
      have hcn : L.contains kk = false := by simpa using h5
      refine zk ?_
      refine ze ?_
      refine zf ?_
      refine zm ?_
      refine zy ?_
      refine dmv rfl ?_
      refine dmv rfl ?_
      refine dq (zM (hs := [_]) zR ty3 rfl rfl (by decide) (by decide) rfl) ?_
      refine de rfl (zah (i := 0) zR ty3 rfl rfl rfl rfl rfl (by simp [zaD, zl]) (by have := hW.len; simp; omega) fun v34 => ?_)
      refine das rfl ?_
      refine dn ?_
      refine zz ?_
      refine ze ?_
      refine zy ?_
      refine dmv rfl ?_
      refine dmv rfl ?_
      obtain ⟨nb, hnb1, hnb2, hnb3⟩ := hW.at'
      obtain ⟨ny, hny⟩ : ∃ y, to[nb]? = some y := ⟨_, List.getElem?_eq_getElem hnb2⟩
      refine dq (zH (j := nb) (a := ny) zR ty3 rfl rfl hnb1 hny) ?_
      refine dq (zi ty3 rfl rfl rfl) ?_
      refine das rfl ?_
      refine dn ?_
      exact ⟨v34, L ++ [kk], ny, by have := hW.step hc hcn; rw [show to.getD kk.toNat 0 = ny by rw [hnb1, Int.toNat_natCast, List.getD_eq_getElem?_getD, hny]; rfl] at this; exact this, by have := hW.len; dsimp only; simp; omega, ⟨rfl, rfl, trivial⟩, (by repeat (first | exact zp | refine zu rfl ?_ | refine zq rfl rfl ?_)), zT (by dsimp only; simp)⟩
     ·try simp at h6
      have hcn : L.contains kk = true := by simpa using h6
      refine zN ?_
      refine zS ?_
      refine zdu ?_
      refine zE ?_
      refine ze ?_
      have hdn := hW.done (by simpa using hcn)
      obtain ⟨lb, hlb, hlb2, hlb3, hlb4⟩ := hW.last
      obtain ⟨ly, hly⟩ : ∃ y, to[lb]? = some y := ⟨_, List.getElem?_eq_getElem hlb3⟩
      have hLp : 0 < L.length := List.length_pos_iff.2 hW.ne
      have hir : zd0 to to.length k = (ly == (k : Int)) := by unfold zd0; rw [hdn, hlb2, Int.toNat_natCast, List.getD_eq_getElem?_getD, hly]; rfl
      have hLn := hW.len
      refine zO (Ghost.fa 6 (i := 0) rfl rfl) ?_
      refine zb ?_
      refine dmv rfl ?_
      refine dmv rfl ?_
      refine dmv rfl ?_
      refine dq (zB (f := HVal.int .i64) (l := L) zR rfl) ?_
      refine dq (zay rfl rfl (by omega) (by omega)) ?_
      refine dq (zH (j := L.length - 1) (a := (lb : Int)) zR ty3 rfl rfl (by omega) hlb) ?_
      refine dq (zi ty3 rfl rfl rfl) ?_
      refine dq (zH (j := lb) (a := ly) zR ty3 rfl rfl rfl hly) ?_
      refine dq (zi ty3 rfl rfl rfl) ?_
      refine dmv rfl ?_
      refine dq (zaJ rfl rfl) ?_
      refine dn ?_
      refine zj rfl (fun h7 => ?_) (fun h8 => ?_)
      ·try simp at h7
       refine zb ?_
       refine dmv rfl ?_
       refine das rfl ?_
       refine dn ?_
       refine zo ?_
       first
       | (refine zbG rfl ⟨?_, rfl⟩
          rw [hg]; rfl
          done)
       | (refine zbG rfl ⟨?_, rfl⟩
          rw [hg, if_pos ⟨by rw [hgd]; assumption, by rw [hir]; simp_all⟩, hdn, zj9 hW.ne])
      ·try simp at h8
       refine zk ?_
       refine zz ?_
       refine ze ?_
       refine zy ?_
       refine dq (zv rfl rfl (by omega) (by omega)) ?_
       refine dmv rfl ?_
       refine dn ?_
       exact ⟨k + 1, ⟨by omega, by rw [hg, if_neg (by rw [hir]; simp_all)]⟩, by dsimp only; omega, ⟨rfl, trivial⟩, (by repeat (first | exact zp | refine zu rfl ?_ | refine zq rfl rfl ?_)), List.Perm.refl _⟩
  ·try simp at h2
   have hnk : to.length ≤ k := by omega
   obtain rfl : k = to.length := by omega
   rw [Nat.sub_self, zcC] at hg
   refine zN ?_
   refine zS ?_
   refine zag ?_
   refine zE ?_
   refine ze ?_
   refine zb ?_
   refine das rfl ?_
   refine dn ?_
   refine zo ?_
   first
   | (refine zbG rfl ⟨?_, rfl⟩
      rw [hg]; rfl
      done)
   | (refine zbG rfl ⟨?_, rfl⟩
      rw [hg, if_pos ⟨by rw [hgd]; assumption, by rw [hir]; simp_all⟩, hdn, zj9 hW.ne])

set_option maxHeartbeats 2000000 in
/-- benchwarmer/trade.Rings -/
theorem zlz [Tracks] {m : MarketS} {o : List OwnerS} {w : List WantS} (ht : m.Teams.length ≤ 1000000) (ho : o.length ≤ 1000000) (hw : w.length ≤ 1000000) (hf : ∀ x ∈ w, x.For.length ≤ 1000000) : zaa Tryz.prog 13 [zaS m, zbd o, za1 w] (.tup [znV (zfN m o w), .int .i64 (zaj m o w)]) := by
 refine Con.of_body Tryz.func13 rfl Tryz.ntmps13 rfl rfl ?_
 refine zb ?_
 refine dq (zaL rfl rfl) ?_
 refine das rfl ?_
 refine das rfl ?_
 refine dn ?_
 refine zf ?_
 refine zb ?_
 refine dq (zY zW rfl rfl rfl rfl) ?_
 refine dmv rfl ?_
 refine dmv rfl ?_
 refine dq (zw zpY rfl (WeakL.refl _) (zdr ht ho hw hf)) ?_
 refine das rfl ?_
 refine dn ?_
 refine zb ?_
 refine dmv rfl ?_
 refine dq (za6 rfl rfl) ?_
 refine dn ?_
 refine zj rfl (fun h1 => ?_) (fun h2 => ?_)
 ·try simp at h1
  refine zb ?_
  refine dmv rfl ?_
  refine das rfl ?_
  refine das rfl ?_
  refine dn ?_
  refine zo ?_
  first
  | (refine ⟨_, [], Ghost.clear, _, _, rfl, zbC ?_ (Weak.refl _), rfl, rfl⟩
     rw [zfN, if_neg]
     ·exact zbX 1
     ·assumption)
  | (refine zbO ((Ghost.fa 6 (i := 1) rfl rfl).trans Ghost.clear) rfl ⟨?_, rfl⟩
     rw [zfN, if_pos hchk, hchk, zhA hG hre (by simpa using hRn)]
     rfl)
 ·try simp at h2
  refine zk ?_
  refine ze ?_
  have hchk : zaj m o w = 0 := by first | assumption | simp_all
  obtain ⟨_, hok⟩ := zep hchk
  have hw5 := hok.len
  refine zb ?_
  refine dmv rfl ?_
  refine dq (zB zaP rfl) ?_
  refine de rfl (zg4 (n := w.length) zcv ty4 rfl rfl rfl rfl rfl (by omega) fun b24 => ?_)
  refine das rfl ?_
  refine dn ?_
  refine zb ?_
  refine das rfl ?_
  refine dn ?_
  refine zO (Ghost.arr_nil 1) ?_
  refine zm ?_
  refine zcI [6, 7, 10, 11, 12, 14, 25, 26, 27, 28, 29, 30, 31, 32, 33, 34, 35, 36, 37, 38, 39, 40, 41, 42, 43, 44, 45, 46, 47, 48, 49, 50, 51, 52, 53, 54] (fun (ov : Value) (out : List (List Str)) (h : List Bool) => [(10, .raw ov)]) (fun (ov : Value) (out : List (List Str)) (h : List Bool) => [.arr (.slice (some ⟨b24, 0, none⟩) w.length w.length) 1 (h.map .bool), .arr ov 1 (out.map eSs)]) (fun (ov : Value) (out : List (List Str)) (h : List Bool) => h.length = w.length ∧ ze5 w h out ∧ out.length + zaR h ≤ w.length) (fun (ov : Value) (out : List (List Str)) (h : List Bool) => zaR h) (.slice none 0 0) ([]) (List.replicate w.length false) ?_ ?_ ?_ ?_
  ·exact ⟨by simp, zjY, by rw [zje]; simp⟩
  ·exact ⟨rfl, trivial⟩
  ·exact (by refine (List.Perm.swap _ _ _).trans (zT ?_); rw [List.map_replicate]; rfl)
  ·intro ov out h hinv
   obtain ⟨hhl, hre, hol⟩ := hinv
   refine zm ?_
   refine zb ?_
   refine dmv rfl ?_
   refine dmv rfl ?_
   refine de rfl (zh (i := 0) ca50 rfl (WeakL.refl _) rfl (zmz (w := w) (g := h) hok.len hok.srt hf hhl) ?_)
   rintro _ _ ⟨G, rfl, hG, rfl⟩
   refine dmv rfl ?_
   refine de rfl (zh (i := 0) ca49 rfl (WeakL.refl _) rfl (zmH (to := zaF w G) (g := G) (by rw [zbq]; exact hok.len) (by rw [zbq]; exact hG.len) (zc5 hok.srt hG)) ?_)
   rintro _ _ ⟨rfl, rfl⟩
   rw [zbq]
   refine das rfl ?_
   refine dn ?_
   refine zf ?_
   refine zb ?_
   refine dmv rfl ?_
   refine dq (zjO (l := (zam (zaF w G) G w.length)) zR rfl rfl) ?_
   refine dn ?_
   refine zj rfl (fun h3 => ?_) (fun h4 => ?_)
   ·have hRn := h3
    try simp at h3
    refine zb ?_
    refine dmv rfl ?_
    refine das rfl ?_
    refine das rfl ?_
    refine dn ?_
    refine zo ?_
    first
    | (refine ⟨_, [], Ghost.clear, _, _, rfl, zbC ?_ (Weak.refl _), rfl, rfl⟩
       rw [zfN, if_neg]
       ·exact zbX 1
       ·assumption)
    | (refine zbO ((Ghost.fa 6 (i := 1) rfl rfl).trans Ghost.clear) rfl ⟨?_, rfl⟩
       rw [zfN, if_pos hchk, hchk, zhA hG hre (by simpa using hRn)]
       rfl)
   ·have hRn := h4
    try simp at h4
    refine zk ?_
    refine ze ?_
    have hRne : (zam (zaF w G) G w.length) ≠ [] := by simpa using hRn
    simp only [zj9 hRne]
    have hrm := zmC (zc5 hok.srt hG)
    rw [zbq] at hrm
    have hRl := zml (zc5 hok.srt hG)
    rw [zbq] at hRl
    have hGl := hG.len
    have hlG := zi1 (by rw [hhl, hG.len]) hG.sub
    have hlt := zig hG.len (to := zaF w G) hRne
    refine zb ?_
    refine das rfl ?_
    refine dn ?_
    refine zO (Ghost.arr_nil 1) ?_
    refine zf ?_
    refine zb ?_
    refine dmv rfl ?_
    refine dq (zB zR rfl) ?_
    refine dmv rfl ?_
    refine dn ?_
    refine zm ?_
    refine zbf [12, 14, 35, 36, 37, 38, 39, 40, 41, 42, 43, 44, 45, 46, 47, 48, 49, 50] (fun (j : Nat) (nv : Value) => [(35, .int .i64 j), (12, .raw nv)]) (fun (j : Nat) (nv : Value) => [.arr nv 1 ((zdx w ((zam (zaF w G) G w.length).take j)).map .str), .arr (.slice (some ⟨b24, 0, none⟩) w.length w.length) 1 ((zbP G ((zam (zaF w G) G w.length).take j)).map .bool), .arr ov 1 (out.map eSs)]) (fun (j : Nat) (nv : Value) => j ≤ (zam (zaF w G) G w.length).length ∧ (True)) (fun (j : Nat) (nv : Value) => (zam (zaF w G) G w.length).length - j) (0) (.slice none 0 0) ?_ ?_ ?_ ?_
    ·exact ⟨Nat.zero_le _, trivial⟩
    ·exact ⟨rfl, rfl, trivial⟩
    ·exact List.Perm.refl _
    ·intro j nv hinv
     obtain ⟨hj, -⟩ := hinv
     refine zb ?_
     refine dq (zJ rfl rfl) ?_
     refine dn ?_
     refine zf ?_
     refine zj rfl (fun h5 => ?_) (fun h6 => ?_)
     ·try simp at h5
      obtain ⟨z, hz⟩ : ∃ z, (zam (zaF w G) G w.length)[j]? = some z := ⟨_, List.getElem?_eq_getElem h5⟩
      have hdz := zK hz
      obtain ⟨za, rfl, hza2, hza3⟩ := hrm z (List.mem_of_getElem? hz)
      obtain ⟨y, hy⟩ : ∃ y, w[za]? = some y := ⟨_, List.getElem?_eq_getElem hza2⟩
      have hyd : w.getD za zbQ = y := by rw [List.getD_eq_getElem?_getD, hy]; rfl
      obtain ⟨bz, hbz⟩ : ∃ b, (zbP G ((zam (zaF w G) G w.length).take j))[za]? = some b := ⟨_, List.getElem?_eq_getElem (by rw [zeW]; omega)⟩
      refine zk ?_
      refine ze ?_
      refine zf ?_
      refine zm ?_
      refine zb ?_
      refine dq (zH zR ty3 rfl rfl rfl (by first | assumption | simp_all)) ?_
      refine dq (zi ty3 rfl rfl rfl) ?_
      refine das rfl ?_
      refine dn ?_
      refine zb ?_
      refine dmv rfl ?_
      refine dmv rfl ?_
      refine dmv rfl ?_
      refine dq (zH (j := za) (a := y) zaP zU rfl rfl rfl hy) ?_
      refine dq ((by first | exact zg zU rfl ty9 (by decide) rfl | exact zn zU rfl ty9 (by decide) rfl)) ?_
      refine dq (zi ty9 rfl rfl rfl) ?_
      refine dq (zM (hs := [_]) zF ty9 rfl rfl (by decide) (by decide) rfl) ?_
      refine de rfl (zah (i := 0) zF ty9 rfl rfl rfl rfl rfl (by simp [zaD, zl]) (by simp [zdx]; omega) fun v46 => ?_)
      refine das rfl ?_
      refine dn ?_
      refine zy ?_
      refine dmv rfl ?_
      refine dmv rfl ?_
      refine dq (zak (j := za) zcv ty4 rfl rfl rfl hza2) ?_
      refine de0 (zaQ (i := 1) (j := za) (f := 0) (y := .bool bz) (y' := .bool true) ty4 rfl (by omega) rfl rfl (zcn hbz) rfl rfl (by simp [zl]) rfl ?_)
      refine dn ?_
      refine zz ?_
      refine ze ?_
      refine zy ?_
      refine dq (zv rfl rfl (by omega) (by omega)) ?_
      refine dmv rfl ?_
      refine dn ?_
      exact ⟨j + 1, v46, ⟨by omega, trivial⟩, by dsimp only; omega, ⟨rfl, rfl, trivial⟩, (by repeat (first | exact zp | refine zu rfl ?_ | refine zq rfl rfl ?_)), zT (by dsimp only; rw [zb3 hz, zod, zlk, Int.toNat_natCast, hyd, List.map_append, List.map_set]; rfl)⟩
     ·try simp at h6
      have hnj : (zam (zaF w G) G w.length).length ≤ j := by omega
      obtain rfl : j = (zam (zaF w G) G w.length).length := by omega
      refine zN ?_
      refine zS ?_
      refine zbr ?_
      refine zE ?_
      refine ze ?_
      rw [List.take_length]
      refine zO (Ghost.fa 12 (i := 0) rfl rfl) ?_
      refine zy ?_
      refine dmv rfl ?_
      refine dmv rfl ?_
      refine dq (zM (hs := [_]) zgh zF rfl rfl (by decide) (by decide) rfl) ?_
      refine de rfl (zah (i := 1) zgh zF rfl rfl rfl rfl rfl (by simp [zaD, zl]) (by simp; omega) fun v54 => ?_)
      refine das rfl ?_
      refine dn ?_
      refine zz ?_
      exact ⟨v54, out ++ [zdx w (zam (zaF w G) G w.length)], zbP G (zam (zaF w G) G w.length), ⟨by rw [zeW]; exact hGl, zlp hG hre hRne, by simp; omega⟩, by dsimp only; omega, ⟨rfl, trivial⟩, (by repeat (first | exact zp | refine zu rfl ?_ | refine zq rfl rfl ?_)), zT (by dsimp only; simp)⟩
end
end Go.Proofs.YtcihcbnjfclkbaaGreatDoor
namespace Go.HL
section
/-! ways by their heads -/
def zbU (al : Nat → Nat → Bool) (can : List (List Nat)) : Nat → List Nat → List Nat → Prop
 | _, _, [] => True
 | fr, g, k :: q => k ∈ fr :: can.getD fr [] ∧ al fr k = true ∧ k ∉ g ∧ zbU al can (fr + 1) (g ++ [k]) q
def zbe : Nat → List Nat → Int
 | _, [] => 0
 | fr, k :: q => (if k = fr then 0 else 1) + zbe (fr + 1) q
section
variable {al : Nat → Nat → Bool} {can : List (List Nat)}
theorem zcM : ∀ {q1 q2 : List Nat} {fr : Nat} {g : List Nat}, zbU al can fr g (q1 ++ q2) ↔ zbU al can fr g q1 ∧ zbU al can (fr + q1.length) (g ++ q1) q2
 | [], q2, fr, g => by simp [zbU]
 | k :: q1, q2, fr, g => by
   rw [List.cons_append, zbU, zbU, zcM (q1 := q1), List.length_cons, List.append_assoc, show fr + 1 + q1.length = fr + (q1.length + 1) by omega]
   simp only [List.singleton_append, and_assoc]
theorem zgj : ∀ {q1 q2 : List Nat} {fr : Nat}, zbe fr (q1 ++ q2) = zbe fr q1 + zbe (fr + q1.length) q2
 | [], q2, fr => by simp [zbe]
 | k :: q1, q2, fr => by
   rw [List.cons_append, zbe, zbe, zgj (q1 := q1), List.length_cons, show fr + 1 + q1.length = fr + (q1.length + 1) by omega]; omega
theorem zrh {fr : Nat} {g q : List Nat} {c : Int} (h : WayB al can fr g q c) : zbU al can fr g q ∧ c = zbe fr q := by
 induction h with
 | nil => exact ⟨trivial, rfl⟩
 | snoc h hk ha hn ih =>
   refine ⟨zcM.2 ⟨ih.1, hk, ha, hn, trivial⟩, ?_⟩
   rw [zgj, ← ih.2]; simp [zbe]
theorem zoI {fr : Nat} {g : List Nat} {q : List Nat} (h : zbU al can fr g q) : WayB al can fr g q (zbe fr q) := by
 have key : ∀ m, m ≤ q.length → WayB al can fr g (q.take m) (zbe fr (q.take m)) := by
  intro m
  induction m with
  | zero => intro _; exact .nil
  | succ m ih =>
    intro hm
    obtain ⟨k, hk⟩ : ∃ k, q[m]? = some k := ⟨_, List.getElem?_eq_getElem (by omega)⟩
    have e : q.take (m + 1) = q.take m ++ [k] := by rw [List.take_add_one, hk]; rfl
    have hl : (q.take m).length = m := by rw [List.length_take]; omega
    have e2 : q = (q.take m ++ [k]) ++ q.drop (m + 1) := by rw [← e, List.take_append_drop]
    rw [e2] at h
    obtain ⟨h1, _⟩ := zcM.1 h
    obtain ⟨_, h2, h3, h4, _⟩ := zcM.1 h1
    rw [e, zgj]
    have := WayB.snoc (ih (by omega)) h2 h3 h4
    simpa [zbe] using this
 have := key q.length (Nat.le_refl _)
 rwa [List.take_length] at this
theorem zfA {a2 : Nat → Nat → Bool} : ∀ {q : List Nat} {fr : Nat} {g : List Nat}, zbU al can fr g q → (∀ j k, q[j]? = some k → a2 (fr + j) k = true) → zbU a2 can fr g q
 | [], _, _, _, _ => trivial
 | k :: q, fr, g, ⟨h1, _, h3, h4⟩, h => ⟨h1, by simpa using h 0 k rfl, h3, zfA h4 fun j x hx => by
   have := h (j + 1) x (by simpa using hx)
   rwa [show fr + 1 + j = fr + (j + 1) by omega]⟩
theorem zgx : ∀ {q : List Nat} {fr : Nat} {g : List Nat}, zbU al can fr g q → ∀ j k, q[j]? = some k → al (fr + j) k = true ∧ k ∈ (fr + j) :: can.getD (fr + j) []
 | k :: q, fr, g, ⟨h1, h2, _, h4⟩, 0, x, hx => by
   simp at hx; subst hx; exact ⟨h2, h1⟩
 | k :: q, fr, g, ⟨_, _, _, h4⟩, j + 1, x, hx => by
   have := zgx h4 j x (by simpa using hx)
   rwa [show fr + 1 + j = fr + (j + 1) by omega] at this
theorem zil (hc : CanOk can) {q : List Nat} {fr : Nat} {g : List Nat} (h : zbU al can fr g q) (hl : fr + q.length ≤ can.length) : ∀ k ∈ q, k < can.length := fun k hk => by
 obtain ⟨j, hj⟩ := List.getElem?_of_mem hk
 have hjl : j < q.length := by
  rcases Nat.lt_or_ge j q.length with h | h
  ·exact h
  ·rw [List.getElem?_eq_none h] at hj; cases hj
 obtain ⟨_, h2⟩ := zgx h j k hj
 rcases List.mem_cons.1 h2 with e | e
 ·omega
 ·exact hc.lt _ _ e
theorem zjr : ∀ {q : List Nat} {fr : Nat} {g : List Nat}, g.Nodup → zbU al can fr g q → (g ++ q).Nodup := fun hg h => (zoI h).nodup hg
theorem zoA : ∀ {q : List Nat} {fr : Nat}, 0 ≤ zbe fr q ∧ zbe fr q ≤ q.length
 | [], _ => by simp [zbe]
 | k :: q, fr => by
   have := zoA (q := q) (fr := fr + 1)
   rw [zbe, List.length_cons]; split <;> omega
/-! what the table says, by heads -/
theorem zfb (hc : CanOk can) {g : List Nat} (hg : ∀ k ∈ g, k < can.length) (hn : g.Nodup) (hf : g.length ≤ can.length) (hb : zbJ al can g.length (zaV g) ≠ za9) :
 ∃ q, zbU al can g.length g q ∧ g.length + q.length = can.length ∧ zbe g.length q = zbJ al can g.length (zaV g) := by
 obtain ⟨q, h1, h2⟩ := (zmO (al := al) hc hg hn rfl hf).1 hb
 obtain ⟨h3, h4⟩ := zrh h1
 exact ⟨q, h3, h2, h4.symm⟩
theorem zkB (hc : CanOk can) {g : List Nat} (hg : ∀ k ∈ g, k < can.length) (hn : g.Nodup) {q : List Nat} (h : zbU al can g.length g q) (hq : g.length + q.length = can.length) : zbe g.length q ≤ zbJ al can g.length (zaV g) :=
 (zmO (al := al) hc hg hn rfl (by omega)).2 q _ (zoI h) hq
/-! whole ways -/
def zdo (can : List (List Nat)) (q : List Nat) : Prop := zbU (fun _ _ => true) can 0 [] q ∧ q.length = can.length
theorem zqB : ∀ (m fr : Nat) (g : List Nat), (∀ k ∈ g, k < fr) → zbU (fun _ _ => true) can fr g (List.range' fr m) ∧ zbe fr (List.range' fr m) = 0
 | 0, fr, g, _ => ⟨trivial, rfl⟩
 | m + 1, fr, g, hg => by
   obtain ⟨h1, h2⟩ := zqB m (fr + 1) (g ++ [fr]) fun k hk => by
    rcases List.mem_append.1 hk with h | h
    ·have := hg k h; omega
    ·rw [List.mem_singleton.1 h]; omega
   rw [List.range'_succ]
   exact ⟨⟨by simp, rfl, fun h => by have := hg fr h; omega, h1⟩, by rw [zbe, if_pos rfl, h2]; rfl⟩
def zeg (can : List (List Nat)) : Int := zbJ (fun _ _ => true) can 0 0
theorem zky (hc : CanOk can) : (∃ q, zdo can q ∧ zbe 0 q = zeg can) ∧ (∀ q, zdo can q → zbe 0 q ≤ zeg can) ∧ 0 ≤ zeg can := by
 have h1 : ∀ q, zdo can q → zbe 0 q ≤ zeg can := fun q h => zkB (g := []) hc (by simp) (by simp) h.1 (by simpa using h.2)
 obtain ⟨i1, i2⟩ := zqB (can := can) can.length 0 [] (by simp)
 have h0 : 0 ≤ zeg can := by
  have := h1 _ ⟨i1, by simp⟩
  rwa [i2] at this
 obtain ⟨q, q1, q2, q3⟩ := zfb (al := fun _ _ => true) (g := []) hc (by simp) (by simp) (by simp) (by show zeg can ≠ _; have : za9 = -1000 := rfl; omega)
 exact ⟨⟨q, ⟨q1, by simpa using q2⟩, q3⟩, h1, h0⟩
/-- A way does as a list of who stays says, as far as it goes. -/
def zfZ (m : Nat) (out : List Bool) (q : List Nat) : Prop := ∀ i k, i < m → q[i]? = some k → (i == k) = out.getD i false
def alS (known : Nat) (out : List Bool) (i k : Nat) : Bool := decide (known ≤ i) || ((i == k) == out.getD i false)
theorem zmK (hc : CanOk can) {m : Nat} {out : List Bool} : zbJ (alS m out) can 0 0 = zeg can ↔ ∃ q, zdo can q ∧ zbe 0 q = zeg can ∧ zfZ m out q := by
 obtain ⟨_, t2, t3⟩ := zky hc
 have nv : za9 = -1000 := rfl
 constructor
 ·intro h
  obtain ⟨q, q1, q2, q3⟩ := zfb (al := alS m out) (g := []) hc (by simp) (by simp) (by simp) (by show zbJ (alS m out) can 0 0 ≠ _; rw [h]; omega)
  refine ⟨q, ⟨zfA q1 fun _ _ _ => rfl, by simpa using q2⟩, q3.trans h, fun i k hi hk => ?_⟩
  have := (zgx q1 i k hk).1
  simp only [alS, List.length_nil, Nat.zero_add, Bool.or_eq_true, decide_eq_true_eq, beq_iff_eq] at this
  rcases this with e | e
  ·omega
  ·exact e
 ·rintro ⟨q, q1, q2, q3⟩
  have hw : zbU (alS m out) can 0 [] q := zfA q1.1 fun j k hk => by
   simp only [alS, Nat.zero_add, Bool.or_eq_true, decide_eq_true_eq, beq_iff_eq]
   by_cases h : m ≤ j
   ·exact .inl h
   ·exact .inr (q3 j k (by omega) hk)
  have h1 := zkB (g := []) hc (by simp) (by simp) hw (by simpa using q1.2)
  have h1' : zbe 0 q ≤ zbJ (alS m out) can 0 0 := h1
  obtain ⟨r, r1, r2, r3⟩ := zfb (al := alS m out) (g := []) hc (by simp) (by simp) (by simp) (by show zbJ (alS m out) can 0 0 ≠ _; omega)
  have h2 := t2 r ⟨zfA r1 fun _ _ _ => rfl, by simpa using r2⟩
  have r3' : zbe 0 r = zbJ (alS m out) can 0 0 := r3
  omega
/-! who stays -/
def stB (can : List (List Nat)) : Nat → List Bool
 | 0 => List.replicate can.length false
 | m + 1 => if zbJ (alS (m + 1) ((stB can m).set m true)) can 0 0 ≠ zeg can then ((stB can m).set m true).set m false else (stB can m).set m true
theorem zev : ∀ m, (stB can m).length = can.length
 | 0 => by simp [stB]
 | m + 1 => by rw [stB]; split <;> simp [zev m]
theorem zcK {l : List Bool} {i j : Nat} {a : Bool} (hi : i < l.length) : (l.set i a).getD j false = if i = j then a else l.getD j false := by
 rw [List.getD_eq_getElem?_getD, List.getD_eq_getElem?_getD, List.getElem?_set]
 by_cases h : i = j
 ·subst h; simp [hi]
 ·simp [h]
theorem zj8 {m : Nat} {out : List Bool} {a : Bool} {q : List Nat} (hm : m < out.length) : zfZ m (out.set m a) q ↔ zfZ m out q := by
 unfold zfZ
 constructor
 ·intro h i k hi hk
  have := h i k hi hk
  rwa [zcK hm, if_neg (by omega)] at this
 ·intro h i k hi hk
  rw [zcK hm, if_neg (by omega)]; exact h i k hi hk
theorem zl1 {m : Nat} {out : List Bool} {q : List Nat} : zfZ (m + 1) out q ↔ zfZ m out q ∧ ∀ k, q[m]? = some k → (m == k) = out.getD m false := by
 constructor
 ·exact fun h => ⟨fun i k hi => h i k (by omega), fun k hk => h m k (by omega) hk⟩
 ·rintro ⟨h1, h2⟩ i k hi hk
  rcases Nat.lt_succ_iff_lt_or_eq.1 hi with e | e
  ·exact h1 i k e hk
  ·subst e; exact h2 k hk
structure StaysOk (can : List (List Nat)) (m : Nat) (out : List Bool) : Prop where
 ex : ∃ q, zdo can q ∧ zbe 0 q = zeg can ∧ zfZ m out q
 no : ∀ j, j < m → out.getD j false = false → ∀ q, zdo can q → zbe 0 q = zeg can → zfZ j out q → q[j]? ≠ some j
theorem zqv (hc : CanOk can) : ∀ m, m ≤ can.length → StaysOk can m (stB can m)
 | 0, _ => ⟨by obtain ⟨⟨q, q1, q2⟩, _⟩ := zky hc; exact ⟨q, q1, q2, fun i k hi => by omega⟩, fun j hj => by omega⟩
 | m + 1, hm => by
   have ih := zqv hc m (by omega)
   have hl : m < (stB can m).length := by rw [zev]; omega
   rw [stB]
   split
   ·rename_i hne
    have hno : ∀ q, zdo can q → zbe 0 q = zeg can → zfZ m (stB can m) q → q[m]? ≠ some m := fun q h1 h2 h3 hq => hne ((zmK hc).2 ⟨q, h1, h2, zl1.2 ⟨(zj8 hl).2 h3, fun k hk => by
     rw [hq] at hk; cases hk; rw [zcK hl, if_pos rfl]; simp⟩⟩)
    rw [List.set_set]
    refine ⟨?_, fun j hj hf q h1 h2 h3 => ?_⟩
    ·obtain ⟨q, q1, q2, q3⟩ := ih.ex
     refine ⟨q, q1, q2, zl1.2 ⟨(zj8 hl).2 q3, fun k hk => ?_⟩⟩
     rw [zcK hl, if_pos rfl]
     have := hno q q1 q2 q3
     rw [hk] at this
     rw [beq_eq_false_iff_ne]
     exact fun e => this (by rw [e])
    ·rcases Nat.lt_succ_iff_lt_or_eq.1 hj with e | e
     ·rw [zcK hl, if_neg (by omega)] at hf
      exact ih.no j e hf q h1 h2 fun i k hi hk => by
       have := h3 i k hi hk
       rwa [zcK hl, if_neg (by omega)] at this
     ·subst e; exact hno q h1 h2 ((zj8 hl).1 h3)
   ·rename_i he
    obtain ⟨q, q1, q2, q3⟩ := (zmK hc).1 (Classical.not_not.1 he)
    refine ⟨⟨q, q1, q2, q3⟩, fun j hj hf q h1 h2 h3 => ?_⟩
    rcases Nat.lt_succ_iff_lt_or_eq.1 hj with e | e
    ·rw [zcK hl, if_neg (by omega)] at hf
     exact ih.no j e hf q h1 h2 fun i k hi hk => by
      have := h3 i k hi hk
      rwa [zcK hl, if_neg (by omega)] at this
    ·subst e; rw [zcK hl, if_pos rfl] at hf; cases hf
end
end
section
def alC (S : List Bool) (i k : Nat) : Bool := (i == k) == S.getD i false
def zbp (can : List (List Nat)) (S : List Bool) (i : Nat) : List Nat := if S.getD i false = true then [i] else can.getD i []
def zc8 (S : List Bool) (i : Nat) : Int := if S.getD i false = true then 0 else 1
def okB (can : List (List Nat)) (S : List Bool) (i : Nat) (g : List Nat) (k : Nat) : Bool :=
 !(zaV g).testBit k && decide (zbJ (alC S) can (i + 1) (zaV g ||| 2 ^ k) + zc8 S i = zbJ (alC S) can i (zaV g))
def chB (can : List (List Nat)) (S : List Bool) : Nat → List Nat
 | 0 => []
 | m + 1 => chB can S m ++ ((zbp can S m).find? (okB can S m (chB can S m))).toList
def cS (S : List Bool) : Nat → Nat → Int
 | _, 0 => 0
 | fr, m + 1 => zc8 S fr + cS S (fr + 1) m
section
variable {can : List (List Nat)} {S : List Bool}
theorem zhv {i k : Nat} : alC S i k = true ↔ (i == k) = S.getD i false := by unfold alC; exact beq_iff_eq
theorem zqC : ∀ {m fr : Nat}, 0 ≤ cS S fr m
 | 0, _ => Int.le_refl _
 | m + 1, fr => by
   have := zqC (m := m) (fr := fr + 1)
   rw [cS]; unfold zc8; split <;> omega
theorem zjv : ∀ {q : List Nat} {fr : Nat} {g : List Nat}, zbU (alC S) can fr g q → zbe fr q = cS S fr q.length
 | [], _, _, _ => rfl
 | k :: q, fr, g, ⟨_, h2, _, h4⟩ => by
   rw [zbe, List.length_cons, cS, zjv h4]
   have := zhv.1 h2
   congr 1
   unfold zc8
   by_cases e : k = fr
   ·subst e; rw [if_pos rfl]
    rw [← this]; simp
   ·rw [if_neg e]
    rw [← this]; simp [Ne.symm e]
theorem zoG (hc : CanOk can) {g q : List Nat} (hg : ∀ k ∈ g, k < can.length) (hn : g.Nodup) (h : zbU (alC S) can g.length g q) (hq : g.length + q.length = can.length) : zbJ (alC S) can g.length (zaV g) = cS S g.length (can.length - g.length) := by
 have h1 := zkB hc hg hn h hq
 have h0 := (zoA (q := q) (fr := g.length)).1
 obtain ⟨r, r1, r2, r3⟩ := zfb (al := alC S) hc hg hn (by omega) (by have : za9 = -1000 := rfl; omega)
 rw [← r3, zjv r1]; congr 1; omega
theorem znf (hc : CanOk can) {g q : List Nat} (hg : ∀ k ∈ g, k < can.length) (hn : g.Nodup) (h : zbU (alC S) can g.length g q) (hq : g.length + q.length = can.length) (hl : g.length < can.length) {k : Nat} (hk : k < can.length) :
 okB can S g.length g k = true ↔ k ∉ g ∧ ∃ r, zbU (alC S) can (g.length + 1) (g ++ [k]) r ∧ g.length + 1 + r.length = can.length := by
 have h1 := zoG hc hg hn h hq
 unfold okB
 rw [zeS, ← zf4, h1]
 have h0 := zqC (S := S) (m := can.length - g.length) (fr := g.length)
 have e0 : can.length - g.length = (can.length - (g.length + 1)) + 1 := by omega
 have hcs : cS S g.length (can.length - g.length) = zc8 S g.length + cS S (g.length + 1) (can.length - (g.length + 1)) := by rw [e0, cS]
 have hm : zc8 S g.length ≤ 1 := by unfold zc8; split <;> omega
 by_cases hkg : k ∈ g
 ·simp [hkg]
 have hg2 : ∀ j ∈ g ++ [k], j < can.length := fun j hj => (List.mem_append.1 hj).elim (hg j) fun e => by rw [List.mem_singleton.1 e]; exact hk
 have hn2 : (g ++ [k]).Nodup := List.nodup_append.2 ⟨hn, by simp, fun a ha b hb => by rw [List.mem_singleton.1 hb]; exact fun e => hkg (e ▸ ha)⟩
 have hl2 : (g ++ [k]).length = g.length + 1 := by simp
 simp only [hkg, decide_false, Bool.not_false, Bool.true_and, decide_eq_true_eq, not_false_eq_true, true_and]
 constructor
 ·intro e
  obtain ⟨r, r1, r2, _⟩ := zfb (al := alC S) hc hg2 hn2 (by omega) (by rw [hl2]; have : za9 = -1000 := rfl; omega)
  rw [hl2] at r1 r2
  exact ⟨r, r1, r2⟩
 ·rintro ⟨r, r1, r2⟩
  have := zoG (S := S) hc hg2 hn2 (q := r) (by rw [hl2]; exact r1) (by rw [hl2]; exact r2)
  rw [hl2] at this
  rw [this, hcs]; omega
/-- The best ways: they do as S says. -/
def zhU (can : List (List Nat)) (S : List Bool) (q : List Nat) : Prop := zdo can q ∧ zfZ can.length S q
theorem zid {q : List Nat} (h : zhU can S q) : zbU (alC S) can 0 [] q := zfA h.1.1 fun j k hk => by
 have hj : j < q.length := by
  rcases Nat.lt_or_ge j q.length with h | h
  ·exact h
  ·rw [List.getElem?_eq_none h] at hk; cases hk
 rw [zhv, Nat.zero_add]
 exact h.2 j k (by rw [← h.1.2]; exact hj) hk
theorem zqK {q : List Nat} (h : zbU (alC S) can 0 [] q) (hl : q.length = can.length) : zhU can S q :=
 ⟨⟨zfA h fun _ _ _ => rfl, hl⟩, fun i k _ hk => by have := (zgx h i k hk).1; rw [zhv, Nat.zero_add] at this; exact this⟩
structure ChOk (can : List (List Nat)) (S : List Bool) (m : Nat) (g : List Nat) : Prop where
 ex : ∃ q, zhU can S q ∧ q.take m = g
 len : g.length = m
 fst : ∀ j, j < m → ∀ q, zhU can S q → q.take j = g.take j → ∀ a b, g[j]? = some a → q[j]? = some b → a ≠ b → S.getD j false = false ∧ ∃ pre post, can.getD j [] = pre ++ a :: post ∧ b ∉ pre
theorem zqo (hc : CanOk can) (h0 : ∃ q, zhU can S q) : ∀ m, m ≤ can.length → ChOk can S m (chB can S m)
 | 0, _ => by
   obtain ⟨q, hq⟩ := h0
   exact ⟨⟨q, hq, by simp [chB]⟩, rfl, fun j hj => by omega⟩
 | m + 1, hm => by
   have ih := zqo hc h0 m (by omega)
   rw [chB]
   generalize chB can S m = g at ih ⊢
   obtain ⟨⟨q, q1, q2⟩, q3, q4⟩ := ih
   subst q3
   have ql := q1.1.2
   have qlt := zil hc q1.1.1 (by omega)
   have qnd := zjr (g := []) (by simp) q1.1.1
   rw [List.nil_append] at qnd
   have hg : ∀ k ∈ g, k < can.length := fun k hk => qlt k (by rw [← q2] at hk; exact List.mem_of_mem_take hk)
   have hn : g.Nodup := by rw [← q2]; exact qnd.sublist (List.take_sublist _ _)
   have split : ∀ p, zhU can S p → p.take g.length = g → ∃ r, zbU (alC S) can g.length g r ∧ p = g ++ r ∧ g.length + r.length = can.length := fun p p1 p2 => by
    refine ⟨p.drop g.length, ?_, ?_, ?_⟩
    ·have := zid p1
     rw [← List.take_append_drop g.length p, p2] at this
     have := (zcM.1 this).2
     simpa using this
    ·conv => lhs; rw [← List.take_append_drop g.length p, p2]
    ·rw [List.length_drop, p1.1.2]; omega
   obtain ⟨r, r1, r2, r3⟩ := split q q1 q2
   have cand : ∀ p, zhU can S p → p.take g.length = g → ∃ k t, p = g ++ k :: t ∧ k < can.length ∧ k ∈ zbp can S g.length ∧ okB can S g.length g k = true := fun p p1 p2 => by
    obtain ⟨t, t1, t2, t3⟩ := split p p1 p2
    cases t with
    | nil => simp at t3; omega
    | cons k t =>
      have pk : k < can.length := zil hc p1.1.1 (by rw [p1.1.2]; omega) k (by rw [t2]; simp)
      refine ⟨k, t, t2, pk, ?_, ?_⟩
      ·have h1 := zhv.1 t1.2.1
       have h2 := t1.1
       unfold zbp
       by_cases e : k = g.length
       ·have hS : S.getD g.length false = true := by rw [← h1, e]; simp
        rw [if_pos hS, e]; simp
       ·rw [if_neg (by rw [← h1]; simp [Ne.symm e])]
        exact (List.mem_cons.1 h2).resolve_left e
      ·exact (znf hc hg hn r1 r3 (by omega) pk).2 ⟨t1.2.2.1, t, t1.2.2.2, by simp at t3; omega⟩
   obtain ⟨k0, t0, e0, l0, m0, o0⟩ := cand q q1 q2
   cases hf : (zbp can S g.length).find? (okB can S g.length g) with
   | none =>
     have := List.find?_eq_none.1 hf k0 m0
     exact absurd o0 this
   | some a =>
     obtain ⟨a1, pre, post, a2, a3⟩ := List.find?_eq_some_iff_append.1 hf
     have am : a ∈ zbp can S g.length := by rw [a2]; simp
     have al : a < can.length := by
      unfold zbp at am
      split at am
      ·rw [List.mem_singleton.1 am]; omega
      ·exact hc.lt _ _ am
     obtain ⟨ag, t, t1, t2⟩ := (znf hc hg hn r1 r3 (by omega) al).1 a1
     have aal : alC S g.length a = true := by
      rw [zhv]
      unfold zbp at am
      split at am
      ·rename_i e; rw [List.mem_singleton.1 am, e]; simp
      ·rename_i e
       have : g.length ≠ a := fun h => hc.ne g.length (by have h2 := am; rw [← h] at h2; exact h2)
       have e2 : S.getD g.length false = false := by simpa using e
       rw [e2, beq_eq_false_iff_ne]; exact this
     have aop : a ∈ g.length :: can.getD g.length [] := by
      unfold zbp at am
      split at am
      ·rw [List.mem_singleton.1 am]; simp
      ·exact List.mem_cons_of_mem _ am
     have hw : zbU (alC S) can 0 [] (g ++ a :: t) := by
      have hgw := zid q1
      rw [r2] at hgw
      refine zcM.2 ⟨(zcM.1 hgw).1, ?_⟩
      simp only [Nat.zero_add, List.nil_append]
      exact ⟨aop, aal, ag, t1⟩
     simp only [Option.toList_some]
     refine ⟨⟨g ++ a :: t, zqK hw (by simp; omega), ?_⟩, by simp, fun j hj p p1 p2 x y hx hy hxy => ?_⟩
     ·rw [show g ++ a :: t = (g ++ [a]) ++ t by simp]
      exact List.take_left' (by simp)
     ·rcases Nat.lt_succ_iff_lt_or_eq.1 hj with e | e
      ·rw [List.getElem?_append_left e] at hx
       rw [List.take_append_of_le_length (by omega)] at p2
       exact q4 j e p p1 p2 x y hx hy hxy
      ·subst e
       rw [List.getElem?_append_right (Nat.le_refl _), Nat.sub_self] at hx
       simp at hx
       subst hx
       rw [List.take_left' rfl] at p2
       obtain ⟨k, s, s1, s2, s3, s4⟩ := cand p p1 p2
       rw [s1, List.getElem?_append_right (Nat.le_refl _), Nat.sub_self] at hy
       simp at hy
       subst hy
       have hS : S.getD g.length false = false := by
        cases hS : S.getD g.length false with
        | false => rfl
        | true =>
          exfalso; apply hxy
          unfold zbp at am s3
          rw [if_pos hS] at am s3
          rw [List.mem_singleton.1 am, List.mem_singleton.1 s3]
       refine ⟨hS, pre, post, ?_, fun hm => ?_⟩
       ·unfold zbp at a2; rwa [if_neg (by rw [hS]; simp)] at a2
       ·have := a3 k hm
        rw [s4] at this; simp at this
/-- What the two walks find: a way with as zfe as possible; of these the first ones stay who can; of these each one gets the first they can. -/
def zaO (can : List (List Nat)) : List Nat := chB can (stB can can.length) can.length
theorem zjq (hc : CanOk can) : zdo can (zaO can) ∧ ∀ q, zdo can q → q ≠ zaO can →
 zbe 0 q < zbe 0 (zaO can) ∨ zbe 0 q = zbe 0 (zaO can) ∧
  ((∃ i, (zaO can)[i]? = some i ∧ q[i]? ≠ some i ∧ i < can.length ∧ ∀ j : Nat, j < i → ((zaO can)[j]? = some j ↔ q[j]? = some j)) ∨
    (∀ j : Nat, (zaO can)[j]? = some j ↔ q[j]? = some j) ∧ ∃ j a b, q.take j = (zaO can).take j ∧ (zaO can)[j]? = some a ∧ q[j]? = some b ∧ a ≠ b ∧ a ≠ j ∧ ∃ pre post, can.getD j [] = pre ++ a :: post ∧ b ∉ pre) := by
 obtain ⟨⟨q0, f1, f2, f3⟩, s2⟩ := zqv hc can.length (Nat.le_refl _)
 have hco := zqo (S := stB can can.length) hc ⟨q0, f1, f3⟩ can.length (Nat.le_refl _)
 obtain ⟨⟨p, p1, p2⟩, p3, p4⟩ := hco
 have hpe : p = zaO can := by
  unfold zaO; rw [← p2, ← p1.1.2, List.take_length]
 subst hpe
 obtain ⟨_, t2, _⟩ := zky hc
 have hct : zbe 0 (zaO can) = zeg can := by
  rw [← f2, zjv (zid p1), zjv (zid (S := stB can can.length) ⟨f1, f3⟩), p1.1.2, f1.2]
 have hpat : ∀ {q : List Nat}, zdo can q → ∀ m, m ≤ can.length → (zfZ m (stB can can.length) q ↔ ∀ j : Nat, j < m → ((zaO can)[j]? = some j ↔ q[j]? = some j)) := fun {q} hq m hm => by
  have hr := p1.2
  constructor
  ·intro h j hj
   obtain ⟨x, hx⟩ : ∃ x, (zaO can)[j]? = some x := ⟨_, List.getElem?_eq_getElem (by rw [p1.1.2]; omega)⟩
   obtain ⟨y, hy⟩ : ∃ y, q[j]? = some y := ⟨_, List.getElem?_eq_getElem (by rw [hq.2]; omega)⟩
   have h1 := hr j x (by omega) hx
   have h2 := h j y hj hy
   rw [hx, hy]
   have h3 : (j == x) = (j == y) := h1.trans h2.symm
   simp only [Option.some.injEq]
   rw [Bool.eq_iff_iff] at h3
   simp only [beq_iff_eq] at h3
   constructor
   ·exact fun e => (h3.1 e.symm).symm
   ·exact fun e => (h3.2 e.symm).symm
  ·intro h j y hj hy
   obtain ⟨x, hx⟩ : ∃ x, (zaO can)[j]? = some x := ⟨_, List.getElem?_eq_getElem (by rw [p1.1.2]; omega)⟩
   have h1 := hr j x (by omega) hx
   have h2 := h j hj
   rw [hx, hy] at h2
   simp only [Option.some.injEq] at h2
   rw [← h1, Bool.eq_iff_iff]
   simp only [beq_iff_eq]
   constructor
   ·exact fun e => (h2.2 e.symm).symm
   ·exact fun e => (h2.1 e.symm).symm
 refine ⟨p1.1, fun q hq hne => ?_⟩
 have hle := t2 q hq
 rcases Int.lt_or_eq_of_le hle with h | h
 ·exact .inl (by omega)
 refine .inr ⟨by omega, ?_⟩
 by_cases hall : ∀ j : Nat, j < can.length → ((zaO can)[j]? = some j ↔ q[j]? = some j)
 ·refine .inr ⟨fun j => ?_, ?_⟩
  ·by_cases hj : j < can.length
   ·exact hall j hj
   ·rw [List.getElem?_eq_none (by rw [p1.1.2]; omega), List.getElem?_eq_none (by rw [hq.2]; omega)]
  ·have hopt : zhU can (stB can can.length) q := ⟨hq, (hpat hq _ (Nat.le_refl _)).2 hall⟩
   have key : ∀ m, m ≤ can.length → q.take m = (zaO can).take m ∨ ∃ j a b, q.take j = (zaO can).take j ∧ (zaO can)[j]? = some a ∧ q[j]? = some b ∧ a ≠ b := by
    intro m
    induction m with
    | zero => intro _; exact .inl rfl
    | succ m ih =>
      intro hm
      rcases ih (by omega) with e | e
      ·obtain ⟨x, hx⟩ : ∃ x, (zaO can)[m]? = some x := ⟨_, List.getElem?_eq_getElem (by rw [p1.1.2]; omega)⟩
       obtain ⟨y, hy⟩ : ∃ y, q[m]? = some y := ⟨_, List.getElem?_eq_getElem (by rw [hq.2]; omega)⟩
       by_cases hxy : x = y
       ·left; rw [List.take_add_one, List.take_add_one, hx, hy, e, hxy]
       ·exact .inr ⟨m, x, y, e, hx, hy, hxy⟩
      ·exact .inr e
   rcases key can.length (Nat.le_refl _) with e | ⟨j, a, b, e1, e2, e3, e4⟩
   ·exfalso; apply hne
    rw [List.take_of_length_le (by rw [hq.2]; omega), List.take_of_length_le (by rw [p1.1.2]; omega)] at e
    exact e
   ·have hj : j < can.length := by
     rcases Nat.lt_or_ge j can.length with h | h
     ·exact h
     ·rw [List.getElem?_eq_none (by rw [p1.1.2]; omega)] at e2; cases e2
    obtain ⟨g1, g2⟩ := p4 j hj q hopt e1 a b e2 e3 e4
    refine ⟨j, a, b, e1, e2, e3, e4, fun e => ?_, g2⟩
    have := p1.2 j a hj e2
    rw [g1, e] at this
    simp at this
 ·have hex : ∃ i, i < can.length ∧ ¬ ((zaO can)[i]? = some i ↔ q[i]? = some i) ∧ ∀ j : Nat, j < i → ((zaO can)[j]? = some j ↔ q[j]? = some j) := by
   have key : ∀ m, m ≤ can.length → (∀ j : Nat, j < m → ((zaO can)[j]? = some j ↔ q[j]? = some j)) ∨ ∃ i, i < can.length ∧ ¬ ((zaO can)[i]? = some i ↔ q[i]? = some i) ∧ ∀ j : Nat, j < i → ((zaO can)[j]? = some j ↔ q[j]? = some j) := by
    intro m
    induction m with
    | zero => intro _; exact .inl fun j hj => by omega
    | succ m ih =>
      intro hm
      rcases ih (by omega) with e | e
      ·by_cases hx : (zaO can)[m]? = some m ↔ q[m]? = some m
       ·exact .inl fun j hj => by
         rcases Nat.lt_succ_iff_lt_or_eq.1 hj with e2 | e2
         ·exact e j e2
         ·subst e2; exact hx
       ·exact .inr ⟨m, by omega, hx, e⟩
      ·exact .inr e
   rcases key can.length (Nat.le_refl _) with e | e
   ·exact absurd e hall
   ·exact e
  obtain ⟨i, i1, i2, i3⟩ := hex
  refine .inl ⟨i, ?_, ?_, i1, i3⟩
  ·refine Classical.byContradiction fun hr => ?_
   have hqi : q[i]? = some i := Classical.byContradiction fun hq2 => i2 ⟨fun e => absurd e hr, fun e => absurd e hq2⟩
   obtain ⟨x, hx⟩ : ∃ x, (zaO can)[i]? = some x := ⟨_, List.getElem?_eq_getElem (by rw [p1.1.2]; omega)⟩
   have hS := p1.2 i x i1 hx
   have : (i == x) = false := by
    rw [beq_eq_false_iff_ne]
    exact fun e => hr (by rw [hx, e])
   rw [this] at hS
   exact s2 i i1 hS.symm q hq (by omega) ((hpat hq i (by omega)).2 i3) hqi
  ·intro hqi
   apply i2
   refine ⟨fun _ => hqi, fun _ => ?_⟩
   refine Classical.byContradiction fun hr => ?_
   obtain ⟨x, hx⟩ : ∃ x, (zaO can)[i]? = some x := ⟨_, List.getElem?_eq_getElem (by rw [p1.1.2]; omega)⟩
   have hS := p1.2 i x i1 hx
   have : (i == x) = false := by
    rw [beq_eq_false_iff_ne]
    exact fun e => hr (by rw [hx, e])
   rw [this] at hS
   exact s2 i i1 hS.symm q hq (by omega) ((hpat hq i (by omega)).2 i3) hqi
end
end
section
def BdB (m : Int) (l : List Int) : Prop := ∀ t, l.getD t 0 = za9 ∨ (0 ≤ l.getD t 0 ∧ l.getD t 0 ≤ m)
theorem znh {m : Int} {best nx : List Int} {ok : Bool} {s k : Nat} {more : Int} (h : BdB (m + 1) nx) (hb : BdB m best) (hn : best.getD s 0 ≠ za9) (hm : 0 ≤ more ∧ more ≤ 1) : BdB (m + 1) (zbj best ok s k more nx) := by
 unfold zbj; split
 ·intro t
  rw [zed]; split
  ·rename_i e
   right
   have h1 := h (s ||| 2 ^ k)
   have h2 := (hb s).resolve_left hn
   have nv : za9 = -1000 := rfl
   rcases Int.le_total (nx.getD (s ||| 2 ^ k) 0) (best.getD s 0 + more) with q | q
   ·rw [Int.max_eq_right q]; omega
   ·rw [Int.max_eq_left q]
    rcases h1 with h1 | h1 <;> omega
  ·exact h t
 ·exact h
theorem zmj {m : Int} {best : List Int} {al : Nat → Nat → Bool} {i s : Nat} (hb : BdB m best) (hn : best.getD s 0 ≠ za9) : ∀ {cs : List Nat} {nx : List Int}, BdB (m + 1) nx → BdB (m + 1) (cs.foldl (fun nx k => zbj best (al i k) s k 1 nx) nx)
 | [], _, h => h
 | k :: r, nx, h => by rw [List.foldl_cons]; exact zmj hb hn (znh h hb hn (by omega))
theorem znp {m : Int} {best : List Int} {al : Nat → Nat → Bool} {cs : List Nat} {i : Nat} (hb : BdB m best) : ∀ {ss : List Nat} {nx : List Int}, BdB (m + 1) nx → BdB (m + 1) (ss.foldl (zb5 al cs i best) nx)
 | [], _, h => h
 | s :: r, nx, h => by
   rw [List.foldl_cons]
   refine znp hb ?_
   unfold zb5; split
   ·exact h
   ·rename_i hn; exact zmj hb hn (znh h hb hn (by omega))
theorem zmF {m : Int} (hm : 0 ≤ m) {n : Nat} : BdB m (List.replicate n za9) := fun t => by
 rw [List.getD_eq_getElem?_getD, List.getElem?_replicate]
 split
 ·exact .inl rfl
 ·exact .inr ⟨Int.le_refl _, hm⟩
theorem zqJ {n got : Nat} : BdB 0 (zaM n got) := fun t => by
 unfold zaM
 rw [zed]; split
 ·exact .inr ⟨Int.le_refl _, Int.le_refl _⟩
 ·exact zmF (Int.le_refl _) t
theorem zmJ {al : Nat → Nat → Bool} {can : List (List Nat)} {fr n got : Nat} : ∀ m : Nat, BdB (m : Int) (za4 al can fr (zaM n got) m)
 | 0 => zqJ
 | m + 1 => by
   rw [za4]; unfold zgU
   have := znp (al := al) (cs := can.getD (fr + m) []) (i := fr + m) (zmJ (al := al) (can := can) (fr := fr) (n := n) (got := got) m) (ss := List.range (za4 al can fr (zaM n got) m).length) (zmF (n := (za4 al can fr (zaM n got) m).length) (show (0 : Int) ≤ (m : Int) + 1 by omega))
   exact this
theorem zlU {n got : Nat} : (zaM n got).length = 2 ^ n := by unfold zaM; simp
theorem zlc {al : Nat → Nat → Bool} {cs : List Nat} {i k : Nat} {best nx : List Int} : (List.range (k + 1)).foldl (zb5 al cs i best) nx = zb5 al cs i best ((List.range k).foldl (zb5 al cs i best) nx) k := by
 rw [List.range_succ, List.foldl_append]; rfl
theorem zn2 {al : Nat → Nat → Bool} {cs : List Nat} {i s j y : Nat} {best nx : List Int} (h : cs[j]? = some y) : (cs.take (j + 1)).foldl (fun nx k => zbj best (al i k) s k 1 nx) nx = zbj best (al i y) s y 1 ((cs.take j).foldl (fun nx k => zbj best (al i k) s k 1 nx) nx) := by
 rw [List.take_add_one, h, List.foldl_append]; rfl
theorem zpZ {out : List Bool} : alS 0 out = fun _ _ => true := by funext i k; simp [alS]
theorem zrc {al : Nat → Nat → Bool} {can : List (List Nat)} {fr got : Nat} (hn : can.length ≤ 14) : -1000 ≤ zbJ al can fr got ∧ zbJ al can fr got ≤ 14 := by
 unfold zbJ
 have nv : za9 = -1000 := rfl
 rcases zmJ (al := al) (can := can) (fr := fr) (n := can.length) (got := got) (can.length - fr) (2 ^ can.length - 1) with h | h <;> omega
theorem zqI {S : List Bool} {i : Nat} : 0 ≤ zc8 S i ∧ zc8 S i ≤ 1 := by unfold zc8; split <;> omega
theorem znv {can : List (List Nat)} {S : List Bool} {m k : Nat} (hc : CanOk can) (hm : m < can.length) (h : k ∈ zbp can S m) : k < can.length := by
 unfold zbp at h
 split at h
 ·rw [List.mem_singleton.1 h]; exact hm
 ·exact hc.lt _ _ h
theorem ziO {can : List (List Nat)} {S : List Bool} {m y : Nat} (h : (zbp can S m).find? (okB can S m (chB can S m)) = some y) : chB can S (m + 1) = chB can S m ++ [y] := by rw [chB, h]; rfl
theorem ziK {can : List (List Nat)} {S : List Bool} {m : Nat} (h : (zbp can S m).find? (okB can S m (chB can S m)) = none) : chB can S (m + 1) = chB can S m := by rw [chB, h]; simp
theorem zqs {can : List (List Nat)} {S : List Bool} (hc : CanOk can) : ∀ m, m ≤ can.length → (∀ x ∈ chB can S m, x < can.length) ∧ (chB can S m).length ≤ m
 | 0, _ => ⟨by simp [chB], by simp [chB]⟩
 | m + 1, hm => by
   obtain ⟨h1, h2⟩ := zqs (S := S) hc m (by omega)
   cases hf : (zbp can S m).find? (okB can S m (chB can S m)) with
   | none => rw [ziK hf]; exact ⟨h1, by omega⟩
   | some y =>
     rw [ziO hf]
     refine ⟨fun x hx => ?_, by simp; omega⟩
     rcases List.mem_append.1 hx with h | h
     ·exact h1 x h
     ·rw [List.mem_singleton.1 h]; exact znv hc (by omega) (List.mem_of_find?_eq_some hf)
theorem zrm {can : List (List Nat)} {S : List Bool} {m y : Nat} {g : List Nat} (h1 : (zaV g).testBit y = false) (h2 : zbJ (alC S) can (m + 1) (zaV g ||| 2 ^ y) + zc8 S m = zbJ (alC S) can m (zaV g)) : okB can S m g y = true := by
 unfold okB; rw [h1, h2]; simp
theorem zq4 {can : List (List Nat)} {S : List Bool} {m y : Nat} {g : List Nat} (h : (zaV g).testBit y = false → ¬ zbJ (alC S) can (m + 1) (zaV g ||| 2 ^ y) + zc8 S m = zbJ (alC S) can m (zaV g)) : ¬ okB can S m g y = true := by
 unfold okB
 cases hb : (zaV g).testBit y with
 | true => simp
 | false => simp [h hb]
end
section
open Op
/-- Whom one could get, best first, as places in the wants. -/
def zdg (w : List WantS) (F : List Str) : List Nat := F.filterMap fun s => if 0 ≤ zba w s then some (zba w s).toNat else none
def zbu (w : List WantS) : List (List Nat) := w.map fun x => zdg w x.For
abbrev zlL (w l : List WantS) : List (List Nat) := l.map fun x => zdg w x.For
theorem zo0 {w l : List WantS} {x : WantS} : zlL w (l ++ [x]) = zlL w l ++ [zdg w x.For] := by unfold zlL; simp
theorem zjG {w : List WantS} {F : List Str} {j : Nat} {y : Str} (h : F[j]? = some y) : zdg w (F.take (j + 1)) = zdg w (F.take j) ++ if 0 ≤ zba w y then [(zba w y).toNat] else [] := by
 unfold zdg
 rw [List.take_add_one, h]
 by_cases e : 0 ≤ zba w y <;> simp [List.filterMap_append, e]
theorem zkP {w : List WantS} {F : List Str} : (zdg w F).length ≤ F.length := List.length_filterMap_le _ _
theorem zdq {w : List WantS} : (zbu w).length = w.length := by unfold zbu; simp
theorem zfW {w : List WantS} {i : Nat} {x : WantS} (h : w[i]? = some x) : (zbu w).getD i [] = zdg w x.For := by
 unfold zbu; rw [List.getD_eq_getElem?_getD, List.getElem?_map, h]; rfl
theorem zmI {w : List WantS} {i : Nat} (h : w.length ≤ i) : (zbu w).getD i [] = [] := by
 unfold zbu; rw [List.getD_eq_getElem?_getD, List.getElem?_map, List.getElem?_eq_none h]; rfl
theorem zem {w : List WantS} {F : List Str} {k : Nat} (hs : SortedS (w.map (·.Player))) : k ∈ zdg w F ↔ ∃ s ∈ F, ∃ x, w[k]? = some x ∧ x.Player = s := by
 unfold zdg
 rw [List.mem_filterMap]
 constructor
 ·rintro ⟨s, h1, h2⟩
  split at h2
  ·rename_i h3
   simp at h2
   exact ⟨s, h1, (zcG hs).1 (by omega)⟩
  ·cases h2
 ·rintro ⟨s, h1, x, h2, h3⟩
  have := (zcG hs).2 ⟨x, h2, h3⟩
  exact ⟨s, h1, by rw [if_pos (by omega), this]; simp⟩
theorem zfH {o : List OwnerS} {w : List WantS} (h : WantsOk o w) (hl : w.length ≤ 14) : CanOk (zbu w) where
 lt i k hk := by
  rw [zdq]
  rcases Nat.lt_or_ge i w.length with hi | hi
  ·obtain ⟨x, hx⟩ : ∃ x, w[i]? = some x := ⟨_, List.getElem?_eq_getElem hi⟩
   rw [zfW hx] at hk
   obtain ⟨s, _, y, hy, _⟩ := (zem h.srt).1 hk
   exact zD hy
  ·rw [zmI hi] at hk; cases hk
 ne i hk := by
  rcases Nat.lt_or_ge i w.length with hi | hi
  ·obtain ⟨x, hx⟩ : ∃ x, w[i]? = some x := ⟨_, List.getElem?_eq_getElem hi⟩
   rw [zfW hx] at hk
   obtain ⟨s, hs, y, hy, he⟩ := (zem h.srt).1 hk
   rw [hx] at hy; cases hy
   subst he
   exact (h.ftm x (List.mem_of_getElem? hx) _ hs).2 rfl
  ·rw [zmI hi] at hk; cases hk
 len := by rw [zdq]; exact hl
theorem zpR {o : List OwnerS} {w : List WantS} (h : WantsOk o w) : ∀ c ∈ zbu w, c.length ≤ 1000 := fun c hc => by
 unfold zbu at hc
 obtain ⟨x, hx, rfl⟩ := List.mem_map.1 hc
 exact Nat.le_trans zkP (Nat.le_trans (h.few x hx) (by omega))
def zbz (w : List WantS) (k : Nat) : Str := (w.getD k zbQ).Player
/-- Who goes where. -/
def zc7 (o : List OwnerS) (w : List WantS) : Nat → List Nat → List GiveS
 | _, [] => []
 | i, k :: t => if i = k then zc7 o w (i + 1) t else ⟨zbz w k, zaA o (zbz w k), zaA o (zbz w i)⟩ :: zc7 o w (i + 1) t
theorem ziD {o : List OwnerS} {w : List WantS} : ∀ {a b : List Nat} {i : Nat}, zc7 o w i (a ++ b) = zc7 o w i a ++ zc7 o w (i + a.length) b
 | [], b, i => by simp [zc7]
 | k :: a, b, i => by
   rw [List.cons_append, zc7, zc7, ziD (a := a), List.length_cons, show i + 1 + a.length = i + (a.length + 1) by omega]
   split <;> simp
theorem zkS {o : List OwnerS} {w : List WantS} {l : List Nat} {q z : Nat} (h : l[q]? = some z) : zc7 o w 0 (l.take (q + 1)) = zc7 o w 0 (l.take q) ++ if q = z then [] else [⟨zbz w z, zaA o (zbz w z), zaA o (zbz w q)⟩] := by
 have hq := zD h
 rw [List.take_add_one, h, Option.toList_some, ziD, List.length_take, Nat.min_eq_left (by omega), Nat.zero_add]
 congr 1
theorem zg3 {o : List OwnerS} {w : List WantS} : ∀ {l : List Nat} {i : Nat}, (zc7 o w i l).length ≤ l.length
 | [], _ => Nat.le_refl _
 | k :: t, i => by
   rw [zc7]
   have := zg3 (o := o) (w := w) (l := t) (i := i + 1)
   split <;> simp <;> omega
def zeA (m : MarketS) (o : List OwnerS) (w : List WantS) : List GiveS := if zaj m o w = 0 then zb4 zcz (zc7 o w 0 (zaO (zbu w))) else []
theorem zno {o : List OwnerS} {w : List WantS} (h : WantsOk o w) (hl : w.length ≤ 14) : (zaO (zbu w)).length = w.length := by
 rw [(zjq (zfH h hl)).1.2, zdq]
theorem zrw {o : List OwnerS} {w : List WantS} (h : WantsOk o w) (hl : w.length ≤ 14) : ∀ k ∈ zaO (zbu w), k < w.length := fun k hk => by
 have hf := (zjq (zfH h hl)).1
 have := zil (zfH h hl) hf.1 (by rw [hf.2]; omega) k hk
 rwa [zdq] at this
end
end Go.HL
namespace Go.Proofs.YtcihcbnjfclkbaaGreatDoor
set_option maxRecDepth 100000
set_option linter.unusedVariables false
set_option linter.unusedSimpArgs false
section
open Go.HL
/-- (*benchwarmer/trade.hall).most$1 -/
theorem zeE [Tracks] {s k i n E : Nat} {more : Int} {fid : FuncId} {caps : List HVal} {al : Nat → Nat → Bool} {nx best : List Int} {b11 b9 nb bb nbo bbo nbc bbc : Nat} (hca : Callable Tryz.prog fid) (hp : zaa Tryz.prog fid ([.int .i64 (i : Int), .int .i64 (k : Int)] ++ caps) (.bool (al i k))) (hE : 2 ^ n = E) (hn : n ≤ 14) (hs : s < E) (hk : k < n) (hnx : nx.length = E) (hbl : best.length = E) (hbd : -2000 ≤ best.getD s 0 ∧ best.getD s 0 ≤ 1000) (hmo : 0 ≤ more ∧ more ≤ 1) : Con Tryz.prog 132 [.int .i64 (s : Int), .int .i64 (k : Int), .int .i64 more, .vptr [.fn (.func fid) [] caps] 0, .raw (.pointer (some ⟨b11, 0, none⟩)), .vptr [.raw (.slice (some ⟨nb, nbo, none⟩) E nbc)] 0, .raw (.pointer (some ⟨b9, 0, none⟩))] [.cells b11 [.int .i64 (i : Int)], .arr (.slice (some ⟨nb, nbo, none⟩) E nbc) 1 (nx.map (HVal.int .i64)), .cells b9 [.raw (.slice (some ⟨bb, bbo, none⟩) E bbc)], .arr (.slice (some ⟨bb, bbo, none⟩) E bbc) 1 (best.map (HVal.int .i64))] (fun x M' => x = .tup [] ∧ M' = [.cells b11 [.int .i64 (i : Int)], .arr (.slice (some ⟨nb, nbo, none⟩) E nbc) 1 ((zbj best (al i k) s k more nx).map (HVal.int .i64)), .cells b9 [.raw (.slice (some ⟨bb, bbo, none⟩) E bbc)], .arr (.slice (some ⟨bb, bbo, none⟩) E bbc) 1 (best.map (HVal.int .i64))]) := by
 have hpn := zn9 hn
 rw [hE] at hpn
 have hpk : 2 ^ k < E := by rw [← hE]; exact Nat.pow_lt_pow_right (by omega) hk
 have hor : s ||| 2 ^ k < E := by rw [← hE] at hs hpk ⊢; exact Nat.or_lt_two_pow hs hpk
 have hgx : nx[s ||| 2 ^ k]? = some (nx.getD (s ||| 2 ^ k) 0) := getD_some (by omega)
 have hgb : best[s]? = some (best.getD s 0) := getD_some (by omega)
 refine Con.of_body Tryz.func132 rfl Tryz.ntmps132 rfl rfl ?_
 refine zb ?_
 refine dmv rfl ?_
 refine dmv rfl ?_
 refine dq (zlZ rfl rfl (by omega)) ?_
 refine dq (zk2 rfl rfl) ?_
 refine dq (zcZ (zaJ rfl rfl) zqm) ?_
 refine dmv rfl ?_
 refine dg rfl rfl (fun hc => ⟨_, OpenTo.refl _, zi zrK rfl rfl rfl⟩) ?_
 refine dgl rfl rfl (fun hc => ⟨_, OpenTo.refl _, zG (i := 0) ty3 rfl rfl (.inl ⟨rfl, rfl⟩) ⟨rfl, rfl⟩⟩) ?_
 refine dg rfl rfl (fun hc => ⟨_, OpenTo.refl _, zd rfl⟩) ?_
 refine dg rfl rfl (fun hc => ⟨_, OpenTo.upd (t := 18) rfl (by first | exact hc | simp_all) (OpenTo.upd (t := 17) rfl (by first | exact hc | simp_all) (OpenTo.upd (t := 16) rfl (by first | exact hc | simp_all) (OpenTo.refl _))), zci hca rfl rfl (WeakL.refl _) hp⟩) ?_
 refine dq (zL rfl (.inr ⟨_, rfl, fun h => by simp_all⟩) (.inl rfl)) ?_
 refine dn ?_
 refine zj rfl (fun h1 => ?_) (fun h2 => ?_)
 ·try simp at h1
  refine zb0 (fun M => M = [.cells b11 [.int .i64 (i : Int)], .arr (.slice (some ⟨nb, nbo, none⟩) E nbc) 1 (nx.map (HVal.int .i64)), .cells b9 [.raw (.slice (some ⟨bb, bbo, none⟩) E bbc)], .arr (.slice (some ⟨bb, bbo, none⟩) E bbc) 1 (best.map (HVal.int .i64))]) [11, 12, 15] mixed ?_
  refine ahp 0 rfl rfl (by kernel_rfl) (by kernel_rfl) (zi zR rfl rfl rfl) ?_
  refine ahp 1 rfl rfl (by kernel_rfl) (by kernel_rfl) (zd rfl) ?_
  refine ahp 2 rfl rfl (by kernel_rfl) (by kernel_rfl) (zd rfl) ?_
  refine ahp 3 rfl rfl (by kernel_rfl) (by kernel_rfl) (zfE rfl rfl (by omega)) ?_
  refine ahp 4 rfl rfl (by kernel_rfl) (by kernel_rfl) (zie rfl rfl (by omega) (by omega)) ?_
  refine ahp 5 rfl rfl (by kernel_rfl) (by kernel_rfl) (zi zR rfl rfl rfl) ?_
  refine ahp 6 rfl rfl (by kernel_rfl) (by kernel_rfl) (zd rfl) ?_
  refine ahp 7 rfl rfl (by kernel_rfl) (by kernel_rfl) (zd rfl) ?_
  refine ahp 8 rfl rfl (by kernel_rfl) (by kernel_rfl) (zfE rfl rfl (by omega)) ?_
  refine ahp 9 rfl rfl (by kernel_rfl) (by kernel_rfl) (zie rfl rfl (by omega) (by omega)) ?_
  refine ahp 10 rfl rfl (by kernel_rfl) (by kernel_rfl) (zak (j := s ||| 2 ^ k) zR ty3 rfl rfl rfl hor) ?_
  refine ahl 11 rfl rfl (by kernel_rfl) (by kernel_rfl) (by simp) rfl (fun M hM => by subst hM; exact za5 (i := 1) (j := s ||| 2 ^ k) 0 ty3 rfl (by omega) rfl hgx rfl rfl ⟨rfl, rfl⟩) ?_
  refine ahl 12 rfl rfl (by kernel_rfl) (by kernel_rfl) (by simp) rfl (fun M hM => by subst hM; exact zG (i := 2) zR rfl rfl (.inl ⟨rfl, rfl⟩) ⟨rfl, rfl⟩) ?_
  refine ahp 13 rfl rfl (by kernel_rfl) (by kernel_rfl) (zd rfl) ?_
  refine ahp 14 rfl rfl (by kernel_rfl) (by kernel_rfl) (zak (j := s) zR ty3 rfl rfl rfl hs) ?_
  refine ahl 15 rfl rfl (by kernel_rfl) (by kernel_rfl) (by simp) rfl (fun M hM => by subst hM; exact za5 (i := 3) (j := s) 0 ty3 rfl (by omega) rfl hgb rfl rfl ⟨rfl, rfl⟩) ?_
  refine ahp 16 rfl rfl (by kernel_rfl) (by kernel_rfl) (zd rfl) ?_
  refine ahp 17 rfl rfl (by kernel_rfl) (by kernel_rfl) (zv rfl rfl (by omega) (by omega)) ?_
  refine ahp 18 rfl rfl (by kernel_rfl) (by kernel_rfl) (zcZ (zqW rfl rfl) (congrArg (HVal.int .i64) zpU)) ?_
  refine ahp 19 rfl rfl (by kernel_rfl) (by kernel_rfl) (zak (j := s ||| 2 ^ k) zR ty3 rfl rfl rfl hor) ?_
  refine ahe 20 rfl (by kernel_rfl) ?_
  refine zav (zaQ (i := 1) (j := s ||| 2 ^ k) (f := 0) (y := .int .i64 (nx.getD (s ||| 2 ^ k) 0)) (y' := .int .i64 (max (nx.getD (s ||| 2 ^ k) 0) (best.getD s 0 + more))) ty3 rfl (by omega) rfl rfl (zcn hgx) rfl rfl (by simp [zl]) rfl ?_)
  refine ⟨fun _ => .inr (by simp [zbW, Region.binds]), ?_⟩
  refine ahz (by kernel_rfl) ?_
  refine ⟨_, _, Ghost.sub (Sub.refl _), _, _, rfl, Weak.refl _, rfl, ?_⟩
  by_cases hq : s.testBit k = false ∧ al i k = true
  ·rw [zbj, if_pos hq, List.map_set]
   try first | rfl | (exfalso; simp_all; done)
  ·rw [zbj, if_neg hq]
   try first | rfl | (exfalso; simp_all; done)
 ·try simp at h2
  refine zk ?_
  refine ⟨_, _, Ghost.sub (Sub.refl _), _, _, rfl, Weak.refl _, rfl, ?_⟩
  by_cases hq : s.testBit k = false ∧ al i k = true
  ·rw [zbj, if_pos hq, List.map_set]
   try first | rfl | (exfalso; simp_all; done)
  ·rw [zbj, if_neg hq]
   try first | rfl | (exfalso; simp_all; done)

set_option maxHeartbeats 4000000 in
/-- (*benchwarmer/trade.hall).most -/
theorem zcP [Tracks] {can : List (List Nat)} {fr got : Nat} {fid : FuncId} {caps : List HVal} {al : Nat → Nat → Bool} (hca : Callable Tryz.prog fid) (hp : ∀ i k : Nat, i < can.length → k < can.length → zaa Tryz.prog fid ([.int .i64 (i : Int), .int .i64 (k : Int)] ++ caps) (.bool (al i k))) (hc : CanOk can) (hf : fr ≤ can.length) (hg : got < 2 ^ can.length) (hcl : ∀ c ∈ can, c.length ≤ 1000) : zaa Tryz.prog 86 [.vptr [zjd can] 0, .int .i64 (fr : Int), .int .i64 (got : Int), .fn (.func fid) [] caps] (.int .i64 (zbJ al can fr got)) := by
 have hn := hc.len
 obtain ⟨E, hE⟩ : ∃ E, 2 ^ can.length = E := ⟨_, rfl⟩
 have hpn := zn9 hn
 rw [hE] at hpn hg
 refine Con.of_body Tryz.func86 rfl Tryz.ntmps86 rfl rfl ?_
 refine zb ?_
 refine dq (zaL rfl rfl) ?_
 refine das rfl ?_
 refine dn ?_
 refine zb ?_
 refine dmv rfl ?_
 refine dq ((by first | exact zar rfl | exact zV rfl)) ?_
 refine dq ((by first | exact zg zeh rfl zbn (by decide) rfl | exact zn zeh rfl zbn (by decide) rfl)) ?_
 refine dq (zi zbn rfl rfl rfl) ?_
 refine dq (zB zbn rfl) ?_
 refine dq (zcZ (zfE rfl rfl (by omega)) (congrArg (fun q : Nat => HVal.int .i64 (q : Int)) hE)) ?_
 refine de rfl (zg4 (n := E) zR ty3 rfl rfl rfl rfl rfl (by omega) fun b24 => ?_)
 refine de rfl (zab zR rfl fun b9 => ?_)
 first
 | refine de0 (zt (i := 0) zR rfl rfl rfl rfl rfl (Nat.le_of_ble_eq_true rfl) ?_)
 | refine de0 (zt (i := 1) zR rfl rfl rfl rfl rfl (Nat.le_of_ble_eq_true rfl) ?_)
 | refine de0 (zt (i := 2) zR rfl rfl rfl rfl rfl (Nat.le_of_ble_eq_true rfl) ?_)
 | refine de0 (zt (i := 3) zR rfl rfl rfl rfl rfl (Nat.le_of_ble_eq_true rfl) ?_)
 refine dn ?_
 refine zf ?_
 refine zb ?_
 first
 | refine de rfl (zG (i := 0) zR rfl rfl (.inl ⟨rfl, rfl⟩) ?_)
 | refine de rfl (zG (i := 1) zR rfl rfl (.inl ⟨rfl, rfl⟩) ?_)
 | refine de rfl (zG (i := 2) zR rfl rfl (.inl ⟨rfl, rfl⟩) ?_)
 | refine de rfl (zG (i := 3) zR rfl rfl (.inl ⟨rfl, rfl⟩) ?_)
 refine dq (ze4 zR rfl) ?_
 refine dmv rfl ?_
 refine dn ?_
 refine zm ?_
 refine z8 [10, 27, 28, 29, 30, 31, 32, 33] (fun (q : Nat) => [(27, .int .i64 (q : Int))]) (fun (q : Nat) => [.cells b9 [.raw (.slice (some ⟨b24, 0, none⟩) E E)], .arr (.slice (some ⟨b24, 0, none⟩) E E) 1 ((zbs (-1000) E q).map (HVal.int .i64))]) (fun (q : Nat) => q ≤ E) (fun (q : Nat) => E - q) (0) ?_ ?_ ?_ ?_
 ·exact Nat.zero_le _
 ·exact ⟨rfl, trivial⟩
 ·exact zT (by rw [zoZ, List.map_replicate]; rfl)
 ·intro q hq
  refine zb ?_
  refine dq (zJ rfl rfl) ?_
  refine dn ?_
  refine zf ?_
  refine zj rfl (fun h1 => ?_) (fun h2 => ?_)
  ·try simp at h1
   have hq0 : (zbs (-1000) E q)[q]? = some 0 := by rw [zee hq, if_neg (by omega), if_pos (by omega)]
   refine zk ?_
   refine ze ?_
   refine zf ?_
   refine zm ?_
   refine zb ?_
   refine dmv rfl ?_
   refine das rfl ?_
   refine dn ?_
   refine zy ?_
   first
   | refine de rfl (zG (i := 0) zR rfl rfl (.inl ⟨rfl, rfl⟩) ?_)
   | refine de rfl (zG (i := 1) zR rfl rfl (.inl ⟨rfl, rfl⟩) ?_)
   | refine de rfl (zG (i := 2) zR rfl rfl (.inl ⟨rfl, rfl⟩) ?_)
   | refine de rfl (zG (i := 3) zR rfl rfl (.inl ⟨rfl, rfl⟩) ?_)
   refine dmv rfl ?_
   refine dq (zak (j := q) zR ty3 rfl rfl rfl (by omega)) ?_
   refine de0 (zaQ (i := 1) (j := q) (f := 0) (y := .int .i64 0) (y' := .int .i64 (-1000)) ty3 rfl (by omega) rfl rfl (zcn hq0) rfl rfl (by simp [zl]) rfl ?_)
   refine dn ?_
   refine zz ?_
   refine ze ?_
   refine zy ?_
   refine dq (zv rfl rfl (by omega) (by omega)) ?_
   refine dmv rfl ?_
   refine dn ?_
   exact ⟨q + 1, by omega, by dsimp only; omega, ⟨rfl, trivial⟩, (by repeat (first | exact zp | refine zu rfl ?_ | refine zq rfl rfl ?_)), zT (by dsimp only; rw [← zpy (by omega), List.map_set]; rfl)⟩
  ·try simp at h2
   obtain rfl : E = q := by omega
   refine zN ?_
   refine zS ?_
   refine zag ?_
   refine zE ?_
   refine ze ?_
   rw [zmx]
   have hg0 : (List.replicate E (-1000 : Int))[got]? = some (-1000) := by rw [List.getElem?_replicate, if_pos hg]
   refine zb ?_
   first
   | refine de rfl (zG (i := 0) zR rfl rfl (.inl ⟨rfl, rfl⟩) ?_)
   | refine de rfl (zG (i := 1) zR rfl rfl (.inl ⟨rfl, rfl⟩) ?_)
   | refine de rfl (zG (i := 2) zR rfl rfl (.inl ⟨rfl, rfl⟩) ?_)
   | refine de rfl (zG (i := 3) zR rfl rfl (.inl ⟨rfl, rfl⟩) ?_)
   refine dmv rfl ?_
   refine dq (zak (j := got) zR ty3 rfl rfl rfl hg) ?_
   refine de0 (zaQ (i := 1) (j := got) (f := 0) (y := .int .i64 (-1000)) (y' := .int .i64 0) ty3 rfl (by omega) rfl rfl (zcn hg0) rfl rfl (by simp [zl]) rfl ?_)
   refine dn ?_
   refine zf ?_
   refine zb ?_
   refine dmv rfl ?_
   refine de rfl (zab ty3 rfl fun b11 => ?_)
   first
   | refine de0 (zt (i := 0) ty3 rfl rfl rfl rfl rfl (Nat.le_of_ble_eq_true rfl) ?_)
   | refine de0 (zt (i := 1) ty3 rfl rfl rfl rfl rfl (Nat.le_of_ble_eq_true rfl) ?_)
   | refine de0 (zt (i := 2) ty3 rfl rfl rfl rfl rfl (Nat.le_of_ble_eq_true rfl) ?_)
   | refine de0 (zt (i := 3) ty3 rfl rfl rfl rfl rfl (Nat.le_of_ble_eq_true rfl) ?_)
   refine dn ?_
   refine zm ?_
   refine zf5 [11, 12, 13, 14, 15, 17, 38, 39, 40, 41, 42, 43, 44, 45, 46, 47, 48, 49, 50, 51, 52, 53, 54, 55, 56, 57, 58, 59, 60, 61, 62, 63, 64, 65, 66, 67, 68, 69, 70, 71, 72, 73, 74, 75, 76, 77, 78, 79, 80, 81, 82, 83, 84] (fun (m : Nat) (b11 : Nat) (bb : Nat) (oc : Nat × Nat) => [(11, .raw (.pointer (some ⟨b11, 0, none⟩)))]) (fun (m : Nat) (b11 : Nat) (bb : Nat) (oc : Nat × Nat) => [.cells b11 [.int .i64 ((fr + m : Nat) : Int)], .cells b9 [.raw (.slice (some ⟨bb, oc.1, none⟩) E oc.2)], .arr (.slice (some ⟨bb, oc.1, none⟩) E oc.2) 1 ((za4 al can fr (zaM can.length got) m).map (HVal.int .i64))]) (fun (m : Nat) (b11 : Nat) (bb : Nat) (oc : Nat × Nat) => fr + m ≤ can.length) (fun (m : Nat) (b11 : Nat) (bb : Nat) (oc : Nat × Nat) => can.length - (fr + m)) (0) (b11) (b24) ((0, E)) ?_ ?_ ?_ ?_
   ·exact hf
   ·exact ⟨rfl, trivial⟩
   ·exact zT (by rw [za4, zaM, hE, List.map_set]; rfl)
   ·intro m b11 bb oc hm
    obtain ⟨bbo, bbc⟩ := oc
    dsimp only
    refine zf ?_
    refine za7 (fun _ => True) [] mixed ?_
    refine ahp 1 rfl rfl (by kernel_rfl) (by kernel_rfl) (zd rfl) ?_
    refine ahp 2 rfl rfl (by kernel_rfl) (by kernel_rfl) ((by first | exact zar rfl | exact zV rfl)) ?_
    refine ahp 3 rfl rfl (by kernel_rfl) (by kernel_rfl) ((by first | exact zg zeh rfl zbn (by decide) rfl | exact zn zeh rfl zbn (by decide) rfl)) ?_
    refine ahp 4 rfl rfl (by kernel_rfl) (by kernel_rfl) (zi zbn rfl rfl rfl) ?_
    refine ahp 5 rfl rfl (by kernel_rfl) (by kernel_rfl) (zB zbn rfl) ?_
    refine ahe 0 rfl (by kernel_rfl) ?_
    first
    | refine zA rfl (zG (i := 0) ty3 rfl rfl (.inl ⟨rfl, rfl⟩) ?_)
    | refine zA rfl (zG (i := 1) ty3 rfl rfl (.inl ⟨rfl, rfl⟩) ?_)
    | refine zA rfl (zG (i := 2) ty3 rfl rfl (.inl ⟨rfl, rfl⟩) ?_)
    | refine zA rfl (zG (i := 3) ty3 rfl rfl (.inl ⟨rfl, rfl⟩) ?_)
    refine ⟨fun _ => .inl trivial, ?_⟩
    refine ahp 6 rfl rfl (by kernel_rfl) (by kernel_rfl) (zJ rfl rfl) ?_
    refine ahz (by kernel_rfl) ?_
    refine zj rfl (fun h3 => ?_) (fun h4 => ?_)
    ·try simp at h3
     refine zk ?_
     refine ze ?_
     refine zf ?_
     refine zm ?_
     have hBl : (za4 al can fr (zaM can.length got) m).length = E := by rw [zi3, zlU, hE]
     obtain ⟨cs, hcs⟩ : ∃ c, can[fr + m]? = some c := ⟨_, List.getElem?_eq_getElem (by omega)⟩
     have hcsl := hcl cs (List.mem_of_getElem? hcs)
     have hcd : can.getD (fr + m) [] = cs := by rw [List.getD_eq_getElem?_getD, hcs]; rfl
     refine zb ?_
     refine dq (zM (hs := [_]) zR ty3 rfl rfl (by decide) (by decide) rfl) ?_
     first
     | refine de rfl (zG (i := 0) zR rfl rfl (.inl ⟨rfl, rfl⟩) ?_)
     | refine de rfl (zG (i := 1) zR rfl rfl (.inl ⟨rfl, rfl⟩) ?_)
     | refine de rfl (zG (i := 2) zR rfl rfl (.inl ⟨rfl, rfl⟩) ?_)
     | refine de rfl (zG (i := 3) zR rfl rfl (.inl ⟨rfl, rfl⟩) ?_)
     refine dq (ze4 zR rfl) ?_
     refine de rfl (zel zqy rfl (WeakL.refl _) (zdS (v := -1000) (n := E) (by omega)) fun v50 => ?_)
     refine de rfl (zab zR rfl fun b12 => ?_)
     refine de0 (zao zR rfl rfl rfl rfl rfl ?_)
     refine dn ?_
     refine zO (Ghost.fc0 12 rfl) ?_
     refine zc1 (i := 0) rfl (fun h0 he => ?_) (fun nb nbo nbc hv hcap => ?_)
     ·exfalso
      have h9 := congrArg List.length he
      rw [List.length_map, List.length_replicate] at h9
      simp at h9
      omega
     rw [List.length_map, List.length_replicate] at hv hcap
     subst hv
     refine zb ?_
     refine dq (zcr rfl rfl) ?_
     refine das rfl ?_
     refine dn ?_
     refine zf ?_
     refine zb ?_
     first
     | refine de rfl (zG (i := 0) zR rfl rfl (.inl ⟨rfl, rfl⟩) ?_)
     | refine de rfl (zG (i := 1) zR rfl rfl (.inl ⟨rfl, rfl⟩) ?_)
     | refine de rfl (zG (i := 2) zR rfl rfl (.inl ⟨rfl, rfl⟩) ?_)
     | refine de rfl (zG (i := 3) zR rfl rfl (.inl ⟨rfl, rfl⟩) ?_)
     refine dq (ze4 zR rfl) ?_
     refine dmv rfl ?_
     refine dn ?_
     refine zm ?_
     refine z8 [14, 15, 17, 54, 55, 56, 57, 58, 59, 60, 61, 62, 63, 64, 65, 66, 67, 68, 69, 70, 71, 72, 73, 74, 75, 76, 77, 78, 79, 80, 81, 82] (fun (k : Nat) => [(54, .int .i64 (k : Int))]) (fun (k : Nat) => [.cells b11 [.int .i64 ((fr + m : Nat) : Int)], .arr (.slice (some ⟨nb, nbo, none⟩) E nbc) 1 (((List.range k).foldl (zb5 al cs (fr + m) (za4 al can fr (zaM can.length got) m)) (List.replicate E za9)).map (HVal.int .i64)), .cells b9 [.raw (.slice (some ⟨bb, bbo, none⟩) E bbc)], .arr (.slice (some ⟨bb, bbo, none⟩) E bbc) 1 ((za4 al can fr (zaM can.length got) m).map (HVal.int .i64))]) (fun (k : Nat) => k ≤ E) (fun (k : Nat) => E - k) (0) ?_ ?_ ?_ ?_
     ·exact Nat.zero_le _
     ·exact ⟨rfl, trivial⟩
     ·exact (List.Perm.swap _ _ _).trans (zT (by simp))
     ·intro k hk
      refine zb ?_
      refine dq (zJ rfl rfl) ?_
      refine dn ?_
      refine zf ?_
      refine zj rfl (fun h5 => ?_) (fun h6 => ?_)
      ·try simp at h5
       obtain ⟨x, hx⟩ : ∃ x, (za4 al can fr (zaM can.length got) m)[k]? = some x := ⟨_, List.getElem?_eq_getElem (by rw [hBl]; omega)⟩
       have hk2 : k < E := by omega
       have hxd : (za4 al can fr (zaM can.length got) m).getD k 0 = x := by rw [List.getD_eq_getElem?_getD, hx]; rfl
       have hbk : -2000 ≤ (za4 al can fr (zaM can.length got) m).getD k 0 ∧ (za4 al can fr (zaM can.length got) m).getD k 0 ≤ 1000 := by
        have nv : za9 = -1000 := rfl
        rcases zmJ (al := al) (can := can) (fr := fr) (n := can.length) (got := got) m k with q | q <;> omega
       refine zk ?_
       refine ze ?_
       refine zf ?_
       refine zm ?_
       refine zb ?_
       refine dmv rfl ?_
       refine dq (zak (j := k) zR ty3 rfl rfl rfl hk2) ?_
       refine de rfl (za5 (i := 3) (j := k) 0 ty3 rfl (by omega) rfl hx rfl rfl ?_)
       refine das rfl ?_
       refine das rfl ?_
       refine dn ?_
       refine zf ?_
       refine zb ?_
       refine dmv rfl ?_
       refine dq (zaJ rfl rfl) ?_
       refine dn ?_
       refine zj rfl (fun h7 => ?_) (fun h8 => ?_)
       ·try simp at h7
        refine zN ?_
        refine zS ?_
        refine zE ?_
        refine ze ?_
        refine zy ?_
        refine dq (zv rfl rfl (by omega) (by omega)) ?_
        refine dmv rfl ?_
        refine dn ?_
        exact ⟨k + 1, by omega, by dsimp only; omega, ⟨rfl, trivial⟩, (by repeat (first | exact zp | refine zu rfl ?_ | refine zq rfl rfl ?_)), zT (by dsimp only; rw [zlc, zb5, if_pos (by rw [hxd]; simp_all)])⟩
       ·try simp at h8
        refine zk ?_
        refine ze ?_
        refine zb ?_
        refine dmv rfl ?_
        refine dmv rfl ?_
        first
        | refine de rfl (zG (i := 0) ty3 rfl rfl (.inl ⟨rfl, rfl⟩) ?_)
        | refine de rfl (zG (i := 1) ty3 rfl rfl (.inl ⟨rfl, rfl⟩) ?_)
        | refine de rfl (zG (i := 2) ty3 rfl rfl (.inl ⟨rfl, rfl⟩) ?_)
        | refine de rfl (zG (i := 3) ty3 rfl rfl (.inl ⟨rfl, rfl⟩) ?_)
        refine de rfl (EOp.mono ?_ (zdI (M := [.cells b11 [.int .i64 ((fr + m : Nat) : Int)], .arr (.slice (some ⟨nb, nbo, none⟩) E nbc) 1 (((List.range k).foldl (zb5 al cs (fr + m) (za4 al can fr (zaM can.length got) m)) (List.replicate E za9)).map (HVal.int .i64)), .cells b9 [.raw (.slice (some ⟨bb, bbo, none⟩) E bbc)], .arr (.slice (some ⟨bb, bbo, none⟩) E bbc) 1 ((za4 al can fr (zaM can.length got) m).map (HVal.int .i64))]) zqu rfl rfl (WeakL.refl _) (zeE (s := k) (k := (fr + m)) (i := (fr + m)) (n := can.length) (more := 0) (nx := ((List.range k).foldl (zb5 al cs (fr + m) (za4 al can fr (zaM can.length got) m)) (List.replicate E za9))) (best := (za4 al can fr (zaM can.length got) m)) hca (hp _ _ (by omega) (by omega)) hE hn hk2 (by omega) (by simp only [zf6, zfk, zdy, List.length_replicate]) hBl hbk ⟨by omega, by omega⟩)))
        rintro _ _ ⟨rfl, rfl⟩
        refine dn ?_
        refine za7 (fun _ => True) [] mixed ?_
        refine ahp 0 rfl rfl (by kernel_rfl) (by kernel_rfl) (zd rfl) ?_
        refine ahp 1 rfl rfl (by kernel_rfl) (by kernel_rfl) ((by first | exact zar rfl | exact zV rfl)) ?_
        refine ahp 2 rfl rfl (by kernel_rfl) (by kernel_rfl) ((by first | exact zg zeh rfl zbn (by decide) rfl | exact zn zeh rfl zbn (by decide) rfl)) ?_
        refine ahp 3 rfl rfl (by kernel_rfl) (by kernel_rfl) (zi zbn rfl rfl rfl) ?_
        refine ahp 8 rfl rfl (by kernel_rfl) (by kernel_rfl) (zd rfl) ?_
        refine ahe 4 rfl (by kernel_rfl) ?_
        first
        | refine zA rfl (zG (i := 0) ty3 rfl rfl (.inl ⟨rfl, rfl⟩) ?_)
        | refine zA rfl (zG (i := 1) ty3 rfl rfl (.inl ⟨rfl, rfl⟩) ?_)
        | refine zA rfl (zG (i := 2) ty3 rfl rfl (.inl ⟨rfl, rfl⟩) ?_)
        | refine zA rfl (zG (i := 3) ty3 rfl rfl (.inl ⟨rfl, rfl⟩) ?_)
        refine ⟨fun _ => .inl trivial, ?_⟩
        refine ahp 5 rfl rfl (by kernel_rfl) (by kernel_rfl) (zH (j := fr + m) (a := cs) zbn zR rfl rfl rfl hcs) ?_
        refine ahp 6 rfl rfl (by kernel_rfl) (by kernel_rfl) (zi zR rfl rfl rfl) ?_
        refine ahp 7 rfl rfl (by kernel_rfl) (by kernel_rfl) (zB zR rfl) ?_
        refine ahz (by kernel_rfl) ?_
        refine zm ?_
        refine z8 [17, 73, 74, 75, 76, 77, 78, 79, 80, 81] (fun (j : Nat) => [(73, .int .i64 j)]) (fun (j : Nat) => [.cells b11 [.int .i64 ((fr + m : Nat) : Int)], .arr (.slice (some ⟨nb, nbo, none⟩) E nbc) 1 (((cs.take j).foldl (fun nx y => zbj (za4 al can fr (zaM can.length got) m) (al (fr + m) y) k y 1 nx) (zbj (za4 al can fr (zaM can.length got) m) (al (fr + m) (fr + m)) k (fr + m) 0 ((List.range k).foldl (zb5 al cs (fr + m) (za4 al can fr (zaM can.length got) m)) (List.replicate E za9)))).map (HVal.int .i64)), .cells b9 [.raw (.slice (some ⟨bb, bbo, none⟩) E bbc)], .arr (.slice (some ⟨bb, bbo, none⟩) E bbc) 1 ((za4 al can fr (zaM can.length got) m).map (HVal.int .i64))]) (fun (j : Nat) => j ≤ cs.length ∧ (True)) (fun (j : Nat) => cs.length - j) (0) ?_ ?_ ?_ ?_
        ·exact ⟨Nat.zero_le _, trivial⟩
        ·exact ⟨rfl, trivial⟩
        ·exact zT rfl
        ·intro j hinv
         obtain ⟨hj, -⟩ := hinv
         refine zb ?_
         refine dq (zJ rfl rfl) ?_
         refine dn ?_
         refine zf ?_
         refine zj rfl (fun h9 => ?_) (fun h10 => ?_)
         ·try simp at h9
          obtain ⟨y, hy⟩ : ∃ y, cs[j]? = some y := ⟨_, List.getElem?_eq_getElem h9⟩
          have hdy := zK hy
          have hyl : y < can.length := hc.lt (fr + m) y (by rw [hcd]; exact List.mem_of_getElem? hy)
          refine zk ?_
          refine ze ?_
          refine zf ?_
          refine zm ?_
          refine zb ?_
          refine dq (zH zR ty3 rfl rfl rfl (by first | assumption | simp_all)) ?_
          refine dq (zi ty3 rfl rfl rfl) ?_
          refine das rfl ?_
          refine dn ?_
          refine zy ?_
          refine dmv rfl ?_
          refine dmv rfl ?_
          refine dmv rfl ?_
          refine de rfl (EOp.mono ?_ (zdI (M := [.cells b11 [.int .i64 ((fr + m : Nat) : Int)], .arr (.slice (some ⟨nb, nbo, none⟩) E nbc) 1 (((cs.take j).foldl (fun nx y => zbj (za4 al can fr (zaM can.length got) m) (al (fr + m) y) k y 1 nx) (zbj (za4 al can fr (zaM can.length got) m) (al (fr + m) (fr + m)) k (fr + m) 0 ((List.range k).foldl (zb5 al cs (fr + m) (za4 al can fr (zaM can.length got) m)) (List.replicate E za9)))).map (HVal.int .i64)), .cells b9 [.raw (.slice (some ⟨bb, bbo, none⟩) E bbc)], .arr (.slice (some ⟨bb, bbo, none⟩) E bbc) 1 ((za4 al can fr (zaM can.length got) m).map (HVal.int .i64))]) zqu rfl rfl (WeakL.refl _) (zeE (s := k) (k := y) (i := (fr + m)) (n := can.length) (more := 1) (nx := ((cs.take j).foldl (fun nx y => zbj (za4 al can fr (zaM can.length got) m) (al (fr + m) y) k y 1 nx) (zbj (za4 al can fr (zaM can.length got) m) (al (fr + m) (fr + m)) k (fr + m) 0 ((List.range k).foldl (zb5 al cs (fr + m) (za4 al can fr (zaM can.length got) m)) (List.replicate E za9))))) (best := (za4 al can fr (zaM can.length got) m)) hca (hp _ _ (by omega) (by omega)) hE hn hk2 (by omega) (by simp only [zf6, zfk, zdy, List.length_replicate]) hBl hbk ⟨by omega, by omega⟩)))
          rintro _ _ ⟨rfl, rfl⟩
          refine dn ?_
          refine zz ?_
          refine ze ?_
          refine zy ?_
          refine dq (zv rfl rfl (by omega) (by omega)) ?_
          refine dmv rfl ?_
          refine dn ?_
          exact ⟨j + 1, ⟨by omega, trivial⟩, by dsimp only; omega, ⟨rfl, trivial⟩, (by repeat (first | exact zp | refine zu rfl ?_ | refine zq rfl rfl ?_)), zT (by dsimp only; rw [zn2 hy])⟩
         ·try simp at h10
          have hnj : cs.length ≤ j := by omega
          obtain rfl : j = cs.length := by omega
          refine zN ?_
          refine zS ?_
          refine zag ?_
          refine zE ?_
          refine zz ?_
          refine ze ?_
          refine zy ?_
          refine dq (zv rfl rfl (by omega) (by omega)) ?_
          refine dmv rfl ?_
          refine dn ?_
          exact ⟨k + 1, by omega, by dsimp only; omega, ⟨rfl, trivial⟩, (by repeat (first | exact zp | refine zu rfl ?_ | refine zq rfl rfl ?_)), zT (by dsimp only; rw [zlc, zb5, if_neg (by rw [hxd]; simp_all), List.take_length])⟩
      ·try simp at h6
       obtain rfl : E = k := by omega
       refine zN ?_
       refine zS ?_
       refine zag ?_
       refine zE ?_
       refine ze ?_
       refine zy ?_
       refine dq (zi zR rfl rfl rfl) ?_
       first
       | refine de0 (zt (i := 0) zR rfl rfl rfl rfl rfl (Nat.le_of_ble_eq_true rfl) ?_)
       | refine de0 (zt (i := 1) zR rfl rfl rfl rfl rfl (Nat.le_of_ble_eq_true rfl) ?_)
       | refine de0 (zt (i := 2) zR rfl rfl rfl rfl rfl (Nat.le_of_ble_eq_true rfl) ?_)
       | refine de0 (zt (i := 3) zR rfl rfl rfl rfl rfl (Nat.le_of_ble_eq_true rfl) ?_)
       refine dn ?_
       refine zz ?_
       refine ze ?_
       refine zf ?_
       refine zO (Ghost.rm 3 rfl) ?_
       refine zb ?_
       first
       | refine de rfl (zG (i := 0) ty3 rfl rfl (.inl ⟨rfl, rfl⟩) ?_)
       | refine de rfl (zG (i := 1) ty3 rfl rfl (.inl ⟨rfl, rfl⟩) ?_)
       | refine de rfl (zG (i := 2) ty3 rfl rfl (.inl ⟨rfl, rfl⟩) ?_)
       | refine de rfl (zG (i := 3) ty3 rfl rfl (.inl ⟨rfl, rfl⟩) ?_)
       refine dn ?_
       refine zy ?_
       refine de rfl (zab ty3 rfl fun b11 => ?_)
       first
       | refine de0 (zt (i := 0) ty3 rfl rfl rfl rfl rfl (Nat.le_of_ble_eq_true rfl) ?_)
       | refine de0 (zt (i := 1) ty3 rfl rfl rfl rfl rfl (Nat.le_of_ble_eq_true rfl) ?_)
       | refine de0 (zt (i := 2) ty3 rfl rfl rfl rfl rfl (Nat.le_of_ble_eq_true rfl) ?_)
       | refine de0 (zt (i := 3) ty3 rfl rfl rfl rfl rfl (Nat.le_of_ble_eq_true rfl) ?_)
       refine dn ?_
       refine ze ?_
       refine zO (Ghost.rm 1 rfl) ?_
       refine zy ?_
       first
       | refine de rfl (zG (i := 0) ty3 rfl rfl (.inl ⟨rfl, rfl⟩) ?_)
       | refine de rfl (zG (i := 1) ty3 rfl rfl (.inl ⟨rfl, rfl⟩) ?_)
       | refine de rfl (zG (i := 2) ty3 rfl rfl (.inl ⟨rfl, rfl⟩) ?_)
       | refine de rfl (zG (i := 3) ty3 rfl rfl (.inl ⟨rfl, rfl⟩) ?_)
       refine dq (zv rfl rfl (by omega) (by omega)) ?_
       first
       | refine de0 (zt (i := 0) ty3 rfl rfl rfl rfl rfl (Nat.le_of_ble_eq_true rfl) ?_)
       | refine de0 (zt (i := 1) ty3 rfl rfl rfl rfl rfl (Nat.le_of_ble_eq_true rfl) ?_)
       | refine de0 (zt (i := 2) ty3 rfl rfl rfl rfl rfl (Nat.le_of_ble_eq_true rfl) ?_)
       | refine de0 (zt (i := 3) ty3 rfl rfl rfl rfl rfl (Nat.le_of_ble_eq_true rfl) ?_)
       refine dn ?_
       exact ⟨m + 1, _, nb, (nbo, nbc), by omega, by dsimp only; omega, ⟨rfl, trivial⟩, (by repeat (first | exact zp | refine zu rfl ?_ | refine zq rfl rfl ?_)), (List.Perm.cons _ (List.Perm.swap _ _ _)).trans (zT (by dsimp only; rw [za4, zgU, hBl, hcd]; rfl))⟩
    ·try simp at h4
     obtain rfl : m = can.length - fr := by omega
     refine zN ?_
     refine zS ?_
     refine zg2 ?_
     refine zE ?_
     refine ze ?_
     have hBl : (za4 al can fr (zaM can.length got) (can.length - fr)).length = E := by rw [zi3, zlU, hE]
     have hlast : (za4 al can fr (zaM can.length got) (can.length - fr))[E - 1]? = some ((za4 al can fr (zaM can.length got) (can.length - fr)).getD (E - 1) 0) := getD_some (by omega)
     refine zb ?_
     first
     | refine de rfl (zG (i := 0) zR rfl rfl (.inl ⟨rfl, rfl⟩) ?_)
     | refine de rfl (zG (i := 1) zR rfl rfl (.inl ⟨rfl, rfl⟩) ?_)
     | refine de rfl (zG (i := 2) zR rfl rfl (.inl ⟨rfl, rfl⟩) ?_)
     | refine de rfl (zG (i := 3) zR rfl rfl (.inl ⟨rfl, rfl⟩) ?_)
     first
     | refine de rfl (zG (i := 0) zR rfl rfl (.inl ⟨rfl, rfl⟩) ?_)
     | refine de rfl (zG (i := 1) zR rfl rfl (.inl ⟨rfl, rfl⟩) ?_)
     | refine de rfl (zG (i := 2) zR rfl rfl (.inl ⟨rfl, rfl⟩) ?_)
     | refine de rfl (zG (i := 3) zR rfl rfl (.inl ⟨rfl, rfl⟩) ?_)
     refine dq (ze4 zR rfl) ?_
     refine dq (zay rfl rfl (by omega) (by omega)) ?_
     refine dq (zak (j := E - 1) zR ty3 rfl rfl (by omega) (by omega)) ?_
     refine de rfl (za5 (i := 2) (j := E - 1) 0 ty3 rfl (by omega) rfl hlast rfl rfl ?_)
     refine das rfl ?_
     refine dn ?_
     refine zo ?_
     refine zbO Ghost.clear rfl ⟨?_, rfl⟩
     show HVal.int .i64 _ = HVal.int .i64 _
     rw [zbJ, hE]

/-- (*benchwarmer/trade.hall).stays$1 -/
theorem zex [Tracks] {i k kn : Nat} {out : List Bool} (hk : kn ≤ out.length) : zaa Tryz.prog 131 [.int .i64 (i : Int), .int .i64 (k : Int), .vptr [.int .i64 (kn : Int)] 0, .vptr [.slice 1 (out.map .bool)] 0] (.bool (alS kn out i k)) := by
 refine Con.of_body Tryz.func131 rfl Tryz.ntmps131 rfl rfl ?_
 refine zb ?_
 refine das rfl ?_
 refine dn ?_
 refine zb ?_
 refine dmv rfl ?_
 refine dq (zi ty3 rfl rfl rfl) ?_
 refine dq (zbw rfl rfl) ?_
 refine dmv rfl ?_
 refine dg rfl rfl (fun hc => ⟨_, OpenTo.refl _, zd rfl⟩) ?_
 refine dg rfl rfl (fun hc => ⟨_, OpenTo.refl _, zd rfl⟩) ?_
 refine dg rfl rfl (fun hc => ⟨_, OpenTo.upd (t := 12) rfl (by first | exact hc | simp_all) (OpenTo.upd (t := 11) rfl (by first | exact hc | simp_all) (OpenTo.refl _)), zaJ rfl rfl⟩) ?_
 refine dg rfl rfl (fun hc => ⟨_, OpenTo.refl _, zi zcv rfl rfl rfl⟩) ?_
 refine dg rfl rfl (fun hc => ⟨_, OpenTo.refl _, zd rfl⟩) ?_
 refine dg rfl rfl (fun hc => by
  have hik : i < kn := by simpa using hc
  exact ⟨_, OpenTo.upd (t := 15) rfl (by first | exact hc | simp_all) (OpenTo.upd (t := 14) rfl (by first | exact hc | simp_all) (OpenTo.refl _)), zH (j := i) (a := out.getD i false) zcv ty4 rfl rfl rfl (getD_some (by omega))⟩) ?_
 refine dg rfl rfl (fun hc => ⟨_, OpenTo.upd (t := 16) rfl (by first | exact hc | simp_all) (OpenTo.refl _), zi ty4 rfl rfl rfl⟩) ?_
 refine dg rfl rfl (fun hc => ⟨_, OpenTo.upd (t := 17) rfl (by first | exact hc | simp_all) (OpenTo.upd (t := 13) rfl (by first | exact hc | simp_all) (OpenTo.refl _)), zlY ty4 rfl rfl⟩) ?_
 refine dq (zL rfl (.inl rfl) (.inr ⟨_, rfl, fun h => by simp_all⟩)) ?_
 refine das rfl ?_
 refine dn ?_
 refine zo ?_
 refine zC rfl ?_
 show HVal.bool _ = _
 unfold alS
 congr 1
 generalize out.getD i false = b
 have hik : ((i : Int) == (k : Int)) = (i == k) := by rw [Bool.eq_iff_iff, beq_iff_eq, beq_iff_eq]; omega
 by_cases h1 : kn ≤ i <;> by_cases h2 : i = k <;> cases b <;> simp [h1, h2, hik]

set_option maxHeartbeats 1000000 in
/-- (*benchwarmer/trade.hall).stays -/
theorem zhr [Tracks] {can : List (List Nat)} (hc : CanOk can) (hcl : ∀ c ∈ can, c.length ≤ 1000) : ziW Tryz.prog 84 [.vptr [zjd can] 0] 1 (((stB can can.length).map .bool)) := by
 have hn := hc.len
 refine Con.of_body Tryz.func84 rfl Tryz.ntmps84 rfl rfl ?_
 refine zb ?_
 refine das rfl ?_
 refine dn ?_
 refine zb ?_
 refine dmv rfl ?_
 refine dq ((by first | exact zar rfl | exact zV rfl)) ?_
 refine dq ((by first | exact zg zeh rfl zbn (by decide) rfl | exact zn zeh rfl zbn (by decide) rfl)) ?_
 refine dq (zi zbn rfl rfl rfl) ?_
 refine dq (zB zbn rfl) ?_
 refine das rfl ?_
 refine dn ?_
 refine zb ?_
 refine dmv rfl ?_
 refine de rfl (zg4 (n := can.length) zcv ty4 rfl rfl rfl rfl rfl (by omega) fun b15 => ?_)
 refine de rfl (zab zcv rfl fun b4 => ?_)
 refine de0 (zao zcv rfl rfl rfl rfl rfl ?_)
 refine dn ?_
 refine zO (Ghost.fc0 4 rfl) ?_
 refine zb ?_
 refine de rfl (zab ty3 rfl fun b5 => ?_)
 first
 | refine de0 (zt (i := 0) ty3 rfl rfl rfl rfl rfl (Nat.le_of_ble_eq_true rfl) ?_)
 | refine de0 (zt (i := 1) ty3 rfl rfl rfl rfl rfl (Nat.le_of_ble_eq_true rfl) ?_)
 | refine de0 (zt (i := 2) ty3 rfl rfl rfl rfl rfl (Nat.le_of_ble_eq_true rfl) ?_)
 | refine de0 (zt (i := 3) ty3 rfl rfl rfl rfl rfl (Nat.le_of_ble_eq_true rfl) ?_)
 refine dn ?_
 refine zb ?_
 refine dq (zcr rfl rfl) ?_
 refine das rfl ?_
 refine dn ?_
 refine zO (Ghost.perm (zT (show _ = [MObj.cells b5 [.int .i64 ((0 : Nat) : Int)], .arr (.slice (some ⟨b15, 0, none⟩) can.length can.length) 1 ((List.replicate can.length false).map .bool)] by rw [List.map_replicate]; rfl))) ?_
 refine zb ?_
 refine dmv rfl ?_
 refine dmv rfl ?_
 refine de rfl (zh1 (hs' := [.vptr [zjd can] 0, .int .i64 0, .int .i64 0, .fn (.func 131) [] [.vptr [.int .i64 ((0 : Nat) : Int)] 0, .vptr [.slice 1 ((List.replicate can.length false).map .bool)] 0]]) znA rfl ⟨.refl, .refl, .refl, .fnL ⟨.cellsL (i := 0) rfl ⟨.refl, trivial⟩, .vptrL ⟨.arr (i := 1) rfl, trivial⟩, trivial⟩, trivial⟩ (zcP (fr := 0) (got := 0) (al := alS (0) ((List.replicate can.length false))) zqj (fun i k _ _ => zex (by simp only [List.length_set, List.length_replicate, zev]; omega)) hc (Nat.zero_le _) (Nat.two_pow_pos _) hcl) rfl ?_)
 refine das rfl ?_
 refine dn ?_
 refine zf ?_
 simp only [zpZ]
 refine zb ?_
 refine dmv rfl ?_
 refine dmv rfl ?_
 refine dn ?_
 refine zm ?_
 refine z8 [8, 21, 22, 23, 24, 25, 26, 27, 28, 29, 30, 31, 32, 33, 34, 35, 36, 37] (fun (k : Nat) => [(21, .int .i64 (k : Int))]) (fun (k : Nat) => [.cells b5 [.int .i64 ((k : Nat) : Int)], .arr (.slice (some ⟨b15, 0, none⟩) can.length can.length) 1 ((stB can k).map .bool)]) (fun (k : Nat) => k ≤ can.length) (fun (k : Nat) => can.length - k) (0) ?_ ?_ ?_ ?_
 ·exact Nat.zero_le _
 ·exact ⟨rfl, trivial⟩
 ·exact zT rfl
 ·intro k hk
  refine zb ?_
  refine dq (zJ rfl rfl) ?_
  refine dn ?_
  refine zf ?_
  refine zj rfl (fun h1 => ?_) (fun h2 => ?_)
  ·try simp at h1
   obtain ⟨sk, hsk⟩ : ∃ b, (stB can k)[k]? = some b := ⟨_, List.getElem?_eq_getElem (by rw [zev]; omega)⟩
   refine zk ?_
   refine ze ?_
   refine zf ?_
   refine zm ?_
   refine zb ?_
   refine dmv rfl ?_
   refine das rfl ?_
   refine dn ?_
   refine zb ?_
   refine dq (zi zcv rfl rfl rfl) ?_
   refine dmv rfl ?_
   refine dmv rfl ?_
   refine dq (zv rfl rfl (by omega) (by omega)) ?_
   refine dq (zak (j := k) zcv ty4 rfl rfl rfl (by omega)) ?_
   refine de0 (zaQ (i := 1) (j := k) (f := 0) (y := .bool sk) (y' := .bool true) ty4 rfl (by omega) rfl rfl (zcn hsk) rfl rfl (by simp [zl]) rfl ?_)
   first
   | refine de0 (zt (i := 0) ty3 rfl rfl rfl rfl rfl (Nat.le_of_ble_eq_true rfl) ?_)
   | refine de0 (zt (i := 1) ty3 rfl rfl rfl rfl rfl (Nat.le_of_ble_eq_true rfl) ?_)
   | refine de0 (zt (i := 2) ty3 rfl rfl rfl rfl rfl (Nat.le_of_ble_eq_true rfl) ?_)
   | refine de0 (zt (i := 3) ty3 rfl rfl rfl rfl rfl (Nat.le_of_ble_eq_true rfl) ?_)
   refine dn ?_
   have hst : ((stB can k).set k true)[k]? = some true := by rw [List.getElem?_set, if_pos rfl, if_pos (by rw [zev]; omega)]
   refine zO (Ghost.perm (zT (show _ = [MObj.cells b5 [.int .i64 ((k + 1 : Nat) : Int)], .arr (.slice (some ⟨b15, 0, none⟩) can.length can.length) 1 (((stB can k).set k true).map .bool)] by rw [List.map_set]; rfl))) ?_
   refine zb ?_
   refine dmv rfl ?_
   refine dmv rfl ?_
   refine de rfl (zh1 (hs' := [.vptr [zjd can] 0, .int .i64 0, .int .i64 0, .fn (.func 131) [] [.vptr [.int .i64 ((k + 1 : Nat) : Int)] 0, .vptr [.slice 1 (((stB can k).set k true).map .bool)] 0]]) znA rfl ⟨.refl, .refl, .refl, .fnL ⟨.cellsL (i := 0) rfl ⟨.refl, trivial⟩, .vptrL ⟨.arr (i := 1) rfl, trivial⟩, trivial⟩, trivial⟩ (zcP (fr := 0) (got := 0) (al := alS (k + 1) (((stB can k).set k true))) zqj (fun i k _ _ => zex (by simp only [List.length_set, List.length_replicate, zev]; omega)) hc (Nat.zero_le _) (Nat.two_pow_pos _) hcl) rfl ?_)
   refine dmv rfl ?_
   refine dq (za6 rfl rfl) ?_
   refine dn ?_
   refine zj rfl (fun h3 => ?_) (fun h4 => ?_)
   ·try simp at h3
    refine zy ?_
    refine dq (zi zcv rfl rfl rfl) ?_
    refine dmv rfl ?_
    refine dq (zak (j := k) zcv ty4 rfl rfl rfl (by omega)) ?_
    refine de0 (zaQ (i := 1) (j := k) (f := 0) (y := .bool true) (y' := .bool false) ty4 rfl (by omega) rfl rfl (zcn hst) rfl rfl (by simp [zl]) rfl ?_)
    refine dn ?_
    refine zz ?_
    refine ze ?_
    refine zy ?_
    refine dq (zv rfl rfl (by omega) (by omega)) ?_
    refine dmv rfl ?_
    refine dn ?_
    exact ⟨k + 1, by omega, by dsimp only; omega, ⟨rfl, trivial⟩, (by repeat (first | exact zp | refine zu rfl ?_ | refine zq rfl rfl ?_)), zT (by dsimp only; rw [stB, zeg, if_pos (by assumption), ← List.map_set]; rfl)⟩
   ·try simp at h4
    refine zk ?_
    refine zz ?_
    refine ze ?_
    refine zy ?_
    refine dq (zv rfl rfl (by omega) (by omega)) ?_
    refine dmv rfl ?_
    refine dn ?_
    exact ⟨k + 1, by omega, by dsimp only; omega, ⟨rfl, trivial⟩, (by repeat (first | exact zp | refine zu rfl ?_ | refine zq rfl rfl ?_)), zT (by dsimp only; rw [stB, zeg, if_neg (by simp_all)])⟩
  ·try simp at h2
   obtain rfl : k = can.length := by omega
   refine zN ?_
   refine zS ?_
   refine zag ?_
   refine zE ?_
   refine ze ?_
   refine zb ?_
   refine dq (zi zcv rfl rfl rfl) ?_
   refine das rfl ?_
   refine dn ?_
   refine zo ?_
   exact zbO Ghost.drop rfl ⟨_, rfl, rfl⟩

/-- (*benchwarmer/trade.hall).choose$1 -/
theorem zeq [Tracks] {i k : Nat} {S : List Bool} (hi : i < S.length) : zaa Tryz.prog 85 [.int .i64 (i : Int), .int .i64 (k : Int), .vptr [.slice 1 (S.map .bool)] 0] (.bool (alC S i k)) := by
 refine Con.of_body Tryz.func85 rfl Tryz.ntmps85 rfl rfl ?_
 refine zb ?_
 refine das rfl ?_
 refine dn ?_
 refine zb ?_
 refine dmv rfl ?_
 refine dmv rfl ?_
 refine dq (zaJ rfl rfl) ?_
 refine dq (zi zcv rfl rfl rfl) ?_
 refine dmv rfl ?_
 refine dq (zH (j := i) (a := S.getD i false) zcv ty4 rfl rfl rfl (getD_some hi)) ?_
 refine dq (zi ty4 rfl rfl rfl) ?_
 refine dq (zlY ty4 rfl rfl) ?_
 refine das rfl ?_
 refine dn ?_
 refine zo ?_
 refine zC rfl ?_
 show HVal.bool _ = _
 unfold alC
 congr 1
 generalize S.getD i false = b
 have hik : ((i : Int) == (k : Int)) = (i == k) := by rw [Bool.eq_iff_iff, beq_iff_eq, beq_iff_eq]; omega
 by_cases h2 : i = k <;> cases b <;> simp [h2, hik]

set_option maxHeartbeats 2000000 in
/-- (*benchwarmer/trade.hall).choose -/
theorem zhj [Tracks] {can : List (List Nat)} (hco : CanOk can) (hcl : ∀ c ∈ can, c.length ≤ 1000) : zaa Tryz.prog 52 [.vptr [zjd can] 0] (eNs (zaO can)) := by
 have hn := hco.len
 refine Con.of_body Tryz.func52 rfl Tryz.ntmps52 rfl rfl ?_
 refine zb ?_
 refine das rfl ?_
 refine dn ?_
 refine zb ?_
 refine dmv rfl ?_
 refine de rfl (EOp.fzi (N := []) (sz := 1) (es := (stB can can.length).map .bool) 0 (EOp.mono (by rintro _ _ ⟨v, rfl, rfl⟩; exact ⟨v, rfl, rfl, rfl⟩) (zgR ca84 rfl (WeakL.refl _) (zhr hco hcl))) ?_)
 refine de rfl (zab zcv rfl fun b3 => ?_)
 refine de0 (zao zcv rfl rfl rfl rfl rfl ?_)
 refine dn ?_
 refine zO (Ghost.fc0 3 rfl) ?_
 refine zb ?_
 refine dq (zcr rfl rfl) ?_
 refine das rfl ?_
 refine dn ?_
 refine zb ?_
 refine das rfl ?_
 refine dn ?_
 refine zO (Ghost.arr_nil 1) ?_
 refine zb ?_
 refine das rfl ?_
 refine dn ?_
 refine zf ?_
 refine zb ?_
 refine dmv rfl ?_
 refine dq ((by first | exact zar rfl | exact zV rfl)) ?_
 refine dq ((by first | exact zg zeh rfl zbn (by decide) rfl | exact zn zeh rfl zbn (by decide) rfl)) ?_
 refine dq (zi zbn rfl rfl rfl) ?_
 refine dq (zB zbn rfl) ?_
 refine dmv rfl ?_
 refine dn ?_
 refine zm ?_
 refine zbf (5 :: 6 :: 7 :: 8 :: 9 :: 10 :: 12 :: 21 :: 22 :: 23 :: 24 :: 25 :: 26 :: 27 :: 28 :: 29 :: 30 :: 31 :: 32 :: 33 :: 34 :: 35 :: 36 :: 37 :: 38 :: 39 :: 40 :: 41 :: 42 :: 43 :: 44 :: 45 :: 46 :: 47 :: 48 :: 49 :: 50 :: 51 :: 52 :: 53 :: 54 :: 55 :: 56 :: 57 :: 58 :: 59 :: 60 :: 61 :: 62 :: 63 :: 64 :: 65 :: 66 :: 67 :: 68 :: 69 :: 70 :: 71 :: 72 :: 73 :: 74 :: 75 :: 76 :: 77 :: []) (fun (k : Nat) (ov : Value) => [(21, .int .i64 (k : Int)), (5, .raw ov), (6, .int .i64 ((zaV (chB can (stB can can.length) k) : Nat) : Int))]) (fun (k : Nat) (ov : Value) => [.arr ov 1 ((chB can (stB can can.length) k).map fun k => HVal.int .i64 ((k : Nat) : Int))]) (fun (k : Nat) (ov : Value) => k ≤ can.length) (fun (k : Nat) (ov : Value) => can.length - k) (0) (.slice none 0 0) ?_ ?_ ?_ ?_
 ·exact Nat.zero_le _
 ·exact ⟨rfl, rfl, rfl, trivial⟩
 ·exact zT rfl
 ·intro k ov hk
  refine zb ?_
  refine dq (zJ rfl rfl) ?_
  refine dn ?_
  refine zf ?_
  refine zj rfl (fun h1 => ?_) (fun h2 => ?_)
  ·try simp at h1
   obtain ⟨ck, hck⟩ : ∃ c, can[k]? = some c := ⟨_, List.getElem?_eq_getElem (by omega)⟩
   obtain ⟨sk, hsk⟩ : ∃ b, (stB can can.length)[k]? = some b := ⟨_, List.getElem?_eq_getElem (by rw [zev]; omega)⟩
   have hsd : (stB can can.length).getD k false = sk := by rw [List.getD_eq_getElem?_getD, hsk]; rfl
   obtain ⟨hcl1, hcl2⟩ := zqs (S := (stB can can.length)) hco k (by omega)
   have hgl := zjk hcl1
   have hpn := zn9 hn
   have hcdl : (zbp can (stB can can.length) k).length ≤ 1000 := by unfold zbp; split <;> first | (simp; done) | (rw [List.getD_eq_getElem?_getD, hck]; exact hcl ck (List.mem_of_getElem? hck))
   refine zk ?_
   refine ze ?_
   refine zf ?_
   refine zm ?_
   refine zb ?_
   refine dmv rfl ?_
   refine das rfl ?_
   refine dn ?_
   refine zb ?_
   refine dmv rfl ?_
   refine dmv rfl ?_
   refine dmv rfl ?_
   refine dmv rfl ?_
   refine dq (zw (hs' := [.vptr [zjd can] 0, .int .i64 ((k : Nat) : Int), .int .i64 ((zaV (chB can (stB can can.length) k) : Nat) : Int), .fn (.func 85) [] [.vptr [.slice 1 ((stB can can.length).map .bool)] 0]]) znA rfl (WeakL.refl _) (zcP (fr := k) (got := zaV (chB can (stB can can.length) k)) (al := alC (stB can can.length)) ca85 (fun i k hi _ => zeq (by rw [zev]; exact hi)) hco (by omega) hgl hcl)) ?_
   refine das rfl ?_
   refine dn ?_
   refine zb ?_
   refine das rfl ?_
   refine dn ?_
   refine zb ?_
   refine dmv rfl ?_
   refine dq ((by first | exact zar rfl | exact zV rfl)) ?_
   refine dq ((by first | exact zg zeh rfl zbn (by decide) rfl | exact zn zeh rfl zbn (by decide) rfl)) ?_
   refine dq (zi zbn rfl rfl rfl) ?_
   refine dmv rfl ?_
   refine dq (zH (j := k) (a := ck) zbn zR rfl rfl rfl hck) ?_
   refine dq (zi zR rfl rfl rfl) ?_
   refine das rfl ?_
   refine dn ?_
   refine zfx [9, 10, 36, 37, 38, 39, 40, 41] (fun (z0 : Unit) => [(9, .int .i64 (zc8 (stB can can.length) k)), (10, eNs (zbp can (stB can can.length) k))]) (fun (z0 : Unit) => [.arr ov 1 ((chB can (stB can can.length) k).map fun k => HVal.int .i64 ((k : Nat) : Int))]) (fun (z0 : Unit) => True) ?_ ?_
   ·skip
    refine zb ?_
    refine dq (zi zcv rfl rfl rfl) ?_
    refine dmv rfl ?_
    refine dq (zH (j := k) (a := sk) zcv ty4 rfl rfl rfl hsk) ?_
    refine dq (zi ty4 rfl rfl rfl) ?_
    refine dn ?_
    refine zj rfl (fun h3 => ?_) (fun h4 => ?_)
    ·try simp at h3
     refine zy ?_
     refine dmv rfl ?_
     refine dq (zM (hs := [_]) zR ty3 rfl rfl (by decide) (by decide) rfl) ?_
     refine das rfl ?_
     refine das rfl ?_
     refine dn ?_
     have hst : (stB can can.length).getD k false = true := by rw [hsd]; simp_all
     exact ⟨(), trivial, ⟨congrArg (fun q => some (HVal.int .i64 q)) (by rw [zc8, if_pos hst]), congrArg (fun q => some (eNs q)) (show [k] = _ by rw [zbp, if_pos hst]), trivial⟩, (by repeat (first | exact zp | refine zu rfl ?_ | refine zq rfl rfl ?_)), List.Perm.refl _⟩
    ·try simp at h4
     refine zk ?_
     have hst : ¬ (stB can can.length).getD k false = true := by rw [hsd]; simp_all
     exact ⟨(), trivial, ⟨congrArg (fun q => some (HVal.int .i64 q)) (by rw [zc8, if_neg hst]), congrArg (fun q => some (eNs q)) (by rw [zbp, if_neg hst, List.getD_eq_getElem?_getD, hck]; rfl), trivial⟩, (by repeat (first | exact zp | refine zu rfl ?_ | refine zq rfl rfl ?_)), List.Perm.refl _⟩
   ·intro z0 _
    refine zb ?_
    refine dmv rfl ?_
    refine dq (zB zR rfl) ?_
    refine dmv rfl ?_
    refine dn ?_
    refine zm ?_
    refine z8 [5, 6, 12, 44, 45, 46, 47, 48, 49, 50, 51, 52, 53, 54, 55, 56, 57, 58, 59, 60, 61, 62, 63, 64, 65, 66, 67, 68, 69, 70, 71, 72, 73, 74, 75, 76] (fun (j : Nat) => [(44, .int .i64 j), (5, .raw ov), (6, .int .i64 ((zaV (chB can (stB can can.length) k) : Nat) : Int))]) (fun (j : Nat) => [.arr ov 1 ((chB can (stB can can.length) k).map fun k => HVal.int .i64 ((k : Nat) : Int))]) (fun (j : Nat) => j ≤ (zbp can (stB can can.length) k).length ∧ ((zbp can (stB can can.length) k).find? (okB can (stB can can.length) k (chB can (stB can can.length) k)) = ((zbp can (stB can can.length) k).drop j).find? (okB can (stB can can.length) k (chB can (stB can can.length) k)))) (fun (j : Nat) => (zbp can (stB can can.length) k).length - j) (0) ?_ ?_ ?_ ?_
    ·exact ⟨Nat.zero_le _, rfl⟩
    ·exact ⟨rfl, rfl, rfl, trivial⟩
    ·exact zT rfl
    ·intro j hinv
     obtain ⟨hj, hfd⟩ := hinv
     refine zb ?_
     refine dq (zJ rfl rfl) ?_
     refine dn ?_
     refine zf ?_
     refine zj rfl (fun h5 => ?_) (fun h6 => ?_)
     ·try simp at h5
      obtain ⟨y, hy⟩ : ∃ y, (zbp can (stB can can.length) k)[j]? = some y := ⟨_, List.getElem?_eq_getElem h5⟩
      have hdy := zK hy
      rw [hdy] at hfd
      refine zk ?_
      refine ze ?_
      refine zf ?_
      refine zm ?_
      refine zb ?_
      refine dq (zH zR ty3 rfl rfl rfl (by first | assumption | simp_all)) ?_
      refine dq (zi ty3 rfl rfl rfl) ?_
      refine das rfl ?_
      refine dn ?_
      have hyl : y < can.length := znv hco (by omega) (List.mem_of_getElem? hy)
      have hpy : 2 ^ y < 2 ^ can.length := Nat.pow_lt_pow_right (by omega) hyl
      have hor : zaV (chB can (stB can can.length) k) ||| 2 ^ y < 2 ^ can.length := Nat.or_lt_two_pow hgl hpy
      have hb1 := zrc (al := alC (stB can can.length)) (can := can) (fr := k + 1) (got := zaV (chB can (stB can can.length) k) ||| 2 ^ y) hn
      have hb2 := zqI (S := (stB can can.length)) (i := k)
      refine zb ?_
      refine dmv rfl ?_
      refine dmv rfl ?_
      refine dq (zlZ rfl rfl (by omega)) ?_
      refine dq (zk2 rfl rfl) ?_
      refine dq (zcZ (zaJ rfl rfl) zqm) ?_
      refine dmv rfl ?_
      refine dg rfl rfl (fun hc => ⟨_, OpenTo.refl _, zd rfl⟩) ?_
      refine dg rfl rfl (fun hc => ⟨_, OpenTo.refl _, zd rfl⟩) ?_
      refine dg rfl rfl (fun hc => by have hq := hc; (try simp at hq); exact ⟨_, OpenTo.upd (t := 55) rfl (by first | exact hc | simp_all) (OpenTo.refl _), zv rfl rfl (by omega) (by omega)⟩) ?_
      refine dg rfl rfl (fun hc => ⟨_, OpenTo.refl _, zd rfl⟩) ?_
      refine dg rfl rfl (fun hc => ⟨_, OpenTo.refl _, zd rfl⟩) ?_
      refine dg rfl rfl (fun hc => by have hq := hc; (try simp at hq); exact ⟨_, OpenTo.upd (t := 58) rfl (by first | exact hc | simp_all) (OpenTo.refl _), zfE rfl rfl (by omega)⟩) ?_
      refine dg rfl rfl (fun hc => by have hq := hc; (try simp at hq); exact ⟨_, OpenTo.upd (t := 59) rfl (by first | exact hc | simp_all) (OpenTo.upd (t := 57) rfl (by first | exact hc | simp_all) (OpenTo.refl _)), zie rfl rfl (by omega) (by omega)⟩) ?_
      refine dg rfl rfl (fun hc => ⟨_, OpenTo.refl _, zd rfl⟩) ?_
      refine dg rfl rfl (fun hc => by have hq := hc; (try simp at hq); exact ⟨_, OpenTo.upd (t := 61) rfl (by first | exact hc | simp_all) (OpenTo.upd (t := 60) rfl (by first | exact hc | simp_all) (OpenTo.upd (t := 56) rfl (by first | exact hc | simp_all) (OpenTo.upd (t := 54) rfl (by first | exact hc | simp_all) (OpenTo.refl _)))), zw (hs' := [.vptr [zjd can] 0, .int .i64 (((k + 1) : Nat) : Int), .int .i64 (((zaV (chB can (stB can can.length) k) ||| 2 ^ y) : Nat) : Int), .fn (.func 85) [] [.vptr [.slice 1 ((stB can can.length).map .bool)] 0]]) znA rfl (WeakL.refl _) (zcP (fr := (k + 1)) (got := (zaV (chB can (stB can can.length) k) ||| 2 ^ y)) (al := alC (stB can can.length)) ca85 (fun i k hi _ => zeq (by rw [zev]; exact hi)) hco (by omega) hor hcl)⟩) ?_
      refine dg rfl rfl (fun hc => ⟨_, OpenTo.refl _, zd rfl⟩) ?_
      refine dg rfl rfl (fun hc => by have hq := hc; (try simp at hq); exact ⟨_, OpenTo.upd (t := 63) rfl (by first | exact hc | simp_all) (OpenTo.upd (t := 62) rfl (by first | exact hc | simp_all) (OpenTo.refl _)), zv rfl rfl (by omega) (by omega)⟩) ?_
      refine dg rfl rfl (fun hc => ⟨_, OpenTo.refl _, zd rfl⟩) ?_
      refine dg rfl rfl (fun hc => ⟨_, OpenTo.upd (t := 65) rfl (by first | exact hc | simp_all) (OpenTo.upd (t := 64) rfl (by first | exact hc | simp_all) (OpenTo.refl _)), zaJ rfl rfl⟩) ?_
      refine dq (zL rfl (.inr ⟨_, rfl, fun h => by simp_all⟩) (.inl rfl)) ?_
      refine dn ?_
      refine zj rfl (fun h7 => ?_) (fun h8 => ?_)
      ·try simp at h7
       have hfs : (zbp can (stB can can.length) k).find? (okB can (stB can can.length) k (chB can (stB can can.length) k)) = some y := by rw [hfd, List.find?_cons_of_pos (zrm (by simp_all) (by simp_all))]
       refine za7 (fun _ => True) [] mixed ?_
       refine ahp 0 rfl rfl (by kernel_rfl) (by kernel_rfl) (zd rfl) ?_
       refine ahp 1 rfl rfl (by kernel_rfl) (by kernel_rfl) (zd rfl) ?_
       refine ahp 2 rfl rfl (by kernel_rfl) (by kernel_rfl) (zM (hs := [_]) zR ty3 rfl rfl (by decide) (by decide) rfl) ?_
       refine ahp 4 rfl rfl (by kernel_rfl) (by kernel_rfl) (zd rfl) ?_
       refine ahp 5 rfl rfl (by kernel_rfl) (by kernel_rfl) (zd rfl) ?_
       refine ahp 6 rfl rfl (by kernel_rfl) (by kernel_rfl) (zfE rfl rfl (by omega)) ?_
       refine ahp 7 rfl rfl (by kernel_rfl) (by kernel_rfl) (zie rfl rfl (by omega) (by omega)) ?_
       refine ahe 3 rfl (by kernel_rfl) ?_
       refine zA rfl (zah (i := 0) zR ty3 rfl rfl rfl rfl rfl (by simp [zaD, zl]) (by simp; omega) fun v71 => ?_)
       refine ⟨fun _ => .inl trivial, ?_⟩
       refine ahp 8 rfl rfl (by kernel_rfl) (by kernel_rfl) (zaK rfl) ?_
       refine ahp 9 rfl rfl (by kernel_rfl) (by kernel_rfl) (zaK rfl) ?_
       refine ahz (by kernel_rfl) ?_
       refine zN ?_
       refine ze7 rfl ?_
       refine zS ?_
       refine zag ?_
       refine zE ?_
       refine zz ?_
       refine ze ?_
       refine zy ?_
       refine dq (zv rfl rfl (by omega) (by omega)) ?_
       refine dmv rfl ?_
       refine dn ?_
       exact ⟨k + 1, v71, by omega, by dsimp only; omega, ⟨rfl, rfl, zbY (by rw [ziO hfs, zf4]), trivial⟩, (by repeat (first | exact zp | refine zu rfl ?_ | refine zq rfl rfl ?_)), zT (by dsimp only; rw [ziO hfs, List.map_append]; rfl)⟩
      ·try simp at h8
       refine zk ?_
       refine zz ?_
       refine ze ?_
       refine zy ?_
       refine dq (zv rfl rfl (by omega) (by omega)) ?_
       refine dmv rfl ?_
       refine dn ?_
       exact ⟨j + 1, ⟨by omega, by rw [hfd, List.find?_cons_of_neg (zq4 (by simp_all))]⟩, by dsimp only; omega, ⟨rfl, rfl, rfl, trivial⟩, (by repeat (first | exact zp | refine zu rfl ?_ | refine zq rfl rfl ?_)), List.Perm.refl _⟩
     ·try simp at h6
      have hnj : (zbp can (stB can can.length) k).length ≤ j := by omega
      obtain rfl : j = (zbp can (stB can can.length) k).length := by omega
      rw [z6 (Nat.le_refl _)] at hfd
      refine zN ?_
      refine zS ?_
      refine zag ?_
      refine zE ?_
      refine zz ?_
      refine ze ?_
      refine zy ?_
      refine dq (zv rfl rfl (by omega) (by omega)) ?_
      refine dmv rfl ?_
      refine dn ?_
      have hfn : (zbp can (stB can can.length) k).find? (okB can (stB can can.length) k (chB can (stB can can.length) k)) = none := by rw [hfd]; rfl
      exact ⟨k + 1, ov, by omega, by dsimp only; omega, ⟨rfl, rfl, zbY (by rw [ziK hfn]), trivial⟩, (by repeat (first | exact zp | refine zu rfl ?_ | refine zq rfl rfl ?_)), zT (by dsimp only; rw [ziK hfn])⟩
  ·try simp at h2
   obtain rfl : k = can.length := by omega
   refine zN ?_
   refine zS ?_
   refine zbr ?_
   refine zE ?_
   refine ze ?_
   refine zb ?_
   refine dmv rfl ?_
   refine das rfl ?_
   refine dn ?_
   refine zo ?_
   refine zbO (Ghost.fa 2 (i := 0) rfl rfl) rfl ⟨?_, rfl⟩
   rfl

/-- math/bits.Len64 -/
theorem zkk [Tracks] {x : Nat} (hx : x < 16) : Con Tryz.prog 114 [.int .u64 (x : Int)] [] (fun y M' => ∃ n : Int, y = .int .i64 n ∧ M' = []) := by
 refine Con.of_body Tryz.func114 rfl Tryz.ntmps114 rfl rfl ?_
 refine zb ?_
 refine das rfl ?_
 refine dn ?_
 refine zf ?_
 refine zb ?_
 refine dmv rfl ?_
 refine dq (zbw rfl rfl) ?_
 refine dn ?_
 refine zj rfl (fun h1 => ?_) (fun h1 => ?_)
 ·exfalso
  try simp at h1
  omega
 ·try simp at h1
  refine zk ?_
  refine ze ?_
  refine zf ?_
  refine zb ?_
  refine dmv rfl ?_
  refine dq (zbw rfl rfl) ?_
  refine dn ?_
  refine zj rfl (fun h2 => ?_) (fun h2 => ?_)
  ·exfalso
   try simp at h2
   omega
  ·try simp at h2
   refine zk ?_
   refine ze ?_
   refine zf ?_
   refine zb ?_
   refine dmv rfl ?_
   refine dq (zbw rfl rfl) ?_
   refine dn ?_
   refine zj rfl (fun h3 => ?_) (fun h3 => ?_)
   ·exfalso
    try simp at h3
    omega
   ·try simp at h3
    refine zk ?_
    refine ze ?_
    refine zb ?_
    refine dmv rfl ?_
    refine dmv rfl ?_
    refine dq (zbK zqw ty5 rfl) ?_
    refine dq (zb2 (j := x) ty9 rfl rfl (zr3 hx) (List.getElem?_eq_getElem (Nat.lt_of_lt_of_le hx (Nat.le_of_ble_eq_true (by kernel_rfl))))) ?_
    refine dq (zbK ty5 ty3 rfl) ?_
    refine dq (zgB rfl rfl) ?_
    refine das rfl ?_
    refine dn ?_
    refine zo ?_
    exact zbG rfl ⟨_, rfl, rfl⟩

/-- math/bits.Len -/
theorem zlV [Tracks] {x : Nat} (hx : x < 16) : Con Tryz.prog 69 [.int .u64 (x : Int)] [] (fun y M' => ∃ n : Int, y = .int .i64 n ∧ M' = []) := by
 refine Con.of_body Tryz.func69 rfl Tryz.ntmps69 rfl rfl ?_
 refine zb ?_
 refine das rfl ?_
 refine dn ?_
 refine zf ?_
 refine zcJ rfl ?_
 refine zk ?_
 refine ze ?_
 refine zb ?_
 refine dmv rfl ?_
 refine de rfl (zds (M1 := []) (R := []) zqD rfl (WeakL.refl _) (List.Perm.refl _) (zkk hx) ?_)
 rintro _ _ ⟨n7, rfl, rfl⟩
 refine das rfl ?_
 refine dn ?_
 refine zo ?_
 exact zbG rfl ⟨_, rfl, rfl⟩

set_option maxHeartbeats 1000000 in
/-- slices.insertionSortCmpFunc[benchwarmer/api.Give] -/
theorem zdm [Tracks] {l : List GiveS} {v : Value} {fid : FuncId} {caps : List HVal} {c : GiveS → GiveS → Int} {n : Int} (hca : Callable Tryz.prog fid) (hp : ∀ x y, zaa Tryz.prog fid ([za8 x, za8 y] ++ caps) (.int .i64 (c x y))) (hn : n = l.length) (hl : l.length ≤ 1000000) : Con Tryz.prog 133 [.raw v, .int .i64 0, .int .i64 n, .fn (.func fid) [] caps] [.arr v 3 (l.map za8)] (fun x M' => x = .tup [] ∧ M' = [.arr v 3 ((zb4 c l).map za8)]) := by
 subst hn
 refine Con.of_body Tryz.func133 rfl Tryz.ntmps133 rfl rfl ?_
 refine zb ?_
 refine dmv rfl ?_
 refine dq (zv rfl rfl (by omega) (by omega)) ?_
 refine das rfl ?_
 refine dn ?_
 refine zm ?_
 refine z8 [8, 9, 12, 13, 14, 15, 16, 17, 18, 19, 20, 21, 22, 23, 24, 25, 26, 27, 28, 29, 30, 31, 32, 33, 34, 35, 36, 37, 38, 39, 40, 41, 42, 43, 44, 45, 46, 47, 48, 49, 50, 51, 52] (fun (k : Nat) => [(8, .int .i64 (k : Int))]) (fun (k : Nat) => [.arr v 3 ((zb4 c (l.take k) ++ l.drop k).map za8)]) (fun (k : Nat) => 1 ≤ k) (fun (k : Nat) => l.length - k) (1) ?_ ?_ ?_ ?_
 ·exact Nat.le_refl _
 ·exact ⟨rfl, trivial⟩
 ·exact zT (by rw [zmW])
 ·intro k hk
  refine zf ?_
  refine zb ?_
  refine dmv rfl ?_
  refine dmv rfl ?_
  refine dq (zJ rfl rfl) ?_
  refine dn ?_
  refine zj rfl (fun h1 => ?_) (fun h2 => ?_)
  ·try simp at h1
   obtain ⟨x, hx⟩ : ∃ x, l[k]? = some x := ⟨_, List.getElem?_eq_getElem (by omega)⟩
   refine zc1 (i := 0) rfl (fun h0 he => ?_) (fun b off cap hv hcap => ?_)
   ·exfalso; have := congrArg List.length he; simp [zfc] at this; omega
   rw [show ((zb4 c (l.take k) ++ l.drop k).map za8).length = l.length by simp [zfc]; omega] at hv
   subst hv
   refine zk ?_
   refine ze ?_
   refine zf ?_
   refine zm ?_
   refine zb ?_
   refine dmv rfl ?_
   refine das rfl ?_
   refine dn ?_
   refine zm ?_
   refine zbf [9, 18, 19, 20, 21, 22, 23, 24, 25, 26, 27, 28, 29, 30, 31, 32, 33, 34, 35, 36, 37, 38, 39, 40, 41, 42, 43, 44, 45, 46, 47, 48, 49, 50, 51, 52] (fun (A : List GiveS) (B : List GiveS) => [(9, .int .i64 (A.length : Int))]) (fun (A : List GiveS) (B : List GiveS) => [.arr (.slice (some ⟨b, off, none⟩) l.length cap) 3 ((A ++ x :: (B ++ l.drop (k + 1))).map za8)]) (fun (A : List GiveS) (B : List GiveS) => A.length + B.length = k ∧ zdn c x (zb4 c (l.take k)) = zdn c x A ++ B) (fun (A : List GiveS) (B : List GiveS) => A.length) (zb4 c (l.take k)) ([]) ?_ ?_ ?_ ?_
   ·exact ⟨by simp [zfc]; omega, by simp⟩
   ·exact ⟨zbY (by simp [zfc]; omega), trivial⟩
   ·exact zT (by rw [zK hx]; rfl)
   ·intro A B hinv
    obtain ⟨hA, hB⟩ := hinv
    have hlA : A.length < l.length := by omega
    have hll : ((A ++ x :: (B ++ l.drop (k + 1)))).length = l.length := by simp; omega
    refine zf ?_
    refine za7 (fun M => M = [.arr (.slice (some ⟨b, off, none⟩) l.length cap) 3 ((A ++ x :: (B ++ l.drop (k + 1))).map za8)]) [8, 13] mixed ?_
    refine ahp 0 rfl rfl (by kernel_rfl) (by kernel_rfl) (zd rfl) ?_
    refine ahp 1 rfl rfl (by kernel_rfl) (by kernel_rfl) (zd rfl) ?_
    refine ahp 2 rfl rfl (by kernel_rfl) (by kernel_rfl) (zax rfl rfl) ?_
    refine ahp 3 rfl rfl (by kernel_rfl) (by kernel_rfl) (zd rfl) ?_
    refine ahg 4 rfl rfl (by kernel_rfl) (by kernel_rfl) rfl (fun hc => ⟨_, OpenTo.refl _, zd rfl⟩) ?_
    refine ahg 5 rfl rfl (by kernel_rfl) (by kernel_rfl) rfl (fun hc => ⟨_, OpenTo.refl _, zd rfl⟩) ?_
    refine ahg 6 rfl rfl (by kernel_rfl) (by kernel_rfl) rfl (fun hc => ⟨_, OpenTo.refl _, zd rfl⟩) ?_
    refine ahg 7 rfl rfl (by kernel_rfl) (by kernel_rfl) rfl (fun hc => by
     have hq : 0 < A.length := by simpa using hc
     exact ⟨_, OpenTo.upd (t := 24) rfl (by first | exact hc | simp_all) (OpenTo.upd (t := 23) rfl (by first | exact hc | simp_all) (OpenTo.refl _)), zak (j := A.length) zbg zaz rfl rfl (by rfl) (by omega)⟩) ?_
    refine zko 8 rfl rfl (by kernel_rfl) (by kernel_rfl) (by simp) rfl rfl (fun hc => ⟨_, OpenTo.upd (t := 25) rfl (by first | exact hc | simp_all) (OpenTo.refl _), fun M hM => by
     subst hM; exact zcV (i := 0) (j := A.length) zaz rfl rfl rfl zkp rfl rfl rfl ⟨rfl, rfl⟩
     ⟩) ?_
    refine ahg 9 rfl rfl (by kernel_rfl) (by kernel_rfl) rfl (fun hc => ⟨_, OpenTo.refl _, zd rfl⟩) ?_
    refine ahg 10 rfl rfl (by kernel_rfl) (by kernel_rfl) rfl (fun hc => ⟨_, OpenTo.refl _, zd rfl⟩) ?_
    refine ahg 11 rfl rfl (by kernel_rfl) (by kernel_rfl) rfl (fun hc => by
     have hq : 0 < A.length := by simpa using hc
     exact ⟨_, OpenTo.upd (t := 28) rfl (by first | exact hc | simp_all) (OpenTo.refl _), zay rfl rfl (by omega) (by omega)⟩) ?_
    refine ahg 12 rfl rfl (by kernel_rfl) (by kernel_rfl) rfl (fun hc => by
     have hq : 0 < A.length := by simpa using hc
     exact ⟨_, OpenTo.upd (t := 29) rfl (by first | exact hc | simp_all) (OpenTo.upd (t := 27) rfl (by first | exact hc | simp_all) (OpenTo.refl _)), zak (j := A.length - 1) zbg zaz rfl rfl (by omega) (by omega)⟩) ?_
    refine zko 13 rfl rfl (by kernel_rfl) (by kernel_rfl) (by simp) rfl rfl (fun hc => ⟨_, OpenTo.upd (t := 30) rfl (by first | exact hc | simp_all) (OpenTo.refl _), fun M hM => by
     have hq : 0 < A.length := by simpa using hc
     subst hM; exact zcV (i := 0) (j := A.length - 1) zaz rfl rfl rfl (zg0 hq) rfl rfl rfl ⟨rfl, rfl⟩
     ⟩) ?_
    refine ahg 14 rfl rfl (by kernel_rfl) (by kernel_rfl) rfl (fun hc => ⟨_, OpenTo.upd (t := 31) rfl (by first | exact hc | simp_all) (OpenTo.upd (t := 26) rfl (by first | exact hc | simp_all) (OpenTo.upd (t := 22) rfl (by first | exact hc | simp_all) (OpenTo.refl _))), zci hca rfl rfl (WeakL.refl _) (hp _ _)⟩) ?_
    refine ahg 15 rfl rfl (by kernel_rfl) (by kernel_rfl) rfl (fun hc => ⟨_, OpenTo.upd (t := 32) rfl (by first | exact hc | simp_all) (OpenTo.refl _), zJ rfl rfl⟩) ?_
    refine ahp 16 rfl rfl (by kernel_rfl) (by kernel_rfl) (zL rfl (.inr ⟨_, rfl, fun h => by simp_all⟩) (.inl rfl)) ?_
    refine ahz (by kernel_rfl) ?_
    refine zj rfl (fun h3 => ?_) (fun h4 => ?_)
    ·try simp at h3
     obtain ⟨hA0, hcx⟩ := h3
     obtain ⟨A1, y, rfl⟩ := zm5 hA0
     rw [zgc] at hcx
     refine zk ?_
     refine ze ?_
     refine zf ?_
     refine zm ?_
     refine zb0 (fun M => M = [.arr (.slice (some ⟨b, off, none⟩) l.length cap) 3 (((A1 ++ [y]) ++ x :: (B ++ l.drop (k + 1))).map za8)]) [9, 13] mixed ?_
     refine ahp 0 rfl rfl (by kernel_rfl) (by kernel_rfl) (zd rfl) ?_
     refine ahp 1 rfl rfl (by kernel_rfl) (by kernel_rfl) (zd rfl) ?_
     refine ahp 2 rfl rfl (by kernel_rfl) (by kernel_rfl) (zd rfl) ?_
     refine ahp 3 rfl rfl (by kernel_rfl) (by kernel_rfl) (zd rfl) ?_
     refine ahp 4 rfl rfl (by kernel_rfl) (by kernel_rfl) (zay rfl rfl (by omega) (by omega)) ?_
     refine ahp 5 rfl rfl (by kernel_rfl) (by kernel_rfl) (zd rfl) ?_
     refine ahp 6 rfl rfl (by kernel_rfl) (by kernel_rfl) (zd rfl) ?_
     refine ahp 7 rfl rfl (by kernel_rfl) (by kernel_rfl) (zay rfl rfl (by omega) (by omega)) ?_
     refine ahp 8 rfl rfl (by kernel_rfl) (by kernel_rfl) (zak (j := (A1 ++ [y]).length - 1) zbg zaz rfl rfl (by omega) (by omega)) ?_
     refine ahl 9 rfl rfl (by kernel_rfl) (by kernel_rfl) (by simp) rfl (fun M hM => by subst hM; exact zcV (i := 0) (j := (A1 ++ [y]).length - 1) zaz rfl rfl rfl ((zg0 hA0).trans (by rw [zgc])) rfl rfl rfl ⟨rfl, rfl⟩) ?_
     refine ahp 10 rfl rfl (by kernel_rfl) (by kernel_rfl) (zd rfl) ?_
     refine ahp 11 rfl rfl (by kernel_rfl) (by kernel_rfl) (zd rfl) ?_
     refine ahp 12 rfl rfl (by kernel_rfl) (by kernel_rfl) (zak (j := (A1 ++ [y]).length) zbg zaz rfl rfl rfl (by omega)) ?_
     refine ahl 13 rfl rfl (by kernel_rfl) (by kernel_rfl) (by simp) rfl (fun M hM => by subst hM; exact zcV (i := 0) (j := (A1 ++ [y]).length) zaz rfl rfl rfl zkp rfl rfl rfl ⟨rfl, rfl⟩) ?_
     refine ahp 14 rfl rfl (by kernel_rfl) (by kernel_rfl) (zak (j := (A1 ++ [y]).length) zbg zaz rfl rfl rfl (by omega)) ?_
     refine ahe 15 rfl (by kernel_rfl) ?_
     refine zav (zdl (i := 0) (j := (A1 ++ [y]).length) (y := x) (y' := y) zaz rfl rfl rfl rfl zkp rfl rfl rfl ?_)
     refine ⟨fun _ => .inr (by simp [zbW, Region.binds]), ?_⟩
     refine ahp 16 rfl rfl (by kernel_rfl) (by kernel_rfl) (zak (j := (A1 ++ [y]).length - 1) zbg zaz rfl rfl (by omega) (by omega)) ?_
     refine ahe 17 rfl (by kernel_rfl) ?_
     refine zav (zdl (i := 0) (j := (A1 ++ [y]).length - 1) (y := y) (y' := x) zaz rfl rfl rfl rfl (by rw [List.getElem?_set_ne (by simp)]; exact (zg0 hA0).trans (by rw [zgc])) rfl rfl rfl ?_)
     refine ⟨fun _ => .inr (by simp [zbW, Region.binds]), ?_⟩
     refine ahz (by kernel_rfl) ?_
     refine zz ?_
     refine ze ?_
     refine zy ?_
     refine dmv rfl ?_
     refine dq (zay rfl rfl (by omega) (by omega)) ?_
     refine das rfl ?_
     refine dn ?_
     exact ⟨A1, y :: B, ⟨by simp at hA ⊢; omega, zqd hB hcx⟩, by dsimp only; simp, ⟨zbY (by simp), trivial⟩, (by repeat (first | exact zp | refine zu rfl ?_ | refine zq rfl rfl ?_)), zT (by rw [zpB]; rfl)⟩
    ·try simp at h4
     have hins := zqc (l := l) (k := k) hx hB (by intro h0; have := h4 h0; omega)
     refine zN ?_
     refine zS ?_
     refine zbr ?_
     refine zE ?_
     refine zz ?_
     refine ze ?_
     refine zy ?_
     refine dmv rfl ?_
     refine dq (zv rfl rfl (by omega) (by omega)) ?_
     refine das rfl ?_
     refine dn ?_
     refine ⟨k + 1, ?_, ?_, ⟨rfl, trivial⟩, (by repeat (first | exact zp | refine zu rfl ?_ | refine zq rfl rfl ?_)), zT (by rw [hins])⟩
     ·omega
     ·dsimp only; omega
  ·try simp at h2
   have hend : zb4 c (l.take k) ++ l.drop k = zb4 c l := by rw [List.take_of_length_le (by omega), z6 (by omega)]; simp
   refine zN ?_
   refine zS ?_
   refine zag ?_
   refine zE ?_
   exact ⟨_, _, Ghost.sub (Sub.refl _), _, _, rfl, Weak.refl _, rfl, by rw [hend]⟩

/-- slices.pdqsortCmpFunc[benchwarmer/api.Give] -/
theorem zbi [Tracks] {l : List GiveS} {v : Value} {fid : FuncId} {caps : List HVal} {c : GiveS → GiveS → Int} {lim : Int} (hca : Callable Tryz.prog fid) (hp : ∀ x y, zaa Tryz.prog fid ([za8 x, za8 y] ++ caps) (.int .i64 (c x y))) (hl : l.length ≤ 12) : Con Tryz.prog 87 [.raw v, .int .i64 0, .int .i64 (l.length : Int), .int .i64 lim, .fn (.func fid) [] caps] [.arr v 3 (l.map za8)] (fun x M' => x = .tup [] ∧ M' = [.arr v 3 ((zb4 c l).map za8)]) := by
 refine Con.of_body Tryz.func87 rfl Tryz.ntmps87 rfl rfl ?_
 refine zb ?_
 refine das rfl ?_
 refine dn ?_
 refine zb ?_
 refine das rfl ?_
 refine dn ?_
 refine zm ?_
 refine z8 (1 :: 2 :: 3 :: 10 :: 11 :: 12 :: 13 :: 14 :: 15 :: 16 :: 17 :: 18 :: 19 :: 20 :: 21 :: 22 :: 23 :: 24 :: 25 :: 26 :: 27 :: 28 :: 29 :: 30 :: 31 :: 32 :: 33 :: 34 :: 35 :: 36 :: 37 :: 38 :: 39 :: 40 :: 41 :: 42 :: 43 :: 44 :: 45 :: 46 :: 47 :: 48 :: 49 :: 50 :: 51 :: 52 :: 53 :: 54 :: 55 :: 56 :: 57 :: 58 :: 59 :: 60 :: 61 :: 62 :: 63 :: 64 :: 65 :: 66 :: 67 :: 68 :: 69 :: 70 :: 71 :: 72 :: 73 :: 74 :: 75 :: 76 :: 77 :: 78 :: 79 :: 80 :: 81 :: 82 :: 83 :: 84 :: 85 :: 86 :: 87 :: 88 :: 89 :: 90 :: 91 :: 92 :: 93 :: 94 :: 95 :: 96 :: 97 :: 98 :: 99 :: 100 :: 101 :: 102 :: 103 :: 104 :: 105 :: 106 :: 107 :: 108 :: 109 :: 110 :: 111 :: 112 :: 113 :: 114 :: 115 :: 116 :: 117 :: 118 :: 119 :: 120 :: 121 :: 122 :: 123 :: 124 :: 125 :: 126 :: 127 :: 128 :: 129 :: 130 :: 131 :: 132 :: 133 :: 134 :: 135 :: 136 :: 137 :: 138 :: 139 :: 140 :: 141 :: 142 :: 143 :: 144 :: 145 :: 146 :: 147 :: []) (fun (u : Unit) => [(1, .int .i64 0), (2, .int .i64 (l.length : Int))]) (fun (u : Unit) => [.arr v 3 (l.map za8)]) (fun (u : Unit) => True) (fun (u : Unit) => 0) (()) ?_ ?_ ?_ ?_
 ·trivial
 ·exact ⟨rfl, rfl, trivial⟩
 ·exact List.Perm.refl _
 ·intro u hu
  refine zm ?_
  refine zb ?_
  refine dmv rfl ?_
  refine dmv rfl ?_
  refine dq (zay rfl rfl (by omega) (by omega)) ?_
  refine das rfl ?_
  refine dn ?_
  refine zf ?_
  refine zb ?_
  refine dmv rfl ?_
  refine dq (zfz rfl rfl) ?_
  refine dn ?_
  refine zj rfl (fun h1 => ?_) (fun h1 => ?_)
  ·try simp at h1
   refine zb ?_
   refine dmv rfl ?_
   refine dmv rfl ?_
   refine dmv rfl ?_
   refine dmv rfl ?_
   refine de rfl (zh (i := 0) zrT rfl (WeakL.refl _) rfl (zdm (l := l) hca hp (by omega) (by omega)) ?_)
   rintro _ _ ⟨rfl, rfl⟩
   refine dn ?_
   refine zo ?_
   exact zbG rfl ⟨rfl, rfl⟩
  ·exfalso
   try simp at h1
   omega

/-- slices.SortFunc[[]benchwarmer/api.Give,benchwarmer/api.Give] -/
theorem zb6 [Tracks] {l : List GiveS} {v : Value} {fid : FuncId} {caps : List HVal} {c : GiveS → GiveS → Int} (hca : Callable Tryz.prog fid) (hp : ∀ x y, zaa Tryz.prog fid ([za8 x, za8 y] ++ caps) (.int .i64 (c x y))) (hl : l.length ≤ 12) : Con Tryz.prog 53 [.raw v, .fn (.func fid) [] caps] [.arr v 3 (l.map za8)] (fun x M' => x = .tup [] ∧ M' = [.arr v 3 ((zb4 c l).map za8)]) := by
 refine Con.of_body Tryz.func53 rfl Tryz.ntmps53 rfl rfl ?_
 refine zb ?_
 refine dmv rfl ?_
 first
 | refine de rfl (zaZ (i := 0) zbg rfl rfl ?_)
 | refine de rfl (zaZ (i := 1) zbg rfl rfl ?_)
 | refine de rfl (zaZ (i := 2) zbg rfl rfl ?_)
 | refine de rfl (zaZ (i := 3) zbg rfl rfl ?_)
 refine das rfl ?_
 refine dn ?_
 refine zy ?_
 refine dmv rfl ?_
 refine dmv rfl ?_
 refine dmv rfl ?_
 refine dq (zcZ (zbK ty3 zeB rfl) (congrArg _ (zqS (by omega)))) ?_
 refine de rfl (zds (M1 := []) (R := [_]) ca69 rfl (WeakL.refl _) (List.Perm.refl _) (zlV (x := l.length) (by omega)) ?_)
 rintro _ _ ⟨n11, rfl, rfl⟩
 refine dmv rfl ?_
 first
 | refine de rfl (zh (i := 0) znK rfl (WeakL.refl _) rfl (zbi hca hp hl) ?_)
 | refine de rfl (zh (i := 1) znK rfl (WeakL.refl _) rfl (zbi hca hp hl) ?_)
 | refine de rfl (zh (i := 2) znK rfl (WeakL.refl _) rfl (zbi hca hp hl) ?_)
 | refine de rfl (zh (i := 3) znK rfl (WeakL.refl _) rfl (zbi hca hp hl) ?_)
 rintro _ _ ⟨rfl, rfl⟩
 refine dn ?_
 exact ⟨_, _, Ghost.sub (Sub.refl _), _, _, rfl, Weak.refl _, rfl, rfl⟩

/-- benchwarmer/trade.Most$1 -/
theorem zkb [Tracks] {a b : GiveS}  : zaa Tryz.prog 54 [za8 a, za8 b] (.int .i64 (zcz a b)) := by
 refine Con.of_body Tryz.func54 rfl Tryz.ntmps54 rfl rfl ?_
 refine zb ?_
 refine dq (zaL rfl rfl) ?_
 refine dq (zaL rfl rfl) ?_
 refine das rfl ?_
 refine dn ?_
 refine zb ?_
 refine dq (zg zaz rfl ty9 (by decide) rfl) ?_
 refine dq (zi ty9 rfl rfl rfl) ?_
 refine dq (zg zaz rfl ty9 (by decide) rfl) ?_
 refine dq (zi ty9 rfl rfl rfl) ?_
 refine dq (zw znM rfl (WeakL.refl _) zcQ) ?_
 refine das rfl ?_
 refine dn ?_
 refine zo ?_
 refine zC rfl ?_
 rfl

set_option maxHeartbeats 2000000 in
/-- benchwarmer/trade.Most -/
theorem zmw [Tracks] {m : MarketS} {o : List OwnerS} {w : List WantS} (ht : m.Teams.length ≤ 1000000) (ho : o.length ≤ 1000000) (hw : w.length ≤ 12) (hf : ∀ x ∈ w, x.For.length ≤ 1000000) : zaa Tryz.prog 14 [zaS m, zbd o, za1 w] (.tup [zgD (zeA m o w), .int .i64 (zaj m o w)]) := by
 refine Con.of_body Tryz.func14 rfl Tryz.ntmps14 rfl rfl ?_
 refine zb ?_
 refine dq (zaL rfl rfl) ?_
 refine das rfl ?_
 refine das rfl ?_
 refine dn ?_
 refine zf ?_
 refine zb ?_
 refine dq (zY zW rfl rfl rfl rfl) ?_
 refine dmv rfl ?_
 refine dmv rfl ?_
 refine dq (zw zpY rfl (WeakL.refl _) (zdr ht ho (by omega) hf)) ?_
 refine das rfl ?_
 refine dn ?_
 refine zb ?_
 refine dmv rfl ?_
 refine dq (za6 rfl rfl) ?_
 refine dn ?_
 refine zj rfl (fun h1 => ?_) (fun h2 => ?_)
 ·try simp at h1
  refine zb ?_
  refine dmv rfl ?_
  refine das rfl ?_
  refine das rfl ?_
  refine dn ?_
  refine zo ?_
  first
  | (refine ⟨_, [], Ghost.clear, _, _, rfl, zbC ?_ (Weak.refl _), rfl, rfl⟩
     rw [zeA, if_neg]
     ·exact zbX 3
     ·assumption)
  | (refine zbO (Ghost.fa 6 (i := 0) rfl rfl) rfl ⟨?_, rfl⟩
     rw [zeA, if_pos hchk, hchk]
     rfl)
 ·try simp at h2
  refine zk ?_
  refine ze ?_
  refine zf ?_
  have hchk : zaj m o w = 0 := by first | assumption | simp_all
  obtain ⟨_, hok⟩ := zep hchk
  have hrl := zno hok (by omega)
  have hrt := zrw hok (by omega)
  have hgl := zg3 (o := o) (w := w) (l := (zaO (zbu w))) (i := 0)
  refine zb ?_
  refine dmv rfl ?_
  refine dq (zB zaP rfl) ?_
  refine dq (zax rfl rfl) ?_
  refine dn ?_
  refine zj rfl (fun h3 => ?_) (fun h3 => ?_)
  ·exfalso
   try simp at h3
   omega
  ·try simp at h3
   refine zk ?_
   refine ze ?_
   refine zb ?_
   refine dq (zaU (cs := [_]) zeh pl90 rfl) ?_
   refine de rfl (zm6 rfl rfl fun hb => ?_)
   refine zoQ (M' := [.cells hb [.raw (.slice none 0 0)]]) rfl ?_
   refine das rfl ?_
   refine dn ?_
   refine zO (Ghost.arr_nil 1) ?_
   refine zO (Ghost.perm (List.Perm.swap _ _ _)) ?_
   refine zf ?_
   refine zb ?_
   refine dmv rfl ?_
   refine dq (zB zaP rfl) ?_
   refine dmv rfl ?_
   refine dn ?_
   refine zm ?_
   refine zbf [11, 12, 14, 15, 33, 34, 35, 36, 37, 38, 39, 40, 41, 42, 43, 44, 45, 46, 47, 48, 49, 50, 51, 52, 53, 54, 55, 56, 57, 58, 59, 60, 61, 62, 63, 64] (fun (k : Nat) (cv : Value) => [(33, .int .i64 k)]) (fun (k : Nat) (cv : Value) => [.cells hb [.raw cv], .arr cv 1 ((zlL w (w.take k)).map eNs)]) (fun (k : Nat) (cv : Value) => k ≤ w.length ∧ (True)) (fun (k : Nat) (cv : Value) => w.length - k) (0) (.slice none 0 0) ?_ ?_ ?_ ?_
   ·exact ⟨Nat.zero_le _, trivial⟩
   ·exact ⟨rfl, trivial⟩
   ·exact zT rfl
   ·intro k cv hinv
    obtain ⟨hk, -⟩ := hinv
    refine zb ?_
    refine dq (zJ rfl rfl) ?_
    refine dn ?_
    refine zf ?_
    refine zj rfl (fun h4 => ?_) (fun h5 => ?_)
    ·try simp at h4
     obtain ⟨x, hx⟩ : ∃ x, w[k]? = some x := ⟨_, List.getElem?_eq_getElem h4⟩
     have hdx := zK hx
     have hfx := hok.few x (List.mem_of_getElem? hx)
     refine zk ?_
     refine ze ?_
     refine zf ?_
     refine zm ?_
     refine zb ?_
     refine dq (zH zaP zU rfl rfl rfl (by first | assumption | simp_all)) ?_
     refine dq (zY zU rfl rfl rfl rfl) ?_
     refine de rfl (zab zU rfl fun b11 => ?_)
     refine de0 (zao zU rfl rfl rfl rfl rfl ?_)
     refine dn ?_
     refine zO (Ghost.fc0 11 rfl) ?_
     refine zb ?_
     refine das rfl ?_
     refine dn ?_
     refine zO (Ghost.arr_nil 1) ?_
     refine zf ?_
     refine zb ?_
     refine dq ((by first | exact zg zU rfl zF (by decide) rfl | exact zn zU rfl zF (by decide) rfl)) ?_
     refine dq (zi zF rfl rfl rfl) ?_
     refine dq (zB zF rfl) ?_
     refine dmv rfl ?_
     refine dn ?_
     refine zm ?_
     refine zbf [12, 14, 15, 40, 41, 42, 43, 44, 45, 46, 47, 48, 49, 50, 51, 52, 53] (fun (j : Nat) (lv : Value) => [(40, .int .i64 j), (12, .raw lv)]) (fun (j : Nat) (lv : Value) => [.arr lv 1 ((zdg w (x.For.take j)).map fun k => HVal.int .i64 ((k : Nat) : Int)), .cells hb [.raw cv], .arr cv 1 ((zlL w (w.take k)).map eNs)]) (fun (j : Nat) (lv : Value) => j ≤ x.For.length ∧ (True)) (fun (j : Nat) (lv : Value) => x.For.length - j) (0) (.slice none 0 0) ?_ ?_ ?_ ?_
     ·exact ⟨Nat.zero_le _, trivial⟩
     ·exact ⟨rfl, rfl, trivial⟩
     ·exact zT rfl
     ·intro j lv hinv
      obtain ⟨hj, -⟩ := hinv
      refine zb ?_
      refine dq (zJ rfl rfl) ?_
      refine dn ?_
      refine zf ?_
      refine zj rfl (fun h6 => ?_) (fun h7 => ?_)
      ·try simp at h6
       obtain ⟨y, hy⟩ : ∃ y, x.For[j]? = some y := ⟨_, List.getElem?_eq_getElem h6⟩
       have hdy := zK hy
       have hcl9 := zkP (w := w) (F := x.For.take j)
       rw [List.length_take] at hcl9
       refine zk ?_
       refine ze ?_
       refine zf ?_
       refine zm ?_
       refine zb ?_
       refine dq (zH zF ty9 rfl rfl rfl (by first | assumption | simp_all)) ?_
       refine dq (zi ty9 rfl rfl rfl) ?_
       refine das rfl ?_
       refine dn ?_
       refine zb ?_
       refine dmv rfl ?_
       refine dmv rfl ?_
       refine dq (zw ca51 rfl (WeakL.refl _) (zhs (w := w) (s := y) (by omega) hok.srt)) ?_
       refine das rfl ?_
       refine dn ?_
       refine zb ?_
       refine dmv rfl ?_
       refine dq (zbw rfl rfl) ?_
       refine dn ?_
       refine zj rfl (fun h8 => ?_) (fun h9 => ?_)
       ·try simp at h8
        refine zy ?_
        refine dmv rfl ?_
        refine dmv rfl ?_
        refine dq (zM (hs := [_]) zR ty3 rfl rfl (by decide) (by decide) rfl) ?_
        refine de rfl (zah (i := 0) zR ty3 rfl rfl rfl rfl rfl (by simp [zaD, zl]) (by simp; omega) fun v52 => ?_)
        refine das rfl ?_
        refine dn ?_
        refine zz ?_
        refine ze ?_
        refine zy ?_
        refine dq (zv rfl rfl (by omega) (by omega)) ?_
        refine dmv rfl ?_
        refine dn ?_
        have h0f : 0 ≤ zba w y := by simp_all
        exact ⟨j + 1, v52, ⟨by omega, trivial⟩, by dsimp only; omega, ⟨rfl, rfl, trivial⟩, (by repeat (first | exact zp | refine zu rfl ?_ | refine zq rfl rfl ?_)), zT (by dsimp only; rw [zjG hy, if_pos h0f, List.map_append, List.map_cons, Int.toNat_of_nonneg h0f]; rfl)⟩
       ·try simp at h9
        refine zk ?_
        refine zz ?_
        refine ze ?_
        refine zy ?_
        refine dq (zv rfl rfl (by omega) (by omega)) ?_
        refine dmv rfl ?_
        refine dn ?_
        have h0f : ¬ 0 ≤ zba w y := by simp_all
        exact ⟨j + 1, lv, ⟨by omega, trivial⟩, by dsimp only; omega, ⟨rfl, rfl, trivial⟩, (by repeat (first | exact zp | refine zu rfl ?_ | refine zq rfl rfl ?_)), zT (by dsimp only; rw [zjG hy, if_neg h0f, List.append_nil])⟩
      ·try simp at h7
       have hnj : x.For.length ≤ j := by omega
       obtain rfl : j = x.For.length := by omega
       refine zN ?_
       refine zS ?_
       refine zbr ?_
       refine zE ?_
       refine ze ?_
       rw [List.take_length]
       refine zO (Ghost.fa 12 (i := 0) rfl rfl) ?_
       refine zy ?_
       refine dmv rfl ?_
       refine dmv rfl ?_
       refine dq ((by first | exact zar rfl | exact zV rfl)) ?_
       refine dq (zn zeh rfl zbn (by decide) rfl) ?_
       first
       | refine de rfl (zG (i := 0) zbn rfl rfl (.inl ⟨rfl, rfl⟩) ?_)
       | refine de rfl (zG (i := 1) zbn rfl rfl (.inl ⟨rfl, rfl⟩) ?_)
       | refine de rfl (zG (i := 2) zbn rfl rfl (.inl ⟨rfl, rfl⟩) ?_)
       | refine de rfl (zG (i := 3) zbn rfl rfl (.inl ⟨rfl, rfl⟩) ?_)
       refine dmv rfl ?_
       refine dq (zM (hs := [_]) zbn zR rfl rfl (by decide) (by decide) rfl) ?_
       refine de rfl (zah (i := 1) zbn zR rfl rfl rfl rfl rfl (by simp [zaD, zl]) (by simp; omega) fun v61 => ?_)
       refine dq ((by first | exact zar rfl | exact zV rfl)) ?_
       refine dq (zn zeh rfl zbn (by decide) rfl) ?_
       first
       | refine de0 (zt (i := 0) zbn rfl rfl rfl rfl rfl (Nat.le_of_ble_eq_true rfl) ?_)
       | refine de0 (zt (i := 1) zbn rfl rfl rfl rfl rfl (Nat.le_of_ble_eq_true rfl) ?_)
       | refine de0 (zt (i := 2) zbn rfl rfl rfl rfl rfl (Nat.le_of_ble_eq_true rfl) ?_)
       | refine de0 (zt (i := 3) zbn rfl rfl rfl rfl rfl (Nat.le_of_ble_eq_true rfl) ?_)
       refine dn ?_
       refine zz ?_
       refine ze ?_
       refine zy ?_
       refine dq (zv rfl rfl (by omega) (by omega)) ?_
       refine dmv rfl ?_
       refine dn ?_
       exact ⟨k + 1, v61, ⟨by omega, trivial⟩, by dsimp only; omega, ⟨rfl, trivial⟩, (by repeat (first | exact zp | refine zu rfl ?_ | refine zq rfl rfl ?_)), zT (by dsimp only; rw [zb3 hx, zo0, List.map_append]; rfl)⟩
    ·try simp at h5
     have hnk : w.length ≤ k := by omega
     obtain rfl : k = w.length := by omega
     refine zN ?_
     refine zS ?_
     refine zbr ?_
     refine zE ?_
     refine ze ?_
     rw [List.take_length]
     refine zO (Ghost.fcell (i := 1) (k := 0) (j := 0) rfl rfl rfl) ?_
     refine zO (Ghost.fc0 9 rfl) ?_
     refine zb ?_
     refine das rfl ?_
     refine dn ?_
     refine zO (Ghost.arr_nil 3) ?_
     refine zf ?_
     refine zb ?_
     refine dmv rfl ?_
     refine dq (zw ca52 rfl (WeakL.refl _) (zhj (can := zbu w) (zfH hok (by omega)) (zpR hok))) ?_
     refine dq (zB zR rfl) ?_
     refine dmv rfl ?_
     refine dn ?_
     refine zm ?_
     refine zbf [16, 17, 18, 68, 69, 70, 71, 72, 73, 74, 75, 76, 77, 78, 79, 80, 81, 82, 83, 84, 85, 86, 87, 88, 89, 90, 91, 92, 93, 94, 95, 96, 97, 98, 99] (fun (q : Nat) (gv : Value) => [(68, .int .i64 q), (16, .raw gv)]) (fun (q : Nat) (gv : Value) => [.arr gv 3 ((zc7 o w 0 ((zaO (zbu w)).take q)).map za8)]) (fun (q : Nat) (gv : Value) => q ≤ (zaO (zbu w)).length ∧ (True)) (fun (q : Nat) (gv : Value) => (zaO (zbu w)).length - q) (0) (.slice none 0 0) ?_ ?_ ?_ ?_
     ·exact ⟨Nat.zero_le _, trivial⟩
     ·exact ⟨rfl, rfl, trivial⟩
     ·exact zT rfl
     ·intro q gv hinv
      obtain ⟨hq, -⟩ := hinv
      refine zb ?_
      refine dq (zJ rfl rfl) ?_
      refine dn ?_
      refine zf ?_
      refine zj rfl (fun h10 => ?_) (fun h11 => ?_)
      ·try simp at h10
       obtain ⟨z, hz⟩ : ∃ z, (zaO (zbu w))[q]? = some z := ⟨_, List.getElem?_eq_getElem h10⟩
       have hdz := zK hz
       have hzl := hrt z (List.mem_of_getElem? hz)
       obtain ⟨wz, hwz⟩ : ∃ x, w[z]? = some x := ⟨_, List.getElem?_eq_getElem hzl⟩
       obtain ⟨wq, hwq⟩ : ∃ x, w[q]? = some x := ⟨_, List.getElem?_eq_getElem (by omega)⟩
       have ez : zbz w z = wz.Player := by rw [zbz, List.getD_eq_getElem?_getD, hwz]; rfl
       have eq : zbz w q = wq.Player := by rw [zbz, List.getD_eq_getElem?_getD, hwq]; rfl
       have hgq := zg3 (o := o) (w := w) (l := (zaO (zbu w)).take q) (i := 0)
       rw [List.length_take] at hgq
       refine zk ?_
       refine ze ?_
       refine zf ?_
       refine zm ?_
       refine zb ?_
       refine dmv rfl ?_
       refine dq (zH zR ty3 rfl rfl rfl (by first | assumption | simp_all)) ?_
       refine dq (zi ty3 rfl rfl rfl) ?_
       refine das rfl ?_
       refine das rfl ?_
       refine dn ?_
       refine zb ?_
       refine dmv rfl ?_
       refine dmv rfl ?_
       refine dq (za6 rfl rfl) ?_
       refine dn ?_
       refine zj rfl (fun h12 => ?_) (fun h13 => ?_)
       ·try simp at h12
        refine zb0 (fun _ => True) [] mixed ?_
        refine ahp 0 rfl rfl (by kernel_rfl) (by kernel_rfl) (zd rfl) ?_
        refine ahp 1 rfl rfl (by kernel_rfl) (by kernel_rfl) (zd rfl) ?_
        refine ahp 2 rfl rfl (by kernel_rfl) (by kernel_rfl) (zd rfl) ?_
        refine ahp 3 rfl rfl (by kernel_rfl) (by kernel_rfl) (zH (j := z) (a := wz) zaP zU rfl rfl rfl hwz) ?_
        refine ahp 4 rfl rfl (by kernel_rfl) (by kernel_rfl) ((by first | exact zg zU rfl ty9 (by decide) rfl | exact zn zU rfl ty9 (by decide) rfl)) ?_
        refine ahp 5 rfl rfl (by kernel_rfl) (by kernel_rfl) (zi ty9 rfl rfl rfl) ?_
        refine ahp 6 rfl rfl (by kernel_rfl) (by kernel_rfl) (zd rfl) ?_
        refine ahp 7 rfl rfl (by kernel_rfl) (by kernel_rfl) (zd rfl) ?_
        refine ahp 8 rfl rfl (by kernel_rfl) (by kernel_rfl) (zd rfl) ?_
        refine ahp 9 rfl rfl (by kernel_rfl) (by kernel_rfl) (zH (j := z) (a := wz) zaP zU rfl rfl rfl hwz) ?_
        refine ahp 10 rfl rfl (by kernel_rfl) (by kernel_rfl) ((by first | exact zg zU rfl ty9 (by decide) rfl | exact zn zU rfl ty9 (by decide) rfl)) ?_
        refine ahp 11 rfl rfl (by kernel_rfl) (by kernel_rfl) (zi ty9 rfl rfl rfl) ?_
        refine ahp 12 rfl rfl (by kernel_rfl) (by kernel_rfl) (zw zkr rfl (WeakL.refl _) (zcY ho)) ?_
        refine ahp 13 rfl rfl (by kernel_rfl) (by kernel_rfl) (zd rfl) ?_
        refine ahp 14 rfl rfl (by kernel_rfl) (by kernel_rfl) (zd rfl) ?_
        refine ahp 15 rfl rfl (by kernel_rfl) (by kernel_rfl) (zd rfl) ?_
        refine ahp 16 rfl rfl (by kernel_rfl) (by kernel_rfl) (zH (j := q) (a := wq) zaP zU rfl rfl rfl hwq) ?_
        refine ahp 17 rfl rfl (by kernel_rfl) (by kernel_rfl) ((by first | exact zg zU rfl ty9 (by decide) rfl | exact zn zU rfl ty9 (by decide) rfl)) ?_
        refine ahp 18 rfl rfl (by kernel_rfl) (by kernel_rfl) (zi ty9 rfl rfl rfl) ?_
        refine ahp 19 rfl rfl (by kernel_rfl) (by kernel_rfl) (zw zkr rfl (WeakL.refl _) (zcY ho)) ?_
        refine ahp 20 rfl rfl (by kernel_rfl) (by kernel_rfl) (zaU (cs := [_, _, _]) zaz zqf rfl) ?_
        refine ahp 21 rfl rfl (by kernel_rfl) (by kernel_rfl) (zM (hs := [_]) zbg zaz rfl rfl (by decide) (by decide) rfl) ?_
        refine ahe 22 rfl (by kernel_rfl) ?_
        refine zA rfl (zah (i := 0) zbg zaz rfl rfl rfl rfl rfl (by simp [zaD, zl]) (by simp; omega) fun v98 => ?_)
        refine ⟨fun _ => .inl trivial, ?_⟩
        refine ahp 23 rfl rfl (by kernel_rfl) (by kernel_rfl) (zaK rfl) ?_
        refine ahz (by kernel_rfl) ?_
        refine zz ?_
        refine ze ?_
        refine zy ?_
        refine dq (zv rfl rfl (by omega) (by omega)) ?_
        refine dmv rfl ?_
        refine dn ?_
        exact ⟨q + 1, v98, ⟨by omega, trivial⟩, by dsimp only; omega, ⟨rfl, rfl, trivial⟩, (by repeat (first | exact zp | refine zu rfl ?_ | refine zq rfl rfl ?_)), zT (by dsimp only; rw [zkS hz, if_neg (by omega), ez, eq, List.map_append]; rfl)⟩
       ·try simp at h13
        refine zk ?_
        refine zz ?_
        refine ze ?_
        refine zy ?_
        refine dq (zv rfl rfl (by omega) (by omega)) ?_
        refine dmv rfl ?_
        refine dn ?_
        exact ⟨q + 1, gv, ⟨by omega, trivial⟩, by dsimp only; omega, ⟨rfl, rfl, trivial⟩, (by repeat (first | exact zp | refine zu rfl ?_ | refine zq rfl rfl ?_)), zT (by dsimp only; rw [zkS hz, if_pos (by omega), List.append_nil])⟩
      ·try simp at h11
       have hnq : (zaO (zbu w)).length ≤ q := by omega
       obtain rfl : q = (zaO (zbu w)).length := by omega
       refine zN ?_
       refine zS ?_
       refine zbr ?_
       refine zE ?_
       refine ze ?_
       rw [List.take_length]
       refine zb ?_
       refine dmv rfl ?_
       refine de rfl (zh (i := 0) ca53 rfl (WeakL.refl _) rfl (zb6 (l := zc7 o w 0 (zaO (zbu w))) (c := zcz) ca54 (fun _ _ => zkb) (by omega)) ?_)
       rintro _ _ ⟨rfl, rfl⟩
       refine dn ?_
       refine zb ?_
       refine dmv rfl ?_
       refine das rfl ?_
       refine das rfl ?_
       refine dn ?_
       refine zo ?_
       first
       | (refine ⟨_, [], Ghost.clear, _, _, rfl, zbC ?_ (Weak.refl _), rfl, rfl⟩
          rw [zeA, if_neg]
          ·exact zbX 3
          ·assumption)
       | (refine zbO (Ghost.fa 6 (i := 0) rfl rfl) rfl ⟨?_, rfl⟩
          rw [zeA, if_pos hchk, hchk]
          rfl)
end
end Go.Proofs.YtcihcbnjfclkbaaGreatDoor
