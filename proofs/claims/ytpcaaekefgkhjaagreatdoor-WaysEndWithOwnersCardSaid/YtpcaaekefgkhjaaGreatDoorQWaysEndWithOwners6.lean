/- The statement is proved: the card of the law, out of its function's contract; no conditions. -/
import Derived.Test.YtpcaaekefgkhjaaGreatDoorQWaysEndWithOwners5
import Derived.Handed
import Derived.LaidMore
import Derived.Lay
import Derived.OpenShut
import Derived.ProofKit
import Derived.SevenTiedAt
import Derived.Shelf.Vars
import Derived.Stop.Joined
import Derived.Test.YtpcaaekefgkhjaaGreatDoorCards
import Derived.Test.YtpcaaekefgkhjaaGreatDoorTie
set_option linter.unusedVariables false
set_option linter.unusedSimpArgs false
namespace Go.Proofs.YtpcaaekefgkhjaaGreatDoor
set_option maxRecDepth 100000
set_option linter.unusedVariables false
set_option linter.unusedSimpArgs false
section
open Go.HL
set_option maxHeartbeats 4000000 in
/-- (*benchwarmer/benchmake.Stream).AnswerList -/
theorem zaP [Tracks] {b : Nat} {l : List Int} {a : Nat} {m : MarketS} (ha : a ≤ 700000) (hm : GoodM m) : Con Tryz.prog 9 [pAt b, zaM m] [St b l a] (fun x M' => ∃ k a', x = zb3 k ∧ GoodRp k ∧ a' ≤ a + 100 ∧ M' = [St b l a']) := by
 have hm0 := hm.pos
 have hm5 := hm.len
 refine Con.of_body Tryz.func9 rfl Tryz.ntmps9 rfl rfl ?_
 refine za ?_
 refine dq (zas rfl rfl) ?_
 refine das rfl ?_
 refine dn ?_
 refine za ?_
 refine das rfl ?_
 refine dn ?_
 refine za ?_
 refine dmv rfl ?_
 refine dq (zG (hs := [_, _]) zbL ty3 rfl rfl (by decide) (by decide) rfl) ?_
 first
 | refine de rfl (zd (i := 0) zV rfl (WeakL.refl _) rfl (zc (L := [_, _]) (by first | assumption | omega | (simp; omega) | simp_all) (by first | assumption | omega | (simp; omega) | simp_all) (by first | assumption | omega | (simp; omega) | simp_all)) ?_)
 | refine de rfl (zd (i := 1) zV rfl (WeakL.refl _) rfl (zc (L := [_, _]) (by first | assumption | omega | (simp; omega) | simp_all) (by first | assumption | omega | (simp; omega) | simp_all) (by first | assumption | omega | (simp; omega) | simp_all)) ?_)
 | refine de rfl (zd (i := 2) zV rfl (WeakL.refl _) rfl (zc (L := [_, _]) (by first | assumption | omega | (simp; omega) | simp_all) (by first | assumption | omega | (simp; omega) | simp_all) (by first | assumption | omega | (simp; omega) | simp_all)) ?_)
 | refine de rfl (zd (i := 3) zV rfl (WeakL.refl _) rfl (zc (L := [_, _]) (by first | assumption | omega | (simp; omega) | simp_all) (by first | assumption | omega | (simp; omega) | simp_all) (by first | assumption | omega | (simp; omega) | simp_all)) ?_)
 rintro _ _ ⟨y12, rfl, hy12, rfl⟩
 refine das rfl ?_
 refine dn ?_
 refine zL (Ghost.perm (M' := [St b l (a + 1)]) (List.Perm.refl _)) ?_
 refine zL (Ghost.arr_nil 4) ?_
 refine zj ?_
 refine za ?_
 refine dmv rfl ?_
 first
 | refine de rfl (zd (i := 0) zbT rfl (WeakL.refl _) rfl (zI (by first | assumption | omega | (simp; omega) | simp_all) (by first | assumption | omega | (simp; omega) | simp_all) (by first | assumption | omega | (simp; omega) | simp_all) (by first | assumption | omega | (simp; omega) | simp_all)) ?_)
 | refine de rfl (zd (i := 1) zbT rfl (WeakL.refl _) rfl (zI (by first | assumption | omega | (simp; omega) | simp_all) (by first | assumption | omega | (simp; omega) | simp_all) (by first | assumption | omega | (simp; omega) | simp_all) (by first | assumption | omega | (simp; omega) | simp_all)) ?_)
 | refine de rfl (zd (i := 2) zbT rfl (WeakL.refl _) rfl (zI (by first | assumption | omega | (simp; omega) | simp_all) (by first | assumption | omega | (simp; omega) | simp_all) (by first | assumption | omega | (simp; omega) | simp_all) (by first | assumption | omega | (simp; omega) | simp_all)) ?_)
 | refine de rfl (zd (i := 3) zbT rfl (WeakL.refl _) rfl (zI (by first | assumption | omega | (simp; omega) | simp_all) (by first | assumption | omega | (simp; omega) | simp_all) (by first | assumption | omega | (simp; omega) | simp_all) (by first | assumption | omega | (simp; omega) | simp_all)) ?_)
 rintro _ _ ⟨y14, rfl, hy14, rfl⟩
 refine dmv rfl ?_
 refine dn ?_
 refine zq ?_
 refine zfO [5, 6, 7, 8, 15, 16, 17, 18, 19, 20, 21, 22, 23, 24, 25, 26, 27, 28, 29, 30, 31, 32, 33, 34, 35, 36, 37, 38, 39, 40, 41, 42, 43, 44, 45, 46, 47, 48, 49, 50, 51, 52, 53, 54, 55, 56, 57, 58, 59, 60, 61, 62, 63] (fun (k : Nat) (t : Int) (q : GL ReplyS) => [(15, .int .i64 (k : Int)), (6, .int .i64 t), (5, .raw q.u)]) (fun (k : Nat) (t : Int) (q : GL ReplyS) => [St b l q.a, .arr q.u 4 (q.out.map zbJ)]) (fun (k : Nat) (t : Int) (q : GL ReplyS) => (k : Int) ≤ y14 ∧ (0 ≤ t ∧ t ≤ 5 + 30 * k) ∧ GLok zpx k (a + 2 + 4 * k) q) (fun (k : Nat) (t : Int) (q : GL ReplyS) => y14.toNat - k) (0) (y12) (⟨.slice none 0 0, [], a + 2⟩) ?_ ?_ ?_ ?_
 ·exact ⟨by omega, ⟨by simp at hy12; omega, by simp at hy12; omega⟩, ⟨by simp, by simp, by dsimp only; omega⟩⟩
 ·exact ⟨rfl, rfl, rfl, trivial⟩
 ·repeat (first | exact List.Perm.nil | refine zQ 0 rfl ?_ | refine zQ 1 rfl ?_ | refine zQ 2 rfl ?_ | refine zQ 3 rfl ?_ | (refine zM 0 rfl ?hq ?_; (case hq => simp [zZ, zn]; done)) | (refine zM 1 rfl ?hq ?_; (case hq => simp [zZ, zn]; done)) | (refine zM 2 rfl ?hq ?_; (case hq => simp [zZ, zn]; done)) | (refine zM 3 rfl ?hq ?_; (case hq => simp [zZ, zn]; done)) | fail)
 ·intro k t q hinv
  obtain ⟨hk, ht, hq⟩ := hinv
  obtain ⟨u, out, a2⟩ := q
  obtain ⟨g1, g2, g3⟩ := id hq
  dsimp only at g1 g2 g3
  refine za ?_
  refine dq (zS rfl rfl) ?_
  refine dn ?_
  refine zj ?_
  refine zi rfl (fun h1 => ?_) (fun h2 => ?_)
  ·try simp at h1
   refine zm ?_
   refine zh ?_
   refine zj ?_
   refine zq ?_
   refine ze3 [7, 17, 18, 19, 20, 21, 22, 23, 24, 25, 26, 27, 28] (fun (q7 : Nat × ReplyS) => [(7, pAt q7.1)]) (fun (q7 : Nat × ReplyS) => [St b l (a2 + 3), .arr u 4 (out.map zbJ), .cells q7.1 (zn (zbJ q7.2))]) (fun (q7 : Nat × ReplyS) => Sh q7.2.Offer) ?_ ?_
   ·skip
    refine zbU (fun _ => True) [] mixed ?_
    refine ahp 0 rfl rfl (by kernel_rfl) (by kernel_rfl) (zf rfl) ?_
    refine ahp 1 rfl rfl (by kernel_rfl) (by kernel_rfl) (zG (hs := [_, _, _, _, _, _]) zP ty9 rfl rfl (by decide) (by decide) rfl) ?_
    refine ahp 3 rfl rfl (by kernel_rfl) (by kernel_rfl) (zf rfl) ?_
    refine ahp 4 rfl rfl (by kernel_rfl) (by kernel_rfl) ((by first | exact zb zT rfl zP (by decide) rfl | exact ze zT rfl zP (by decide) rfl)) ?_
    refine ahp 5 rfl rfl (by kernel_rfl) (by kernel_rfl) (zg zP rfl rfl rfl) ?_
    refine ahp 7 rfl rfl (by kernel_rfl) (by kernel_rfl) (zf rfl) ?_
    refine ahp 8 rfl rfl (by kernel_rfl) (by kernel_rfl) (zf rfl) ?_
    refine ahp 9 rfl rfl (by kernel_rfl) (by kernel_rfl) (zG (hs := [_, _, _, _, _, _, _, _, _]) zbL ty3 rfl rfl (by decide) (by decide) rfl) ?_
    refine zhm 2 12 rfl rfl (by kernel_rfl) ?_ ?_
    ·skip
     first
     | refine zv rfl (zd (i := 0) zaH rfl (WeakL.refl _) rfl (zk (L := [_, _, _, _, _, _]) (by first | assumption | omega | (simp; omega) | simp_all) (by first | assumption | omega | (simp; omega) | simp_all) (by first | assumption | omega | (simp; omega) | simp_all)) ?_)
     | refine zv rfl (zd (i := 1) zaH rfl (WeakL.refl _) rfl (zk (L := [_, _, _, _, _, _]) (by first | assumption | omega | (simp; omega) | simp_all) (by first | assumption | omega | (simp; omega) | simp_all) (by first | assumption | omega | (simp; omega) | simp_all)) ?_)
     | refine zv rfl (zd (i := 2) zaH rfl (WeakL.refl _) rfl (zk (L := [_, _, _, _, _, _]) (by first | assumption | omega | (simp; omega) | simp_all) (by first | assumption | omega | (simp; omega) | simp_all) (by first | assumption | omega | (simp; omega) | simp_all)) ?_)
     | refine zv rfl (zd (i := 3) zaH rfl (WeakL.refl _) rfl (zk (L := [_, _, _, _, _, _]) (by first | assumption | omega | (simp; omega) | simp_all) (by first | assumption | omega | (simp; omega) | simp_all) (by first | assumption | omega | (simp; omega) | simp_all)) ?_)
     rintro _ _ ⟨y19, rfl, hy19, rfl⟩
     refine ⟨fun _ => .inl trivial, ?_⟩
     refine zhm 6 12 rfl rfl (by kernel_rfl) ?_ ?_
     ·skip
      first
      | refine zv rfl (zd (i := 0) zaH rfl (WeakL.refl _) rfl (zk (by first | assumption | omega | (simp; omega) | simp_all) (by first | assumption | omega | (simp; omega) | simp_all) (by first | assumption | omega | (simp; omega) | simp_all)) ?_)
      | refine zv rfl (zd (i := 1) zaH rfl (WeakL.refl _) rfl (zk (by first | assumption | omega | (simp; omega) | simp_all) (by first | assumption | omega | (simp; omega) | simp_all) (by first | assumption | omega | (simp; omega) | simp_all)) ?_)
      | refine zv rfl (zd (i := 2) zaH rfl (WeakL.refl _) rfl (zk (by first | assumption | omega | (simp; omega) | simp_all) (by first | assumption | omega | (simp; omega) | simp_all) (by first | assumption | omega | (simp; omega) | simp_all)) ?_)
      | refine zv rfl (zd (i := 3) zaH rfl (WeakL.refl _) rfl (zk (by first | assumption | omega | (simp; omega) | simp_all) (by first | assumption | omega | (simp; omega) | simp_all) (by first | assumption | omega | (simp; omega) | simp_all)) ?_)
      rintro _ _ ⟨y23, rfl, hy23, rfl⟩
      refine ⟨fun _ => .inl trivial, ?_⟩
      refine zhm 10 12 rfl rfl (by kernel_rfl) ?_ ?_
      ·skip
       first
       | refine zv rfl (zd (i := 0) zV rfl (WeakL.refl _) rfl (zc (L := [_, _, _, _, _, _, _, _, _]) (by first | assumption | omega | (simp; omega) | simp_all) (by first | assumption | omega | (simp; omega) | simp_all) (by first | assumption | omega | (simp; omega) | simp_all)) ?_)
       | refine zv rfl (zd (i := 1) zV rfl (WeakL.refl _) rfl (zc (L := [_, _, _, _, _, _, _, _, _]) (by first | assumption | omega | (simp; omega) | simp_all) (by first | assumption | omega | (simp; omega) | simp_all) (by first | assumption | omega | (simp; omega) | simp_all)) ?_)
       | refine zv rfl (zd (i := 2) zV rfl (WeakL.refl _) rfl (zc (L := [_, _, _, _, _, _, _, _, _]) (by first | assumption | omega | (simp; omega) | simp_all) (by first | assumption | omega | (simp; omega) | simp_all) (by first | assumption | omega | (simp; omega) | simp_all)) ?_)
       | refine zv rfl (zd (i := 3) zV rfl (WeakL.refl _) rfl (zc (L := [_, _, _, _, _, _, _, _, _]) (by first | assumption | omega | (simp; omega) | simp_all) (by first | assumption | omega | (simp; omega) | simp_all) (by first | assumption | omega | (simp; omega) | simp_all)) ?_)
       rintro _ _ ⟨y27, rfl, hy27, rfl⟩
       refine ⟨fun _ => .inl trivial, ?_⟩
       refine ahp 11 rfl rfl (by kernel_rfl) (by kernel_rfl) (zaB (cs := [_, _, _, _]) z8 zp8 rfl) ?_
       refine ahe 12 rfl (by kernel_rfl) ?_
       refine zv rfl (zY z8 rfl fun b7 => ?_)
       refine ⟨fun _ => .inl trivial, ?_⟩
       refine ahe 13 rfl (by kernel_rfl) ?_
       first
       | refine zab (zz (i := 0) z8 rfl rfl rfl rfl rfl (Nat.le_of_ble_eq_true rfl) ?_)
       | refine zab (zz (i := 1) z8 rfl rfl rfl rfl rfl (Nat.le_of_ble_eq_true rfl) ?_)
       | refine zab (zz (i := 2) z8 rfl rfl rfl rfl rfl (Nat.le_of_ble_eq_true rfl) ?_)
       | refine zab (zz (i := 3) z8 rfl rfl rfl rfl rfl (Nat.le_of_ble_eq_true rfl) ?_)
       refine ⟨fun _ => .inl trivial, ?_⟩
       refine ahz (by kernel_rfl) ?_
       refine ⟨(b7, ⟨y19, y23, t, y27⟩), ?_, ⟨rfl, trivial⟩, (by repeat (first | exact zt | refine zw rfl ?_ | refine zu rfl rfl ?_)), ?_⟩
       ·exact zgf (n := 2) (show y19.length ≤ 2 from by revert hy19; revert y19; decide) (by decide)
       ·repeat (first | exact List.Perm.nil | refine zQ 0 rfl ?_ | refine zQ 1 rfl ?_ | refine zQ 2 rfl ?_ | refine zQ 3 rfl ?_ | (refine zM 0 rfl ?hq ?_; (case hq => simp [zZ, zn]; done)) | (refine zM 1 rfl ?hq ?_; (case hq => simp [zZ, zn]; done)) | (refine zM 2 rfl ?hq ?_; (case hq => simp [zZ, zn]; done)) | (refine zM 3 rfl ?hq ?_; (case hq => simp [zZ, zn]; done)) | fail)
      ·skip
       refine zv rfl (zY z8 rfl fun b7 => ?_)
       refine ⟨fun _ => .inl trivial, ?_⟩
       refine ahe 10 rfl (by kernel_rfl) ?_
       first
       | refine zv rfl (zd (i := 0) zV rfl (WeakL.refl _) rfl (zc (L := [_, _, _, _, _, _, _, _, _]) (by first | assumption | omega | (simp; omega) | simp_all) (by first | assumption | omega | (simp; omega) | simp_all) (by first | assumption | omega | (simp; omega) | simp_all)) ?_)
       | refine zv rfl (zd (i := 1) zV rfl (WeakL.refl _) rfl (zc (L := [_, _, _, _, _, _, _, _, _]) (by first | assumption | omega | (simp; omega) | simp_all) (by first | assumption | omega | (simp; omega) | simp_all) (by first | assumption | omega | (simp; omega) | simp_all)) ?_)
       | refine zv rfl (zd (i := 2) zV rfl (WeakL.refl _) rfl (zc (L := [_, _, _, _, _, _, _, _, _]) (by first | assumption | omega | (simp; omega) | simp_all) (by first | assumption | omega | (simp; omega) | simp_all) (by first | assumption | omega | (simp; omega) | simp_all)) ?_)
       | refine zv rfl (zd (i := 3) zV rfl (WeakL.refl _) rfl (zc (L := [_, _, _, _, _, _, _, _, _]) (by first | assumption | omega | (simp; omega) | simp_all) (by first | assumption | omega | (simp; omega) | simp_all) (by first | assumption | omega | (simp; omega) | simp_all)) ?_)
       rintro _ _ ⟨y27, rfl, hy27, rfl⟩
       refine ⟨fun _ => .inl trivial, ?_⟩
       refine ahp 11 rfl rfl (by kernel_rfl) (by kernel_rfl) (zaB (cs := [_, _, _, _]) z8 zp8 rfl) ?_
       refine ahe 13 rfl (by kernel_rfl) ?_
       first
       | refine zab (zz (i := 0) z8 rfl rfl rfl rfl rfl (Nat.le_of_ble_eq_true rfl) ?_)
       | refine zab (zz (i := 1) z8 rfl rfl rfl rfl rfl (Nat.le_of_ble_eq_true rfl) ?_)
       | refine zab (zz (i := 2) z8 rfl rfl rfl rfl rfl (Nat.le_of_ble_eq_true rfl) ?_)
       | refine zab (zz (i := 3) z8 rfl rfl rfl rfl rfl (Nat.le_of_ble_eq_true rfl) ?_)
       refine ⟨fun _ => .inl trivial, ?_⟩
       refine ahz (by kernel_rfl) ?_
       refine ⟨(b7, ⟨y19, y23, t, y27⟩), ?_, ⟨rfl, trivial⟩, (by repeat (first | exact zt | refine zw rfl ?_ | refine zu rfl rfl ?_)), ?_⟩
       ·exact zgf (n := 2) (show y19.length ≤ 2 from by revert hy19; revert y19; decide) (by decide)
       ·repeat (first | exact List.Perm.nil | refine zQ 0 rfl ?_ | refine zQ 1 rfl ?_ | refine zQ 2 rfl ?_ | refine zQ 3 rfl ?_ | (refine zM 0 rfl ?hq ?_; (case hq => simp [zZ, zn]; done)) | (refine zM 1 rfl ?hq ?_; (case hq => simp [zZ, zn]; done)) | (refine zM 2 rfl ?hq ?_; (case hq => simp [zZ, zn]; done)) | (refine zM 3 rfl ?hq ?_; (case hq => simp [zZ, zn]; done)) | fail)
     ·skip
      refine zv rfl (zY z8 rfl fun b7 => ?_)
      refine ⟨fun _ => .inl trivial, ?_⟩
      refine ahe 6 rfl (by kernel_rfl) ?_
      first
      | refine zv rfl (zd (i := 0) zaH rfl (WeakL.refl _) rfl (zk (by first | assumption | omega | (simp; omega) | simp_all) (by first | assumption | omega | (simp; omega) | simp_all) (by first | assumption | omega | (simp; omega) | simp_all)) ?_)
      | refine zv rfl (zd (i := 1) zaH rfl (WeakL.refl _) rfl (zk (by first | assumption | omega | (simp; omega) | simp_all) (by first | assumption | omega | (simp; omega) | simp_all) (by first | assumption | omega | (simp; omega) | simp_all)) ?_)
      | refine zv rfl (zd (i := 2) zaH rfl (WeakL.refl _) rfl (zk (by first | assumption | omega | (simp; omega) | simp_all) (by first | assumption | omega | (simp; omega) | simp_all) (by first | assumption | omega | (simp; omega) | simp_all)) ?_)
      | refine zv rfl (zd (i := 3) zaH rfl (WeakL.refl _) rfl (zk (by first | assumption | omega | (simp; omega) | simp_all) (by first | assumption | omega | (simp; omega) | simp_all) (by first | assumption | omega | (simp; omega) | simp_all)) ?_)
      rintro _ _ ⟨y23, rfl, hy23, rfl⟩
      refine ⟨fun _ => .inl trivial, ?_⟩
      refine ahe 10 rfl (by kernel_rfl) ?_
      first
      | refine zv rfl (zd (i := 0) zV rfl (WeakL.refl _) rfl (zc (L := [_, _, _, _, _, _, _, _, _]) (by first | assumption | omega | (simp; omega) | simp_all) (by first | assumption | omega | (simp; omega) | simp_all) (by first | assumption | omega | (simp; omega) | simp_all)) ?_)
      | refine zv rfl (zd (i := 1) zV rfl (WeakL.refl _) rfl (zc (L := [_, _, _, _, _, _, _, _, _]) (by first | assumption | omega | (simp; omega) | simp_all) (by first | assumption | omega | (simp; omega) | simp_all) (by first | assumption | omega | (simp; omega) | simp_all)) ?_)
      | refine zv rfl (zd (i := 2) zV rfl (WeakL.refl _) rfl (zc (L := [_, _, _, _, _, _, _, _, _]) (by first | assumption | omega | (simp; omega) | simp_all) (by first | assumption | omega | (simp; omega) | simp_all) (by first | assumption | omega | (simp; omega) | simp_all)) ?_)
      | refine zv rfl (zd (i := 3) zV rfl (WeakL.refl _) rfl (zc (L := [_, _, _, _, _, _, _, _, _]) (by first | assumption | omega | (simp; omega) | simp_all) (by first | assumption | omega | (simp; omega) | simp_all) (by first | assumption | omega | (simp; omega) | simp_all)) ?_)
      rintro _ _ ⟨y27, rfl, hy27, rfl⟩
      refine ⟨fun _ => .inl trivial, ?_⟩
      refine ahp 11 rfl rfl (by kernel_rfl) (by kernel_rfl) (zaB (cs := [_, _, _, _]) z8 zp8 rfl) ?_
      refine ahe 13 rfl (by kernel_rfl) ?_
      first
      | refine zab (zz (i := 0) z8 rfl rfl rfl rfl rfl (Nat.le_of_ble_eq_true rfl) ?_)
      | refine zab (zz (i := 1) z8 rfl rfl rfl rfl rfl (Nat.le_of_ble_eq_true rfl) ?_)
      | refine zab (zz (i := 2) z8 rfl rfl rfl rfl rfl (Nat.le_of_ble_eq_true rfl) ?_)
      | refine zab (zz (i := 3) z8 rfl rfl rfl rfl rfl (Nat.le_of_ble_eq_true rfl) ?_)
      refine ⟨fun _ => .inl trivial, ?_⟩
      refine ahz (by kernel_rfl) ?_
      refine ⟨(b7, ⟨y19, y23, t, y27⟩), ?_, ⟨rfl, trivial⟩, (by repeat (first | exact zt | refine zw rfl ?_ | refine zu rfl rfl ?_)), ?_⟩
      ·exact zgf (n := 2) (show y19.length ≤ 2 from by revert hy19; revert y19; decide) (by decide)
      ·repeat (first | exact List.Perm.nil | refine zQ 0 rfl ?_ | refine zQ 1 rfl ?_ | refine zQ 2 rfl ?_ | refine zQ 3 rfl ?_ | (refine zM 0 rfl ?hq ?_; (case hq => simp [zZ, zn]; done)) | (refine zM 1 rfl ?hq ?_; (case hq => simp [zZ, zn]; done)) | (refine zM 2 rfl ?hq ?_; (case hq => simp [zZ, zn]; done)) | (refine zM 3 rfl ?hq ?_; (case hq => simp [zZ, zn]; done)) | fail)
    ·skip
     refine zv rfl (zY z8 rfl fun b7 => ?_)
     refine ⟨fun _ => .inl trivial, ?_⟩
     refine ahe 2 rfl (by kernel_rfl) ?_
     first
     | refine zv rfl (zd (i := 0) zaH rfl (WeakL.refl _) rfl (zk (L := [_, _, _, _, _, _]) (by first | assumption | omega | (simp; omega) | simp_all) (by first | assumption | omega | (simp; omega) | simp_all) (by first | assumption | omega | (simp; omega) | simp_all)) ?_)
     | refine zv rfl (zd (i := 1) zaH rfl (WeakL.refl _) rfl (zk (L := [_, _, _, _, _, _]) (by first | assumption | omega | (simp; omega) | simp_all) (by first | assumption | omega | (simp; omega) | simp_all) (by first | assumption | omega | (simp; omega) | simp_all)) ?_)
     | refine zv rfl (zd (i := 2) zaH rfl (WeakL.refl _) rfl (zk (L := [_, _, _, _, _, _]) (by first | assumption | omega | (simp; omega) | simp_all) (by first | assumption | omega | (simp; omega) | simp_all) (by first | assumption | omega | (simp; omega) | simp_all)) ?_)
     | refine zv rfl (zd (i := 3) zaH rfl (WeakL.refl _) rfl (zk (L := [_, _, _, _, _, _]) (by first | assumption | omega | (simp; omega) | simp_all) (by first | assumption | omega | (simp; omega) | simp_all) (by first | assumption | omega | (simp; omega) | simp_all)) ?_)
     rintro _ _ ⟨y19, rfl, hy19, rfl⟩
     refine ⟨fun _ => .inl trivial, ?_⟩
     refine ahe 6 rfl (by kernel_rfl) ?_
     first
     | refine zv rfl (zd (i := 0) zaH rfl (WeakL.refl _) rfl (zk (by first | assumption | omega | (simp; omega) | simp_all) (by first | assumption | omega | (simp; omega) | simp_all) (by first | assumption | omega | (simp; omega) | simp_all)) ?_)
     | refine zv rfl (zd (i := 1) zaH rfl (WeakL.refl _) rfl (zk (by first | assumption | omega | (simp; omega) | simp_all) (by first | assumption | omega | (simp; omega) | simp_all) (by first | assumption | omega | (simp; omega) | simp_all)) ?_)
     | refine zv rfl (zd (i := 2) zaH rfl (WeakL.refl _) rfl (zk (by first | assumption | omega | (simp; omega) | simp_all) (by first | assumption | omega | (simp; omega) | simp_all) (by first | assumption | omega | (simp; omega) | simp_all)) ?_)
     | refine zv rfl (zd (i := 3) zaH rfl (WeakL.refl _) rfl (zk (by first | assumption | omega | (simp; omega) | simp_all) (by first | assumption | omega | (simp; omega) | simp_all) (by first | assumption | omega | (simp; omega) | simp_all)) ?_)
     rintro _ _ ⟨y23, rfl, hy23, rfl⟩
     refine ⟨fun _ => .inl trivial, ?_⟩
     refine ahe 10 rfl (by kernel_rfl) ?_
     first
     | refine zv rfl (zd (i := 0) zV rfl (WeakL.refl _) rfl (zc (L := [_, _, _, _, _, _, _, _, _]) (by first | assumption | omega | (simp; omega) | simp_all) (by first | assumption | omega | (simp; omega) | simp_all) (by first | assumption | omega | (simp; omega) | simp_all)) ?_)
     | refine zv rfl (zd (i := 1) zV rfl (WeakL.refl _) rfl (zc (L := [_, _, _, _, _, _, _, _, _]) (by first | assumption | omega | (simp; omega) | simp_all) (by first | assumption | omega | (simp; omega) | simp_all) (by first | assumption | omega | (simp; omega) | simp_all)) ?_)
     | refine zv rfl (zd (i := 2) zV rfl (WeakL.refl _) rfl (zc (L := [_, _, _, _, _, _, _, _, _]) (by first | assumption | omega | (simp; omega) | simp_all) (by first | assumption | omega | (simp; omega) | simp_all) (by first | assumption | omega | (simp; omega) | simp_all)) ?_)
     | refine zv rfl (zd (i := 3) zV rfl (WeakL.refl _) rfl (zc (L := [_, _, _, _, _, _, _, _, _]) (by first | assumption | omega | (simp; omega) | simp_all) (by first | assumption | omega | (simp; omega) | simp_all) (by first | assumption | omega | (simp; omega) | simp_all)) ?_)
     rintro _ _ ⟨y27, rfl, hy27, rfl⟩
     refine ⟨fun _ => .inl trivial, ?_⟩
     refine ahp 11 rfl rfl (by kernel_rfl) (by kernel_rfl) (zaB (cs := [_, _, _, _]) z8 zp8 rfl) ?_
     refine ahe 13 rfl (by kernel_rfl) ?_
     first
     | refine zab (zz (i := 0) z8 rfl rfl rfl rfl rfl (Nat.le_of_ble_eq_true rfl) ?_)
     | refine zab (zz (i := 1) z8 rfl rfl rfl rfl rfl (Nat.le_of_ble_eq_true rfl) ?_)
     | refine zab (zz (i := 2) z8 rfl rfl rfl rfl rfl (Nat.le_of_ble_eq_true rfl) ?_)
     | refine zab (zz (i := 3) z8 rfl rfl rfl rfl rfl (Nat.le_of_ble_eq_true rfl) ?_)
     refine ⟨fun _ => .inl trivial, ?_⟩
     refine ahz (by kernel_rfl) ?_
     refine ⟨(b7, ⟨y19, y23, t, y27⟩), ?_, ⟨rfl, trivial⟩, (by repeat (first | exact zt | refine zw rfl ?_ | refine zu rfl rfl ?_)), ?_⟩
     ·exact zgf (n := 2) (show y19.length ≤ 2 from by revert hy19; revert y19; decide) (by decide)
     ·repeat (first | exact List.Perm.nil | refine zQ 0 rfl ?_ | refine zQ 1 rfl ?_ | refine zQ 2 rfl ?_ | refine zQ 3 rfl ?_ | (refine zM 0 rfl ?hq ?_; (case hq => simp [zZ, zn]; done)) | (refine zM 1 rfl ?hq ?_; (case hq => simp [zZ, zn]; done)) | (refine zM 2 rfl ?hq ?_; (case hq => simp [zZ, zn]; done)) | (refine zM 3 rfl ?hq ?_; (case hq => simp [zZ, zn]; done)) | fail)
   ·intro q7 hq7
    obtain ⟨b7, x7⟩ := q7
    dsimp only at hq7
    refine zL (Ghost.fc 7 (i := 2) rfl rfl) ?_
    refine zj ?_
    refine za ?_
    refine dmv rfl ?_
    refine de rfl (zaG (i := 1) (es := out) zcg rfl rfl ?_)
    refine das rfl ?_
    refine dn ?_
    refine zsX (i := 1) rfl (fun p ob off cap hp hv => ?_)
    rw [List.length_map] at hv
    subst hv
    refine zaF (fun M => ∃ i : Nat, M[i]? = some (.arr (.slice p out.length cap) 4 (out.map zbJ))) [8, 18] mixed ?_
    refine ahp 0 rfl rfl (by kernel_rfl) (by kernel_rfl) (zf rfl) ?_
    refine ahp 1 rfl rfl (by kernel_rfl) (by kernel_rfl) (zau rfl rfl) ?_
    refine ahp 2 rfl rfl (by kernel_rfl) (by kernel_rfl) (zf rfl) ?_
    refine ahg 3 rfl rfl (by kernel_rfl) (by kernel_rfl) rfl (fun hc => ⟨_, OpenTo.refl _, zf rfl⟩) ?_
    refine ahg 4 rfl rfl (by kernel_rfl) (by kernel_rfl) rfl (fun hc => ⟨_, OpenTo.refl _, zf rfl⟩) ?_
    refine ahg 5 rfl rfl (by kernel_rfl) (by kernel_rfl) rfl (fun hc => by have hq := hc; (try simp at hq); exact ⟨_, OpenTo.upd (t := 35) rfl (by first | exact hc | simp_all) (OpenTo.refl _), zap rfl rfl (by omega) (by omega)⟩) ?_
    refine ahg 6 rfl rfl (by kernel_rfl) (by kernel_rfl) rfl (fun hc => by
     have hp2 := hp.resolve_right (fun e => by have e2 := List.map_eq_nil_iff.1 e; subst e2; simp at hc)
     have hne : 0 < out.length := List.length_pos_iff.2 (fun e => by subst e; simp at hc)
     exact ⟨_, OpenTo.upd (t := 36) rfl (by first | exact hc | simp_all) (OpenTo.upd (t := 34) rfl (by first | exact hc | simp_all) (OpenTo.refl _)), zaC (j := out.length - 1) zcg z8 (congrArg (fun q => some (HVal.raw (Value.slice q out.length cap))) hp2) rfl (by omega) (by omega)⟩) ?_
    refine ahg 7 rfl rfl (by kernel_rfl) (by kernel_rfl) rfl (fun hc => ⟨_, OpenTo.upd (t := 37) rfl (by first | exact hc | simp_all) (OpenTo.refl _), (by first | exact zb z8 rfl ty3 (by decide) rfl | exact ze z8 rfl ty3 (by decide) rfl)⟩) ?_
    refine zhj 8 rfl rfl (by kernel_rfl) (by kernel_rfl) (by simp) (by first | exact ⟨0, rfl⟩ | exact ⟨1, rfl⟩) rfl (fun hc => ⟨_, OpenTo.upd (t := 38) rfl (by first | exact hc | simp_all) (OpenTo.refl _), fun M hM => by
     have hp2 := hp.resolve_right (fun e => by have e2 := List.map_eq_nil_iff.1 e; subst e2; simp at hc); obtain ⟨i, hi⟩ := hM; rw [hp2] at hi; exact za7 (i := i) (j := out.length - 1) (y := out.getD (out.length - 1) zbN) 2 ty3 rfl (by omega) hi (getD_some (by have : out ≠ [] := (fun e => by (subst e; simp at hc)); have := List.length_pos_iff.2 this; omega)) rfl rfl ⟨rfl, rfl⟩
     ⟩) ?_
    refine ahg 9 rfl rfl (by kernel_rfl) (by kernel_rfl) rfl (fun hc => ⟨_, OpenTo.refl _, zf rfl⟩) ?_
    refine ahg 10 rfl rfl (by kernel_rfl) (by kernel_rfl) rfl (fun hc => ⟨_, OpenTo.upd (t := 40) rfl (by first | exact hc | simp_all) (OpenTo.upd (t := 39) rfl (by first | exact hc | simp_all) (OpenTo.refl _)), zS rfl rfl⟩) ?_
    refine ahp 11 rfl rfl (by kernel_rfl) (by kernel_rfl) (zA rfl (.inl rfl) (.inr ⟨_, rfl, fun h => by simp_all⟩)) ?_
    refine ahp 12 rfl rfl (by kernel_rfl) (by kernel_rfl) (zf rfl) ?_
    refine ahg 13 rfl rfl (by kernel_rfl) (by kernel_rfl) rfl (fun hc => ⟨_, OpenTo.refl _, zf rfl⟩) ?_
    refine ahg 14 rfl rfl (by kernel_rfl) (by kernel_rfl) rfl (fun hc => ⟨_, OpenTo.refl _, zf rfl⟩) ?_
    refine ahg 15 rfl rfl (by kernel_rfl) (by kernel_rfl) rfl (fun hc => by have hq := hc; (try simp at hq); exact ⟨_, OpenTo.upd (t := 45) rfl (by first | exact hc | simp_all) (OpenTo.refl _), zap rfl rfl (by omega) (by omega)⟩) ?_
    refine ahg 16 rfl rfl (by kernel_rfl) (by kernel_rfl) rfl (fun hc => by
     have hp2 := hp.resolve_right (fun e => by have e2 := List.map_eq_nil_iff.1 e; subst e2; simp at hc)
     have hne : 0 < out.length := List.length_pos_iff.2 (fun e => by subst e; simp at hc)
     exact ⟨_, OpenTo.upd (t := 46) rfl (by first | exact hc | simp_all) (OpenTo.upd (t := 44) rfl (by first | exact hc | simp_all) (OpenTo.refl _)), zaC (j := out.length - 1) zcg z8 (congrArg (fun q => some (HVal.raw (Value.slice q out.length cap))) hp2) rfl (by omega) (by omega)⟩) ?_
    refine ahg 17 rfl rfl (by kernel_rfl) (by kernel_rfl) rfl (fun hc => ⟨_, OpenTo.upd (t := 47) rfl (by first | exact hc | simp_all) (OpenTo.refl _), (by first | exact zb z8 rfl ty9 (by decide) rfl | exact ze z8 rfl ty9 (by decide) rfl)⟩) ?_
    refine zhj 18 rfl rfl (by kernel_rfl) (by kernel_rfl) (by simp) (by first | exact ⟨0, rfl⟩ | exact ⟨1, rfl⟩) rfl (fun hc => ⟨_, OpenTo.upd (t := 48) rfl (by first | exact hc | simp_all) (OpenTo.refl _), fun M hM => by
     have hp2 := hp.resolve_right (fun e => by have e2 := List.map_eq_nil_iff.1 e; subst e2; simp at hc); obtain ⟨i, hi⟩ := hM; rw [hp2] at hi; exact za7 (i := i) (j := out.length - 1) (y := out.getD (out.length - 1) zbN) 0 ty9 rfl (by omega) hi (getD_some (by have : out ≠ [] := (fun e => by (subst e; simp at hc)); have := List.length_pos_iff.2 this; omega)) rfl rfl ⟨rfl, rfl⟩
     ⟩) ?_
    refine ahg 19 rfl rfl (by kernel_rfl) (by kernel_rfl) rfl (fun hc => ⟨_, OpenTo.refl _, zb z8 rfl ty9 (by decide) rfl⟩) ?_
    refine ahg 20 rfl rfl (by kernel_rfl) (by kernel_rfl) rfl (fun hc => ⟨_, OpenTo.upd (t := 50) rfl (by first | exact hc | simp_all) (OpenTo.refl _), zg ty9 rfl rfl rfl⟩) ?_
    refine ahg 21 rfl rfl (by kernel_rfl) (by kernel_rfl) rfl (fun hc => ⟨_, OpenTo.upd (t := 51) rfl (by first | exact hc | simp_all) (OpenTo.upd (t := 49) rfl (by first | exact hc | simp_all) (OpenTo.refl _)), znR rfl rfl⟩) ?_
    refine ahp 22 rfl rfl (by kernel_rfl) (by kernel_rfl) (zA rfl (.inl rfl) (.inr ⟨_, rfl, fun h => by simp_all⟩)) ?_
    refine ahz (by kernel_rfl) ?_
    refine zi rfl (fun h3 => ?_) (fun h4 => ?_)
    ·try simp at h3
     refine zC ?_
     refine dmv rfl ?_
     refine dq (zH z8 rfl rfl rfl rfl) ?_
     refine dq (zG (hs := [_]) zcg z8 rfl rfl (by decide) (by decide) rfl) ?_
     refine de rfl (zay (i := 1) zcg z8 rfl rfl rfl rfl rfl (by simp [zbe, zn]) (by simp; omega) fun v57 => ?_)
     refine das rfl ?_
     refine dn ?_
     refine zh ?_
     refine zC ?_
     refine dmv rfl ?_
     refine dmv rfl ?_
     refine dq (zG (hs := [_, _, _, _, _]) zbL ty3 rfl rfl (by decide) (by decide) rfl) ?_
     first
     | refine de rfl (zd (i := 0) zV rfl (WeakL.refl _) rfl (zc (L := [_, _, _, _, _]) (by first | assumption | omega | (simp; omega) | simp_all) (by first | assumption | omega | (simp; omega) | simp_all) (by first | assumption | omega | (simp; omega) | simp_all)) ?_)
     | refine de rfl (zd (i := 1) zV rfl (WeakL.refl _) rfl (zc (L := [_, _, _, _, _]) (by first | assumption | omega | (simp; omega) | simp_all) (by first | assumption | omega | (simp; omega) | simp_all) (by first | assumption | omega | (simp; omega) | simp_all)) ?_)
     | refine de rfl (zd (i := 2) zV rfl (WeakL.refl _) rfl (zc (L := [_, _, _, _, _]) (by first | assumption | omega | (simp; omega) | simp_all) (by first | assumption | omega | (simp; omega) | simp_all) (by first | assumption | omega | (simp; omega) | simp_all)) ?_)
     | refine de rfl (zd (i := 3) zV rfl (WeakL.refl _) rfl (zc (L := [_, _, _, _, _]) (by first | assumption | omega | (simp; omega) | simp_all) (by first | assumption | omega | (simp; omega) | simp_all) (by first | assumption | omega | (simp; omega) | simp_all)) ?_)
     rintro _ _ ⟨y61, rfl, hy61, rfl⟩
     refine dq (zB rfl rfl (by simp at hy61; omega) (by simp at hy61; omega)) ?_
     refine das rfl ?_
     refine dn ?_
     refine zy ?_
     refine zh ?_
     refine zC ?_
     refine dq (zB rfl rfl (by omega) (by omega)) ?_
     refine dmv rfl ?_
     refine dn ?_
     exact ⟨k + 1, t + y61, ⟨v57, out ++ [x7], a2 + 4⟩, ⟨by omega, ⟨by simp at hy61; omega, by simp at hy61; omega⟩, hq.add (x := x7) hq7 (by omega)⟩, by dsimp only; omega, ⟨rfl, rfl, rfl, trivial⟩, (by repeat (first | exact zt | refine zw rfl ?_ | refine zu rfl rfl ?_)), by repeat (first | exact List.Perm.nil | refine zQ 0 rfl ?_ | refine zQ 1 rfl ?_ | refine zQ 2 rfl ?_ | refine zQ 3 rfl ?_ | (refine zM 0 rfl ?hq ?_; (case hq => simp [zZ, zn]; done)) | (refine zM 1 rfl ?hq ?_; (case hq => simp [zZ, zn]; done)) | (refine zM 2 rfl ?hq ?_; (case hq => simp [zZ, zn]; done)) | (refine zM 3 rfl ?hq ?_; (case hq => simp [zZ, zn]; done)) | fail)⟩
    ·try simp at h4
     refine zm ?_
     refine zh ?_
     refine zC ?_
     refine dmv rfl ?_
     refine dmv rfl ?_
     refine dq (zG (hs := [_, _, _, _, _]) zbL ty3 rfl rfl (by decide) (by decide) rfl) ?_
     first
     | refine de rfl (zd (i := 0) zV rfl (WeakL.refl _) rfl (zc (L := [_, _, _, _, _]) (by first | assumption | omega | (simp; omega) | simp_all) (by first | assumption | omega | (simp; omega) | simp_all) (by first | assumption | omega | (simp; omega) | simp_all)) ?_)
     | refine de rfl (zd (i := 1) zV rfl (WeakL.refl _) rfl (zc (L := [_, _, _, _, _]) (by first | assumption | omega | (simp; omega) | simp_all) (by first | assumption | omega | (simp; omega) | simp_all) (by first | assumption | omega | (simp; omega) | simp_all)) ?_)
     | refine de rfl (zd (i := 2) zV rfl (WeakL.refl _) rfl (zc (L := [_, _, _, _, _]) (by first | assumption | omega | (simp; omega) | simp_all) (by first | assumption | omega | (simp; omega) | simp_all) (by first | assumption | omega | (simp; omega) | simp_all)) ?_)
     | refine de rfl (zd (i := 3) zV rfl (WeakL.refl _) rfl (zc (L := [_, _, _, _, _]) (by first | assumption | omega | (simp; omega) | simp_all) (by first | assumption | omega | (simp; omega) | simp_all) (by first | assumption | omega | (simp; omega) | simp_all)) ?_)
     rintro _ _ ⟨y61, rfl, hy61, rfl⟩
     refine dq (zB rfl rfl (by simp at hy61; omega) (by simp at hy61; omega)) ?_
     refine das rfl ?_
     refine dn ?_
     refine zy ?_
     refine zh ?_
     refine zC ?_
     refine dq (zB rfl rfl (by omega) (by omega)) ?_
     refine dmv rfl ?_
     refine dn ?_
     exact ⟨k + 1, t + y61, ⟨.slice p out.length cap, out, a2 + 4⟩, ⟨by omega, ⟨by simp at hy61; omega, by simp at hy61; omega⟩, hq.same (by omega)⟩, by dsimp only; omega, ⟨rfl, rfl, rfl, trivial⟩, (by repeat (first | exact zt | refine zw rfl ?_ | refine zu rfl rfl ?_)), by repeat (first | exact List.Perm.nil | refine zQ 0 rfl ?_ | refine zQ 1 rfl ?_ | refine zQ 2 rfl ?_ | refine zQ 3 rfl ?_ | (refine zM 0 rfl ?hq ?_; (case hq => simp [zZ, zn]; done)) | (refine zM 1 rfl ?hq ?_; (case hq => simp [zZ, zn]; done)) | (refine zM 2 rfl ?hq ?_; (case hq => simp [zZ, zn]; done)) | (refine zM 3 rfl ?hq ?_; (case hq => simp [zZ, zn]; done)) | fail)⟩
  ·try simp at h2
   refine zX ?_
   refine z7 ?_
   refine zgK ?_
   refine zO ?_
   refine zh ?_
   refine ze3 [9, 64, 65, 66, 67, 68, 69, 70, 71, 72, 73, 74, 75, 76, 77, 78, 79, 80, 81, 82, 83, 84, 85, 86, 87, 88, 89, 90, 91, 92, 93, 94, 95, 96, 97, 98, 99, 100, 101, 102, 103, 104, 105, 106, 107, 108, 109, 110, 111] (fun (q : List ReplyS × Nat) => []) (fun (q : List ReplyS × Nat) => [St b l q.2, .arr u 4 (q.1.map zbJ)]) (fun (q : List ReplyS × Nat) => q.1.length ≤ 12 ∧ (∀ x ∈ q.1, Sh x.Offer) ∧ q.2 ≤ a + 100) ?_ ?_
   ·skip
    refine za ?_
    refine dmv rfl ?_
    first
    | refine de rfl (zaG (i := 0) zcg rfl rfl ?_)
    | refine de rfl (zaG (i := 1) zcg rfl rfl ?_)
    | refine de rfl (zaG (i := 2) zcg rfl rfl ?_)
    | refine de rfl (zaG (i := 3) zcg rfl rfl ?_)
    refine dq (zae rfl rfl) ?_
    refine dmv rfl ?_
    refine dg rfl rfl (fun hc => ⟨_, OpenTo.refl _, zf rfl⟩) ?_
    refine dgx (fun x M' => ∃ (y : Bool) (a3 : Nat), x = .bool y ∧ a3 ≤ a2 + 1 ∧ M' = [St b l a3, .arr u 4 (out.map zbJ)]) rfl rfl (fun hc => ⟨_, false, a2, rfl, by omega, rfl⟩) (fun hc => ⟨_, OpenTo.upd (t := 68) rfl (by first | exact hc | simp_all) (OpenTo.refl _), zd (i := 0) zeE rfl (WeakL.refl _) rfl (zal (a := a2) (by omega) (by omega)) (fun h M' hh => by
     obtain ⟨y, h1, h2⟩ := hh
     exact ⟨y, a2 + 1, h1, by omega, by rw [h2]; rfl⟩)⟩) ?_
    rintro _ _ ⟨y, a3, rfl, ha3, rfl⟩
    refine dq (zA rfl (.inr ⟨_, rfl, fun h => by simp_all⟩) (.inl rfl)) ?_
    refine dn ?_
    refine zi rfl (fun h5 => ?_) (fun h6 => ?_)
    ·try simp at h5
     have ho0 : 0 < out.length := by simp_all
     refine zdc (i := 1) rfl (fun h0 he => ?_) (fun ob off cap hv hcap => ?_)
     ·exfalso; have := congrArg List.length he; simp at this; subst this; simp at ho0
     subst hv
     refine za ?_
     refine dmv rfl ?_
     refine dmv rfl ?_
     refine dmv rfl ?_
     first
     | refine de rfl (zaG (i := 0) zcg rfl rfl ?_)
     | refine de rfl (zaG (i := 1) zcg rfl rfl ?_)
     | refine de rfl (zaG (i := 2) zcg rfl rfl ?_)
     | refine de rfl (zaG (i := 3) zcg rfl rfl ?_)
     first
     | refine de rfl (zd (i := 0) zdA rfl (WeakL.refl _) rfl (zaa (by first | assumption | omega | (simp; omega) | simp_all) (by first | assumption | omega | (simp; omega) | simp_all)) ?_)
     | refine de rfl (zd (i := 1) zdA rfl (WeakL.refl _) rfl (zaa (by first | assumption | omega | (simp; omega) | simp_all) (by first | assumption | omega | (simp; omega) | simp_all)) ?_)
     | refine de rfl (zd (i := 2) zdA rfl (WeakL.refl _) rfl (zaa (by first | assumption | omega | (simp; omega) | simp_all) (by first | assumption | omega | (simp; omega) | simp_all)) ?_)
     | refine de rfl (zd (i := 3) zdA rfl (WeakL.refl _) rfl (zaa (by first | assumption | omega | (simp; omega) | simp_all) (by first | assumption | omega | (simp; omega) | simp_all)) ?_)
     rintro _ _ ⟨y75, rfl, hy75, rfl⟩
     refine dq (zaC (j := y75) zcg z8 rfl rfl rfl (by simp; omega)) ?_
     refine das rfl ?_
     refine dn ?_
     obtain ⟨x, hx⟩ : ∃ x, out[y75]? = some x := ⟨_, List.getElem?_eq_getElem (by omega)⟩
     refine zbU (fun M => ∃ i : Nat, M[i]? = some (.arr (.slice (some ⟨ob, off, none⟩) (out.map zbJ).length cap) 4 (out.map zbJ))) [8, 15, 22] mixed ?_
     refine ahp 0 rfl rfl (by kernel_rfl) (by kernel_rfl) (zf rfl) ?_
     refine ahp 1 rfl rfl (by kernel_rfl) (by kernel_rfl) (zf rfl) ?_
     refine ahp 2 rfl rfl (by kernel_rfl) (by kernel_rfl) (zf rfl) ?_
     refine ahp 3 rfl rfl (by kernel_rfl) (by kernel_rfl) (zf rfl) ?_
     refine ahp 4 rfl rfl (by kernel_rfl) (by kernel_rfl) (zf rfl) ?_
     refine ahp 5 rfl rfl (by kernel_rfl) (by kernel_rfl) (zf rfl) ?_
     refine ahp 6 rfl rfl (by kernel_rfl) (by kernel_rfl) ((by first | exact zx rfl | exact zp rfl)) ?_
     refine ahp 7 rfl rfl (by kernel_rfl) (by kernel_rfl) ((by first | exact zb z8 rfl ty9 (by decide) rfl | exact ze z8 rfl ty9 (by decide) rfl)) ?_
     refine ahl 8 rfl rfl (by kernel_rfl) (by kernel_rfl) (by simp) ⟨1, rfl⟩ (fun M hM => by obtain ⟨i, hi⟩ := hM; exact za7 (i := i) (j := y75) 0 ty9 rfl (by omega) hi hx rfl rfl ⟨rfl, rfl⟩) ?_
     refine ahp 9 rfl rfl (by kernel_rfl) (by kernel_rfl) (zG (hs := [_, _]) zP ty9 rfl rfl (by decide) (by decide) rfl) ?_
     refine ahp 11 rfl rfl (by kernel_rfl) (by kernel_rfl) (zf rfl) ?_
     refine ahp 12 rfl rfl (by kernel_rfl) (by kernel_rfl) (zf rfl) ?_
     refine ahp 13 rfl rfl (by kernel_rfl) (by kernel_rfl) ((by first | exact zx rfl | exact zp rfl)) ?_
     refine ahp 14 rfl rfl (by kernel_rfl) (by kernel_rfl) ((by first | exact zb z8 rfl ty9 (by decide) rfl | exact ze z8 rfl ty9 (by decide) rfl)) ?_
     refine ahl 15 rfl rfl (by kernel_rfl) (by kernel_rfl) (by simp) ⟨1, rfl⟩ (fun M hM => by obtain ⟨i, hi⟩ := hM; exact za7 (i := i) (j := y75) 1 ty9 rfl (by omega) hi hx rfl rfl ⟨rfl, rfl⟩) ?_
     refine ahp 16 rfl rfl (by kernel_rfl) (by kernel_rfl) (zG (hs := [_, _]) zP ty9 rfl rfl (by decide) (by decide) rfl) ?_
     refine ahp 18 rfl rfl (by kernel_rfl) (by kernel_rfl) (zf rfl) ?_
     refine ahp 19 rfl rfl (by kernel_rfl) (by kernel_rfl) (zf rfl) ?_
     refine ahp 20 rfl rfl (by kernel_rfl) (by kernel_rfl) ((by first | exact zx rfl | exact zp rfl)) ?_
     refine ahp 21 rfl rfl (by kernel_rfl) (by kernel_rfl) ((by first | exact zb z8 rfl ty3 (by decide) rfl | exact ze z8 rfl ty3 (by decide) rfl)) ?_
     refine ahl 22 rfl rfl (by kernel_rfl) (by kernel_rfl) (by simp) ⟨1, rfl⟩ (fun M hM => by obtain ⟨i, hi⟩ := hM; exact za7 (i := i) (j := y75) 2 ty3 rfl (by omega) hi hx rfl rfl ⟨rfl, rfl⟩) ?_
     refine ahp 23 rfl rfl (by kernel_rfl) (by kernel_rfl) (zG (hs := [_, _, _]) zbL ty3 rfl rfl (by decide) (by decide) rfl) ?_
     refine ahp 25 rfl rfl (by kernel_rfl) (by kernel_rfl) (zf rfl) ?_
     refine ahe 10 rfl (by kernel_rfl) ?_
     first
     | refine zv rfl (zd (i := 0) zaH rfl (WeakL.refl _) rfl (zk (L := [_, _]) (by first | assumption | omega | (simp; omega) | simp_all) (by first | assumption | omega | (simp; omega) | simp_all) (by first | assumption | omega | (simp; omega) | simp_all)) ?_)
     | refine zv rfl (zd (i := 1) zaH rfl (WeakL.refl _) rfl (zk (L := [_, _]) (by first | assumption | omega | (simp; omega) | simp_all) (by first | assumption | omega | (simp; omega) | simp_all) (by first | assumption | omega | (simp; omega) | simp_all)) ?_)
     | refine zv rfl (zd (i := 2) zaH rfl (WeakL.refl _) rfl (zk (L := [_, _]) (by first | assumption | omega | (simp; omega) | simp_all) (by first | assumption | omega | (simp; omega) | simp_all) (by first | assumption | omega | (simp; omega) | simp_all)) ?_)
     | refine zv rfl (zd (i := 3) zaH rfl (WeakL.refl _) rfl (zk (L := [_, _]) (by first | assumption | omega | (simp; omega) | simp_all) (by first | assumption | omega | (simp; omega) | simp_all) (by first | assumption | omega | (simp; omega) | simp_all)) ?_)
     rintro _ _ ⟨y87, rfl, hy87, rfl⟩
     refine ⟨fun _ => by first | exact .inl ⟨0, rfl⟩ | exact .inl ⟨1, rfl⟩ | exact .inl ⟨2, rfl⟩ | exact .inr (by simp [zaO, Region.binds]), ?_⟩
     refine ahe 17 rfl (by kernel_rfl) ?_
     first
     | refine zv rfl (zd (i := 0) zaH rfl (WeakL.refl _) rfl (zk (L := [_, _]) (by first | assumption | omega | (simp; omega) | simp_all) (by first | assumption | omega | (simp; omega) | simp_all) (by first | assumption | omega | (simp; omega) | simp_all)) ?_)
     | refine zv rfl (zd (i := 1) zaH rfl (WeakL.refl _) rfl (zk (L := [_, _]) (by first | assumption | omega | (simp; omega) | simp_all) (by first | assumption | omega | (simp; omega) | simp_all) (by first | assumption | omega | (simp; omega) | simp_all)) ?_)
     | refine zv rfl (zd (i := 2) zaH rfl (WeakL.refl _) rfl (zk (L := [_, _]) (by first | assumption | omega | (simp; omega) | simp_all) (by first | assumption | omega | (simp; omega) | simp_all) (by first | assumption | omega | (simp; omega) | simp_all)) ?_)
     | refine zv rfl (zd (i := 3) zaH rfl (WeakL.refl _) rfl (zk (L := [_, _]) (by first | assumption | omega | (simp; omega) | simp_all) (by first | assumption | omega | (simp; omega) | simp_all) (by first | assumption | omega | (simp; omega) | simp_all)) ?_)
     rintro _ _ ⟨y94, rfl, hy94, rfl⟩
     refine ⟨fun _ => by first | exact .inl ⟨0, rfl⟩ | exact .inl ⟨1, rfl⟩ | exact .inl ⟨2, rfl⟩ | exact .inr (by simp [zaO, Region.binds]), ?_⟩
     refine ahe 24 rfl (by kernel_rfl) ?_
     first
     | refine zv rfl (zd (i := 0) zV rfl (WeakL.refl _) rfl (zc (L := [_, _, _]) (by first | assumption | omega | (simp; omega) | simp_all) (by first | assumption | omega | (simp; omega) | simp_all) (by first | assumption | omega | (simp; omega) | simp_all)) ?_)
     | refine zv rfl (zd (i := 1) zV rfl (WeakL.refl _) rfl (zc (L := [_, _, _]) (by first | assumption | omega | (simp; omega) | simp_all) (by first | assumption | omega | (simp; omega) | simp_all) (by first | assumption | omega | (simp; omega) | simp_all)) ?_)
     | refine zv rfl (zd (i := 2) zV rfl (WeakL.refl _) rfl (zc (L := [_, _, _]) (by first | assumption | omega | (simp; omega) | simp_all) (by first | assumption | omega | (simp; omega) | simp_all) (by first | assumption | omega | (simp; omega) | simp_all)) ?_)
     | refine zv rfl (zd (i := 3) zV rfl (WeakL.refl _) rfl (zc (L := [_, _, _]) (by first | assumption | omega | (simp; omega) | simp_all) (by first | assumption | omega | (simp; omega) | simp_all) (by first | assumption | omega | (simp; omega) | simp_all)) ?_)
     rintro _ _ ⟨y101, rfl, hy101, rfl⟩
     refine ⟨fun _ => by first | exact .inl ⟨0, rfl⟩ | exact .inl ⟨1, rfl⟩ | exact .inl ⟨2, rfl⟩ | exact .inr (by simp [zaO, Region.binds]), ?_⟩
     refine ahe 26 rfl (by kernel_rfl) ?_
     first
     | refine zv rfl (zd (i := 0) zeB rfl (WeakL.refl _) rfl (zao (by first | assumption | omega | (simp; omega) | simp_all) (by first | assumption | omega | (simp; omega) | simp_all) (by first | assumption | omega | (simp; omega) | simp_all) (by first | assumption | omega | (simp; omega) | simp_all)) ?_)
     | refine zv rfl (zd (i := 1) zeB rfl (WeakL.refl _) rfl (zao (by first | assumption | omega | (simp; omega) | simp_all) (by first | assumption | omega | (simp; omega) | simp_all) (by first | assumption | omega | (simp; omega) | simp_all) (by first | assumption | omega | (simp; omega) | simp_all)) ?_)
     | refine zv rfl (zd (i := 2) zeB rfl (WeakL.refl _) rfl (zao (by first | assumption | omega | (simp; omega) | simp_all) (by first | assumption | omega | (simp; omega) | simp_all) (by first | assumption | omega | (simp; omega) | simp_all) (by first | assumption | omega | (simp; omega) | simp_all)) ?_)
     | refine zv rfl (zd (i := 3) zeB rfl (WeakL.refl _) rfl (zao (by first | assumption | omega | (simp; omega) | simp_all) (by first | assumption | omega | (simp; omega) | simp_all) (by first | assumption | omega | (simp; omega) | simp_all) (by first | assumption | omega | (simp; omega) | simp_all)) ?_)
     rintro _ _ ⟨y103, rfl, rfl⟩
     refine ⟨fun _ => by first | exact .inl ⟨0, rfl⟩ | exact .inl ⟨1, rfl⟩ | exact .inl ⟨2, rfl⟩ | exact .inr (by simp [zaO, Region.binds]), ?_⟩
     refine ahp 27 rfl rfl (by kernel_rfl) (by kernel_rfl) ((by first | exact zx rfl | exact zp rfl)) ?_
     refine ahp 28 rfl rfl (by kernel_rfl) (by kernel_rfl) ((by first | exact zb z8 rfl ty9 (by decide) rfl | exact ze z8 rfl ty9 (by decide) rfl)) ?_
     refine ahe 29 rfl (by kernel_rfl) ?_
     refine zab (zaQ (i := 1) (j := y75) (f := 0) (y := zbJ x) (y' := zbJ ⟨y87, x.Team, x.At, x.Kind⟩) ty9 rfl (by omega) rfl rfl (zcf hx) rfl rfl (by simp [zn]) rfl ?_)
     refine ⟨fun _ => .inr (by simp [zaO, Region.binds]), ?_⟩
     refine ahp 30 rfl rfl (by kernel_rfl) (by kernel_rfl) ((by first | exact zx rfl | exact zp rfl)) ?_
     refine ahp 31 rfl rfl (by kernel_rfl) (by kernel_rfl) ((by first | exact zb z8 rfl ty9 (by decide) rfl | exact ze z8 rfl ty9 (by decide) rfl)) ?_
     refine ahe 32 rfl (by kernel_rfl) ?_
     refine zab (zaQ (i := 1) (j := y75) (f := 1) (y := zbJ ⟨y87, x.Team, x.At, x.Kind⟩) (y' := zbJ ⟨y87, y94, x.At, x.Kind⟩) ty9 rfl (by omega) rfl rfl (zcc (zcf hx)) rfl rfl (by simp [zn]) rfl ?_)
     refine ⟨fun _ => .inr (by simp [zaO, Region.binds]), ?_⟩
     refine ahp 33 rfl rfl (by kernel_rfl) (by kernel_rfl) ((by first | exact zx rfl | exact zp rfl)) ?_
     refine ahp 34 rfl rfl (by kernel_rfl) (by kernel_rfl) ((by first | exact zb z8 rfl ty3 (by decide) rfl | exact ze z8 rfl ty3 (by decide) rfl)) ?_
     refine ahe 35 rfl (by kernel_rfl) ?_
     refine zab (zaQ (i := 1) (j := y75) (f := 2) (y := zbJ ⟨y87, y94, x.At, x.Kind⟩) (y' := zbJ ⟨y87, y94, y101, x.Kind⟩) ty3 rfl (by omega) rfl rfl (zcc (zcc (zcf hx))) rfl rfl (by simp [zn]) rfl ?_)
     refine ⟨fun _ => .inr (by simp [zaO, Region.binds]), ?_⟩
     refine ahp 36 rfl rfl (by kernel_rfl) (by kernel_rfl) ((by first | exact zx rfl | exact zp rfl)) ?_
     refine ahp 37 rfl rfl (by kernel_rfl) (by kernel_rfl) ((by first | exact zb z8 rfl ty3 (by decide) rfl | exact ze z8 rfl ty3 (by decide) rfl)) ?_
     refine ahe 38 rfl (by kernel_rfl) ?_
     refine zab (zaQ (i := 1) (j := y75) (f := 3) (y := zbJ ⟨y87, y94, y101, x.Kind⟩) (y' := zbJ ⟨y87, y94, y101, y103⟩) ty3 rfl (by omega) rfl rfl (zcc (zcc (zcc (zcf hx)))) rfl rfl (by simp [zn]) rfl ?_)
     refine ⟨fun _ => .inr (by simp [zaO, Region.binds]), ?_⟩
     refine ahz (by kernel_rfl) ?_
     exact ⟨(out.set y75 ⟨y87, y94, y101, y103⟩, a3 + 6), ⟨by simp; omega, zft (P := zpx) g2 (by simp at hy87; rcases hy87 with rfl | rfl; exact g2 x (List.mem_of_getElem? hx); exact zk6), by dsimp only; omega⟩, trivial, (by repeat (first | exact zt | refine zw rfl ?_ | refine zu rfl rfl ?_)), by repeat (first | exact List.Perm.nil | refine zQ 0 rfl ?_ | refine zQ 1 rfl ?_ | refine zQ 2 rfl ?_ | refine zQ 3 rfl ?_ | (refine zM 0 rfl ?hq ?_; (case hq => simp [zZ, zn]; done)) | (refine zM 1 rfl ?hq ?_; (case hq => simp [zZ, zn]; done)) | (refine zM 2 rfl ?hq ?_; (case hq => simp [zZ, zn]; done)) | (refine zM 3 rfl ?hq ?_; (case hq => simp [zZ, zn]; done)) | fail)⟩
    ·try simp at h6
     refine zm ?_
     exact ⟨(out, a3), ⟨by dsimp only; omega, g2, by dsimp only; omega⟩, trivial, (by repeat (first | exact zt | refine zw rfl ?_ | refine zu rfl rfl ?_)), by repeat (first | exact List.Perm.nil | refine zQ 0 rfl ?_ | refine zQ 1 rfl ?_ | refine zQ 2 rfl ?_ | refine zQ 3 rfl ?_ | (refine zM 0 rfl ?hq ?_; (case hq => simp [zZ, zn]; done)) | (refine zM 1 rfl ?hq ?_; (case hq => simp [zZ, zn]; done)) | (refine zM 2 rfl ?hq ?_; (case hq => simp [zZ, zn]; done)) | (refine zM 3 rfl ?hq ?_; (case hq => simp [zZ, zn]; done)) | fail)⟩
   ·intro q hq3
    obtain ⟨k1, a4⟩ := q
    dsimp only at hq3
    obtain ⟨q1, q2, q3⟩ := hq3
    refine za ?_
    refine dmv rfl ?_
    refine das rfl ?_
    refine dn ?_
    refine zl ?_
    refine zbE (Ghost.fa 4 (i := 1) rfl rfl) rfl ⟨k1, a4, rfl, ⟨q1, q2⟩, by omega, rfl⟩
end
section
open Go.HL
/-- (*benchwarmer/benchmake.Stream).OwnerList$1 -/
theorem zff [Tracks] {m : MarketS} {x : OwnerS} {t : Str} {bn n : Nat} (hn : n ≤ 1000000) : Con Tryz.prog 38 [zaY x, .vptr [.str t] 0, pAt bn, .vptr (zn (zaM m)) 0] [.cells bn [.int .i64 (n : Int)]] (fun r M' => ∃ (y : Bool) (n' : Nat), r = .bool y ∧ n' ≤ n + 1 ∧ M' = [.cells bn [.int .i64 (n' : Int)]]) := by
 refine Con.of_body Tryz.func38 rfl Tryz.ntmps38 rfl rfl ?_
 refine za ?_
 refine dq (zas rfl rfl) ?_
 refine das rfl ?_
 refine dn ?_
 refine ze3 [6, 7, 8, 9, 10, 11] (fun (n2 : Nat) => []) (fun (n2 : Nat) => [.cells bn [.int .i64 (n2 : Int)]]) (fun (n2 : Nat) => n2 ≤ n + 1) ?_ ?_
 ·skip
  refine za ?_
  refine dq ((by first | exact zb zaj rfl ty9 (by decide) rfl | exact ze zaj rfl ty9 (by decide) rfl)) ?_
  refine dq (zg ty9 rfl rfl rfl) ?_
  refine dq (zg ty9 rfl rfl rfl) ?_
  refine dq (zbt rfl rfl) ?_
  refine dn ?_
  refine zi rfl (fun h1 => ?_) (fun h2 => ?_)
  ·try simp at h1
   refine zC ?_
   first
   | refine de rfl (zJ (i := 0) ty3 rfl rfl (.inl ⟨rfl, rfl⟩) ?_)
   | refine de rfl (zJ (i := 1) ty3 rfl rfl (.inl ⟨rfl, rfl⟩) ?_)
   | refine de rfl (zJ (i := 2) ty3 rfl rfl (.inl ⟨rfl, rfl⟩) ?_)
   | refine de rfl (zJ (i := 3) ty3 rfl rfl (.inl ⟨rfl, rfl⟩) ?_)
   refine dq (zB rfl rfl (by omega) (by omega)) ?_
   first
   | refine de0 (zz (i := 0) ty3 rfl rfl rfl rfl rfl (Nat.le_of_ble_eq_true rfl) ?_)
   | refine de0 (zz (i := 1) ty3 rfl rfl rfl rfl rfl (Nat.le_of_ble_eq_true rfl) ?_)
   | refine de0 (zz (i := 2) ty3 rfl rfl rfl rfl rfl (Nat.le_of_ble_eq_true rfl) ?_)
   | refine de0 (zz (i := 3) ty3 rfl rfl rfl rfl rfl (Nat.le_of_ble_eq_true rfl) ?_)
   refine dn ?_
   exact ⟨n + 1, Nat.le_refl _, trivial, (by repeat (first | exact zt | refine zw rfl ?_ | refine zu rfl rfl ?_)), zR rfl⟩
  ·try simp at h2
   refine zm ?_
   exact ⟨n, by omega, trivial, (by repeat (first | exact zt | refine zw rfl ?_ | refine zu rfl rfl ?_)), zR rfl⟩
 ·intro n2 hn2
  refine za ?_
  refine dq ((by first | exact zb zaj rfl ty9 (by decide) rfl | exact ze zaj rfl ty9 (by decide) rfl)) ?_
  refine dq (zg ty9 rfl rfl rfl) ?_
  refine dq (zg ty9 rfl rfl rfl) ?_
  refine dq (zbt rfl rfl) ?_
  refine dmv rfl ?_
  refine dgl rfl rfl (fun hc => ⟨_, OpenTo.refl _, zJ (i := 0) ty3 rfl rfl (.inl ⟨rfl, rfl⟩) ⟨rfl, rfl⟩⟩) ?_
  refine dg rfl rfl (fun hc => ⟨_, OpenTo.refl _, (by first | exact zb zT rfl ty3 (by decide) rfl | exact ze zT rfl ty3 (by decide) rfl)⟩) ?_
  refine dg rfl rfl (fun hc => ⟨_, OpenTo.upd (t := 18) rfl (by first | exact hc | simp_all) (OpenTo.refl _), zg ty3 rfl rfl rfl⟩) ?_
  refine dg rfl rfl (fun hc => ⟨_, OpenTo.upd (t := 19) rfl (by first | exact hc | simp_all) (OpenTo.upd (t := 17) rfl (by first | exact hc | simp_all) (OpenTo.refl _)), zae rfl rfl⟩) ?_
  refine dq (zA rfl (.inr ⟨_, rfl, fun h => by simp_all⟩) (.inl rfl)) ?_
  refine das rfl ?_
  refine dn ?_
  refine zl ?_
  exact zbb rfl ⟨_, n2, rfl, hn2, rfl⟩

/-- slices.IndexFunc[[]benchwarmer/api.Owner,benchwarmer/api.Owner] -/
theorem zh5 [Tracks] {l : List OwnerS} {v : Value} {fid : FuncId} {caps : List HVal} {bn n : Nat} (hca : Callable Tryz.prog fid) (hp : ∀ (x : OwnerS) (n : Nat), n ≤ 1000000 → Con Tryz.prog fid ([zaY x] ++ caps) [.cells bn [.int .i64 (n : Int)]] fun r M' => ∃ (y : Bool) (n' : Nat), r = .bool y ∧ n' ≤ n + 1 ∧ M' = [.cells bn [.int .i64 (n' : Int)]]) (hl : l.length ≤ 1000) (hn : n ≤ 1000) : Con Tryz.prog 69 [.raw v, .fn (.func fid) [] caps] [.arr v 2 (l.map zaY), .cells bn [.int .i64 (n : Int)]] (fun r M' => ∃ (i : Int) (n' : Nat), r = .int .i64 i ∧ (-1 ≤ i ∧ i < l.length) ∧ n' ≤ n + l.length ∧ M' = [.arr v 2 (l.map zaY), .cells bn [.int .i64 (n' : Int)]]) := by
 refine Con.of_body Tryz.func69 rfl Tryz.ntmps69 rfl rfl ?_
 refine za ?_
 refine das rfl ?_
 refine dn ?_
 refine zj ?_
 refine za ?_
 refine dmv rfl ?_
 refine de rfl (zaG (i := 0) (es := l) zaN rfl rfl ?_)
 refine dmv rfl ?_
 refine dn ?_
 refine zq ?_
 refine zbi [4, 5, 8, 9, 10, 11, 12, 13, 14, 15, 16, 17, 18] (fun (k : Nat) (n2 : Nat) => [(8, .int .i64 k)]) (fun (k : Nat) (n2 : Nat) => [.arr v 2 (l.map zaY), .cells bn [.int .i64 (n2 : Int)]]) (fun (k : Nat) (n2 : Nat) => k ≤ l.length ∧ (n2 ≤ n + k)) (fun (k : Nat) (n2 : Nat) => l.length - k) (0) (n) ?_ ?_ ?_ ?_
 ·exact ⟨Nat.zero_le _, Nat.le_refl _⟩
 ·exact ⟨rfl, trivial⟩
 ·exact zR rfl
 ·intro k n2 hinv
  obtain ⟨hk, hn2⟩ := hinv
  refine za ?_
  refine dq (zS rfl rfl) ?_
  refine dn ?_
  refine zj ?_
  refine zi rfl (fun h1 => ?_) (fun h2 => ?_)
  ·try simp at h1
   obtain ⟨x, hx⟩ : ∃ x, l[k]? = some x := ⟨_, List.getElem?_eq_getElem h1⟩
   have hdx := zU hx
   refine zm ?_
   refine zh ?_
   refine zj ?_
   refine zq ?_
   refine za ?_
   refine dmv rfl ?_
   refine das rfl ?_
   refine dn ?_
   refine zdc (i := 0) rfl (fun h0 he => ?_) (fun ob off cap hv hcap => ?_)
   ·exfalso; have := congrArg List.length he; simp at this; subst this; simp at hx
   rw [List.length_map] at hv hcap
   subst hv
   refine za ?_
   refine dmv rfl ?_
   refine dmv rfl ?_
   refine dmv rfl ?_
   refine dq (zaC (j := k) zaN zaj rfl rfl rfl (by omega)) ?_
   refine de rfl (zb0 (i := 0) (j := k) (f := zaY) (es := l) zaj rfl rfl rfl hx rfl rfl rfl ?_)
   refine de rfl (EOp.perm (M := [.cells bn [.int .i64 (n2 : Int)]] ++ [.arr (.slice (some ⟨ob, off, none⟩) l.length cap) 2 (l.map zaY)]) (List.Perm.swap _ _ _) (EOp.mono ?_ ((zdj hca rfl rfl (WeakL.refl _) (hp _ n2 (by omega))).frame [.arr (.slice (some ⟨ob, off, none⟩) l.length cap) 2 (l.map zaY)])))
   rintro _ _ ⟨N, rfl, y16, n16, rfl, hn16, rfl⟩
   refine dn ?_
   refine zi rfl (fun h3 => ?_) (fun h4 => ?_)
   ·try simp at h3
    refine za ?_
    refine dmv rfl ?_
    refine das rfl ?_
    refine dn ?_
    refine zl ?_
    first
    | exact zbE (Ghost.perm (List.Perm.swap _ _ _)) rfl ⟨(k : Int), n16, rfl, ⟨by omega, by omega⟩, by omega, rfl⟩
    | exact zbb rfl ⟨-1, n2, rfl, ⟨by omega, by omega⟩, by omega, rfl⟩
   ·try simp at h4
    refine zm ?_
    refine zy ?_
    refine zh ?_
    refine zC ?_
    refine dq (zB rfl rfl (by omega) (by omega)) ?_
    refine dmv rfl ?_
    refine dn ?_
    exact ⟨k + 1, n16, ⟨by omega, by omega⟩, by dsimp only; omega, ⟨rfl, trivial⟩, (by repeat (first | exact zt | refine zw rfl ?_ | refine zu rfl rfl ?_)), List.Perm.swap _ _ _⟩
  ·try simp at h2
   have hnk : l.length ≤ k := by omega
   obtain rfl : k = l.length := by omega
   refine zX ?_
   refine z7 ?_
   refine zbr ?_
   refine zO ?_
   refine zh ?_
   refine za ?_
   refine das rfl ?_
   refine dn ?_
   refine zl ?_
   first
   | exact zbE (Ghost.perm (List.Perm.swap _ _ _)) rfl ⟨(k : Int), n16, rfl, ⟨by omega, by omega⟩, by omega, rfl⟩
   | exact zbb rfl ⟨-1, n2, rfl, ⟨by omega, by omega⟩, by omega, rfl⟩

set_option maxHeartbeats 2000000 in
/-- slices.DeleteFunc[[]benchwarmer/api.Owner,benchwarmer/api.Owner] -/
theorem zhN [Tracks] {l : List OwnerS} {v : Value} {fid : FuncId} {caps : List HVal} {bn n : Nat} (hca : Callable Tryz.prog fid) (hp : ∀ (x : OwnerS) (n : Nat), n ≤ 1000000 → Con Tryz.prog fid ([zaY x] ++ caps) [.cells bn [.int .i64 (n : Int)]] fun r M' => ∃ (y : Bool) (n' : Nat), r = .bool y ∧ n' ≤ n + 1 ∧ M' = [.cells bn [.int .i64 (n' : Int)]]) (hl : l.length ≤ 1000) (hn : n ≤ 1000) : Con Tryz.prog 37 [.raw v, .fn (.func fid) [] caps] [.arr v 2 (l.map zaY), .cells bn [.int .i64 (n : Int)]] (fun r M' => ∃ (u : Value) (l' : List OwnerS) (n' : Nat), r = .raw u ∧ LeftOf l l' ∧ n' ≤ n + 2 * l.length ∧ M' = [.arr u 2 (l'.map zaY), .cells bn [.int .i64 (n' : Int)]]) := by
 refine Con.of_body Tryz.func37 rfl Tryz.ntmps37 rfl rfl ?_
 refine za ?_
 refine das rfl ?_
 refine dn ?_
 refine za ?_
 refine dmv rfl ?_
 refine dmv rfl ?_
 refine de rfl (zbl (M1 := [.arr v 2 (l.map zaY), .cells bn [.int .i64 (n : Int)]]) (R := []) ca69 rfl (WeakL.refl _) (List.Perm.refl _) (zh5 hca hp hl hn) ?_)
 rintro _ _ ⟨i10, n10, rfl, hi10, hn10, rfl⟩
 refine das rfl ?_
 refine dn ?_
 refine zj ?_
 refine za ?_
 refine dmv rfl ?_
 refine dq (zau rfl rfl) ?_
 refine dn ?_
 refine zi rfl (fun h1 => ?_) (fun h2 => ?_)
 ·try simp at h1
  refine za ?_
  refine dmv rfl ?_
  refine das rfl ?_
  refine dn ?_
  refine zl ?_
  first
  | exact zbb rfl ⟨_, l, n10, rfl, LeftOf.refl l, by omega, rfl⟩
  | (refine zbb rfl ⟨_, D.take i, n2, rfl, LeftOf.take i hDl hDs, by omega, ?_⟩
     rw [List.map_take]; rfl)
 ·try simp at h2
  refine zm ?_
  refine zh ?_
  refine zj ?_
  obtain ⟨i0, rfl⟩ : ∃ i0 : Nat, i10 = (i0 : Int) := ⟨i10.toNat, by omega⟩
  have hl0 : 0 < l.length := by omega
  refine zdc (i := 0) rfl (fun h0 he => ?_) (fun ob off cap hv hcap => ?_)
  ·exfalso; have := congrArg List.length he; simp at this; subst this; simp at hl0
  rw [List.length_map] at hv hcap
  subst hv
  refine za ?_
  refine dmv rfl ?_
  refine dq (zB rfl rfl (by omega) (by omega)) ?_
  refine das rfl ?_
  refine dn ?_
  refine zq ?_
  refine zg4 [5, 6, 7, 16, 17, 18, 19, 20, 21, 22, 23, 24, 25, 26, 27, 28, 29, 30, 31, 32, 33, 34, 35] (fun (j : Nat) (i : Nat) (D : List OwnerS) (n2 : Nat) => [(6, .int .i64 (j : Int)), (5, .int .i64 (i : Int))]) (fun (j : Nat) (i : Nat) (D : List OwnerS) (n2 : Nat) => [.arr (.slice (some ⟨ob, off, none⟩) l.length cap) 2 (D.map zaY), .cells bn [.int .i64 (n2 : Int)]]) (fun (j : Nat) (i : Nat) (D : List OwnerS) (n2 : Nat) => (i < j ∧ j ≤ l.length) ∧ D.length = l.length ∧ (∀ x ∈ D, x ∈ l) ∧ n2 ≤ n + l.length + j) (fun (j : Nat) (i : Nat) (D : List OwnerS) (n2 : Nat) => l.length - j) (i0 + 1) (i0) (l) (n10) ?_ ?_ ?_ ?_
  ·exact ⟨⟨by omega, by omega⟩, rfl, fun _ h => h, by omega⟩
  ·exact ⟨zcG (by omega), rfl, trivial⟩
  ·exact zR rfl
  ·intro j i D n2 hinv
   obtain ⟨⟨hij, hjl⟩, hDl, hDs, hn2⟩ := hinv
   refine zj ?_
   refine za ?_
   refine dmv rfl ?_
   refine dmv rfl ?_
   refine de rfl (zaG (i := 0) (es := D) zaN rfl rfl ?_)
   refine dq (zS rfl rfl) ?_
   refine dn ?_
   refine zi rfl (fun h3 => ?_) (fun h4 => ?_)
   ·try simp at h3
    obtain ⟨x, hx⟩ : ∃ x, D[j]? = some x := ⟨_, List.getElem?_eq_getElem (by omega)⟩
    refine zm ?_
    refine zh ?_
    refine zj ?_
    refine zq ?_
    refine za ?_
    refine dmv rfl ?_
    refine dmv rfl ?_
    refine dq (zaC (j := j) zaN zaj rfl rfl rfl (by omega)) ?_
    refine de rfl (zb0 (i := 0) (j := j) (f := zaY) (es := D) zaj rfl rfl rfl hx rfl rfl rfl ?_)
    refine de rfl (zY zaj rfl fun b7 => ?_)
    refine de0 (zad zaj rfl rfl rfl rfl rfl ?_)
    refine dn ?_
    refine zL (Ghost.fc0 7 rfl) ?_
    refine za ?_
    refine dmv rfl ?_
    refine dq (zH zaj rfl rfl rfl rfl) ?_
    refine de rfl (EOp.perm (M := [.cells bn [.int .i64 (n2 : Int)]] ++ [.arr (.slice (some ⟨ob, off, none⟩) l.length cap) 2 (D.map zaY)]) (List.Perm.swap _ _ _) (EOp.mono ?_ ((zdj hca rfl rfl (WeakL.refl _) (hp _ n2 (by omega))).frame [.arr (.slice (some ⟨ob, off, none⟩) l.length cap) 2 (D.map zaY)])))
    rintro _ _ ⟨N, rfl, y28, n28, rfl, hn28, rfl⟩
    refine dq (zac rfl) ?_
    refine dn ?_
    refine zi rfl (fun h5 => ?_) (fun h6 => ?_)
    ·try simp at h5
     refine za ?_
     refine dmv rfl ?_
     refine dmv rfl ?_
     refine dq (zH zaj rfl rfl rfl rfl) ?_
     refine dq (zaC (j := i) zaN zaj rfl rfl rfl (by omega)) ?_
     refine de0 (zdV (i := 1) (j := i) (y := D[i]'(by omega)) (y' := x) zaj rfl rfl rfl rfl (List.getElem?_eq_getElem _) rfl rfl rfl ?_)
     refine dn ?_
     refine zC ?_
     refine dmv rfl ?_
     refine dq (zB rfl rfl (by omega) (by omega)) ?_
     refine das rfl ?_
     refine dn ?_
     refine zy ?_
     refine zh ?_
     refine zC ?_
     refine dmv rfl ?_
     refine dq (zB rfl rfl (by omega) (by omega)) ?_
     refine das rfl ?_
     refine dn ?_
     exact ⟨j + 1, i + 1, D.set i x, n28, ⟨⟨by omega, by omega⟩, by simpa using hDl, zft (P := fun x => x ∈ l) hDs (hDs x (List.mem_of_getElem? hx)), by omega⟩, by dsimp only; omega, ⟨rfl, rfl, trivial⟩, (by repeat (first | exact zt | refine zw rfl ?_ | refine zu rfl rfl ?_)), by dsimp only; rw [List.map_set]; exact List.Perm.swap _ _ _⟩
    ·try simp at h6
     refine zm ?_
     refine zy ?_
     refine zh ?_
     refine zC ?_
     refine dmv rfl ?_
     refine dq (zB rfl rfl (by omega) (by omega)) ?_
     refine das rfl ?_
     refine dn ?_
     exact ⟨j + 1, i, D, n28, ⟨⟨by omega, by omega⟩, hDl, hDs, by omega⟩, by dsimp only; omega, ⟨rfl, rfl, trivial⟩, (by repeat (first | exact zt | refine zw rfl ?_ | refine zu rfl rfl ?_)), List.Perm.swap _ _ _⟩
   ·try simp at h4
    refine zX ?_
    refine z7 ?_
    refine zil ?_
    refine zO ?_
    refine zh ?_
    refine za ?_
    refine dmv rfl ?_
    refine dmv rfl ?_
    refine dq (zqJ (l := i) zaN zaj rfl ⟨_, _, rfl, rfl⟩ rfl (by omega) (by omega) hcap) ?_
    refine de0 (znM (i := 0) (m := i) i zaN zaj rfl rfl rfl (zrv (by omega) hcap) rfl (by omega) (Nat.le_refl _) (by rw [List.length_map, hDl]; omega) ?_)
    refine dn ?_
    refine za ?_
    refine dmv rfl ?_
    refine dmv rfl ?_
    refine dq (zqe (h := i) zaN zaj rfl ⟨_, _, rfl, rfl⟩ (by omega)) ?_
    refine das rfl ?_
    refine dn ?_
    refine zl ?_
    first
    | exact zbb rfl ⟨_, l, n10, rfl, LeftOf.refl l, by omega, rfl⟩
    | (refine zbb rfl ⟨_, D.take i, n2, rfl, LeftOf.take i hDl hDs, by omega, ?_⟩
       rw [List.map_take]; rfl)

/-- benchwarmer/benchmake.Key -/
theorem zlz [Tracks] {s : Str} (hs : s.length ≤ 1000000) : ConP Tryz.prog 39 [.str s] (.bool (key s)) := by
 refine Con.of_body Tryz.func39 rfl Tryz.ntmps39 rfl rfl ?_
 refine za ?_
 refine das rfl ?_
 refine dn ?_
 refine za ?_
 refine dmv rfl ?_
 refine dq (zo zlP rfl (WeakL.refl _) (zcA (by first | assumption | omega | (simp; omega) | simp_all))) ?_
 refine das rfl ?_
 refine dn ?_
 refine zl ?_
 refine zD rfl ?_
 rfl

set_option maxHeartbeats 4000000 in
/-- (*benchwarmer/benchmake.Stream).OwnerList -/
theorem zaU [Tracks] {b : Nat} {l : List Int} {a : Nat} {m : MarketS} (ha : a ≤ 700000) (hm : GoodM m) : Con Tryz.prog 7 [pAt b, zaM m] [St b l a] (fun x M' => ∃ k a', x = za8 k ∧ GoodOw k ∧ a' ≤ a + 40 ∧ M' = [St b l a']) := by
 have hm0 := hm.pos
 have hm5 := hm.len
 refine Con.of_body Tryz.func7 rfl Tryz.ntmps7 rfl rfl ?_
 refine za ?_
 refine dq (zas rfl rfl) ?_
 refine das rfl ?_
 refine dn ?_
 refine za ?_
 refine das rfl ?_
 refine dn ?_
 refine zj ?_
 refine za ?_
 refine dmv rfl ?_
 first
 | refine de rfl (zd (i := 0) zbT rfl (WeakL.refl _) rfl (zI (by first | assumption | omega | (simp; omega) | simp_all) (by first | assumption | omega | (simp; omega) | simp_all) (by first | assumption | omega | (simp; omega) | simp_all) (by first | assumption | omega | (simp; omega) | simp_all)) ?_)
 | refine de rfl (zd (i := 1) zbT rfl (WeakL.refl _) rfl (zI (by first | assumption | omega | (simp; omega) | simp_all) (by first | assumption | omega | (simp; omega) | simp_all) (by first | assumption | omega | (simp; omega) | simp_all) (by first | assumption | omega | (simp; omega) | simp_all)) ?_)
 | refine de rfl (zd (i := 2) zbT rfl (WeakL.refl _) rfl (zI (by first | assumption | omega | (simp; omega) | simp_all) (by first | assumption | omega | (simp; omega) | simp_all) (by first | assumption | omega | (simp; omega) | simp_all) (by first | assumption | omega | (simp; omega) | simp_all)) ?_)
 | refine de rfl (zd (i := 3) zbT rfl (WeakL.refl _) rfl (zI (by first | assumption | omega | (simp; omega) | simp_all) (by first | assumption | omega | (simp; omega) | simp_all) (by first | assumption | omega | (simp; omega) | simp_all) (by first | assumption | omega | (simp; omega) | simp_all)) ?_)
 rintro _ _ ⟨y12, rfl, hy12, rfl⟩
 refine dmv rfl ?_
 refine dn ?_
 refine zL (Ghost.perm (M' := [St b l (a + 1)]) (List.Perm.refl _)) ?_
 refine zL (Ghost.arr_nil 2) ?_
 refine zq ?_
 refine zbi [5, 6, 13, 14, 15, 16, 17, 18, 19, 20, 21, 22, 23, 24, 25, 26, 27] (fun (k : Nat) (q : GL OwnerS) => [(13, .int .i64 (k : Int)), (5, .raw q.u)]) (fun (k : Nat) (q : GL OwnerS) => [St b l q.a, .arr q.u 2 (q.out.map zaY)]) (fun (k : Nat) (q : GL OwnerS) => (k : Int) ≤ y12 ∧ GLok zjM k (a + 1 + k) q) (fun (k : Nat) (q : GL OwnerS) => y12.toNat - k) (0) (⟨.slice none 0 0, [], a + 1⟩) ?_ ?_ ?_ ?_
 ·exact ⟨by omega, ⟨by simp, by simp, by dsimp only; omega⟩⟩
 ·exact ⟨rfl, rfl, trivial⟩
 ·repeat (first | exact List.Perm.nil | refine zQ 0 rfl ?_ | refine zQ 1 rfl ?_ | refine zQ 2 rfl ?_ | refine zQ 3 rfl ?_ | (refine zM 0 rfl ?hq ?_; (case hq => simp [zZ, zn]; done)) | (refine zM 1 rfl ?hq ?_; (case hq => simp [zZ, zn]; done)) | (refine zM 2 rfl ?hq ?_; (case hq => simp [zZ, zn]; done)) | (refine zM 3 rfl ?hq ?_; (case hq => simp [zZ, zn]; done)) | fail)
 ·intro k q hinv
  obtain ⟨hk, hq⟩ := hinv
  obtain ⟨u, out, a1⟩ := q
  obtain ⟨g1, g2, g3⟩ := id hq
  dsimp only at g1 g2 g3
  refine za ?_
  refine dq (zS rfl rfl) ?_
  refine dn ?_
  refine zj ?_
  refine zi rfl (fun h1 => ?_) (fun h2 => ?_)
  ·try simp at h1
   refine zm ?_
   refine zh ?_
   refine zj ?_
   refine zq ?_
   refine za ?_
   refine dmv rfl ?_
   refine das rfl ?_
   refine dn ?_
   refine zbU (fun _ => True) [] mixed ?_
   refine ahp 0 rfl rfl (by kernel_rfl) (by kernel_rfl) (zf rfl) ?_
   refine ahp 1 rfl rfl (by kernel_rfl) (by kernel_rfl) (zf rfl) ?_
   refine ahp 2 rfl rfl (by kernel_rfl) (by kernel_rfl) (zo ca36 rfl (WeakL.refl _) (zhw (i := k) (by omega))) ?_
   have hdl := zph (i := k) (by omega)
   refine ahp 3 rfl rfl (by kernel_rfl) (by kernel_rfl) (zkx rfl rfl (by simp; omega)) ?_
   refine ahp 4 rfl rfl (by kernel_rfl) (by kernel_rfl) (zf rfl) ?_
   refine ahp 5 rfl rfl (by kernel_rfl) (by kernel_rfl) ((by first | exact zb zT rfl zP (by decide) rfl | exact ze zT rfl zP (by decide) rfl)) ?_
   refine ahp 6 rfl rfl (by kernel_rfl) (by kernel_rfl) (zg zP rfl rfl rfl) ?_
   refine ahe 7 rfl (by kernel_rfl) ?_
   first
   | refine zv rfl (zd (i := 0) zaH rfl (WeakL.refl _) rfl (zk (by first | assumption | omega | (simp; omega) | simp_all) (by first | assumption | omega | (simp; omega) | simp_all) (by first | assumption | omega | (simp; omega) | simp_all)) ?_)
   | refine zv rfl (zd (i := 1) zaH rfl (WeakL.refl _) rfl (zk (by first | assumption | omega | (simp; omega) | simp_all) (by first | assumption | omega | (simp; omega) | simp_all) (by first | assumption | omega | (simp; omega) | simp_all)) ?_)
   | refine zv rfl (zd (i := 2) zaH rfl (WeakL.refl _) rfl (zk (by first | assumption | omega | (simp; omega) | simp_all) (by first | assumption | omega | (simp; omega) | simp_all) (by first | assumption | omega | (simp; omega) | simp_all)) ?_)
   | refine zv rfl (zd (i := 3) zaH rfl (WeakL.refl _) rfl (zk (by first | assumption | omega | (simp; omega) | simp_all) (by first | assumption | omega | (simp; omega) | simp_all) (by first | assumption | omega | (simp; omega) | simp_all)) ?_)
   rintro _ _ ⟨y23, rfl, hy23, rfl⟩
   refine ⟨fun _ => .inl trivial, ?_⟩
   refine ahp 8 rfl rfl (by kernel_rfl) (by kernel_rfl) (zaB (cs := [_, _]) zaj pl62 rfl) ?_
   refine ahp 9 rfl rfl (by kernel_rfl) (by kernel_rfl) (zG (hs := [_]) zaN zaj rfl rfl (by decide) (by decide) rfl) ?_
   refine ahe 10 rfl (by kernel_rfl) ?_
   first
   | refine zv rfl (zay (i := 0) zaN zaj rfl rfl rfl rfl rfl (by simp [zbe, zn]) (by first | omega | (simp; omega)) fun v26 => ?_)
   | refine zv rfl (zay (i := 1) zaN zaj rfl rfl rfl rfl rfl (by simp [zbe, zn]) (by first | omega | (simp; omega)) fun v26 => ?_)
   | refine zv rfl (zay (i := 2) zaN zaj rfl rfl rfl rfl rfl (by simp [zbe, zn]) (by first | omega | (simp; omega)) fun v26 => ?_)
   | refine zv rfl (zay (i := 3) zaN zaj rfl rfl rfl rfl rfl (by simp [zbe, zn]) (by first | omega | (simp; omega)) fun v26 => ?_)
   refine ⟨fun _ => .inl trivial, ?_⟩
   refine ahp 11 rfl rfl (by kernel_rfl) (by kernel_rfl) (zar rfl) ?_
   refine ahz (by kernel_rfl) ?_
   refine zy ?_
   refine zh ?_
   refine zC ?_
   refine dq (zB rfl rfl (by omega) (by omega)) ?_
   refine dmv rfl ?_
   refine dn ?_
   exact ⟨k + 1, ⟨v26, out ++ [⟨112 :: Lib.decDigits k, y23⟩], a1 + 1⟩, ⟨by omega, hq.add (x := (⟨112 :: Lib.decDigits k, y23⟩ : OwnerS)) ⟨zgf (n := 11) (by simp; omega) (by decide), zgf (hm.sh y23 hy23) (by decide)⟩ (by omega)⟩, by dsimp only; omega, ⟨rfl, rfl, trivial⟩, (by repeat (first | exact zt | refine zw rfl ?_ | refine zu rfl rfl ?_)), by repeat (first | exact List.Perm.nil | refine zQ 0 rfl ?_ | refine zQ 1 rfl ?_ | refine zQ 2 rfl ?_ | refine zQ 3 rfl ?_ | (refine zM 0 rfl ?hq ?_; (case hq => simp [zZ, zn]; done)) | (refine zM 1 rfl ?hq ?_; (case hq => simp [zZ, zn]; done)) | (refine zM 2 rfl ?hq ?_; (case hq => simp [zZ, zn]; done)) | (refine zM 3 rfl ?hq ?_; (case hq => simp [zZ, zn]; done)) | fail)⟩
  ·try simp at h2
   refine zX ?_
   refine z7 ?_
   refine zbr ?_
   refine zO ?_
   refine zh ?_
   refine zj ?_
   refine za ?_
   refine dq ((by first | exact zb zT rfl zP (by decide) rfl | exact ze zT rfl zP (by decide) rfl)) ?_
   refine dq (zg zP rfl rfl rfl) ?_
   refine dq (zK zP rfl) ?_
   refine dmv rfl ?_
   refine dn ?_
   refine zq ?_
   refine zfO [5, 8, 9, 31, 32, 33, 34, 35, 36, 37, 38, 39, 40, 41, 42, 43, 44, 45, 46, 47, 48, 49, 50, 51, 52, 53, 54, 55, 56] (fun (k : Nat) (u : Value) (out : List OwnerS) => [(31, .int .i64 k), (5, .raw u)]) (fun (k : Nat) (u : Value) (out : List OwnerS) => [St b l a1, .arr u 2 (out.map zaY)]) (fun (k : Nat) (u : Value) (out : List OwnerS) => k ≤ m.Teams.length ∧ (out.length ≤ 8 + k ∧ (∀ x ∈ out, zjM x))) (fun (k : Nat) (u : Value) (out : List OwnerS) => m.Teams.length - k) (0) (u) (out) ?_ ?_ ?_ ?_
   ·exact ⟨Nat.zero_le _, by omega, g2⟩
   ·exact ⟨rfl, rfl, trivial⟩
   ·repeat (first | exact List.Perm.nil | refine zQ 0 rfl ?_ | refine zQ 1 rfl ?_ | refine zQ 2 rfl ?_ | refine zQ 3 rfl ?_ | (refine zM 0 rfl ?hq ?_; (case hq => simp [zZ, zn]; done)) | (refine zM 1 rfl ?hq ?_; (case hq => simp [zZ, zn]; done)) | (refine zM 2 rfl ?hq ?_; (case hq => simp [zZ, zn]; done)) | (refine zM 3 rfl ?hq ?_; (case hq => simp [zZ, zn]; done)) | fail)
   ·intro k u out hinv
    obtain ⟨hk, g1, g2⟩ := hinv
    refine za ?_
    refine dq (zS rfl rfl) ?_
    refine dn ?_
    refine zj ?_
    refine zi rfl (fun h3 => ?_) (fun h4 => ?_)
    ·try simp at h3
     obtain ⟨x, hx⟩ : ∃ x, m.Teams[k]? = some x := ⟨_, List.getElem?_eq_getElem h3⟩
     have hdx := zU hx
     refine zm ?_
     refine zh ?_
     refine zj ?_
     refine zq ?_
     refine za ?_
     refine dq (zW zP ty9 rfl rfl rfl (by first | assumption | simp_all)) ?_
     refine dq (zg ty9 rfl rfl rfl) ?_
     refine de rfl (zY ty9 rfl fun b8 => ?_)
     refine de0 (zad ty9 rfl rfl rfl rfl rfl ?_)
     refine dn ?_
     refine zL (Ghost.fc0 8 rfl) ?_
     refine za ?_
     refine de rfl (zY ty3 rfl fun b9 => ?_)
     first
     | refine de0 (zz (i := 0) ty3 rfl rfl rfl rfl rfl (Nat.le_of_ble_eq_true rfl) ?_)
     | refine de0 (zz (i := 1) ty3 rfl rfl rfl rfl rfl (Nat.le_of_ble_eq_true rfl) ?_)
     | refine de0 (zz (i := 2) ty3 rfl rfl rfl rfl rfl (Nat.le_of_ble_eq_true rfl) ?_)
     | refine de0 (zz (i := 3) ty3 rfl rfl rfl rfl rfl (Nat.le_of_ble_eq_true rfl) ?_)
     refine dn ?_
     refine za ?_
     refine dmv rfl ?_
     refine dq (zfl rfl rfl) ?_
     refine de rfl (zbl (M1 := [.arr u 2 (out.map zaY), .cells b9 [.int .i64 ((0 : Nat) : Int)]]) (R := [St b l a1]) ca37 rfl (WeakL.refl _) (by repeat (first | exact List.Perm.nil | refine zQ 0 rfl ?_ | refine zQ 1 rfl ?_ | refine zQ 2 rfl ?_ | refine zQ 3 rfl ?_ | (refine zM 0 rfl ?hq ?_; (case hq => simp [zZ, zn]; done)) | (refine zM 1 rfl ?hq ?_; (case hq => simp [zZ, zn]; done)) | (refine zM 2 rfl ?hq ?_; (case hq => simp [zZ, zn]; done)) | (refine zM 3 rfl ?hq ?_; (case hq => simp [zZ, zn]; done)) | fail)) (zhN (l := out) (n := 0) (caps := [.vptr [.str x] 0, pAt b9, .vptr (zn (zaM m)) 0]) ca38 (fun x n hn => zff hn) (by omega) (by omega)) ?_)
     rintro _ _ ⟨u37, out2, n2, rfl, hlo, hn2, rfl⟩
     have hol := hlo.len
     refine das rfl ?_
     refine dn ?_
     refine zL (Ghost.fc 9 (i := 1) rfl rfl) ?_
     refine za ?_
     refine dq (zg ty3 rfl rfl rfl) ?_
     refine dq (zau rfl rfl) ?_
     refine dmv rfl ?_
     refine dg rfl rfl (fun hc => ⟨_, OpenTo.refl _, (by first | exact zb zT rfl ty3 (by decide) rfl | exact ze zT rfl ty3 (by decide) rfl)⟩) ?_
     refine dg rfl rfl (fun hc => ⟨_, OpenTo.upd (t := 41) rfl (by first | exact hc | simp_all) (OpenTo.refl _), zg ty3 rfl rfl rfl⟩) ?_
     refine dg rfl rfl (fun hc => ⟨_, OpenTo.upd (t := 42) rfl (by first | exact hc | simp_all) (OpenTo.refl _), zau rfl rfl⟩) ?_
     refine dq (zA rfl (.inr ⟨_, rfl, fun h => by simp_all⟩) (.inl rfl)) ?_
     refine dmv rfl ?_
     refine dg rfl rfl (fun hc => ⟨_, OpenTo.refl _, zg ty9 rfl rfl rfl⟩) ?_
     refine dg rfl rfl (fun hc => by have hq := hc; (try simp at hq); exact ⟨_, OpenTo.upd (t := 46) rfl (by first | exact hc | simp_all) (OpenTo.refl _), zo ca39 rfl (WeakL.refl _) (zlz (s := x) (by have := hm.sh x (List.mem_of_getElem? hx); omega))⟩) ?_
     refine dq (zA rfl (.inr ⟨_, rfl, fun h => by simp_all⟩) (.inl rfl)) ?_
     refine dn ?_
     refine zi rfl (fun h5 => ?_) (fun h6 => ?_)
     ·try simp at h5
      refine zC ?_
      refine dmv rfl ?_
      refine dq (zg ty9 rfl rfl rfl) ?_
      have hxl := hm.sh x (List.mem_of_getElem? hx)
      refine dq (zkx rfl rfl (by simp; omega)) ?_
      refine dq (zg ty9 rfl rfl rfl) ?_
      refine dq (zaB (cs := [_, _]) zaj pl62 rfl) ?_
      refine dq (zG (hs := [_]) zaN zaj rfl rfl (by decide) (by decide) rfl) ?_
      first
      | refine de rfl (zay (i := 0) zaN zaj rfl rfl rfl rfl rfl (by simp [zbe, zn]) (by first | omega | (simp; omega)) fun v55 => ?_)
      | refine de rfl (zay (i := 1) zaN zaj rfl rfl rfl rfl rfl (by simp [zbe, zn]) (by first | omega | (simp; omega)) fun v55 => ?_)
      | refine de rfl (zay (i := 2) zaN zaj rfl rfl rfl rfl rfl (by simp [zbe, zn]) (by first | omega | (simp; omega)) fun v55 => ?_)
      | refine de rfl (zay (i := 3) zaN zaj rfl rfl rfl rfl rfl (by simp [zbe, zn]) (by first | omega | (simp; omega)) fun v55 => ?_)
      refine das rfl ?_
      refine dn ?_
      refine zy ?_
      refine zh ?_
      refine zC ?_
      refine dq (zB rfl rfl (by omega) (by omega)) ?_
      refine dmv rfl ?_
      refine dn ?_
      exact ⟨k + 1, v55, out2 ++ [⟨113 :: x, x⟩], ⟨by omega, by simp; have := hlo.len; omega, fun z hz => by
       rcases List.mem_append.1 hz with hz | hz
       ·exact g2 z (hlo.sub z hz)
       ·rw [List.mem_singleton.1 hz]; exact ⟨zgf (s := 113 :: x) (n := 11) (by simp; omega) (by decide), zgf hxl (by decide)⟩⟩, by dsimp only; omega, ⟨rfl, rfl, trivial⟩, (by repeat (first | exact zt | refine zw rfl ?_ | refine zu rfl rfl ?_)), by repeat (first | exact List.Perm.nil | refine zQ 0 rfl ?_ | refine zQ 1 rfl ?_ | refine zQ 2 rfl ?_ | refine zQ 3 rfl ?_ | (refine zM 0 rfl ?hq ?_; (case hq => simp [zZ, zn]; done)) | (refine zM 1 rfl ?hq ?_; (case hq => simp [zZ, zn]; done)) | (refine zM 2 rfl ?hq ?_; (case hq => simp [zZ, zn]; done)) | (refine zM 3 rfl ?hq ?_; (case hq => simp [zZ, zn]; done)) | fail)⟩
     ·try simp at h6
      refine zm ?_
      refine zy ?_
      refine zh ?_
      refine zC ?_
      refine dq (zB rfl rfl (by omega) (by omega)) ?_
      refine dmv rfl ?_
      refine dn ?_
      exact ⟨k + 1, u37, out2, ⟨by omega, by have := hlo.len; omega, fun z hz => g2 z (hlo.sub z hz)⟩, by dsimp only; omega, ⟨rfl, rfl, trivial⟩, (by repeat (first | exact zt | refine zw rfl ?_ | refine zu rfl rfl ?_)), by repeat (first | exact List.Perm.nil | refine zQ 0 rfl ?_ | refine zQ 1 rfl ?_ | refine zQ 2 rfl ?_ | refine zQ 3 rfl ?_ | (refine zM 0 rfl ?hq ?_; (case hq => simp [zZ, zn]; done)) | (refine zM 1 rfl ?hq ?_; (case hq => simp [zZ, zn]; done)) | (refine zM 2 rfl ?hq ?_; (case hq => simp [zZ, zn]; done)) | (refine zM 3 rfl ?hq ?_; (case hq => simp [zZ, zn]; done)) | fail)⟩
    ·try simp at h4
     have hnk : m.Teams.length ≤ k := by omega
     obtain rfl : k = m.Teams.length := by omega
     refine zX ?_
     refine z7 ?_
     refine zgK ?_
     refine zO ?_
     refine zh ?_
     refine ze3 [10, 57, 58, 59, 60, 61, 62, 63, 64, 65, 66, 67, 68, 69, 70, 71, 72, 73, 74, 75, 76, 77, 78, 79, 80, 81, 82, 83, 84, 85, 86, 87, 88, 89] (fun (q : List OwnerS × Nat) => []) (fun (q : List OwnerS × Nat) => [St b l q.2, .arr u 2 (q.1.map zaY)]) (fun (q : List OwnerS × Nat) => q.1.length ≤ 13 ∧ (∀ x ∈ q.1, zjM x) ∧ q.2 ≤ a + 40) ?_ ?_
     ·skip
      refine za ?_
      refine dmv rfl ?_
      first
      | refine de rfl (zaG (i := 0) zaN rfl rfl ?_)
      | refine de rfl (zaG (i := 1) zaN rfl rfl ?_)
      | refine de rfl (zaG (i := 2) zaN rfl rfl ?_)
      | refine de rfl (zaG (i := 3) zaN rfl rfl ?_)
      refine dq (zae rfl rfl) ?_
      refine dmv rfl ?_
      refine dg rfl rfl (fun hc => ⟨_, OpenTo.refl _, zf rfl⟩) ?_
      refine dgx (fun x M' => ∃ (y : Bool) (a3 : Nat), x = .bool y ∧ a3 ≤ a1 + 1 ∧ M' = [St b l a3, .arr u 2 (out.map zaY)]) rfl rfl (fun hc => ⟨_, false, a1, rfl, by omega, rfl⟩) (fun hc => ⟨_, OpenTo.upd (t := 61) rfl (by first | exact hc | simp_all) (OpenTo.refl _), zd (i := 0) zeE rfl (WeakL.refl _) rfl (zal (a := a1) (by omega) (by omega)) (fun h M' hh => by
       obtain ⟨y, h1, h2⟩ := hh
       exact ⟨y, a1 + 1, h1, by omega, by rw [h2]; rfl⟩)⟩) ?_
      rintro _ _ ⟨y, a3, rfl, ha3, rfl⟩
      refine dq (zA rfl (.inr ⟨_, rfl, fun h => by simp_all⟩) (.inl rfl)) ?_
      refine dn ?_
      refine zi rfl (fun h7 => ?_) (fun h8 => ?_)
      ·try simp at h7
       have ho0 : 0 < out.length := by simp_all
       refine zdc (i := 1) rfl (fun h0 he => ?_) (fun ob off cap hv hcap => ?_)
       ·exfalso; have := congrArg List.length he; simp at this; subst this; simp at ho0
       subst hv
       refine za ?_
       refine dmv rfl ?_
       refine dmv rfl ?_
       refine dmv rfl ?_
       first
       | refine de rfl (zaG (i := 0) zaN rfl rfl ?_)
       | refine de rfl (zaG (i := 1) zaN rfl rfl ?_)
       | refine de rfl (zaG (i := 2) zaN rfl rfl ?_)
       | refine de rfl (zaG (i := 3) zaN rfl rfl ?_)
       first
       | refine de rfl (zd (i := 0) zdA rfl (WeakL.refl _) rfl (zaa (by first | assumption | omega | (simp; omega) | simp_all) (by first | assumption | omega | (simp; omega) | simp_all)) ?_)
       | refine de rfl (zd (i := 1) zdA rfl (WeakL.refl _) rfl (zaa (by first | assumption | omega | (simp; omega) | simp_all) (by first | assumption | omega | (simp; omega) | simp_all)) ?_)
       | refine de rfl (zd (i := 2) zdA rfl (WeakL.refl _) rfl (zaa (by first | assumption | omega | (simp; omega) | simp_all) (by first | assumption | omega | (simp; omega) | simp_all)) ?_)
       | refine de rfl (zd (i := 3) zdA rfl (WeakL.refl _) rfl (zaa (by first | assumption | omega | (simp; omega) | simp_all) (by first | assumption | omega | (simp; omega) | simp_all)) ?_)
       rintro _ _ ⟨y68, rfl, hy68, rfl⟩
       refine dq (zaC (j := y68) zaN zaj rfl rfl rfl (by simp; omega)) ?_
       refine das rfl ?_
       refine dn ?_
       obtain ⟨x, hx⟩ : ∃ x, out[y68]? = some x := ⟨_, List.getElem?_eq_getElem (by omega)⟩
       refine zbU (fun M => ∃ i : Nat, M[i]? = some (.arr (.slice (some ⟨ob, off, none⟩) (out.map zaY).length cap) 2 (out.map zaY))) [6, 13] mixed ?_
       refine ahp 0 rfl rfl (by kernel_rfl) (by kernel_rfl) (zf rfl) ?_
       refine ahp 1 rfl rfl (by kernel_rfl) (by kernel_rfl) (zf rfl) ?_
       refine ahp 2 rfl rfl (by kernel_rfl) (by kernel_rfl) (zf rfl) ?_
       refine ahp 3 rfl rfl (by kernel_rfl) (by kernel_rfl) (zf rfl) ?_
       refine ahp 4 rfl rfl (by kernel_rfl) (by kernel_rfl) ((by first | exact zx rfl | exact zp rfl)) ?_
       refine ahp 5 rfl rfl (by kernel_rfl) (by kernel_rfl) ((by first | exact zb zaj rfl ty9 (by decide) rfl | exact ze zaj rfl ty9 (by decide) rfl)) ?_
       refine ahl 6 rfl rfl (by kernel_rfl) (by kernel_rfl) (by simp) ⟨1, rfl⟩ (fun M hM => by obtain ⟨i, hi⟩ := hM; exact za7 (i := i) (j := y68) 0 ty9 rfl (by omega) hi hx rfl rfl ⟨rfl, rfl⟩) ?_
       refine ahp 7 rfl rfl (by kernel_rfl) (by kernel_rfl) (zG (hs := [_, _, _]) zP ty9 rfl rfl (by decide) (by decide) rfl) ?_
       refine ahp 9 rfl rfl (by kernel_rfl) (by kernel_rfl) (zf rfl) ?_
       refine ahp 10 rfl rfl (by kernel_rfl) (by kernel_rfl) (zf rfl) ?_
       refine ahp 11 rfl rfl (by kernel_rfl) (by kernel_rfl) ((by first | exact zx rfl | exact zp rfl)) ?_
       refine ahp 12 rfl rfl (by kernel_rfl) (by kernel_rfl) ((by first | exact zb zaj rfl ty9 (by decide) rfl | exact ze zaj rfl ty9 (by decide) rfl)) ?_
       refine ahl 13 rfl rfl (by kernel_rfl) (by kernel_rfl) (by simp) ⟨1, rfl⟩ (fun M hM => by obtain ⟨i, hi⟩ := hM; exact za7 (i := i) (j := y68) 1 ty9 rfl (by omega) hi hx rfl rfl ⟨rfl, rfl⟩) ?_
       refine ahp 14 rfl rfl (by kernel_rfl) (by kernel_rfl) (zG (hs := [_, _]) zP ty9 rfl rfl (by decide) (by decide) rfl) ?_
       refine ahe 8 rfl (by kernel_rfl) ?_
       first
       | refine zv rfl (zd (i := 0) zaH rfl (WeakL.refl _) rfl (zk (L := [_, _, _]) (by first | assumption | omega | (simp; omega) | simp_all) (by first | assumption | omega | (simp; omega) | simp_all) (by first | assumption | omega | (simp; omega) | simp_all)) ?_)
       | refine zv rfl (zd (i := 1) zaH rfl (WeakL.refl _) rfl (zk (L := [_, _, _]) (by first | assumption | omega | (simp; omega) | simp_all) (by first | assumption | omega | (simp; omega) | simp_all) (by first | assumption | omega | (simp; omega) | simp_all)) ?_)
       | refine zv rfl (zd (i := 2) zaH rfl (WeakL.refl _) rfl (zk (L := [_, _, _]) (by first | assumption | omega | (simp; omega) | simp_all) (by first | assumption | omega | (simp; omega) | simp_all) (by first | assumption | omega | (simp; omega) | simp_all)) ?_)
       | refine zv rfl (zd (i := 3) zaH rfl (WeakL.refl _) rfl (zk (L := [_, _, _]) (by first | assumption | omega | (simp; omega) | simp_all) (by first | assumption | omega | (simp; omega) | simp_all) (by first | assumption | omega | (simp; omega) | simp_all)) ?_)
       rintro _ _ ⟨y78, rfl, hy78, rfl⟩
       refine ⟨fun _ => by first | exact .inl ⟨0, rfl⟩ | exact .inl ⟨1, rfl⟩ | exact .inl ⟨2, rfl⟩ | exact .inr (by simp [zaO, Region.binds]), ?_⟩
       refine ahe 15 rfl (by kernel_rfl) ?_
       first
       | refine zv rfl (zd (i := 0) zaH rfl (WeakL.refl _) rfl (zk (L := [_, _]) (by first | assumption | omega | (simp; omega) | simp_all) (by first | assumption | omega | (simp; omega) | simp_all) (by first | assumption | omega | (simp; omega) | simp_all)) ?_)
       | refine zv rfl (zd (i := 1) zaH rfl (WeakL.refl _) rfl (zk (L := [_, _]) (by first | assumption | omega | (simp; omega) | simp_all) (by first | assumption | omega | (simp; omega) | simp_all) (by first | assumption | omega | (simp; omega) | simp_all)) ?_)
       | refine zv rfl (zd (i := 2) zaH rfl (WeakL.refl _) rfl (zk (L := [_, _]) (by first | assumption | omega | (simp; omega) | simp_all) (by first | assumption | omega | (simp; omega) | simp_all) (by first | assumption | omega | (simp; omega) | simp_all)) ?_)
       | refine zv rfl (zd (i := 3) zaH rfl (WeakL.refl _) rfl (zk (L := [_, _]) (by first | assumption | omega | (simp; omega) | simp_all) (by first | assumption | omega | (simp; omega) | simp_all) (by first | assumption | omega | (simp; omega) | simp_all)) ?_)
       rintro _ _ ⟨y85, rfl, hy85, rfl⟩
       refine ⟨fun _ => by first | exact .inl ⟨0, rfl⟩ | exact .inl ⟨1, rfl⟩ | exact .inl ⟨2, rfl⟩ | exact .inr (by simp [zaO, Region.binds]), ?_⟩
       refine ahp 16 rfl rfl (by kernel_rfl) (by kernel_rfl) ((by first | exact zx rfl | exact zp rfl)) ?_
       refine ahp 17 rfl rfl (by kernel_rfl) (by kernel_rfl) ((by first | exact zb zaj rfl ty9 (by decide) rfl | exact ze zaj rfl ty9 (by decide) rfl)) ?_
       refine ahe 18 rfl (by kernel_rfl) ?_
       refine zab (zaQ (i := 1) (j := y68) (f := 0) (y := zaY x) (y' := zaY ⟨y78, x.Team⟩) ty9 rfl (by omega) rfl rfl (zcf hx) rfl rfl (by simp [zn]) rfl ?_)
       refine ⟨fun _ => .inr (by simp [zaO, Region.binds]), ?_⟩
       refine ahp 19 rfl rfl (by kernel_rfl) (by kernel_rfl) ((by first | exact zx rfl | exact zp rfl)) ?_
       refine ahp 20 rfl rfl (by kernel_rfl) (by kernel_rfl) ((by first | exact zb zaj rfl ty9 (by decide) rfl | exact ze zaj rfl ty9 (by decide) rfl)) ?_
       refine ahe 21 rfl (by kernel_rfl) ?_
       refine zab (zaQ (i := 1) (j := y68) (f := 1) (y := zaY ⟨y78, x.Team⟩) (y' := zaY ⟨y78, y85⟩) ty9 rfl (by omega) rfl rfl (zcc (zcf hx)) rfl rfl (by simp [zn]) rfl ?_)
       refine ⟨fun _ => .inr (by simp [zaO, Region.binds]), ?_⟩
       refine ahz (by kernel_rfl) ?_
       exact ⟨(out.set y68 ⟨y78, y85⟩, a3 + 3), ⟨by simp; omega, zft (P := zjM) g2 ⟨by simp at hy78; rcases hy78 with rfl | rfl | rfl; exact (g2 x (List.mem_of_getElem? hx)).1; exact zk6; (unfold Sh; simp), by simp at hy85; rcases hy85 with rfl | rfl; exact (g2 x (List.mem_of_getElem? hx)).2; (unfold Sh; simp)⟩, by dsimp only; omega⟩, trivial, (by repeat (first | exact zt | refine zw rfl ?_ | refine zu rfl rfl ?_)), by repeat (first | exact List.Perm.nil | refine zQ 0 rfl ?_ | refine zQ 1 rfl ?_ | refine zQ 2 rfl ?_ | refine zQ 3 rfl ?_ | (refine zM 0 rfl ?hq ?_; (case hq => simp [zZ, zn]; done)) | (refine zM 1 rfl ?hq ?_; (case hq => simp [zZ, zn]; done)) | (refine zM 2 rfl ?hq ?_; (case hq => simp [zZ, zn]; done)) | (refine zM 3 rfl ?hq ?_; (case hq => simp [zZ, zn]; done)) | fail)⟩
      ·try simp at h8
       refine zm ?_
       exact ⟨(out, a3), ⟨by dsimp only; omega, g2, by dsimp only; omega⟩, trivial, (by repeat (first | exact zt | refine zw rfl ?_ | refine zu rfl rfl ?_)), by repeat (first | exact List.Perm.nil | refine zQ 0 rfl ?_ | refine zQ 1 rfl ?_ | refine zQ 2 rfl ?_ | refine zQ 3 rfl ?_ | (refine zM 0 rfl ?hq ?_; (case hq => simp [zZ, zn]; done)) | (refine zM 1 rfl ?hq ?_; (case hq => simp [zZ, zn]; done)) | (refine zM 2 rfl ?hq ?_; (case hq => simp [zZ, zn]; done)) | (refine zM 3 rfl ?hq ?_; (case hq => simp [zZ, zn]; done)) | fail)⟩
     ·intro q hq3
      obtain ⟨k1, a4⟩ := q
      dsimp only at hq3
      obtain ⟨q1, q2, q3⟩ := hq3
      refine za ?_
      refine dmv rfl ?_
      refine das rfl ?_
      refine dn ?_
      refine zl ?_
      refine zbE (Ghost.fa 4 (i := 1) rfl rfl) rfl ⟨k1, a4, rfl, ⟨q1, q2⟩, by omega, rfl⟩
end
section
open Go.HL
set_option maxHeartbeats 1000000 in
/-- slices.insertionSortCmpFunc[benchwarmer/api.Give] -/
theorem zd1 [Tracks] {l : List GiveS} {v : Value} {fid : FuncId} {caps : List HVal} {c : GiveS → GiveS → Int} {n : Int} (hca : Callable Tryz.prog fid) (hp : ∀ x y, ConP Tryz.prog fid ([za6 x, za6 y] ++ caps) (.int .i64 (c x y))) (hn : n = l.length) (hl : l.length ≤ 1000000) : Con Tryz.prog 114 [.raw v, .int .i64 0, .int .i64 n, .fn (.func fid) [] caps] [.arr v 3 (l.map za6)] (fun x M' => x = .tup [] ∧ M' = [.arr v 3 ((zbf c l).map za6)]) := by
 subst hn
 refine Con.of_body Tryz.func114 rfl Tryz.ntmps114 rfl rfl ?_
 refine za ?_
 refine dmv rfl ?_
 refine dq (zB rfl rfl (by omega) (by omega)) ?_
 refine das rfl ?_
 refine dn ?_
 refine zq ?_
 refine zak [8, 9, 12, 13, 14, 15, 16, 17, 18, 19, 20, 21, 22, 23, 24, 25, 26, 27, 28, 29, 30, 31, 32, 33, 34, 35, 36, 37, 38, 39, 40, 41, 42, 43, 44, 45, 46, 47, 48, 49, 50, 51, 52] (fun (k : Nat) => [(8, .int .i64 (k : Int))]) (fun (k : Nat) => [.arr v 3 ((zbf c (l.take k) ++ l.drop k).map za6)]) (fun (k : Nat) => 1 ≤ k) (fun (k : Nat) => l.length - k) (1) ?_ ?_ ?_ ?_
 ·exact Nat.le_refl _
 ·exact ⟨rfl, trivial⟩
 ·exact zR (by rw [zj6])
 ·intro k hk
  refine zj ?_
  refine za ?_
  refine dmv rfl ?_
  refine dmv rfl ?_
  refine dq (zS rfl rfl) ?_
  refine dn ?_
  refine zi rfl (fun h1 => ?_) (fun h2 => ?_)
  ·try simp at h1
   obtain ⟨x, hx⟩ : ∃ x, l[k]? = some x := ⟨_, List.getElem?_eq_getElem (by omega)⟩
   refine zdc (i := 0) rfl (fun h0 he => ?_) (fun b off cap hv hcap => ?_)
   ·exfalso; have := congrArg List.length he; simp [zcw] at this; omega
   rw [show ((zbf c (l.take k) ++ l.drop k).map za6).length = l.length by simp [zcw]; omega] at hv
   subst hv
   refine zm ?_
   refine zh ?_
   refine zj ?_
   refine zq ?_
   refine za ?_
   refine dmv rfl ?_
   refine das rfl ?_
   refine dn ?_
   refine zq ?_
   refine zbi [9, 18, 19, 20, 21, 22, 23, 24, 25, 26, 27, 28, 29, 30, 31, 32, 33, 34, 35, 36, 37, 38, 39, 40, 41, 42, 43, 44, 45, 46, 47, 48, 49, 50, 51, 52] (fun (A : List GiveS) (B : List GiveS) => [(9, .int .i64 (A.length : Int))]) (fun (A : List GiveS) (B : List GiveS) => [.arr (.slice (some ⟨b, off, none⟩) l.length cap) 3 ((A ++ x :: (B ++ l.drop (k + 1))).map za6)]) (fun (A : List GiveS) (B : List GiveS) => A.length + B.length = k ∧ zdb c x (zbf c (l.take k)) = zdb c x A ++ B) (fun (A : List GiveS) (B : List GiveS) => A.length) (zbf c (l.take k)) ([]) ?_ ?_ ?_ ?_
   ·exact ⟨by simp [zcw]; omega, by simp⟩
   ·exact ⟨zcG (by simp [zcw]; omega), trivial⟩
   ·exact zR (by rw [zU hx]; rfl)
   ·intro A B hinv
    obtain ⟨hA, hB⟩ := hinv
    have hlA : A.length < l.length := by omega
    have hll : ((A ++ x :: (B ++ l.drop (k + 1)))).length = l.length := by simp; omega
    refine zj ?_
    refine zaF (fun M => M = [.arr (.slice (some ⟨b, off, none⟩) l.length cap) 3 ((A ++ x :: (B ++ l.drop (k + 1))).map za6)]) [8, 13] mixed ?_
    refine ahp 0 rfl rfl (by kernel_rfl) (by kernel_rfl) (zf rfl) ?_
    refine ahp 1 rfl rfl (by kernel_rfl) (by kernel_rfl) (zf rfl) ?_
    refine ahp 2 rfl rfl (by kernel_rfl) (by kernel_rfl) (zae rfl rfl) ?_
    refine ahp 3 rfl rfl (by kernel_rfl) (by kernel_rfl) (zf rfl) ?_
    refine ahg 4 rfl rfl (by kernel_rfl) (by kernel_rfl) rfl (fun hc => ⟨_, OpenTo.refl _, zf rfl⟩) ?_
    refine ahg 5 rfl rfl (by kernel_rfl) (by kernel_rfl) rfl (fun hc => ⟨_, OpenTo.refl _, zf rfl⟩) ?_
    refine ahg 6 rfl rfl (by kernel_rfl) (by kernel_rfl) rfl (fun hc => ⟨_, OpenTo.refl _, zf rfl⟩) ?_
    refine ahg 7 rfl rfl (by kernel_rfl) (by kernel_rfl) rfl (fun hc => by
     have hq : 0 < A.length := by simpa using hc
     exact ⟨_, OpenTo.upd (t := 24) rfl (by first | exact hc | simp_all) (OpenTo.upd (t := 23) rfl (by first | exact hc | simp_all) (OpenTo.refl _)), zaC (j := A.length) zat zaq rfl rfl (by rfl) (by omega)⟩) ?_
    refine zhj 8 rfl rfl (by kernel_rfl) (by kernel_rfl) (by simp) rfl rfl (fun hc => ⟨_, OpenTo.upd (t := 25) rfl (by first | exact hc | simp_all) (OpenTo.refl _), fun M hM => by
     subst hM; exact zb0 (i := 0) (j := A.length) zaq rfl rfl rfl zgh rfl rfl rfl ⟨rfl, rfl⟩
     ⟩) ?_
    refine ahg 9 rfl rfl (by kernel_rfl) (by kernel_rfl) rfl (fun hc => ⟨_, OpenTo.refl _, zf rfl⟩) ?_
    refine ahg 10 rfl rfl (by kernel_rfl) (by kernel_rfl) rfl (fun hc => ⟨_, OpenTo.refl _, zf rfl⟩) ?_
    refine ahg 11 rfl rfl (by kernel_rfl) (by kernel_rfl) rfl (fun hc => by
     have hq : 0 < A.length := by simpa using hc
     exact ⟨_, OpenTo.upd (t := 28) rfl (by first | exact hc | simp_all) (OpenTo.refl _), zap rfl rfl (by omega) (by omega)⟩) ?_
    refine ahg 12 rfl rfl (by kernel_rfl) (by kernel_rfl) rfl (fun hc => by
     have hq : 0 < A.length := by simpa using hc
     exact ⟨_, OpenTo.upd (t := 29) rfl (by first | exact hc | simp_all) (OpenTo.upd (t := 27) rfl (by first | exact hc | simp_all) (OpenTo.refl _)), zaC (j := A.length - 1) zat zaq rfl rfl (by omega) (by omega)⟩) ?_
    refine zhj 13 rfl rfl (by kernel_rfl) (by kernel_rfl) (by simp) rfl rfl (fun hc => ⟨_, OpenTo.upd (t := 30) rfl (by first | exact hc | simp_all) (OpenTo.refl _), fun M hM => by
     have hq : 0 < A.length := by simpa using hc
     subst hM; exact zb0 (i := 0) (j := A.length - 1) zaq rfl rfl rfl (zex hq) rfl rfl rfl ⟨rfl, rfl⟩
     ⟩) ?_
    refine ahg 14 rfl rfl (by kernel_rfl) (by kernel_rfl) rfl (fun hc => ⟨_, OpenTo.upd (t := 31) rfl (by first | exact hc | simp_all) (OpenTo.upd (t := 26) rfl (by first | exact hc | simp_all) (OpenTo.upd (t := 22) rfl (by first | exact hc | simp_all) (OpenTo.refl _))), zfN hca rfl rfl (WeakL.refl _) (hp _ _)⟩) ?_
    refine ahg 15 rfl rfl (by kernel_rfl) (by kernel_rfl) rfl (fun hc => ⟨_, OpenTo.upd (t := 32) rfl (by first | exact hc | simp_all) (OpenTo.refl _), zS rfl rfl⟩) ?_
    refine ahp 16 rfl rfl (by kernel_rfl) (by kernel_rfl) (zA rfl (.inr ⟨_, rfl, fun h => by simp_all⟩) (.inl rfl)) ?_
    refine ahz (by kernel_rfl) ?_
    refine zi rfl (fun h3 => ?_) (fun h4 => ?_)
    ·try simp at h3
     obtain ⟨hA0, hcx⟩ := h3
     obtain ⟨A1, y, rfl⟩ := zl1 hA0
     rw [zeb] at hcx
     refine zm ?_
     refine zh ?_
     refine zj ?_
     refine zq ?_
     refine zbU (fun M => M = [.arr (.slice (some ⟨b, off, none⟩) l.length cap) 3 (((A1 ++ [y]) ++ x :: (B ++ l.drop (k + 1))).map za6)]) [9, 13] mixed ?_
     refine ahp 0 rfl rfl (by kernel_rfl) (by kernel_rfl) (zf rfl) ?_
     refine ahp 1 rfl rfl (by kernel_rfl) (by kernel_rfl) (zf rfl) ?_
     refine ahp 2 rfl rfl (by kernel_rfl) (by kernel_rfl) (zf rfl) ?_
     refine ahp 3 rfl rfl (by kernel_rfl) (by kernel_rfl) (zf rfl) ?_
     refine ahp 4 rfl rfl (by kernel_rfl) (by kernel_rfl) (zap rfl rfl (by omega) (by omega)) ?_
     refine ahp 5 rfl rfl (by kernel_rfl) (by kernel_rfl) (zf rfl) ?_
     refine ahp 6 rfl rfl (by kernel_rfl) (by kernel_rfl) (zf rfl) ?_
     refine ahp 7 rfl rfl (by kernel_rfl) (by kernel_rfl) (zap rfl rfl (by omega) (by omega)) ?_
     refine ahp 8 rfl rfl (by kernel_rfl) (by kernel_rfl) (zaC (j := (A1 ++ [y]).length - 1) zat zaq rfl rfl (by omega) (by omega)) ?_
     refine ahl 9 rfl rfl (by kernel_rfl) (by kernel_rfl) (by simp) rfl (fun M hM => by subst hM; exact zb0 (i := 0) (j := (A1 ++ [y]).length - 1) zaq rfl rfl rfl ((zex hA0).trans (by rw [zeb])) rfl rfl rfl ⟨rfl, rfl⟩) ?_
     refine ahp 10 rfl rfl (by kernel_rfl) (by kernel_rfl) (zf rfl) ?_
     refine ahp 11 rfl rfl (by kernel_rfl) (by kernel_rfl) (zf rfl) ?_
     refine ahp 12 rfl rfl (by kernel_rfl) (by kernel_rfl) (zaC (j := (A1 ++ [y]).length) zat zaq rfl rfl rfl (by omega)) ?_
     refine ahl 13 rfl rfl (by kernel_rfl) (by kernel_rfl) (by simp) rfl (fun M hM => by subst hM; exact zb0 (i := 0) (j := (A1 ++ [y]).length) zaq rfl rfl rfl zgh rfl rfl rfl ⟨rfl, rfl⟩) ?_
     refine ahp 14 rfl rfl (by kernel_rfl) (by kernel_rfl) (zaC (j := (A1 ++ [y]).length) zat zaq rfl rfl rfl (by omega)) ?_
     refine ahe 15 rfl (by kernel_rfl) ?_
     refine zab (zdV (i := 0) (j := (A1 ++ [y]).length) (y := x) (y' := y) zaq rfl rfl rfl rfl zgh rfl rfl rfl ?_)
     refine ⟨fun _ => .inr (by simp [zaO, Region.binds]), ?_⟩
     refine ahp 16 rfl rfl (by kernel_rfl) (by kernel_rfl) (zaC (j := (A1 ++ [y]).length - 1) zat zaq rfl rfl (by omega) (by omega)) ?_
     refine ahe 17 rfl (by kernel_rfl) ?_
     refine zab (zdV (i := 0) (j := (A1 ++ [y]).length - 1) (y := y) (y' := x) zaq rfl rfl rfl rfl (by rw [List.getElem?_set_ne (by simp)]; exact (zex hA0).trans (by rw [zeb])) rfl rfl rfl ?_)
     refine ⟨fun _ => .inr (by simp [zaO, Region.binds]), ?_⟩
     refine ahz (by kernel_rfl) ?_
     refine zy ?_
     refine zh ?_
     refine zC ?_
     refine dmv rfl ?_
     refine dq (zap rfl rfl (by omega) (by omega)) ?_
     refine das rfl ?_
     refine dn ?_
     exact ⟨A1, y :: B, ⟨by simp at hA ⊢; omega, zn9 hB hcx⟩, by dsimp only; simp, ⟨zcG (by simp), trivial⟩, (by repeat (first | exact zt | refine zw rfl ?_ | refine zu rfl rfl ?_)), zR (by rw [zoo]; rfl)⟩
    ·try simp at h4
     have hins := zoh (l := l) (k := k) hx hB (by intro h0; have := h4 h0; omega)
     refine zX ?_
     refine z7 ?_
     refine zbr ?_
     refine zO ?_
     refine zy ?_
     refine zh ?_
     refine zC ?_
     refine dmv rfl ?_
     refine dq (zB rfl rfl (by omega) (by omega)) ?_
     refine das rfl ?_
     refine dn ?_
     refine ⟨k + 1, ?_, ?_, ⟨rfl, trivial⟩, (by repeat (first | exact zt | refine zw rfl ?_ | refine zu rfl rfl ?_)), zR (by rw [hins])⟩
     ·omega
     ·dsimp only; omega
  ·try simp at h2
   have hend : zbf c (l.take k) ++ l.drop k = zbf c l := by rw [List.take_of_length_le (by omega), zaV (by omega)]; simp
   refine zX ?_
   refine z7 ?_
   refine zaw ?_
   refine zO ?_
   exact ⟨_, _, Ghost.sub (Sub.refl _), _, _, rfl, Weak.refl _, rfl, by rw [hend]⟩

/-- slices.pdqsortCmpFunc[benchwarmer/api.Give] -/
theorem zbC [Tracks] {l : List GiveS} {v : Value} {fid : FuncId} {caps : List HVal} {c : GiveS → GiveS → Int} {lim : Int} (hca : Callable Tryz.prog fid) (hp : ∀ x y, ConP Tryz.prog fid ([za6 x, za6 y] ++ caps) (.int .i64 (c x y))) (hl : l.length ≤ 12) : Con Tryz.prog 72 [.raw v, .int .i64 0, .int .i64 (l.length : Int), .int .i64 lim, .fn (.func fid) [] caps] [.arr v 3 (l.map za6)] (fun x M' => x = .tup [] ∧ M' = [.arr v 3 ((zbf c l).map za6)]) := by
 refine Con.of_body Tryz.func72 rfl Tryz.ntmps72 rfl rfl ?_
 refine za ?_
 refine das rfl ?_
 refine dn ?_
 refine za ?_
 refine das rfl ?_
 refine dn ?_
 refine zq ?_
 refine zak (1 :: 2 :: 3 :: 10 :: 11 :: 12 :: 13 :: 14 :: 15 :: 16 :: 17 :: 18 :: 19 :: 20 :: 21 :: 22 :: 23 :: 24 :: 25 :: 26 :: 27 :: 28 :: 29 :: 30 :: 31 :: 32 :: 33 :: 34 :: 35 :: 36 :: 37 :: 38 :: 39 :: 40 :: 41 :: 42 :: 43 :: 44 :: 45 :: 46 :: 47 :: 48 :: 49 :: 50 :: 51 :: 52 :: 53 :: 54 :: 55 :: 56 :: 57 :: 58 :: 59 :: 60 :: 61 :: 62 :: 63 :: 64 :: 65 :: 66 :: 67 :: 68 :: 69 :: 70 :: 71 :: 72 :: 73 :: 74 :: 75 :: 76 :: 77 :: 78 :: 79 :: 80 :: 81 :: 82 :: 83 :: 84 :: 85 :: 86 :: 87 :: 88 :: 89 :: 90 :: 91 :: 92 :: 93 :: 94 :: 95 :: 96 :: 97 :: 98 :: 99 :: 100 :: 101 :: 102 :: 103 :: 104 :: 105 :: 106 :: 107 :: 108 :: 109 :: 110 :: 111 :: 112 :: 113 :: 114 :: 115 :: 116 :: 117 :: 118 :: 119 :: 120 :: 121 :: 122 :: 123 :: 124 :: 125 :: 126 :: 127 :: 128 :: 129 :: 130 :: 131 :: 132 :: 133 :: 134 :: 135 :: 136 :: 137 :: 138 :: 139 :: 140 :: 141 :: 142 :: 143 :: 144 :: 145 :: 146 :: 147 :: []) (fun (u : Unit) => [(1, .int .i64 0), (2, .int .i64 (l.length : Int))]) (fun (u : Unit) => [.arr v 3 (l.map za6)]) (fun (u : Unit) => True) (fun (u : Unit) => 0) (()) ?_ ?_ ?_ ?_
 ·trivial
 ·exact ⟨rfl, rfl, trivial⟩
 ·exact List.Perm.refl _
 ·intro u hu
  refine zq ?_
  refine za ?_
  refine dmv rfl ?_
  refine dmv rfl ?_
  refine dq (zap rfl rfl (by omega) (by omega)) ?_
  refine das rfl ?_
  refine dn ?_
  refine zj ?_
  refine za ?_
  refine dmv rfl ?_
  refine dq (zcX rfl rfl) ?_
  refine dn ?_
  refine zi rfl (fun h1 => ?_) (fun h1 => ?_)
  ·try simp at h1
   refine za ?_
   refine dmv rfl ?_
   refine dmv rfl ?_
   refine dmv rfl ?_
   refine dmv rfl ?_
   refine de rfl (zd (i := 0) zuD rfl (WeakL.refl _) rfl (zd1 (l := l) hca hp (by omega) (by omega)) ?_)
   rintro _ _ ⟨rfl, rfl⟩
   refine dn ?_
   refine zl ?_
   exact zbb rfl ⟨rfl, rfl⟩
  ·exfalso
   try simp at h1
   omega

/-- slices.SortFunc[[]benchwarmer/api.Give,benchwarmer/api.Give] -/
theorem zeo [Tracks] {l : List GiveS} {v : Value} {fid : FuncId} {caps : List HVal} {c : GiveS → GiveS → Int} (hca : Callable Tryz.prog fid) (hp : ∀ x y, ConP Tryz.prog fid ([za6 x, za6 y] ++ caps) (.int .i64 (c x y))) (hl : l.length ≤ 12) : Con Tryz.prog 41 [.raw v, .fn (.func fid) [] caps] [.arr v 3 (l.map za6)] (fun x M' => x = .tup [] ∧ M' = [.arr v 3 ((zbf c l).map za6)]) := by
 refine Con.of_body Tryz.func41 rfl Tryz.ntmps41 rfl rfl ?_
 refine za ?_
 refine dmv rfl ?_
 first
 | refine de rfl (zaG (i := 0) zat rfl rfl ?_)
 | refine de rfl (zaG (i := 1) zat rfl rfl ?_)
 | refine de rfl (zaG (i := 2) zat rfl rfl ?_)
 | refine de rfl (zaG (i := 3) zat rfl rfl ?_)
 refine das rfl ?_
 refine dn ?_
 refine zC ?_
 refine dmv rfl ?_
 refine dmv rfl ?_
 refine dmv rfl ?_
 refine dq (zfn (zc1 ty3 zh2 rfl) (congrArg _ (zpk (by omega)))) ?_
 refine de rfl (zbl (M1 := []) (R := [_]) zry rfl (WeakL.refl _) (List.Perm.refl _) (zjd (x := l.length) (by omega)) ?_)
 rintro _ _ ⟨n11, rfl, rfl⟩
 refine dmv rfl ?_
 first
 | refine de rfl (zd (i := 0) zqg rfl (WeakL.refl _) rfl (zbC hca hp hl) ?_)
 | refine de rfl (zd (i := 1) zqg rfl (WeakL.refl _) rfl (zbC hca hp hl) ?_)
 | refine de rfl (zd (i := 2) zqg rfl (WeakL.refl _) rfl (zbC hca hp hl) ?_)
 | refine de rfl (zd (i := 3) zqg rfl (WeakL.refl _) rfl (zbC hca hp hl) ?_)
 rintro _ _ ⟨rfl, rfl⟩
 refine dn ?_
 exact ⟨_, _, Ghost.sub (Sub.refl _), _, _, rfl, Weak.refl _, rfl, rfl⟩

/-- (*benchwarmer/benchmake.Stream).OfferList$1 -/
theorem zfa [Tracks] {x y : GiveS}  : ConP Tryz.prog 42 [za6 x, za6 y] (.int .i64 (zcv x y)) := by
 refine Con.of_body Tryz.func42 rfl Tryz.ntmps42 rfl rfl ?_
 refine za ?_
 refine dq (zas rfl rfl) ?_
 refine dq (zas rfl rfl) ?_
 refine das rfl ?_
 refine dn ?_
 refine za ?_
 refine dq (zb zaq rfl ty9 (by decide) rfl) ?_
 refine dq (zg ty9 rfl rfl rfl) ?_
 refine dq (zb zaq rfl ty9 (by decide) rfl) ?_
 refine dq (zg ty9 rfl rfl rfl) ?_
 refine dq (zo zhk rfl (WeakL.refl _) zbp) ?_
 refine das rfl ?_
 refine dn ?_
 refine zl ?_
 refine zD rfl ?_
 rfl

set_option maxHeartbeats 8000000 in
/-- (*benchwarmer/benchmake.Stream).OfferList -/
theorem zaT [Tracks] {b : Nat} {l : List Int} {a : Nat} {m : MarketS} {o : List OwnerS} (ha : a ≤ 700000) (hm : GoodM m) (ho : GoodOw o) : Con Tryz.prog 8 [pAt b, zaM m, za8 o] [St b l a] (fun x M' => ∃ k a', x = zec k ∧ GoodDl k ∧ (o = [] → k = []) ∧ a' ≤ a + 400 ∧ M' = [St b l a']) := by
 have hm0 := hm.pos
 have hm5 := hm.len
 have hol := ho.len
 refine Con.of_body Tryz.func8 rfl Tryz.ntmps8 rfl rfl ?_
 refine za ?_
 refine dq (zas rfl rfl) ?_
 refine das rfl ?_
 refine dn ?_
 refine za ?_
 refine das rfl ?_
 refine dn ?_
 refine zj ?_
 refine za ?_
 refine dmv rfl ?_
 refine dq (zK zaN rfl) ?_
 refine dq (zau rfl rfl) ?_
 refine dn ?_
 refine zi rfl (fun h1 => ?_) (fun h2 => ?_)
 ·try simp at h1
  refine za ?_
  refine das rfl ?_
  refine dn ?_
  refine zl ?_
  first
  | exact ⟨_, _, Ghost.sub (Sub.refl _), _, .slice 5 [], rfl, za3 5, [], a, rfl, ⟨by simp, by simp⟩, fun _ => rfl, by omega, rfl⟩
  | exact zbE (Ghost.fa 6 (i := 1) rfl rfl) rfl ⟨k1.map (·.1), a4, by simp, ⟨by simpa using q1, fun x hx => by
     obtain ⟨p, hp, rfl⟩ := List.mem_map.1 hx; exact q2 p hp⟩, fun e => absurd (congrArg List.length e) (by simp_all), by omega, rfl⟩
 ·try simp at h2
  refine zm ?_
  refine zh ?_
  refine zj ?_
  refine za ?_
  refine dmv rfl ?_
  first
  | refine de rfl (zd (i := 0) zbT rfl (WeakL.refl _) rfl (zI (by first | assumption | omega | (simp; omega) | simp_all) (by first | assumption | omega | (simp; omega) | simp_all) (by first | assumption | omega | (simp; omega) | simp_all) (by first | assumption | omega | (simp; omega) | simp_all)) ?_)
  | refine de rfl (zd (i := 1) zbT rfl (WeakL.refl _) rfl (zI (by first | assumption | omega | (simp; omega) | simp_all) (by first | assumption | omega | (simp; omega) | simp_all) (by first | assumption | omega | (simp; omega) | simp_all) (by first | assumption | omega | (simp; omega) | simp_all)) ?_)
  | refine de rfl (zd (i := 2) zbT rfl (WeakL.refl _) rfl (zI (by first | assumption | omega | (simp; omega) | simp_all) (by first | assumption | omega | (simp; omega) | simp_all) (by first | assumption | omega | (simp; omega) | simp_all) (by first | assumption | omega | (simp; omega) | simp_all)) ?_)
  | refine de rfl (zd (i := 3) zbT rfl (WeakL.refl _) rfl (zI (by first | assumption | omega | (simp; omega) | simp_all) (by first | assumption | omega | (simp; omega) | simp_all) (by first | assumption | omega | (simp; omega) | simp_all) (by first | assumption | omega | (simp; omega) | simp_all)) ?_)
  rintro _ _ ⟨y21, rfl, hy21, rfl⟩
  refine dmv rfl ?_
  refine dn ?_
  refine zL (Ghost.perm (M' := [St b l (a + 1)]) (List.Perm.refl _)) ?_
  refine zL (Ghost.arr_nil 5) ?_
  refine zq ?_
  refine zbi (7 :: 8 :: 9 :: 10 :: 12 :: 13 :: 14 :: 22 :: 23 :: 24 :: 25 :: 26 :: 27 :: 28 :: 29 :: 30 :: 31 :: 32 :: 33 :: 34 :: 35 :: 36 :: 37 :: 38 :: 39 :: 40 :: 41 :: 42 :: 43 :: 44 :: 45 :: 46 :: 47 :: 48 :: 49 :: 50 :: 51 :: 52 :: 53 :: 54 :: 55 :: 56 :: 57 :: 58 :: 59 :: 60 :: 61 :: 62 :: 63 :: 64 :: 65 :: 66 :: 67 :: 68 :: 69 :: 70 :: 71 :: 72 :: 73 :: 74 :: 75 :: 76 :: 77 :: 78 :: 79 :: 80 :: 81 :: 82 :: 83 :: 84 :: 85 :: 86 :: 87 :: 88 :: 89 :: 90 :: 91 :: 92 :: 93 :: 94 :: 95 :: 96 :: 97 :: 98 :: 99 :: 100 :: 101 :: 102 :: 103 :: 104 :: []) (fun (k : Nat) (q : GL DlV) => [(22, .int .i64 (k : Int)), (7, .raw q.u)]) (fun (k : Nat) (q : GL DlV) => [St b l q.a, .arr q.u 5 (q.out.map rDl)] ++ q.out.map sDl) (fun (k : Nat) (q : GL DlV) => (k : Int) ≤ y21 ∧ GLok ztP k (a + 1 + 60 * k) q) (fun (k : Nat) (q : GL DlV) => y21.toNat - k) (0) (⟨.slice none 0 0, [], a + 1⟩) ?_ ?_ ?_ ?_
  ·exact ⟨by omega, ⟨by simp, by simp, by dsimp only; omega⟩⟩
  ·exact ⟨rfl, rfl, trivial⟩
  ·repeat (first | exact List.Perm.nil | refine zQ 0 rfl ?_ | refine zQ 1 rfl ?_ | refine zQ 2 rfl ?_ | refine zQ 3 rfl ?_ | (refine zM 0 rfl ?hq ?_; (case hq => simp [zZ, zn]; done)) | (refine zM 1 rfl ?hq ?_; (case hq => simp [zZ, zn]; done)) | (refine zM 2 rfl ?hq ?_; (case hq => simp [zZ, zn]; done)) | (refine zM 3 rfl ?hq ?_; (case hq => simp [zZ, zn]; done)) | fail)
  ·intro k q hinv
   obtain ⟨hk, hq⟩ := hinv
   obtain ⟨u, out, a2⟩ := q
   obtain ⟨g1, g2, g3⟩ := id hq
   dsimp only at g1 g2 g3
   refine za ?_
   refine dq (zS rfl rfl) ?_
   refine dn ?_
   refine zj ?_
   refine zi rfl (fun h3 => ?_) (fun h4 => ?_)
   ·try simp at h3
    refine zm ?_
    refine zh ?_
    refine zj ?_
    refine zq ?_
    refine za ?_
    refine dmv rfl ?_
    refine das rfl ?_
    refine dn ?_
    refine za ?_
    refine dmv rfl ?_
    refine dq (zG (hs := [_, _, _, _]) zbL ty3 rfl rfl (by decide) (by decide) rfl) ?_
    first
    | refine de rfl (zd (i := 0) zV rfl (WeakL.refl _) rfl (zc (L := [_, _, _, _]) (by first | assumption | omega | (simp; omega) | simp_all) (by first | assumption | omega | (simp; omega) | simp_all) (by first | assumption | omega | (simp; omega) | simp_all)) ?_)
    | refine de rfl (zd (i := 1) zV rfl (WeakL.refl _) rfl (zc (L := [_, _, _, _]) (by first | assumption | omega | (simp; omega) | simp_all) (by first | assumption | omega | (simp; omega) | simp_all) (by first | assumption | omega | (simp; omega) | simp_all)) ?_)
    | refine de rfl (zd (i := 2) zV rfl (WeakL.refl _) rfl (zc (L := [_, _, _, _]) (by first | assumption | omega | (simp; omega) | simp_all) (by first | assumption | omega | (simp; omega) | simp_all) (by first | assumption | omega | (simp; omega) | simp_all)) ?_)
    | refine de rfl (zd (i := 3) zV rfl (WeakL.refl _) rfl (zc (L := [_, _, _, _]) (by first | assumption | omega | (simp; omega) | simp_all) (by first | assumption | omega | (simp; omega) | simp_all) (by first | assumption | omega | (simp; omega) | simp_all)) ?_)
    rintro _ _ ⟨y27, rfl, hy27, rfl⟩
    refine das rfl ?_
    refine dn ?_
    refine za ?_
    refine dmv rfl ?_
    refine dq (zo ca36 rfl (WeakL.refl _) (zhw (i := k) (by omega))) ?_
    have hdl := zph (i := k) (by omega)
    refine dq (zkx rfl rfl (by simp; omega)) ?_
    refine dmv rfl ?_
    refine dmv rfl ?_
    refine dmv rfl ?_
    refine dq (zG (hs := [_, _, _]) zbL ty3 rfl rfl (by decide) (by decide) rfl) ?_
    first
    | refine de rfl (zd (i := 0) zV rfl (WeakL.refl _) rfl (zc (L := [_, _, _]) (by first | assumption | omega | (simp; omega) | simp_all) (by first | assumption | omega | (simp; omega) | simp_all) (by first | assumption | omega | (simp; omega) | simp_all)) ?_)
    | refine de rfl (zd (i := 1) zV rfl (WeakL.refl _) rfl (zc (L := [_, _, _]) (by first | assumption | omega | (simp; omega) | simp_all) (by first | assumption | omega | (simp; omega) | simp_all) (by first | assumption | omega | (simp; omega) | simp_all)) ?_)
    | refine de rfl (zd (i := 2) zV rfl (WeakL.refl _) rfl (zc (L := [_, _, _]) (by first | assumption | omega | (simp; omega) | simp_all) (by first | assumption | omega | (simp; omega) | simp_all) (by first | assumption | omega | (simp; omega) | simp_all)) ?_)
    | refine de rfl (zd (i := 3) zV rfl (WeakL.refl _) rfl (zc (L := [_, _, _]) (by first | assumption | omega | (simp; omega) | simp_all) (by first | assumption | omega | (simp; omega) | simp_all) (by first | assumption | omega | (simp; omega) | simp_all)) ?_)
    rintro _ _ ⟨y35, rfl, hy35, rfl⟩
    refine dq (zB rfl rfl (by simp at hy27 hy35; omega) (by simp at hy27 hy35; omega)) ?_
    refine dq (zaB (cs := [_, _]) zbZ pl78 rfl) ?_
    refine dq (zaB (cs := [_, _, _, _, _]) zam pl81 rfl) ?_
    refine de rfl (zY zam rfl fun b10 => ?_)
    first
    | refine de0 (zz (i := 0) zam rfl rfl rfl rfl rfl (Nat.le_of_ble_eq_true rfl) ?_)
    | refine de0 (zz (i := 1) zam rfl rfl rfl rfl rfl (Nat.le_of_ble_eq_true rfl) ?_)
    | refine de0 (zz (i := 2) zam rfl rfl rfl rfl rfl (Nat.le_of_ble_eq_true rfl) ?_)
    | refine de0 (zz (i := 3) zam rfl rfl rfl rfl rfl (Nat.le_of_ble_eq_true rfl) ?_)
    refine dn ?_
    refine zL (Ghost.arr_nil 3) ?_
    refine zL (Ghost.perm (List.perm_middle (l₁ := [_, _]))) ?_
    refine zj ?_
    refine za ?_
    refine dmv rfl ?_
    refine dq (zK zaN rfl) ?_
    refine dmv rfl ?_
    refine dn ?_
    refine zq ?_
    refine zg4 [12, 13, 14, 41, 42, 43, 44, 45, 46, 47, 48, 49, 50, 51, 52, 53, 54, 55, 56, 57, 58, 59, 60, 61, 62, 63, 64, 65, 66, 67, 68, 69, 70, 71, 72, 73, 74, 75, 76, 77, 78] (fun (j : Nat) (v : Value) (gs : List GiveS) (a4 : Nat) => [(41, .int .i64 j)]) (fun (j : Nat) (v : Value) (gs : List GiveS) (a4 : Nat) => [St b l a4, .arr v 3 (gs.map za6), .cells b10 [.str (111 :: Lib.decDigits k), .str [], .int .i64 y27, .int .i64 (y27 + y35), .raw v], .arr u 5 (out.map rDl)] ++ out.map sDl) (fun (j : Nat) (v : Value) (gs : List GiveS) (a4 : Nat) => j ≤ o.length ∧ (gs.length ≤ j ∧ (gs.length ≤ 3) ∧ (∀ g ∈ gs, Sh g.Player) ∧ a4 ≤ a2 + 2 + 4 * j)) (fun (j : Nat) (v : Value) (gs : List GiveS) (a4 : Nat) => o.length - j) (0) (.slice none 0 0) ([]) (a2 + 2) ?_ ?_ ?_ ?_
    ·exact ⟨Nat.zero_le _, Nat.le_refl _, by simp, by simp, by omega⟩
    ·exact ⟨rfl, trivial⟩
    ·exact zR rfl
    ·intro j v gs a4 hinv
     obtain ⟨hj, hgj, hg3, hgs, ha4⟩ := hinv
     refine za ?_
     refine dq (zS rfl rfl) ?_
     refine dn ?_
     refine zj ?_
     refine zi rfl (fun h5 => ?_) (fun h6 => ?_)
     ·try simp at h5
      obtain ⟨z, hz⟩ : ∃ z, o[j]? = some z := ⟨_, List.getElem?_eq_getElem h5⟩
      have hdz := zU hz
      refine zm ?_
      refine zh ?_
      refine zj ?_
      refine zq ?_
      refine za ?_
      refine dq (zW zaN zaj rfl rfl rfl (by first | assumption | simp_all)) ?_
      refine dq (zH zaj rfl rfl rfl rfl) ?_
      refine de rfl (zY zaj rfl fun b12 => ?_)
      refine de0 (zad zaj rfl rfl rfl rfl rfl ?_)
      refine dn ?_
      refine zL (Ghost.fc0 12 rfl) ?_
      refine za ?_
      refine dmv rfl ?_
      first
      | refine de rfl (zd (i := 0) zeE rfl (WeakL.refl _) rfl (zal (by first | assumption | omega | (simp; omega) | simp_all) (by first | assumption | omega | (simp; omega) | simp_all)) ?_)
      | refine de rfl (zd (i := 1) zeE rfl (WeakL.refl _) rfl (zal (by first | assumption | omega | (simp; omega) | simp_all) (by first | assumption | omega | (simp; omega) | simp_all)) ?_)
      | refine de rfl (zd (i := 2) zeE rfl (WeakL.refl _) rfl (zal (by first | assumption | omega | (simp; omega) | simp_all) (by first | assumption | omega | (simp; omega) | simp_all)) ?_)
      | refine de rfl (zd (i := 3) zeE rfl (WeakL.refl _) rfl (zal (by first | assumption | omega | (simp; omega) | simp_all) (by first | assumption | omega | (simp; omega) | simp_all)) ?_)
      rintro _ _ ⟨y46, rfl, rfl⟩
      refine dmv rfl ?_
      refine dg rfl rfl (fun hc => ⟨_, OpenTo.refl _, ze zam rfl zat (by decide) rfl⟩) ?_
      refine dgl rfl rfl (fun hc => ⟨_, OpenTo.upd (t := 48) rfl (by first | exact hc | simp_all) (OpenTo.refl _), zJ (i := 2) zat rfl rfl (.inl ⟨rfl, rfl⟩) ⟨rfl, rfl⟩⟩) ?_
      refine dgl rfl rfl (fun hc => ⟨_, OpenTo.upd (t := 49) rfl (by first | exact hc | simp_all) (OpenTo.refl _), zaG (i := 1) (es := gs) zat rfl rfl ⟨rfl, rfl⟩⟩) ?_
      refine dg rfl rfl (fun hc => ⟨_, OpenTo.upd (t := 50) rfl (by first | exact hc | simp_all) (OpenTo.refl _), zS rfl rfl⟩) ?_
      refine dq (zA rfl (.inr ⟨_, rfl, fun h => by simp_all⟩) (.inl rfl)) ?_
      refine dn ?_
      refine zi rfl (fun h7 => ?_) (fun h8 => ?_)
      ·try simp at h7
       refine za ?_
       refine dmv rfl ?_
       refine dq ((by first | exact zb zT rfl zP (by decide) rfl | exact ze zT rfl zP (by decide) rfl)) ?_
       refine dq (zg zP rfl rfl rfl) ?_
       first
       | refine de rfl (zd (i := 0) zaH rfl (WeakL.refl _) rfl (zk (by first | assumption | omega | (simp; omega) | simp_all) (by first | assumption | omega | (simp; omega) | simp_all) (by first | assumption | omega | (simp; omega) | simp_all)) ?_)
       | refine de rfl (zd (i := 1) zaH rfl (WeakL.refl _) rfl (zk (by first | assumption | omega | (simp; omega) | simp_all) (by first | assumption | omega | (simp; omega) | simp_all) (by first | assumption | omega | (simp; omega) | simp_all)) ?_)
       | refine de rfl (zd (i := 2) zaH rfl (WeakL.refl _) rfl (zk (by first | assumption | omega | (simp; omega) | simp_all) (by first | assumption | omega | (simp; omega) | simp_all) (by first | assumption | omega | (simp; omega) | simp_all)) ?_)
       | refine de rfl (zd (i := 3) zaH rfl (WeakL.refl _) rfl (zk (by first | assumption | omega | (simp; omega) | simp_all) (by first | assumption | omega | (simp; omega) | simp_all) (by first | assumption | omega | (simp; omega) | simp_all)) ?_)
       rintro _ _ ⟨y56, rfl, hy56, rfl⟩
       refine das rfl ?_
       refine dn ?_
       refine za ?_
       refine dq ((by first | exact zb zaj rfl ty9 (by decide) rfl | exact ze zaj rfl ty9 (by decide) rfl)) ?_
       refine dq (zg ty9 rfl rfl rfl) ?_
       refine das rfl ?_
       refine dn ?_
       refine zj ?_
       refine za ?_
       refine dmv rfl ?_
       first
       | refine de rfl (zd (i := 0) zeE rfl (WeakL.refl _) rfl (zal (by first | assumption | omega | (simp; omega) | simp_all) (by first | assumption | omega | (simp; omega) | simp_all)) ?_)
       | refine de rfl (zd (i := 1) zeE rfl (WeakL.refl _) rfl (zal (by first | assumption | omega | (simp; omega) | simp_all) (by first | assumption | omega | (simp; omega) | simp_all)) ?_)
       | refine de rfl (zd (i := 2) zeE rfl (WeakL.refl _) rfl (zal (by first | assumption | omega | (simp; omega) | simp_all) (by first | assumption | omega | (simp; omega) | simp_all)) ?_)
       | refine de rfl (zd (i := 3) zeE rfl (WeakL.refl _) rfl (zal (by first | assumption | omega | (simp; omega) | simp_all) (by first | assumption | omega | (simp; omega) | simp_all)) ?_)
       rintro _ _ ⟨y60, rfl, rfl⟩
       refine dn ?_
       refine zi rfl (fun h9 => ?_) (fun h10 => ?_)
       ·try simp at h9
        refine zC ?_
        refine dmv rfl ?_
        refine dq ((by first | exact zb zT rfl zP (by decide) rfl | exact ze zT rfl zP (by decide) rfl)) ?_
        refine dq (zg zP rfl rfl rfl) ?_
        first
        | refine de rfl (zd (i := 0) zaH rfl (WeakL.refl _) rfl (zk (by first | assumption | omega | (simp; omega) | simp_all) (by first | assumption | omega | (simp; omega) | simp_all) (by first | assumption | omega | (simp; omega) | simp_all)) ?_)
        | refine de rfl (zd (i := 1) zaH rfl (WeakL.refl _) rfl (zk (by first | assumption | omega | (simp; omega) | simp_all) (by first | assumption | omega | (simp; omega) | simp_all) (by first | assumption | omega | (simp; omega) | simp_all)) ?_)
        | refine de rfl (zd (i := 2) zaH rfl (WeakL.refl _) rfl (zk (by first | assumption | omega | (simp; omega) | simp_all) (by first | assumption | omega | (simp; omega) | simp_all) (by first | assumption | omega | (simp; omega) | simp_all)) ?_)
        | refine de rfl (zd (i := 3) zaH rfl (WeakL.refl _) rfl (zk (by first | assumption | omega | (simp; omega) | simp_all) (by first | assumption | omega | (simp; omega) | simp_all) (by first | assumption | omega | (simp; omega) | simp_all)) ?_)
        rintro _ _ ⟨y64, rfl, hy64, rfl⟩
        refine das rfl ?_
        refine dn ?_
        refine zh ?_
        refine za ?_
        refine dmv rfl ?_
        refine dmv rfl ?_
        refine dq (zdN rfl rfl) ?_
        refine dn ?_
        refine zi rfl (fun h11 => ?_) (fun h12 => ?_)
        ·try simp at h11
         refine zC ?_
         refine dq (ze zam rfl zat (by decide) rfl) ?_
         first
         | refine de rfl (zJ (i := 0) zat rfl rfl (.inl ⟨rfl, rfl⟩) ?_)
         | refine de rfl (zJ (i := 1) zat rfl rfl (.inl ⟨rfl, rfl⟩) ?_)
         | refine de rfl (zJ (i := 2) zat rfl rfl (.inl ⟨rfl, rfl⟩) ?_)
         | refine de rfl (zJ (i := 3) zat rfl rfl (.inl ⟨rfl, rfl⟩) ?_)
         refine dq ((by first | exact zb zaj rfl ty9 (by decide) rfl | exact ze zaj rfl ty9 (by decide) rfl)) ?_
         refine dq (zg ty9 rfl rfl rfl) ?_
         refine dmv rfl ?_
         refine dmv rfl ?_
         refine dq (zaB (cs := [_, _, _]) zaq pl83 rfl) ?_
         refine dq (zG (hs := [_]) zat zaq rfl rfl (by decide) (by decide) rfl) ?_
         refine de rfl (zay (i := 1) (v := v) (es := gs.map za6) zat zaq rfl rfl rfl rfl rfl (by simp [zbe, zn]) (by simp; omega) fun v76 => ?_)
         refine dq (ze zam rfl zat (by decide) rfl) ?_
         first
         | refine de0 (zz (i := 0) zat rfl rfl rfl rfl rfl (Nat.le_of_ble_eq_true rfl) ?_)
         | refine de0 (zz (i := 1) zat rfl rfl rfl rfl rfl (Nat.le_of_ble_eq_true rfl) ?_)
         | refine de0 (zz (i := 2) zat rfl rfl rfl rfl rfl (Nat.le_of_ble_eq_true rfl) ?_)
         | refine de0 (zz (i := 3) zat rfl rfl rfl rfl rfl (Nat.le_of_ble_eq_true rfl) ?_)
         refine dn ?_
         refine zy ?_
         refine zh ?_
         refine zC ?_
         refine dq (zB rfl rfl (by omega) (by omega)) ?_
         refine dmv rfl ?_
         refine dn ?_
         exact ⟨j + 1, v76, (gs ++ [⟨z.Player, y64, y56⟩]), a4 + 4, ⟨by omega, by first | omega | (simp; omega), by first | omega | (simp; omega), fun g hg => by
          rcases List.mem_append.1 hg with hg | hg
          ·exact hgs g hg
          ·rw [List.mem_singleton.1 hg]; exact (ho.all z (List.mem_of_getElem? hz)).1, by omega⟩, by dsimp only; omega, ⟨rfl, trivial⟩, (by repeat (first | exact zt | refine zw rfl ?_ | refine zu rfl rfl ?_)), zR (by first | rfl | (dsimp only; rw [List.map_append]; rfl))⟩
        ·try simp at h12
         refine zm ?_
         refine zy ?_
         refine zh ?_
         refine zC ?_
         refine dq (zB rfl rfl (by omega) (by omega)) ?_
         refine dmv rfl ?_
         refine dn ?_
         exact ⟨j + 1, v, gs, a4 + 4, ⟨by omega, by first | omega | (simp; omega), by first | omega | (simp; omega), hgs, by omega⟩, by dsimp only; omega, ⟨rfl, trivial⟩, (by repeat (first | exact zt | refine zw rfl ?_ | refine zu rfl rfl ?_)), zR (by first | rfl | (dsimp only; rw [List.map_append]; rfl))⟩
       ·try simp at h10
        refine zm ?_
        refine zh ?_
        refine za ?_
        refine dmv rfl ?_
        refine dmv rfl ?_
        refine dq (zdN rfl rfl) ?_
        refine dn ?_
        refine zi rfl (fun h13 => ?_) (fun h14 => ?_)
        ·try simp at h13
         refine zC ?_
         refine dq (ze zam rfl zat (by decide) rfl) ?_
         first
         | refine de rfl (zJ (i := 0) zat rfl rfl (.inl ⟨rfl, rfl⟩) ?_)
         | refine de rfl (zJ (i := 1) zat rfl rfl (.inl ⟨rfl, rfl⟩) ?_)
         | refine de rfl (zJ (i := 2) zat rfl rfl (.inl ⟨rfl, rfl⟩) ?_)
         | refine de rfl (zJ (i := 3) zat rfl rfl (.inl ⟨rfl, rfl⟩) ?_)
         refine dq ((by first | exact zb zaj rfl ty9 (by decide) rfl | exact ze zaj rfl ty9 (by decide) rfl)) ?_
         refine dq (zg ty9 rfl rfl rfl) ?_
         refine dmv rfl ?_
         refine dmv rfl ?_
         refine dq (zaB (cs := [_, _, _]) zaq pl83 rfl) ?_
         refine dq (zG (hs := [_]) zat zaq rfl rfl (by decide) (by decide) rfl) ?_
         refine de rfl (zay (i := 1) (v := v) (es := gs.map za6) zat zaq rfl rfl rfl rfl rfl (by simp [zbe, zn]) (by simp; omega) fun v76 => ?_)
         refine dq (ze zam rfl zat (by decide) rfl) ?_
         first
         | refine de0 (zz (i := 0) zat rfl rfl rfl rfl rfl (Nat.le_of_ble_eq_true rfl) ?_)
         | refine de0 (zz (i := 1) zat rfl rfl rfl rfl rfl (Nat.le_of_ble_eq_true rfl) ?_)
         | refine de0 (zz (i := 2) zat rfl rfl rfl rfl rfl (Nat.le_of_ble_eq_true rfl) ?_)
         | refine de0 (zz (i := 3) zat rfl rfl rfl rfl rfl (Nat.le_of_ble_eq_true rfl) ?_)
         refine dn ?_
         refine zy ?_
         refine zh ?_
         refine zC ?_
         refine dq (zB rfl rfl (by omega) (by omega)) ?_
         refine dmv rfl ?_
         refine dn ?_
         exact ⟨j + 1, v76, (gs ++ [⟨z.Player, z.Team, y56⟩]), a4 + 3, ⟨by omega, by first | omega | (simp; omega), by first | omega | (simp; omega), fun g hg => by
          rcases List.mem_append.1 hg with hg | hg
          ·exact hgs g hg
          ·rw [List.mem_singleton.1 hg]; exact (ho.all z (List.mem_of_getElem? hz)).1, by omega⟩, by dsimp only; omega, ⟨rfl, trivial⟩, (by repeat (first | exact zt | refine zw rfl ?_ | refine zu rfl rfl ?_)), zR (by first | rfl | (dsimp only; rw [List.map_append]; rfl))⟩
        ·try simp at h14
         refine zm ?_
         refine zy ?_
         refine zh ?_
         refine zC ?_
         refine dq (zB rfl rfl (by omega) (by omega)) ?_
         refine dmv rfl ?_
         refine dn ?_
         exact ⟨j + 1, v, gs, a4 + 3, ⟨by omega, by first | omega | (simp; omega), by first | omega | (simp; omega), hgs, by omega⟩, by dsimp only; omega, ⟨rfl, trivial⟩, (by repeat (first | exact zt | refine zw rfl ?_ | refine zu rfl rfl ?_)), zR (by first | rfl | (dsimp only; rw [List.map_append]; rfl))⟩
      ·try simp at h8
       refine zm ?_
       refine zy ?_
       refine zh ?_
       refine zC ?_
       refine dq (zB rfl rfl (by omega) (by omega)) ?_
       refine dmv rfl ?_
       refine dn ?_
       exact ⟨j + 1, v, gs, a4 + 1, ⟨by omega, by first | omega | (simp; omega), by first | omega | (simp; omega), hgs, by omega⟩, by dsimp only; omega, ⟨rfl, trivial⟩, (by repeat (first | exact zt | refine zw rfl ?_ | refine zu rfl rfl ?_)), zR (by first | rfl | (dsimp only; rw [List.map_append]; rfl))⟩
     ·try simp at h6
      have hnj : o.length ≤ j := by omega
      obtain rfl : j = o.length := by omega
      refine zX ?_
      refine z7 ?_
      refine zil ?_
      refine zO ?_
      refine zh ?_
      refine zj ?_
      refine za ?_
      refine dq (ze zam rfl zat (by decide) rfl) ?_
      first
      | refine de rfl (zJ (i := 0) zat rfl rfl (.inl ⟨rfl, rfl⟩) ?_)
      | refine de rfl (zJ (i := 1) zat rfl rfl (.inl ⟨rfl, rfl⟩) ?_)
      | refine de rfl (zJ (i := 2) zat rfl rfl (.inl ⟨rfl, rfl⟩) ?_)
      | refine de rfl (zJ (i := 3) zat rfl rfl (.inl ⟨rfl, rfl⟩) ?_)
      refine de rfl (zaG (i := 1) (es := gs) zat rfl rfl ?_)
      refine dq (zau rfl rfl) ?_
      refine dn ?_
      refine zi rfl (fun h15 => ?_) (fun h16 => ?_)
      ·try simp at h15
       refine zX ?_
       refine z7 ?_
       refine zO ?_
       refine zh ?_
       try refine zL Ghost.drop12 ?_
       refine zC ?_
       refine dq (zB rfl rfl (by omega) (by omega)) ?_
       refine dmv rfl ?_
       refine dn ?_
       exact ⟨k + 1, ⟨u, out, a4⟩, ⟨by omega, hq.same (by omega)⟩, by dsimp only; omega, ⟨rfl, rfl, trivial⟩, (by repeat (first | exact zt | refine zw rfl ?_ | refine zu rfl rfl ?_)), zR rfl⟩
      ·try simp at h16
       refine zm ?_
       refine zh ?_
       have hg0 : 0 < gs.length := List.length_pos_iff.2 (by assumption)
       refine zdc (i := 1) rfl (fun h0 he => ?_) (fun gb goff gcap hv hcap => ?_)
       ·exfalso; have := congrArg List.length he; simp at this; subst this; simp at hg0
       rw [List.length_map] at hv hcap
       subst hv
       obtain ⟨g0, hg0x⟩ : ∃ g, gs[0]? = some g := ⟨_, List.getElem?_eq_getElem hg0⟩
       refine zaF (fun M => (∃ i : Nat, M[i]? = some (.cells b10 [.str (111 :: Lib.decDigits k), .str [], .int .i64 y27, .int .i64 (y27 + y35), .raw (.slice (some ⟨gb, goff, none⟩) gs.length gcap)])) ∧ ∃ i : Nat, M[i]? = some (.arr (.slice (some ⟨gb, goff, none⟩) gs.length gcap) 3 (gs.map za6))) [2, 5, 7, 10] mixed ?_
       refine ahp 0 rfl rfl (by kernel_rfl) (by kernel_rfl) (zf rfl) ?_
       refine ahp 1 rfl rfl (by kernel_rfl) (by kernel_rfl) (ze zam rfl zat (by decide) rfl) ?_
       refine ahl 2 rfl rfl (by kernel_rfl) (by kernel_rfl) (by simp) ⟨⟨2, rfl⟩, ⟨1, rfl⟩⟩ (fun M hM => by obtain ⟨⟨i, hi⟩, _⟩ := hM; exact zJ (i := i) zat rfl hi (.inl ⟨rfl, rfl⟩) ⟨rfl, rfl⟩) ?_
       refine ahp 3 rfl rfl (by kernel_rfl) (by kernel_rfl) (zaC (j := 0) zat zaq rfl rfl rfl (by omega)) ?_
       refine ahp 4 rfl rfl (by kernel_rfl) (by kernel_rfl) ((by first | exact zb zaq rfl ty9 (by decide) rfl | exact ze zaq rfl ty9 (by decide) rfl)) ?_
       refine ahl 5 rfl rfl (by kernel_rfl) (by kernel_rfl) (by simp) ⟨⟨2, rfl⟩, ⟨1, rfl⟩⟩ (fun M hM => by obtain ⟨_, ⟨i, hi⟩⟩ := hM; exact za7 (i := i) (j := 0) (y := g0) 1 ty9 rfl (by omega) hi hg0x rfl rfl ⟨rfl, rfl⟩) ?_
       refine ahp 6 rfl rfl (by kernel_rfl) (by kernel_rfl) (ze zam rfl zat (by decide) rfl) ?_
       refine ahl 7 rfl rfl (by kernel_rfl) (by kernel_rfl) (by simp) ⟨⟨2, rfl⟩, ⟨1, rfl⟩⟩ (fun M hM => by obtain ⟨⟨i, hi⟩, _⟩ := hM; exact zJ (i := i) zat rfl hi (.inl ⟨rfl, rfl⟩) ⟨rfl, rfl⟩) ?_
       refine ahp 8 rfl rfl (by kernel_rfl) (by kernel_rfl) (zaC (j := 0) zat zaq rfl rfl rfl (by omega)) ?_
       refine ahp 9 rfl rfl (by kernel_rfl) (by kernel_rfl) ((by first | exact zb zaq rfl ty9 (by decide) rfl | exact ze zaq rfl ty9 (by decide) rfl)) ?_
       refine ahl 10 rfl rfl (by kernel_rfl) (by kernel_rfl) (by simp) ⟨⟨2, rfl⟩, ⟨1, rfl⟩⟩ (fun M hM => by obtain ⟨_, ⟨i, hi⟩⟩ := hM; exact za7 (i := i) (j := 0) (y := g0) 2 ty9 rfl (by omega) hi hg0x rfl rfl ⟨rfl, rfl⟩) ?_
       refine ahp 11 rfl rfl (by kernel_rfl) (by kernel_rfl) (zG (hs := [_, _]) zP ty9 rfl rfl (by decide) (by decide) rfl) ?_
       refine ahe 12 rfl (by kernel_rfl) ?_
       refine zv rfl (zd (i := 0) zaH rfl (WeakL.refl _) rfl (zk (L := [_, _]) (by omega) (by simp) (by simp)) ?_)
       rintro _ _ ⟨y95, rfl, hy95, rfl⟩
       refine ⟨fun _ => .inl ⟨⟨2, rfl⟩, ⟨1, rfl⟩⟩, ?_⟩
       refine ahp 13 rfl rfl (by kernel_rfl) (by kernel_rfl) (ze zam rfl ty9 (by decide) rfl) ?_
       refine ahe 14 rfl (by kernel_rfl) ?_
       first
       | refine zab (zz (i := 0) ty9 rfl rfl rfl rfl rfl (Nat.le_of_ble_eq_true rfl) ?_)
       | refine zab (zz (i := 1) ty9 rfl rfl rfl rfl rfl (Nat.le_of_ble_eq_true rfl) ?_)
       | refine zab (zz (i := 2) ty9 rfl rfl rfl rfl rfl (Nat.le_of_ble_eq_true rfl) ?_)
       | refine zab (zz (i := 3) ty9 rfl rfl rfl rfl rfl (Nat.le_of_ble_eq_true rfl) ?_)
       refine ⟨fun _ => by first | exact .inl ⟨0, rfl⟩ | exact .inl ⟨1, rfl⟩ | exact .inl ⟨2, rfl⟩ | exact .inr (by simp [zaO, Region.binds]), ?_⟩
       refine ahz (by kernel_rfl) ?_
       refine za ?_
       refine dq (ze zam rfl zat (by decide) rfl) ?_
       first
       | refine de rfl (zJ (i := 0) zat rfl rfl (.inl ⟨rfl, rfl⟩) ?_)
       | refine de rfl (zJ (i := 1) zat rfl rfl (.inl ⟨rfl, rfl⟩) ?_)
       | refine de rfl (zJ (i := 2) zat rfl rfl (.inl ⟨rfl, rfl⟩) ?_)
       | refine de rfl (zJ (i := 3) zat rfl rfl (.inl ⟨rfl, rfl⟩) ?_)
       refine de rfl (zd (i := 1) ca41 rfl (WeakL.refl _) rfl (zeo (l := gs) (c := zcv) ca42 (fun _ _ => zfa) (by omega)) ?_)
       rintro _ _ ⟨rfl, rfl⟩
       refine dn ?_
       refine zL (Ghost.perm (List.Perm.swap _ _ _)) ?_
       refine zC ?_
       refine dmv rfl ?_
       refine de rfl (ze5 (i := 2) (h := rDl ((⟨(111 :: Lib.decDigits k), y95, y27, y27 + y35, zbf zcv gs⟩ : DealS), (.slice (some ⟨gb, goff, none⟩) gs.length gcap))) zam rfl rfl rfl rfl rfl ?_)
       refine dq (zG (hs := [_]) zdv zam rfl rfl (by decide) (by decide) rfl) ?_
       refine de rfl (EOp.post_ghost (zay (i := 3) (v := u) (es := out.map rDl) zdv zam rfl rfl rfl rfl rfl (by simp [zbe, zn]) (by simp; omega) fun v103 => ⟨_, ztx, ?_⟩))
       refine das rfl ?_
       refine dn ?_
       refine zy ?_
       refine zh ?_
       try refine zL Ghost.drop12 ?_
       refine zC ?_
       refine dq (zB rfl rfl (by omega) (by omega)) ?_
       refine dmv rfl ?_
       refine dn ?_
       exact ⟨k + 1, ⟨v103, out ++ [((⟨(111 :: Lib.decDigits k), y95, y27, y27 + y35, zbf zcv gs⟩ : DealS), (.slice (some ⟨gb, goff, none⟩) gs.length gcap))], a4 + 1⟩, ⟨by omega, hq.add (x := ((⟨(111 :: Lib.decDigits k), y95, y27, y27 + y35, zbf zcv gs⟩ : DealS), (.slice (some ⟨gb, goff, none⟩) gs.length gcap))) ⟨⟨zgf (s := (111 :: Lib.decDigits k)) (n := 11) (by simp; omega) (by decide), by rw [zcw]; omega, fun g hg => hgs g (zp3 hg)⟩, by rw [zcw]; exact hg0⟩ (by omega)⟩, by dsimp only; omega, ⟨rfl, rfl, trivial⟩, (by repeat (first | exact zt | refine zw rfl ?_ | refine zu rfl rfl ?_)), zR (by dsimp only; simp only [List.map_append, List.map_cons, List.map_nil]; rfl)⟩
   ·try simp at h4
    refine zX ?_
    refine z7 ?_
    refine zbr ?_
    refine zO ?_
    refine zh ?_
    refine ze3 (15 :: 16 :: 105 :: 106 :: 107 :: 108 :: 109 :: 110 :: 111 :: 112 :: 113 :: 114 :: 115 :: 116 :: 117 :: 118 :: 119 :: 120 :: 121 :: 122 :: 123 :: 124 :: 125 :: 126 :: 127 :: 128 :: 129 :: 130 :: 131 :: 132 :: 133 :: 134 :: 135 :: 136 :: 137 :: 138 :: 139 :: 140 :: 141 :: 142 :: 143 :: 144 :: 145 :: 146 :: 147 :: 148 :: 149 :: 150 :: 151 :: 152 :: 153 :: 154 :: 155 :: 156 :: 157 :: 158 :: 159 :: 160 :: 161 :: 162 :: 163 :: 164 :: 165 :: 166 :: 167 :: 168 :: 169 :: 170 :: 171 :: 172 :: 173 :: 174 :: 175 :: 176 :: 177 :: 178 :: 179 :: 180 :: 181 :: 182 :: 183 :: 184 :: 185 :: 186 :: 187 :: 188 :: 189 :: 190 :: 191 :: 192 :: 193 :: 194 :: []) (fun (q5 : List DlV × Nat) => []) (fun (q5 : List DlV × Nat) => [St b l q5.2, .arr u 5 (q5.1.map rDl)] ++ q5.1.map sDl) (fun (q5 : List DlV × Nat) => q5.1.length ≤ 5 ∧ (∀ p ∈ q5.1, GoodDl1 p.1) ∧ q5.2 ≤ a + 400) ?_ ?_
    ·skip
     refine za ?_
     refine dmv rfl ?_
     first
     | refine de rfl (zaG (i := 0) zdv rfl rfl ?_)
     | refine de rfl (zaG (i := 1) zdv rfl rfl ?_)
     | refine de rfl (zaG (i := 2) zdv rfl rfl ?_)
     | refine de rfl (zaG (i := 3) zdv rfl rfl ?_)
     refine dq (zae rfl rfl) ?_
     refine dmv rfl ?_
     refine dg rfl rfl (fun hc => ⟨_, OpenTo.refl _, zf rfl⟩) ?_
     refine dgx (fun x M' => ∃ (y : Bool) (a3 : Nat), x = .bool y ∧ a3 ≤ a2 + 1 ∧ M' = [St b l a3, .arr u 5 (out.map rDl)] ++ out.map sDl) rfl rfl (fun hc => ⟨_, false, a2, rfl, by omega, rfl⟩) (fun hc => ⟨_, OpenTo.upd (t := 109) rfl (by first | exact hc | simp_all) (OpenTo.refl _), zd (i := 0) zeE rfl (WeakL.refl _) rfl (zal (a := a2) (by omega) (by omega)) (fun h M' hh => by
      obtain ⟨y, h1, h2⟩ := hh
      exact ⟨y, a2 + 1, h1, by omega, by rw [h2]; rfl⟩)⟩) ?_
     rintro _ _ ⟨y, a3, rfl, ha3, rfl⟩
     refine dq (zA rfl (.inr ⟨_, rfl, fun h => by simp_all⟩) (.inl rfl)) ?_
     refine dn ?_
     refine zi rfl (fun h17 => ?_) (fun h18 => ?_)
     ·try simp at h17
      have ho0 : 0 < out.length := by simp_all
      refine zdc (i := 1) rfl (fun h0 he => ?_) (fun ob off cap hv hcap => ?_)
      ·exfalso; have := congrArg List.length he; simp at this; subst this; simp at ho0
      subst hv
      refine za ?_
      refine dmv rfl ?_
      refine dmv rfl ?_
      refine dmv rfl ?_
      first
      | refine de rfl (zaG (i := 0) zdv rfl rfl ?_)
      | refine de rfl (zaG (i := 1) zdv rfl rfl ?_)
      | refine de rfl (zaG (i := 2) zdv rfl rfl ?_)
      | refine de rfl (zaG (i := 3) zdv rfl rfl ?_)
      first
      | refine de rfl (zd (i := 0) zdA rfl (WeakL.refl _) rfl (zaa (by first | assumption | omega | (simp; omega) | simp_all) (by first | assumption | omega | (simp; omega) | simp_all)) ?_)
      | refine de rfl (zd (i := 1) zdA rfl (WeakL.refl _) rfl (zaa (by first | assumption | omega | (simp; omega) | simp_all) (by first | assumption | omega | (simp; omega) | simp_all)) ?_)
      | refine de rfl (zd (i := 2) zdA rfl (WeakL.refl _) rfl (zaa (by first | assumption | omega | (simp; omega) | simp_all) (by first | assumption | omega | (simp; omega) | simp_all)) ?_)
      | refine de rfl (zd (i := 3) zdA rfl (WeakL.refl _) rfl (zaa (by first | assumption | omega | (simp; omega) | simp_all) (by first | assumption | omega | (simp; omega) | simp_all)) ?_)
      rintro _ _ ⟨y116, rfl, hy116, rfl⟩
      refine dq (zaC (j := y116) zdv zam rfl rfl rfl (by simp; omega)) ?_
      refine das rfl ?_
      refine dn ?_
      obtain ⟨⟨x1, xv⟩, hx⟩ : ∃ x, out[y116]? = some x := ⟨_, List.getElem?_eq_getElem (by omega)⟩
      obtain ⟨hgx1, hgx2⟩ := g2 _ (List.mem_of_getElem? hx)
      dsimp only at hgx1 hgx2
      refine za ?_
      refine dmv rfl ?_
      first
      | refine de rfl (zd (i := 0) zdA rfl (WeakL.refl _) rfl (zaa (by first | assumption | omega | (simp; omega) | simp_all) (by first | assumption | omega | (simp; omega) | simp_all)) ?_)
      | refine de rfl (zd (i := 1) zdA rfl (WeakL.refl _) rfl (zaa (by first | assumption | omega | (simp; omega) | simp_all) (by first | assumption | omega | (simp; omega) | simp_all)) ?_)
      | refine de rfl (zd (i := 2) zdA rfl (WeakL.refl _) rfl (zaa (by first | assumption | omega | (simp; omega) | simp_all) (by first | assumption | omega | (simp; omega) | simp_all)) ?_)
      | refine de rfl (zd (i := 3) zdA rfl (WeakL.refl _) rfl (zaa (by first | assumption | omega | (simp; omega) | simp_all) (by first | assumption | omega | (simp; omega) | simp_all)) ?_)
      rintro _ _ ⟨y119, rfl, hy119, rfl⟩
      refine dn ?_
      refine zq ?_
      refine za ?_
      refine dq (zau rfl rfl) ?_
      refine das rfl ?_
      refine dn ?_
      refine zi rfl (fun h19 => ?_) (fun h20 => ?_)
      ·try simp at h19
       refine zbU (fun M => ∃ i : Nat, M[i]? = some (.arr (.slice (some ⟨ob, off, none⟩) (out.map rDl).length cap) 5 (out.map rDl))) [6, 13] mixed ?_
       refine ahp 0 rfl rfl (by kernel_rfl) (by kernel_rfl) (zf rfl) ?_
       refine ahp 1 rfl rfl (by kernel_rfl) (by kernel_rfl) (zf rfl) ?_
       refine ahp 2 rfl rfl (by kernel_rfl) (by kernel_rfl) (zf rfl) ?_
       refine ahp 3 rfl rfl (by kernel_rfl) (by kernel_rfl) (zf rfl) ?_
       refine ahp 4 rfl rfl (by kernel_rfl) (by kernel_rfl) ((by first | exact zx rfl | exact zp rfl)) ?_
       refine ahp 5 rfl rfl (by kernel_rfl) (by kernel_rfl) ((by first | exact zb zam rfl ty9 (by decide) rfl | exact ze zam rfl ty9 (by decide) rfl)) ?_
       refine ahl 6 rfl rfl (by kernel_rfl) (by kernel_rfl) (by simp) ⟨1, rfl⟩ (fun M hM => by obtain ⟨i, hi⟩ := hM; exact za7 (i := i) (j := y116) 0 ty9 rfl (by omega) hi hx rfl rfl ⟨rfl, rfl⟩) ?_
       refine ahp 7 rfl rfl (by kernel_rfl) (by kernel_rfl) (zG (hs := [_, _, _]) zP ty9 rfl rfl (by decide) (by decide) rfl) ?_
       refine ahp 9 rfl rfl (by kernel_rfl) (by kernel_rfl) (zf rfl) ?_
       refine ahp 10 rfl rfl (by kernel_rfl) (by kernel_rfl) (zf rfl) ?_
       refine ahp 11 rfl rfl (by kernel_rfl) (by kernel_rfl) ((by first | exact zx rfl | exact zp rfl)) ?_
       refine ahp 12 rfl rfl (by kernel_rfl) (by kernel_rfl) ((by first | exact zb zam rfl ty9 (by decide) rfl | exact ze zam rfl ty9 (by decide) rfl)) ?_
       refine ahl 13 rfl rfl (by kernel_rfl) (by kernel_rfl) (by simp) ⟨1, rfl⟩ (fun M hM => by obtain ⟨i, hi⟩ := hM; exact za7 (i := i) (j := y116) 1 ty9 rfl (by omega) hi hx rfl rfl ⟨rfl, rfl⟩) ?_
       refine ahp 14 rfl rfl (by kernel_rfl) (by kernel_rfl) (zG (hs := [_, _, _]) zP ty9 rfl rfl (by decide) (by decide) rfl) ?_
       refine ahe 8 rfl (by kernel_rfl) ?_
       first
       | refine zv rfl (zd (i := 0) zaH rfl (WeakL.refl _) rfl (zk (L := [_, _, _]) (by first | assumption | omega | (simp; omega) | simp_all) (by first | assumption | omega | (simp; omega) | simp_all) (by first | assumption | omega | (simp; omega) | simp_all)) ?_)
       | refine zv rfl (zd (i := 1) zaH rfl (WeakL.refl _) rfl (zk (L := [_, _, _]) (by first | assumption | omega | (simp; omega) | simp_all) (by first | assumption | omega | (simp; omega) | simp_all) (by first | assumption | omega | (simp; omega) | simp_all)) ?_)
       | refine zv rfl (zd (i := 2) zaH rfl (WeakL.refl _) rfl (zk (L := [_, _, _]) (by first | assumption | omega | (simp; omega) | simp_all) (by first | assumption | omega | (simp; omega) | simp_all) (by first | assumption | omega | (simp; omega) | simp_all)) ?_)
       | refine zv rfl (zd (i := 3) zaH rfl (WeakL.refl _) rfl (zk (L := [_, _, _]) (by first | assumption | omega | (simp; omega) | simp_all) (by first | assumption | omega | (simp; omega) | simp_all) (by first | assumption | omega | (simp; omega) | simp_all)) ?_)
       rintro _ _ ⟨y169, rfl, hy169, rfl⟩
       refine ⟨fun _ => by first | exact .inl ⟨0, rfl⟩ | exact .inl ⟨1, rfl⟩ | exact .inl ⟨2, rfl⟩ | exact .inr (by simp [zaO, Region.binds]), ?_⟩
       refine ahe 15 rfl (by kernel_rfl) ?_
       first
       | refine zv rfl (zd (i := 0) zaH rfl (WeakL.refl _) rfl (zk (L := [_, _, _]) (by first | assumption | omega | (simp; omega) | simp_all) (by first | assumption | omega | (simp; omega) | simp_all) (by first | assumption | omega | (simp; omega) | simp_all)) ?_)
       | refine zv rfl (zd (i := 1) zaH rfl (WeakL.refl _) rfl (zk (L := [_, _, _]) (by first | assumption | omega | (simp; omega) | simp_all) (by first | assumption | omega | (simp; omega) | simp_all) (by first | assumption | omega | (simp; omega) | simp_all)) ?_)
       | refine zv rfl (zd (i := 2) zaH rfl (WeakL.refl _) rfl (zk (L := [_, _, _]) (by first | assumption | omega | (simp; omega) | simp_all) (by first | assumption | omega | (simp; omega) | simp_all) (by first | assumption | omega | (simp; omega) | simp_all)) ?_)
       | refine zv rfl (zd (i := 3) zaH rfl (WeakL.refl _) rfl (zk (L := [_, _, _]) (by first | assumption | omega | (simp; omega) | simp_all) (by first | assumption | omega | (simp; omega) | simp_all) (by first | assumption | omega | (simp; omega) | simp_all)) ?_)
       rintro _ _ ⟨y176, rfl, hy176, rfl⟩
       refine ⟨fun _ => by first | exact .inl ⟨0, rfl⟩ | exact .inl ⟨1, rfl⟩ | exact .inl ⟨2, rfl⟩ | exact .inr (by simp [zaO, Region.binds]), ?_⟩
       refine ahp 16 rfl rfl (by kernel_rfl) (by kernel_rfl) ((by first | exact zx rfl | exact zp rfl)) ?_
       refine ahp 17 rfl rfl (by kernel_rfl) (by kernel_rfl) ((by first | exact zb zam rfl ty9 (by decide) rfl | exact ze zam rfl ty9 (by decide) rfl)) ?_
       refine ahe 18 rfl (by kernel_rfl) ?_
       refine zab (zaQ (i := 1) (j := y116) (f := 0) (y := rDl (x1, xv)) (y' := rDl (⟨y169, x1.By, x1.From, x1.To, x1.Gives⟩, xv)) ty9 rfl (by omega) rfl rfl (zcf hx) rfl rfl (by simp [zn]) rfl ?_)
       refine ⟨fun _ => .inr (by simp [zaO, Region.binds]), ?_⟩
       refine ahp 19 rfl rfl (by kernel_rfl) (by kernel_rfl) ((by first | exact zx rfl | exact zp rfl)) ?_
       refine ahp 20 rfl rfl (by kernel_rfl) (by kernel_rfl) ((by first | exact zb zam rfl ty9 (by decide) rfl | exact ze zam rfl ty9 (by decide) rfl)) ?_
       refine ahe 21 rfl (by kernel_rfl) ?_
       refine zab (zaQ (i := 1) (j := y116) (f := 1) (y := rDl (⟨y169, x1.By, x1.From, x1.To, x1.Gives⟩, xv)) (y' := rDl (⟨y169, y176, x1.From, x1.To, x1.Gives⟩, xv)) ty9 rfl (by omega) rfl rfl (zcc (zcf hx)) rfl rfl (by simp [zn]) rfl ?_)
       refine ⟨fun _ => .inr (by simp [zaO, Region.binds]), ?_⟩
       refine ahz (by kernel_rfl) ?_
       refine zy ?_
       exact ⟨(out.set y116 (⟨y169, y176, x1.From, x1.To, x1.Gives⟩, xv), a3 + 4), ⟨by simp; omega, zft (P := fun p : DlV => GoodDl1 p.1) (fun p hp => (g2 p hp).1) (⟨by simp at hy169; rcases hy169 with rfl | rfl | rfl; exact hgx1.id; exact zk6; (unfold Sh; simp), hgx1.len, hgx1.all⟩), by dsimp only; omega⟩, trivial, (by repeat (first | exact zt | refine zw rfl ?_ | refine zu rfl rfl ?_)), zR (by dsimp only; rw [zn8 (n := (⟨y169, y176, x1.From, x1.To, x1.Gives⟩, xv)) hx rfl, List.map_set]; simp only [List.set_set]; rfl)⟩
      ·try simp at h20
       refine za ?_
       refine dq (zau rfl rfl) ?_
       refine das rfl ?_
       refine dn ?_
       refine zi rfl (fun h21 => ?_) (fun h22 => ?_)
       ·try simp at h21
        refine zC ?_
        refine dmv rfl ?_
        refine dmv rfl ?_
        refine dmv rfl ?_
        refine dq ((by first | exact zx rfl | exact zp rfl)) ?_
        refine dq ((by first | exact zb zam rfl zbZ (by decide) rfl | exact ze zam rfl zbZ (by decide) rfl)) ?_
        refine dq ((by first | exact zb zbZ rfl ty3 (by decide) rfl | exact ze zbZ rfl ty3 (by decide) rfl)) ?_
        refine de rfl (za7 (i := 1) (j := y116) 3 ty3 rfl (by omega) rfl hx rfl rfl ?_)
        refine dq (zG (hs := [_, _, _]) zbL ty3 rfl rfl (by decide) (by decide) rfl) ?_
        first
        | refine de rfl (zd (i := 0) zV rfl (WeakL.refl _) rfl (zc (L := [_, _, _]) (by first | assumption | omega | (simp; omega) | simp_all) (by first | assumption | omega | (simp; omega) | simp_all) (by first | assumption | omega | (simp; omega) | simp_all)) ?_)
        | refine de rfl (zd (i := 1) zV rfl (WeakL.refl _) rfl (zc (L := [_, _, _]) (by first | assumption | omega | (simp; omega) | simp_all) (by first | assumption | omega | (simp; omega) | simp_all) (by first | assumption | omega | (simp; omega) | simp_all)) ?_)
        | refine de rfl (zd (i := 2) zV rfl (WeakL.refl _) rfl (zc (L := [_, _, _]) (by first | assumption | omega | (simp; omega) | simp_all) (by first | assumption | omega | (simp; omega) | simp_all) (by first | assumption | omega | (simp; omega) | simp_all)) ?_)
        | refine de rfl (zd (i := 3) zV rfl (WeakL.refl _) rfl (zc (L := [_, _, _]) (by first | assumption | omega | (simp; omega) | simp_all) (by first | assumption | omega | (simp; omega) | simp_all) (by first | assumption | omega | (simp; omega) | simp_all)) ?_)
        rintro _ _ ⟨y191, rfl, hy191, rfl⟩
        refine dq ((by first | exact zx rfl | exact zp rfl)) ?_
        refine dq ((by first | exact zb zam rfl zbZ (by decide) rfl | exact ze zam rfl zbZ (by decide) rfl)) ?_
        refine dq ((by first | exact zb zbZ rfl ty3 (by decide) rfl | exact ze zbZ rfl ty3 (by decide) rfl)) ?_
        refine de0 (zaQ (i := 1) (j := y116) (f := 3) (y := rDl (x1, xv)) (y' := rDl (⟨x1.Id, x1.By, x1.From, y191, x1.Gives⟩, xv)) ty3 rfl (by omega) rfl rfl (zcf hx) rfl rfl (by simp [zn]) rfl ?_)
        refine dn ?_
        refine zy ?_
        exact ⟨(out.set y116 (⟨x1.Id, x1.By, x1.From, y191, x1.Gives⟩, xv), a3 + 3), ⟨by simp; omega, zft (P := fun p : DlV => GoodDl1 p.1) (fun p hp => (g2 p hp).1) (⟨hgx1.id, hgx1.len, hgx1.all⟩), by dsimp only; omega⟩, trivial, (by repeat (first | exact zt | refine zw rfl ?_ | refine zu rfl rfl ?_)), zR (by dsimp only; rw [zn8 (n := (⟨x1.Id, x1.By, x1.From, y191, x1.Gives⟩, xv)) hx rfl, List.map_set]; rfl)⟩
       ·try simp at h22
        refine zdc (i := y116 + 2) (show (out.map sDl)[y116]? = some (.arr xv 3 (x1.Gives.map za6)) from by rw [List.getElem?_map, hx]; rfl) (fun h0 he => ?_) (fun gb goff gcap hv2 hcap2 => ?_)
        ·exfalso; have := congrArg List.length he; simp at this; rw [this] at hgx2; simp at hgx2
        rw [List.length_map] at hv2 hcap2
        subst hv2
        refine zL (Ghost.perm (ze8 (i := y116 + 2) (show (out.map sDl)[y116]? = some (.arr (.slice (some ⟨gb, goff, none⟩) x1.Gives.length gcap) 3 (x1.Gives.map za6)) from by rw [List.getElem?_map, hx]; rfl))) ?_
        obtain ⟨g0, hg0x⟩ : ∃ g, x1.Gives[0]? = some g := ⟨_, List.getElem?_eq_getElem hgx2⟩
        refine za ?_
        refine dmv rfl ?_
        refine dq ((by first | exact zx rfl | exact zp rfl)) ?_
        refine dq ((by first | exact zb zam rfl zat (by decide) rfl | exact ze zam rfl zat (by decide) rfl)) ?_
        refine de rfl (za7 (i := 2) (j := y116) 4 zat rfl (by omega) rfl hx rfl rfl ?_)
        refine dq (zaC (j := 0) zat zaq rfl rfl rfl hgx2) ?_
        refine das rfl ?_
        refine dn ?_
        refine zbU (fun M => ∃ i : Nat, M[i]? = some (.arr (.slice (some ⟨gb, goff, none⟩) x1.Gives.length gcap) 3 (x1.Gives.map za6))) [7, 14, 18, 25] mixed ?_
        refine ahp 0 rfl rfl (by kernel_rfl) (by kernel_rfl) (zf rfl) ?_
        refine ahp 1 rfl rfl (by kernel_rfl) (by kernel_rfl) (zf rfl) ?_
        refine ahp 2 rfl rfl (by kernel_rfl) (by kernel_rfl) (zf rfl) ?_
        refine ahp 3 rfl rfl (by kernel_rfl) (by kernel_rfl) (zf rfl) ?_
        refine ahp 4 rfl rfl (by kernel_rfl) (by kernel_rfl) (zf rfl) ?_
        refine ahp 5 rfl rfl (by kernel_rfl) (by kernel_rfl) ((by first | exact zx rfl | exact zp rfl)) ?_
        refine ahp 6 rfl rfl (by kernel_rfl) (by kernel_rfl) ((by first | exact zb zaq rfl ty9 (by decide) rfl | exact ze zaq rfl ty9 (by decide) rfl)) ?_
        refine ahl 7 rfl rfl (by kernel_rfl) (by kernel_rfl) (by simp) (by first | exact ⟨0, rfl⟩ | exact ⟨1, rfl⟩) (fun M hM => by obtain ⟨i, hi⟩ := hM; exact za7 (i := i) (j := 0) (y := g0) 0 ty9 rfl (by omega) hi hg0x rfl rfl ⟨rfl, rfl⟩) ?_
        refine ahp 8 rfl rfl (by kernel_rfl) (by kernel_rfl) (zG (hs := [_, _]) zP ty9 rfl rfl (by decide) (by decide) rfl) ?_
        refine ahp 10 rfl rfl (by kernel_rfl) (by kernel_rfl) (zf rfl) ?_
        refine ahp 11 rfl rfl (by kernel_rfl) (by kernel_rfl) (zf rfl) ?_
        refine ahp 12 rfl rfl (by kernel_rfl) (by kernel_rfl) ((by first | exact zx rfl | exact zp rfl)) ?_
        refine ahp 13 rfl rfl (by kernel_rfl) (by kernel_rfl) ((by first | exact zb zaq rfl ty9 (by decide) rfl | exact ze zaq rfl ty9 (by decide) rfl)) ?_
        refine ahl 14 rfl rfl (by kernel_rfl) (by kernel_rfl) (by simp) (by first | exact ⟨0, rfl⟩ | exact ⟨1, rfl⟩) (fun M hM => by obtain ⟨i, hi⟩ := hM; exact za7 (i := i) (j := 0) (y := g0) 1 ty9 rfl (by omega) hi hg0x rfl rfl ⟨rfl, rfl⟩) ?_
        refine ahp 15 rfl rfl (by kernel_rfl) (by kernel_rfl) (zf rfl) ?_
        refine ahp 16 rfl rfl (by kernel_rfl) (by kernel_rfl) ((by first | exact zx rfl | exact zp rfl)) ?_
        refine ahp 17 rfl rfl (by kernel_rfl) (by kernel_rfl) ((by first | exact zb zaq rfl ty9 (by decide) rfl | exact ze zaq rfl ty9 (by decide) rfl)) ?_
        refine ahl 18 rfl rfl (by kernel_rfl) (by kernel_rfl) (by simp) (by first | exact ⟨0, rfl⟩ | exact ⟨1, rfl⟩) (fun M hM => by obtain ⟨i, hi⟩ := hM; exact za7 (i := i) (j := 0) (y := g0) 2 ty9 rfl (by omega) hi hg0x rfl rfl ⟨rfl, rfl⟩) ?_
        refine ahp 19 rfl rfl (by kernel_rfl) (by kernel_rfl) (zG (hs := [_, _]) zP ty9 rfl rfl (by decide) (by decide) rfl) ?_
        refine ahp 21 rfl rfl (by kernel_rfl) (by kernel_rfl) (zf rfl) ?_
        refine ahp 22 rfl rfl (by kernel_rfl) (by kernel_rfl) (zf rfl) ?_
        refine ahp 23 rfl rfl (by kernel_rfl) (by kernel_rfl) ((by first | exact zx rfl | exact zp rfl)) ?_
        refine ahp 24 rfl rfl (by kernel_rfl) (by kernel_rfl) ((by first | exact zb zaq rfl ty9 (by decide) rfl | exact ze zaq rfl ty9 (by decide) rfl)) ?_
        refine ahl 25 rfl rfl (by kernel_rfl) (by kernel_rfl) (by simp) (by first | exact ⟨0, rfl⟩ | exact ⟨1, rfl⟩) (fun M hM => by obtain ⟨i, hi⟩ := hM; exact za7 (i := i) (j := 0) (y := g0) 2 ty9 rfl (by omega) hi hg0x rfl rfl ⟨rfl, rfl⟩) ?_
        refine ahp 26 rfl rfl (by kernel_rfl) (by kernel_rfl) (zG (hs := [_, _]) zP ty9 rfl rfl (by decide) (by decide) rfl) ?_
        refine ahe 9 rfl (by kernel_rfl) ?_
        first
        | refine zv rfl (zd (i := 0) zaH rfl (WeakL.refl _) rfl (zk (L := [_, _]) (by first | assumption | omega | (simp; omega) | simp_all) (by first | assumption | omega | (simp; omega) | simp_all) (by first | assumption | omega | (simp; omega) | simp_all)) ?_)
        | refine zv rfl (zd (i := 1) zaH rfl (WeakL.refl _) rfl (zk (L := [_, _]) (by first | assumption | omega | (simp; omega) | simp_all) (by first | assumption | omega | (simp; omega) | simp_all) (by first | assumption | omega | (simp; omega) | simp_all)) ?_)
        | refine zv rfl (zd (i := 2) zaH rfl (WeakL.refl _) rfl (zk (L := [_, _]) (by first | assumption | omega | (simp; omega) | simp_all) (by first | assumption | omega | (simp; omega) | simp_all) (by first | assumption | omega | (simp; omega) | simp_all)) ?_)
        | refine zv rfl (zd (i := 3) zaH rfl (WeakL.refl _) rfl (zk (L := [_, _]) (by first | assumption | omega | (simp; omega) | simp_all) (by first | assumption | omega | (simp; omega) | simp_all) (by first | assumption | omega | (simp; omega) | simp_all)) ?_)
        rintro _ _ ⟨y134, rfl, hy134, rfl⟩
        refine ⟨fun _ => by first | exact .inl ⟨0, rfl⟩ | exact .inl ⟨1, rfl⟩ | exact .inl ⟨2, rfl⟩ | exact .inr (by simp [zaO, Region.binds]), ?_⟩
        refine ahe 20 rfl (by kernel_rfl) ?_
        first
        | refine zv rfl (zd (i := 0) zaH rfl (WeakL.refl _) rfl (zk (L := [_, _]) (by first | assumption | omega | (simp; omega) | simp_all) (by first | assumption | omega | (simp; omega) | simp_all) (by first | assumption | omega | (simp; omega) | simp_all)) ?_)
        | refine zv rfl (zd (i := 1) zaH rfl (WeakL.refl _) rfl (zk (L := [_, _]) (by first | assumption | omega | (simp; omega) | simp_all) (by first | assumption | omega | (simp; omega) | simp_all) (by first | assumption | omega | (simp; omega) | simp_all)) ?_)
        | refine zv rfl (zd (i := 2) zaH rfl (WeakL.refl _) rfl (zk (L := [_, _]) (by first | assumption | omega | (simp; omega) | simp_all) (by first | assumption | omega | (simp; omega) | simp_all) (by first | assumption | omega | (simp; omega) | simp_all)) ?_)
        | refine zv rfl (zd (i := 3) zaH rfl (WeakL.refl _) rfl (zk (L := [_, _]) (by first | assumption | omega | (simp; omega) | simp_all) (by first | assumption | omega | (simp; omega) | simp_all) (by first | assumption | omega | (simp; omega) | simp_all)) ?_)
        rintro _ _ ⟨y145, rfl, hy145, rfl⟩
        refine ⟨fun _ => by first | exact .inl ⟨0, rfl⟩ | exact .inl ⟨1, rfl⟩ | exact .inl ⟨2, rfl⟩ | exact .inr (by simp [zaO, Region.binds]), ?_⟩
        refine ahe 27 rfl (by kernel_rfl) ?_
        first
        | refine zv rfl (zd (i := 0) zaH rfl (WeakL.refl _) rfl (zk (L := [_, _]) (by first | assumption | omega | (simp; omega) | simp_all) (by first | assumption | omega | (simp; omega) | simp_all) (by first | assumption | omega | (simp; omega) | simp_all)) ?_)
        | refine zv rfl (zd (i := 1) zaH rfl (WeakL.refl _) rfl (zk (L := [_, _]) (by first | assumption | omega | (simp; omega) | simp_all) (by first | assumption | omega | (simp; omega) | simp_all) (by first | assumption | omega | (simp; omega) | simp_all)) ?_)
        | refine zv rfl (zd (i := 2) zaH rfl (WeakL.refl _) rfl (zk (L := [_, _]) (by first | assumption | omega | (simp; omega) | simp_all) (by first | assumption | omega | (simp; omega) | simp_all) (by first | assumption | omega | (simp; omega) | simp_all)) ?_)
        | refine zv rfl (zd (i := 3) zaH rfl (WeakL.refl _) rfl (zk (L := [_, _]) (by first | assumption | omega | (simp; omega) | simp_all) (by first | assumption | omega | (simp; omega) | simp_all) (by first | assumption | omega | (simp; omega) | simp_all)) ?_)
        rintro _ _ ⟨y152, rfl, hy152, rfl⟩
        refine ⟨fun _ => by first | exact .inl ⟨0, rfl⟩ | exact .inl ⟨1, rfl⟩ | exact .inl ⟨2, rfl⟩ | exact .inr (by simp [zaO, Region.binds]), ?_⟩
        refine ahp 28 rfl rfl (by kernel_rfl) (by kernel_rfl) ((by first | exact zx rfl | exact zp rfl)) ?_
        refine ahp 29 rfl rfl (by kernel_rfl) (by kernel_rfl) ((by first | exact zb zaq rfl ty9 (by decide) rfl | exact ze zaq rfl ty9 (by decide) rfl)) ?_
        refine ahe 30 rfl (by kernel_rfl) ?_
        first
        | refine zab (zaQ (i := 0) (j := 0) (f := 0) (y := za6 g0) (y' := za6 ⟨y134, g0.From, g0.To⟩) ty9 rfl (by omega) rfl rfl (zcf hg0x) rfl rfl (by simp [zn]) rfl ?_)
        | refine zab (zaQ (i := 1) (j := 0) (f := 0) (y := za6 g0) (y' := za6 ⟨y134, g0.From, g0.To⟩) ty9 rfl (by omega) rfl rfl (zcf hg0x) rfl rfl (by simp [zn]) rfl ?_)
        refine ⟨fun _ => .inr (by simp [zaO, Region.binds]), ?_⟩
        refine ahp 31 rfl rfl (by kernel_rfl) (by kernel_rfl) ((by first | exact zx rfl | exact zp rfl)) ?_
        refine ahp 32 rfl rfl (by kernel_rfl) (by kernel_rfl) ((by first | exact zb zaq rfl ty9 (by decide) rfl | exact ze zaq rfl ty9 (by decide) rfl)) ?_
        refine ahe 33 rfl (by kernel_rfl) ?_
        first
        | refine zab (zaQ (i := 0) (j := 0) (f := 1) (y := za6 ⟨y134, g0.From, g0.To⟩) (y' := za6 ⟨y134, y145, g0.To⟩) ty9 rfl (by omega) rfl rfl (zcc (zcf hg0x)) rfl rfl (by simp [zn]) rfl ?_)
        | refine zab (zaQ (i := 1) (j := 0) (f := 1) (y := za6 ⟨y134, g0.From, g0.To⟩) (y' := za6 ⟨y134, y145, g0.To⟩) ty9 rfl (by omega) rfl rfl (zcc (zcf hg0x)) rfl rfl (by simp [zn]) rfl ?_)
        refine ⟨fun _ => .inr (by simp [zaO, Region.binds]), ?_⟩
        refine ahp 34 rfl rfl (by kernel_rfl) (by kernel_rfl) ((by first | exact zx rfl | exact zp rfl)) ?_
        refine ahp 35 rfl rfl (by kernel_rfl) (by kernel_rfl) ((by first | exact zb zaq rfl ty9 (by decide) rfl | exact ze zaq rfl ty9 (by decide) rfl)) ?_
        refine ahe 36 rfl (by kernel_rfl) ?_
        first
        | refine zab (zaQ (i := 0) (j := 0) (f := 2) (y := za6 ⟨y134, y145, g0.To⟩) (y' := za6 ⟨y134, y145, y152⟩) ty9 rfl (by omega) rfl rfl (zcc (zcc (zcf hg0x))) rfl rfl (by simp [zn]) rfl ?_)
        | refine zab (zaQ (i := 1) (j := 0) (f := 2) (y := za6 ⟨y134, y145, g0.To⟩) (y' := za6 ⟨y134, y145, y152⟩) ty9 rfl (by omega) rfl rfl (zcc (zcc (zcf hg0x))) rfl rfl (by simp [zn]) rfl ?_)
        refine ⟨fun _ => .inr (by simp [zaO, Region.binds]), ?_⟩
        refine ahz (by kernel_rfl) ?_
        refine zy ?_
        exact ⟨(out.set y116 (⟨x1.Id, x1.By, x1.From, x1.To, x1.Gives.set 0 ⟨y134, y145, y152⟩⟩, .slice (some ⟨gb, goff, none⟩) x1.Gives.length gcap), a3 + 5), ⟨by simp; omega, zft (P := fun p : DlV => GoodDl1 p.1) (fun p hp => (g2 p hp).1) (⟨hgx1.id, by simpa using hgx1.len, zft (P := fun g : GiveS => Sh g.Player) hgx1.all (by simp at hy134; rcases hy134 with rfl | rfl; exact hgx1.all g0 (List.mem_of_getElem? hg0x); exact zk6)⟩), by dsimp only; omega⟩, trivial, (by repeat (first | exact zt | refine zw rfl ?_ | refine zu rfl rfl ?_)), by
         dsimp only
         rw [zrE (n := (⟨x1.Id, x1.By, x1.From, x1.To, x1.Gives.set 0 ⟨y134, y145, y152⟩⟩, .slice (some ⟨gb, goff, none⟩) x1.Gives.length gcap)) hx rfl]
         refine List.Perm.trans ?_ (zs7 (n := (⟨x1.Id, x1.By, x1.From, x1.To, x1.Gives.set 0 ⟨y134, y145, y152⟩⟩, .slice (some ⟨gb, goff, none⟩) x1.Gives.length gcap)) (by omega))
         refine List.Perm.trans (zR ?_) (List.Perm.swap _ _ _)
         simp only [sDl, List.map_set, List.set_set]; rfl⟩
     ·try simp at h18
      refine zm ?_
      exact ⟨(out, a3), ⟨by dsimp only; omega, fun p hp => (g2 p hp).1, by dsimp only; omega⟩, trivial, (by repeat (first | exact zt | refine zw rfl ?_ | refine zu rfl rfl ?_)), zR rfl⟩
    ·intro q5 hq5
     obtain ⟨k1, a4⟩ := q5
     dsimp only at hq5
     obtain ⟨q1, q2, q3⟩ := hq5
     refine zL (Ghost.of_eq (M' := [St b l a4] ++ .arr u 5 (([] : List DealS).map zii ++ k1.map fun p : DlV => HVal.agg [.str p.1.Id, .str p.1.By, .int .i64 p.1.From, .int .i64 p.1.To, .raw p.2]) :: k1.map fun p : DlV => MObj.arr p.2 3 ((DealS.Gives p.1).map za6)) rfl) ?_
     refine zL (Ghost.fz_each (A := [St b l a4]) (enc := zii) (raw := fun y v => HVal.agg [.str y.Id, .str y.By, .int .i64 y.From, .int .i64 y.To, .raw v]) (cs := fun y v => [HVal.str y.Id, .str y.By, .int .i64 y.From, .int .i64 y.To, .raw v]) (st := DealS.Gives) (eb := za6) (j := 4) (fun _ _ => rfl) (fun _ _ => rfl) (fun _ _ => rfl) k1 []) ?_
     refine za ?_
     refine dmv rfl ?_
     refine das rfl ?_
     refine dn ?_
     refine zl ?_
     first
     | exact ⟨_, _, Ghost.sub (Sub.refl _), _, .slice 5 [], rfl, za3 5, [], a, rfl, ⟨by simp, by simp⟩, fun _ => rfl, by omega, rfl⟩
     | exact zbE (Ghost.fa 6 (i := 1) rfl rfl) rfl ⟨k1.map (·.1), a4, by simp, ⟨by simpa using q1, fun x hx => by
        obtain ⟨p, hp, rfl⟩ := List.mem_map.1 hx; exact q2 p hp⟩, fun e => absurd (congrArg List.length e) (by simp_all), by omega, rfl⟩
end
section
open Go.HL
/-- benchwarmer/benchref1.TradesFault -/
theorem zez [Tracks] {m : MarketS} {o : List OwnerS} {l : List DealS} {a : List ReplyS} (ht : m.Teams.length ≤ 1000000) (hms : ∀ s ∈ m.Teams, s.length ≤ 1000000) (ho : o.length ≤ 1000000) (hos : ∀ x ∈ o, x.Player.length ≤ 1000000) (hl : l.length ≤ 1000000) (hb : ∀ x ∈ l, x.Id.length ≤ 1000000 ∧ x.Gives.length ≤ 1000000 ∧ ∀ g ∈ x.Gives, g.Player.length ≤ 1000000) (ha : a.length ≤ 1000000) (has : ∀ x ∈ a, x.Offer.length ≤ 1000000) : ConP Tryz.prog 12 [zaM m, za8 o, zec l, zb3 a] (.int .i64 (zbX m o l a)) := by
 refine Con.of_body Tryz.func12 rfl Tryz.ntmps12 rfl rfl ?_
 refine za ?_
 refine dq (zas rfl rfl) ?_
 refine das rfl ?_
 refine dn ?_
 refine zj ?_
 refine za ?_
 refine dq (zH zT rfl rfl rfl rfl) ?_
 refine dq (zo ca44 rfl (WeakL.refl _) (zgP (m := m) ht hms)) ?_
 refine das rfl ?_
 refine dn ?_
 refine za ?_
 refine dmv rfl ?_
 refine dq (zaD rfl rfl) ?_
 refine dn ?_
 refine zi rfl (fun h1 => ?_) (fun h2 => ?_)
 ·try simp at h1
  refine za ?_
  refine dmv rfl ?_
  refine das rfl ?_
  refine dn ?_
  refine zl ?_
  refine zD rfl ?_
  show HVal.int .i64 _ = _
  first
  | (rw [zlA (by simpa using h1)]; done)
  | (rw [← zms (by simpa using h2)]; done)
 ·try simp at h2
  refine zm ?_
  refine zh ?_
  refine zaF (fun _ => True) [] mixed ?_
  refine ahp 0 rfl rfl (by kernel_rfl) (by kernel_rfl) (zH zT rfl rfl rfl rfl) ?_
  refine ahp 1 rfl rfl (by kernel_rfl) (by kernel_rfl) (zf rfl) ?_
  refine ahp 2 rfl rfl (by kernel_rfl) (by kernel_rfl) (zo ca45 rfl (WeakL.refl _) (zgU (m := m) (o := o) ht ho hos)) ?_
  refine ahp 3 rfl rfl (by kernel_rfl) (by kernel_rfl) (zH zT rfl rfl rfl rfl) ?_
  refine ahp 4 rfl rfl (by kernel_rfl) (by kernel_rfl) (zf rfl) ?_
  refine ahp 5 rfl rfl (by kernel_rfl) (by kernel_rfl) (zo ca46 rfl (WeakL.refl _) (zgQ (m := m) (l := l) ht hl hb)) ?_
  refine ahp 6 rfl rfl (by kernel_rfl) (by kernel_rfl) (zH zT rfl rfl rfl rfl) ?_
  refine ahp 7 rfl rfl (by kernel_rfl) (by kernel_rfl) (zf rfl) ?_
  refine ahp 8 rfl rfl (by kernel_rfl) (by kernel_rfl) (zo ca47 rfl (WeakL.refl _) (zgu (m := m) (l := a) ht ha has)) ?_
  refine ahp 9 rfl rfl (by kernel_rfl) (by kernel_rfl) (zG (hs := [_, _, _]) zg0 zjm rfl rfl (by decide) (by decide) rfl) ?_
  refine ahp 10 rfl rfl (by kernel_rfl) (by kernel_rfl) (zo ca17 rfl (WeakL.refl _) (zi0 (l := [_, _, _]) (by simp))) ?_
  refine ahp 11 rfl rfl (by kernel_rfl) (by kernel_rfl) (zar rfl) ?_
  refine ahz (by kernel_rfl) ?_
  refine zl ?_
  refine zD rfl ?_
  show HVal.int .i64 _ = _
  first
  | (rw [zlA (by simpa using h1)]; done)
  | (rw [← zms (by simpa using h2)]; done)
end
section
open Go.HL
/-- slices.Index[[]benchwarmer/api.Stage,benchwarmer/api.Stage] -/
theorem zeF [Tracks] {l : List StageS} {y : StageS} (hl : l.length ≤ 1000000) : ConP Tryz.prog 67 [zlM l, zc3 y] (.int .i64 (zdZ (fun z => zhl zc3 y z) l 0)) := by
 refine Con.of_body Tryz.func67 rfl Tryz.ntmps67 rfl rfl ?_
 refine za ?_
 refine dq (zas rfl rfl) ?_
 refine das rfl ?_
 refine dn ?_
 refine zj ?_
 refine za ?_
 refine dmv rfl ?_
 refine dq (zK zjs rfl) ?_
 refine dmv rfl ?_
 refine dn ?_
 refine zq ?_
 refine zak [4, 5, 8, 9, 10, 11, 12, 13, 14, 15, 16, 17, 18] (fun (k : Nat) => [(8, .int .i64 k)]) (fun (k : Nat) => []) (fun (k : Nat) => k ≤ l.length ∧ (zdZ (fun z => zhl zc3 y z) l 0 = zdZ (fun z => zhl zc3 y z) (l.drop k) k)) (fun (k : Nat) => l.length - k) (0) ?_ ?_ ?_ ?_
 ·exact ⟨Nat.zero_le _, rfl⟩
 ·exact ⟨rfl, trivial⟩
 ·exact List.Perm.refl _
 ·intro k hinv
  obtain ⟨hk, hg⟩ := hinv
  refine za ?_
  refine dq (zS rfl rfl) ?_
  refine dn ?_
  refine zj ?_
  refine zi rfl (fun h1 => ?_) (fun h2 => ?_)
  ·try simp at h1
   obtain ⟨x, hx⟩ : ∃ x, l[k]? = some x := ⟨_, List.getElem?_eq_getElem h1⟩
   have hdx := zU hx
   rw [hdx] at hg
   refine zm ?_
   refine zh ?_
   refine zj ?_
   refine zq ?_
   refine za ?_
   refine dmv rfl ?_
   refine das rfl ?_
   refine dn ?_
   refine zaF (fun _ => True) [] mixed ?_
   refine ahp 0 rfl rfl (by kernel_rfl) (by kernel_rfl) (zH zeU rfl rfl rfl rfl) ?_
   refine ahp 1 rfl rfl (by kernel_rfl) (by kernel_rfl) (zf rfl) ?_
   refine ahp 2 rfl rfl (by kernel_rfl) (by kernel_rfl) (zf rfl) ?_
   refine ahp 3 rfl rfl (by kernel_rfl) (by kernel_rfl) (zW zjs zeU rfl rfl rfl (by first | assumption | simp_all)) ?_
   refine ahp 4 rfl rfl (by kernel_rfl) (by kernel_rfl) (zH zeU rfl rfl rfl rfl) ?_
   refine ahp 5 rfl rfl (by kernel_rfl) (by kernel_rfl) (zr2 zeU eq59 rfl rfl ⟨rfl, ⟨_, _, _, _, ty9, rfl⟩, ⟨rfl, ⟨_, _, _, _, ty3, rfl⟩, ⟨rfl, ⟨_, _, _, _, ty3, rfl⟩, trivial⟩⟩⟩) ?_
   refine ahz (by kernel_rfl) ?_
   refine zi rfl (fun h3 => ?_) (fun h4 => ?_)
   ·try simp at h3
    refine za ?_
    refine dmv rfl ?_
    refine das rfl ?_
    refine dn ?_
    refine zl ?_
    refine zD rfl ?_
    show HVal.int .i64 _ = _
    first | (rw [hg]; rfl) | (rw [hg, zdZ, if_pos (show zhl zc3 y x = true from h3)])
   ·try simp at h4
    refine zm ?_
    refine zy ?_
    refine zh ?_
    refine zC ?_
    refine dq (zB rfl rfl (by omega) (by omega)) ?_
    refine dmv rfl ?_
    refine dn ?_
    refine ⟨k + 1, ?_, ?_, ⟨rfl, trivial⟩, (by repeat (first | exact zt | refine zw rfl ?_ | refine zu rfl rfl ?_)), List.Perm.refl _⟩
    ·refine ⟨by omega, ?_⟩
     rw [hg, zdZ, if_neg (by rw [show zhl zc3 y x = false from h4]; simp)]; rfl
    ·dsimp only; omega
  ·try simp at h2
   have hnk : l.length ≤ k := by omega
   obtain rfl : k = l.length := by omega
   rw [zaV (Nat.le_refl _)] at hg
   refine zX ?_
   refine z7 ?_
   refine zaw ?_
   refine zO ?_
   refine zh ?_
   refine za ?_
   refine das rfl ?_
   refine dn ?_
   refine zl ?_
   refine zD rfl ?_
   show HVal.int .i64 _ = _
   first | (rw [hg]; rfl) | (rw [hg, zdZ, if_pos (show zhl zc3 y x = true from h3)])

/-- slices.Contains[[]benchwarmer/api.Stage,benchwarmer/api.Stage] -/
theorem zd8 [Tracks] {l : List StageS} {y : StageS} (hl : l.length ≤ 1000000) : ConP Tryz.prog 32 [zlM l, zc3 y] (.bool (l.any fun z => zhl zc3 y z)) := by
 refine Con.of_body Tryz.func32 rfl Tryz.ntmps32 rfl rfl ?_
 refine za ?_
 refine dq (zas rfl rfl) ?_
 refine das rfl ?_
 refine dn ?_
 refine za ?_
 refine dmv rfl ?_
 refine dq (zH zeU rfl rfl rfl rfl) ?_
 refine dq (zo ca67 rfl (WeakL.refl _) (zeF (by first | assumption | omega | (simp; omega) | simp_all))) ?_
 refine dq (zbS rfl rfl) ?_
 refine das rfl ?_
 refine dn ?_
 refine zl ?_
 refine zD rfl ?_
 show HVal.bool _ = _
 rw [← zhd _ l 0 (by omega)]

set_option maxHeartbeats 4000000 in
/-- benchwarmer/benchkeep1.TradesKeepRosters -/
theorem zk1 [Tracks] {l : List Int} (hT : Tracks.on = false) : ConP Tryz.prog 4 [.slice 1 (l.map (.int .i64))] (.bool true) := by
 refine Con.of_body Tryz.func4 rfl Tryz.ntmps4 rfl rfl ?_
 refine za ?_
 refine das rfl ?_
 refine dn ?_
 refine za ?_
 refine dmv rfl ?_
 refine dq (zaB (cs := [_, _]) zgB pl25 rfl) ?_
 refine de rfl (zhq rfl rfl fun b => ?_)
 refine zq3 (M' := [St b l 0]) rfl ?_
 refine das rfl ?_
 refine dn ?_
 refine za ?_
 refine dmv rfl ?_
 first
 | refine de rfl (zd (i := 0) ca6 rfl (WeakL.refl _) rfl (zaW (by first | assumption | omega | (simp; omega) | simp_all)) ?_)
 | refine de rfl (zd (i := 1) ca6 rfl (WeakL.refl _) rfl (zaW (by first | assumption | omega | (simp; omega) | simp_all)) ?_)
 | refine de rfl (zd (i := 2) ca6 rfl (WeakL.refl _) rfl (zaW (by first | assumption | omega | (simp; omega) | simp_all)) ?_)
 | refine de rfl (zd (i := 3) ca6 rfl (WeakL.refl _) rfl (zaW (by first | assumption | omega | (simp; omega) | simp_all)) ?_)
 rintro _ _ ⟨m20, a20, rfl, hm20, ha20, rfl⟩
 refine de rfl (zY zT rfl fun b4 => ?_)
 refine de0 (zad zT rfl rfl rfl rfl rfl ?_)
 refine dn ?_
 refine zL (Ghost.fc0 4 rfl) ?_
 refine za ?_
 refine dmv rfl ?_
 refine dq (zH zT rfl rfl rfl rfl) ?_
 first
 | refine de rfl (zd (i := 0) ca7 rfl (WeakL.refl _) rfl (zaU (by first | assumption | omega | (simp; omega) | simp_all) (by first | assumption | omega | (simp; omega) | simp_all)) ?_)
 | refine de rfl (zd (i := 1) ca7 rfl (WeakL.refl _) rfl (zaU (by first | assumption | omega | (simp; omega) | simp_all) (by first | assumption | omega | (simp; omega) | simp_all)) ?_)
 | refine de rfl (zd (i := 2) ca7 rfl (WeakL.refl _) rfl (zaU (by first | assumption | omega | (simp; omega) | simp_all) (by first | assumption | omega | (simp; omega) | simp_all)) ?_)
 | refine de rfl (zd (i := 3) ca7 rfl (WeakL.refl _) rfl (zaU (by first | assumption | omega | (simp; omega) | simp_all) (by first | assumption | omega | (simp; omega) | simp_all)) ?_)
 rintro _ _ ⟨o23, a23, rfl, ho23, ha23, rfl⟩
 refine das rfl ?_
 refine dn ?_
 refine zaF (fun _ => True) [] mixed ?_
 refine ahp 0 rfl rfl (by kernel_rfl) (by kernel_rfl) (zf rfl) ?_
 refine ahp 1 rfl rfl (by kernel_rfl) (by kernel_rfl) (zH zT rfl rfl rfl rfl) ?_
 refine ahp 2 rfl rfl (by kernel_rfl) (by kernel_rfl) (zf rfl) ?_
 refine ahp 4 rfl rfl (by kernel_rfl) (by kernel_rfl) (zf rfl) ?_
 refine ahp 5 rfl rfl (by kernel_rfl) (by kernel_rfl) (zH zT rfl rfl rfl rfl) ?_
 refine ahp 7 rfl rfl (by kernel_rfl) (by kernel_rfl) (zf rfl) ?_
 refine ahe 3 rfl (by kernel_rfl) ?_
 first
 | refine zv rfl (zd (i := 0) ca8 rfl (WeakL.refl _) rfl (zaT (by first | assumption | omega | (simp; omega) | simp_all) (by first | assumption | omega | (simp; omega) | simp_all) (by first | assumption | omega | (simp; omega) | simp_all)) ?_)
 | refine zv rfl (zd (i := 1) ca8 rfl (WeakL.refl _) rfl (zaT (by first | assumption | omega | (simp; omega) | simp_all) (by first | assumption | omega | (simp; omega) | simp_all) (by first | assumption | omega | (simp; omega) | simp_all)) ?_)
 | refine zv rfl (zd (i := 2) ca8 rfl (WeakL.refl _) rfl (zaT (by first | assumption | omega | (simp; omega) | simp_all) (by first | assumption | omega | (simp; omega) | simp_all) (by first | assumption | omega | (simp; omega) | simp_all)) ?_)
 | refine zv rfl (zd (i := 3) ca8 rfl (WeakL.refl _) rfl (zaT (by first | assumption | omega | (simp; omega) | simp_all) (by first | assumption | omega | (simp; omega) | simp_all) (by first | assumption | omega | (simp; omega) | simp_all)) ?_)
 rintro _ _ ⟨x27, a27, rfl, hx27, hxo27, ha27, rfl⟩
 refine ⟨fun _ => .inl trivial, ?_⟩
 refine ahe 6 rfl (by kernel_rfl) ?_
 first
 | refine zv rfl (zd (i := 0) ca9 rfl (WeakL.refl _) rfl (zaP (by first | assumption | omega | (simp; omega) | simp_all) (by first | assumption | omega | (simp; omega) | simp_all)) ?_)
 | refine zv rfl (zd (i := 1) ca9 rfl (WeakL.refl _) rfl (zaP (by first | assumption | omega | (simp; omega) | simp_all) (by first | assumption | omega | (simp; omega) | simp_all)) ?_)
 | refine zv rfl (zd (i := 2) ca9 rfl (WeakL.refl _) rfl (zaP (by first | assumption | omega | (simp; omega) | simp_all) (by first | assumption | omega | (simp; omega) | simp_all)) ?_)
 | refine zv rfl (zd (i := 3) ca9 rfl (WeakL.refl _) rfl (zaP (by first | assumption | omega | (simp; omega) | simp_all) (by first | assumption | omega | (simp; omega) | simp_all)) ?_)
 rintro _ _ ⟨r30, a30, rfl, hr30, ha30, rfl⟩
 refine ⟨fun _ => .inl trivial, ?_⟩
 refine ahe 8 rfl (by kernel_rfl) ?_
 first
 | refine zv rfl (zd (i := 0) zbT rfl (WeakL.refl _) rfl (zI (by first | assumption | omega | (simp; omega) | simp_all) (by first | assumption | omega | (simp; omega) | simp_all) (by first | assumption | omega | (simp; omega) | simp_all) (by first | assumption | omega | (simp; omega) | simp_all)) ?_)
 | refine zv rfl (zd (i := 1) zbT rfl (WeakL.refl _) rfl (zI (by first | assumption | omega | (simp; omega) | simp_all) (by first | assumption | omega | (simp; omega) | simp_all) (by first | assumption | omega | (simp; omega) | simp_all) (by first | assumption | omega | (simp; omega) | simp_all)) ?_)
 | refine zv rfl (zd (i := 2) zbT rfl (WeakL.refl _) rfl (zI (by first | assumption | omega | (simp; omega) | simp_all) (by first | assumption | omega | (simp; omega) | simp_all) (by first | assumption | omega | (simp; omega) | simp_all) (by first | assumption | omega | (simp; omega) | simp_all)) ?_)
 | refine zv rfl (zd (i := 3) zbT rfl (WeakL.refl _) rfl (zI (by first | assumption | omega | (simp; omega) | simp_all) (by first | assumption | omega | (simp; omega) | simp_all) (by first | assumption | omega | (simp; omega) | simp_all) (by first | assumption | omega | (simp; omega) | simp_all)) ?_)
 rintro _ _ ⟨y32, rfl, hy32, rfl⟩
 refine ⟨fun _ => .inl trivial, ?_⟩
 refine ahp 9 rfl rfl (by kernel_rfl) (by kernel_rfl) (zar rfl) ?_
 refine ahp 10 rfl rfl (by kernel_rfl) (by kernel_rfl) (zar rfl) ?_
 refine ahp 11 rfl rfl (by kernel_rfl) (by kernel_rfl) (zar rfl) ?_
 refine ahz (by kernel_rfl) ?_
 refine zj ?_
 have hm5 := hm20.len
 have hol := ho23.len
 have hxl := hx27.len
 have hrl := hr30.len
 have hms : ∀ s ∈ m20.Teams, s.length ≤ 1000000 := fun s hs => Nat.le_trans (hm20.sh s hs) (by decide)
 have hxg : ∀ x ∈ x27, x.Gives.length ≤ 1000000 := fun x hx => Nat.le_trans (hx27.all x hx).len (by decide)
 have hxb : ∀ x ∈ x27, x.Id.length ≤ 1000000 ∧ x.Gives.length ≤ 1000000 ∧ ∀ g ∈ x.Gives, g.Player.length ≤ 1000000 := fun x hx => ⟨(hx27.all x hx).id, hxg x hx, (hx27.all x hx).all⟩
 have h0o : x27 ≠ [] → 0 < o23.length := fun hne => by
  rcases Nat.eq_zero_or_pos o23.length with q | q
  ·exact absurd (hxo27 (List.length_eq_zero_iff.1 q)) hne
  ·exact q
 refine za ?_
 refine dq (zH zT rfl rfl rfl rfl) ?_
 refine dmv rfl ?_
 refine dmv rfl ?_
 refine dmv rfl ?_
 refine dq (zo ca12 rfl (WeakL.refl _) (zez (m := m20) (o := o23) (l := x27) (a := r30) (by omega) hms (by omega) (fun x hx => (ho23.all x hx).1) (by omega) hxb (by omega) hr30.all)) ?_
 refine dq (zaD rfl rfl) ?_
 refine dn ?_
 refine zi rfl (fun h1 => ?_) (fun h2 => ?_)
 ·try simp at h1
  refine za ?_
  refine dq (zo zpC rfl (WeakL.refl _) (zdp hT)) ?_
  refine das rfl ?_
  refine dn ?_
  refine zl ?_
  refine zbE Ghost.clear rfl ⟨?_, rfl⟩
  show HVal.bool _ = _
  first | rfl | (simp; done) | (simp_all; done)
 ·try simp at h2
  refine zm ?_
  refine zh ?_
  have htz : zbX m20 o23 x27 r30 = 0 := by simpa using h2
  have tk := zdu htz
  obtain ⟨s1, s2, s3⟩ := zox (u := y32) htz (zgJ (by omega))
  refine za ?_
  refine dq (zH zT rfl rfl rfl rfl) ?_
  refine dmv rfl ?_
  refine dmv rfl ?_
  refine dmv rfl ?_
  refine dmv rfl ?_
  refine dq (zo ca14 rfl (WeakL.refl _) (zhs (m := m20) (o := o23) (l := x27) (a := r30) (u := y32) (by omega) h0o (by omega) (by omega) hxg (by omega))) ?_
  refine dmv rfl ?_
  refine dq (z6 rfl rfl) ?_
  refine dq (z6 rfl rfl) ?_
  refine das rfl ?_
  refine das rfl ?_
  refine dn ?_
  simp only [s3, s1]
  refine zj ?_
  have how := zoS htz (y32 + 1).toNat
  have hlen : (zbw m20 o23 x27 r30 y32).o.length = o23.length := zfD (y32 + 1).toNat
  refine za ?_
  refine dmv rfl ?_
  refine dq (zaD rfl rfl) ?_
  refine dmv rfl ?_
  refine dg rfl rfl (fun hc => ⟨_, OpenTo.refl _, zf rfl⟩) ?_
  refine dg rfl rfl (fun hc => ⟨_, OpenTo.upd (t := 52) rfl (by first | exact hc | simp_all) (OpenTo.refl _), zK (f := zaY) (l := (zbw m20 o23 x27 r30 y32).o) zaN rfl⟩) ?_
  refine dg rfl rfl (fun hc => ⟨_, OpenTo.refl _, zf rfl⟩) ?_
  refine dg rfl rfl (fun hc => ⟨_, OpenTo.upd (t := 54) rfl (by first | exact hc | simp_all) (OpenTo.refl _), zK (f := zaY) (l := o23) zaN rfl⟩) ?_
  refine dg rfl rfl (fun hc => ⟨_, OpenTo.upd (t := 55) rfl (by first | exact hc | simp_all) (OpenTo.upd (t := 53) rfl (by first | exact hc | simp_all) (OpenTo.refl _)), zaD rfl rfl⟩) ?_
  refine dq (zA rfl (.inl rfl) (.inr ⟨_, rfl, fun h => by simp_all⟩)) ?_
  refine dmv rfl ?_
  refine dg rfl rfl (fun hc => ⟨_, OpenTo.refl _, zH zT rfl rfl rfl rfl⟩) ?_
  refine dg rfl rfl (fun hc => ⟨_, OpenTo.refl _, zf rfl⟩) ?_
  refine dg rfl rfl (fun hc => by have hq := hc; (try simp at hq); exact ⟨_, OpenTo.upd (t := 60) rfl (by first | exact hc | simp_all) (OpenTo.upd (t := 59) rfl (by first | exact hc | simp_all) (OpenTo.refl _)), zo ca31 rfl (WeakL.refl _) (zfp (m := m20) (o := (zbw m20 o23 x27 r30 y32).o) (by omega) (by rw [zfD]; omega))⟩) ?_
  refine dg rfl rfl (fun hc => ⟨_, OpenTo.upd (t := 61) rfl (by first | exact hc | simp_all) (OpenTo.refl _), zaD rfl rfl⟩) ?_
  refine dq (zA rfl (.inl rfl) (.inr ⟨_, rfl, fun h => by simp_all⟩)) ?_
  refine dn ?_
  refine zi rfl (fun h3 => ?_) (fun h3 => ?_)
  ·exfalso
   try simp at h3
   first
   | done
   | (rw [how] at h3; simp_all; done)
   | (have := h3 hlen; rw [how] at this; simp at this; done)
   | simp_all
  ·try simp at h3
   refine zm ?_
   refine zh ?_
   refine za ?_
   refine dq (zH zT rfl rfl rfl rfl) ?_
   refine dmv rfl ?_
   refine dmv rfl ?_
   refine dmv rfl ?_
   refine dmv rfl ?_
   refine dq (zo ca13 rfl (WeakL.refl _) (zhE (m := m20) (o := o23) (l := x27) (a := r30) (u := y32) (by omega) h0o (by omega) (by omega) hxg (by omega))) ?_
   refine dmv rfl ?_
   refine dq (z6 rfl rfl) ?_
   refine dq (z6 rfl rfl) ?_
   refine das rfl ?_
   refine das rfl ?_
   refine dn ?_
   simp only [s2, s1]
   refine zaF (fun _ => True) [] mixed ?_
   refine ahp 0 rfl rfl (by kernel_rfl) (by kernel_rfl) (zH zT rfl rfl rfl rfl) ?_
   refine ahp 1 rfl rfl (by kernel_rfl) (by kernel_rfl) (zf rfl) ?_
   refine ahp 2 rfl rfl (by kernel_rfl) (by kernel_rfl) (zf rfl) ?_
   refine ahp 3 rfl rfl (by kernel_rfl) (by kernel_rfl) (zf rfl) ?_
   refine ahp 4 rfl rfl (by kernel_rfl) (by kernel_rfl) (zf rfl) ?_
   refine ahp 5 rfl rfl (by kernel_rfl) (by kernel_rfl) (zf rfl) ?_
   refine ahe 6 rfl (by kernel_rfl) ?_
   first
   | refine zv rfl (zd (i := 0) zbT rfl (WeakL.refl _) rfl (zI (by first | assumption | omega | (simp; omega) | simp_all) (by first | assumption | omega | (simp; omega) | simp_all) (by first | assumption | omega | (simp; omega) | simp_all) (by first | assumption | omega | (simp; omega) | simp_all)) ?_)
   | refine zv rfl (zd (i := 1) zbT rfl (WeakL.refl _) rfl (zI (by first | assumption | omega | (simp; omega) | simp_all) (by first | assumption | omega | (simp; omega) | simp_all) (by first | assumption | omega | (simp; omega) | simp_all) (by first | assumption | omega | (simp; omega) | simp_all)) ?_)
   | refine zv rfl (zd (i := 2) zbT rfl (WeakL.refl _) rfl (zI (by first | assumption | omega | (simp; omega) | simp_all) (by first | assumption | omega | (simp; omega) | simp_all) (by first | assumption | omega | (simp; omega) | simp_all) (by first | assumption | omega | (simp; omega) | simp_all)) ?_)
   | refine zv rfl (zd (i := 3) zbT rfl (WeakL.refl _) rfl (zI (by first | assumption | omega | (simp; omega) | simp_all) (by first | assumption | omega | (simp; omega) | simp_all) (by first | assumption | omega | (simp; omega) | simp_all) (by first | assumption | omega | (simp; omega) | simp_all)) ?_)
   rintro _ _ ⟨y80, rfl, hy80, rfl⟩
   refine ⟨fun _ => .inl trivial, ?_⟩
   refine ahp 7 rfl rfl (by kernel_rfl) (by kernel_rfl) (zB rfl rfl (by omega) (by omega)) ?_
   refine ahp 8 rfl rfl (by kernel_rfl) (by kernel_rfl) (zo ca13 rfl (WeakL.refl _) (zhE (m := m20) (o := o23) (l := x27) (a := r30) (u := (y32 + y80)) (by omega) h0o (by omega) (by omega) hxg (by omega))) ?_
   refine ahp 9 rfl rfl (by kernel_rfl) (by kernel_rfl) (zf rfl) ?_
   refine ahp 10 rfl rfl (by kernel_rfl) (by kernel_rfl) (z6 rfl rfl) ?_
   refine ahp 11 rfl rfl (by kernel_rfl) (by kernel_rfl) (z6 rfl rfl) ?_
   refine ahp 12 rfl rfl (by kernel_rfl) (by kernel_rfl) (zar rfl) ?_
   refine ahp 13 rfl rfl (by kernel_rfl) (by kernel_rfl) (zar rfl) ?_
   refine ahz (by kernel_rfl) ?_
   obtain ⟨q1, q2, _⟩ := zox (u := y32 + y80) htz (zgJ (by omega))
   simp only [q2, q1]
   have hmon := zon m20 o23 x27 r30 (y32 + 1).toNat y80.toNat
   rw [show (y32 + 1).toNat + y80.toNat = (y32 + y80 + 1).toNat by omega] at hmon
   have hsl : (zb4 (zbw m20 o23 x27 r30 y32).ds).length ≤ (zb4 (zbw m20 o23 x27 r30 (y32 + y80)).ds).length := zpw hmon
   have hs1 : (zb4 (zbw m20 o23 x27 r30 y32).ds).length ≤ x27.length := zpq (y32 + 1).toNat
   have hs2 : (zb4 (zbw m20 o23 x27 r30 (y32 + y80)).ds).length ≤ x27.length := zpq (y32 + y80 + 1).toNat
   refine zj ?_
   refine za ?_
   refine dmv rfl ?_
   refine dq (zaD rfl rfl) ?_
   refine dmv rfl ?_
   refine dg rfl rfl (fun hc => ⟨_, OpenTo.refl _, zf rfl⟩) ?_
   refine dg rfl rfl (fun hc => ⟨_, OpenTo.upd (t := 88) rfl (by first | exact hc | simp_all) (OpenTo.refl _), zaD rfl rfl⟩) ?_
   refine dq (zA rfl (.inl rfl) (.inr ⟨_, rfl, fun h => by simp_all⟩)) ?_
   refine dmv rfl ?_
   refine dg rfl rfl (fun hc => ⟨_, OpenTo.refl _, zf rfl⟩) ?_
   refine dg rfl rfl (fun hc => ⟨_, OpenTo.upd (t := 92) rfl (by first | exact hc | simp_all) (OpenTo.refl _), zK (f := zc3) (l := zb4 (zbw m20 o23 x27 r30 (y32 + y80)).ds) zjs rfl⟩) ?_
   refine dg rfl rfl (fun hc => ⟨_, OpenTo.refl _, zf rfl⟩) ?_
   refine dg rfl rfl (fun hc => ⟨_, OpenTo.upd (t := 94) rfl (by first | exact hc | simp_all) (OpenTo.refl _), zK (f := zc3) (l := zb4 (zbw m20 o23 x27 r30 y32).ds) zjs rfl⟩) ?_
   refine dg rfl rfl (fun hc => ⟨_, OpenTo.upd (t := 95) rfl (by first | exact hc | simp_all) (OpenTo.upd (t := 93) rfl (by first | exact hc | simp_all) (OpenTo.refl _)), zS rfl rfl⟩) ?_
   refine dq (zA rfl (.inl rfl) (.inr ⟨_, rfl, fun h => by simp_all⟩)) ?_
   refine dn ?_
   refine zi rfl (fun h4 => ?_) (fun h4 => ?_)
   ·exfalso
    try simp at h4
    first
    | done
    | omega
    | simp_all
   ·try simp at h4
    refine zm ?_
    refine zh ?_
    refine zj ?_
    refine za ?_
    refine dmv rfl ?_
    refine dq (zK zjs rfl) ?_
    refine dmv rfl ?_
    refine dn ?_
    refine zq ?_
    refine zak [2, 15, 100, 101, 102, 103, 104, 105, 106, 107, 108, 109, 110, 111, 112, 113, 114, 115, 116, 117, 118, 119] (fun (k : Nat) => [(100, .int .i64 k)]) (fun (k : Nat) => [St b l (a30 + 1 + 1)]) (fun (k : Nat) => k ≤ (zb4 (zbw m20 o23 x27 r30 y32).ds).length ∧ (True)) (fun (k : Nat) => (zb4 (zbw m20 o23 x27 r30 y32).ds).length - k) (0) ?_ ?_ ?_ ?_
    ·exact ⟨Nat.zero_le _, trivial⟩
    ·exact ⟨rfl, trivial⟩
    ·exact zR rfl
    ·intro k hinv
     obtain ⟨hk, -⟩ := hinv
     refine za ?_
     refine dq (zS rfl rfl) ?_
     refine dn ?_
     refine zj ?_
     refine zi rfl (fun h5 => ?_) (fun h6 => ?_)
     ·try simp at h5
      obtain ⟨z, hz⟩ : ∃ z, (zb4 (zbw m20 o23 x27 r30 y32).ds)[k]? = some z := ⟨_, List.getElem?_eq_getElem h5⟩
      have hdz := zU hz
      refine zm ?_
      refine zh ?_
      refine zj ?_
      refine zq ?_
      refine za ?_
      refine dq (zW zjs zeU rfl rfl rfl (by first | assumption | simp_all)) ?_
      refine dq (zH zeU rfl rfl rfl rfl) ?_
      refine de rfl (zY zeU rfl fun b15 => ?_)
      refine de0 (zad zeU rfl rfl rfl rfl rfl ?_)
      refine dn ?_
      refine zL (Ghost.fc0 15 rfl) ?_
      refine za ?_
      refine dq (zb zeU rfl ty3 (by decide) rfl) ?_
      refine dq (zg ty3 rfl rfl rfl) ?_
      refine dq (zae rfl rfl) ?_
      refine dmv rfl ?_
      refine dg rfl rfl (fun hc => ⟨_, OpenTo.refl _, zf rfl⟩) ?_
      refine dg rfl rfl (fun hc => ⟨_, OpenTo.refl _, zH zeU rfl rfl rfl rfl⟩) ?_
      refine dg rfl rfl (fun hc => by have hq := hc; (try simp at hq); exact ⟨_, OpenTo.upd (t := 109) rfl (by first | exact hc | simp_all) (OpenTo.upd (t := 108) rfl (by first | exact hc | simp_all) (OpenTo.refl _)), zo ca32 rfl (WeakL.refl _) (zd8 (l := zb4 (zbw m20 o23 x27 r30 (y32 + y80)).ds) (y := z) (by omega))⟩) ?_
      refine dg rfl rfl (fun hc => ⟨_, OpenTo.upd (t := 110) rfl (by first | exact hc | simp_all) (OpenTo.refl _), zac rfl⟩) ?_
      refine dq (zA rfl (.inr ⟨_, rfl, fun h => by simp_all⟩) (.inl rfl)) ?_
      refine dmv rfl ?_
      refine dg rfl rfl (fun hc => ⟨_, OpenTo.refl _, zb zeU rfl ty3 (by decide) rfl⟩) ?_
      refine dg rfl rfl (fun hc => ⟨_, OpenTo.upd (t := 114) rfl (by first | exact hc | simp_all) (OpenTo.refl _), zg ty3 rfl rfl rfl⟩) ?_
      refine dg rfl rfl (fun hc => ⟨_, OpenTo.refl _, zf rfl⟩) ?_
      refine dg rfl rfl (fun hc => ⟨_, OpenTo.upd (t := 116) rfl (by first | exact hc | simp_all) (OpenTo.upd (t := 115) rfl (by first | exact hc | simp_all) (OpenTo.refl _)), zae rfl rfl⟩) ?_
      refine dq (zA rfl (.inl rfl) (.inr ⟨_, rfl, fun h => by simp_all⟩)) ?_
      refine dn ?_
      refine zi rfl (fun h7 => ?_) (fun h7 => ?_)
      ·exfalso
       try simp at h7
       have hz1 : 2 < z.How → z ∈ zb4 (zbw m20 o23 x27 r30 (y32 + y80)).ds := zpc hmon z (List.mem_of_getElem? hz)
       have hz2 := zqy tk.hf (y32 + 1).toNat z (List.mem_of_getElem? hz)
       exact ztr (u := y32) hz1 (by omega) h7
      ·try simp at h7
       refine zm ?_
       refine zy ?_
       refine zh ?_
       refine zC ?_
       refine dq (zB rfl rfl (by omega) (by omega)) ?_
       refine dmv rfl ?_
       refine dn ?_
       refine ⟨k + 1, ?_, ?_, ⟨rfl, trivial⟩, (by repeat (first | exact zt | refine zw rfl ?_ | refine zu rfl rfl ?_)), zR rfl⟩
       ·exact ⟨by omega, trivial⟩
       ·dsimp only; omega
     ·try simp at h6
      have hnk : (zb4 (zbw m20 o23 x27 r30 y32).ds).length ≤ k := by omega
      obtain rfl : k = (zb4 (zbw m20 o23 x27 r30 y32).ds).length := by omega
      refine zX ?_
      refine z7 ?_
      refine zaw ?_
      refine zO ?_
      refine zh ?_
      refine za ?_
      refine dq (zo zpC rfl (WeakL.refl _) (zdp hT)) ?_
      refine das rfl ?_
      refine dn ?_
      refine zl ?_
      refine zbE Ghost.clear rfl ⟨?_, rfl⟩
      show HVal.bool _ = _
      first | rfl | (simp; done) | (simp_all; done)

set_option maxHeartbeats 4000000 in
/-- benchwarmer/benchkeep1.WaysEndWithOwners -/
theorem zdl [Tracks] {l : List Int} (hT : Tracks.on = false) : ConP Tryz.prog 5 [.slice 1 (l.map (.int .i64))] (.bool true) := by
 refine Con.of_body Tryz.func5 rfl Tryz.ntmps5 rfl rfl ?_
 refine za ?_
 refine das rfl ?_
 refine dn ?_
 refine za ?_
 refine dmv rfl ?_
 refine dq (zaB (cs := [_, _]) zgB pl25 rfl) ?_
 refine de rfl (zhq rfl rfl fun b => ?_)
 refine zq3 (M' := [St b l 0]) rfl ?_
 refine das rfl ?_
 refine dn ?_
 refine za ?_
 refine dmv rfl ?_
 first
 | refine de rfl (zd (i := 0) ca6 rfl (WeakL.refl _) rfl (zaW (by first | assumption | omega | (simp; omega) | simp_all)) ?_)
 | refine de rfl (zd (i := 1) ca6 rfl (WeakL.refl _) rfl (zaW (by first | assumption | omega | (simp; omega) | simp_all)) ?_)
 | refine de rfl (zd (i := 2) ca6 rfl (WeakL.refl _) rfl (zaW (by first | assumption | omega | (simp; omega) | simp_all)) ?_)
 | refine de rfl (zd (i := 3) ca6 rfl (WeakL.refl _) rfl (zaW (by first | assumption | omega | (simp; omega) | simp_all)) ?_)
 rintro _ _ ⟨m19, a19, rfl, hm19, ha19, rfl⟩
 refine de rfl (zY zT rfl fun b4 => ?_)
 refine de0 (zad zT rfl rfl rfl rfl rfl ?_)
 refine dn ?_
 refine zL (Ghost.fc0 4 rfl) ?_
 refine za ?_
 refine dmv rfl ?_
 refine dq (zH zT rfl rfl rfl rfl) ?_
 first
 | refine de rfl (zd (i := 0) ca7 rfl (WeakL.refl _) rfl (zaU (by first | assumption | omega | (simp; omega) | simp_all) (by first | assumption | omega | (simp; omega) | simp_all)) ?_)
 | refine de rfl (zd (i := 1) ca7 rfl (WeakL.refl _) rfl (zaU (by first | assumption | omega | (simp; omega) | simp_all) (by first | assumption | omega | (simp; omega) | simp_all)) ?_)
 | refine de rfl (zd (i := 2) ca7 rfl (WeakL.refl _) rfl (zaU (by first | assumption | omega | (simp; omega) | simp_all) (by first | assumption | omega | (simp; omega) | simp_all)) ?_)
 | refine de rfl (zd (i := 3) ca7 rfl (WeakL.refl _) rfl (zaU (by first | assumption | omega | (simp; omega) | simp_all) (by first | assumption | omega | (simp; omega) | simp_all)) ?_)
 rintro _ _ ⟨o22, a22, rfl, ho22, ha22, rfl⟩
 refine das rfl ?_
 refine dn ?_
 refine zaF (fun _ => True) [] mixed ?_
 refine ahp 0 rfl rfl (by kernel_rfl) (by kernel_rfl) (zf rfl) ?_
 refine ahp 1 rfl rfl (by kernel_rfl) (by kernel_rfl) (zH zT rfl rfl rfl rfl) ?_
 refine ahp 2 rfl rfl (by kernel_rfl) (by kernel_rfl) (zf rfl) ?_
 refine ahp 4 rfl rfl (by kernel_rfl) (by kernel_rfl) (zf rfl) ?_
 refine ahp 5 rfl rfl (by kernel_rfl) (by kernel_rfl) (zH zT rfl rfl rfl rfl) ?_
 refine ahp 7 rfl rfl (by kernel_rfl) (by kernel_rfl) (zf rfl) ?_
 refine ahe 3 rfl (by kernel_rfl) ?_
 first
 | refine zv rfl (zd (i := 0) ca8 rfl (WeakL.refl _) rfl (zaT (by first | assumption | omega | (simp; omega) | simp_all) (by first | assumption | omega | (simp; omega) | simp_all) (by first | assumption | omega | (simp; omega) | simp_all)) ?_)
 | refine zv rfl (zd (i := 1) ca8 rfl (WeakL.refl _) rfl (zaT (by first | assumption | omega | (simp; omega) | simp_all) (by first | assumption | omega | (simp; omega) | simp_all) (by first | assumption | omega | (simp; omega) | simp_all)) ?_)
 | refine zv rfl (zd (i := 2) ca8 rfl (WeakL.refl _) rfl (zaT (by first | assumption | omega | (simp; omega) | simp_all) (by first | assumption | omega | (simp; omega) | simp_all) (by first | assumption | omega | (simp; omega) | simp_all)) ?_)
 | refine zv rfl (zd (i := 3) ca8 rfl (WeakL.refl _) rfl (zaT (by first | assumption | omega | (simp; omega) | simp_all) (by first | assumption | omega | (simp; omega) | simp_all) (by first | assumption | omega | (simp; omega) | simp_all)) ?_)
 rintro _ _ ⟨x26, a26, rfl, hx26, hxo26, ha26, rfl⟩
 refine ⟨fun _ => .inl trivial, ?_⟩
 refine ahe 6 rfl (by kernel_rfl) ?_
 first
 | refine zv rfl (zd (i := 0) ca9 rfl (WeakL.refl _) rfl (zaP (by first | assumption | omega | (simp; omega) | simp_all) (by first | assumption | omega | (simp; omega) | simp_all)) ?_)
 | refine zv rfl (zd (i := 1) ca9 rfl (WeakL.refl _) rfl (zaP (by first | assumption | omega | (simp; omega) | simp_all) (by first | assumption | omega | (simp; omega) | simp_all)) ?_)
 | refine zv rfl (zd (i := 2) ca9 rfl (WeakL.refl _) rfl (zaP (by first | assumption | omega | (simp; omega) | simp_all) (by first | assumption | omega | (simp; omega) | simp_all)) ?_)
 | refine zv rfl (zd (i := 3) ca9 rfl (WeakL.refl _) rfl (zaP (by first | assumption | omega | (simp; omega) | simp_all) (by first | assumption | omega | (simp; omega) | simp_all)) ?_)
 rintro _ _ ⟨r29, a29, rfl, hr29, ha29, rfl⟩
 refine ⟨fun _ => .inl trivial, ?_⟩
 refine ahe 8 rfl (by kernel_rfl) ?_
 first
 | refine zv rfl (zd (i := 0) zbT rfl (WeakL.refl _) rfl (zI (by first | assumption | omega | (simp; omega) | simp_all) (by first | assumption | omega | (simp; omega) | simp_all) (by first | assumption | omega | (simp; omega) | simp_all) (by first | assumption | omega | (simp; omega) | simp_all)) ?_)
 | refine zv rfl (zd (i := 1) zbT rfl (WeakL.refl _) rfl (zI (by first | assumption | omega | (simp; omega) | simp_all) (by first | assumption | omega | (simp; omega) | simp_all) (by first | assumption | omega | (simp; omega) | simp_all) (by first | assumption | omega | (simp; omega) | simp_all)) ?_)
 | refine zv rfl (zd (i := 2) zbT rfl (WeakL.refl _) rfl (zI (by first | assumption | omega | (simp; omega) | simp_all) (by first | assumption | omega | (simp; omega) | simp_all) (by first | assumption | omega | (simp; omega) | simp_all) (by first | assumption | omega | (simp; omega) | simp_all)) ?_)
 | refine zv rfl (zd (i := 3) zbT rfl (WeakL.refl _) rfl (zI (by first | assumption | omega | (simp; omega) | simp_all) (by first | assumption | omega | (simp; omega) | simp_all) (by first | assumption | omega | (simp; omega) | simp_all) (by first | assumption | omega | (simp; omega) | simp_all)) ?_)
 rintro _ _ ⟨y31, rfl, hy31, rfl⟩
 refine ⟨fun _ => .inl trivial, ?_⟩
 refine ahp 9 rfl rfl (by kernel_rfl) (by kernel_rfl) (zar rfl) ?_
 refine ahp 10 rfl rfl (by kernel_rfl) (by kernel_rfl) (zar rfl) ?_
 refine ahp 11 rfl rfl (by kernel_rfl) (by kernel_rfl) (zar rfl) ?_
 refine ahz (by kernel_rfl) ?_
 refine zj ?_
 have hm5 := hm19.len
 have hol := ho22.len
 have hxl := hx26.len
 have hrl := hr29.len
 have hms : ∀ s ∈ m19.Teams, s.length ≤ 1000000 := fun s hs => Nat.le_trans (hm19.sh s hs) (by decide)
 have hxg : ∀ x ∈ x26, x.Gives.length ≤ 1000000 := fun x hx => Nat.le_trans (hx26.all x hx).len (by decide)
 have hxb : ∀ x ∈ x26, x.Id.length ≤ 1000000 ∧ x.Gives.length ≤ 1000000 ∧ ∀ g ∈ x.Gives, g.Player.length ≤ 1000000 := fun x hx => ⟨(hx26.all x hx).id, hxg x hx, (hx26.all x hx).all⟩
 have h0o : x26 ≠ [] → 0 < o22.length := fun hne => by
  rcases Nat.eq_zero_or_pos o22.length with q | q
  ·exact absurd (hxo26 (List.length_eq_zero_iff.1 q)) hne
  ·exact q
 refine za ?_
 refine dq (zH zT rfl rfl rfl rfl) ?_
 refine dmv rfl ?_
 refine dmv rfl ?_
 refine dmv rfl ?_
 refine dq (zo ca12 rfl (WeakL.refl _) (zez (m := m19) (o := o22) (l := x26) (a := r29) (by omega) hms (by omega) (fun x hx => (ho22.all x hx).1) (by omega) hxb (by omega) hr29.all)) ?_
 refine dq (zaD rfl rfl) ?_
 refine dn ?_
 refine zi rfl (fun h1 => ?_) (fun h2 => ?_)
 ·try simp at h1
  refine za ?_
  refine dq (zo zpC rfl (WeakL.refl _) (zdp hT)) ?_
  refine das rfl ?_
  refine dn ?_
  refine zl ?_
  refine zbE Ghost.clear rfl ⟨?_, rfl⟩
  show HVal.bool _ = _
  first | rfl | (simp; done) | (simp_all; done)
 ·try simp at h2
  refine zm ?_
  refine zh ?_
  have htz : zbX m19 o22 x26 r29 = 0 := by simpa using h2
  have tk := zdu htz
  have hmo : za4 y31 = true := zgJ (by omega)
  obtain ⟨s1, s2, s3⟩ := zox (u := y31) htz hmo
  refine za ?_
  refine dq (zH zT rfl rfl rfl rfl) ?_
  refine dmv rfl ?_
  refine dmv rfl ?_
  refine dmv rfl ?_
  refine dmv rfl ?_
  refine dq (zo ca14 rfl (WeakL.refl _) (zhs (m := m19) (o := o22) (l := x26) (a := r29) (u := y31) (by omega) h0o (by omega) (by omega) hxg (by omega))) ?_
  refine dmv rfl ?_
  refine dq (z6 rfl rfl) ?_
  refine dq (z6 rfl rfl) ?_
  refine das rfl ?_
  refine das rfl ?_
  refine dn ?_
  simp only [s3, s1]
  refine zj ?_
  refine za ?_
  refine dmv rfl ?_
  refine dq (zaD rfl rfl) ?_
  refine dn ?_
  refine zi rfl (fun h3 => ?_) (fun h3 => ?_)
  ·exfalso
   try simp at h3
   done
  ·try simp at h3
   refine zm ?_
   refine zh ?_
   refine zj ?_
   have hlen : (zbw m19 o22 x26 r29 y31).o.length = o22.length := zfD (y31 + 1).toNat
   refine za ?_
   refine dmv rfl ?_
   refine dq (zK (f := zaY) (l := (zbw m19 o22 x26 r29 y31).o) zaN rfl) ?_
   refine dmv rfl ?_
   refine dn ?_
   refine zq ?_
   refine zak [2, 12, 13, 14, 52, 53, 54, 55, 56, 57, 58, 59, 60, 61, 62, 63, 64, 65, 66, 67, 68, 69, 70, 71, 72, 73, 74, 75, 76, 77, 78, 79, 80, 81, 82, 83, 84, 85] (fun (k : Nat) => [(52, .int .i64 k)]) (fun (k : Nat) => [St b l (a29 + 1)]) (fun (k : Nat) => k ≤ ((zbw m19 o22 x26 r29 y31).o).length ∧ (True)) (fun (k : Nat) => ((zbw m19 o22 x26 r29 y31).o).length - k) (0) ?_ ?_ ?_ ?_
   ·exact ⟨Nat.zero_le _, trivial⟩
   ·exact ⟨rfl, trivial⟩
   ·exact zR rfl
   ·intro k hinv
    obtain ⟨hk, -⟩ := hinv
    refine za ?_
    refine dq (zS rfl rfl) ?_
    refine dn ?_
    refine zj ?_
    refine zi rfl (fun h4 => ?_) (fun h5 => ?_)
    ·try simp at h4
     obtain ⟨z, hz⟩ : ∃ z, ((zbw m19 o22 x26 r29 y31).o)[k]? = some z := ⟨_, List.getElem?_eq_getElem h4⟩
     have hdz := zU hz
     refine zm ?_
     refine zh ?_
     refine zj ?_
     refine zq ?_
     refine za ?_
     refine dq (zW zaN zaj rfl rfl rfl (by first | assumption | simp_all)) ?_
     refine dq (zH zaj rfl rfl rfl rfl) ?_
     refine de rfl (zY zaj rfl fun b12 => ?_)
     refine de0 (zad zaj rfl rfl rfl rfl rfl ?_)
     refine dn ?_
     refine zL (Ghost.fc0 12 rfl) ?_
     obtain ⟨w1, w2⟩ := zsi htz hmo (List.mem_of_getElem? hz)
     have hwl := zoP w2
     have hwg := zpK w2
     have hwb := zts (m := m19) (o := o22) (l := x26) (a := r29) (u := y31) (s := z.Player)
     refine za ?_
     refine dq (zH zT rfl rfl rfl rfl) ?_
     refine dmv rfl ?_
     refine dq (zb zaj rfl ty9 (by decide) rfl) ?_
     refine dq (zg ty9 rfl rfl rfl) ?_
     refine dmv rfl ?_
     refine dmv rfl ?_
     refine dmv rfl ?_
     refine dq (zo ca16 rfl (WeakL.refl _) (zoW (m := m19) (o := o22) (l := x26) (a := r29) (u := y31) (s := z.Player) (by omega) h0o (by omega) (by omega) hxg (by omega))) ?_
     refine dmv rfl ?_
     refine dq (z6 rfl rfl) ?_
     refine dq (z6 rfl rfl) ?_
     refine das rfl ?_
     refine das rfl ?_
     refine dn ?_
     simp only [w1]
     refine zaF (fun _ => True) [] mixed ?_
     refine ahp 0 rfl rfl (by kernel_rfl) (by kernel_rfl) (zf rfl) ?_
     refine ahp 1 rfl rfl (by kernel_rfl) (by kernel_rfl) (zaD rfl rfl) ?_
     refine ahp 2 rfl rfl (by kernel_rfl) (by kernel_rfl) (zf rfl) ?_
     refine ahg 3 rfl rfl (by kernel_rfl) (by kernel_rfl) rfl (fun hc => ⟨_, OpenTo.refl _, zf rfl⟩) ?_
     refine ahg 4 rfl rfl (by kernel_rfl) (by kernel_rfl) rfl (fun hc => ⟨_, OpenTo.upd (t := 70) rfl (by first | exact hc | simp_all) (OpenTo.refl _), zK (f := HVal.str) (l := zcH m19 o22 x26 r29 y31 z.Player) zP rfl⟩) ?_
     refine ahg 5 rfl rfl (by kernel_rfl) (by kernel_rfl) rfl (fun hc => ⟨_, OpenTo.upd (t := 71) rfl (by first | exact hc | simp_all) (OpenTo.refl _), zau rfl rfl⟩) ?_
     refine ahp 6 rfl rfl (by kernel_rfl) (by kernel_rfl) (zA rfl (.inl rfl) (.inr ⟨_, rfl, fun h => by simp_all⟩)) ?_
     refine ahp 7 rfl rfl (by kernel_rfl) (by kernel_rfl) (zf rfl) ?_
     refine ahg 8 rfl rfl (by kernel_rfl) (by kernel_rfl) rfl (fun hc => ⟨_, OpenTo.refl _, zf rfl⟩) ?_
     refine ahg 9 rfl rfl (by kernel_rfl) (by kernel_rfl) rfl (fun hc => ⟨_, OpenTo.refl _, zf rfl⟩) ?_
     refine ahg 10 rfl rfl (by kernel_rfl) (by kernel_rfl) rfl (fun hc => ⟨_, OpenTo.upd (t := 76) rfl (by first | exact hc | simp_all) (OpenTo.refl _), zK (f := HVal.str) (l := zcH m19 o22 x26 r29 y31 z.Player) zP rfl⟩) ?_
     refine ahg 11 rfl rfl (by kernel_rfl) (by kernel_rfl) rfl (fun hc => by have hq := hc; (try simp at hq); exact ⟨_, OpenTo.upd (t := 77) rfl (by first | exact hc | simp_all) (OpenTo.refl _), zap rfl rfl (by omega) (by omega)⟩) ?_
     refine ahg 12 rfl rfl (by kernel_rfl) (by kernel_rfl) rfl (fun hc => by have hq := hc; (try simp at hq); exact ⟨_, OpenTo.upd (t := 78) rfl (by first | exact hc | simp_all) (OpenTo.upd (t := 75) rfl (by first | exact hc | simp_all) (OpenTo.refl _)), zW (f := HVal.str) (l := zcH m19 o22 x26 r29 y31 z.Player) (j := (zcH m19 o22 x26 r29 y31 z.Player).length - 1) (a := z.Team) zP ty9 rfl rfl (by omega) hwg⟩) ?_
     refine ahg 13 rfl rfl (by kernel_rfl) (by kernel_rfl) rfl (fun hc => ⟨_, OpenTo.upd (t := 79) rfl (by first | exact hc | simp_all) (OpenTo.refl _), zg ty9 rfl rfl rfl⟩) ?_
     refine ahg 14 rfl rfl (by kernel_rfl) (by kernel_rfl) rfl (fun hc => ⟨_, OpenTo.refl _, zb zaj rfl ty9 (by decide) rfl⟩) ?_
     refine ahg 15 rfl rfl (by kernel_rfl) (by kernel_rfl) rfl (fun hc => ⟨_, OpenTo.upd (t := 81) rfl (by first | exact hc | simp_all) (OpenTo.refl _), zg ty9 rfl rfl rfl⟩) ?_
     refine ahg 16 rfl rfl (by kernel_rfl) (by kernel_rfl) rfl (fun hc => ⟨_, OpenTo.upd (t := 82) rfl (by first | exact hc | simp_all) (OpenTo.upd (t := 80) rfl (by first | exact hc | simp_all) (OpenTo.refl _)), zdN rfl rfl⟩) ?_
     refine ahp 17 rfl rfl (by kernel_rfl) (by kernel_rfl) (zA rfl (.inl rfl) (.inr ⟨_, rfl, fun h => by simp_all⟩)) ?_
     refine ahz (by kernel_rfl) ?_
     refine zi rfl (fun h6 => ?_) (fun h6 => ?_)
     ·exfalso
      try simp at h6
      first
      | done
      | (simp_all; done)
      | (rw [h6] at hwl; simp at hwl)
     ·try simp at h6
      refine zm ?_
      refine zy ?_
      refine zh ?_
      refine zC ?_
      refine dq (zB rfl rfl (by omega) (by omega)) ?_
      refine dmv rfl ?_
      refine dn ?_
      refine ⟨k + 1, ?_, ?_, ⟨rfl, trivial⟩, (by repeat (first | exact zt | refine zw rfl ?_ | refine zu rfl rfl ?_)), zR rfl⟩
      ·exact ⟨by omega, trivial⟩
      ·dsimp only; omega
    ·try simp at h5
     have hnk : ((zbw m19 o22 x26 r29 y31).o).length ≤ k := by omega
     obtain rfl : k = ((zbw m19 o22 x26 r29 y31).o).length := by omega
     refine zX ?_
     refine z7 ?_
     refine zaw ?_
     refine zO ?_
     refine zh ?_
     refine za ?_
     refine dq (zo zpC rfl (WeakL.refl _) (zdp hT)) ?_
     refine das rfl ?_
     refine dn ?_
     refine zl ?_
     refine zbE Ghost.clear rfl ⟨?_, rfl⟩
     show HVal.bool _ = _
     first | rfl | (simp; done) | (simp_all; done)
end
end Go.Proofs.YtpcaaekefgkhjaaGreatDoor
namespace Go.HL
section
open Go
theorem zm5 {H : Type} {enc : TypeId × Value → H} {a : Assume} {C : Checked} {os : Os} {f : FuncId} {fn : Func} {s : ChangeSpec} {conds : List PathCond} {apart fresh handsOn again : Bool} {X : World → Array Value → Prop}
 (hX : ∀ (w w' : World) (args : Array Value), w.heap = w'.heap → X w args → X w' args)
 (own : ownKnob C.prog.godebug = none) (started : os.Started) (noInit : C.prog.inits.idxOf? f = none) (hfn : C.prog.funcs[f]? = some fn)
 (witness : ∃ (w : World) (tape : Tape) (i : Input), w.os = os ∧ (w.forCall tape i).Shaped C.prog ∧ i.vars = [] ∧ Input.okWide C.prog (w.forCall tape i) .any w.heap.size f i ∧
   ((s.pre enc C.prog fn conds apart (w.forCall tape i).memory i.args ∧ X (w.forCall tape i).memory i.args) ∧ sizedMet enc C.prog fn (OpenSpec.ofChange s) apart (w.forCall tape i).memory i.args) ∧ a.holds C.prog (lone (Frame.enter C.prog f i.args .normal) [] (w.forCall tape i)))
 (contract : ∀ (W : World) (base : Nat) (args : Array Value) (ds gs : List (DataW H)) (before : List MemPlace),
   (∀ (j : Nat) t v, fn.params[j]? = some t → args[j]? = some v → Value.okWide C.prog W .any base t v) → DataW.Whole enc C.prog fn.params.toList s.vars apart W args.toList ds gs before →
   X W args → W.ShapedOpen C.prog → Calls C.prog f args W fun e W' => ∃ v, e = .returned v ∧ s.post enc C.prog fn apart fresh handsOn again W args v W') :
 ReturnsInHanded a C os f .any (fun w args => (s.pre enc C.prog fn conds apart w args ∧ X w args) ∧ sizedMet enc C.prog fn (OpenSpec.ofChange s) apart w args) (s.post enc C.prog fn apart fresh handsOn again) := by
 refine returnsInHanded_of_calls own started noInit witness fun w tape i _ hsh _ hok hpre _ => ?_
 obtain ⟨_, _, _, fn', hfn', _, _, _, _, hval⟩ := hok
 obtain rfl : fn' = fn := Option.some.inj (hfn'.symm.trans hfn)
 obtain ⟨⟨⟨ds, gs, before, hw, _⟩, hx⟩, _⟩ := hpre
 refine (contract (w.forCall tape i) w.heap.size i.args ds gs before hval (DataW.Whole.of_heap (w' := w.forCall tape i) (by rfl) hw) (hX _ _ _ (by rfl) hx) hsh).mono fun e W' ⟨v, he, hp⟩ => ?_
 subst he
 exact ChangeSpec.post_blind hp
end
end Go.HL
namespace Go.Proofs.YtpcaaekefgkhjaaGreatDoor
section
open Go.ChangeShapes Go.WideShapes Go.ChangeAt Go.RowKit Go.HL
theorem zio : ownKnob Tryz.prog.godebug = none := by kernel_rfl
theorem zei : laidOutB Tryz.prog = true := by kernel_rfl
theorem zhb : Tryz.prog.cellsOf 3 = 1 := by kernel_rfl
theorem zib {W : World} (h : laidMetH Tryz.prog Rows.waysEndWithOwnersRow.laid W) (hsh : W.ShapedOpen Tryz.prog) : TabI Tryz.prog (zbY W) := by
 rw [MakeChecks.laidMetH_plain _ _ _ (by kernel_rfl)] at h
 letI : Tracks := ⟨false⟩
 exact znO (i := 2) (g := 1) (t := 265) h (by kernel_rfl) (by kernel_rfl) (by kernel_rfl) Tryz.underlying265 Tryz.underlying193 (by kernel_rfl) (by kernel_rfl) (fun g hg => by
  obtain rfl : 0 = g := Option.some.inj ((show Tryz.prog.globalNamed "internal/bytealg.MaxLen" = some 0 by kernel_rfl).symm.trans hg)
  exact Go.Proofs.cell_of_shapedOpen_int (zero := #[.int .i64 0]) (t := 3) hsh (of_decide_eq_true (by kernel_rfl)) (by kernel_rfl) rfl (by kernel_rfl) (by kernel_rfl) Tryz.underlying3)
theorem zhe {W : World} (ht : TabI Tryz.prog (zbY W)) {a : Option Addr} {len cap : Nat} {H : Type} {enc : TypeId × Value → H} {d0 : DataW H} {p : List MemPlace} (h : DataW.Trod enc Tryz.prog W 0 (fun _ => true) true 22 (.slice a len cap) d0 p) :
 Calls Tryz.prog 5 #[.slice a len cap] W fun e W' => e = .returned (.bool true) ∧ Below W.heap.size W W' := by
 obtain ⟨fuel, hf⟩ := h
 rcases open_ints Tryz.underlying22 Tryz.underlying3 zhb hf with ⟨hcs, hx⟩ | ⟨a', len', cap', zs, hcs, _, hl, hm, hz, hx, hcell, hwz⟩
 ·simp [Value.cells] at hcs
  obtain ⟨rfl, rfl, rfl⟩ := hcs
  letI : Tracks := ⟨false⟩
  exact znU (l := []) (zdl rfl) ht (.slice0 _ _ _)
 ·simp [Value.cells] at hcs
  obtain ⟨rfl, rfl, rfl⟩ := hcs
  simp only [if_true] at hz
  letI : Tracks := ⟨false⟩
  exact znU (l := zs.take len) (zdl rfl) ht (zua hcell (by omega) hl)
set_option maxRecDepth 100000 in
theorem zgR (os : Os) (started : os.Started) (H : Type) (enc : TypeId × Value → H) :
 ReturnsInHanded {} Tryz.checked os 5 .any (fun w args => (Rows.waysEndWithOwnersSpec.pre enc Tryz.prog Tryz.f5 Rows.waysEndWithOwnersRow.domain false w args ∧ laidMetH Tryz.prog Rows.waysEndWithOwnersRow.laid w) ∧ sizedMet enc Tryz.prog Tryz.f5 (OpenSpec.ofChange Rows.waysEndWithOwnersSpec) false w args)
  (Rows.waysEndWithOwnersSpec.post enc Tryz.prog Tryz.f5 false true false false) := by
 refine zm5 (C := Tryz.checked) (X := fun w _ => laidMetH Tryz.prog Rows.waysEndWithOwnersRow.laid w) (fun _ _ _ hh h => h.of_heap hh) zio started (by kernel_rfl) Tryz.func5
  (ChangeSpec.witness_shaped (enc := enc) (C := Tryz.checked) (os := os) (X := fun w _ => laidMetH Tryz.prog Rows.waysEndWithOwnersRow.laid w) false (World.laidAll Tryz.prog os Rows.waysEndWithOwnersRow.laid) #[.slice none 0 0] 8 (World.laidAll_os _ _ _)
    (World.shaped_of_ZipB (by kernel_rfl) (by kernel_rfl)) (by kernel_rfl) (by kernel_rfl) (by kernel_rfl)
    (by rw [MakeChecks.laidMetH_plain _ _ _ (by kernel_rfl)]; exact laidMet_laidAll _ (by kernel_rfl) (by kernel_rfl))) ?_
 intro W base args ds gs before hval0 hW hL hsh
 have hval : ∀ (j : Nat) t v, Tryz.f5.params[j]? = some t → args[j]? = some v → Value.okWide Tryz.prog W .any base t v := hval0
 have hW' := hW
 obtain ⟨p, q, hA0, hV, rfl, _, _⟩ := hW
 have hA : DataW.TrodAll enc Tryz.prog W 0 (fun _ => true) true Tryz.f5.params.toList args.toList ds p := hA0
 rw [Tryz.params5] at hA hval
 obtain ⟨v0, d0, rfl, rfl, h0⟩ := trodAll_one hA
 obtain ⟨rfl, rfl⟩ := trodVars_none hV
 obtain ⟨a0, len, cap, rfl⟩ := okWide_slice Tryz.underlying22 (hval 0 22 v0 rfl rfl)
 simp only [List.append_nil] at hW'
 have hlt : ∀ x ∈ p, x.block < W.heap.size := fun x hx => by simpa using hW'.lt x hx
 refine (zhe (zib hL hsh) h0).mono fun e W' ⟨he, hb⟩ => ?_
 subst he
 have hargs : DataW.Trod enc Tryz.prog W' 0 (fun b => decide (b < W.heap.size)) true 22 (.slice a0 len cap) d0 p :=
  Below.trod zei (by kernel_rfl) (of_decide_eq_true (by kernel_rfl)) h0 hb hlt
 exact ⟨_, rfl, _, _, _, [], p, [], hW', trodAll_mk1 (shut_bool Tryz.underlying4 _), trodAll_mk1 hargs, rfl, hb.frame _, fun h => by cases h⟩
theorem zhQ : mapsRowed Tryz.prog = true := by kernel_rfl
theorem zhH : (Rows.waysEndWithOwnersRow.inPlace == Tryz.prog.inPlace 5) = true := by kernel_rfl
theorem zhC : (Rows.waysEndWithOwnersRow.unfollowed == Tryz.prog.unfollowed 5) = true := by kernel_rfl
theorem zhR : (Rows.waysEndWithOwnersRow.recurses == Tryz.prog.recurses 5) = true := by kernel_rfl
theorem zhx : (Rows.waysEndWithOwnersRow.named == Tryz.prog.varsNamed 5) = true := by kernel_rfl
theorem zhJ : joinedFacts Tryz.prog 5 Tryz.f5 Rows.waysEndWithOwnersSpec Rows.waysEndWithOwnersRow = true := by
 simp only [joinedFacts, Bool.and_eq_true]
 repeat' apply And.intro
 all_goals first
  | with_reducible exact zei
  | with_reducible exact zhQ
  | with_reducible exact zhH
  | with_reducible exact zhC
  | with_reducible exact zhR
  | with_reducible exact zhx
  | kernel_rfl
theorem zhu : false = Tryz.prog.looks [] := by kernel_rfl
theorem zhr : false = Rows.waysEndWithOwnersRow.goesBy Tryz.prog := by kernel_rfl
theorem zhT : Rows.waysEndWithOwnersRow.wfByText (OpenSpec.ofChange Rows.waysEndWithOwnersSpec) = true := by kernel_rfl
theorem zhz : Tryz.prog.mainIs = some ("ec2b7987431ba52d20007b49eba9c63b7ab7717e450e871282f8b22b8989dcd9" |> fun h => (true, h.toList)) := by kernel_rfl
theorem zhG : ([22].all fun u => !Tryz.prog.wantsStandIn u) = true := by kernel_rfl
theorem zeW : Tryz.prog.funcNamed Rows.waysEndWithOwnersRow.func = some 5 := by kernel_rfl
theorem zhh : Rows.WaysEndWithOwnersSaid :=
 OpenClaim.holds_of_wide 5 Tryz.f5 rfl rfl rfl rfl rfl rfl rfl ⟨rfl, rfl, rfl, rfl, rfl⟩ rfl rfl rfl rfl rfl zeW Tryz.func5 zhJ
  (of_decide_eq_true (by kernel_rfl)) (by unfold Func.isWrapper; first | (rw [if_pos (by decide +kernel)]; kernel_rfl) | (rw [if_neg (by decide +kernel)]; exact ⟨rfl, rfl⟩))
  (fun os started H enc _ => zgR os started H enc)
theorem cardWaysEndWithOwners : Rows.WaysEndWithOwnersCardSaid :=
 Claim7.holds_tied_plain_at .later [] [.data, .data, .data, .data, .pinned] true (true, "ec2b7987431ba52d20007b49eba9c63b7ab7717e450e871282f8b22b8989dcd9") false zhh (fun _ h => by cases h) zhT (fun _ h => by cases h) waysEndWithOwners_row_tie rfl ⟨rfl, rfl⟩ zhz rfl
  (fun f fn hf hfn => by
    obtain rfl : f = 5 := Option.some.inj (zeW.symm.trans hf) |>.symm
    obtain rfl : fn = Tryz.f5 := (Option.some.inj (Tryz.func5.symm.trans hfn)).symm
    exact ⟨zhu, fun j t ht => by
     rw [Tryz.params5] at ht
     have hm : t ∈ [22] := by simpa using Array.mem_of_getElem? ht
     have hall := zhG
     exact (show Tryz.prog.wantsStandIn t = false by simpa using List.all_eq_true.1 hall t hm)⟩)
  zhr
end
end Go.Proofs.YtpcaaekefgkhjaaGreatDoor
