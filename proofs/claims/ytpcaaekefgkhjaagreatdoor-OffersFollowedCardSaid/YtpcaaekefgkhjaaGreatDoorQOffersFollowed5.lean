/- Part 5 of the proof: a program logic, contracts of functions and plain facts; no conditions. -/
import Derived.Test.YtpcaaekefgkhjaaGreatDoorQOffersFollowed4
set_option linter.unusedVariables false
set_option linter.unusedSimpArgs false
namespace Go.Proofs.YtpcaaekefgkhjaaGreatDoor
set_option maxRecDepth 100000
set_option linter.unusedVariables false
set_option linter.unusedSimpArgs false
section
open Go.HL
/-- slices.IndexFunc[[]int,int] -/
theorem zfS [Tracks] {l : List Int} {fid : FuncId} {caps : List HVal} {p : Int → Bool} (hca : Callable Tryz.prog fid) (hp : ∀ x, zah Tryz.prog fid ([(HVal.int .i64) x] ++ caps) (.bool (p x))) (hl : l.length ≤ 1000000) : zah Tryz.prog 180 [.slice 1 (l.map (HVal.int .i64)), .fn (.func fid) [] caps] (.int .i64 (za4 p l 0)) := by
 refine Con.of_body Tryz.func180 rfl Tryz.ntmps180 rfl rfl ?_
 refine za ?_
 refine das rfl ?_
 refine dn ?_
 refine zm ?_
 refine za ?_
 refine dmv rfl ?_
 refine dq (zR zbh rfl) ?_
 refine dmv rfl ?_
 refine dn ?_
 refine zu ?_
 refine zaJ [4, 5, 8, 9, 10, 11, 12, 13, 14, 15, 16, 17, 18] (fun (k : Nat) => [(8, .int .i64 k)]) (fun (k : Nat) => []) (fun (k : Nat) => k ≤ l.length ∧ (za4 p l 0 = za4 p (l.drop k) k)) (fun (k : Nat) => l.length - k) (0) ?_ ?_ ?_ ?_
 ·exact ⟨Nat.zero_le _, rfl⟩
 ·exact ⟨rfl, trivial⟩
 ·exact List.Perm.refl _
 ·intro k hinv
  obtain ⟨hk, hg⟩ := hinv
  refine za ?_
  refine dq (zY rfl rfl) ?_
  refine dn ?_
  refine zm ?_
  refine zl rfl (fun h1 => ?_) (fun h2 => ?_)
  ·try simp at h1
   obtain ⟨x, hx⟩ : ∃ x, l[k]? = some x := ⟨_, List.getElem?_eq_getElem h1⟩
   have hdx := zU hx
   rw [hdx] at hg
   refine zo ?_
   refine zk ?_
   refine zm ?_
   refine zu ?_
   refine za ?_
   refine dmv rfl ?_
   refine das rfl ?_
   refine dn ?_
   refine za ?_
   refine dmv rfl ?_
   refine dmv rfl ?_
   refine dmv rfl ?_
   refine dq (zZ zbh ty3 rfl rfl rfl (by first | assumption | simp_all)) ?_
   refine dq (zh ty3 rfl rfl rfl) ?_
   refine dq (zdI hca rfl rfl (WeakL.refl _) (hp _)) ?_
   refine dn ?_
   refine zl rfl (fun h3 => ?_) (fun h4 => ?_)
   ·try simp at h3
    refine za ?_
    refine dmv rfl ?_
    refine das rfl ?_
    refine dn ?_
    refine zp ?_
    refine zI rfl ?_
    show HVal.int .i64 _ = _
    first | (rw [hg]; rfl) | (rw [hg]; simp_all [za4])
   ·try simp at h4
    refine zo ?_
    refine zA ?_
    refine zk ?_
    refine zB ?_
    refine dq (zC rfl rfl (by omega) (by omega)) ?_
    refine dmv rfl ?_
    refine dn ?_
    refine ⟨k + 1, ?_, ?_, ⟨rfl, trivial⟩, (by repeat (first | exact zq | refine zx rfl ?_ | refine zt rfl rfl ?_)), List.Perm.refl _⟩
    ·refine ⟨by omega, ?_⟩
     rw [hg, za4, if_neg (by simp_all)]; rfl
    ·dsimp only; omega
  ·try simp at h2
   have hnk : l.length ≤ k := by omega
   obtain rfl : k = l.length := by omega
   rw [zaS (Nat.le_refl _)] at hg
   refine z7 ?_
   refine zag ?_
   refine zaY ?_
   refine zT ?_
   refine zk ?_
   refine za ?_
   refine das rfl ?_
   refine dn ?_
   refine zp ?_
   refine zI rfl ?_
   show HVal.int .i64 _ = _
   first | (rw [hg]; rfl) | (rw [hg]; simp_all [za4])

/-- slices.DeleteFunc[[]int,int] -/
theorem zfD [Tracks] {l : List Int} {fid : FuncId} {caps : List HVal} {p : Int → Bool} {v : Value} (hca : Callable Tryz.prog fid) (hp : ∀ x, zah Tryz.prog fid ([(HVal.int .i64) x] ++ caps) (.bool (p x))) (hl : l.length ≤ 1000000) : Con Tryz.prog 139 [.raw v, .fn (.func fid) [] caps] [.arr v 1 (l.map (HVal.int .i64))] (fun x M' => ∃ u, x = .raw u ∧ M' = [.arr u 1 ((l.filter (fun x => !p x)).map (HVal.int .i64))]) := by
 refine Con.of_body Tryz.func139 rfl Tryz.ntmps139 rfl rfl ?_
 refine za ?_
 refine das rfl ?_
 refine dn ?_
 refine za ?_
 refine dmv rfl ?_
 refine dmv rfl ?_
 refine de rfl (zeY (hs' := [.slice 1 (l.map (HVal.int .i64)), .fn (.func fid) [] caps]) zsP rfl ⟨.arr (i := 0) rfl, .weak (Weak.refl _), trivial⟩ (zfS (p := p) hca hp hl) rfl ?_)
 refine das rfl ?_
 refine dn ?_
 refine zm ?_
 refine za ?_
 refine dmv rfl ?_
 refine dq (zaj rfl rfl) ?_
 refine dn ?_
 refine zl rfl (fun h1 => ?_) (fun h2 => ?_)
 ·try simp at h1
  refine za ?_
  refine dmv rfl ?_
  refine das rfl ?_
  refine dn ?_
  refine zp ?_
  first
  | (refine zaQ rfl ⟨_, rfl, ?_⟩
     rw [zix p l 0 (by omega) h1]
     done)
  | (refine zaQ rfl ⟨_, rfl, ?_⟩
     rw [List.take_length, ← List.map_take, hend]; rfl)
 ·try simp at h2
  refine zo ?_
  refine zk ?_
  refine zm ?_
  obtain ⟨i0, hi0, hil, ⟨x0, hx0, hp0⟩, hb0⟩ := zhL p l 0 (by omega) h2
  rw [Int.zero_add] at hi0
  obtain ⟨hD0, hn0⟩ := DelInv.start (p := p) hil hx0 hp0 hb0
  refine zc6 (i := 0) rfl (fun h0 he => ?_) (fun b off cap hv hcap => ?_)
  ·exfalso; have := congrArg List.length he; simp at this; subst this; simp at hil
  rw [List.length_map] at hv hcap
  subst hv
  refine za ?_
  refine dmv rfl ?_
  refine dq (zfO (zC rfl rfl (by rw [hi0]; omega) (by rw [hi0]; omega)) (congrArg _ (by rw [hi0]))) ?_
  refine das rfl ?_
  refine dn ?_
  refine zu ?_
  refine zaZ [5, 6, 7, 16, 17, 18, 19, 20, 21, 22, 23, 24, 25, 26, 27, 28, 29, 30, 31, 32, 33, 34, 35] (fun (j : Nat) (D : List Int) => [(6, .int .i64 (j : Int)), (5, .int .i64 (((l.take j).filter (fun x => !p x)).length : Int))]) (fun (j : Nat) (D : List Int) => [.arr (.slice (some ⟨b, off, none⟩) l.length cap) 1 (D.map (HVal.int .i64))]) (fun (j : Nat) (D : List Int) => DelInv p l j D) (fun (j : Nat) (D : List Int) => l.length - j) (i0 + 1) (l) ?_ ?_ ?_ ?_
  ·exact hD0
  ·exact ⟨rfl, zdv (by rw [hn0, hi0]), trivial⟩
  ·exact List.Perm.refl _
  ·intro j D hD
   have hlt0 := hD.lt
   have hle0 := hD.len
   refine zm ?_
   refine za ?_
   refine dmv rfl ?_
   refine dmv rfl ?_
   first
   | refine de rfl (zaA (i := 0) zbh rfl rfl ?_)
   | refine de rfl (zaA (i := 1) zbh rfl rfl ?_)
   | refine de rfl (zaA (i := 2) zbh rfl rfl ?_)
   | refine de rfl (zaA (i := 3) zbh rfl rfl ?_)
   refine dq (zY rfl rfl) ?_
   refine dn ?_
   refine zl rfl (fun h3 => ?_) (fun h4 => ?_)
   ·try simp at h3
    obtain ⟨x, hx⟩ : ∃ x, l[j]? = some x := ⟨_, List.getElem?_eq_getElem (by omega)⟩
    refine zo ?_
    refine zk ?_
    refine zm ?_
    refine zu ?_
    refine za ?_
    refine dmv rfl ?_
    refine dmv rfl ?_
    refine dq (za1 (j := j) zbh ty3 rfl rfl rfl (by omega)) ?_
    refine de rfl (za6 (i := 0) (j := j) 0 ty3 rfl rfl rfl (hD.get hx) rfl rfl ?_)
    refine das rfl ?_
    refine dn ?_
    refine za ?_
    refine dmv rfl ?_
    refine dmv rfl ?_
    refine dq (zdI hca rfl rfl (WeakL.refl _) (hp _)) ?_
    refine dq (zam rfl) ?_
    refine dn ?_
    refine zl rfl (fun h5 => ?_) (fun h6 => ?_)
    ·try simp at h5
     refine za ?_
     refine dmv rfl ?_
     refine dmv rfl ?_
     refine dmv rfl ?_
     refine dq (za1 (j := ((l.take j).filter (fun x => !p x)).length) zbh ty3 rfl rfl rfl (by have := hD.lt; omega)) ?_
     refine de0 (zeF (i := 0) (j := ((l.take j).filter (fun x => !p x)).length) (y := D[((l.take j).filter (fun x => !p x)).length]'(by have := hD.lt; have := hD.len; omega)) (y' := x) ty3 rfl rfl rfl rfl (List.getElem?_eq_getElem _) rfl rfl rfl ?_)
     refine dn ?_
     refine zB ?_
     refine dmv rfl ?_
     refine dq (zC rfl rfl (by omega) (by have := hD.lt; omega)) ?_
     refine das rfl ?_
     refine dn ?_
     refine zA ?_
     refine zk ?_
     refine zB ?_
     refine dmv rfl ?_
     refine dq (zC rfl rfl (by omega) (by omega)) ?_
     refine das rfl ?_
     refine dn ?_
     first
     | exact ⟨j + 1, _, (hD.keep hx (by simp_all)).1, by dsimp only; omega, ⟨rfl, zdv (by rw [(hD.keep hx (by simp_all)).2]; rfl), trivial⟩, (by repeat (first | exact zq | refine zx rfl ?_ | refine zt rfl rfl ?_)), List.Perm.refl _⟩
     | exact ⟨j + 1, _, (hD.skip hx (by simp_all)).1, by dsimp only; omega, ⟨rfl, zdv (by rw [(hD.skip hx (by simp_all)).2]), trivial⟩, (by repeat (first | exact zq | refine zx rfl ?_ | refine zt rfl rfl ?_)), List.Perm.refl _⟩
    ·try simp at h6
     refine zo ?_
     refine zA ?_
     refine zk ?_
     refine zB ?_
     refine dmv rfl ?_
     refine dq (zC rfl rfl (by omega) (by omega)) ?_
     refine das rfl ?_
     refine dn ?_
     first
     | exact ⟨j + 1, _, (hD.keep hx (by simp_all)).1, by dsimp only; omega, ⟨rfl, zdv (by rw [(hD.keep hx (by simp_all)).2]; rfl), trivial⟩, (by repeat (first | exact zq | refine zx rfl ?_ | refine zt rfl rfl ?_)), List.Perm.refl _⟩
     | exact ⟨j + 1, _, (hD.skip hx (by simp_all)).1, by dsimp only; omega, ⟨rfl, zdv (by rw [(hD.skip hx (by simp_all)).2]), trivial⟩, (by repeat (first | exact zq | refine zx rfl ?_ | refine zt rfl rfl ?_)), List.Perm.refl _⟩
   ·try simp at h4
    obtain rfl : j = l.length := by have := hD.jle; omega
    have hend := hD.done
    refine z7 ?_
    refine zag ?_
    refine zbc ?_
    refine zT ?_
    refine zk ?_
    refine za ?_
    refine dmv rfl ?_
    refine dmv rfl ?_
    refine dq (zlB (l := ((l.take l.length).filter (fun x => !p x)).length) zbh ty3 rfl ⟨_, _, rfl, rfl⟩ rfl (by omega) (by omega) hcap) ?_
    refine de0 (ziK (i := 0) (m := ((l.take l.length).filter (fun x => !p x)).length) (((l.take l.length).filter (fun x => !p x)).length) zbh ty3 rfl rfl rfl (zmP (by omega) hcap) rfl (by omega) (Nat.le_refl _) (by rw [List.length_map, hD.len]; omega) ?_)
    refine dn ?_
    refine za ?_
    refine dmv rfl ?_
    refine dmv rfl ?_
    refine dq (zks (h := ((l.take l.length).filter (fun x => !p x)).length) zbh ty3 rfl ⟨_, _, rfl, rfl⟩ (by omega)) ?_
    refine das rfl ?_
    refine dn ?_
    refine zp ?_
    first
    | (refine zaQ rfl ⟨_, rfl, ?_⟩
       rw [zix p l 0 (by omega) h1]
       done)
    | (refine zaQ rfl ⟨_, rfl, ?_⟩
       rw [List.take_length, ← List.map_take, hend]; rfl)

theorem zk2 [Tracks] {l : List Int} {v : Value} (hl : l.length ≤ 1000000) : Con Tryz.prog 137 [.raw v] [.arr v 1 (l.map (.int .i64))] fun x M' => x = .tup [] ∧ M' = [.arr v 1 ((zd4 l).map (.int .i64))] :=
 zpU (zgV l) (fun b off cap w h1 h2 _ => Any.slices_Sort_int Tryz.lays189 b off cap l w h1 h2 (by omega)) (fun _ => zhX fun I w args ha => by
  obtain ⟨u, rfl, hu⟩ := ha.one
  obtain ⟨p, cap, rfl⟩ := hu.slice_len
  exact ⟨.tuple #[], .tup (by simp) (fun j c v h _ => by simp at h), Any.slices_Sort_int_none Tryz.lays189 p cap w⟩)

theorem zjc [Tracks] {l : List Int} {v : Value} (hl : l.length ≤ 1000000) : Con Tryz.prog 138 [.raw v] [.arr v 1 (l.map (.int .i64))] fun x M' => ∃ u, x = .raw u ∧ M' = [.arr u 1 ((Lib.compact l).map (.int .i64))] :=
 zo8 (zg0 l) (fun b off cap w h1 _ h3 => Any.slices_Compact_int Tryz.lays220 b off cap l w h1 (by omega) h3) (fun _ w => Any.slices_Compact_int_empty Tryz.lays220 none 0 w)

theorem zkQ [Tracks] (m : MarketS) (l : List DealS) (a : List ReplyS) : (moA m l a).length = 1 + 2 * l.length + 2 * a.length := by
 unfold moA; rw [List.length_append, List.length_append, zhb, zi5]; simp

/-- (*benchwarmer/benchref1.follow).time -/
theorem zms [Tracks] {m : MarketS} {l : List DealS} {s : RS} {t : Int} {d0 : DR} (hn : (alk d0.p.1.Id s.LS).getD none = none) : Con Tryz.prog 95 [pAt s.bf, zdr d0.p.1, .int .i64 t] (FR m l s) (fun x M' => x = .tup [] ∧ M' = (FR m l s)) := by
 refine Con.of_body Tryz.func95 rfl Tryz.ntmps95 rfl rfl ?_
 refine za ?_
 refine dq (zal rfl rfl) ?_
 refine dn ?_
 refine zar (fun M => M = (FR m l s)) [3, 6] mixed ?_
 refine ahp 0 rfl rfl (by kernel_rfl) (by kernel_rfl) (zf rfl) ?_
 refine ahp 1 rfl rfl (by kernel_rfl) (by kernel_rfl) ((by first | exact zn rfl | exact zg rfl)) ?_
 refine ahp 2 rfl rfl (by kernel_rfl) (by kernel_rfl) (zb zbj rfl zcx (by decide) rfl) ?_
 refine ahl 3 rfl rfl (by kernel_rfl) (by kernel_rfl) (by simp) rfl (fun M hM => by subst hM; exact zy (i := 0) zcx rfl rfl (.inl ⟨rfl, rfl⟩) ⟨rfl, rfl⟩) ?_
 refine ahp 4 rfl rfl (by kernel_rfl) (by kernel_rfl) ((by first | exact zd zJ rfl ty9 (by decide) rfl | exact zb zJ rfl ty9 (by decide) rfl)) ?_
 refine ahp 5 rfl rfl (by kernel_rfl) (by kernel_rfl) (zh ty9 rfl rfl rfl) ?_
 refine ahl 6 rfl rfl (by kernel_rfl) (by kernel_rfl) (by simp) rfl (fun M hM => by subst hM; exact zbP (i := 1) (f := zgi) (L := s.LS) (z0 := none) zcx ty9 zeE rfl rfl rfl rfl ⟨(by rw [hn]), rfl⟩) ?_
 refine ahp 7 rfl rfl (by kernel_rfl) (by kernel_rfl) (z8 rfl) ?_
 refine ahz (by kernel_rfl) ?_
 refine zu ?_
 refine za ?_
 refine dmv rfl ?_
 refine dq (zf5 (o := none) zeE rfl rfl) ?_
 refine das rfl ?_
 refine dn ?_
 refine zl rfl (fun h1 => ?_) (fun h1 => ?_)
 ·try simp at h1
  refine zo ?_
  refine zA ?_
  exact zH rfl ⟨rfl, rfl⟩
 ·exfalso
  try simp at h1
  done

set_option maxHeartbeats 4000000 in
/-- (*benchwarmer/benchref1.follow).time -/
theorem zmN [Tracks] {m : MarketS} {l : List DealS} {s : RS} {t : Int} {k0 : Nat} {d0 : DR} (hI : RI l s) (hk0 : s.D[k0]? = some d0) (hh : d0.p.2.how ≠ 0) (hG : d0.p.1.Gives.length ≤ 1000) (hsb : d0.p.2.how = 2 → 0 ≤ d0.p.2.since ∧ d0.p.2.since ≤ 345686400000) (hwt : 0 ≤ m.Wait ∧ m.Wait ≤ 864000000) (ht : m.Teams.length ≤ 1000000) (h0o : 0 < s.o.length) (ho : s.o.length ≤ 1000000) (hdn : s.dn.length ≤ 100000000) : Con Tryz.prog 95 [pAt s.bf, zdr d0.p.1, .int .i64 t] (FR m l s) (fun x M' => ∃ s', x = .tup [] ∧ M' = FR m l s' ∧ RI l s' ∧ s'.D.map (·.p) = (s.D.map (·.p)).set k0 (zaB m t s.o d0.p).2.1 ∧ s'.o = (zaB m t s.o d0.p).1 ∧ s'.dn = s.dn ++ (zaB m t s.o d0.p).2.2.map (·.1.Id) ∧ s'.bf = s.bf) := by
 have hst : (alk d0.p.1.Id s.LS).getD none = some (zj (zbz ⟨d0.p.1.Id, d0.p.2.how, d0.p.2.since⟩)) := by rw [hI.st d0 (List.mem_of_getElem? hk0)]; unfold stO; rw [if_neg hh]
 refine Con.of_body Tryz.func95 rfl Tryz.ntmps95 rfl rfl ?_
 refine za ?_
 refine dq (zal rfl rfl) ?_
 refine dn ?_
 refine zar (fun M => M = (FR m l s)) [3, 6] mixed ?_
 refine ahp 0 rfl rfl (by kernel_rfl) (by kernel_rfl) (zf rfl) ?_
 refine ahp 1 rfl rfl (by kernel_rfl) (by kernel_rfl) ((by first | exact zn rfl | exact zg rfl)) ?_
 refine ahp 2 rfl rfl (by kernel_rfl) (by kernel_rfl) (zb zbj rfl zcx (by decide) rfl) ?_
 refine ahl 3 rfl rfl (by kernel_rfl) (by kernel_rfl) (by simp) rfl (fun M hM => by subst hM; exact zy (i := 0) zcx rfl rfl (.inl ⟨rfl, rfl⟩) ⟨rfl, rfl⟩) ?_
 refine ahp 4 rfl rfl (by kernel_rfl) (by kernel_rfl) ((by first | exact zd zJ rfl ty9 (by decide) rfl | exact zb zJ rfl ty9 (by decide) rfl)) ?_
 refine ahp 5 rfl rfl (by kernel_rfl) (by kernel_rfl) (zh ty9 rfl rfl rfl) ?_
 refine ahl 6 rfl rfl (by kernel_rfl) (by kernel_rfl) (by simp) rfl (fun M hM => by subst hM; exact zbP (i := 1) (f := zgi) (L := s.LS) (z0 := none) zcx ty9 zeE rfl rfl rfl rfl ⟨(by rw [hst]), rfl⟩) ?_
 refine ahp 7 rfl rfl (by kernel_rfl) (by kernel_rfl) (z8 rfl) ?_
 refine ahz (by kernel_rfl) ?_
 refine zu ?_
 refine za ?_
 refine dmv rfl ?_
 refine dq (zf5 (o := some (zj (zbz ⟨d0.p.1.Id, d0.p.2.how, d0.p.2.since⟩))) zeE rfl rfl) ?_
 refine das rfl ?_
 refine dn ?_
 refine zl rfl (fun h1 => ?_) (fun h1 => ?_)
 ·exfalso
  try simp at h1
  done
 ·try simp at h1
  refine za ?_
  refine dmv rfl ?_
  refine dq ((by first | exact zn rfl | exact zg rfl)) ?_
  refine dq ((by first | exact zd zcg rfl ty3 (by decide) rfl | exact zb zcg rfl ty3 (by decide) rfl)) ?_
  refine dq (zh ty3 rfl rfl rfl) ?_
  refine dq (zaj rfl rfl) ?_
  refine dmv rfl ?_
  refine dg rfl rfl (fun hc => ⟨_, OpenTo.refl _, zf rfl⟩) ?_
  refine dg rfl rfl (fun hc => ⟨_, OpenTo.refl _, (by first | exact zd zJ rfl zbn (by decide) rfl | exact zb zJ rfl zbn (by decide) rfl)⟩) ?_
  refine dg rfl rfl (fun hc => ⟨_, OpenTo.upd (t := 27) rfl (by first | exact hc | simp_all) (OpenTo.refl _), (by first | exact zd zbn rfl ty3 (by decide) rfl | exact zb zbn rfl ty3 (by decide) rfl)⟩) ?_
  refine dg rfl rfl (fun hc => ⟨_, OpenTo.upd (t := 28) rfl (by first | exact hc | simp_all) (OpenTo.refl _), zh ty3 rfl rfl rfl⟩) ?_
  refine dg rfl rfl (fun hc => ⟨_, OpenTo.upd (t := 29) rfl (by first | exact hc | simp_all) (OpenTo.upd (t := 26) rfl (by first | exact hc | simp_all) (OpenTo.refl _)), zbG rfl rfl⟩) ?_
  refine dg rfl rfl (fun hc => ⟨_, OpenTo.upd (t := 30) rfl (by first | exact hc | simp_all) (OpenTo.refl _), zf rfl⟩) ?_
  refine dg rfl rfl (fun hc => ⟨_, OpenTo.refl _, zf rfl⟩) ?_
  refine dg rfl rfl (fun hc => ⟨_, OpenTo.refl _, zf rfl⟩) ?_
  refine dg rfl rfl (fun hc => ⟨_, OpenTo.upd (t := 33) rfl (by first | exact hc | simp_all) (OpenTo.refl _), (by first | exact zn rfl | exact zg rfl)⟩) ?_
  refine dg rfl rfl (fun hc => ⟨_, OpenTo.upd (t := 34) rfl (by first | exact hc | simp_all) (OpenTo.refl _), zb zbj rfl zN (by decide) rfl⟩) ?_
  refine dg rfl rfl (fun hc => ⟨_, OpenTo.upd (t := 35) rfl (by first | exact hc | simp_all) (OpenTo.refl _), zb zN rfl ty3 (by decide) rfl⟩) ?_
  refine dgl rfl rfl (fun hc => ⟨_, OpenTo.upd (t := 36) rfl (by first | exact hc | simp_all) (OpenTo.refl _), zy (i := 0) ty3 rfl rfl (.inl ⟨rfl, rfl⟩) ⟨rfl, rfl⟩⟩) ?_
  refine dg rfl rfl (fun hc => ⟨_, OpenTo.upd (t := 37) rfl (by first | exact hc | simp_all) (OpenTo.upd (t := 32) rfl (by first | exact hc | simp_all) (OpenTo.refl _)), zbG rfl rfl⟩) ?_
  refine dg rfl rfl (fun hc => ⟨_, OpenTo.upd (t := 31) rfl (by first | exact hc | simp_all) (OpenTo.refl _), zG rfl (.inl rfl) (.inr ⟨_, rfl, fun h => by simp_all⟩)⟩) ?_
  refine dq (zG rfl (.inr ⟨_, rfl, fun h => by simp_all⟩) (.inl rfl)) ?_
  refine das rfl ?_
  refine dn ?_
  refine zl rfl (fun h2 => ?_) (fun h3 => ?_)
  ·try simp at h2
   refine zB ?_
   refine dmv rfl ?_
   refine dq ((by first | exact zd zJ rfl ty9 (by decide) rfl | exact zb zJ rfl ty9 (by decide) rfl)) ?_
   refine dq (zh ty9 rfl rfl rfl) ?_
   refine dmv rfl ?_
   refine de rfl (EOp.mono ?_ (zbd zhG rfl (WeakL.refl _) (zdm (s := s) (id := d0.p.1.Id) (how := 7) (t := t))))
   rintro _ _ ⟨rfl, rfl⟩
   refine dn ?_
   refine zA ?_
   by_cases hw1 : d0.p.2.how = 1
   ·first
    | (exfalso; omega)
    | (exfalso; simp_all; done)
    | exact zH rfl ⟨_, rfl, zaW hk0, RI.setSt hI hk0 (by decide), zau hk0 (by rw [zb7 hw1 (by omega)]; rfl), by rw [zb7 hw1 (by omega)]; rfl, by rw [zb7 hw1 (by omega)]; simp [rSt], rfl⟩
    | exact zH rfl ⟨s, rfl, rfl, hI, zbg hk0 (by rw [za2 (by simp_all <;> omega) (by simp_all <;> omega)]), by rw [za2 (by simp_all <;> omega) (by simp_all <;> omega)], by rw [za2 (by simp_all <;> omega) (by simp_all <;> omega)]; simp, rfl⟩
   ·first
    | (exfalso; omega)
    | (exfalso; simp_all; done)
    | exact zH rfl ⟨_, rfl, zaW hk0, RI.setSt hI hk0 (by decide), zau hk0 (by rw [zb9 (by simp_all <;> omega) (by simp_all <;> fail)]; rfl), by rw [zb9 (by simp_all <;> omega) (by simp_all <;> fail)]; rfl, by rw [zb9 (by simp_all <;> omega) (by simp_all <;> fail)]; simp [rSt], rfl⟩
    | exact zaQ rfl ⟨_, rfl, zaW hk0, RI.setSt hI hk0 (by decide), zau hk0 (by rw [zbJ (by simp_all <;> omega) (by simp_all <;> omega) (by simp_all <;> fail)]; rfl), by rw [zbJ (by simp_all <;> omega) (by simp_all <;> omega) (by simp_all <;> fail)]; rfl, by rw [zbJ (by simp_all <;> omega) (by simp_all <;> omega) (by simp_all <;> fail)]; simp [rSt], rfl⟩
    | exact zH rfl ⟨_, rfl, zaW hk2, RI.setSt hI2 hk2 (by decide), zau hk0 (by rw [zca (by simp_all <;> omega) (by simp_all <;> omega) hdb]; rfl), by rw [zca (by simp_all <;> omega) (by simp_all <;> omega) hdb]; rfl, by rw [zca (by simp_all <;> omega) (by simp_all <;> omega) hdb]; simp [rSt], rfl⟩
    | exact zH rfl ⟨s, rfl, rfl, hI, zbg hk0 (by rw [za2 (by simp_all <;> omega) (by simp_all <;> omega)]), by rw [za2 (by simp_all <;> omega) (by simp_all <;> omega)], by rw [za2 (by simp_all <;> omega) (by simp_all <;> omega)]; simp, rfl⟩
  ·try simp at h3
   refine zar (fun M => M = (FR m l s)) [15, 25] mixed ?_
   refine ahp 0 rfl rfl (by kernel_rfl) (by kernel_rfl) (zf rfl) ?_
   refine ahp 1 rfl rfl (by kernel_rfl) (by kernel_rfl) ((by first | exact zn rfl | exact zg rfl)) ?_
   refine ahp 2 rfl rfl (by kernel_rfl) (by kernel_rfl) ((by first | exact zd zcg rfl ty3 (by decide) rfl | exact zb zcg rfl ty3 (by decide) rfl)) ?_
   refine ahp 3 rfl rfl (by kernel_rfl) (by kernel_rfl) (zh ty3 rfl rfl rfl) ?_
   refine ahp 4 rfl rfl (by kernel_rfl) (by kernel_rfl) (zaj rfl rfl) ?_
   refine ahp 5 rfl rfl (by kernel_rfl) (by kernel_rfl) (zf rfl) ?_
   refine ahg 6 rfl rfl (by kernel_rfl) (by kernel_rfl) rfl (fun hc => ⟨_, OpenTo.refl _, zf rfl⟩) ?_
   refine ahg 7 rfl rfl (by kernel_rfl) (by kernel_rfl) rfl (fun hc => ⟨_, OpenTo.refl _, zf rfl⟩) ?_
   refine ahg 8 rfl rfl (by kernel_rfl) (by kernel_rfl) rfl (fun hc => ⟨_, OpenTo.upd (t := 54) rfl (by first | exact hc | simp_all) (OpenTo.refl _), (by first | exact zn rfl | exact zg rfl)⟩) ?_
   refine ahg 9 rfl rfl (by kernel_rfl) (by kernel_rfl) rfl (fun hc => ⟨_, OpenTo.upd (t := 55) rfl (by first | exact hc | simp_all) (OpenTo.refl _), (by first | exact zd zcg rfl ty3 (by decide) rfl | exact zb zcg rfl ty3 (by decide) rfl)⟩) ?_
   refine ahg 10 rfl rfl (by kernel_rfl) (by kernel_rfl) rfl (fun hc => ⟨_, OpenTo.upd (t := 56) rfl (by first | exact hc | simp_all) (OpenTo.refl _), zh ty3 rfl rfl rfl⟩) ?_
   refine ahg 11 rfl rfl (by kernel_rfl) (by kernel_rfl) rfl (fun hc => ⟨_, OpenTo.refl _, zf rfl⟩) ?_
   refine ahg 12 rfl rfl (by kernel_rfl) (by kernel_rfl) rfl (fun hc => ⟨_, OpenTo.upd (t := 58) rfl (by first | exact hc | simp_all) (OpenTo.refl _), (by first | exact zn rfl | exact zg rfl)⟩) ?_
   refine ahg 13 rfl rfl (by kernel_rfl) (by kernel_rfl) rfl (fun hc => ⟨_, OpenTo.upd (t := 59) rfl (by first | exact hc | simp_all) (OpenTo.refl _), zb zbj rfl zN (by decide) rfl⟩) ?_
   refine ahg 14 rfl rfl (by kernel_rfl) (by kernel_rfl) rfl (fun hc => ⟨_, OpenTo.upd (t := 60) rfl (by first | exact hc | simp_all) (OpenTo.refl _), zb zN rfl ty3 (by decide) rfl⟩) ?_
   refine zdt 15 rfl rfl (by kernel_rfl) (by kernel_rfl) (by simp) rfl rfl (fun hc => ⟨_, OpenTo.upd (t := 61) rfl (by first | exact hc | simp_all) (OpenTo.refl _), fun M hM => by
    subst hM; exact zy (i := 0) ty3 rfl rfl (.inl ⟨rfl, rfl⟩) ⟨rfl, rfl⟩
    ⟩) ?_
   refine ahg 16 rfl rfl (by kernel_rfl) (by kernel_rfl) rfl (fun hc => by
    have hsb1 := hsb (by simpa using hc)
    exact ⟨_, OpenTo.upd (t := 62) rfl (by first | exact hc | simp_all) (OpenTo.upd (t := 57) rfl (by first | exact hc | simp_all) (OpenTo.refl _)), zC rfl rfl (by dsimp only; omega) (by dsimp only; omega)⟩) ?_
   refine ahg 17 rfl rfl (by kernel_rfl) (by kernel_rfl) rfl (fun hc => ⟨_, OpenTo.upd (t := 63) rfl (by first | exact hc | simp_all) (OpenTo.upd (t := 53) rfl (by first | exact hc | simp_all) (OpenTo.refl _)), zbG rfl rfl⟩) ?_
   refine ahp 18 rfl rfl (by kernel_rfl) (by kernel_rfl) (zG rfl (.inr ⟨_, rfl, fun h => by simp_all⟩) (.inl rfl)) ?_
   refine ahp 19 rfl rfl (by kernel_rfl) (by kernel_rfl) (zf rfl) ?_
   refine ahg 20 rfl rfl (by kernel_rfl) (by kernel_rfl) rfl (fun hc => ⟨_, OpenTo.refl _, zf rfl⟩) ?_
   refine ahg 21 rfl rfl (by kernel_rfl) (by kernel_rfl) rfl (fun hc => ⟨_, OpenTo.refl _, zf rfl⟩) ?_
   refine ahg 22 rfl rfl (by kernel_rfl) (by kernel_rfl) rfl (fun hc => ⟨_, OpenTo.upd (t := 68) rfl (by first | exact hc | simp_all) (OpenTo.refl _), (by first | exact zn rfl | exact zg rfl)⟩) ?_
   refine ahg 23 rfl rfl (by kernel_rfl) (by kernel_rfl) rfl (fun hc => ⟨_, OpenTo.upd (t := 69) rfl (by first | exact hc | simp_all) (OpenTo.refl _), zb zbj rfl zN (by decide) rfl⟩) ?_
   refine ahg 24 rfl rfl (by kernel_rfl) (by kernel_rfl) rfl (fun hc => ⟨_, OpenTo.upd (t := 70) rfl (by first | exact hc | simp_all) (OpenTo.refl _), zb zN rfl ty3 (by decide) rfl⟩) ?_
   refine zdt 25 rfl rfl (by kernel_rfl) (by kernel_rfl) (by simp) rfl rfl (fun hc => ⟨_, OpenTo.upd (t := 71) rfl (by first | exact hc | simp_all) (OpenTo.refl _), fun M hM => by
    subst hM; exact zy (i := 0) ty3 rfl rfl (.inl ⟨rfl, rfl⟩) ⟨rfl, rfl⟩
    ⟩) ?_
   refine ahg 26 rfl rfl (by kernel_rfl) (by kernel_rfl) rfl (fun hc => ⟨_, OpenTo.upd (t := 72) rfl (by first | exact hc | simp_all) (OpenTo.upd (t := 67) rfl (by first | exact hc | simp_all) (OpenTo.refl _)), zbG rfl rfl⟩) ?_
   refine ahp 27 rfl rfl (by kernel_rfl) (by kernel_rfl) (zG rfl (.inr ⟨_, rfl, fun h => by simp_all⟩) (.inl rfl)) ?_
   refine ahp 28 rfl rfl (by kernel_rfl) (by kernel_rfl) (z8 rfl) ?_
   refine ahz (by kernel_rfl) ?_
   refine zl rfl (fun h4 => ?_) (fun h5 => ?_)
   ·try simp at h4
    refine zB ?_
    refine dmv rfl ?_
    refine dq ((by first | exact zd zJ rfl ty9 (by decide) rfl | exact zb zJ rfl ty9 (by decide) rfl)) ?_
    refine dq (zh ty9 rfl rfl rfl) ?_
    refine dmv rfl ?_
    refine de rfl (EOp.mono ?_ (zbd zhG rfl (WeakL.refl _) (zdm (s := s) (id := d0.p.1.Id) (how := 7) (t := t))))
    rintro _ _ ⟨rfl, rfl⟩
    refine dn ?_
    refine zA ?_
    by_cases hw1 : d0.p.2.how = 1
    ·first
     | (exfalso; omega)
     | (exfalso; simp_all; done)
     | exact zH rfl ⟨_, rfl, zaW hk0, RI.setSt hI hk0 (by decide), zau hk0 (by rw [zb7 hw1 (by omega)]; rfl), by rw [zb7 hw1 (by omega)]; rfl, by rw [zb7 hw1 (by omega)]; simp [rSt], rfl⟩
     | exact zH rfl ⟨s, rfl, rfl, hI, zbg hk0 (by rw [za2 (by simp_all <;> omega) (by simp_all <;> omega)]), by rw [za2 (by simp_all <;> omega) (by simp_all <;> omega)], by rw [za2 (by simp_all <;> omega) (by simp_all <;> omega)]; simp, rfl⟩
    ·first
     | (exfalso; omega)
     | (exfalso; simp_all; done)
     | exact zH rfl ⟨_, rfl, zaW hk0, RI.setSt hI hk0 (by decide), zau hk0 (by rw [zb9 (by simp_all <;> omega) (by simp_all <;> fail)]; rfl), by rw [zb9 (by simp_all <;> omega) (by simp_all <;> fail)]; rfl, by rw [zb9 (by simp_all <;> omega) (by simp_all <;> fail)]; simp [rSt], rfl⟩
     | exact zaQ rfl ⟨_, rfl, zaW hk0, RI.setSt hI hk0 (by decide), zau hk0 (by rw [zbJ (by simp_all <;> omega) (by simp_all <;> omega) (by simp_all <;> fail)]; rfl), by rw [zbJ (by simp_all <;> omega) (by simp_all <;> omega) (by simp_all <;> fail)]; rfl, by rw [zbJ (by simp_all <;> omega) (by simp_all <;> omega) (by simp_all <;> fail)]; simp [rSt], rfl⟩
     | exact zH rfl ⟨_, rfl, zaW hk2, RI.setSt hI2 hk2 (by decide), zau hk0 (by rw [zca (by simp_all <;> omega) (by simp_all <;> omega) hdb]; rfl), by rw [zca (by simp_all <;> omega) (by simp_all <;> omega) hdb]; rfl, by rw [zca (by simp_all <;> omega) (by simp_all <;> omega) hdb]; simp [rSt], rfl⟩
     | exact zH rfl ⟨s, rfl, rfl, hI, zbg hk0 (by rw [za2 (by simp_all <;> omega) (by simp_all <;> omega)]), by rw [za2 (by simp_all <;> omega) (by simp_all <;> omega)], by rw [za2 (by simp_all <;> omega) (by simp_all <;> omega)]; simp, rfl⟩
   ·try simp at h5
    refine zar (fun M => M = (FR m l s)) [15] mixed ?_
    refine ahp 0 rfl rfl (by kernel_rfl) (by kernel_rfl) (zf rfl) ?_
    refine ahp 1 rfl rfl (by kernel_rfl) (by kernel_rfl) ((by first | exact zn rfl | exact zg rfl)) ?_
    refine ahp 2 rfl rfl (by kernel_rfl) (by kernel_rfl) ((by first | exact zd zcg rfl ty3 (by decide) rfl | exact zb zcg rfl ty3 (by decide) rfl)) ?_
    refine ahp 3 rfl rfl (by kernel_rfl) (by kernel_rfl) (zh ty3 rfl rfl rfl) ?_
    refine ahp 4 rfl rfl (by kernel_rfl) (by kernel_rfl) (zaj rfl rfl) ?_
    refine ahp 5 rfl rfl (by kernel_rfl) (by kernel_rfl) (zf rfl) ?_
    refine ahg 6 rfl rfl (by kernel_rfl) (by kernel_rfl) rfl (fun hc => ⟨_, OpenTo.refl _, zf rfl⟩) ?_
    refine ahg 7 rfl rfl (by kernel_rfl) (by kernel_rfl) rfl (fun hc => ⟨_, OpenTo.refl _, zf rfl⟩) ?_
    refine ahg 8 rfl rfl (by kernel_rfl) (by kernel_rfl) rfl (fun hc => ⟨_, OpenTo.upd (t := 88) rfl (by first | exact hc | simp_all) (OpenTo.refl _), (by first | exact zn rfl | exact zg rfl)⟩) ?_
    refine ahg 9 rfl rfl (by kernel_rfl) (by kernel_rfl) rfl (fun hc => ⟨_, OpenTo.upd (t := 89) rfl (by first | exact hc | simp_all) (OpenTo.refl _), (by first | exact zd zcg rfl ty3 (by decide) rfl | exact zb zcg rfl ty3 (by decide) rfl)⟩) ?_
    refine ahg 10 rfl rfl (by kernel_rfl) (by kernel_rfl) rfl (fun hc => ⟨_, OpenTo.upd (t := 90) rfl (by first | exact hc | simp_all) (OpenTo.refl _), zh ty3 rfl rfl rfl⟩) ?_
    refine ahg 11 rfl rfl (by kernel_rfl) (by kernel_rfl) rfl (fun hc => ⟨_, OpenTo.refl _, zf rfl⟩) ?_
    refine ahg 12 rfl rfl (by kernel_rfl) (by kernel_rfl) rfl (fun hc => ⟨_, OpenTo.upd (t := 92) rfl (by first | exact hc | simp_all) (OpenTo.refl _), (by first | exact zn rfl | exact zg rfl)⟩) ?_
    refine ahg 13 rfl rfl (by kernel_rfl) (by kernel_rfl) rfl (fun hc => ⟨_, OpenTo.upd (t := 93) rfl (by first | exact hc | simp_all) (OpenTo.refl _), zb zbj rfl zN (by decide) rfl⟩) ?_
    refine ahg 14 rfl rfl (by kernel_rfl) (by kernel_rfl) rfl (fun hc => ⟨_, OpenTo.upd (t := 94) rfl (by first | exact hc | simp_all) (OpenTo.refl _), zb zN rfl ty3 (by decide) rfl⟩) ?_
    refine zdt 15 rfl rfl (by kernel_rfl) (by kernel_rfl) (by simp) rfl rfl (fun hc => ⟨_, OpenTo.upd (t := 95) rfl (by first | exact hc | simp_all) (OpenTo.refl _), fun M hM => by
     subst hM; exact zy (i := 0) ty3 rfl rfl (.inl ⟨rfl, rfl⟩) ⟨rfl, rfl⟩
     ⟩) ?_
    refine ahg 16 rfl rfl (by kernel_rfl) (by kernel_rfl) rfl (fun hc => by
     have hsb1 := hsb (by simpa using hc)
     exact ⟨_, OpenTo.upd (t := 96) rfl (by first | exact hc | simp_all) (OpenTo.upd (t := 91) rfl (by first | exact hc | simp_all) (OpenTo.refl _)), zC rfl rfl (by dsimp only; omega) (by dsimp only; omega)⟩) ?_
    refine ahg 17 rfl rfl (by kernel_rfl) (by kernel_rfl) rfl (fun hc => ⟨_, OpenTo.upd (t := 97) rfl (by first | exact hc | simp_all) (OpenTo.upd (t := 87) rfl (by first | exact hc | simp_all) (OpenTo.refl _)), zbG rfl rfl⟩) ?_
    refine ahp 18 rfl rfl (by kernel_rfl) (by kernel_rfl) (zG rfl (.inr ⟨_, rfl, fun h => by simp_all⟩) (.inl rfl)) ?_
    refine ahp 19 rfl rfl (by kernel_rfl) (by kernel_rfl) (z8 rfl) ?_
    refine ahz (by kernel_rfl) ?_
    refine zl rfl (fun h6 => ?_) (fun h7 => ?_)
    ·try simp at h6
     refine zar (fun M => M = (FR m l s)) [3, 7] mixed ?_
     refine ahp 0 rfl rfl (by kernel_rfl) (by kernel_rfl) (zf rfl) ?_
     refine ahp 1 rfl rfl (by kernel_rfl) (by kernel_rfl) ((by first | exact zn rfl | exact zg rfl)) ?_
     refine ahp 2 rfl rfl (by kernel_rfl) (by kernel_rfl) (zb zbj rfl zN (by decide) rfl) ?_
     refine ahl 3 rfl rfl (by kernel_rfl) (by kernel_rfl) (by simp) rfl (fun M hM => by subst hM; exact zy (i := 0) zN rfl rfl (.inr ⟨rfl, Nat.le_of_ble_eq_true rfl, rfl⟩) ⟨rfl, rfl⟩) ?_
     refine ahp 4 rfl rfl (by kernel_rfl) (by kernel_rfl) (zf rfl) ?_
     refine ahp 5 rfl rfl (by kernel_rfl) (by kernel_rfl) ((by first | exact zn rfl | exact zg rfl)) ?_
     refine ahp 6 rfl rfl (by kernel_rfl) (by kernel_rfl) (zb zbj rfl zaD (by decide) rfl) ?_
     refine ahl 7 rfl rfl (by kernel_rfl) (by kernel_rfl) (by simp) rfl (fun M hM => by subst hM; exact zy (i := 0) zaD rfl rfl (.inl ⟨rfl, rfl⟩) ⟨rfl, rfl⟩) ?_
     refine ahp 8 rfl rfl (by kernel_rfl) (by kernel_rfl) (zD zJ rfl rfl rfl rfl) ?_
     refine ahp 9 rfl rfl (by kernel_rfl) (by kernel_rfl) (zw zsv rfl (WeakL.refl _) (zjg (m := m) (o := s.o) (x := d0.p.1) ht h0o ho (by omega))) ?_
     refine ahp 10 rfl rfl (by kernel_rfl) (by kernel_rfl) (zf rfl) ?_
     refine ahp 11 rfl rfl (by kernel_rfl) (by kernel_rfl) (zaO rfl rfl) ?_
     refine ahp 12 rfl rfl (by kernel_rfl) (by kernel_rfl) (zaO rfl rfl) ?_
     refine ahp 13 rfl rfl (by kernel_rfl) (by kernel_rfl) (z8 rfl) ?_
     refine ahp 14 rfl rfl (by kernel_rfl) (by kernel_rfl) (z8 rfl) ?_
     refine ahz (by kernel_rfl) ?_
     refine zm ?_
     refine za ?_
     refine dmv rfl ?_
     refine dq (zam rfl) ?_
     refine dn ?_
     refine zl rfl (fun h8 => ?_) (fun h9 => ?_)
     ·try simp at h8
      refine za ?_
      refine dmv rfl ?_
      refine dq ((by first | exact zd zJ rfl ty9 (by decide) rfl | exact zb zJ rfl ty9 (by decide) rfl)) ?_
      refine dq (zh ty9 rfl rfl rfl) ?_
      refine dmv rfl ?_
      refine de rfl (EOp.mono ?_ (zbd zhG rfl (WeakL.refl _) (zdm (s := s) (id := d0.p.1.Id) (how := 8) (t := t))))
      rintro _ _ ⟨rfl, rfl⟩
      refine dn ?_
      refine zp ?_
      by_cases hw1 : d0.p.2.how = 1
      ·first
       | (exfalso; omega)
       | (exfalso; simp_all; done)
       | exact zH rfl ⟨_, rfl, zaW hk0, RI.setSt hI hk0 (by decide), zau hk0 (by rw [zb7 hw1 (by omega)]; rfl), by rw [zb7 hw1 (by omega)]; rfl, by rw [zb7 hw1 (by omega)]; simp [rSt], rfl⟩
       | exact zH rfl ⟨s, rfl, rfl, hI, zbg hk0 (by rw [za2 (by simp_all <;> omega) (by simp_all <;> omega)]), by rw [za2 (by simp_all <;> omega) (by simp_all <;> omega)], by rw [za2 (by simp_all <;> omega) (by simp_all <;> omega)]; simp, rfl⟩
      ·first
       | (exfalso; omega)
       | (exfalso; simp_all; done)
       | exact zH rfl ⟨_, rfl, zaW hk0, RI.setSt hI hk0 (by decide), zau hk0 (by rw [zb9 (by simp_all <;> omega) (by simp_all <;> fail)]; rfl), by rw [zb9 (by simp_all <;> omega) (by simp_all <;> fail)]; rfl, by rw [zb9 (by simp_all <;> omega) (by simp_all <;> fail)]; simp [rSt], rfl⟩
       | exact zaQ rfl ⟨_, rfl, zaW hk0, RI.setSt hI hk0 (by decide), zau hk0 (by rw [zbJ (by simp_all <;> omega) (by simp_all <;> omega) (by simp_all <;> fail)]; rfl), by rw [zbJ (by simp_all <;> omega) (by simp_all <;> omega) (by simp_all <;> fail)]; rfl, by rw [zbJ (by simp_all <;> omega) (by simp_all <;> omega) (by simp_all <;> fail)]; simp [rSt], rfl⟩
       | exact zH rfl ⟨_, rfl, zaW hk2, RI.setSt hI2 hk2 (by decide), zau hk0 (by rw [zca (by simp_all <;> omega) (by simp_all <;> omega) hdb]; rfl), by rw [zca (by simp_all <;> omega) (by simp_all <;> omega) hdb]; rfl, by rw [zca (by simp_all <;> omega) (by simp_all <;> omega) hdb]; simp [rSt], rfl⟩
       | exact zH rfl ⟨s, rfl, rfl, hI, zbg hk0 (by rw [za2 (by simp_all <;> omega) (by simp_all <;> omega)]), by rw [za2 (by simp_all <;> omega) (by simp_all <;> omega)], by rw [za2 (by simp_all <;> omega) (by simp_all <;> omega)]; simp, rfl⟩
     ·try simp at h9
      refine zo ?_
      refine zk ?_
      have hdb : zb1 m s.o d0.p.1.Gives = true := by assumption
      simp only [zgR hdb]
      refine zar (fun M => M = (FR m l s)) [6] mixed ?_
      refine ahp 0 rfl rfl (by kernel_rfl) (by kernel_rfl) (zf rfl) ?_
      refine ahp 1 rfl rfl (by kernel_rfl) (by kernel_rfl) (zf rfl) ?_
      refine ahp 2 rfl rfl (by kernel_rfl) (by kernel_rfl) (zf rfl) ?_
      refine ahp 3 rfl rfl (by kernel_rfl) (by kernel_rfl) (zf rfl) ?_
      refine ahp 4 rfl rfl (by kernel_rfl) (by kernel_rfl) ((by first | exact zn rfl | exact zg rfl)) ?_
      refine ahp 5 rfl rfl (by kernel_rfl) (by kernel_rfl) (zb zbj rfl zQ (by decide) rfl) ?_
      refine ahl 6 rfl rfl (by kernel_rfl) (by kernel_rfl) (by simp) rfl (fun M hM => by subst hM; exact zy (i := 0) zQ rfl rfl (.inl ⟨rfl, rfl⟩) ⟨rfl, rfl⟩) ?_
      refine ahp 7 rfl rfl (by kernel_rfl) (by kernel_rfl) ((by first | exact zd zJ rfl ty9 (by decide) rfl | exact zb zJ rfl ty9 (by decide) rfl)) ?_
      refine ahp 8 rfl rfl (by kernel_rfl) (by kernel_rfl) (zh ty9 rfl rfl rfl) ?_
      refine ahp 9 rfl rfl (by kernel_rfl) (by kernel_rfl) (zE (hs := [_]) zQ ty9 rfl rfl (by decide) (by decide) rfl) ?_
      refine ahe 10 rfl (by kernel_rfl) ?_
      refine zv rfl (zay (i := 4) zQ ty9 rfl rfl rfl rfl rfl (by simp [zbi, zj]) (by simp; omega) fun v130 => ?_)
      refine ⟨fun _ => .inr (by simp [zaq, Region.binds]), ?_⟩
      refine ahp 11 rfl rfl (by kernel_rfl) (by kernel_rfl) ((by first | exact zn rfl | exact zg rfl)) ?_
      refine ahp 12 rfl rfl (by kernel_rfl) (by kernel_rfl) (zb zbj rfl zaD (by decide) rfl) ?_
      refine ahe 13 rfl (by kernel_rfl) ?_
      refine zae (zz (i := 0) zaD rfl rfl rfl rfl rfl (Nat.le_of_ble_eq_true rfl) ?_)
      refine ⟨fun _ => .inr (by simp [zaq, Region.binds]), ?_⟩
      refine ahp 14 rfl rfl (by kernel_rfl) (by kernel_rfl) ((by first | exact zn rfl | exact zg rfl)) ?_
      refine ahp 15 rfl rfl (by kernel_rfl) (by kernel_rfl) (zb zbj rfl zQ (by decide) rfl) ?_
      refine ahe 16 rfl (by kernel_rfl) ?_
      refine zae (zz (i := 0) zQ rfl rfl rfl rfl rfl (Nat.le_of_ble_eq_true rfl) ?_)
      refine ⟨fun _ => .inr (by simp [zaq, Region.binds]), ?_⟩
      refine ahz (by kernel_rfl) ?_
      refine zP (Ghost.of_eq (show _ = FR m l ({ s with o := zb8 s.o d0.p.1.Gives, dn := s.dn ++ [d0.p.1.Id], vd := v130 } : RS) by simp [FR, cR, zW, zj])) ?_
      have hI2 : RI l ({ s with o := zb8 s.o d0.p.1.Gives, dn := s.dn ++ [d0.p.1.Id], vd := v130 } : RS) := ⟨hI.fst, hI.nd, hI.st, hI.ye, hI.ve, hI.out⟩
      have hk2 : ({ s with o := zb8 s.o d0.p.1.Gives, dn := s.dn ++ [d0.p.1.Id], vd := v130 } : RS).D[k0]? = some d0 := hk0
      refine zB ?_
      refine dmv rfl ?_
      refine dq ((by first | exact zd zJ rfl ty9 (by decide) rfl | exact zb zJ rfl ty9 (by decide) rfl)) ?_
      refine dq (zh ty9 rfl rfl rfl) ?_
      refine dmv rfl ?_
      refine de rfl (EOp.mono ?_ (zbd zhG rfl (WeakL.refl _) (zdm (s := ({ s with o := zb8 s.o d0.p.1.Gives, dn := s.dn ++ [d0.p.1.Id], vd := v130 } : RS)) (id := d0.p.1.Id) (how := 3) (t := t))))
      rintro _ _ ⟨rfl, rfl⟩
      refine dn ?_
      refine zA ?_
      by_cases hw1 : d0.p.2.how = 1
      ·first
       | (exfalso; omega)
       | (exfalso; simp_all; done)
       | exact zH rfl ⟨_, rfl, zaW hk0, RI.setSt hI hk0 (by decide), zau hk0 (by rw [zb7 hw1 (by omega)]; rfl), by rw [zb7 hw1 (by omega)]; rfl, by rw [zb7 hw1 (by omega)]; simp [rSt], rfl⟩
       | exact zH rfl ⟨s, rfl, rfl, hI, zbg hk0 (by rw [za2 (by simp_all <;> omega) (by simp_all <;> omega)]), by rw [za2 (by simp_all <;> omega) (by simp_all <;> omega)], by rw [za2 (by simp_all <;> omega) (by simp_all <;> omega)]; simp, rfl⟩
      ·first
       | (exfalso; omega)
       | (exfalso; simp_all; done)
       | exact zH rfl ⟨_, rfl, zaW hk0, RI.setSt hI hk0 (by decide), zau hk0 (by rw [zb9 (by simp_all <;> omega) (by simp_all <;> fail)]; rfl), by rw [zb9 (by simp_all <;> omega) (by simp_all <;> fail)]; rfl, by rw [zb9 (by simp_all <;> omega) (by simp_all <;> fail)]; simp [rSt], rfl⟩
       | exact zaQ rfl ⟨_, rfl, zaW hk0, RI.setSt hI hk0 (by decide), zau hk0 (by rw [zbJ (by simp_all <;> omega) (by simp_all <;> omega) (by simp_all <;> fail)]; rfl), by rw [zbJ (by simp_all <;> omega) (by simp_all <;> omega) (by simp_all <;> fail)]; rfl, by rw [zbJ (by simp_all <;> omega) (by simp_all <;> omega) (by simp_all <;> fail)]; simp [rSt], rfl⟩
       | exact zH rfl ⟨_, rfl, zaW hk2, RI.setSt hI2 hk2 (by decide), zau hk0 (by rw [zca (by simp_all <;> omega) (by simp_all <;> omega) hdb]; rfl), by rw [zca (by simp_all <;> omega) (by simp_all <;> omega) hdb]; rfl, by rw [zca (by simp_all <;> omega) (by simp_all <;> omega) hdb]; simp [rSt], rfl⟩
       | exact zH rfl ⟨s, rfl, rfl, hI, zbg hk0 (by rw [za2 (by simp_all <;> omega) (by simp_all <;> omega)]), by rw [za2 (by simp_all <;> omega) (by simp_all <;> omega)], by rw [za2 (by simp_all <;> omega) (by simp_all <;> omega)]; simp, rfl⟩
    ·try simp at h7
     refine zo ?_
     refine zA ?_
     by_cases hw1 : d0.p.2.how = 1
     ·first
      | (exfalso; omega)
      | (exfalso; simp_all; done)
      | exact zH rfl ⟨_, rfl, zaW hk0, RI.setSt hI hk0 (by decide), zau hk0 (by rw [zb7 hw1 (by omega)]; rfl), by rw [zb7 hw1 (by omega)]; rfl, by rw [zb7 hw1 (by omega)]; simp [rSt], rfl⟩
      | exact zH rfl ⟨s, rfl, rfl, hI, zbg hk0 (by rw [za2 (by simp_all <;> omega) (by simp_all <;> omega)]), by rw [za2 (by simp_all <;> omega) (by simp_all <;> omega)], by rw [za2 (by simp_all <;> omega) (by simp_all <;> omega)]; simp, rfl⟩
     ·first
      | (exfalso; omega)
      | (exfalso; simp_all; done)
      | exact zH rfl ⟨_, rfl, zaW hk0, RI.setSt hI hk0 (by decide), zau hk0 (by rw [zb9 (by simp_all <;> omega) (by simp_all <;> fail)]; rfl), by rw [zb9 (by simp_all <;> omega) (by simp_all <;> fail)]; rfl, by rw [zb9 (by simp_all <;> omega) (by simp_all <;> fail)]; simp [rSt], rfl⟩
      | exact zaQ rfl ⟨_, rfl, zaW hk0, RI.setSt hI hk0 (by decide), zau hk0 (by rw [zbJ (by simp_all <;> omega) (by simp_all <;> omega) (by simp_all <;> fail)]; rfl), by rw [zbJ (by simp_all <;> omega) (by simp_all <;> omega) (by simp_all <;> fail)]; rfl, by rw [zbJ (by simp_all <;> omega) (by simp_all <;> omega) (by simp_all <;> fail)]; simp [rSt], rfl⟩
      | exact zH rfl ⟨_, rfl, zaW hk2, RI.setSt hI2 hk2 (by decide), zau hk0 (by rw [zca (by simp_all <;> omega) (by simp_all <;> omega) hdb]; rfl), by rw [zca (by simp_all <;> omega) (by simp_all <;> omega) hdb]; rfl, by rw [zca (by simp_all <;> omega) (by simp_all <;> omega) hdb]; simp [rSt], rfl⟩
      | exact zH rfl ⟨s, rfl, rfl, hI, zbg hk0 (by rw [za2 (by simp_all <;> omega) (by simp_all <;> omega)]), by rw [za2 (by simp_all <;> omega) (by simp_all <;> omega)], by rw [za2 (by simp_all <;> omega) (by simp_all <;> omega)]; simp, rfl⟩

/-- (*benchwarmer/benchref1.follow).moments$1 -/
theorem zkc [Tracks] {n u : Int}  : zah Tryz.prog 140 [.int .i64 n, .vptr [.int .i64 u] 0] (.bool (decide (u < n))) := by
 refine Con.of_body Tryz.func140 rfl Tryz.ntmps140 rfl rfl ?_
 refine za ?_
 refine das rfl ?_
 refine dn ?_
 refine za ?_
 refine dmv rfl ?_
 refine dq (zh ty3 rfl rfl rfl) ?_
 refine dq (zaT rfl rfl) ?_
 refine das rfl ?_
 refine dn ?_
 refine zp ?_
 refine zI rfl ?_
 rfl

set_option maxHeartbeats 2000000 in
/-- (*benchwarmer/benchref1.follow).moments -/
theorem zlU [Tracks] {m : MarketS} {l : List DealS} {s : RS} {a : List ReplyS} {u : Int} (hl : l.length ≤ 1000) (ha : a.length ≤ 2000) (hwt : 0 ≤ m.Wait ∧ m.Wait ≤ 864000000) (hat : ∀ r ∈ a, 0 ≤ r.At ∧ r.At ≤ 345686400000) : Con Tryz.prog 92 [pAt s.bf, zbr a, .int .i64 u] (FR m l s) (fun x M' => x = .slice 1 ((moL m l a u).map (HVal.int .i64)) ∧ M' = (FR m l s)) := by
 refine Con.of_body Tryz.func92 rfl Tryz.ntmps92 rfl rfl ?_
 refine za ?_
 refine dq (zal rfl rfl) ?_
 refine das rfl ?_
 refine dn ?_
 refine za ?_
 refine dmv rfl ?_
 refine dq ((by first | exact zn rfl | exact zg rfl)) ?_
 refine dq (zb zbj rfl zN (by decide) rfl) ?_
 refine dq (zb zN rfl ty3 (by decide) rfl) ?_
 refine de rfl (zy (i := 0) ty3 rfl rfl (.inl ⟨rfl, rfl⟩) ?_)
 refine de rfl (ze7 (hs := [_]) zbh ty3 rfl rfl (by decide) (by decide) rfl fun v17 => ?_)
 refine das rfl ?_
 refine dn ?_
 refine zm ?_
 refine za ?_
 refine dmv rfl ?_
 refine dq ((by first | exact zn rfl | exact zg rfl)) ?_
 refine dq (zb zbj rfl zbv (by decide) rfl) ?_
 refine de rfl (zy (i := 1) zbv rfl rfl (.inl ⟨rfl, rfl⟩) ?_)
 refine dq (zR (f := zdr) (l := l) zbv rfl) ?_
 refine dmv rfl ?_
 refine dn ?_
 refine zu ?_
 refine zaZ [7, 9, 23, 24, 25, 26, 27, 28, 29, 30, 31, 32, 33, 34, 35, 36] (fun (k : Nat) (u1 : Value) => [(23, .int .i64 k), (7, .raw u1)]) (fun (k : Nat) (u1 : Value) => (.arr u1 1 (([m.Deadline] ++ mo1 (l.take k)).map (HVal.int .i64)) :: FR m l s)) (fun (k : Nat) (u1 : Value) => k ≤ l.length ∧ (True)) (fun (k : Nat) (u1 : Value) => l.length - k) (0) (v17) ?_ ?_ ?_ ?_
 ·exact ⟨Nat.zero_le _, trivial⟩
 ·exact ⟨rfl, rfl, trivial⟩
 ·exact zO (by simp [mo1])
 ·intro k u1 hinv
  obtain ⟨hk, -⟩ := hinv
  refine za ?_
  refine dq (zY rfl rfl) ?_
  refine dn ?_
  refine zm ?_
  refine zl rfl (fun h1 => ?_) (fun h2 => ?_)
  ·try simp at h1
   obtain ⟨x, hx⟩ : ∃ x, l[k]? = some x := ⟨_, List.getElem?_eq_getElem h1⟩
   have hdx := zU hx
   refine zo ?_
   refine zk ?_
   refine zm ?_
   refine zu ?_
   refine za ?_
   refine dq (zZ zbv zJ rfl rfl rfl (by first | assumption | simp_all)) ?_
   refine dq (zD zJ rfl rfl rfl rfl) ?_
   refine de rfl (zac zJ rfl fun b9 => ?_)
   refine de0 (zax zJ rfl rfl rfl rfl rfl ?_)
   refine dn ?_
   refine zP (Ghost.fc0 9 rfl) ?_
   refine zB ?_
   refine dmv rfl ?_
   refine dq ((by first | exact zd zJ rfl zbn (by decide) rfl | exact zb zJ rfl zbn (by decide) rfl)) ?_
   refine dq ((by first | exact zd zbn rfl ty3 (by decide) rfl | exact zb zbn rfl ty3 (by decide) rfl)) ?_
   refine dq (zh ty3 rfl rfl rfl) ?_
   refine dq ((by first | exact zd zJ rfl zbn (by decide) rfl | exact zb zJ rfl zbn (by decide) rfl)) ?_
   refine dq ((by first | exact zd zbn rfl ty3 (by decide) rfl | exact zb zbn rfl ty3 (by decide) rfl)) ?_
   refine dq (zh ty3 rfl rfl rfl) ?_
   refine dq (zE (hs := [_, _]) zbh ty3 rfl rfl (by decide) (by decide) rfl) ?_
   refine de rfl (zay (i := 0) (v := u1) (es := ([m.Deadline] ++ mo1 (l.take k)).map (HVal.int .i64)) zbh ty3 rfl rfl rfl rfl rfl (by simp [zbi, zj]) (by rw [List.length_map, List.length_append, zhb, List.length_take]; simp; omega) fun v35 => ?_)
   refine das rfl ?_
   refine dn ?_
   refine zA ?_
   refine zk ?_
   refine zB ?_
   refine dq (zC rfl rfl (by omega) (by omega)) ?_
   refine dmv rfl ?_
   refine dn ?_
   exact ⟨k + 1, v35, ⟨by omega, trivial⟩, by dsimp only; omega, ⟨rfl, rfl, trivial⟩, (by repeat (first | exact zq | refine zx rfl ?_ | refine zt rfl rfl ?_)), zO (by dsimp only; rw [zpZ hx]; simp)⟩
  ·try simp at h2
   have hnk : l.length ≤ k := by omega
   obtain rfl : k = l.length := by omega
   rw [List.take_length]
   refine z7 ?_
   refine zag ?_
   refine zbc ?_
   refine zT ?_
   refine zk ?_
   refine zm ?_
   refine za ?_
   refine dmv rfl ?_
   refine dq (zR zb5 rfl) ?_
   refine dmv rfl ?_
   refine dn ?_
   refine zu ?_
   refine zaZ [7, 11, 39, 40, 41, 42, 43, 44, 45, 46, 47, 48, 49, 50, 51, 52, 53, 54, 55, 56] (fun (k : Nat) (u1 : Value) => [(39, .int .i64 k), (7, .raw u1)]) (fun (k : Nat) (u1 : Value) => (.arr u1 1 (([m.Deadline] ++ mo1 l ++ mo2 m (a.take k)).map (HVal.int .i64)) :: FR m l s)) (fun (k : Nat) (u1 : Value) => k ≤ a.length ∧ (True)) (fun (k : Nat) (u1 : Value) => a.length - k) (0) (u1) ?_ ?_ ?_ ?_
   ·exact ⟨Nat.zero_le _, trivial⟩
   ·exact ⟨rfl, rfl, trivial⟩
   ·exact zO (by simp [mo2])
   ·intro k u1 hinv
    obtain ⟨hk, -⟩ := hinv
    refine za ?_
    refine dq (zY rfl rfl) ?_
    refine dn ?_
    refine zm ?_
    refine zl rfl (fun h3 => ?_) (fun h4 => ?_)
    ·try simp at h3
     obtain ⟨x, hx⟩ : ∃ x, a[k]? = some x := ⟨_, List.getElem?_eq_getElem h3⟩
     have hdx := zU hx
     refine zo ?_
     refine zk ?_
     refine zm ?_
     refine zu ?_
     refine za ?_
     refine dq (zZ zb5 zS rfl rfl rfl (by first | assumption | simp_all)) ?_
     refine dq (zD zS rfl rfl rfl rfl) ?_
     refine de rfl (zac zS rfl fun b11 => ?_)
     refine de0 (zax zS rfl rfl rfl rfl rfl ?_)
     refine dn ?_
     refine zP (Ghost.fc0 11 rfl) ?_
     refine zbZ (fun M => ∃ z : MObj, M = z :: FR m l s) [9] mixed ?_
     refine ahp 0 rfl rfl (by kernel_rfl) (by kernel_rfl) (zf rfl) ?_
     refine ahp 1 rfl rfl (by kernel_rfl) (by kernel_rfl) ((by first | exact zd zS rfl ty3 (by decide) rfl | exact zb zS rfl ty3 (by decide) rfl)) ?_
     refine ahp 2 rfl rfl (by kernel_rfl) (by kernel_rfl) (zh ty3 rfl rfl rfl) ?_
     refine ahp 3 rfl rfl (by kernel_rfl) (by kernel_rfl) ((by first | exact zd zS rfl ty3 (by decide) rfl | exact zb zS rfl ty3 (by decide) rfl)) ?_
     refine ahp 4 rfl rfl (by kernel_rfl) (by kernel_rfl) (zh ty3 rfl rfl rfl) ?_
     refine ahp 5 rfl rfl (by kernel_rfl) (by kernel_rfl) (zf rfl) ?_
     refine ahp 6 rfl rfl (by kernel_rfl) (by kernel_rfl) ((by first | exact zn rfl | exact zg rfl)) ?_
     refine ahp 7 rfl rfl (by kernel_rfl) (by kernel_rfl) (zb zbj rfl zN (by decide) rfl) ?_
     refine ahp 8 rfl rfl (by kernel_rfl) (by kernel_rfl) (zb zN rfl ty3 (by decide) rfl) ?_
     refine ahl 9 rfl rfl (by kernel_rfl) (by kernel_rfl) (by simp) ⟨_, rfl⟩ (fun M hM => by obtain ⟨z, rfl⟩ := hM; exact zy (i := 1) ty3 rfl rfl (.inl ⟨rfl, rfl⟩) ⟨rfl, rfl⟩) ?_
     have hxt := hat x (List.mem_of_getElem? hx)
     refine ahp 10 rfl rfl (by kernel_rfl) (by kernel_rfl) (zC rfl rfl (by omega) (by omega)) ?_
     refine ahp 11 rfl rfl (by kernel_rfl) (by kernel_rfl) (zE (hs := [_, _]) zbh ty3 rfl rfl (by decide) (by decide) rfl) ?_
     refine ahe 12 rfl (by kernel_rfl) ?_
     refine zv rfl (zay (i := 0) (v := u1) (es := ([m.Deadline] ++ mo1 l ++ mo2 m (a.take k)).map (HVal.int .i64)) zbh ty3 rfl rfl rfl rfl rfl (by simp [zbi, zj]) (by rw [List.length_map, List.length_append, List.length_append, zhb, zi5, List.length_take]; simp; omega) fun v55 => ?_)
     refine ⟨fun _ => .inl ⟨_, rfl⟩, ?_⟩
     refine ahp 13 rfl rfl (by kernel_rfl) (by kernel_rfl) (z8 rfl) ?_
     refine ahz (by kernel_rfl) ?_
     refine zA ?_
     refine zk ?_
     refine zB ?_
     refine dq (zC rfl rfl (by omega) (by omega)) ?_
     refine dmv rfl ?_
     refine dn ?_
     exact ⟨k + 1, v55, ⟨by omega, trivial⟩, by dsimp only; omega, ⟨rfl, rfl, trivial⟩, (by repeat (first | exact zq | refine zx rfl ?_ | refine zt rfl rfl ?_)), zO (by dsimp only; rw [zqh hx]; simp)⟩
    ·try simp at h4
     have hnk : a.length ≤ k := by omega
     obtain rfl : k = a.length := by omega
     rw [List.take_length]
     refine z7 ?_
     refine zag ?_
     refine zbc ?_
     refine zT ?_
     refine zk ?_
     refine za ?_
     refine dmv rfl ?_
     refine de rfl (ze (i := 0) zs3 rfl (WeakL.refl _) rfl (zk2 (l := moA m l a) (by rw [zkQ]; omega)) ?_)
     rintro _ _ ⟨rfl, rfl⟩
     refine dn ?_
     refine za ?_
     refine dmv rfl ?_
     refine de rfl (ze (i := 0) zsX rfl (WeakL.refl _) rfl (zjc (l := zd4 (moA m l a)) (by rw [zgV, zkQ]; omega)) ?_)
     rintro _ _ ⟨u60, rfl, rfl⟩
     refine das rfl ?_
     refine dn ?_
     refine za ?_
     refine dmv rfl ?_
     refine dq (zda rfl rfl) ?_
     refine de rfl (ze (i := 0) zsY rfl (WeakL.refl _) rfl (zfD (l := Lib.compact (zd4 (moA m l a))) (p := fun n => decide (u < n)) zsT (fun _ => zkc) (by have := zg0 (zd4 (moA m l a)); rw [zgV, zkQ] at this; omega)) ?_)
     rintro _ _ ⟨u63, rfl, rfl⟩
     refine das rfl ?_
     refine dn ?_
     refine zp ?_
     exact zbO (Ghost.fa 6 (i := 0) rfl rfl) rfl ⟨rfl, rfl⟩
end
end Go.Proofs.YtpcaaekefgkhjaaGreatDoor
namespace Go.HL
section
variable {P : Program}
theorem EOp.fz [Tracks] {e : Env} {M : List MObj} {o : Oper} {K : HVal → List MObj → Prop} {sz : Nat} {es : List HVal} (h : EOp P e M o fun x M' => ∃ v, x = .raw v ∧ M' = .arr v sz es :: M) (hk : K (.slice sz es) M) : EOp P e M o K := fun I F a w ho hs =>
 Oper.wp_noQ (fun _ _ ⟨v, x, M', J, h1, h2, ⟨u, h3, h4⟩, h5, h6⟩ => by
  subst h3 h4
  obtain ⟨J', g1, g2, g3⟩ := Sat.freeze_arr (M := M ++ F) h6
  exact ⟨v, _, M, J', h1, h2.trans g1, hk, by rw [h5.raw_inv]; exact g3, g2⟩) (h I F a w ho hs)
end
section
theorem zmu {x : MObj} : ∀ {M : List MObj} {i : Nat} {z : MObj}, M[i]? = some z → (x :: M).Perm (z :: M.set i x)
 | [], i, z, h => by simp at h
 | y :: r, 0, z, h => by
   simp at h; subst h
   exact List.Perm.swap _ _ _
 | y :: r, i + 1, z, h => by
   simp at h
   show (x :: y :: r).Perm (z :: y :: r.set i x)
   exact (List.Perm.swap y x r).trans (((zmu h).cons y).trans (List.Perm.swap z y _))
/-- A new object takes an old one's place. -/
theorem Ghost.swap_in [Tracks] {e : Env} {M : List MObj} {i : Nat} {x z : MObj} (h : M[i]? = some z) : Ghost e (x :: M) e (M.set i x) := (Ghost.perm (zmu h)).trans Ghost.drop
theorem znx {α : Type} {A r : List α} {p : α} {k : Nat} (h : A.length = k) : (A ++ p :: r)[k]? = some p := by subst h; simp
theorem znu {α : Type} {A r : List α} {p q : α} {k : Nat} (h : A.length = k) : (A ++ p :: r).set k q = (A ++ [q]) ++ r := by
 subst h
 rw [List.set_append_right _ _ (Nat.le_refl _)]; simp
theorem ziy {D : List DR} {ps : List DD} {k : Nat} {p : DD} (h : D.map (·.p) = ps) (hp : ps[k]? = some p) : ∃ d, D[k]? = some d ∧ d.p = p := by
 subst h
 rw [List.getElem?_map] at hp
 cases hd : D[k]? with
 | none => rw [hd] at hp; simp at hp
 | some d => rw [hd] at hp; simp at hp; exact ⟨d, rfl, hp⟩
/-! the offers that open -/
def opT (t : Int) (P : List DD) (k : Nat) : List DD := (P.take k).map (zbB t) ++ P.drop k
theorem opT0 {t : Int} {P : List DD} : opT t P 0 = P := by simp [opT]
theorem zqQ {t : Int} {P : List DD} {k : Nat} (h : P.length ≤ k) : opT t P k = P.map (zbB t) := by unfold opT; rw [List.take_of_length_le h, zaS h, List.append_nil]
theorem zo4 {t : Int} {P : List DD} {k : Nat} {p : DD} (h : P[k]? = some p) : (opT t P k)[k]? = some p := by
 unfold opT
 rw [zU h]
 exact znx (by rw [List.length_map, List.length_take]; have := zM h; omega)
theorem zmV {t : Int} {P : List DD} {k : Nat} {p : DD} (h : P[k]? = some p) : opT t P (k + 1) = (opT t P k).set k (zbB t p) := by
 unfold opT
 rw [zU h, znu (by rw [List.length_map, List.length_take]; have := zM h; omega), zaE h, List.map_append]; rfl
theorem zmT {a : List ReplyS} {k : Nat} {r : ReplyS} {t : Int} (h : a[k]? = some r) : atL (a.take (k + 1)) t = atL (a.take k) t ++ (if r.At = t then [r] else []) := by
 unfold atL
 rw [zaE h, List.filter_append]
 congr 1
 by_cases e : r.At = t <;> simp [e]
theorem zmh {m : MarketS} {a : List ReplyS} {k : Nat} {r : ReplyS} {t : Int} {P : List DD} (h : a[k]? = some r) (e : r.At = t) : zcj m (atL (a.take (k + 1)) t) P = zcl m r (zcj m (atL (a.take k) t) P) := by
 rw [zmT h, if_pos e]; unfold zcj; rw [List.foldl_append]; rfl
theorem zm9 {m : MarketS} {a : List ReplyS} {k : Nat} {r : ReplyS} {t : Int} {P : List DD} (h : a[k]? = some r) (e : r.At ≠ t) : zcj m (atL (a.take (k + 1)) t) P = zcj m (atL (a.take k) t) P := by
 rw [zmT h, if_neg e, List.append_nil]
/-! time -/
theorem zgO {m : MarketS} {t : Int} {p : DD} : ∀ {P : List DD} {o : List OwnerS}, zaM m t o (P ++ [p]) = ⟨(zaB m t (zaM m t o P).o p).1, (zaM m t o P).ds ++ [(zaB m t (zaM m t o P).o p).2.1], (zaM m t o P).log ++ (zaB m t (zaM m t o P).o p).2.2⟩
 | [], o => by simp [zaM]
 | q :: r, o => by
   rw [List.cons_append, zaM, zgO (P := r), zaM]
   simp
theorem ziJ {m : MarketS} {t : Int} : ∀ {P : List DD} {o : List OwnerS}, (zaM m t o P).ds.length = P.length
 | [], o => rfl
 | q :: r, o => by rw [zaM]; simp [ziJ (P := r)]
def paT (m : MarketS) (t : Int) (o : List OwnerS) (P : List DD) (k : Nat) : List DD := (zaM m t o (P.take k)).ds ++ P.drop k
theorem paT0 {m : MarketS} {t : Int} {o : List OwnerS} {P : List DD} : paT m t o P 0 = P := by simp [paT, zaM]
theorem zq2 {m : MarketS} {t : Int} {o : List OwnerS} {P : List DD} {k : Nat} (h : P.length ≤ k) : paT m t o P k = (zaM m t o P).ds := by unfold paT; rw [List.take_of_length_le h, zaS h, List.append_nil]
theorem zrM {m : MarketS} {t : Int} {o : List OwnerS} {P : List DD} {k : Nat} {p : DD} (h : P[k]? = some p) : (paT m t o P k)[k]? = some p := by
 unfold paT
 rw [zU h]
 exact znx (by rw [ziJ, List.length_take]; have := zM h; omega)
theorem zpy {m : MarketS} {t : Int} {o : List OwnerS} {P : List DD} {k : Nat} {p : DD} (h : P[k]? = some p) : paT m t o P (k + 1) = (paT m t o P k).set k (zaB m t (zaM m t o (P.take k)).o p).2.1 := by
 unfold paT
 rw [zU h, znu (by rw [ziJ, List.length_take]; have := zM h; omega), zaE h, zgO]
theorem zpo {m : MarketS} {t : Int} {o : List OwnerS} {P : List DD} {k : Nat} {p : DD} (h : P[k]? = some p) : (zaM m t o (P.take (k + 1))).o = (zaB m t (zaM m t o (P.take k)).o p).1 := by rw [zaE h, zgO]
theorem zoY {m : MarketS} {t : Int} {o : List OwnerS} {P : List DD} {k : Nat} {p : DD} (h : P[k]? = some p) : (zaM m t o (P.take (k + 1))).log = (zaM m t o (P.take k)).log ++ (zaB m t (zaM m t o (P.take k)).o p).2.2 := by rw [zaE h, zgO]
theorem zoz {m : MarketS} {t : Int} {o : List OwnerS} {p : DD} : (zaB m t o p).2.2.length ≤ 1 := by
 unfold zaB
 split
 ·split
  ·simp
  split <;> simp
 split <;> simp
theorem zjT {m : MarketS} {t : Int} : ∀ {P : List DD} {o : List OwnerS}, (zaM m t o P).log.length ≤ P.length
 | [], o => Nat.le_refl _
 | q :: r, o => by
   rw [zaM]
   have h1 := zjT (m := m) (t := t) (P := r) (o := (zaB m t o q).1)
   have h2 := zoz (m := m) (t := t) (o := o) (p := q)
   simp only [List.length_append, List.length_cons]; omega
theorem zpI {m : MarketS} {t : Int} {o : List OwnerS} {p : DD} (h : p.2.how = 0) : zaB m t o p = (o, p, []) := by unfold zaB; rw [if_neg (by omega), if_neg (by omega)]
theorem zpP {m : MarketS} {a : ReplyS} {p : DD} (h : p.2.how = 0) : zbe m a p = p := by unfold zbe; rw [if_pos (by omega)]
theorem zhQ {α : Type} : ∀ {l : List α} {k : Nat} {x : α}, l[k]? = some x → l.set k x = l
 | [], k, x, h => by simp at h
 | y :: r, 0, x, h => by simp at h; subst h; rfl
 | y :: r, k + 1, x, h => by simp at h; rw [List.set_cons_succ, zhQ h]
/-- What opens at its za7: it has not opened yet. -/
theorem zp9 {m : MarketS} {n : Int} {p : DD} (h : DInv m n p) (e : p.1.From = n) : p.2.how = 0 ∧ p.2.yes = [] ∧ zbB n p = (p.1, ⟨1, n, [p.1.By], p.2.veto⟩) := by
 have h0 : p.2.how = 0 := Classical.byContradiction fun q => by have := h.fr q; omega
 obtain ⟨hy, hv⟩ := h.zero h0
 refine ⟨h0, hy, ?_⟩
 unfold zbB
 rw [if_pos ⟨h0, e⟩, hy]; rfl
theorem zqV {n : Int} {p : DD} (e : p.1.From ≠ n) : zbB n p = p := by unfold zbB; rw [if_neg fun q => e q.2]
theorem RI.get {l : List DealS} {s : RS} (h : RI l s) {k : Nat} {x : DealS} (hx : l[k]? = some x) : ∃ d, s.D[k]? = some d ∧ d.p.1 = x := by
 rw [← h.fst, List.getElem?_map] at hx
 cases hd : s.D[k]? with
 | none => rw [hd] at hx; simp at hx
 | some d => rw [hd] at hx; simp at hx; exact ⟨d, rfl, hx⟩
end
section
structure FO (l : List DealS) (b : Nat) (s : RS) (ps : List DD) (o : List OwnerS) (dn : List Str) : Prop where
 bf : s.bf = b
 ri : RI l s
 ps : s.D.map (·.p) = ps
 o : s.o = o
 dn : s.dn = dn
theorem FO.ats {l : List DealS} {b : Nat} {s : RS} {ps : List DD} {o : List OwnerS} {dn : List Str} (h : FO l b s ps o dn) {k : Nat} {p : DD} (hp : ps[k]? = some p) : ∃ d, s.D[k]? = some d ∧ d.p = p := ziy h.ps hp
theorem FO.db {l : List DealS} {b : Nat} {s : RS} {ps : List DD} {o : List OwnerS} {dn : List Str} {Q : DD → Prop} (h : FO l b s ps o dn) (hq : zd6 Q ps) : ∀ d ∈ s.D, Q d.p := fun d hd => hq _ (by rw [← h.ps]; exact List.mem_map_of_mem hd)
/-! the beginning -/
theorem Ghost.nils [Tracks] {e : Env} {M : List MObj} : ∀ {R : List MObj}, (∀ x ∈ R, x = .arr zbY 1 []) → Ghost e M e (R ++ M)
 | [], _ => Ghost.sub (Sub.refl _)
 | x :: r, h => by
   rw [h x (by simp)]
   exact (Ghost.nils fun y hy => h y (List.mem_cons_of_mem x hy)).trans (Ghost.arr_nil 1)
def s00 (q : Nat × Nat × Nat × Nat) (l : List DealS) (o : List OwnerS) : RS := ⟨q.1, q.2.1, q.2.2.1, q.2.2.2, zbY, [], [], [], o, [], l.map fun x => ⟨(x, zdQ), zbY, zbY⟩⟩
theorem zs6 (l : List DealS) : ∀ x ∈ flR (l.map fun x => (⟨(x, zdQ), zbY, zbY⟩ : DR)), x = .arr zbY 1 [] := fun x hx => by
 obtain ⟨d, hd, hx⟩ := List.mem_flatMap.1 hx
 obtain ⟨y, _, rfl⟩ := List.mem_map.1 hd
 simp [o2, zdQ] at hx
 exact hx
theorem Ghost.s00 [Tracks] {e : Env} {m : MarketS} {q : Nat × Nat × Nat × Nat} {l : List DealS} {o : List OwnerS} :
 Ghost e [.cells q.1 (cR m l (Go.HL.s00 q l o)), .map q.2.1 [], .map q.2.2.1 [], .map q.2.2.2 []] e (FR m l (Go.HL.s00 q l o)) := by
 have h := (Ghost.nils (e := e) (M := [.cells q.1 (cR m l (Go.HL.s00 q l o)), .map q.2.1 [], .map q.2.2.1 [], .map q.2.2.2 []]) (R := .arr zbY 1 [] :: flR (l.map fun x => (⟨(x, zdQ), zbY, zbY⟩ : DR))) fun x hx => by
  rcases List.mem_cons.1 hx with rfl | hx
  ·rfl
  ·exact zs6 l x hx)
 exact h.trans (Ghost.perm List.perm_append_comm)
theorem FO.s00 {q : Nat × Nat × Nat × Nat} {l : List DealS} {o : List OwnerS} {m : MarketS} {a : List ReplyS} (h : (l.map (·.Id)).Nodup) : FO l q.1 (Go.HL.s00 q l o) (zV m o l a 0).ds (zV m o l a 0).o ((zV m o l a 0).log.map (·.1.Id)) := by
 refine ⟨rfl, ⟨?_, h, fun d hd => ?_, fun d hd => ?_, fun d hd => ?_, fun id _ => rfl⟩, ?_, rfl, rfl⟩
 ·show (l.map _).map _ = l
  rw [List.map_map]; exact (List.map_congr_left fun x _ => rfl).trans (List.map_id' l)
 ·obtain ⟨y, _, rfl⟩ := List.mem_map.1 hd; rfl
 ·obtain ⟨y, _, rfl⟩ := List.mem_map.1 hd; rfl
 ·obtain ⟨y, _, rfl⟩ := List.mem_map.1 hd; rfl
 ·show (l.map _).map _ = l.map _
  rw [List.map_map]; rfl
/-! an offer opens -/
section
variable {m : MarketS} {l : List DealS} {s : RS} {j : Nat} {d : DR} {t : Int} {v : Value}
def opS (s : RS) (j : Nat) (d : DR) (t : Int) (v : Value) : RS := rY (rSt s (zaz d.p.1.Id (some (zj (zbz ⟨d.p.1.Id, 1, t⟩))) s.LS) j (hD d 1 t)) (zaz d.p.1.Id v s.LY) j (yD (hD d 1 t) v [d.p.1.By])
theorem zoT [Tracks] {e : Env} (h : s.D[j]? = some d) : Ghost e (.arr v 1 [.str d.p.1.By] :: (FR m l (rLS s (zaz d.p.1.Id (some (zj (zbz ⟨d.p.1.Id, 1, t⟩))) s.LS))).set 2 (.map s.my (sk (em HVal.raw (zaz d.p.1.Id v s.LY))))) e (FR m l (opS s j d t v)) := by
 rw [zaW (how := 1) (t := t) h]
 have h2 : (rSt s (zaz d.p.1.Id (some (zj (zbz ⟨d.p.1.Id, 1, t⟩))) s.LS) j (hD d 1 t)).D[j]? = some (hD d 1 t) := List.getElem?_set_self (zM h)
 unfold opS
 rw [← zqp h2, List.set_comm _ _ (by omega)]
 exact Ghost.swap_in (by rw [List.getElem?_set_ne (by omega)]; exact ziO h2)
theorem zpg {b : Nat} {P : List DD} {o : List OwnerS} {dn : List Str} {n : Int} (h : FO l b s (opT n P j) o dn) (hd : s.D[j]? = some d) (hP : P[j]? = some d.p) (hi : DInv m n d.p) (e : d.p.1.From = n) : FO l b (opS s j d n v) (opT n P (j + 1)) o dn := by
 obtain ⟨h0, hy, h1⟩ := zp9 hi e
 have hk2 : (rSt s (zaz d.p.1.Id (some (zj (zbz ⟨d.p.1.Id, 1, n⟩))) s.LS) j (hD d 1 n)).D[j]? = some (hD d 1 n) := List.getElem?_set_self (zM hd)
 refine ⟨h.bf, (h.ri.setSt hd (by decide)).setY hk2, ?_, h.o, h.dn⟩
 rw [zmV hP, h1, ← h.ps]
 exact zbV hd rfl
theorem zox {b : Nat} {P : List DD} {o : List OwnerS} {dn : List Str} {n : Int} {p : DD} (h : FO l b s (opT n P j) o dn) (hP : P[j]? = some p) (e : p.1.From ≠ n) : FO l b s (opT n P (j + 1)) o dn := by
 refine ⟨h.bf, h.ri, ?_, h.o, h.dn⟩
 rw [zmV hP, zqV e, zhQ (zo4 hP)]; exact h.ps
end
theorem zqU {m : MarketS} {o : List OwnerS} {l : List DealS} {a : List ReplyS} (h : FOk m l) (n : Nat) : zd6 (fun p => DMid m n p ∧ p.1 ∈ l) (zcj m (atL a n) ((zV m o l a n).ds.map (zbB n))) := by
 have h1 : zd6 (fun p => DMid m n p ∧ p.1 ∈ l) ((zV m o l a n).ds.map (zbB n)) := fun p hp => by
  obtain ⟨q, hq, rfl⟩ := List.mem_map.1 hp
  obtain ⟨i1, i2⟩ := zfy h n q hq
  exact ⟨i1.opn (by omega) (h.two _ i2), by rw [zhM]; exact i2⟩
 exact zeK (m := m) (rs := atL a n) (P := fun p => DMid m n p ∧ p.1 ∈ l) (fun r hr p hp => by
  unfold atL at hr
  obtain ⟨_, hat⟩ := List.mem_filter.1 hr
  exact ⟨hp.1.ans (by omega) (by simpa using hat) h.veto, by rw [zhO]; exact hp.2⟩) h1
theorem ziR {m : MarketS} {t : Int} : ∀ {P : List DD} {o : List OwnerS}, (zaM m t o P).o.length = o.length
 | [], o => rfl
 | p :: r, o => by
   rw [zaM]
   show (zaM m t (zaB m t o p).1 r).o.length = _
   rw [ziR (P := r)]
   have := congrArg List.length (zgy (m := m) (t := t) (o := o) (p := p))
   simpa using this
theorem zeg {P : List DD} {l : List DealS} (h : P.map (·.1) = l) {k : Nat} {x : DealS} (hx : l[k]? = some x) : ∃ p, P[k]? = some p ∧ p.1 = x := by
 rw [← h, List.getElem?_map] at hx
 cases hp : P[k]? with
 | none => rw [hp] at hx; simp at hx
 | some p => rw [hp] at hx; simp at hx; exact ⟨p, rfl, hx⟩
end
end Go.HL
namespace Go.Proofs.YtpcaaekefgkhjaaGreatDoor
set_option maxRecDepth 100000
set_option linter.unusedVariables false
set_option linter.unusedSimpArgs false
section
open Go.HL
theorem zmx [Tracks] {m : MarketS} {l : List DealS} {s : RS} {a : ReplyS} (hI : RI l s) (hb : ∀ d ∈ s.D, DB m d.p) (hG : ∀ x ∈ l, x.Gives.length ≤ 1000) (hv : m.Vetoes ≤ 1000000) (hl : l.length ≤ 1000000) :
 Con Tryz.prog 94 [pAt s.bf, zbA a] (FR m l s) fun x M' => ∃ s', x = .tup [] ∧ M' = FR m l s' ∧ RI l s' ∧ s'.D.map (·.p) = zcl m a (s.D.map (·.p)) ∧ s'.o = s.o ∧ s'.dn = s.dn ∧ s'.bf = s.bf := by
 by_cases hx : ∃ (k : Nat) (d : DR), s.D[k]? = some d ∧ d.p.1.Id = a.Offer
 ·obtain ⟨k, d, hk, hid⟩ := hx
  have hm := List.mem_of_getElem? hk
  have hB := hb d hm
  have hlt : ∀ (j : Nat) (z : DealS), j < k → l[j]? = some z → z.Id ≠ a.Offer := fun j z hj hz e => by
   obtain ⟨d', hd', rfl⟩ := hI.get hz
   exact hI.ne hk hd' (by omega) (e.trans hid.symm)
  have hgd := hG d.p.1 (List.mem_of_getElem? (hI.at' hk))
  have hcl := zdn d.p.1.Gives
  have hkp : (s.D.map (·.p))[k]? = some d.p := by rw [List.getElem?_map, hk]; rfl
  have hL : zcl m a (s.D.map (·.p)) = (s.D.map (·.p)).set k (zbe m a d.p) := zo9 hkp hid fun j z hj hz e => by
   obtain ⟨d', hd', rfl⟩ := ziy rfl hz
   exact hI.ne hk hd' (by omega) (e.trans hid.symm)
  by_cases h0 : d.p.2.how = 0
  ·have hn : (alk a.Offer s.LS).getD none = none := by rw [← hid, hI.st d hm]; unfold stO; rw [if_pos h0]
   refine (zha (m := m) (l := l) hn).mono ?_
   rintro _ _ ⟨rfl, rfl⟩
   exact ⟨s, rfl, rfl, hI, by rw [hL, zpP h0, zhQ hkp], rfl, rfl, rfl⟩
  ·have hhow := hB.how
   refine (zk7 (m := m) (a := a) hI hk hid hlt hgd (by have := hB.yes; omega) (by have := hB.veto; omega) (by omega) (fun e => by have := (hB.op e).1; omega) (fun e => by have := hB.wt e; omega) hl).mono ?_
   rintro _ _ ⟨s', h1, h2, h3, h4, h5⟩
   exact ⟨s', h1, h2, h3, by rw [h4, hL], h5⟩
 ·have hne : ∀ z ∈ s.D.map (·.p), z.1.Id ≠ a.Offer := fun z hz e => by
   obtain ⟨k, hk⟩ := List.mem_iff_getElem?.1 hz
   obtain ⟨d, hd, rfl⟩ := ziy rfl hk
   exact hx ⟨k, d, hd, e⟩
  have hn := hI.out a.Offer fun x hxl e => by
   obtain ⟨k, hk⟩ := List.mem_iff_getElem?.1 hxl
   obtain ⟨d, hd, rfl⟩ := hI.get hk
   exact hx ⟨k, d, hd, e⟩
  refine (zha (m := m) (l := l) hn).mono ?_
  rintro _ _ ⟨rfl, rfl⟩
  exact ⟨s, rfl, rfl, hI, (znL hne).symm, rfl, rfl, rfl⟩

theorem zok [Tracks] {m : MarketS} {l : List DealS} {s : RS} {t : Int} {k : Nat} {d : DR} (hI : RI l s) (hk : s.D[k]? = some d) (hG : d.p.1.Gives.length ≤ 1000) (hsb : d.p.2.how = 2 → 0 ≤ d.p.2.since ∧ d.p.2.since ≤ 345686400000) (hwt : 0 ≤ m.Wait ∧ m.Wait ≤ 864000000) (ht : m.Teams.length ≤ 1000000) (h0o : 0 < s.o.length) (ho : s.o.length ≤ 1000000) (hdn : s.dn.length ≤ 100000000) :
 Con Tryz.prog 95 [pAt s.bf, zdr d.p.1, .int .i64 t] (FR m l s) fun x M' => ∃ s', x = .tup [] ∧ M' = FR m l s' ∧ RI l s' ∧ s'.D.map (·.p) = (s.D.map (·.p)).set k (zaB m t s.o d.p).2.1 ∧ s'.o = (zaB m t s.o d.p).1 ∧ s'.dn = s.dn ++ (zaB m t s.o d.p).2.2.map (·.1.Id) ∧ s'.bf = s.bf := by
 by_cases h0 : d.p.2.how = 0
 ·have hn : (alk d.p.1.Id s.LS).getD none = none := by rw [hI.st d (List.mem_of_getElem? hk)]; unfold stO; rw [if_pos h0]
  refine (zms (m := m) (l := l) (t := t) hn).mono ?_
  rintro _ _ ⟨rfl, rfl⟩
  rw [zpI h0]
  exact ⟨s, rfl, rfl, hI, (zhQ (by rw [List.getElem?_map, hk]; rfl)).symm, rfl, by simp, rfl⟩
 ·exact zmN hI hk h0 hG hsb hwt ht h0o ho hdn

set_option maxHeartbeats 4000000 in
/-- benchwarmer/benchref1.followed -/
theorem zfZ [Tracks] {m : MarketS} {o : List OwnerS} {l : List DealS} {a : List ReplyS} {u : Int} (hnd : (l.map (·.Id)).Nodup) (hf : FOk m l) (hl : l.length ≤ 500) (ha : a.length ≤ 2000) (hG : ∀ x ∈ l, x.Gives.length ≤ 1000) (hv : m.Vetoes ≤ 1000000) (hwt : 0 ≤ m.Wait ∧ m.Wait ≤ 864000000) (ht : m.Teams.length ≤ 1000000) (h0o : l ≠ [] → 0 < o.length) (ho : o.length ≤ 1000000) (hat : ∀ r ∈ a, 0 ≤ r.At ∧ r.At ≤ 345686400000) (h0 : ∀ t ∈ moA m l a, 0 ≤ t) (hu : u ≤ 345686400000) : Con Tryz.prog 58 [zaC m, zat o, zcA l, zbr a, .int .i64 u] [] (fun x M' => ∃ b s', x = pAt b ∧ M' = FR m l s' ∧ FO l b s' (zV m o l a (u + 1).toNat).ds (zV m o l a (u + 1).toNat).o ((zV m o l a (u + 1).toNat).log.map (·.1.Id))) := by
 refine Con.of_body Tryz.func58 rfl Tryz.ntmps58 rfl rfl ?_
 refine za ?_
 refine dq (zal rfl rfl) ?_
 refine das rfl ?_
 refine dn ?_
 refine zdi [11, 20, 21, 22, 23, 24, 25, 26, 27, 28] (fun (q : Nat × Nat × Nat × Nat) => [(11, pAt q.1)]) (fun (q : Nat × Nat × Nat × Nat) => [.cells q.1 (cR m l (s00 q l o)), .map q.2.1 [], .map q.2.2.1 [], .map q.2.2.2 []]) (fun (q : Nat × Nat × Nat × Nat) => True) ?_ ?_
 ·skip
  refine zbZ (fun _ => ∃ i : Nat, i = i) [3] mixed ?_
  refine ahp 0 rfl rfl (by kernel_rfl) (by kernel_rfl) (zD zN rfl rfl rfl rfl) ?_
  refine ahp 1 rfl rfl (by kernel_rfl) (by kernel_rfl) (zf rfl) ?_
  refine ahp 2 rfl rfl (by kernel_rfl) (by kernel_rfl) (zf rfl) ?_
  refine ahl 3 rfl rfl (by kernel_rfl) (by kernel_rfl) (by simp) ⟨0, rfl⟩ (fun M hM => EOp.fz (zef zn0 rfl (WeakL.refl _) (zbC (l := o) ho) fun v => ⟨v, rfl, rfl⟩) ⟨rfl, rfl⟩) ?_
  refine ahe3 4 5 6 rfl rfl rfl (by kernel_rfl) ?_ ?_ ?_
  ·skip
   refine zv rfl (za9 fun m24 => ?_)
   refine ⟨fun _ => by first | exact .inl ⟨0, rfl⟩ | exact .inl ⟨1, rfl⟩ | exact .inl ⟨2, rfl⟩ | exact .inr (by simp [zaq, Region.binds]), ?_⟩
   refine zfw 5 6 rfl rfl (by kernel_rfl) ?_ ?_
   ·skip
    refine zv rfl (za9 fun m25 => ?_)
    refine ⟨fun _ => by first | exact .inl ⟨0, rfl⟩ | exact .inl ⟨1, rfl⟩ | exact .inl ⟨2, rfl⟩ | exact .inr (by simp [zaq, Region.binds]), ?_⟩
    refine ahe 6 rfl (by kernel_rfl) ?_
    refine zv rfl (za9 fun m26 => ?_)
    refine ⟨fun _ => by first | exact .inl ⟨0, rfl⟩ | exact .inl ⟨1, rfl⟩ | exact .inl ⟨2, rfl⟩ | exact .inr (by simp [zaq, Region.binds]), ?_⟩
    refine ahp 7 rfl rfl (by kernel_rfl) (by kernel_rfl) (zaG (cs := [_, _, _, _, _, _, _, _, _, _, _, _]) zbj zi8 rfl) ?_
    refine ahe 8 rfl (by kernel_rfl) ?_
    refine zv rfl (zdW rfl rfl fun b11 => ?_)
    refine ⟨fun _ => .inl ⟨0, rfl⟩, ?_⟩
    refine ahp 9 rfl rfl (by kernel_rfl) (by kernel_rfl) (z8 rfl) ?_
    refine ahz (by kernel_rfl) ?_
    refine ⟨(b11, m24, m25, m26), ?_, ⟨rfl, trivial⟩, (by repeat (first | exact zq | refine zx rfl ?_ | refine zt rfl rfl ?_)), ?_⟩
    ·trivial
    ·repeat (first | exact List.Perm.nil | refine zK 0 rfl ?_ | refine zK 1 rfl ?_ | refine zK 2 rfl ?_ | refine zK 3 rfl ?_ | (refine zF 0 rfl ?hq ?_; (case hq => simp [zW, zj]; done)) | (refine zF 1 rfl ?hq ?_; (case hq => simp [zW, zj]; done)) | (refine zF 2 rfl ?hq ?_; (case hq => simp [zW, zj]; done)) | (refine zF 3 rfl ?hq ?_; (case hq => simp [zW, zj]; done)) | fail)
   ·skip
    refine zv rfl (za9 fun m26 => ?_)
    refine ⟨fun _ => by first | exact .inl ⟨0, rfl⟩ | exact .inl ⟨1, rfl⟩ | exact .inl ⟨2, rfl⟩ | exact .inr (by simp [zaq, Region.binds]), ?_⟩
    refine ahe 5 rfl (by kernel_rfl) ?_
    refine zv rfl (za9 fun m25 => ?_)
    refine ⟨fun _ => by first | exact .inl ⟨0, rfl⟩ | exact .inl ⟨1, rfl⟩ | exact .inl ⟨2, rfl⟩ | exact .inr (by simp [zaq, Region.binds]), ?_⟩
    refine ahp 7 rfl rfl (by kernel_rfl) (by kernel_rfl) (zaG (cs := [_, _, _, _, _, _, _, _, _, _, _, _]) zbj zi8 rfl) ?_
    refine ahe 8 rfl (by kernel_rfl) ?_
    refine zv rfl (zdW rfl rfl fun b11 => ?_)
    refine ⟨fun _ => .inl ⟨0, rfl⟩, ?_⟩
    refine ahp 9 rfl rfl (by kernel_rfl) (by kernel_rfl) (z8 rfl) ?_
    refine ahz (by kernel_rfl) ?_
    refine ⟨(b11, m24, m25, m26), ?_, ⟨rfl, trivial⟩, (by repeat (first | exact zq | refine zx rfl ?_ | refine zt rfl rfl ?_)), ?_⟩
    ·trivial
    ·repeat (first | exact List.Perm.nil | refine zK 0 rfl ?_ | refine zK 1 rfl ?_ | refine zK 2 rfl ?_ | refine zK 3 rfl ?_ | (refine zF 0 rfl ?hq ?_; (case hq => simp [zW, zj]; done)) | (refine zF 1 rfl ?hq ?_; (case hq => simp [zW, zj]; done)) | (refine zF 2 rfl ?hq ?_; (case hq => simp [zW, zj]; done)) | (refine zF 3 rfl ?hq ?_; (case hq => simp [zW, zj]; done)) | fail)
  ·skip
   refine zv rfl (za9 fun m25 => ?_)
   refine ⟨fun _ => by first | exact .inl ⟨0, rfl⟩ | exact .inl ⟨1, rfl⟩ | exact .inl ⟨2, rfl⟩ | exact .inr (by simp [zaq, Region.binds]), ?_⟩
   refine zfw 4 6 rfl rfl (by kernel_rfl) ?_ ?_
   ·skip
    refine zv rfl (za9 fun m24 => ?_)
    refine ⟨fun _ => by first | exact .inl ⟨0, rfl⟩ | exact .inl ⟨1, rfl⟩ | exact .inl ⟨2, rfl⟩ | exact .inr (by simp [zaq, Region.binds]), ?_⟩
    refine ahe 6 rfl (by kernel_rfl) ?_
    refine zv rfl (za9 fun m26 => ?_)
    refine ⟨fun _ => by first | exact .inl ⟨0, rfl⟩ | exact .inl ⟨1, rfl⟩ | exact .inl ⟨2, rfl⟩ | exact .inr (by simp [zaq, Region.binds]), ?_⟩
    refine ahp 7 rfl rfl (by kernel_rfl) (by kernel_rfl) (zaG (cs := [_, _, _, _, _, _, _, _, _, _, _, _]) zbj zi8 rfl) ?_
    refine ahe 8 rfl (by kernel_rfl) ?_
    refine zv rfl (zdW rfl rfl fun b11 => ?_)
    refine ⟨fun _ => .inl ⟨0, rfl⟩, ?_⟩
    refine ahp 9 rfl rfl (by kernel_rfl) (by kernel_rfl) (z8 rfl) ?_
    refine ahz (by kernel_rfl) ?_
    refine ⟨(b11, m24, m25, m26), ?_, ⟨rfl, trivial⟩, (by repeat (first | exact zq | refine zx rfl ?_ | refine zt rfl rfl ?_)), ?_⟩
    ·trivial
    ·repeat (first | exact List.Perm.nil | refine zK 0 rfl ?_ | refine zK 1 rfl ?_ | refine zK 2 rfl ?_ | refine zK 3 rfl ?_ | (refine zF 0 rfl ?hq ?_; (case hq => simp [zW, zj]; done)) | (refine zF 1 rfl ?hq ?_; (case hq => simp [zW, zj]; done)) | (refine zF 2 rfl ?hq ?_; (case hq => simp [zW, zj]; done)) | (refine zF 3 rfl ?hq ?_; (case hq => simp [zW, zj]; done)) | fail)
   ·skip
    refine zv rfl (za9 fun m26 => ?_)
    refine ⟨fun _ => by first | exact .inl ⟨0, rfl⟩ | exact .inl ⟨1, rfl⟩ | exact .inl ⟨2, rfl⟩ | exact .inr (by simp [zaq, Region.binds]), ?_⟩
    refine ahe 4 rfl (by kernel_rfl) ?_
    refine zv rfl (za9 fun m24 => ?_)
    refine ⟨fun _ => by first | exact .inl ⟨0, rfl⟩ | exact .inl ⟨1, rfl⟩ | exact .inl ⟨2, rfl⟩ | exact .inr (by simp [zaq, Region.binds]), ?_⟩
    refine ahp 7 rfl rfl (by kernel_rfl) (by kernel_rfl) (zaG (cs := [_, _, _, _, _, _, _, _, _, _, _, _]) zbj zi8 rfl) ?_
    refine ahe 8 rfl (by kernel_rfl) ?_
    refine zv rfl (zdW rfl rfl fun b11 => ?_)
    refine ⟨fun _ => .inl ⟨0, rfl⟩, ?_⟩
    refine ahp 9 rfl rfl (by kernel_rfl) (by kernel_rfl) (z8 rfl) ?_
    refine ahz (by kernel_rfl) ?_
    refine ⟨(b11, m24, m25, m26), ?_, ⟨rfl, trivial⟩, (by repeat (first | exact zq | refine zx rfl ?_ | refine zt rfl rfl ?_)), ?_⟩
    ·trivial
    ·repeat (first | exact List.Perm.nil | refine zK 0 rfl ?_ | refine zK 1 rfl ?_ | refine zK 2 rfl ?_ | refine zK 3 rfl ?_ | (refine zF 0 rfl ?hq ?_; (case hq => simp [zW, zj]; done)) | (refine zF 1 rfl ?hq ?_; (case hq => simp [zW, zj]; done)) | (refine zF 2 rfl ?hq ?_; (case hq => simp [zW, zj]; done)) | (refine zF 3 rfl ?hq ?_; (case hq => simp [zW, zj]; done)) | fail)
  ·skip
   refine zv rfl (za9 fun m26 => ?_)
   refine ⟨fun _ => by first | exact .inl ⟨0, rfl⟩ | exact .inl ⟨1, rfl⟩ | exact .inl ⟨2, rfl⟩ | exact .inr (by simp [zaq, Region.binds]), ?_⟩
   refine zfw 4 5 rfl rfl (by kernel_rfl) ?_ ?_
   ·skip
    refine zv rfl (za9 fun m24 => ?_)
    refine ⟨fun _ => by first | exact .inl ⟨0, rfl⟩ | exact .inl ⟨1, rfl⟩ | exact .inl ⟨2, rfl⟩ | exact .inr (by simp [zaq, Region.binds]), ?_⟩
    refine ahe 5 rfl (by kernel_rfl) ?_
    refine zv rfl (za9 fun m25 => ?_)
    refine ⟨fun _ => by first | exact .inl ⟨0, rfl⟩ | exact .inl ⟨1, rfl⟩ | exact .inl ⟨2, rfl⟩ | exact .inr (by simp [zaq, Region.binds]), ?_⟩
    refine ahp 7 rfl rfl (by kernel_rfl) (by kernel_rfl) (zaG (cs := [_, _, _, _, _, _, _, _, _, _, _, _]) zbj zi8 rfl) ?_
    refine ahe 8 rfl (by kernel_rfl) ?_
    refine zv rfl (zdW rfl rfl fun b11 => ?_)
    refine ⟨fun _ => .inl ⟨0, rfl⟩, ?_⟩
    refine ahp 9 rfl rfl (by kernel_rfl) (by kernel_rfl) (z8 rfl) ?_
    refine ahz (by kernel_rfl) ?_
    refine ⟨(b11, m24, m25, m26), ?_, ⟨rfl, trivial⟩, (by repeat (first | exact zq | refine zx rfl ?_ | refine zt rfl rfl ?_)), ?_⟩
    ·trivial
    ·repeat (first | exact List.Perm.nil | refine zK 0 rfl ?_ | refine zK 1 rfl ?_ | refine zK 2 rfl ?_ | refine zK 3 rfl ?_ | (refine zF 0 rfl ?hq ?_; (case hq => simp [zW, zj]; done)) | (refine zF 1 rfl ?hq ?_; (case hq => simp [zW, zj]; done)) | (refine zF 2 rfl ?hq ?_; (case hq => simp [zW, zj]; done)) | (refine zF 3 rfl ?hq ?_; (case hq => simp [zW, zj]; done)) | fail)
   ·skip
    refine zv rfl (za9 fun m25 => ?_)
    refine ⟨fun _ => by first | exact .inl ⟨0, rfl⟩ | exact .inl ⟨1, rfl⟩ | exact .inl ⟨2, rfl⟩ | exact .inr (by simp [zaq, Region.binds]), ?_⟩
    refine ahe 4 rfl (by kernel_rfl) ?_
    refine zv rfl (za9 fun m24 => ?_)
    refine ⟨fun _ => by first | exact .inl ⟨0, rfl⟩ | exact .inl ⟨1, rfl⟩ | exact .inl ⟨2, rfl⟩ | exact .inr (by simp [zaq, Region.binds]), ?_⟩
    refine ahp 7 rfl rfl (by kernel_rfl) (by kernel_rfl) (zaG (cs := [_, _, _, _, _, _, _, _, _, _, _, _]) zbj zi8 rfl) ?_
    refine ahe 8 rfl (by kernel_rfl) ?_
    refine zv rfl (zdW rfl rfl fun b11 => ?_)
    refine ⟨fun _ => .inl ⟨0, rfl⟩, ?_⟩
    refine ahp 9 rfl rfl (by kernel_rfl) (by kernel_rfl) (z8 rfl) ?_
    refine ahz (by kernel_rfl) ?_
    refine ⟨(b11, m24, m25, m26), ?_, ⟨rfl, trivial⟩, (by repeat (first | exact zq | refine zx rfl ?_ | refine zt rfl rfl ?_)), ?_⟩
    ·trivial
    ·repeat (first | exact List.Perm.nil | refine zK 0 rfl ?_ | refine zK 1 rfl ?_ | refine zK 2 rfl ?_ | refine zK 3 rfl ?_ | (refine zF 0 rfl ?hq ?_; (case hq => simp [zW, zj]; done)) | (refine zF 1 rfl ?hq ?_; (case hq => simp [zW, zj]; done)) | (refine zF 2 rfl ?hq ?_; (case hq => simp [zW, zj]; done)) | (refine zF 3 rfl ?hq ?_; (case hq => simp [zW, zj]; done)) | fail)
 ·intro q hinv
  obtain - := hinv
  refine zP Ghost.s00 ?_
  obtain ⟨b, ms, my, mv⟩ := q
  have hF0 : FO l b (s00 (b, ms, my, mv) l o) (zV m o l a 0).ds (zV m o l a 0).o ((zV m o l a 0).log.map (·.1.Id)) := FO.s00 (q := (b, ms, my, mv)) hnd
  dsimp only
  refine zm ?_
  refine za ?_
  refine dmv rfl ?_
  refine dmv rfl ?_
  refine dmv rfl ?_
  refine de rfl (EOp.mono ?_ (zbd ca92 rfl (WeakL.refl _) (zlU (m := m) (l := l) (s := s00 (b, ms, my, mv) l o) (a := a) (u := u) (by omega) ha hwt hat)))
  rintro _ _ ⟨rfl, rfl⟩
  refine dq (zR zbh rfl) ?_
  refine dmv rfl ?_
  refine dn ?_
  refine zu ?_
  refine zaZ (13 :: 15 :: 17 :: 19 :: 34 :: 35 :: 36 :: 37 :: 38 :: 39 :: 40 :: 41 :: 42 :: 43 :: 44 :: 45 :: 46 :: 47 :: 48 :: 49 :: 50 :: 51 :: 52 :: 53 :: 54 :: 55 :: 56 :: 57 :: 58 :: 59 :: 60 :: 61 :: 62 :: 63 :: 64 :: 65 :: 66 :: 67 :: 68 :: 69 :: 70 :: 71 :: 72 :: 73 :: 74 :: 75 :: 76 :: 77 :: 78 :: 79 :: 80 :: 81 :: 82 :: 83 :: 84 :: 85 :: 86 :: 87 :: 88 :: 89 :: []) (fun (k : Nat) (s : RS) => [(34, .int .i64 k)]) (fun (k : Nat) (s : RS) => (FR m l s)) (fun (k : Nat) (s : RS) => k ≤ (moL m l a u).length ∧ (FO l b s (zV m o l a (nxN (moL m l a u) u k)).ds (zV m o l a (nxN (moL m l a u) u k)).o ((zV m o l a (nxN (moL m l a u) u k)).log.map (·.1.Id)) ∧ (zV m o l a (nxN (moL m l a u) u k)).log.length ≤ k * 500)) (fun (k : Nat) (s : RS) => (moL m l a u).length - k) (0) ((s00 (b, ms, my, mv) l o)) ?_ ?_ ?_ ?_
  ·exact ⟨Nat.zero_le _, by rw [zmk hf]; exact hF0, by rw [zmk hf]; exact Nat.zero_le _⟩
  ·exact ⟨rfl, trivial⟩
  ·exact zO rfl
  ·intro k s hinv
   obtain ⟨hk, ⟨hF, hlg⟩⟩ := hinv
   refine za ?_
   refine dq (zY rfl rfl) ?_
   refine dn ?_
   refine zm ?_
   refine zl rfl (fun h1 => ?_) (fun h2 => ?_)
   ·try simp at h1
    obtain ⟨tm, htm⟩ : ∃ tm, (moL m l a u)[k]? = some tm := ⟨_, List.getElem?_eq_getElem h1⟩
    have hdtm := zU htm
    have hmm := zfn.1 (List.mem_of_getElem? htm)
    have ht0 := h0 tm hmm.1
    obtain ⟨n, rfl⟩ : ∃ n : Nat, tm = n := ⟨tm.toNat, by omega⟩
    have hnx : (nxN (moL m l a u) u k) = n := zr3 htm
    rw [hnx] at hF hlg
    have hml := zre m l a u
    have hnext := zrG (o := o) hf ht0 htm
    rw [Int.toNat_natCast] at hnext
    refine zo ?_
    refine zk ?_
    refine zm ?_
    refine zu ?_
    refine za ?_
    refine dq (zZ zbh ty3 rfl rfl rfl (by first | assumption | simp_all)) ?_
    refine dq (zh ty3 rfl rfl rfl) ?_
    refine das rfl ?_
    refine dn ?_
    refine zm ?_
    refine za ?_
    refine dmv rfl ?_
    refine dq (zR zbv rfl) ?_
    refine dmv rfl ?_
    refine dn ?_
    refine zu ?_
    refine zaZ [15, 40, 41, 42, 43, 44, 45, 46, 47, 48, 49, 50, 51, 52, 53, 54, 55, 56, 57, 58, 59, 60, 61, 62, 63] (fun (j : Nat) (s1 : RS) => [(40, .int .i64 j)]) (fun (j : Nat) (s1 : RS) => (FR m l s1)) (fun (j : Nat) (s1 : RS) => j ≤ l.length ∧ (FO l b s1 (opT n (zV m o l a n).ds j) (zV m o l a n).o ((zV m o l a n).log.map (·.1.Id)))) (fun (j : Nat) (s1 : RS) => l.length - j) (0) (s) ?_ ?_ ?_ ?_
    ·exact ⟨Nat.zero_le _, by rw [opT0]; exact hF⟩
    ·exact ⟨rfl, trivial⟩
    ·exact zO rfl
    ·intro j s1 hinv
     obtain ⟨hj, hF⟩ := hinv
     refine za ?_
     refine dq (zY rfl rfl) ?_
     refine dn ?_
     refine zm ?_
     refine zl rfl (fun h3 => ?_) (fun h4 => ?_)
     ·try simp at h3
      obtain ⟨x, hx⟩ : ∃ x, l[j]? = some x := ⟨_, List.getElem?_eq_getElem h3⟩
      have hdx := zU hx
      refine zo ?_
      refine zk ?_
      refine zm ?_
      refine zu ?_
      refine za ?_
      refine dq (zZ zbv zJ rfl rfl rfl (by first | assumption | simp_all)) ?_
      refine dq (zD zJ rfl rfl rfl rfl) ?_
      refine de rfl (zac zJ rfl fun b15 => ?_)
      refine de0 (zax zJ rfl rfl rfl rfl rfl ?_)
      refine dn ?_
      refine zP (Ghost.fc0 15 rfl) ?_
      refine za ?_
      refine dq (zd zJ rfl zbn (by decide) rfl) ?_
      refine dq (zd zbn rfl ty3 (by decide) rfl) ?_
      refine dq (zh ty3 rfl rfl rfl) ?_
      refine dmv rfl ?_
      refine dq (zaj rfl rfl) ?_
      refine dn ?_
      refine zl rfl (fun h5 => ?_) (fun h6 => ?_)
      ·try simp at h5
       obtain ⟨p, hp, rfl⟩ := zeg (zbt m o l a n) hx
       obtain ⟨d, hd, rfl⟩ := hF.ats (zo4 hp)
       have hdi := (zfy hf n d.p (List.mem_of_getElem? hp)).1
       refine za ?_
       refine dmv rfl ?_
       refine dq (zd zJ rfl ty9 (by decide) rfl) ?_
       refine dq (zh ty9 rfl rfl rfl) ?_
       refine dmv rfl ?_
       have hc := zdm (m := m) (l := l) (s := s1) (id := d.p.1.Id) (how := 1) (t := n)
       rw [hF.bf] at hc
       refine de rfl (EOp.mono ?_ (zbd zhG rfl (WeakL.refl _) hc))
       rintro _ _ ⟨rfl, rfl⟩
       refine dn ?_
       refine zbZ (fun M => ∃ i : Nat, M[i]? = some (.cells b (cR m l s1))) [3] mixed ?_
       refine ahp 0 rfl rfl (by kernel_rfl) (by kernel_rfl) (zf rfl) ?_
       refine ahp 1 rfl rfl (by kernel_rfl) (by kernel_rfl) ((by first | exact zn rfl | exact zg rfl)) ?_
       refine ahp 2 rfl rfl (by kernel_rfl) (by kernel_rfl) (zb zbj rfl zbH (by decide) rfl) ?_
       refine ahl 3 rfl rfl (by kernel_rfl) (by kernel_rfl) (by simp) ⟨0, by rw [← hF.bf]; rfl⟩ (fun M hM => by obtain ⟨i, hi⟩ := hM; exact zy (i := i) zbH rfl hi (.inl ⟨rfl, rfl⟩) ⟨rfl, rfl⟩) ?_
       refine ahp 4 rfl rfl (by kernel_rfl) (by kernel_rfl) (zd zJ rfl ty9 (by decide) rfl) ?_
       refine ahp 5 rfl rfl (by kernel_rfl) (by kernel_rfl) (zh ty9 rfl rfl rfl) ?_
       refine ahp 6 rfl rfl (by kernel_rfl) (by kernel_rfl) (zd zJ rfl ty9 (by decide) rfl) ?_
       refine ahp 7 rfl rfl (by kernel_rfl) (by kernel_rfl) (zh ty9 rfl rfl rfl) ?_
       refine ahe 8 rfl (by kernel_rfl) ?_
       refine zv rfl (ze7 (hs := [_]) zQ ty9 rfl rfl (by decide) (by decide) rfl fun v62 => ?_)
       refine ⟨fun _ => .inl ⟨1, by rw [← hF.bf]; rfl⟩, ?_⟩
       refine ahe 9 rfl (by kernel_rfl) ?_
       refine zae (zfB (i := 3) (f := HVal.raw) (L := s1.LY) (v := v62) zbH ty9 rfl rfl rfl rfl ?_)
       refine ⟨fun _ => .inr (by simp [zaq, Region.binds]), ?_⟩
       refine ahz (by kernel_rfl) ?_
       refine zA ?_
       refine zk ?_
       first
       | refine zP (zoT hd) ?_
       | skip
       refine zB ?_
       refine dq (zC rfl rfl (by omega) (by omega)) ?_
       refine dmv rfl ?_
       refine dn ?_
       first
       | exact ⟨j + 1, opS s1 j d n v62, ⟨by omega, zpg hF hd hp hdi (by simp_all)⟩, by dsimp only; omega, ⟨rfl, trivial⟩, (by repeat (first | exact zq | refine zx rfl ?_ | refine zt rfl rfl ?_)), zO rfl⟩
       | (obtain ⟨p, hp, rfl⟩ := zeg (zbt m o l a n) hx
          exact ⟨j + 1, s1, ⟨by omega, zox hF hp (by simp_all)⟩, by dsimp only; omega, ⟨rfl, trivial⟩, (by repeat (first | exact zq | refine zx rfl ?_ | refine zt rfl rfl ?_)), zO rfl⟩)
      ·try simp at h6
       refine zo ?_
       refine zA ?_
       refine zk ?_
       first
       | refine zP (zoT hd) ?_
       | skip
       refine zB ?_
       refine dq (zC rfl rfl (by omega) (by omega)) ?_
       refine dmv rfl ?_
       refine dn ?_
       first
       | exact ⟨j + 1, opS s1 j d n v62, ⟨by omega, zpg hF hd hp hdi (by simp_all)⟩, by dsimp only; omega, ⟨rfl, trivial⟩, (by repeat (first | exact zq | refine zx rfl ?_ | refine zt rfl rfl ?_)), zO rfl⟩
       | (obtain ⟨p, hp, rfl⟩ := zeg (zbt m o l a n) hx
          exact ⟨j + 1, s1, ⟨by omega, zox hF hp (by simp_all)⟩, by dsimp only; omega, ⟨rfl, trivial⟩, (by repeat (first | exact zq | refine zx rfl ?_ | refine zt rfl rfl ?_)), zO rfl⟩)
     ·try simp at h4
      have hnj : l.length ≤ j := by omega
      obtain rfl : j = l.length := by omega
      rw [zqQ (by have := congrArg List.length (zbt m o l a n); simp at this; omega)] at hF
      refine z7 ?_
      refine zag ?_
      refine zbc ?_
      refine zT ?_
      refine zk ?_
      refine zm ?_
      refine za ?_
      refine dmv rfl ?_
      refine dq (zR zb5 rfl) ?_
      refine dmv rfl ?_
      refine dn ?_
      refine zu ?_
      refine zaZ [17, 66, 67, 68, 69, 70, 71, 72, 73, 74, 75, 76, 77] (fun (j : Nat) (s2 : RS) => [(66, .int .i64 j)]) (fun (j : Nat) (s2 : RS) => (FR m l s2)) (fun (j : Nat) (s2 : RS) => j ≤ a.length ∧ (FO l b s2 (zcj m (atL (a.take j) n) ((zV m o l a n).ds.map (zbB n))) (zV m o l a n).o ((zV m o l a n).log.map (·.1.Id)))) (fun (j : Nat) (s2 : RS) => a.length - j) (0) (s1) ?_ ?_ ?_ ?_
      ·exact ⟨Nat.zero_le _, hF⟩
      ·exact ⟨rfl, trivial⟩
      ·exact zO rfl
      ·intro j s2 hinv
       obtain ⟨hj, hF⟩ := hinv
       refine za ?_
       refine dq (zY rfl rfl) ?_
       refine dn ?_
       refine zm ?_
       refine zl rfl (fun h7 => ?_) (fun h8 => ?_)
       ·try simp at h7
        obtain ⟨r, hr⟩ : ∃ r, a[j]? = some r := ⟨_, List.getElem?_eq_getElem h7⟩
        have hdr := zU hr
        refine zo ?_
        refine zk ?_
        refine zm ?_
        refine zu ?_
        refine za ?_
        refine dq (zZ zb5 zS rfl rfl rfl (by first | assumption | simp_all)) ?_
        refine dq (zD zS rfl rfl rfl rfl) ?_
        refine de rfl (zac zS rfl fun b17 => ?_)
        refine de0 (zax zS rfl rfl rfl rfl rfl ?_)
        refine dn ?_
        refine zP (Ghost.fc0 17 rfl) ?_
        refine za ?_
        refine dq (zd zS rfl ty3 (by decide) rfl) ?_
        refine dq (zh ty3 rfl rfl rfl) ?_
        refine dmv rfl ?_
        refine dq (zaj rfl rfl) ?_
        refine dn ?_
        refine zl rfl (fun h9 => ?_) (fun h10 => ?_)
        ·try simp at h9
         refine zB ?_
         refine dmv rfl ?_
         refine dq (zD zS rfl rfl rfl rfl) ?_
         have hc := zmx (m := m) (a := r) hF.ri (hF.db (zrJ hf)) hG hv (by omega)
         rw [hF.bf] at hc
         refine de rfl (EOp.mono ?_ (zbd ca94 rfl (WeakL.refl _) hc))
         rintro _ _ ⟨s3, rfl, rfl, g1, g2, g3, g4, g5⟩
         refine dn ?_
         refine zA ?_
         refine zk ?_
         refine zB ?_
         refine dq (zC rfl rfl (by omega) (by omega)) ?_
         refine dmv rfl ?_
         refine dn ?_
         first
         | exact ⟨j + 1, s3, ⟨by omega, ⟨g5, g1, by rw [g2, hF.ps, zmh hr (by simp_all)], g3.trans hF.o, g4.trans hF.dn⟩⟩, by dsimp only; omega, ⟨rfl, trivial⟩, (by repeat (first | exact zq | refine zx rfl ?_ | refine zt rfl rfl ?_)), zO rfl⟩
         | exact ⟨j + 1, s2, ⟨by omega, by rw [zm9 hr (by simp_all)]; exact hF⟩, by dsimp only; omega, ⟨rfl, trivial⟩, (by repeat (first | exact zq | refine zx rfl ?_ | refine zt rfl rfl ?_)), zO rfl⟩
        ·try simp at h10
         refine zo ?_
         refine zA ?_
         refine zk ?_
         refine zB ?_
         refine dq (zC rfl rfl (by omega) (by omega)) ?_
         refine dmv rfl ?_
         refine dn ?_
         first
         | exact ⟨j + 1, s3, ⟨by omega, ⟨g5, g1, by rw [g2, hF.ps, zmh hr (by simp_all)], g3.trans hF.o, g4.trans hF.dn⟩⟩, by dsimp only; omega, ⟨rfl, trivial⟩, (by repeat (first | exact zq | refine zx rfl ?_ | refine zt rfl rfl ?_)), zO rfl⟩
         | exact ⟨j + 1, s2, ⟨by omega, by rw [zm9 hr (by simp_all)]; exact hF⟩, by dsimp only; omega, ⟨rfl, trivial⟩, (by repeat (first | exact zq | refine zx rfl ?_ | refine zt rfl rfl ?_)), zO rfl⟩
       ·try simp at h8
        have hnj : a.length ≤ j := by omega
        obtain rfl : j = a.length := by omega
        rw [List.take_length] at hF
        refine z7 ?_
        refine zag ?_
        refine zbc ?_
        refine zT ?_
        refine zk ?_
        refine za ?_
        refine dmv rfl ?_
        refine dq (zR zbv rfl) ?_
        refine dmv rfl ?_
        refine dn ?_
        refine zu ?_
        refine zaZ [19, 80, 81, 82, 83, 84, 85, 86, 87, 88] (fun (j : Nat) (s4 : RS) => [(80, .int .i64 j)]) (fun (j : Nat) (s4 : RS) => (FR m l s4)) (fun (j : Nat) (s4 : RS) => j ≤ l.length ∧ (FO l b s4 (paT m n (zV m o l a n).o (zcj m (atL a n) ((zV m o l a n).ds.map (zbB n))) j) (zaM m n (zV m o l a n).o ((zcj m (atL a n) ((zV m o l a n).ds.map (zbB n))).take j)).o (((zV m o l a n).log.map (·.1.Id)) ++ ((zaM m n (zV m o l a n).o ((zcj m (atL a n) ((zV m o l a n).ds.map (zbB n))).take j)).log.map (·.1.Id))))) (fun (j : Nat) (s4 : RS) => l.length - j) (0) (s2) ?_ ?_ ?_ ?_
        ·exact ⟨Nat.zero_le _, by rw [paT0]; simpa [zaM] using hF⟩
        ·exact ⟨rfl, trivial⟩
        ·exact zO rfl
        ·intro j s4 hinv
         obtain ⟨hj, hF⟩ := hinv
         refine za ?_
         refine dq (zY rfl rfl) ?_
         refine dn ?_
         refine zm ?_
         refine zl rfl (fun h11 => ?_) (fun h12 => ?_)
         ·try simp at h11
          obtain ⟨x, hx⟩ : ∃ x, l[j]? = some x := ⟨_, List.getElem?_eq_getElem h11⟩
          have hdx := zU hx
          refine zo ?_
          refine zk ?_
          refine zm ?_
          refine zu ?_
          refine za ?_
          refine dq (zZ zbv zJ rfl rfl rfl (by first | assumption | simp_all)) ?_
          refine dq (zD zJ rfl rfl rfl rfl) ?_
          refine de rfl (zac zJ rfl fun b19 => ?_)
          refine de0 (zax zJ rfl rfl rfl rfl rfl ?_)
          refine dn ?_
          refine zP (Ghost.fc0 19 rfl) ?_
          obtain ⟨p, hp, rfl⟩ := zeg (zge m o l a n) hx
          obtain ⟨d, hd, rfl⟩ := hF.ats (zrM hp)
          have hmid := (zqU hf n d.p (List.mem_of_getElem? hp)).1
          have hsb : d.p.2.how = 2 → 0 ≤ d.p.2.since ∧ d.p.2.since ≤ 345686400000 := fun e => by have := hmid.since (by omega); omega
          refine zB ?_
          refine dmv rfl ?_
          refine dq (zD zJ rfl rfl rfl rfl) ?_
          refine dmv rfl ?_
          have hc := (zok (m := m) (t := n) hF.ri hd (hG _ (List.mem_of_getElem? hx)) hsb hwt ht (by rw [hF.o, ziR, zgu]; exact h0o (List.ne_nil_of_mem (List.mem_of_getElem? hx))) (by rw [hF.o, ziR, zgu]; exact ho) (by rw [hF.dn, List.length_append, List.length_map, List.length_map]; have := zjT (m := m) (t := n) (P := (zcj m (atL a n) ((zV m o l a n).ds.map (zbB n))).take j) (o := (zV m o l a n).o); rw [List.length_take] at this; omega))
          rw [hF.bf] at hc
          refine de rfl (EOp.mono ?_ (zbd ca95 rfl (WeakL.refl _) hc))
          rintro _ _ ⟨s3, rfl, rfl, g1, g2, g3, g4, g5⟩
          refine dn ?_
          refine zA ?_
          refine zk ?_
          refine zB ?_
          refine dq (zC rfl rfl (by omega) (by omega)) ?_
          refine dmv rfl ?_
          refine dn ?_
          exact ⟨j + 1, s3, ⟨by omega, ⟨g5, g1, by rw [g2, hF.ps, hF.o, zpy hp], by rw [g3, hF.o, zpo hp], by rw [g4, hF.dn, hF.o, zoY hp, List.map_append, List.append_assoc]⟩⟩, by dsimp only; omega, ⟨rfl, trivial⟩, (by repeat (first | exact zq | refine zx rfl ?_ | refine zt rfl rfl ?_)), zO rfl⟩
         ·try simp at h12
          have hnj : l.length ≤ j := by omega
          obtain rfl : j = l.length := by omega
          rw [zq2 (by have := congrArg List.length (zge m o l a n); simp at this; omega), List.take_of_length_le (by have := congrArg List.length (zge m o l a n); simp at this; omega)] at hF
          have hFn : FO l b s4 (zV m o l a (n + 1)).ds (zV m o l a (n + 1)).o ((zV m o l a (n + 1)).log.map (·.1.Id)) := ⟨hF.bf, hF.ri, hF.ps, hF.o, by rw [hF.dn, ← List.map_append]; rfl⟩
          have hlgn : (zV m o l a (n + 1)).log.length ≤ (k + 1) * 500 := by
           show ((zV m o l a n).log ++ (zaM m n (zV m o l a n).o (zcj m (atL a n) ((zV m o l a n).ds.map (zbB n)))).log).length ≤ _
           rw [List.length_append]
           have := zjT (m := m) (t := n) (P := (zcj m (atL a n) ((zV m o l a n).ds.map (zbB n)))) (o := (zV m o l a n).o)
           have hl2 := congrArg List.length (zge m o l a n)
           rw [List.length_map] at hl2
           omega
          refine z7 ?_
          refine zag ?_
          refine zbc ?_
          refine zT ?_
          refine zA ?_
          refine zk ?_
          refine zB ?_
          refine dq (zC rfl rfl (by omega) (by omega)) ?_
          refine dmv rfl ?_
          refine dn ?_
          exact ⟨k + 1, s4, ⟨by omega, by rw [hnext]; exact hFn, by rw [hnext]; exact hlgn⟩, by dsimp only; omega, ⟨rfl, trivial⟩, (by repeat (first | exact zq | refine zx rfl ?_ | refine zt rfl rfl ?_)), zO rfl⟩
   ·try simp at h2
    have hnk : (moL m l a u).length ≤ k := by omega
    obtain rfl : k = (moL m l a u).length := by omega
    rw [zrI] at hF
    refine z7 ?_
    refine zag ?_
    refine zbc ?_
    refine zT ?_
    refine zk ?_
    refine za ?_
    refine dmv rfl ?_
    refine das rfl ?_
    refine dn ?_
    refine zp ?_
    exact zaQ rfl ⟨b, s, rfl, rfl, hF⟩
end
end Go.Proofs.YtpcaaekefgkhjaaGreatDoor
namespace Go.HL
section
section
variable {P : Program} {e : Env} {dst : Option Tmp} {ty : TypeId} {pos : String} {af : Array Edge} {g : Option (Nat × Bool)}
theorem zjn [Tracks] {x y : Operand} {t t' el : TypeId} {size bytes : Nat} {zero : Value} {o : Option (List HVal)} (hf : Fits P t (.ptr el) size bytes zero) (hx : zL e x = some (zgi o)) (hy : zL e y = some (.raw (.pointer none))) :
 POp P e ⟨dst, .binOp .neq t x y t', ty, pos, af, g⟩ (.bool (!o.isNone)) :=
 POp.of_val fun I a w ho => by
  have hv := ho.one (x := x) (by simp [Op.operands]) hx
  have h2 := (ho.one (x := y) (by simp [Op.operands]) hy).raw_inv
  cases o with
  | none =>
    have h1 := hv.raw_inv
    refine ⟨_, ?_, .bool _⟩
    simp [execOp, h1, h2, eqGuard, binOp, zdb hf.ptrD]
  | some cs =>
    obtain ⟨b, base, rc, el', fr, h1, h3, h4, h5⟩ := hv.vptr_inv
    refine ⟨_, ?_, .bool _⟩
    simp [execOp, h1, h2, eqGuard, binOp, zdb hf.ptrD]
end
structure FP (m : MarketS) (o : List OwnerS) (l : List DealS) (a : List ReplyS) (u : Int) : Prop where
 nd : (l.map (·.Id)).Nodup
 hf : FOk m l
 hl : l.length ≤ 500
 ha : a.length ≤ 2000
 hG : ∀ x ∈ l, x.Gives.length ≤ 1000
 hv : 0 ≤ m.Vetoes ∧ m.Vetoes ≤ 1000000
 wt : 0 ≤ m.Wait ∧ m.Wait ≤ 864000000
 ht : m.Teams.length ≤ 1000000
 h0o : l ≠ [] → 0 < o.length
 ho : o.length ≤ 1000000
 hat : ∀ r ∈ a, 0 ≤ r.At ∧ r.At ≤ 345686400000
 h0 : ∀ t ∈ moA m l a, 0 ≤ t
 hu : u ≤ 345686400000
theorem zpw {p : DD} {cs : List HVal} (h : stO p = some cs) : p.2.how ≠ 0 ∧ cs = zj (zbz ⟨p.1.Id, p.2.how, p.2.since⟩) := by
 unfold stO at h
 split at h
 ·cases h
 ·rename_i q; exact ⟨q, (Option.some.inj h).symm⟩
theorem znl {p : DD} (h : (stO p).isNone = false) : p.2.how ≠ 0 ∧ stO p = some (zj (zbz ⟨p.1.Id, p.2.how, p.2.since⟩)) := by
 cases hs : stO p with
 | none => rw [hs] at h; cases h
 | some cs => obtain ⟨h1, h2⟩ := zpw hs; exact ⟨h1, by rw [h2]⟩
theorem zr2 {p : DD} (h : (stO p).isNone = true) : p.2.how = 0 := by
 unfold stO at h
 split at h
 ·assumption
 ·cases h
theorem zi2 {β : Type} {f : DD → List β} {P : List DD} {k : Nat} {p : DD} (h : P[k]? = some p) : (P.take (k + 1)).flatMap f = (P.take k).flatMap f ++ f p := by
 rw [zaE h, List.flatMap_append]; simp
end
end Go.HL
namespace Go.Proofs.YtpcaaekefgkhjaaGreatDoor
set_option maxRecDepth 100000
set_option linter.unusedVariables false
set_option linter.unusedSimpArgs false
section
open Go.HL
/-- benchwarmer/benchref1.OwnersOf -/
theorem zhN [Tracks] {m : MarketS} {o : List OwnerS} {l : List DealS} {a : List ReplyS} {u : Int}  (hp : FP m o l a u) : zah Tryz.prog 22 [zaC m, zat o, zcA l, zbr a, .int .i64 u] (zat (zV m o l a (u + 1).toNat).o) := by
 refine Con.of_body Tryz.func22 rfl Tryz.ntmps22 rfl rfl ?_
 refine za ?_
 refine dq (zal rfl rfl) ?_
 refine das rfl ?_
 refine dn ?_
 refine za ?_
 refine dq (zD zN rfl rfl rfl rfl) ?_
 refine dmv rfl ?_
 refine dmv rfl ?_
 refine dmv rfl ?_
 refine dmv rfl ?_
 refine de rfl (EOp.mono ?_ (zbd znS rfl (WeakL.refl _) (zfZ (m := m) (o := o) (l := l) (a := a) (u := u) hp.nd hp.hf hp.hl hp.ha hp.hG hp.hv.2 hp.wt hp.ht hp.h0o hp.ho hp.hat hp.h0 hp.hu)))
 rintro _ _ ⟨b, s, rfl, rfl, hF⟩
 obtain rfl := hF.bf
 refine dq ((by first | exact zn rfl | exact zg rfl)) ?_
 refine dq (zb zbj rfl zaD (by decide) rfl) ?_
 refine de rfl (zy (i := 0) zaD rfl rfl (.inl ⟨rfl, rfl⟩) ?_)
 refine das rfl ?_
 refine dn ?_
 refine zp ?_
 refine zbO Ghost.clear rfl ⟨?_, rfl⟩
 show zat s.o = _
 rw [hF.o]

/-- benchwarmer/benchref1.StagesOf -/
theorem zhC [Tracks] {m : MarketS} {o : List OwnerS} {l : List DealS} {a : List ReplyS} {u : Int}  (hp : FP m o l a u) : zah Tryz.prog 21 [zaC m, zat o, zcA l, zbr a, .int .i64 u] (zfp (zer (zV m o l a (u + 1).toNat).ds)) := by
 refine Con.of_body Tryz.func21 rfl Tryz.ntmps21 rfl rfl ?_
 refine za ?_
 refine dq (zal rfl rfl) ?_
 refine das rfl ?_
 refine dn ?_
 refine za ?_
 refine dq (zD zN rfl rfl rfl rfl) ?_
 refine dmv rfl ?_
 refine dmv rfl ?_
 refine dmv rfl ?_
 refine dmv rfl ?_
 refine de rfl (EOp.mono ?_ (zbd znS rfl (WeakL.refl _) (zfZ (m := m) (o := o) (l := l) (a := a) (u := u) hp.nd hp.hf hp.hl hp.ha hp.hG hp.hv.2 hp.wt hp.ht hp.h0o hp.ho hp.hat hp.h0 hp.hu)))
 rintro _ _ ⟨b, s, rfl, rfl, hF⟩
 obtain rfl := hF.bf
 refine das rfl ?_
 refine dn ?_
 refine za ?_
 refine das rfl ?_
 refine dn ?_
 refine zP (Ghost.arr_nil 3) ?_
 refine zm ?_
 refine za ?_
 refine dmv rfl ?_
 refine dq (zR zbv rfl) ?_
 refine dmv rfl ?_
 refine dn ?_
 refine zu ?_
 refine zaZ [12, 14, 15, 24, 25, 26, 27, 28, 29, 30, 31, 32, 33, 34, 35, 36, 37, 38, 39, 40, 41, 42, 43] (fun (k : Nat) (v : Value) => [(24, .int .i64 k), (12, .raw v)]) (fun (k : Nat) (v : Value) => .arr v 3 ((zer ((zV m o l a (u + 1).toNat).ds.take k)).map zbz) :: FR m l s) (fun (k : Nat) (v : Value) => k ≤ l.length ∧ (True)) (fun (k : Nat) (v : Value) => l.length - k) (0) (zbY) ?_ ?_ ?_ ?_
 ·exact ⟨Nat.zero_le _, trivial⟩
 ·exact ⟨rfl, rfl, trivial⟩
 ·exact zO (by simp [zer, zes])
 ·intro k v hinv
  obtain ⟨hk, -⟩ := hinv
  refine za ?_
  refine dq (zY rfl rfl) ?_
  refine dn ?_
  refine zm ?_
  refine zl rfl (fun h1 => ?_) (fun h2 => ?_)
  ·try simp at h1
   obtain ⟨x, hx⟩ : ∃ x, l[k]? = some x := ⟨_, List.getElem?_eq_getElem h1⟩
   have hdx := zU hx
   refine zo ?_
   refine zk ?_
   refine zm ?_
   refine zu ?_
   refine za ?_
   refine dq (zZ zbv zJ rfl rfl rfl (by first | assumption | simp_all)) ?_
   refine dq (zD zJ rfl rfl rfl rfl) ?_
   refine de rfl (zac zJ rfl fun b14 => ?_)
   refine de0 (zax zJ rfl rfl rfl rfl rfl ?_)
   refine dn ?_
   refine zP (Ghost.fc0 14 rfl) ?_
   obtain ⟨p, hpk, rfl⟩ := zeg (zbt m o l a (u + 1).toNat) hx
   obtain ⟨d, hd, rfl⟩ := hF.ats hpk
   have hst : (alk d.p.1.Id s.LS).getD none = stO d.p := hF.ri.st d (List.mem_of_getElem? hd)
   have hye : (alk d.p.1.Id s.LY).getD zbY = d.vy := hF.ri.ye d (List.mem_of_getElem? hd)
   have hdl := (zbt m o l a (u + 1).toNat)
   have hdb := zkA (o := o) (a := a) hp.hf (u + 1).toNat d.p (List.mem_of_getElem? hpk)
   have hgd := hp.hG d.p.1 (List.mem_of_getElem? hx)
   have hcl := zdn d.p.1.Gives
   have hyl := hdb.yes
   have hl5 := hp.hl
   have htl : ((zV m o l a (u + 1).toNat).ds.take k).length ≤ l.length := by rw [List.length_take]; omega
   refine zar (fun M => M = (.arr v 3 ((zer ((zV m o l a (u + 1).toNat).ds.take k)).map zbz) :: FR m l s)) [3, 6] mixed ?_
   refine ahp 0 rfl rfl (by kernel_rfl) (by kernel_rfl) (zf rfl) ?_
   refine ahp 1 rfl rfl (by kernel_rfl) (by kernel_rfl) ((by first | exact zn rfl | exact zg rfl)) ?_
   refine ahp 2 rfl rfl (by kernel_rfl) (by kernel_rfl) (zb zbj rfl zcx (by decide) rfl) ?_
   refine ahl 3 rfl rfl (by kernel_rfl) (by kernel_rfl) (by simp) rfl (fun M hM => by subst hM; exact zy (i := 1) zcx rfl rfl (.inl ⟨rfl, rfl⟩) ⟨rfl, rfl⟩) ?_
   refine ahp 4 rfl rfl (by kernel_rfl) (by kernel_rfl) ((by first | exact zd zJ rfl ty9 (by decide) rfl | exact zb zJ rfl ty9 (by decide) rfl)) ?_
   refine ahp 5 rfl rfl (by kernel_rfl) (by kernel_rfl) (zh ty9 rfl rfl rfl) ?_
   refine ahl 6 rfl rfl (by kernel_rfl) (by kernel_rfl) (by simp) rfl (fun M hM => by subst hM; exact zbP (i := 2) (f := zgi) (L := s.LS) (z0 := none) zcx ty9 zeE rfl rfl rfl rfl ⟨(by rw [hst]), rfl⟩) ?_
   refine ahp 7 rfl rfl (by kernel_rfl) (by kernel_rfl) (z8 rfl) ?_
   refine ahz (by kernel_rfl) ?_
   refine za ?_
   refine dmv rfl ?_
   refine dq (zjn (o := stO d.p) zeE rfl rfl) ?_
   refine dn ?_
   refine zl rfl (fun h3 => ?_) (fun h4 => ?_)
   ·try simp at h3
    obtain ⟨hn0, hs2⟩ := znl (p := d.p) (by cases hq : stO d.p <;> simp_all)
    simp only [hs2, zgi]
    refine zB ?_
    refine dmv rfl ?_
    refine dmv rfl ?_
    refine dq ((by first | exact zn rfl | exact zg rfl)) ?_
    refine dq (zD zcg rfl rfl rfl rfl) ?_
    refine dq (zE (hs := [_]) zhT zcg rfl rfl (by decide) (by decide) rfl) ?_
    refine de rfl (zay (i := 0) (v := v) (es := (zer ((zV m o l a (u + 1).toNat).ds.take k)).map zbz) zhT zcg rfl rfl rfl rfl rfl (by simp [zbi, zj]) (by have := zeH zjx ((zV m o l a (u + 1).toNat).ds.take k); rw [List.length_map]; unfold zer; simp only [List.length_cons, List.length_nil]; omega) fun v42 => ?_)
    refine das rfl ?_
    refine dn ?_
    refine zA ?_
    refine zk ?_
    refine zB ?_
    refine dq (zC rfl rfl (by omega) (by omega)) ?_
    refine dmv rfl ?_
    refine dn ?_
    exact ⟨k + 1, v42, ⟨by omega, trivial⟩, by dsimp only; omega, ⟨rfl, rfl, trivial⟩, (by repeat (first | exact zq | refine zx rfl ?_ | refine zt rfl rfl ?_)), zO (by dsimp only; unfold zer; rw [zi2 hpk, show zjW d.p = [⟨d.p.1.Id, d.p.2.how, d.p.2.since⟩] from if_neg hn0]; simp)⟩
   ·try simp at h4
    refine zo ?_
    refine zA ?_
    refine zk ?_
    refine zB ?_
    refine dq (zC rfl rfl (by omega) (by omega)) ?_
    refine dmv rfl ?_
    refine dn ?_
    exact ⟨k + 1, v, ⟨by omega, trivial⟩, by dsimp only; omega, ⟨rfl, rfl, trivial⟩, (by repeat (first | exact zq | refine zx rfl ?_ | refine zt rfl rfl ?_)), zO (by dsimp only; unfold zer; rw [zi2 hpk, show zjW d.p = [] from if_pos (zr2 (by cases hq : stO d.p <;> simp_all))]; simp)⟩
  ·try simp at h2
   have hnk : l.length ≤ k := by omega
   obtain rfl : k = l.length := by omega
   rw [List.take_of_length_le (by have := congrArg List.length (zbt m o l a (u + 1).toNat); rw [List.length_map] at this; omega)]
   refine z7 ?_
   refine zag ?_
   refine zbc ?_
   refine zT ?_
   refine zk ?_
   refine za ?_
   refine dmv rfl ?_
   refine das rfl ?_
   refine dn ?_
   refine zp ?_
   exact zbO ((Ghost.fa 10 (i := 0) rfl rfl).trans Ghost.clear) rfl ⟨rfl, rfl⟩

set_option maxHeartbeats 1000000 in
/-- benchwarmer/benchref1.WaitsOf -/
theorem zh2 [Tracks] {m : MarketS} {o : List OwnerS} {l : List DealS} {a : List ReplyS} {u : Int} {tm : Str}  (hp : FP m o l a u) : zah Tryz.prog 23 [zaC m, zat o, zcA l, zbr a, .str tm, .int .i64 u] (eSs (zes tm (zV m o l a (u + 1).toNat).ds)) := by
 refine Con.of_body Tryz.func23 rfl Tryz.ntmps23 rfl rfl ?_
 refine za ?_
 refine dq (zal rfl rfl) ?_
 refine das rfl ?_
 refine dn ?_
 refine za ?_
 refine dq (zD zN rfl rfl rfl rfl) ?_
 refine dmv rfl ?_
 refine dmv rfl ?_
 refine dmv rfl ?_
 refine dmv rfl ?_
 refine de rfl (EOp.mono ?_ (zbd znS rfl (WeakL.refl _) (zfZ (m := m) (o := o) (l := l) (a := a) (u := u) hp.nd hp.hf hp.hl hp.ha hp.hG hp.hv.2 hp.wt hp.ht hp.h0o hp.ho hp.hat hp.h0 hp.hu)))
 rintro _ _ ⟨b, s, rfl, rfl, hF⟩
 obtain rfl := hF.bf
 refine das rfl ?_
 refine dn ?_
 refine za ?_
 refine das rfl ?_
 refine dn ?_
 refine zP (Ghost.arr_nil 1) ?_
 refine zm ?_
 refine za ?_
 refine dmv rfl ?_
 refine dq (zR zbv rfl) ?_
 refine dmv rfl ?_
 refine dn ?_
 refine zu ?_
 refine zaZ [14, 16, 17, 26, 27, 28, 29, 30, 31, 32, 33, 34, 35, 36, 37, 38, 39, 40, 41, 42, 43, 44, 45, 46, 47, 48, 49, 50, 51, 52, 53, 54, 55, 56, 57, 58, 59, 60, 61, 62, 63, 64, 65, 66, 67, 68, 69] (fun (k : Nat) (v : Value) => [(26, .int .i64 k), (14, .raw v)]) (fun (k : Nat) (v : Value) => .arr v 1 ((zes tm ((zV m o l a (u + 1).toNat).ds.take k)).map HVal.str) :: FR m l s) (fun (k : Nat) (v : Value) => k ≤ l.length ∧ (True)) (fun (k : Nat) (v : Value) => l.length - k) (0) (zbY) ?_ ?_ ?_ ?_
 ·exact ⟨Nat.zero_le _, trivial⟩
 ·exact ⟨rfl, rfl, trivial⟩
 ·exact zO (by simp [zer, zes])
 ·intro k v hinv
  obtain ⟨hk, -⟩ := hinv
  refine za ?_
  refine dq (zY rfl rfl) ?_
  refine dn ?_
  refine zm ?_
  refine zl rfl (fun h1 => ?_) (fun h2 => ?_)
  ·try simp at h1
   obtain ⟨x, hx⟩ : ∃ x, l[k]? = some x := ⟨_, List.getElem?_eq_getElem h1⟩
   have hdx := zU hx
   refine zo ?_
   refine zk ?_
   refine zm ?_
   refine zu ?_
   refine za ?_
   refine dq (zZ zbv zJ rfl rfl rfl (by first | assumption | simp_all)) ?_
   refine dq (zD zJ rfl rfl rfl rfl) ?_
   refine de rfl (zac zJ rfl fun b16 => ?_)
   refine de0 (zax zJ rfl rfl rfl rfl rfl ?_)
   refine dn ?_
   refine zP (Ghost.fc0 16 rfl) ?_
   obtain ⟨p, hpk, rfl⟩ := zeg (zbt m o l a (u + 1).toNat) hx
   obtain ⟨d, hd, rfl⟩ := hF.ats hpk
   have hst : (alk d.p.1.Id s.LS).getD none = stO d.p := hF.ri.st d (List.mem_of_getElem? hd)
   have hye : (alk d.p.1.Id s.LY).getD zbY = d.vy := hF.ri.ye d (List.mem_of_getElem? hd)
   have hdl := (zbt m o l a (u + 1).toNat)
   have hdb := zkA (o := o) (a := a) hp.hf (u + 1).toNat d.p (List.mem_of_getElem? hpk)
   have hgd := hp.hG d.p.1 (List.mem_of_getElem? hx)
   have hcl := zdn d.p.1.Gives
   have hyl := hdb.yes
   have hl5 := hp.hl
   have htl : ((zV m o l a (u + 1).toNat).ds.take k).length ≤ l.length := by rw [List.length_take]; omega
   refine zar (fun M => M = (.arr v 1 ((zes tm ((zV m o l a (u + 1).toNat).ds.take k)).map .str) :: FR m l s)) [3, 6] mixed ?_
   refine ahp 0 rfl rfl (by kernel_rfl) (by kernel_rfl) (zf rfl) ?_
   refine ahp 1 rfl rfl (by kernel_rfl) (by kernel_rfl) ((by first | exact zn rfl | exact zg rfl)) ?_
   refine ahp 2 rfl rfl (by kernel_rfl) (by kernel_rfl) (zb zbj rfl zcx (by decide) rfl) ?_
   refine ahl 3 rfl rfl (by kernel_rfl) (by kernel_rfl) (by simp) rfl (fun M hM => by subst hM; exact zy (i := 1) zcx rfl rfl (.inl ⟨rfl, rfl⟩) ⟨rfl, rfl⟩) ?_
   refine ahp 4 rfl rfl (by kernel_rfl) (by kernel_rfl) ((by first | exact zd zJ rfl ty9 (by decide) rfl | exact zb zJ rfl ty9 (by decide) rfl)) ?_
   refine ahp 5 rfl rfl (by kernel_rfl) (by kernel_rfl) (zh ty9 rfl rfl rfl) ?_
   refine ahl 6 rfl rfl (by kernel_rfl) (by kernel_rfl) (by simp) rfl (fun M hM => by subst hM; exact zbP (i := 2) (f := zgi) (L := s.LS) (z0 := none) zcx ty9 zeE rfl rfl rfl rfl ⟨(by rw [hst]), rfl⟩) ?_
   refine ahp 7 rfl rfl (by kernel_rfl) (by kernel_rfl) (z8 rfl) ?_
   refine ahz (by kernel_rfl) ?_
   refine zar (fun M => M = (.arr v 1 ((zes tm ((zV m o l a (u + 1).toNat).ds.take k)).map .str) :: FR m l s)) [19, 22, 24] mixed ?_
   refine ahp 0 rfl rfl (by kernel_rfl) (by kernel_rfl) (zf rfl) ?_
   refine ahp 1 rfl rfl (by kernel_rfl) (by kernel_rfl) (zjn (o := stO d.p) zeE rfl rfl) ?_
   refine ahp 2 rfl rfl (by kernel_rfl) (by kernel_rfl) (zf rfl) ?_
   refine ahg 3 rfl rfl (by kernel_rfl) (by kernel_rfl) rfl (fun hc => ⟨_, OpenTo.refl _, zf rfl⟩) ?_
   refine ahg 4 rfl rfl (by kernel_rfl) (by kernel_rfl) rfl (fun hc => by
    have hs2 := (znl (p := d.p) (by cases hq : stO d.p <;> simp_all)).2
    exact ⟨_, OpenTo.upd (t := 40) rfl (by first | exact hc | simp_all) (OpenTo.refl _), (by rw [hs2]; exact zn rfl)⟩) ?_
   refine ahg 5 rfl rfl (by kernel_rfl) (by kernel_rfl) rfl (fun hc => ⟨_, OpenTo.upd (t := 41) rfl (by first | exact hc | simp_all) (OpenTo.refl _), (by first | exact zd zcg rfl ty3 (by decide) rfl | exact zb zcg rfl ty3 (by decide) rfl)⟩) ?_
   refine ahg 6 rfl rfl (by kernel_rfl) (by kernel_rfl) rfl (fun hc => ⟨_, OpenTo.upd (t := 42) rfl (by first | exact hc | simp_all) (OpenTo.refl _), zh ty3 rfl rfl rfl⟩) ?_
   refine ahg 7 rfl rfl (by kernel_rfl) (by kernel_rfl) rfl (fun hc => ⟨_, OpenTo.upd (t := 43) rfl (by first | exact hc | simp_all) (OpenTo.refl _), zaj rfl rfl⟩) ?_
   refine ahp 8 rfl rfl (by kernel_rfl) (by kernel_rfl) (zG rfl (.inr ⟨_, rfl, fun h => by simp_all⟩) (.inl rfl)) ?_
   refine ahp 9 rfl rfl (by kernel_rfl) (by kernel_rfl) (zf rfl) ?_
   refine ahg 10 rfl rfl (by kernel_rfl) (by kernel_rfl) rfl (fun hc => ⟨_, OpenTo.refl _, zD zJ rfl rfl rfl rfl⟩) ?_
   refine ahg 11 rfl rfl (by kernel_rfl) (by kernel_rfl) rfl (fun hc => by have hq := hc; (try simp at hq); exact ⟨_, OpenTo.upd (t := 47) rfl (by first | exact hc | simp_all) (OpenTo.refl _), zw zn1 rfl (WeakL.refl _) (zcR (x := d.p.1) (by omega))⟩) ?_
   refine ahg 12 rfl rfl (by kernel_rfl) (by kernel_rfl) rfl (fun hc => ⟨_, OpenTo.refl _, zf rfl⟩) ?_
   refine ahg 13 rfl rfl (by kernel_rfl) (by kernel_rfl) rfl (fun hc => by have hq := hc; (try simp at hq); exact ⟨_, OpenTo.upd (t := 49) rfl (by first | exact hc | simp_all) (OpenTo.upd (t := 48) rfl (by first | exact hc | simp_all) (OpenTo.refl _)), zw zgm rfl (WeakL.refl _) (zaw (l := zaV d.p.1.Gives) (s := tm) (by omega))⟩) ?_
   refine ahp 14 rfl rfl (by kernel_rfl) (by kernel_rfl) (zG rfl (.inr ⟨_, rfl, fun h => by simp_all⟩) (.inl rfl)) ?_
   refine ahp 15 rfl rfl (by kernel_rfl) (by kernel_rfl) (zf rfl) ?_
   refine ahg 16 rfl rfl (by kernel_rfl) (by kernel_rfl) rfl (fun hc => ⟨_, OpenTo.refl _, zf rfl⟩) ?_
   refine ahg 17 rfl rfl (by kernel_rfl) (by kernel_rfl) rfl (fun hc => ⟨_, OpenTo.upd (t := 53) rfl (by first | exact hc | simp_all) (OpenTo.refl _), (by first | exact zn rfl | exact zg rfl)⟩) ?_
   refine ahg 18 rfl rfl (by kernel_rfl) (by kernel_rfl) rfl (fun hc => ⟨_, OpenTo.upd (t := 54) rfl (by first | exact hc | simp_all) (OpenTo.refl _), zb zbj rfl zbH (by decide) rfl⟩) ?_
   refine zdt 19 rfl rfl (by kernel_rfl) (by kernel_rfl) (by simp) rfl rfl (fun hc => ⟨_, OpenTo.upd (t := 55) rfl (by first | exact hc | simp_all) (OpenTo.refl _), fun M hM => by
    subst hM; exact zy (i := 1) zbH rfl rfl (.inl ⟨rfl, rfl⟩) ⟨rfl, rfl⟩
    ⟩) ?_
   refine ahg 20 rfl rfl (by kernel_rfl) (by kernel_rfl) rfl (fun hc => ⟨_, OpenTo.refl _, (by first | exact zd zJ rfl ty9 (by decide) rfl | exact zb zJ rfl ty9 (by decide) rfl)⟩) ?_
   refine ahg 21 rfl rfl (by kernel_rfl) (by kernel_rfl) rfl (fun hc => ⟨_, OpenTo.upd (t := 57) rfl (by first | exact hc | simp_all) (OpenTo.refl _), zh ty9 rfl rfl rfl⟩) ?_
   refine zdt 22 rfl rfl (by kernel_rfl) (by kernel_rfl) (by simp) rfl rfl (fun hc => ⟨_, OpenTo.upd (t := 58) rfl (by first | exact hc | simp_all) (OpenTo.upd (t := 56) rfl (by first | exact hc | simp_all) (OpenTo.refl _)), fun M hM => by
    subst hM; exact zbP (i := 3) (f := HVal.raw) (L := s.LY) (z0 := zbY) zbH ty9 zQ rfl rfl rfl rfl ⟨by rw [hye], rfl⟩
    ⟩) ?_
   refine ahg 23 rfl rfl (by kernel_rfl) (by kernel_rfl) rfl (fun hc => ⟨_, OpenTo.refl _, zf rfl⟩) ?_
   refine zdt 24 rfl rfl (by kernel_rfl) (by kernel_rfl) (by simp) rfl rfl (fun hc => ⟨_, OpenTo.upd (t := 60) rfl (by first | exact hc | simp_all) (OpenTo.upd (t := 59) rfl (by first | exact hc | simp_all) (OpenTo.refl _)), fun M hM => by
    subst hM; exact zeY (hs' := [eSs d.p.2.yes, .str tm]) zgm rfl ⟨.arr (i := 2 * k + 6) (ziO (m := m) (l := l) hd), .weak (Weak.refl _), trivial⟩ (zaw (l := d.p.2.yes) (s := tm) (by omega)) rfl ⟨rfl, rfl⟩
    ⟩) ?_
   refine ahg 25 rfl rfl (by kernel_rfl) (by kernel_rfl) rfl (fun hc => ⟨_, OpenTo.upd (t := 61) rfl (by first | exact hc | simp_all) (OpenTo.refl _), zam rfl⟩) ?_
   refine ahp 26 rfl rfl (by kernel_rfl) (by kernel_rfl) (zG rfl (.inr ⟨_, rfl, fun h => by simp_all⟩) (.inl rfl)) ?_
   refine ahz (by kernel_rfl) ?_
   refine zl rfl (fun h3 => ?_) (fun h4 => ?_)
   ·try simp at h3
    refine zB ?_
    refine dmv rfl ?_
    refine dq ((by first | exact zd zJ rfl ty9 (by decide) rfl | exact zb zJ rfl ty9 (by decide) rfl)) ?_
    refine dq (zh ty9 rfl rfl rfl) ?_
    refine dq (zE (hs := [_]) zQ ty9 rfl rfl (by decide) (by decide) rfl) ?_
    refine de rfl (zay (i := 0) (v := v) (es := (zes tm ((zV m o l a (u + 1).toNat).ds.take k)).map .str) zQ ty9 rfl rfl rfl rfl rfl (by simp [zbi, zj]) (by have := zeH (zjZ tm) ((zV m o l a (u + 1).toNat).ds.take k); rw [List.length_map]; unfold zes; simp only [List.length_cons, List.length_nil]; omega) fun v68 => ?_)
    refine das rfl ?_
    refine dn ?_
    refine zA ?_
    refine zk ?_
    refine zB ?_
    refine dq (zC rfl rfl (by omega) (by omega)) ?_
    refine dmv rfl ?_
    refine dn ?_
    exact ⟨k + 1, v68, ⟨by omega, trivial⟩, by dsimp only; omega, ⟨rfl, rfl, trivial⟩, (by repeat (first | exact zq | refine zx rfl ?_ | refine zt rfl rfl ?_)), zO (by dsimp only; unfold zes; rw [zi2 hpk, show zjI tm d.p = [d.p.1.Id] from if_pos (by simp_all)]; simp)⟩
   ·try simp at h4
    refine zo ?_
    refine zA ?_
    refine zk ?_
    refine zB ?_
    refine dq (zC rfl rfl (by omega) (by omega)) ?_
    refine dmv rfl ?_
    refine dn ?_
    exact ⟨k + 1, v, ⟨by omega, trivial⟩, by dsimp only; omega, ⟨rfl, rfl, trivial⟩, (by repeat (first | exact zq | refine zx rfl ?_ | refine zt rfl rfl ?_)), zO (by dsimp only; unfold zes; rw [zi2 hpk, show zjI tm d.p = [] from if_neg (by rintro ⟨q1, q2, q3⟩; have hs0 : stO d.p = some (zj (zbz ⟨d.p.1.Id, d.p.2.how, d.p.2.since⟩)) := if_neg (by omega); simp_all)]; simp)⟩
  ·try simp at h2
   have hnk : l.length ≤ k := by omega
   obtain rfl : k = l.length := by omega
   rw [List.take_of_length_le (by have := congrArg List.length (zbt m o l a (u + 1).toNat); rw [List.length_map] at this; omega)]
   refine z7 ?_
   refine zag ?_
   refine zbc ?_
   refine zT ?_
   refine zk ?_
   refine za ?_
   refine dmv rfl ?_
   refine das rfl ?_
   refine dn ?_
   refine zp ?_
   exact zbO ((Ghost.fa 12 (i := 0) rfl rfl).trans Ghost.clear) rfl ⟨rfl, rfl⟩
end
end Go.Proofs.YtpcaaekefgkhjaaGreatDoor
namespace Go.HL
section
theorem zol (y : OwnerS) (r : List OwnerS) (g : GiveS) : zdo (y :: r) g = if y.Player = g.Player then (if y.Team = g.From then some (⟨y.Player, g.To⟩ :: r) else none) else (zdo r g).map (y :: ·) := by
 unfold zdo
 by_cases e : y.Player = g.Player
 ·rw [if_pos e, List.findIdx_cons]
  simp only [e, beq_self_eq_true, cond_true, List.getElem?_cons_zero, List.set_cons_zero]
 ·rw [if_neg e, List.findIdx_cons]
  have hb : (y.Player == g.Player) = false := by simpa using e
  simp only [hb, cond_false, List.getElem?_cons_succ, List.set_cons_succ]
  cases r[r.findIdx fun y => y.Player == g.Player]? with
  | none => rfl
  | some z =>
    dsimp only
    split <;> rfl
theorem zlD {g : GiveS} {s : Str} : ∀ {o p : List OwnerS}, zdo o g = some p → (zaP o g.Player = g.From ∧ zaP p g.Player = g.To) ∧ (s ≠ g.Player → zaP p s = zaP o s)
 | [], p, h => by simp [zdo] at h
 | y :: r, p, h => by
   rw [zol] at h
   split at h
   ·rename_i e
    split at h
    ·rename_i e2
     cases h
     refine ⟨⟨by rw [zaP, if_pos e]; exact e2, by rw [zaP, if_pos e]⟩, fun hs => ?_⟩
     rw [zaP, if_neg (by rw [e]; exact fun q => hs q.symm), zaP, if_neg (by rw [e]; exact fun q => hs q.symm)]
    ·cases h
   ·rename_i e
    cases hr : zdo r g with
    | none => rw [hr] at h; cases h
    | some q =>
      rw [hr] at h
      cases h
      obtain ⟨⟨h1, h2⟩, h3⟩ := zlD (s := s) hr
      refine ⟨⟨by rw [zaP, if_neg e]; exact h1, by rw [zaP, if_neg e]; exact h2⟩, fun hs => ?_⟩
      rw [zaP, zaP, h3 hs]
def UG (l : List GiveS) : Prop := l.Pairwise fun a b => a.Player ≠ b.Player
theorem zmn {s : Str} : ∀ {l : List GiveS} {o d : List OwnerS}, UG l → zbw o l = some d → (∀ g ∈ l, g.Player = s → zaP o s = g.From ∧ zaP d s = g.To) ∧ ((∀ g ∈ l, g.Player ≠ s) → zaP d s = zaP o s)
 | [], o, d, _, h => by
   rw [zbw] at h; cases h
   exact ⟨fun g hg _ => absurd hg (by simp), fun _ => rfl⟩
 | g :: r, o, d, hu, h => by
   obtain ⟨u1, u2⟩ := List.pairwise_cons.1 (show (g :: r).Pairwise _ from hu)
   rw [zbw] at h
   cases hp : zdo o g with
   | none => rw [hp] at h; cases h
   | some p =>
     rw [hp] at h
     have h' : zbw p r = some d := h
     obtain ⟨⟨t1, t2⟩, t3⟩ := zlD (s := s) hp
     obtain ⟨i1, i2⟩ := zmn (s := s) u2 h'
     refine ⟨fun g' hg' e => ?_, fun hn => ?_⟩
     ·rcases List.mem_cons.1 hg' with rfl | hm
      ·subst e
       exact ⟨t1, by rw [i2 fun z hz => (u1 z hz).symm]; exact t2⟩
      ·obtain ⟨j1, j2⟩ := i1 g' hm e
       exact ⟨by rw [← t3 (by rw [← e]; exact (u1 g' hm).symm)]; exact j1, j2⟩
     ·rw [i2 fun z hz => hn z (List.mem_cons_of_mem g hz), t3 fun e => hn g (by simp) e.symm]
def gvW (s : Str) (x : DealS) : List Str := x.Gives.flatMap fun g => if g.Player = s then [g.To] else []
theorem zjN {s : Str} : ∀ {l : List GiveS}, (∀ g ∈ l, g.Player ≠ s) → (l.flatMap fun g => if g.Player = s then [g.To] else []) = ([] : List Str)
 | [], _ => rfl
 | g :: r, h => by rw [List.flatMap_cons, if_neg (h g (by simp)), zjN fun z hz => h z (List.mem_cons_of_mem g hz)]; rfl
theorem znJ {s : Str} : ∀ {l : List GiveS} {g : GiveS}, UG l → g ∈ l → g.Player = s → (l.flatMap fun g => if g.Player = s then [g.To] else []) = [g.To]
 | [], g, _, h, _ => by cases h
 | y :: r, g, hu, h, e => by
   obtain ⟨u1, u2⟩ := List.pairwise_cons.1 (show (y :: r).Pairwise _ from hu)
   rw [List.flatMap_cons]
   rcases List.mem_cons.1 h with rfl | hm
   ·rw [if_pos e, zjN fun z hz q => u1 z hz (e.trans q.symm)]; rfl
   ·rw [if_neg (fun q => u1 g hm (q.trans e.symm)), znJ u2 hm e]; rfl
structure GvOk (x : DealS) : Prop where
 u : UG x.Gives
 ne : ∀ g ∈ x.Gives, g.From ≠ g.To
theorem zpA {m : MarketS} {o : List OwnerS} {x : DealS} {s : Str} {acc : List Str} (hx : GvOk x) (hd : zb1 m o x.Gives = true) (ha : acc.getLast? = some (zaP o s)) : zeG s acc (zb8 o x.Gives) = acc ++ gvW s x := by
 have hf : ∃ d, zbw o x.Gives = some d := by
  cases h : zbw o x.Gives with
  | none => rw [(zeZ h).1] at hd; cases hd
  | some d => exact ⟨d, rfl⟩
 obtain ⟨d, hf⟩ := hf
 rw [(zid (m := m) hf).2]
 obtain ⟨i1, i2⟩ := zmn (s := s) hx.u hf
 unfold zeG gvW
 by_cases hg : ∃ g ∈ x.Gives, g.Player = s
 ·obtain ⟨g, hm, e⟩ := hg
  obtain ⟨t1, t2⟩ := i1 g hm e
  rw [znJ hx.u hm e, t2, ha, t1, if_neg fun q => hx.ne g hm (Option.some.inj q)]
 ·have hn : ∀ g ∈ x.Gives, g.Player ≠ s := fun g hm e => hg ⟨g, hm, e⟩
  rw [zjN hn, i2 hn, if_pos ha, List.append_nil]
theorem zoG (s : Str) (acc : List Str) (nx : List OwnerS) : (zeG s acc nx).getLast? = some (zaP nx s) := by
 unfold zeG
 split
 ·assumption
 ·simp
def LogOk (m : MarketS) (l : List DealS) : List OwnerS → List (DealS × List OwnerS) → Prop
 | _, [] => True
 | o, p :: r => p.1 ∈ l ∧ zb1 m o p.1.Gives = true ∧ p.2 = zb8 o p.1.Gives ∧ LogOk m l p.2 r
theorem zns {m : MarketS} {l : List DealS} {s : Str} (hl : ∀ x ∈ l, GvOk x) : ∀ {lg : List (DealS × List OwnerS)} {o : List OwnerS} {acc : List Str}, LogOk m l o lg → acc.getLast? = some (zaP o s) → (lg.map (·.2)).foldl (zeG s) acc = acc ++ lg.flatMap fun p => gvW s p.1
 | [], o, acc, _, _ => by simp
 | p :: r, o, acc, h, ha => by
   obtain ⟨h1, h2, h3, h4⟩ := h
   rw [List.map_cons, List.foldl_cons, List.flatMap_cons]
   have hw : zeG s acc p.2 = acc ++ gvW s p.1 := by rw [h3]; exact zpA (hl _ h1) h2 ha
   rw [zns hl h4 (zoG s acc p.2), hw, List.append_assoc]
theorem LogOk.app {m : MarketS} {l : List DealS} : ∀ {g1 g2 : List (DealS × List OwnerS)} {o : List OwnerS}, LogOk m l o g1 → LogOk m l (zgT o (g1.map (·.2))) g2 → LogOk m l o (g1 ++ g2)
 | [], g2, o, _, h => h
 | p :: r, g2, o, h1, h2 => by
   obtain ⟨a1, a2, a3, a4⟩ := h1
   refine ⟨a1, a2, a3, LogOk.app a4 ?_⟩
   cases r with
   | nil => exact h2
   | cons q r => exact h2
theorem zlh {m : MarketS} {l : List DealS} {t : Int} : ∀ {ps : List DD} {o : List OwnerS}, (∀ p ∈ ps, p.1 ∈ l) → LogOk m l o (zaM m t o ps).log
 | [], o, _ => trivial
 | p :: r, o, h => by
   rw [zaM]
   have ih : ∀ o', LogOk m l o' (zaM m t o' r).log := fun o' => zlh fun q hq => h q (List.mem_cons_of_mem p hq)
   have hp := h p (by simp)
   dsimp only
   unfold zaB
   split
   ·split
    ·exact ih _
    split
    ·rename_i hb
     exact ⟨hp, hb, rfl, ih _⟩
    ·exact ih _
   split
   ·exact ih _
   ·exact ih _
theorem ziz {m : MarketS} {o : List OwnerS} {l : List DealS} {a : List ReplyS} : ∀ n, LogOk m l o (zV m o l a n).log
 | 0 => trivial
 | n + 1 => by
   rw [zV, stF]
   refine LogOk.app (ziz n) ?_
   rw [← zqG m o l a n]
   exact zlh (zhc (zge m o l a n))
theorem zq9 {m : MarketS} {o : List OwnerS} {l : List DealS} {a : List ReplyS} {s : Str} (hl : ∀ x ∈ l, GvOk x) (n : Nat) : zeM s (zaP o s) ((zV m o l a n).log.map (·.2)) = zaP o s :: (zV m o l a n).log.flatMap fun p => gvW s p.1 :=
 zns hl (ziz n) rfl
/-! the reference's lists -/
def zgq (x : DealS) (id s : Str) (g : GiveS) : List Str := if x.Id = id ∧ g.Player = s then [g.To] else []
def zez (id s : Str) (x : DealS) : List Str := x.Gives.flatMap (zgq x id s)
def idR (l : List DealS) (s : Str) (id : Str) : List Str := l.flatMap (zez id s)
def zb0 (s : Str) (x : OwnerS) : List Str := if x.Player = s then [x.Team] else []
theorem zl7 {id s : Str} {x : DealS} (h : x.Id ≠ id) : zez id s x = [] := by
 unfold zez zgq
 rw [List.flatMap_eq_nil_iff]
 intro g _
 rw [if_neg fun q => h q.1]
theorem zos {s : Str} {x : DealS} : zez x.Id s x = gvW s x := by
 unfold zez zgq gvW
 congr 1
 funext g
 by_cases e : g.Player = s <;> simp [e]
theorem znB {s : Str} : ∀ {l : List DealS} {x : DealS}, (l.map (·.Id)).Nodup → x ∈ l → idR l s x.Id = gvW s x
 | [], x, _, h => by cases h
 | y :: r, x, hn, h => by
   obtain ⟨n1, n2⟩ := List.nodup_cons.1 (show (y.Id :: r.map (·.Id)).Nodup from hn)
   unfold idR
   rw [List.flatMap_cons]
   rcases List.mem_cons.1 h with rfl | hm
   ·rw [zos, List.flatMap_eq_nil_iff.2 fun z hz => zl7 fun e => n1 (by rw [← e]; exact List.mem_map_of_mem hz), List.append_nil]
   ·rw [zl7 fun e => n1 (by rw [e]; exact List.mem_map_of_mem hm)]
    exact znB n2 hm
theorem znh {l : List DealS} {s : Str} (hn : (l.map (·.Id)).Nodup) {m : MarketS} : ∀ {lg : List (DealS × List OwnerS)} {o : List OwnerS}, LogOk m l o lg → (lg.map (·.1.Id)).flatMap (idR l s) = lg.flatMap fun p => gvW s p.1
 | [], _, _ => rfl
 | p :: r, o, h => by
   obtain ⟨h1, _, _, h4⟩ := h
   rw [List.map_cons, List.flatMap_cons, List.flatMap_cons, znB hn h1, znh hn h4]
theorem zjJ {s : Str} : ∀ {o : List OwnerS}, s ∉ o.map (·.Player) → o.flatMap (zb0 s) = [] ∧ zaP o s = []
 | [], _ => ⟨rfl, rfl⟩
 | x :: r, h => by
   have h1 : x.Player ≠ s := fun e => h (by simp [e])
   obtain ⟨i1, i2⟩ := zjJ (s := s) (o := r) fun q => h (List.mem_cons_of_mem _ q)
   exact ⟨by rw [List.flatMap_cons, i1, zb0, if_neg h1]; rfl, by rw [zaP, if_neg h1]; exact i2⟩
theorem znr {s : Str} : ∀ {o : List OwnerS}, SortedS (o.map (·.Player)) → s ∈ o.map (·.Player) → o.flatMap (zb0 s) = [zaP o s]
 | [], _, h => by cases h
 | x :: r, hs, h => by
   have hs' : (x.Player :: r.map (·.Player)).Pairwise _ := hs
   obtain ⟨h1, h2⟩ := List.pairwise_cons.1 hs'
   by_cases e : x.Player = s
   ·rw [List.flatMap_cons, zb0, if_pos e, (zjJ (o := r) fun q => ?_).1, zaP, if_pos e]
    ·rfl
    ·subst e; exact absurd (h1 _ q) (by rw [zbf]; simp)
   ·rw [List.flatMap_cons, zb0, if_neg e, zaP, if_neg e]
    exact znr h2 (by rcases List.mem_cons.1 h with q | q; exact absurd q.symm e; exact q)
theorem ze2 {α β : Type} {f : α → List β} {c : Nat} : ∀ {L : List α}, (∀ x ∈ L, (f x).length ≤ c) → (L.flatMap f).length ≤ L.length * c
 | [], _ => by simp
 | x :: r, h => by
   rw [List.flatMap_cons, List.length_append, List.length_cons, Nat.add_mul, Nat.one_mul]
   have := h x (by simp)
   have := ze2 fun z hz => h z (List.mem_cons_of_mem x hz)
   omega
theorem znj (x : DealS) (id s : Str) (g : GiveS) : (zgq x id s g).length ≤ 1 := by unfold zgq; split <;> simp
theorem znw (s : Str) (x : OwnerS) : (zb0 s x).length ≤ 1 := by unfold zb0; split <;> simp
end
end Go.HL
namespace Go.Proofs.YtpcaaekefgkhjaaGreatDoor
set_option maxRecDepth 100000
set_option linter.unusedVariables false
set_option linter.unusedSimpArgs false
section
open Go.HL
set_option maxHeartbeats 2000000 in
/-- benchwarmer/benchref1.WayOf -/
theorem zfV [Tracks] {m : MarketS} {o : List OwnerS} {l : List DealS} {a : List ReplyS} {u : Int} {tm : Str}  (hp : FP m o l a u) : zah Tryz.prog 24 [zaC m, zat o, zcA l, zbr a, .str tm, .int .i64 u] (.tup [eSs (if (o.flatMap (zb0 tm)).length = 0 then [] else ((o.flatMap (zb0 tm)) ++ ((zV m o l a (u + 1).toNat).log.map (·.1.Id)).flatMap (idR l tm))), .bool (decide ((o.flatMap (zb0 tm)).length ≠ 0))]) := by
 have hoo := hp.ho
 have hl5 := hp.hl
 have b1 := ze2 (f := zb0 tm) (c := 1) (L := o) (fun x _ => znw tm x)
 refine Con.of_body Tryz.func24 rfl Tryz.ntmps24 rfl rfl ?_
 refine za ?_
 refine dq (zal rfl rfl) ?_
 refine das rfl ?_
 refine das rfl ?_
 refine dn ?_
 refine za ?_
 refine das rfl ?_
 refine dn ?_
 refine zP (Ghost.arr_nil 1) ?_
 refine zm ?_
 refine za ?_
 refine dmv rfl ?_
 refine dq (zR zaD rfl) ?_
 refine dmv rfl ?_
 refine dn ?_
 refine zu ?_
 refine zaZ [14, 16, 25, 26, 27, 28, 29, 30, 31, 32, 33, 34, 35, 36, 37, 38] (fun (k : Nat) (v : Value) => [(25, .int .i64 k), (14, .raw v)]) (fun (k : Nat) (v : Value) => [.arr v 1 (((o.take k).flatMap (zb0 tm)).map HVal.str)]) (fun (k : Nat) (v : Value) => k ≤ o.length ∧ (True)) (fun (k : Nat) (v : Value) => o.length - k) (0) (zbY) ?_ ?_ ?_ ?_
 ·exact ⟨Nat.zero_le _, trivial⟩
 ·exact ⟨rfl, rfl, trivial⟩
 ·exact zO (by simp)
 ·intro k v hinv
  obtain ⟨hk, -⟩ := hinv
  refine za ?_
  refine dq (zY rfl rfl) ?_
  refine dn ?_
  refine zm ?_
  refine zl rfl (fun h1 => ?_) (fun h2 => ?_)
  ·try simp at h1
   obtain ⟨y, hy⟩ : ∃ y, o[k]? = some y := ⟨_, List.getElem?_eq_getElem h1⟩
   have hdy := zU hy
   refine zo ?_
   refine zk ?_
   refine zm ?_
   refine zu ?_
   refine za ?_
   refine dq (zZ zaD zaa rfl rfl rfl (by first | assumption | simp_all)) ?_
   refine dq (zD zaa rfl rfl rfl rfl) ?_
   refine de rfl (zac zaa rfl fun b16 => ?_)
   refine de0 (zax zaa rfl rfl rfl rfl rfl ?_)
   refine dn ?_
   refine zP (Ghost.fc0 16 rfl) ?_
   refine za ?_
   refine dq ((by first | exact zd zaa rfl ty9 (by decide) rfl | exact zb zaa rfl ty9 (by decide) rfl)) ?_
   refine dq (zh ty9 rfl rfl rfl) ?_
   refine dmv rfl ?_
   refine dq (zbs rfl rfl) ?_
   refine dn ?_
   refine zl rfl (fun h3 => ?_) (fun h4 => ?_)
   ·try simp at h3
    refine zB ?_
    refine dmv rfl ?_
    refine dq ((by first | exact zd zaa rfl ty9 (by decide) rfl | exact zb zaa rfl ty9 (by decide) rfl)) ?_
    refine dq (zh ty9 rfl rfl rfl) ?_
    refine dq (zE (hs := [_]) zQ ty9 rfl rfl (by decide) (by decide) rfl) ?_
    refine de rfl (zay (i := 0) (v := v) (es := ((o.take k).flatMap (zb0 tm)).map HVal.str) zQ ty9 rfl rfl rfl rfl rfl (by simp [zbi, zj]) (by have b2 := ze2 (f := zb0 tm) (c := 1) (L := o.take k) (fun x _ => znw tm x); rw [List.length_take] at b2; rw [List.length_map]; simp only [List.length_cons, List.length_nil]; omega) fun v37 => ?_)
    refine das rfl ?_
    refine dn ?_
    refine zA ?_
    refine zk ?_
    refine zB ?_
    refine dq (zC rfl rfl (by omega) (by omega)) ?_
    refine dmv rfl ?_
    refine dn ?_
    exact ⟨k + 1, v37, ⟨by omega, trivial⟩, by dsimp only; omega, ⟨rfl, rfl, trivial⟩, (by repeat (first | exact zq | refine zx rfl ?_ | refine zt rfl rfl ?_)), zO (by dsimp only; rw [zaE hy, List.flatMap_append, List.flatMap_cons, List.flatMap_nil, List.append_nil]; rw [show zb0 tm y = [y.Team] from if_pos (by simp_all)]; simp)⟩
   ·try simp at h4
    refine zo ?_
    refine zA ?_
    refine zk ?_
    refine zB ?_
    refine dq (zC rfl rfl (by omega) (by omega)) ?_
    refine dmv rfl ?_
    refine dn ?_
    exact ⟨k + 1, v, ⟨by omega, trivial⟩, by dsimp only; omega, ⟨rfl, rfl, trivial⟩, (by repeat (first | exact zq | refine zx rfl ?_ | refine zt rfl rfl ?_)), zO (by dsimp only; rw [zaE hy, List.flatMap_append, List.flatMap_cons, List.flatMap_nil, List.append_nil]; rw [show zb0 tm y = [] from if_neg (by simp_all)]; simp)⟩
  ·try simp at h2
   have hnk : o.length ≤ k := by omega
   obtain rfl : k = o.length := by omega
   rw [List.take_length]
   refine z7 ?_
   refine zag ?_
   refine zbc ?_
   refine zT ?_
   refine zk ?_
   refine zm ?_
   refine za ?_
   refine dmv rfl ?_
   refine de rfl (zaA (i := 0) (f := HVal.str) (es := (o.flatMap (zb0 tm))) zQ rfl rfl ?_)
   refine dq (zaj rfl rfl) ?_
   refine dn ?_
   refine zl rfl (fun h5 => ?_) (fun h6 => ?_)
   ·have hz := h5
    try simp at h5
    refine za ?_
    refine das rfl ?_
    refine das rfl ?_
    refine dn ?_
    refine zp ?_
    first
    | exact zo2 Ghost.clear rfl (zan (by rw [if_pos (by have := eq_of_beq hz; omega)]; exact zak 1) (by rw [decide_eq_false (by have := eq_of_beq hz; omega)]; exact Weak.refl _)) ⟨rfl, rfl⟩
    | (refine zbO ((Ghost.fa 12 (i := 0) rfl rfl).trans Ghost.clear) rfl ⟨?_, rfl⟩
       have hz1 : (o.flatMap (zb0 tm)).length ≠ 0 := fun e => by rw [e] at hz; simp at hz
       show HVal.tup [eSs ((o.flatMap (zb0 tm)) ++ ((zV m o l a (u + 1).toNat).log.map (·.1.Id)).flatMap (idR l tm)), .bool true] = _
       rw [if_neg hz1, decide_eq_true hz1])
   ·have hz := h6
    try simp at h6
    refine zo ?_
    refine zk ?_
    refine zm ?_
    refine za ?_
    refine dq (zD zN rfl rfl rfl rfl) ?_
    refine dmv rfl ?_
    refine dmv rfl ?_
    refine dmv rfl ?_
    refine dmv rfl ?_
    refine de rfl (zb2 (M1 := []) (R := [.arr v 1 (((o.flatMap (zb0 tm))).map HVal.str)]) znS rfl (WeakL.refl _) (zO rfl) (zfZ (m := m) (o := o) (l := l) (a := a) (u := u) hp.nd hp.hf hp.hl hp.ha hp.hG hp.hv.2 hp.wt hp.ht hp.h0o hp.ho hp.hat hp.h0 hp.hu) ?_)
    rintro _ _ ⟨b, s, rfl, rfl, hF⟩
    obtain rfl := hF.bf
    refine dq ((by first | exact zn rfl | exact zg rfl)) ?_
    refine dq ((by first | exact zd zbj rfl zQ (by decide) rfl | exact zb zbj rfl zQ (by decide) rfl)) ?_
    refine de rfl (zy (i := 0) zQ rfl rfl (.inl ⟨rfl, rfl⟩) ?_)
    refine de rfl (zaA (i := 4) (f := HVal.str) (es := s.dn) zQ rfl rfl ?_)
    refine dmv rfl ?_
    refine dn ?_
    refine zP (Ghost.perm List.perm_append_comm) ?_
    refine zP (Ghost.fa 50 (i := 5) rfl rfl) ?_
    refine zP (Ghost.only (i := 0) (m := .arr v 1 ((o.flatMap (zb0 tm)).map HVal.str)) rfl) ?_
    rw [hF.dn]
    have hlg := zk1 m o l a (u + 1).toNat
    have hdl : ((zV m o l a (u + 1).toNat).log.map (·.1.Id)).length ≤ 500 := by rw [List.length_map]; omega
    have bG : ∀ (id : Str) (x : DealS), x ∈ l → (zez id tm x).length ≤ 1000 := fun id x hx => by have := ze2 (f := zgq x id tm) (c := 1) (L := x.Gives) (fun g _ => znj x id tm g); have := hp.hG x hx; unfold zez; omega
    have bI : ∀ id : Str, (idR l tm id).length ≤ 500000 := fun id => by have := ze2 (f := zez id tm) (c := 1000) (L := l) (bG id); unfold idR; omega
    refine zu ?_
    refine zaZ [14, 18, 20, 22, 52, 53, 54, 55, 56, 57, 58, 59, 60, 61, 62, 63, 64, 65, 66, 67, 68, 69, 70, 71, 72, 73, 74, 75, 76, 77, 78, 79, 80, 81, 82, 83, 84, 85, 86] (fun (k2 : Nat) (v2 : Value) => [(52, .int .i64 k2), (14, .raw v2)]) (fun (k2 : Nat) (v2 : Value) => [.arr v2 1 (((o.flatMap (zb0 tm)) ++ (((zV m o l a (u + 1).toNat).log.map (·.1.Id)).take k2).flatMap (idR l tm)).map HVal.str)]) (fun (k2 : Nat) (v2 : Value) => k2 ≤ ((zV m o l a (u + 1).toNat).log.map (·.1.Id)).length ∧ (True)) (fun (k2 : Nat) (v2 : Value) => ((zV m o l a (u + 1).toNat).log.map (·.1.Id)).length - k2) (0) (v) ?_ ?_ ?_ ?_
    ·exact ⟨Nat.zero_le _, trivial⟩
    ·exact ⟨rfl, rfl, trivial⟩
    ·exact zO (by simp)
    ·intro k2 v2 hinv
     obtain ⟨hk2, -⟩ := hinv
     refine za ?_
     refine dq (zY rfl rfl) ?_
     refine dn ?_
     refine zm ?_
     refine zl rfl (fun h7 => ?_) (fun h8 => ?_)
     ·try simp at h7
      obtain ⟨id, hid⟩ : ∃ id, ((zV m o l a (u + 1).toNat).log.map (·.1.Id))[k2]? = some id := ⟨_, List.getElem?_eq_getElem (by rw [List.length_map]; exact h7)⟩
      have hdid := zU hid
      refine zo ?_
      refine zk ?_
      refine zm ?_
      refine zu ?_
      refine za ?_
      refine dq (zZ (j := k2) (a := id) zQ ty9 rfl rfl rfl hid) ?_
      refine dq (zh ty9 rfl rfl rfl) ?_
      refine das rfl ?_
      refine dn ?_
      refine za ?_
      refine dmv rfl ?_
      refine dq (zR zbv rfl) ?_
      refine dmv rfl ?_
      refine dn ?_
      refine zu ?_
      refine zaZ [14, 20, 22, 58, 59, 60, 61, 62, 63, 64, 65, 66, 67, 68, 69, 70, 71, 72, 73, 74, 75, 76, 77, 78, 79, 80, 81, 82, 83, 84, 85] (fun (k3 : Nat) (v3 : Value) => [(58, .int .i64 k3), (14, .raw v3)]) (fun (k3 : Nat) (v3 : Value) => [.arr v3 1 (((o.flatMap (zb0 tm)) ++ (((zV m o l a (u + 1).toNat).log.map (·.1.Id)).take k2).flatMap (idR l tm) ++ (l.take k3).flatMap (zez id tm)).map HVal.str)]) (fun (k3 : Nat) (v3 : Value) => k3 ≤ l.length ∧ (True)) (fun (k3 : Nat) (v3 : Value) => l.length - k3) (0) (v2) ?_ ?_ ?_ ?_
      ·exact ⟨Nat.zero_le _, trivial⟩
      ·exact ⟨rfl, rfl, trivial⟩
      ·exact zO (by simp)
      ·intro k3 v3 hinv
       obtain ⟨hk3, -⟩ := hinv
       refine za ?_
       refine dq (zY rfl rfl) ?_
       refine dn ?_
       refine zm ?_
       refine zl rfl (fun h9 => ?_) (fun h10 => ?_)
       ·try simp at h9
        obtain ⟨x, hx⟩ : ∃ x, l[k3]? = some x := ⟨_, List.getElem?_eq_getElem h9⟩
        have hdx := zU hx
        refine zo ?_
        refine zk ?_
        refine zm ?_
        refine zu ?_
        refine za ?_
        refine dq (zZ zbv zJ rfl rfl rfl (by first | assumption | simp_all)) ?_
        refine dq (zD zJ rfl rfl rfl rfl) ?_
        refine de rfl (zac zJ rfl fun b20 => ?_)
        refine de0 (zax zJ rfl rfl rfl rfl rfl ?_)
        refine dn ?_
        refine zP (Ghost.fc0 20 rfl) ?_
        have hGx := hp.hG x (List.mem_of_getElem? hx)
        refine za ?_
        refine dq ((by first | exact zd zJ rfl zao (by decide) rfl | exact zb zJ rfl zao (by decide) rfl)) ?_
        refine dq (zh zao rfl rfl rfl) ?_
        refine dq (zR zao rfl) ?_
        refine dmv rfl ?_
        refine dn ?_
        refine zu ?_
        refine zaZ [14, 22, 65, 66, 67, 68, 69, 70, 71, 72, 73, 74, 75, 76, 77, 78, 79, 80, 81, 82, 83, 84] (fun (k4 : Nat) (v4 : Value) => [(65, .int .i64 k4), (14, .raw v4)]) (fun (k4 : Nat) (v4 : Value) => [.arr v4 1 (((o.flatMap (zb0 tm)) ++ (((zV m o l a (u + 1).toNat).log.map (·.1.Id)).take k2).flatMap (idR l tm) ++ (l.take k3).flatMap (zez id tm) ++ (x.Gives.take k4).flatMap (zgq x id tm)).map HVal.str)]) (fun (k4 : Nat) (v4 : Value) => k4 ≤ x.Gives.length ∧ (True)) (fun (k4 : Nat) (v4 : Value) => x.Gives.length - k4) (0) (v3) ?_ ?_ ?_ ?_
        ·exact ⟨Nat.zero_le _, trivial⟩
        ·exact ⟨rfl, rfl, trivial⟩
        ·exact zO (by simp)
        ·intro k4 v4 hinv
         obtain ⟨hk4, -⟩ := hinv
         refine za ?_
         refine dq (zY rfl rfl) ?_
         refine dn ?_
         refine zm ?_
         refine zl rfl (fun h11 => ?_) (fun h12 => ?_)
         ·try simp at h11
          obtain ⟨g, hg⟩ : ∃ g, x.Gives[k4]? = some g := ⟨_, List.getElem?_eq_getElem h11⟩
          have hdg := zU hg
          refine zo ?_
          refine zk ?_
          refine zm ?_
          refine zu ?_
          refine za ?_
          refine dq (zZ zao zaf rfl rfl rfl (by first | assumption | simp_all)) ?_
          refine dq (zD zaf rfl rfl rfl rfl) ?_
          refine de rfl (zac zaf rfl fun b22 => ?_)
          refine de0 (zax zaf rfl rfl rfl rfl rfl ?_)
          refine dn ?_
          refine zP (Ghost.fc0 22 rfl) ?_
          refine za ?_
          refine dq ((by first | exact zd zJ rfl ty9 (by decide) rfl | exact zb zJ rfl ty9 (by decide) rfl)) ?_
          refine dq (zh ty9 rfl rfl rfl) ?_
          refine dmv rfl ?_
          refine dq (zbs rfl rfl) ?_
          refine dmv rfl ?_
          refine dg rfl rfl (fun hc => ⟨_, OpenTo.refl _, (by first | exact zd zaf rfl ty9 (by decide) rfl | exact zb zaf rfl ty9 (by decide) rfl)⟩) ?_
          refine dg rfl rfl (fun hc => ⟨_, OpenTo.upd (t := 74) rfl (by first | exact hc | simp_all) (OpenTo.refl _), zh ty9 rfl rfl rfl⟩) ?_
          refine dg rfl rfl (fun hc => ⟨_, OpenTo.refl _, zf rfl⟩) ?_
          refine dg rfl rfl (fun hc => ⟨_, OpenTo.upd (t := 76) rfl (by first | exact hc | simp_all) (OpenTo.upd (t := 75) rfl (by first | exact hc | simp_all) (OpenTo.refl _)), zbs rfl rfl⟩) ?_
          refine dq (zG rfl (.inr ⟨_, rfl, fun h => by simp_all⟩) (.inl rfl)) ?_
          refine dn ?_
          refine zl rfl (fun h13 => ?_) (fun h14 => ?_)
          ·try simp at h13
           have b2 := ze2 (f := idR l tm) (c := 500000) (L := ((zV m o l a (u + 1).toNat).log.map (·.1.Id)).take k2) (fun x _ => bI x)
           have b3 := ze2 (f := zez id tm) (c := 1000) (L := l.take k3) (fun x hx => bG id x (List.mem_of_mem_take hx))
           have b4 := ze2 (f := zgq x id tm) (c := 1) (L := x.Gives.take k4) (fun g _ => znj x id tm g)
           rw [List.length_take] at b2 b3 b4
           refine zB ?_
           refine dmv rfl ?_
           refine dq ((by first | exact zd zaf rfl ty9 (by decide) rfl | exact zb zaf rfl ty9 (by decide) rfl)) ?_
           refine dq (zh ty9 rfl rfl rfl) ?_
           refine dq (zE (hs := [_]) zQ ty9 rfl rfl (by decide) (by decide) rfl) ?_
           refine de rfl (zay (i := 0) (v := v4) (es := ((o.flatMap (zb0 tm)) ++ (((zV m o l a (u + 1).toNat).log.map (·.1.Id)).take k2).flatMap (idR l tm) ++ (l.take k3).flatMap (zez id tm) ++ (x.Gives.take k4).flatMap (zgq x id tm)).map HVal.str) zQ ty9 rfl rfl rfl rfl rfl (by simp [zbi, zj]) (by rw [List.length_map]; simp only [List.length_append, List.length_cons, List.length_nil]; omega) fun v83 => ?_)
           refine das rfl ?_
           refine dn ?_
           refine zA ?_
           refine zk ?_
           refine zB ?_
           refine dq (zC rfl rfl (by omega) (by omega)) ?_
           refine dmv rfl ?_
           refine dn ?_
           exact ⟨k4 + 1, v83, ⟨by omega, trivial⟩, by dsimp only; omega, ⟨rfl, rfl, trivial⟩, (by repeat (first | exact zq | refine zx rfl ?_ | refine zt rfl rfl ?_)), zO (by dsimp only; rw [zaE hg, List.flatMap_append, List.flatMap_cons, List.flatMap_nil, List.append_nil]; rw [show zgq x id tm g = [g.To] from if_pos (by simp_all)]; simp)⟩
          ·try simp at h14
           refine zo ?_
           refine zA ?_
           refine zk ?_
           refine zB ?_
           refine dq (zC rfl rfl (by omega) (by omega)) ?_
           refine dmv rfl ?_
           refine dn ?_
           exact ⟨k4 + 1, v4, ⟨by omega, trivial⟩, by dsimp only; omega, ⟨rfl, rfl, trivial⟩, (by repeat (first | exact zq | refine zx rfl ?_ | refine zt rfl rfl ?_)), zO (by dsimp only; rw [zaE hg, List.flatMap_append, List.flatMap_cons, List.flatMap_nil, List.append_nil]; rw [show zgq x id tm g = [] from if_neg (by rintro ⟨q1, q2⟩; simp_all)]; simp)⟩
         ·try simp at h12
          have hnk4 : x.Gives.length ≤ k4 := by omega
          obtain rfl : k4 = x.Gives.length := by omega
          rw [List.take_length]
          refine z7 ?_
          refine zag ?_
          refine zbc ?_
          refine zT ?_
          refine zA ?_
          refine zk ?_
          refine zB ?_
          refine dq (zC rfl rfl (by omega) (by omega)) ?_
          refine dmv rfl ?_
          refine dn ?_
          exact ⟨k3 + 1, v4, ⟨by omega, trivial⟩, by dsimp only; omega, ⟨rfl, rfl, trivial⟩, (by repeat (first | exact zq | refine zx rfl ?_ | refine zt rfl rfl ?_)), zO (by dsimp only; rw [zaE hx, List.flatMap_append, List.flatMap_cons, List.flatMap_nil, List.append_nil]; rw [List.append_assoc]; rfl)⟩
       ·try simp at h10
        have hnk3 : l.length ≤ k3 := by omega
        obtain rfl : k3 = l.length := by omega
        rw [List.take_length]
        refine z7 ?_
        refine zag ?_
        refine zbc ?_
        refine zT ?_
        refine zA ?_
        refine zk ?_
        refine zB ?_
        refine dq (zC rfl rfl (by omega) (by omega)) ?_
        refine dmv rfl ?_
        refine dn ?_
        exact ⟨k2 + 1, v3, ⟨by rw [List.length_map]; omega, trivial⟩, by dsimp only; rw [List.length_map]; omega, ⟨rfl, rfl, trivial⟩, (by repeat (first | exact zq | refine zx rfl ?_ | refine zt rfl rfl ?_)), zO (by dsimp only; rw [zaE hid, List.flatMap_append, List.flatMap_cons, List.flatMap_nil, List.append_nil]; rw [List.append_assoc]; rfl)⟩
     ·try simp at h8
      have hnk2 : ((zV m o l a (u + 1).toNat).log.map (·.1.Id)).length ≤ k2 := by simpa using h8
      obtain rfl : k2 = ((zV m o l a (u + 1).toNat).log.map (·.1.Id)).length := by omega
      rw [List.take_length]
      refine z7 ?_
      refine zag ?_
      refine zbc ?_
      refine zT ?_
      refine zk ?_
      refine za ?_
      refine dmv rfl ?_
      refine das rfl ?_
      refine das rfl ?_
      refine dn ?_
      refine zp ?_
      first
      | exact zo2 Ghost.clear rfl (zan (by rw [if_pos (by have := eq_of_beq hz; omega)]; exact zak 1) (by rw [decide_eq_false (by have := eq_of_beq hz; omega)]; exact Weak.refl _)) ⟨rfl, rfl⟩
      | (refine zbO ((Ghost.fa 12 (i := 0) rfl rfl).trans Ghost.clear) rfl ⟨?_, rfl⟩
         have hz1 : (o.flatMap (zb0 tm)).length ≠ 0 := fun e => by rw [e] at hz; simp at hz
         show HVal.tup [eSs ((o.flatMap (zb0 tm)) ++ ((zV m o l a (u + 1).toNat).log.map (·.1.Id)).flatMap (idR l tm)), .bool true] = _
         rw [if_neg hz1, decide_eq_true hz1])
end
end Go.Proofs.YtpcaaekefgkhjaaGreatDoor
namespace Go.HL
section
theorem zjl : ∀ l : List StageS, zcK zbz l l = true
 | [] => rfl
 | a :: r => by simp [zcK, zgw, zjl r, zj, zgh, eqH]
section
variable {m : MarketS} {o : List OwnerS} {l : List DealS} {a : List ReplyS} {u : Int} {s : Str}
theorem zrl {x y : DealS} (h : zcY x y < 0) : x.Id ≠ y.Id := fun e => by
 have h2 := (zkl.flip x y trivial trivial).1 h
 unfold zcY at h h2
 rw [e] at h h2; omega
theorem zri {x y : GiveS} (h : zci x y < 0) : x.Player ≠ y.Player := fun e => by
 have h2 := (zle.flip x y trivial trivial).1 h
 unfold zci at h h2
 rw [e] at h h2; omega
theorem zsJ (h : za0 m o l a = 0) : ∀ x ∈ l, GvOk x := fun x hx => by
 obtain ⟨_, h2, _⟩ := zkR h
 obtain ⟨_, h5⟩ := zfF h2
 obtain ⟨_, d2, _⟩ := zfK h5
 obtain ⟨_, _, g3, g4⟩ := zdJ (zgp (d2 x hx))
 refine ⟨g4.imp fun h => zri h, fun g hg e => ?_⟩
 have := g3 g hg
 unfold zaH at this
 split at this
 ·cases this
 split at this
 ·cases this
 first
 | (rw [if_pos e] at this; cases this)
 | (exfalso; omega)
theorem zqA (h : za0 m o l a = 0) : (l.map (·.Id)).Nodup := by
 obtain ⟨_, h2, _⟩ := zkR h
 obtain ⟨_, h5⟩ := zfF h2
 obtain ⟨_, _, d3⟩ := zfK h5
 exact List.pairwise_map.2 (d3.imp fun h => zrl h)
theorem zs1 (h : zad m = 0) : (1 ≤ m.Vetoes ∧ m.Vetoes ≤ 20) ∧ 0 ≤ m.Deadline := by
 unfold zad at h
 split at h
 ·cases h
 split at h
 ·cases h
 split at h
 ·rename_i h3; exact absurd h h3
 split at h
 ·cases h
 rename_i h4
 simp only [Bool.or_eq_true, not_or, Bool.not_eq_true] at h4
 have e1 := zej h4.1.1.1.1
 have e3 := zej h4.1.1.2
 omega
theorem zsR (h : za0 m o l a = 0) : ∀ r ∈ a, 0 ≤ r.At ∧ r.At ≤ 345686400000 := fun r hr => by
 obtain ⟨_, _, h3⟩ := zkR h
 obtain ⟨_, h6⟩ := zmv h3
 obtain ⟨_, r2, _⟩ := zmO h6
 have := r2 r hr
 unfold zas at this
 split at this
 ·cases this
 split at this
 ·cases this
 split at this
 ·cases this
 rename_i hmo
 have := zdH (u := r.At) (by simpa using hmo)
 omega
theorem zkk (h : za0 m o l a = 0) (h0o : l ≠ [] → 0 < o.length) (ho : o.length ≤ 1000000) (hu : u ≤ 345686400000) : FP m o l a u := by
 have tk := zdV h
 obtain ⟨_, h2, _⟩ := zkR h
 have hk := (zrq h2).2
 have hq := zs1 tk.mok
 have hm := (zfc tk.mok).len
 have hat := zsR h
 refine ⟨zqA h, tk.hf, tk.hl, tk.ha, tk.hG, by omega, tk.hwt, by omega, h0o, ho, hat, fun t ht => ?_, hu⟩
 unfold moA at ht
 rcases List.mem_append.1 ht with ht | ht
 ·rcases List.mem_append.1 ht with ht | ht
  ·rw [List.mem_singleton.1 ht]; exact hq.2
  ·unfold mo1 at ht
   obtain ⟨x, hx, ht⟩ := List.mem_flatMap.1 ht
   have h1 := (hk x hx).fr
   have h2 := (hk x hx).to
   simp at ht
   omega
 ·unfold mo2 at ht
  obtain ⟨r, hr, ht⟩ := List.mem_flatMap.1 ht
  have h1 := hat r hr
  have h2 := tk.hwt
  simp at ht
  omega
theorem zoO : orI [za0 m o l a, if za7 u then 0 else 1] = zdN m o l a u := by
 unfold zdN
 by_cases h : za0 m o l a = 0 <;> cases hm : za7 u <;> simp [orI, h]
theorem zr9 : orI [za0 m o l a, if !(m.Teams.contains s) then 8 else 0, if za7 u then 0 else 1] = zbF m o l a u s := by
 unfold zbF
 by_cases h : za0 m o l a = 0 <;> cases hm : za7 u <;> cases hc : m.Teams.contains s <;> simp [orI, h]
theorem zjS (h : za0 m o l a = 0) : (o.flatMap (zb0 s) = [] ∧ zaP o s = []) ∨ (o.flatMap (zb0 s) = [zaP o s] ∧ zaP o s ≠ []) := by
 have tk := zdV h
 by_cases hp : s ∈ o.map (·.Player)
 ·refine .inr ⟨znr tk.hs hp, ?_⟩
  obtain ⟨h1, _, _⟩ := zkR h
  obtain ⟨hm, h4⟩ := zhs h1
  obtain ⟨_, o2, _, _⟩ := zhE h4
  obtain ⟨x, hx, _, hx3⟩ := zl4 hp
  rw [hx3]
  have := o2 x hx
  unfold za8 at this
  split at this
  ·cases this
  split at this
  ·cases this
  rename_i hc
  have hc2 : x.Team ∈ m.Teams := by simpa using hc
  exact zm4 (zlH hm _ hc2)
 ·exact .inl (zjJ hp)
theorem zqm (h : za0 m o l a = 0) (h2 : (o.flatMap (zb0 s)).length = 0) : zbl m o l a u s = 8 := by
 rcases zjS (s := s) h with ⟨_, q⟩ | ⟨q, _⟩
 ·unfold zbl; rw [if_neg (by simp [h]), if_pos q]
 ·rw [q] at h2; simp at h2
theorem zs2 (h : za0 m o l a = 0) (h2 : (o.flatMap (zb0 s)).length ≠ 0) : zbl m o l a u s = zdN m o l a u := by
 rcases zjS (s := s) h with ⟨q, _⟩ | ⟨_, q⟩
 ·rw [q] at h2; simp at h2
 ·unfold zbl zdN
  rw [if_neg (by simp [h]), if_neg q]
  cases hm : za7 u <;> simp [h]
theorem zsy (h : za0 m o l a ≠ 0) : zbl m o l a u s = zdN m o l a u := by
 unfold zbl zdN
 rw [if_pos h, if_neg fun q => h q.1]
theorem zsK (h : zbl m o l a u s = 0) : (if (o.flatMap (zb0 s)).length = 0 then [] else o.flatMap (zb0 s) ++ ((zdZ m o l a u).log.map (·.1.Id)).flatMap (idR l s)) = zch m o l a u s := by
 have ht : za0 m o l a = 0 := by
  unfold zbl at h
  split at h
  ·rename_i q; exact absurd h q
  ·rename_i q; simpa using q
 rcases zjS (s := s) ht with ⟨q1, q2⟩ | ⟨q1, q2⟩
 ·rw [zqm ht (by rw [q1]; rfl)] at h; cases h
 ·rw [if_neg (by rw [q1]; simp), q1]
  unfold zch
  rw [if_neg (by simp [h]), zq9 (zsJ ht), znh (zqA ht) (ziz _)]
  rfl
theorem zsM (h : zbl m o l a u s = 0) : za0 m o l a = 0 := by
 unfold zbl at h
 split at h
 ·rename_i q; exact absurd h q
 ·rename_i q; simpa using q
theorem zsH (h : zbF m o l a u s = 0) : za0 m o l a = 0 := by
 unfold zbF at h
 split at h
 ·rename_i q; exact absurd h q
 ·rename_i q; simpa using q
theorem zsB (h : zbl m o l a u s = 0) : za7 u = true := by
 unfold zbl at h
 split at h
 ·rename_i q; exact absurd h q
 split at h
 ·cases h
 split at h
 ·cases h
 ·rename_i q; simpa using q
theorem zsp (h : zbF m o l a u s = 0) : za7 u = true := by
 unfold zbF at h
 split at h
 ·rename_i q; exact absurd h q
 split at h
 ·cases h
 split at h
 ·cases h
 ·rename_i q; simpa using q
theorem zrB (hl : l.length ≤ 1000000) : (zeI m o l a u).length ≤ 1000000 := by
 unfold zeI
 split
 ·simp
 ·exact Nat.le_trans (zrs _) hl
theorem zrC (ho : o.length ≤ 1000000) : (zeN m o l a u).length ≤ 1000000 := by
 unfold zeN
 split
 ·simp
 ·rw [zgu]; exact ho
theorem zq6 (hl : l.length ≤ 1000000) : (zcE m o l a u s).length ≤ 1000000 := by
 unfold zcE
 split
 ·simp
 ·have h1 := zeH (zjZ s) (zdZ m o l a u).ds
  have h2 := congrArg List.length (zbt m o l a (u + 1).toNat)
  rw [List.length_map] at h2
  unfold zes zdZ at *
  omega
theorem zpB (hl : l.length ≤ 900000) : (zch m o l a u s).length ≤ 1000000 := by
 have := zru (m := m) (o := o) (l := l) (a := a) (u := u) (s := s); omega
end
end
end Go.HL
namespace Go.Proofs.YtpcaaekefgkhjaaGreatDoor
set_option maxRecDepth 100000
set_option linter.unusedVariables false
set_option linter.unusedSimpArgs false
section
open Go.HL
/-- benchwarmer/benchmake.Below -/
theorem zeu [Tracks] {x n : Int} (hn : n ≤ 4000000000) : zah Tryz.prog 71 [.int .i64 x, .int .i64 n] (.int .i64 (zeC x n)) := by
 refine Con.of_body Tryz.func71 rfl Tryz.ntmps71 rfl rfl ?_
 refine za ?_
 refine das rfl ?_
 refine dn ?_
 refine zm ?_
 refine za ?_
 refine dmv rfl ?_
 refine dq (zY rfl rfl) ?_
 refine dn ?_
 refine zl rfl (fun h1 => ?_) (fun h2 => ?_)
 ·try simp at h1
  refine za ?_
  refine das rfl ?_
  refine dn ?_
  refine zp ?_
  refine zI rfl ?_
  show HVal.int .i64 _ = _
  simp_all [zeC]
  try omega
 ·try simp at h2
  refine zo ?_
  refine zk ?_
  refine za ?_
  refine dmv rfl ?_
  refine dmv rfl ?_
  refine dq (zny rfl rfl (by omega)) ?_
  refine das rfl ?_
  refine dn ?_
  refine zm ?_
  refine za ?_
  refine dmv rfl ?_
  refine dq (zY rfl rfl) ?_
  refine dn ?_
  refine zl rfl (fun h3 => ?_) (fun h4 => ?_)
  ·try simp at h3
   refine zB ?_
   refine dmv rfl ?_
   refine dmv rfl ?_
   have hm := Int.tmod_lt_of_pos x (show 0 < n by omega)
   obtain ⟨y, hy1, hy2⟩ := ziI x n
   have hb : zeC x n = x.tmod n + n := by unfold zeC; rw [if_neg (by omega), if_pos (by omega)]
   refine dq (zC rfl rfl (by omega) (by omega)) ?_
   refine das rfl ?_
   refine dn ?_
   refine zk ?_
   refine za ?_
   refine dmv rfl ?_
   refine das rfl ?_
   refine dn ?_
   refine zp ?_
   refine zI rfl ?_
   show HVal.int .i64 _ = _
   simp_all [zeC]
   try omega
  ·try simp at h4
   refine zo ?_
   refine zk ?_
   refine za ?_
   refine dmv rfl ?_
   refine das rfl ?_
   refine dn ?_
   refine zp ?_
   refine zI rfl ?_
   show HVal.int .i64 _ = _
   simp_all [zeC]
   try omega

/-- (*benchwarmer/benchmake.Stream).Next -/
theorem zab [Tracks] {b : Nat} {l : List Int} {a : Nat} {n : Int} (ha : a ≤ 1000000) (hn : n ≤ 4000000000) : Con Tryz.prog 40 [pAt b, .int .i64 n] [St b l a] (fun x M' => ∃ y : Nat, x = .int .i64 (y : Int) ∧ (y : Int) < max n 1 ∧ M' = [St b l (a + 1)]) := by
 refine Con.of_body Tryz.func40 rfl Tryz.ntmps40 rfl rfl ?_
 refine za ?_
 refine das rfl ?_
 refine dn ?_
 refine za ?_
 refine dmv rfl ?_
 refine dq ((zg rfl)) ?_
 refine dq (zb zg2 rfl ty3 (by decide) rfl) ?_
 refine de rfl (zy (i := 0) ty3 rfl rfl (.inl ⟨rfl, rfl⟩) ?_)
 refine dq (zC rfl rfl (by omega) (by omega)) ?_
 refine dq ((zg rfl)) ?_
 refine dq (zb zg2 rfl ty3 (by decide) rfl) ?_
 refine de0 (zz (i := 0) ty3 rfl rfl rfl rfl rfl (Nat.le_of_ble_eq_true rfl) ?_)
 refine dn ?_
 refine zm ?_
 refine za ?_
 refine dmv rfl ?_
 refine dq ((zg rfl)) ?_
 refine dq (zb zg2 rfl zbh (by decide) rfl) ?_
 refine de rfl (zy (i := 0) zbh rfl rfl (.inl ⟨rfl, rfl⟩) ?_)
 refine dq (zR zbh rfl) ?_
 refine dq (zaj rfl rfl) ?_
 refine dn ?_
 refine zl rfl (fun h1 => ?_) (fun h2 => ?_)
 ·try simp at h1
  refine za ?_
  refine dmv rfl ?_
  refine dq ((zg rfl)) ?_
  refine dq (zb zg2 rfl ty3 (by decide) rfl) ?_
  refine de rfl (zy (i := 0) ty3 rfl rfl (.inl ⟨rfl, rfl⟩) ?_)
  refine dq (znq rfl rfl) ?_
  refine dmv rfl ?_
  refine dq (zw zpV rfl (WeakL.refl _) (zeu (by assumption))) ?_
  refine das rfl ?_
  refine dn ?_
  refine zp ?_
  refine zaQ rfl ?_
  obtain ⟨y, h1, h2⟩ := ziI _ n
  exact ⟨y, congrArg _ h1, h2, rfl⟩
 ·try simp at h2
  refine zo ?_
  refine zk ?_
  have hl0 : 0 < l.length := List.length_pos_iff.2 (by simpa using h2)
  refine zar (fun M => ∃ i : Nat, M[i]? = some (St b l (a + 1))) [3, 8] mixed ?_
  refine ahp 0 rfl rfl (by kernel_rfl) (by kernel_rfl) (zf rfl) ?_
  refine ahp 1 rfl rfl (by kernel_rfl) (by kernel_rfl) ((zg rfl)) ?_
  refine ahp 2 rfl rfl (by kernel_rfl) (by kernel_rfl) (zb zg2 rfl ty3 (by decide) rfl) ?_
  refine ahl 3 rfl rfl (by kernel_rfl) (by kernel_rfl) (by simp) (⟨0, rfl⟩) (fun M hM => by obtain ⟨i, hi⟩ := hM; exact zy (i := i) ty3 rfl hi (.inl ⟨rfl, rfl⟩) ⟨rfl, rfl⟩) ?_
  refine ahp 4 rfl rfl (by kernel_rfl) (by kernel_rfl) (za5 rfl rfl (by omega) (by omega)) ?_
  refine ahp 5 rfl rfl (by kernel_rfl) (by kernel_rfl) (zf rfl) ?_
  refine ahp 6 rfl rfl (by kernel_rfl) (by kernel_rfl) ((zg rfl)) ?_
  refine ahp 7 rfl rfl (by kernel_rfl) (by kernel_rfl) (zb zg2 rfl zbh (by decide) rfl) ?_
  refine ahl 8 rfl rfl (by kernel_rfl) (by kernel_rfl) (by simp) (⟨0, rfl⟩) (fun M hM => by obtain ⟨i, hi⟩ := hM; exact zy (i := i) zbh rfl hi (.inl ⟨rfl, rfl⟩) ⟨rfl, rfl⟩) ?_
  refine ahp 9 rfl rfl (by kernel_rfl) (by kernel_rfl) (zR zbh rfl) ?_
  refine ahp 10 rfl rfl (by kernel_rfl) (by kernel_rfl) (zfO (h' := .int .i64 ((a % l.length : Nat) : Int)) (zny rfl rfl (by omega)) (by show HVal.int .i64 (((a : Int) + 1 - 1).tmod _) = _; rw [show ((a : Int) + 1 - 1) = (a : Int) by omega]; exact congrArg _ (zpQ _ _))) ?_
  refine ahp 11 rfl rfl (by kernel_rfl) (by kernel_rfl) (z8 rfl) ?_
  refine ahz (by kernel_rfl) ?_
  refine zar (fun M => ∃ i : Nat, M[i]? = some (St b l (a + 1))) [3, 8] mixed ?_
  refine ahp 0 rfl rfl (by kernel_rfl) (by kernel_rfl) (zf rfl) ?_
  refine ahp 1 rfl rfl (by kernel_rfl) (by kernel_rfl) ((zg rfl)) ?_
  refine ahp 2 rfl rfl (by kernel_rfl) (by kernel_rfl) (zb zg2 rfl ty3 (by decide) rfl) ?_
  refine ahl 3 rfl rfl (by kernel_rfl) (by kernel_rfl) (by simp) (⟨0, rfl⟩) (fun M hM => by obtain ⟨i, hi⟩ := hM; exact zy (i := i) ty3 rfl hi (.inl ⟨rfl, rfl⟩) ⟨rfl, rfl⟩) ?_
  refine ahp 4 rfl rfl (by kernel_rfl) (by kernel_rfl) (za5 rfl rfl (by omega) (by omega)) ?_
  refine ahp 5 rfl rfl (by kernel_rfl) (by kernel_rfl) (zf rfl) ?_
  refine ahp 6 rfl rfl (by kernel_rfl) (by kernel_rfl) ((zg rfl)) ?_
  refine ahp 7 rfl rfl (by kernel_rfl) (by kernel_rfl) (zb zg2 rfl zbh (by decide) rfl) ?_
  refine ahl 8 rfl rfl (by kernel_rfl) (by kernel_rfl) (by simp) (⟨0, rfl⟩) (fun M hM => by obtain ⟨i, hi⟩ := hM; exact zy (i := i) zbh rfl hi (.inl ⟨rfl, rfl⟩) ⟨rfl, rfl⟩) ?_
  refine ahp 9 rfl rfl (by kernel_rfl) (by kernel_rfl) (zR zbh rfl) ?_
  refine ahp 10 rfl rfl (by kernel_rfl) (by kernel_rfl) (zrv rfl rfl (by omega)) ?_
  refine ahp 11 rfl rfl (by kernel_rfl) (by kernel_rfl) (z8 rfl) ?_
  refine ahz (by kernel_rfl) ?_
  refine za ?_
  refine dmv rfl ?_
  refine dq ((zg rfl)) ?_
  refine dq (zb zg2 rfl zbh (by decide) rfl) ?_
  refine de rfl (zy (i := 0) zbh rfl rfl (.inl ⟨rfl, rfl⟩) ?_)
  refine dmv rfl ?_
  refine dq (zZ (j := a % l.length) (a := l[a % l.length]'(Nat.mod_lt _ (by omega))) zbh ty3 rfl rfl rfl (List.getElem?_eq_getElem _)) ?_
  refine dq (zh ty3 rfl rfl rfl) ?_
  refine dq (zw zpV rfl (WeakL.refl _) (zeu (by omega))) ?_
  refine dmv rfl ?_
  refine dmv rfl ?_
  refine dq (zi6 rfl rfl) ?_
  refine dq (znq rfl rfl) ?_
  refine dq (zi6 rfl rfl) ?_
  refine dmv rfl ?_
  refine dq (zw zpV rfl (WeakL.refl _) (zeu (by assumption))) ?_
  refine das rfl ?_
  refine dn ?_
  refine zp ?_
  refine zaQ rfl ?_
  obtain ⟨y, h1, h2⟩ := ziI _ n
  exact ⟨y, congrArg _ h1, h2, rfl⟩

/-- (*benchwarmer/benchmake.Stream).Range -/
theorem z6 [Tracks] {b : Nat} {l : List Int} {a : Nat} {lo hi : Int} (ha : a ≤ 1000000) (hlh : lo ≤ hi) (h0 : -1000000000 ≤ lo) (h1 : hi ≤ 1000000000) : Con Tryz.prog 29 [pAt b, .int .i64 lo, .int .i64 hi] [St b l a] (fun x M' => ∃ y : Int, x = .int .i64 y ∧ (lo ≤ y ∧ y ≤ hi) ∧ M' = [St b l (a + 1)]) := by
 refine Con.of_body Tryz.func29 rfl Tryz.ntmps29 rfl rfl ?_
 refine za ?_
 refine das rfl ?_
 refine dn ?_
 refine zm ?_
 refine za ?_
 refine dmv rfl ?_
 refine dmv rfl ?_
 refine dq (zY rfl rfl) ?_
 refine dn ?_
 refine zl rfl (fun h1 => ?_) (fun h1 => ?_)
 ·exfalso
  try simp at h1
  omega
 ·try simp at h1
  refine zo ?_
  refine zk ?_
  refine za ?_
  refine dmv rfl ?_
  refine dmv rfl ?_
  refine dmv rfl ?_
  refine dmv rfl ?_
  refine dq (za5 rfl rfl (by omega) (by omega)) ?_
  refine dq (zC rfl rfl (by omega) (by omega)) ?_
  refine de rfl (ze (i := 0) zdy rfl (WeakL.refl _) rfl (zab (by assumption) (by omega)) ?_)
  rintro _ _ ⟨y17, rfl, hy17, rfl⟩
  refine dq (zC rfl rfl (by omega) (by omega)) ?_
  refine das rfl ?_
  refine dn ?_
  refine zp ?_
  exact zaQ rfl ⟨_, rfl, by omega, rfl⟩

/-- (*benchwarmer/benchmake.Stream).Flip -/
theorem zap [Tracks] {b : Nat} {l : List Int} {a : Nat} {n : Int} (ha : a ≤ 1000000) (hn : n ≤ 4000000000) : Con Tryz.prog 33 [pAt b, .int .i64 n] [St b l a] (fun x M' => ∃ y : Bool, x = .bool y ∧ M' = [St b l (a + 1)]) := by
 refine Con.of_body Tryz.func33 rfl Tryz.ntmps33 rfl rfl ?_
 refine za ?_
 refine das rfl ?_
 refine dn ?_
 refine za ?_
 refine dmv rfl ?_
 refine dmv rfl ?_
 refine de rfl (ze (i := 0) zdy rfl (WeakL.refl _) rfl (zab (by assumption) (by assumption)) ?_)
 rintro _ _ ⟨y7, rfl, hy7, rfl⟩
 refine dq (zaj rfl rfl) ?_
 refine das rfl ?_
 refine dn ?_
 refine zp ?_
 exact zaQ rfl ⟨_, rfl, rfl⟩

/-- (*benchwarmer/benchmake.Stream).Pick -/
theorem zc [Tracks] {b : Nat} {l : List Int} {a : Nat} {L : List Int} (ha : a ≤ 1000000) (h0 : 0 < L.length) (h1 : L.length ≤ 1000000) : Con Tryz.prog 10 [pAt b, .slice 1 (L.map (.int .i64))] [St b l a] (fun x M' => ∃ y : Int, x = .int .i64 y ∧ y ∈ L ∧ M' = [St b l (a + 1)]) := by
 refine Con.of_body Tryz.func10 rfl Tryz.ntmps10 rfl rfl ?_
 refine za ?_
 refine das rfl ?_
 refine dn ?_
 refine za ?_
 refine dmv rfl ?_
 refine dmv rfl ?_
 refine dmv rfl ?_
 refine dq (zR zbh rfl) ?_
 refine de rfl (ze (i := 0) zdy rfl (WeakL.refl _) rfl (zab (by assumption) (by omega)) ?_)
 rintro _ _ ⟨y9, rfl, hy9, rfl⟩
 obtain ⟨z, hz, hm⟩ := getI hy9 h0
 refine dq (zZ (j := y9) (a := z) zbh ty3 rfl rfl rfl hz) ?_
 refine dq (zh ty3 rfl rfl rfl) ?_
 refine das rfl ?_
 refine dn ?_
 refine zp ?_
 exact zaQ rfl ⟨_, rfl, hm, rfl⟩

/-- (*benchwarmer/benchmake.Stream).Some -/
theorem zi [Tracks] {b : Nat} {l : List Int} {a : Nat} {L : List Str} (ha : a ≤ 1000000) (h0 : 0 < L.length) (h1 : L.length ≤ 1000000) : Con Tryz.prog 11 [pAt b, eSs L] [St b l a] (fun x M' => ∃ y : Str, x = .str y ∧ y ∈ L ∧ M' = [St b l (a + 1)]) := by
 refine Con.of_body Tryz.func11 rfl Tryz.ntmps11 rfl rfl ?_
 refine za ?_
 refine das rfl ?_
 refine dn ?_
 refine za ?_
 refine dmv rfl ?_
 refine dmv rfl ?_
 refine dmv rfl ?_
 refine dq (zR zQ rfl) ?_
 refine de rfl (ze (i := 0) zdy rfl (WeakL.refl _) rfl (zab (by assumption) (by omega)) ?_)
 rintro _ _ ⟨y9, rfl, hy9, rfl⟩
 obtain ⟨z, hz, hm⟩ := getS hy9 h0
 refine dq (zZ (j := y9) (a := z) zQ ty9 rfl rfl rfl hz) ?_
 refine dq (zh ty9 rfl rfl rfl) ?_
 refine das rfl ?_
 refine dn ?_
 refine zp ?_
 exact zaQ rfl ⟨_, rfl, hm, rfl⟩

/-- (*benchwarmer/benchmake.Stream).Odd -/
theorem zav [Tracks] {b : Nat} {l : List Int} {a : Nat} {lo hi : Int} (ha : a ≤ 900000) (hlh : lo ≤ hi) (h0 : -1000000000 ≤ lo) (h1 : hi ≤ 1000000000) : Con Tryz.prog 35 [pAt b, .int .i64 lo, .int .i64 hi] [St b l a] (fun x M' => ∃ y : Int, x = .int .i64 y ∧ M' = [St b l (a + 2)]) := by
 refine Con.of_body Tryz.func35 rfl Tryz.ntmps35 rfl rfl ?_
 refine za ?_
 refine das rfl ?_
 refine dn ?_
 refine zm ?_
 refine za ?_
 refine dmv rfl ?_
 refine de rfl (ze (i := 0) zep rfl (WeakL.refl _) rfl (zap (by omega) (by omega)) ?_)
 rintro _ _ ⟨y8, rfl, rfl⟩
 refine dn ?_
 refine zl rfl (fun h1 => ?_) (fun h2 => ?_)
 ·try simp at h1
  refine za ?_
  refine dmv rfl ?_
  refine dmv rfl ?_
  refine dq (za5 rfl rfl (by omega) (by omega)) ?_
  refine dmv rfl ?_
  refine dq (zC rfl rfl (by omega) (by omega)) ?_
  refine dmv rfl ?_
  refine dmv rfl ?_
  refine dq (zE (hs := [_, _, _, _, _, _]) zbh ty3 rfl rfl (by decide) (by decide) rfl) ?_
  refine de rfl (ze (i := 0) zX rfl (WeakL.refl _) rfl (zc (L := [_, _, _, _, _, _]) (by omega) (by simp_all) (by simp_all)) ?_)
  rintro _ _ ⟨y17, rfl, hy17, rfl⟩
  refine das rfl ?_
  refine dn ?_
  refine zp ?_
  exact zaQ rfl ⟨_, rfl, rfl⟩
 ·try simp at h2
  refine zo ?_
  refine zk ?_
  refine za ?_
  refine dmv rfl ?_
  refine dmv rfl ?_
  refine dmv rfl ?_
  refine de rfl (ze (i := 0) zdw rfl (WeakL.refl _) rfl (z6 (by omega) (by assumption) (by assumption) (by assumption)) ?_)
  rintro _ _ ⟨y21, rfl, hy21, rfl⟩
  refine das rfl ?_
  refine dn ?_
  refine zp ?_
  exact zaQ rfl ⟨_, rfl, rfl⟩
end
section
open Go.HL
/-- strconv.Itoa of a small number -/
theorem zhi [Tracks] {i : Nat} (hi : i < 100) : zah Tryz.prog 36 [.int .i64 (i : Int)] (.str (Lib.decDigits i)) :=
 zhX fun I w args ha => by
  obtain ⟨u, rfl, hu⟩ := ha.one
  obtain rfl := hu.int_inv
  exact ⟨_, .str _, Any.strconv_Itoa_small Tryz.lays171 i hi w⟩
end
section
open Go.HL
set_option maxHeartbeats 2000000 in
/-- (*benchwarmer/benchmake.Stream).MarketOf -/
theorem zb4 [Tracks] {b : Nat} {l : List Int} {a : Nat}  (ha : a ≤ 800000) : Con Tryz.prog 6 [pAt b] [St b l a] (fun x M' => ∃ m a', x = zaC m ∧ GoodM m ∧ a' ≤ a + 20 ∧ M' = [St b l a']) := by
 refine Con.of_bodyc Tryz.func6 rfl Tryz.ntmps6 rfl rfl ?_
 refine za ?_
 refine de rfl (zac zN rfl fun b2 => ?_)
 refine dn ?_
 refine zdi [3, 4, 5, 6, 7, 8, 9, 10, 11, 12, 13, 14, 15, 16, 17, 18, 19, 20, 21, 22, 23] (fun (q : Nat × MarketS) => [(3, pAt q.1)]) (fun (q : Nat × MarketS) => [.cells q.1 (zj (zaC q.2)), .cells b2 [nilS, .int .i64 0, .int .i64 0, .int .i64 0, .int .i64 0, .int .i64 0], St b l (a + 6)]) (fun (q : Nat × MarketS) => (0 < q.2.Teams.length ∧ q.2.Teams.length ≤ 4) ∧ ∀ s ∈ q.2.Teams, s.length ≤ 10) ?_ ?_
 ·skip
  refine zbZ (fun _ => True) [] mixed ?_
  refine ahp 0 rfl rfl (by kernel_rfl) (by kernel_rfl) (zE (hs := [_, _, _, _]) zQ ty9 rfl rfl (by decide) (by decide) rfl) ?_
  refine ahp 1 rfl rfl (by kernel_rfl) (by kernel_rfl) (zf rfl) ?_
  refine ahp 4 rfl rfl (by kernel_rfl) (by kernel_rfl) (zf rfl) ?_
  refine ahp 5 rfl rfl (by kernel_rfl) (by kernel_rfl) (zE (hs := [_, _, _]) zbh ty3 rfl rfl (by decide) (by decide) rfl) ?_
  refine ahp 7 rfl rfl (by kernel_rfl) (by kernel_rfl) (zf rfl) ?_
  refine ahp 8 rfl rfl (by kernel_rfl) (by kernel_rfl) (zE (hs := [_, _, _]) zbh ty3 rfl rfl (by decide) (by decide) rfl) ?_
  refine ahp 10 rfl rfl (by kernel_rfl) (by kernel_rfl) (zf rfl) ?_
  refine ahp 11 rfl rfl (by kernel_rfl) (by kernel_rfl) (zE (hs := [_, _, _]) zbh ty3 rfl rfl (by decide) (by decide) rfl) ?_
  refine ahp 13 rfl rfl (by kernel_rfl) (by kernel_rfl) (zf rfl) ?_
  refine ahp 14 rfl rfl (by kernel_rfl) (by kernel_rfl) (zE (hs := [_, _, _]) zbh ty3 rfl rfl (by decide) (by decide) rfl) ?_
  refine ahp 16 rfl rfl (by kernel_rfl) (by kernel_rfl) (zf rfl) ?_
  refine ahp 17 rfl rfl (by kernel_rfl) (by kernel_rfl) (zE (hs := [_, _, _]) zbh ty3 rfl rfl (by decide) (by decide) rfl) ?_
  refine zfw 2 20 rfl rfl (by kernel_rfl) ?_ ?_
  ·skip
   first
   | refine zv rfl (ze (i := 0) zdw rfl (WeakL.refl _) rfl (z6 (by first | assumption | omega | (simp; omega) | simp_all) (by first | assumption | omega | (simp; omega) | simp_all) (by first | assumption | omega | (simp; omega) | simp_all) (by first | assumption | omega | (simp; omega) | simp_all)) ?_)
   | refine zv rfl (ze (i := 1) zdw rfl (WeakL.refl _) rfl (z6 (by first | assumption | omega | (simp; omega) | simp_all) (by first | assumption | omega | (simp; omega) | simp_all) (by first | assumption | omega | (simp; omega) | simp_all) (by first | assumption | omega | (simp; omega) | simp_all)) ?_)
   | refine zv rfl (ze (i := 2) zdw rfl (WeakL.refl _) rfl (z6 (by first | assumption | omega | (simp; omega) | simp_all) (by first | assumption | omega | (simp; omega) | simp_all) (by first | assumption | omega | (simp; omega) | simp_all) (by first | assumption | omega | (simp; omega) | simp_all)) ?_)
   | refine zv rfl (ze (i := 3) zdw rfl (WeakL.refl _) rfl (z6 (by first | assumption | omega | (simp; omega) | simp_all) (by first | assumption | omega | (simp; omega) | simp_all) (by first | assumption | omega | (simp; omega) | simp_all) (by first | assumption | omega | (simp; omega) | simp_all)) ?_)
   rintro _ _ ⟨y6, rfl, hy6, rfl⟩
   refine ⟨fun _ => .inl trivial, ?_⟩
   refine ahp 3 rfl rfl (by kernel_rfl) (by kernel_rfl) (zhv (es := zb3) (f := HVal.str) (h := y6.toNat) zQ ty9 rfl rfl ⟨_, _, rfl, by omega⟩ (by omega) (by simp [zb3]; omega)) ?_
   refine zfw 6 20 rfl rfl (by kernel_rfl) ?_ ?_
   ·skip
    first
    | refine zv rfl (ze (i := 0) zX rfl (WeakL.refl _) rfl (zc (L := [_, _, _]) (by first | assumption | omega | (simp; omega) | simp_all) (by first | assumption | omega | (simp; omega) | simp_all) (by first | assumption | omega | (simp; omega) | simp_all)) ?_)
    | refine zv rfl (ze (i := 1) zX rfl (WeakL.refl _) rfl (zc (L := [_, _, _]) (by first | assumption | omega | (simp; omega) | simp_all) (by first | assumption | omega | (simp; omega) | simp_all) (by first | assumption | omega | (simp; omega) | simp_all)) ?_)
    | refine zv rfl (ze (i := 2) zX rfl (WeakL.refl _) rfl (zc (L := [_, _, _]) (by first | assumption | omega | (simp; omega) | simp_all) (by first | assumption | omega | (simp; omega) | simp_all) (by first | assumption | omega | (simp; omega) | simp_all)) ?_)
    | refine zv rfl (ze (i := 3) zX rfl (WeakL.refl _) rfl (zc (L := [_, _, _]) (by first | assumption | omega | (simp; omega) | simp_all) (by first | assumption | omega | (simp; omega) | simp_all) (by first | assumption | omega | (simp; omega) | simp_all)) ?_)
    rintro _ _ ⟨y10, rfl, hy10, rfl⟩
    refine ⟨fun _ => .inl trivial, ?_⟩
    refine zfw 9 20 rfl rfl (by kernel_rfl) ?_ ?_
    ·skip
     first
     | refine zv rfl (ze (i := 0) zX rfl (WeakL.refl _) rfl (zc (L := [_, _, _]) (by first | assumption | omega | (simp; omega) | simp_all) (by first | assumption | omega | (simp; omega) | simp_all) (by first | assumption | omega | (simp; omega) | simp_all)) ?_)
     | refine zv rfl (ze (i := 1) zX rfl (WeakL.refl _) rfl (zc (L := [_, _, _]) (by first | assumption | omega | (simp; omega) | simp_all) (by first | assumption | omega | (simp; omega) | simp_all) (by first | assumption | omega | (simp; omega) | simp_all)) ?_)
     | refine zv rfl (ze (i := 2) zX rfl (WeakL.refl _) rfl (zc (L := [_, _, _]) (by first | assumption | omega | (simp; omega) | simp_all) (by first | assumption | omega | (simp; omega) | simp_all) (by first | assumption | omega | (simp; omega) | simp_all)) ?_)
     | refine zv rfl (ze (i := 3) zX rfl (WeakL.refl _) rfl (zc (L := [_, _, _]) (by first | assumption | omega | (simp; omega) | simp_all) (by first | assumption | omega | (simp; omega) | simp_all) (by first | assumption | omega | (simp; omega) | simp_all)) ?_)
     rintro _ _ ⟨y13, rfl, hy13, rfl⟩
     refine ⟨fun _ => .inl trivial, ?_⟩
     refine zfw 12 20 rfl rfl (by kernel_rfl) ?_ ?_
     ·skip
      first
      | refine zv rfl (ze (i := 0) zX rfl (WeakL.refl _) rfl (zc (L := [_, _, _]) (by first | assumption | omega | (simp; omega) | simp_all) (by first | assumption | omega | (simp; omega) | simp_all) (by first | assumption | omega | (simp; omega) | simp_all)) ?_)
      | refine zv rfl (ze (i := 1) zX rfl (WeakL.refl _) rfl (zc (L := [_, _, _]) (by first | assumption | omega | (simp; omega) | simp_all) (by first | assumption | omega | (simp; omega) | simp_all) (by first | assumption | omega | (simp; omega) | simp_all)) ?_)
      | refine zv rfl (ze (i := 2) zX rfl (WeakL.refl _) rfl (zc (L := [_, _, _]) (by first | assumption | omega | (simp; omega) | simp_all) (by first | assumption | omega | (simp; omega) | simp_all) (by first | assumption | omega | (simp; omega) | simp_all)) ?_)
      | refine zv rfl (ze (i := 3) zX rfl (WeakL.refl _) rfl (zc (L := [_, _, _]) (by first | assumption | omega | (simp; omega) | simp_all) (by first | assumption | omega | (simp; omega) | simp_all) (by first | assumption | omega | (simp; omega) | simp_all)) ?_)
      rintro _ _ ⟨y16, rfl, hy16, rfl⟩
      refine ⟨fun _ => .inl trivial, ?_⟩
      refine zfw 15 20 rfl rfl (by kernel_rfl) ?_ ?_
      ·skip
       first
       | refine zv rfl (ze (i := 0) zX rfl (WeakL.refl _) rfl (zc (L := [_, _, _]) (by first | assumption | omega | (simp; omega) | simp_all) (by first | assumption | omega | (simp; omega) | simp_all) (by first | assumption | omega | (simp; omega) | simp_all)) ?_)
       | refine zv rfl (ze (i := 1) zX rfl (WeakL.refl _) rfl (zc (L := [_, _, _]) (by first | assumption | omega | (simp; omega) | simp_all) (by first | assumption | omega | (simp; omega) | simp_all) (by first | assumption | omega | (simp; omega) | simp_all)) ?_)
       | refine zv rfl (ze (i := 2) zX rfl (WeakL.refl _) rfl (zc (L := [_, _, _]) (by first | assumption | omega | (simp; omega) | simp_all) (by first | assumption | omega | (simp; omega) | simp_all) (by first | assumption | omega | (simp; omega) | simp_all)) ?_)
       | refine zv rfl (ze (i := 3) zX rfl (WeakL.refl _) rfl (zc (L := [_, _, _]) (by first | assumption | omega | (simp; omega) | simp_all) (by first | assumption | omega | (simp; omega) | simp_all) (by first | assumption | omega | (simp; omega) | simp_all)) ?_)
       rintro _ _ ⟨y19, rfl, hy19, rfl⟩
       refine ⟨fun _ => .inl trivial, ?_⟩
       refine zfw 18 20 rfl rfl (by kernel_rfl) ?_ ?_
       ·skip
        first
        | refine zv rfl (ze (i := 0) zX rfl (WeakL.refl _) rfl (zc (L := [_, _, _]) (by first | assumption | omega | (simp; omega) | simp_all) (by first | assumption | omega | (simp; omega) | simp_all) (by first | assumption | omega | (simp; omega) | simp_all)) ?_)
        | refine zv rfl (ze (i := 1) zX rfl (WeakL.refl _) rfl (zc (L := [_, _, _]) (by first | assumption | omega | (simp; omega) | simp_all) (by first | assumption | omega | (simp; omega) | simp_all) (by first | assumption | omega | (simp; omega) | simp_all)) ?_)
        | refine zv rfl (ze (i := 2) zX rfl (WeakL.refl _) rfl (zc (L := [_, _, _]) (by first | assumption | omega | (simp; omega) | simp_all) (by first | assumption | omega | (simp; omega) | simp_all) (by first | assumption | omega | (simp; omega) | simp_all)) ?_)
        | refine zv rfl (ze (i := 3) zX rfl (WeakL.refl _) rfl (zc (L := [_, _, _]) (by first | assumption | omega | (simp; omega) | simp_all) (by first | assumption | omega | (simp; omega) | simp_all) (by first | assumption | omega | (simp; omega) | simp_all)) ?_)
        rintro _ _ ⟨y22, rfl, hy22, rfl⟩
        refine ⟨fun _ => .inl trivial, ?_⟩
        refine ahp 19 rfl rfl (by kernel_rfl) (by kernel_rfl) (zaG (cs := [_, _, _, _, _, _]) zN ziC rfl) ?_
        refine ahe 20 rfl (by kernel_rfl) ?_
        refine zv rfl (zac zN rfl fun b3 => ?_)
        refine ⟨fun _ => .inl trivial, ?_⟩
        refine ahe 21 rfl (by kernel_rfl) ?_
        first
        | refine zae (zz (i := 0) zN rfl rfl rfl rfl rfl (Nat.le_of_ble_eq_true rfl) ?_)
        | refine zae (zz (i := 1) zN rfl rfl rfl rfl rfl (Nat.le_of_ble_eq_true rfl) ?_)
        | refine zae (zz (i := 2) zN rfl rfl rfl rfl rfl (Nat.le_of_ble_eq_true rfl) ?_)
        | refine zae (zz (i := 3) zN rfl rfl rfl rfl rfl (Nat.le_of_ble_eq_true rfl) ?_)
        refine ⟨fun _ => .inl trivial, ?_⟩
        refine ahz (by kernel_rfl) ?_
        refine ⟨(b3, ⟨(zb3.take y6.toNat).drop 0, y10, y13, y16, y19, y22⟩), ?_, ⟨rfl, trivial⟩, (by repeat (first | exact zq | refine zx rfl ?_ | refine zt rfl rfl ?_)), ?_⟩
        ·exact ⟨⟨by simp [zb3]; omega, by simp [zb3]; omega⟩, fun s hs => zea s (List.mem_of_mem_take (by simpa using hs))⟩
        ·repeat (first | exact List.Perm.nil | refine zK 0 rfl ?_ | refine zK 1 rfl ?_ | refine zK 2 rfl ?_ | refine zK 3 rfl ?_ | (refine zF 0 rfl ?hq ?_; (case hq => simp [zW, zj]; done)) | (refine zF 1 rfl ?hq ?_; (case hq => simp [zW, zj]; done)) | (refine zF 2 rfl ?hq ?_; (case hq => simp [zW, zj]; done)) | (refine zF 3 rfl ?hq ?_; (case hq => simp [zW, zj]; done)) | fail)
       ·skip
        refine zv rfl (zac zN rfl fun b3 => ?_)
        refine ⟨fun _ => .inl trivial, ?_⟩
        refine ahe 18 rfl (by kernel_rfl) ?_
        first
        | refine zv rfl (ze (i := 0) zX rfl (WeakL.refl _) rfl (zc (L := [_, _, _]) (by first | assumption | omega | (simp; omega) | simp_all) (by first | assumption | omega | (simp; omega) | simp_all) (by first | assumption | omega | (simp; omega) | simp_all)) ?_)
        | refine zv rfl (ze (i := 1) zX rfl (WeakL.refl _) rfl (zc (L := [_, _, _]) (by first | assumption | omega | (simp; omega) | simp_all) (by first | assumption | omega | (simp; omega) | simp_all) (by first | assumption | omega | (simp; omega) | simp_all)) ?_)
        | refine zv rfl (ze (i := 2) zX rfl (WeakL.refl _) rfl (zc (L := [_, _, _]) (by first | assumption | omega | (simp; omega) | simp_all) (by first | assumption | omega | (simp; omega) | simp_all) (by first | assumption | omega | (simp; omega) | simp_all)) ?_)
        | refine zv rfl (ze (i := 3) zX rfl (WeakL.refl _) rfl (zc (L := [_, _, _]) (by first | assumption | omega | (simp; omega) | simp_all) (by first | assumption | omega | (simp; omega) | simp_all) (by first | assumption | omega | (simp; omega) | simp_all)) ?_)
        rintro _ _ ⟨y22, rfl, hy22, rfl⟩
        refine ⟨fun _ => .inl trivial, ?_⟩
        refine ahp 19 rfl rfl (by kernel_rfl) (by kernel_rfl) (zaG (cs := [_, _, _, _, _, _]) zN ziC rfl) ?_
        refine ahe 21 rfl (by kernel_rfl) ?_
        first
        | refine zae (zz (i := 0) zN rfl rfl rfl rfl rfl (Nat.le_of_ble_eq_true rfl) ?_)
        | refine zae (zz (i := 1) zN rfl rfl rfl rfl rfl (Nat.le_of_ble_eq_true rfl) ?_)
        | refine zae (zz (i := 2) zN rfl rfl rfl rfl rfl (Nat.le_of_ble_eq_true rfl) ?_)
        | refine zae (zz (i := 3) zN rfl rfl rfl rfl rfl (Nat.le_of_ble_eq_true rfl) ?_)
        refine ⟨fun _ => .inl trivial, ?_⟩
        refine ahz (by kernel_rfl) ?_
        refine ⟨(b3, ⟨(zb3.take y6.toNat).drop 0, y10, y13, y16, y19, y22⟩), ?_, ⟨rfl, trivial⟩, (by repeat (first | exact zq | refine zx rfl ?_ | refine zt rfl rfl ?_)), ?_⟩
        ·exact ⟨⟨by simp [zb3]; omega, by simp [zb3]; omega⟩, fun s hs => zea s (List.mem_of_mem_take (by simpa using hs))⟩
        ·repeat (first | exact List.Perm.nil | refine zK 0 rfl ?_ | refine zK 1 rfl ?_ | refine zK 2 rfl ?_ | refine zK 3 rfl ?_ | (refine zF 0 rfl ?hq ?_; (case hq => simp [zW, zj]; done)) | (refine zF 1 rfl ?hq ?_; (case hq => simp [zW, zj]; done)) | (refine zF 2 rfl ?hq ?_; (case hq => simp [zW, zj]; done)) | (refine zF 3 rfl ?hq ?_; (case hq => simp [zW, zj]; done)) | fail)
      ·skip
       refine zv rfl (zac zN rfl fun b3 => ?_)
       refine ⟨fun _ => .inl trivial, ?_⟩
       refine ahe 15 rfl (by kernel_rfl) ?_
       first
       | refine zv rfl (ze (i := 0) zX rfl (WeakL.refl _) rfl (zc (L := [_, _, _]) (by first | assumption | omega | (simp; omega) | simp_all) (by first | assumption | omega | (simp; omega) | simp_all) (by first | assumption | omega | (simp; omega) | simp_all)) ?_)
       | refine zv rfl (ze (i := 1) zX rfl (WeakL.refl _) rfl (zc (L := [_, _, _]) (by first | assumption | omega | (simp; omega) | simp_all) (by first | assumption | omega | (simp; omega) | simp_all) (by first | assumption | omega | (simp; omega) | simp_all)) ?_)
       | refine zv rfl (ze (i := 2) zX rfl (WeakL.refl _) rfl (zc (L := [_, _, _]) (by first | assumption | omega | (simp; omega) | simp_all) (by first | assumption | omega | (simp; omega) | simp_all) (by first | assumption | omega | (simp; omega) | simp_all)) ?_)
       | refine zv rfl (ze (i := 3) zX rfl (WeakL.refl _) rfl (zc (L := [_, _, _]) (by first | assumption | omega | (simp; omega) | simp_all) (by first | assumption | omega | (simp; omega) | simp_all) (by first | assumption | omega | (simp; omega) | simp_all)) ?_)
       rintro _ _ ⟨y19, rfl, hy19, rfl⟩
       refine ⟨fun _ => .inl trivial, ?_⟩
       refine ahe 18 rfl (by kernel_rfl) ?_
       first
       | refine zv rfl (ze (i := 0) zX rfl (WeakL.refl _) rfl (zc (L := [_, _, _]) (by first | assumption | omega | (simp; omega) | simp_all) (by first | assumption | omega | (simp; omega) | simp_all) (by first | assumption | omega | (simp; omega) | simp_all)) ?_)
       | refine zv rfl (ze (i := 1) zX rfl (WeakL.refl _) rfl (zc (L := [_, _, _]) (by first | assumption | omega | (simp; omega) | simp_all) (by first | assumption | omega | (simp; omega) | simp_all) (by first | assumption | omega | (simp; omega) | simp_all)) ?_)
       | refine zv rfl (ze (i := 2) zX rfl (WeakL.refl _) rfl (zc (L := [_, _, _]) (by first | assumption | omega | (simp; omega) | simp_all) (by first | assumption | omega | (simp; omega) | simp_all) (by first | assumption | omega | (simp; omega) | simp_all)) ?_)
       | refine zv rfl (ze (i := 3) zX rfl (WeakL.refl _) rfl (zc (L := [_, _, _]) (by first | assumption | omega | (simp; omega) | simp_all) (by first | assumption | omega | (simp; omega) | simp_all) (by first | assumption | omega | (simp; omega) | simp_all)) ?_)
       rintro _ _ ⟨y22, rfl, hy22, rfl⟩
       refine ⟨fun _ => .inl trivial, ?_⟩
       refine ahp 19 rfl rfl (by kernel_rfl) (by kernel_rfl) (zaG (cs := [_, _, _, _, _, _]) zN ziC rfl) ?_
       refine ahe 21 rfl (by kernel_rfl) ?_
       first
       | refine zae (zz (i := 0) zN rfl rfl rfl rfl rfl (Nat.le_of_ble_eq_true rfl) ?_)
       | refine zae (zz (i := 1) zN rfl rfl rfl rfl rfl (Nat.le_of_ble_eq_true rfl) ?_)
       | refine zae (zz (i := 2) zN rfl rfl rfl rfl rfl (Nat.le_of_ble_eq_true rfl) ?_)
       | refine zae (zz (i := 3) zN rfl rfl rfl rfl rfl (Nat.le_of_ble_eq_true rfl) ?_)
       refine ⟨fun _ => .inl trivial, ?_⟩
       refine ahz (by kernel_rfl) ?_
       refine ⟨(b3, ⟨(zb3.take y6.toNat).drop 0, y10, y13, y16, y19, y22⟩), ?_, ⟨rfl, trivial⟩, (by repeat (first | exact zq | refine zx rfl ?_ | refine zt rfl rfl ?_)), ?_⟩
       ·exact ⟨⟨by simp [zb3]; omega, by simp [zb3]; omega⟩, fun s hs => zea s (List.mem_of_mem_take (by simpa using hs))⟩
       ·repeat (first | exact List.Perm.nil | refine zK 0 rfl ?_ | refine zK 1 rfl ?_ | refine zK 2 rfl ?_ | refine zK 3 rfl ?_ | (refine zF 0 rfl ?hq ?_; (case hq => simp [zW, zj]; done)) | (refine zF 1 rfl ?hq ?_; (case hq => simp [zW, zj]; done)) | (refine zF 2 rfl ?hq ?_; (case hq => simp [zW, zj]; done)) | (refine zF 3 rfl ?hq ?_; (case hq => simp [zW, zj]; done)) | fail)
     ·skip
      refine zv rfl (zac zN rfl fun b3 => ?_)
      refine ⟨fun _ => .inl trivial, ?_⟩
      refine ahe 12 rfl (by kernel_rfl) ?_
      first
      | refine zv rfl (ze (i := 0) zX rfl (WeakL.refl _) rfl (zc (L := [_, _, _]) (by first | assumption | omega | (simp; omega) | simp_all) (by first | assumption | omega | (simp; omega) | simp_all) (by first | assumption | omega | (simp; omega) | simp_all)) ?_)
      | refine zv rfl (ze (i := 1) zX rfl (WeakL.refl _) rfl (zc (L := [_, _, _]) (by first | assumption | omega | (simp; omega) | simp_all) (by first | assumption | omega | (simp; omega) | simp_all) (by first | assumption | omega | (simp; omega) | simp_all)) ?_)
      | refine zv rfl (ze (i := 2) zX rfl (WeakL.refl _) rfl (zc (L := [_, _, _]) (by first | assumption | omega | (simp; omega) | simp_all) (by first | assumption | omega | (simp; omega) | simp_all) (by first | assumption | omega | (simp; omega) | simp_all)) ?_)
      | refine zv rfl (ze (i := 3) zX rfl (WeakL.refl _) rfl (zc (L := [_, _, _]) (by first | assumption | omega | (simp; omega) | simp_all) (by first | assumption | omega | (simp; omega) | simp_all) (by first | assumption | omega | (simp; omega) | simp_all)) ?_)
      rintro _ _ ⟨y16, rfl, hy16, rfl⟩
      refine ⟨fun _ => .inl trivial, ?_⟩
      refine ahe 15 rfl (by kernel_rfl) ?_
      first
      | refine zv rfl (ze (i := 0) zX rfl (WeakL.refl _) rfl (zc (L := [_, _, _]) (by first | assumption | omega | (simp; omega) | simp_all) (by first | assumption | omega | (simp; omega) | simp_all) (by first | assumption | omega | (simp; omega) | simp_all)) ?_)
      | refine zv rfl (ze (i := 1) zX rfl (WeakL.refl _) rfl (zc (L := [_, _, _]) (by first | assumption | omega | (simp; omega) | simp_all) (by first | assumption | omega | (simp; omega) | simp_all) (by first | assumption | omega | (simp; omega) | simp_all)) ?_)
      | refine zv rfl (ze (i := 2) zX rfl (WeakL.refl _) rfl (zc (L := [_, _, _]) (by first | assumption | omega | (simp; omega) | simp_all) (by first | assumption | omega | (simp; omega) | simp_all) (by first | assumption | omega | (simp; omega) | simp_all)) ?_)
      | refine zv rfl (ze (i := 3) zX rfl (WeakL.refl _) rfl (zc (L := [_, _, _]) (by first | assumption | omega | (simp; omega) | simp_all) (by first | assumption | omega | (simp; omega) | simp_all) (by first | assumption | omega | (simp; omega) | simp_all)) ?_)
      rintro _ _ ⟨y19, rfl, hy19, rfl⟩
      refine ⟨fun _ => .inl trivial, ?_⟩
      refine ahe 18 rfl (by kernel_rfl) ?_
      first
      | refine zv rfl (ze (i := 0) zX rfl (WeakL.refl _) rfl (zc (L := [_, _, _]) (by first | assumption | omega | (simp; omega) | simp_all) (by first | assumption | omega | (simp; omega) | simp_all) (by first | assumption | omega | (simp; omega) | simp_all)) ?_)
      | refine zv rfl (ze (i := 1) zX rfl (WeakL.refl _) rfl (zc (L := [_, _, _]) (by first | assumption | omega | (simp; omega) | simp_all) (by first | assumption | omega | (simp; omega) | simp_all) (by first | assumption | omega | (simp; omega) | simp_all)) ?_)
      | refine zv rfl (ze (i := 2) zX rfl (WeakL.refl _) rfl (zc (L := [_, _, _]) (by first | assumption | omega | (simp; omega) | simp_all) (by first | assumption | omega | (simp; omega) | simp_all) (by first | assumption | omega | (simp; omega) | simp_all)) ?_)
      | refine zv rfl (ze (i := 3) zX rfl (WeakL.refl _) rfl (zc (L := [_, _, _]) (by first | assumption | omega | (simp; omega) | simp_all) (by first | assumption | omega | (simp; omega) | simp_all) (by first | assumption | omega | (simp; omega) | simp_all)) ?_)
      rintro _ _ ⟨y22, rfl, hy22, rfl⟩
      refine ⟨fun _ => .inl trivial, ?_⟩
      refine ahp 19 rfl rfl (by kernel_rfl) (by kernel_rfl) (zaG (cs := [_, _, _, _, _, _]) zN ziC rfl) ?_
      refine ahe 21 rfl (by kernel_rfl) ?_
      first
      | refine zae (zz (i := 0) zN rfl rfl rfl rfl rfl (Nat.le_of_ble_eq_true rfl) ?_)
      | refine zae (zz (i := 1) zN rfl rfl rfl rfl rfl (Nat.le_of_ble_eq_true rfl) ?_)
      | refine zae (zz (i := 2) zN rfl rfl rfl rfl rfl (Nat.le_of_ble_eq_true rfl) ?_)
      | refine zae (zz (i := 3) zN rfl rfl rfl rfl rfl (Nat.le_of_ble_eq_true rfl) ?_)
      refine ⟨fun _ => .inl trivial, ?_⟩
      refine ahz (by kernel_rfl) ?_
      refine ⟨(b3, ⟨(zb3.take y6.toNat).drop 0, y10, y13, y16, y19, y22⟩), ?_, ⟨rfl, trivial⟩, (by repeat (first | exact zq | refine zx rfl ?_ | refine zt rfl rfl ?_)), ?_⟩
      ·exact ⟨⟨by simp [zb3]; omega, by simp [zb3]; omega⟩, fun s hs => zea s (List.mem_of_mem_take (by simpa using hs))⟩
      ·repeat (first | exact List.Perm.nil | refine zK 0 rfl ?_ | refine zK 1 rfl ?_ | refine zK 2 rfl ?_ | refine zK 3 rfl ?_ | (refine zF 0 rfl ?hq ?_; (case hq => simp [zW, zj]; done)) | (refine zF 1 rfl ?hq ?_; (case hq => simp [zW, zj]; done)) | (refine zF 2 rfl ?hq ?_; (case hq => simp [zW, zj]; done)) | (refine zF 3 rfl ?hq ?_; (case hq => simp [zW, zj]; done)) | fail)
    ·skip
     refine zv rfl (zac zN rfl fun b3 => ?_)
     refine ⟨fun _ => .inl trivial, ?_⟩
     refine ahe 9 rfl (by kernel_rfl) ?_
     first
     | refine zv rfl (ze (i := 0) zX rfl (WeakL.refl _) rfl (zc (L := [_, _, _]) (by first | assumption | omega | (simp; omega) | simp_all) (by first | assumption | omega | (simp; omega) | simp_all) (by first | assumption | omega | (simp; omega) | simp_all)) ?_)
     | refine zv rfl (ze (i := 1) zX rfl (WeakL.refl _) rfl (zc (L := [_, _, _]) (by first | assumption | omega | (simp; omega) | simp_all) (by first | assumption | omega | (simp; omega) | simp_all) (by first | assumption | omega | (simp; omega) | simp_all)) ?_)
     | refine zv rfl (ze (i := 2) zX rfl (WeakL.refl _) rfl (zc (L := [_, _, _]) (by first | assumption | omega | (simp; omega) | simp_all) (by first | assumption | omega | (simp; omega) | simp_all) (by first | assumption | omega | (simp; omega) | simp_all)) ?_)
     | refine zv rfl (ze (i := 3) zX rfl (WeakL.refl _) rfl (zc (L := [_, _, _]) (by first | assumption | omega | (simp; omega) | simp_all) (by first | assumption | omega | (simp; omega) | simp_all) (by first | assumption | omega | (simp; omega) | simp_all)) ?_)
     rintro _ _ ⟨y13, rfl, hy13, rfl⟩
     refine ⟨fun _ => .inl trivial, ?_⟩
     refine ahe 12 rfl (by kernel_rfl) ?_
     first
     | refine zv rfl (ze (i := 0) zX rfl (WeakL.refl _) rfl (zc (L := [_, _, _]) (by first | assumption | omega | (simp; omega) | simp_all) (by first | assumption | omega | (simp; omega) | simp_all) (by first | assumption | omega | (simp; omega) | simp_all)) ?_)
     | refine zv rfl (ze (i := 1) zX rfl (WeakL.refl _) rfl (zc (L := [_, _, _]) (by first | assumption | omega | (simp; omega) | simp_all) (by first | assumption | omega | (simp; omega) | simp_all) (by first | assumption | omega | (simp; omega) | simp_all)) ?_)
     | refine zv rfl (ze (i := 2) zX rfl (WeakL.refl _) rfl (zc (L := [_, _, _]) (by first | assumption | omega | (simp; omega) | simp_all) (by first | assumption | omega | (simp; omega) | simp_all) (by first | assumption | omega | (simp; omega) | simp_all)) ?_)
     | refine zv rfl (ze (i := 3) zX rfl (WeakL.refl _) rfl (zc (L := [_, _, _]) (by first | assumption | omega | (simp; omega) | simp_all) (by first | assumption | omega | (simp; omega) | simp_all) (by first | assumption | omega | (simp; omega) | simp_all)) ?_)
     rintro _ _ ⟨y16, rfl, hy16, rfl⟩
     refine ⟨fun _ => .inl trivial, ?_⟩
     refine ahe 15 rfl (by kernel_rfl) ?_
     first
     | refine zv rfl (ze (i := 0) zX rfl (WeakL.refl _) rfl (zc (L := [_, _, _]) (by first | assumption | omega | (simp; omega) | simp_all) (by first | assumption | omega | (simp; omega) | simp_all) (by first | assumption | omega | (simp; omega) | simp_all)) ?_)
     | refine zv rfl (ze (i := 1) zX rfl (WeakL.refl _) rfl (zc (L := [_, _, _]) (by first | assumption | omega | (simp; omega) | simp_all) (by first | assumption | omega | (simp; omega) | simp_all) (by first | assumption | omega | (simp; omega) | simp_all)) ?_)
     | refine zv rfl (ze (i := 2) zX rfl (WeakL.refl _) rfl (zc (L := [_, _, _]) (by first | assumption | omega | (simp; omega) | simp_all) (by first | assumption | omega | (simp; omega) | simp_all) (by first | assumption | omega | (simp; omega) | simp_all)) ?_)
     | refine zv rfl (ze (i := 3) zX rfl (WeakL.refl _) rfl (zc (L := [_, _, _]) (by first | assumption | omega | (simp; omega) | simp_all) (by first | assumption | omega | (simp; omega) | simp_all) (by first | assumption | omega | (simp; omega) | simp_all)) ?_)
     rintro _ _ ⟨y19, rfl, hy19, rfl⟩
     refine ⟨fun _ => .inl trivial, ?_⟩
     refine ahe 18 rfl (by kernel_rfl) ?_
     first
     | refine zv rfl (ze (i := 0) zX rfl (WeakL.refl _) rfl (zc (L := [_, _, _]) (by first | assumption | omega | (simp; omega) | simp_all) (by first | assumption | omega | (simp; omega) | simp_all) (by first | assumption | omega | (simp; omega) | simp_all)) ?_)
     | refine zv rfl (ze (i := 1) zX rfl (WeakL.refl _) rfl (zc (L := [_, _, _]) (by first | assumption | omega | (simp; omega) | simp_all) (by first | assumption | omega | (simp; omega) | simp_all) (by first | assumption | omega | (simp; omega) | simp_all)) ?_)
     | refine zv rfl (ze (i := 2) zX rfl (WeakL.refl _) rfl (zc (L := [_, _, _]) (by first | assumption | omega | (simp; omega) | simp_all) (by first | assumption | omega | (simp; omega) | simp_all) (by first | assumption | omega | (simp; omega) | simp_all)) ?_)
     | refine zv rfl (ze (i := 3) zX rfl (WeakL.refl _) rfl (zc (L := [_, _, _]) (by first | assumption | omega | (simp; omega) | simp_all) (by first | assumption | omega | (simp; omega) | simp_all) (by first | assumption | omega | (simp; omega) | simp_all)) ?_)
     rintro _ _ ⟨y22, rfl, hy22, rfl⟩
     refine ⟨fun _ => .inl trivial, ?_⟩
     refine ahp 19 rfl rfl (by kernel_rfl) (by kernel_rfl) (zaG (cs := [_, _, _, _, _, _]) zN ziC rfl) ?_
     refine ahe 21 rfl (by kernel_rfl) ?_
     first
     | refine zae (zz (i := 0) zN rfl rfl rfl rfl rfl (Nat.le_of_ble_eq_true rfl) ?_)
     | refine zae (zz (i := 1) zN rfl rfl rfl rfl rfl (Nat.le_of_ble_eq_true rfl) ?_)
     | refine zae (zz (i := 2) zN rfl rfl rfl rfl rfl (Nat.le_of_ble_eq_true rfl) ?_)
     | refine zae (zz (i := 3) zN rfl rfl rfl rfl rfl (Nat.le_of_ble_eq_true rfl) ?_)
     refine ⟨fun _ => .inl trivial, ?_⟩
     refine ahz (by kernel_rfl) ?_
     refine ⟨(b3, ⟨(zb3.take y6.toNat).drop 0, y10, y13, y16, y19, y22⟩), ?_, ⟨rfl, trivial⟩, (by repeat (first | exact zq | refine zx rfl ?_ | refine zt rfl rfl ?_)), ?_⟩
     ·exact ⟨⟨by simp [zb3]; omega, by simp [zb3]; omega⟩, fun s hs => zea s (List.mem_of_mem_take (by simpa using hs))⟩
     ·repeat (first | exact List.Perm.nil | refine zK 0 rfl ?_ | refine zK 1 rfl ?_ | refine zK 2 rfl ?_ | refine zK 3 rfl ?_ | (refine zF 0 rfl ?hq ?_; (case hq => simp [zW, zj]; done)) | (refine zF 1 rfl ?hq ?_; (case hq => simp [zW, zj]; done)) | (refine zF 2 rfl ?hq ?_; (case hq => simp [zW, zj]; done)) | (refine zF 3 rfl ?hq ?_; (case hq => simp [zW, zj]; done)) | fail)
   ·skip
    refine zv rfl (zac zN rfl fun b3 => ?_)
    refine ⟨fun _ => .inl trivial, ?_⟩
    refine ahe 6 rfl (by kernel_rfl) ?_
    first
    | refine zv rfl (ze (i := 0) zX rfl (WeakL.refl _) rfl (zc (L := [_, _, _]) (by first | assumption | omega | (simp; omega) | simp_all) (by first | assumption | omega | (simp; omega) | simp_all) (by first | assumption | omega | (simp; omega) | simp_all)) ?_)
    | refine zv rfl (ze (i := 1) zX rfl (WeakL.refl _) rfl (zc (L := [_, _, _]) (by first | assumption | omega | (simp; omega) | simp_all) (by first | assumption | omega | (simp; omega) | simp_all) (by first | assumption | omega | (simp; omega) | simp_all)) ?_)
    | refine zv rfl (ze (i := 2) zX rfl (WeakL.refl _) rfl (zc (L := [_, _, _]) (by first | assumption | omega | (simp; omega) | simp_all) (by first | assumption | omega | (simp; omega) | simp_all) (by first | assumption | omega | (simp; omega) | simp_all)) ?_)
    | refine zv rfl (ze (i := 3) zX rfl (WeakL.refl _) rfl (zc (L := [_, _, _]) (by first | assumption | omega | (simp; omega) | simp_all) (by first | assumption | omega | (simp; omega) | simp_all) (by first | assumption | omega | (simp; omega) | simp_all)) ?_)
    rintro _ _ ⟨y10, rfl, hy10, rfl⟩
    refine ⟨fun _ => .inl trivial, ?_⟩
    refine ahe 9 rfl (by kernel_rfl) ?_
    first
    | refine zv rfl (ze (i := 0) zX rfl (WeakL.refl _) rfl (zc (L := [_, _, _]) (by first | assumption | omega | (simp; omega) | simp_all) (by first | assumption | omega | (simp; omega) | simp_all) (by first | assumption | omega | (simp; omega) | simp_all)) ?_)
    | refine zv rfl (ze (i := 1) zX rfl (WeakL.refl _) rfl (zc (L := [_, _, _]) (by first | assumption | omega | (simp; omega) | simp_all) (by first | assumption | omega | (simp; omega) | simp_all) (by first | assumption | omega | (simp; omega) | simp_all)) ?_)
    | refine zv rfl (ze (i := 2) zX rfl (WeakL.refl _) rfl (zc (L := [_, _, _]) (by first | assumption | omega | (simp; omega) | simp_all) (by first | assumption | omega | (simp; omega) | simp_all) (by first | assumption | omega | (simp; omega) | simp_all)) ?_)
    | refine zv rfl (ze (i := 3) zX rfl (WeakL.refl _) rfl (zc (L := [_, _, _]) (by first | assumption | omega | (simp; omega) | simp_all) (by first | assumption | omega | (simp; omega) | simp_all) (by first | assumption | omega | (simp; omega) | simp_all)) ?_)
    rintro _ _ ⟨y13, rfl, hy13, rfl⟩
    refine ⟨fun _ => .inl trivial, ?_⟩
    refine ahe 12 rfl (by kernel_rfl) ?_
    first
    | refine zv rfl (ze (i := 0) zX rfl (WeakL.refl _) rfl (zc (L := [_, _, _]) (by first | assumption | omega | (simp; omega) | simp_all) (by first | assumption | omega | (simp; omega) | simp_all) (by first | assumption | omega | (simp; omega) | simp_all)) ?_)
    | refine zv rfl (ze (i := 1) zX rfl (WeakL.refl _) rfl (zc (L := [_, _, _]) (by first | assumption | omega | (simp; omega) | simp_all) (by first | assumption | omega | (simp; omega) | simp_all) (by first | assumption | omega | (simp; omega) | simp_all)) ?_)
    | refine zv rfl (ze (i := 2) zX rfl (WeakL.refl _) rfl (zc (L := [_, _, _]) (by first | assumption | omega | (simp; omega) | simp_all) (by first | assumption | omega | (simp; omega) | simp_all) (by first | assumption | omega | (simp; omega) | simp_all)) ?_)
    | refine zv rfl (ze (i := 3) zX rfl (WeakL.refl _) rfl (zc (L := [_, _, _]) (by first | assumption | omega | (simp; omega) | simp_all) (by first | assumption | omega | (simp; omega) | simp_all) (by first | assumption | omega | (simp; omega) | simp_all)) ?_)
    rintro _ _ ⟨y16, rfl, hy16, rfl⟩
    refine ⟨fun _ => .inl trivial, ?_⟩
    refine ahe 15 rfl (by kernel_rfl) ?_
    first
    | refine zv rfl (ze (i := 0) zX rfl (WeakL.refl _) rfl (zc (L := [_, _, _]) (by first | assumption | omega | (simp; omega) | simp_all) (by first | assumption | omega | (simp; omega) | simp_all) (by first | assumption | omega | (simp; omega) | simp_all)) ?_)
    | refine zv rfl (ze (i := 1) zX rfl (WeakL.refl _) rfl (zc (L := [_, _, _]) (by first | assumption | omega | (simp; omega) | simp_all) (by first | assumption | omega | (simp; omega) | simp_all) (by first | assumption | omega | (simp; omega) | simp_all)) ?_)
    | refine zv rfl (ze (i := 2) zX rfl (WeakL.refl _) rfl (zc (L := [_, _, _]) (by first | assumption | omega | (simp; omega) | simp_all) (by first | assumption | omega | (simp; omega) | simp_all) (by first | assumption | omega | (simp; omega) | simp_all)) ?_)
    | refine zv rfl (ze (i := 3) zX rfl (WeakL.refl _) rfl (zc (L := [_, _, _]) (by first | assumption | omega | (simp; omega) | simp_all) (by first | assumption | omega | (simp; omega) | simp_all) (by first | assumption | omega | (simp; omega) | simp_all)) ?_)
    rintro _ _ ⟨y19, rfl, hy19, rfl⟩
    refine ⟨fun _ => .inl trivial, ?_⟩
    refine ahe 18 rfl (by kernel_rfl) ?_
    first
    | refine zv rfl (ze (i := 0) zX rfl (WeakL.refl _) rfl (zc (L := [_, _, _]) (by first | assumption | omega | (simp; omega) | simp_all) (by first | assumption | omega | (simp; omega) | simp_all) (by first | assumption | omega | (simp; omega) | simp_all)) ?_)
    | refine zv rfl (ze (i := 1) zX rfl (WeakL.refl _) rfl (zc (L := [_, _, _]) (by first | assumption | omega | (simp; omega) | simp_all) (by first | assumption | omega | (simp; omega) | simp_all) (by first | assumption | omega | (simp; omega) | simp_all)) ?_)
    | refine zv rfl (ze (i := 2) zX rfl (WeakL.refl _) rfl (zc (L := [_, _, _]) (by first | assumption | omega | (simp; omega) | simp_all) (by first | assumption | omega | (simp; omega) | simp_all) (by first | assumption | omega | (simp; omega) | simp_all)) ?_)
    | refine zv rfl (ze (i := 3) zX rfl (WeakL.refl _) rfl (zc (L := [_, _, _]) (by first | assumption | omega | (simp; omega) | simp_all) (by first | assumption | omega | (simp; omega) | simp_all) (by first | assumption | omega | (simp; omega) | simp_all)) ?_)
    rintro _ _ ⟨y22, rfl, hy22, rfl⟩
    refine ⟨fun _ => .inl trivial, ?_⟩
    refine ahp 19 rfl rfl (by kernel_rfl) (by kernel_rfl) (zaG (cs := [_, _, _, _, _, _]) zN ziC rfl) ?_
    refine ahe 21 rfl (by kernel_rfl) ?_
    first
    | refine zae (zz (i := 0) zN rfl rfl rfl rfl rfl (Nat.le_of_ble_eq_true rfl) ?_)
    | refine zae (zz (i := 1) zN rfl rfl rfl rfl rfl (Nat.le_of_ble_eq_true rfl) ?_)
    | refine zae (zz (i := 2) zN rfl rfl rfl rfl rfl (Nat.le_of_ble_eq_true rfl) ?_)
    | refine zae (zz (i := 3) zN rfl rfl rfl rfl rfl (Nat.le_of_ble_eq_true rfl) ?_)
    refine ⟨fun _ => .inl trivial, ?_⟩
    refine ahz (by kernel_rfl) ?_
    refine ⟨(b3, ⟨(zb3.take y6.toNat).drop 0, y10, y13, y16, y19, y22⟩), ?_, ⟨rfl, trivial⟩, (by repeat (first | exact zq | refine zx rfl ?_ | refine zt rfl rfl ?_)), ?_⟩
    ·exact ⟨⟨by simp [zb3]; omega, by simp [zb3]; omega⟩, fun s hs => zea s (List.mem_of_mem_take (by simpa using hs))⟩
    ·repeat (first | exact List.Perm.nil | refine zK 0 rfl ?_ | refine zK 1 rfl ?_ | refine zK 2 rfl ?_ | refine zK 3 rfl ?_ | (refine zF 0 rfl ?hq ?_; (case hq => simp [zW, zj]; done)) | (refine zF 1 rfl ?hq ?_; (case hq => simp [zW, zj]; done)) | (refine zF 2 rfl ?hq ?_; (case hq => simp [zW, zj]; done)) | (refine zF 3 rfl ?hq ?_; (case hq => simp [zW, zj]; done)) | fail)
  ·skip
   refine zv rfl (zac zN rfl fun b3 => ?_)
   refine ⟨fun _ => .inl trivial, ?_⟩
   refine ahe 2 rfl (by kernel_rfl) ?_
   first
   | refine zv rfl (ze (i := 0) zdw rfl (WeakL.refl _) rfl (z6 (by first | assumption | omega | (simp; omega) | simp_all) (by first | assumption | omega | (simp; omega) | simp_all) (by first | assumption | omega | (simp; omega) | simp_all) (by first | assumption | omega | (simp; omega) | simp_all)) ?_)
   | refine zv rfl (ze (i := 1) zdw rfl (WeakL.refl _) rfl (z6 (by first | assumption | omega | (simp; omega) | simp_all) (by first | assumption | omega | (simp; omega) | simp_all) (by first | assumption | omega | (simp; omega) | simp_all) (by first | assumption | omega | (simp; omega) | simp_all)) ?_)
   | refine zv rfl (ze (i := 2) zdw rfl (WeakL.refl _) rfl (z6 (by first | assumption | omega | (simp; omega) | simp_all) (by first | assumption | omega | (simp; omega) | simp_all) (by first | assumption | omega | (simp; omega) | simp_all) (by first | assumption | omega | (simp; omega) | simp_all)) ?_)
   | refine zv rfl (ze (i := 3) zdw rfl (WeakL.refl _) rfl (z6 (by first | assumption | omega | (simp; omega) | simp_all) (by first | assumption | omega | (simp; omega) | simp_all) (by first | assumption | omega | (simp; omega) | simp_all) (by first | assumption | omega | (simp; omega) | simp_all)) ?_)
   rintro _ _ ⟨y6, rfl, hy6, rfl⟩
   refine ⟨fun _ => .inl trivial, ?_⟩
   refine ahp 3 rfl rfl (by kernel_rfl) (by kernel_rfl) (zhv (es := zb3) (f := HVal.str) (h := y6.toNat) zQ ty9 rfl rfl ⟨_, _, rfl, by omega⟩ (by omega) (by simp [zb3]; omega)) ?_
   refine ahe 6 rfl (by kernel_rfl) ?_
   first
   | refine zv rfl (ze (i := 0) zX rfl (WeakL.refl _) rfl (zc (L := [_, _, _]) (by first | assumption | omega | (simp; omega) | simp_all) (by first | assumption | omega | (simp; omega) | simp_all) (by first | assumption | omega | (simp; omega) | simp_all)) ?_)
   | refine zv rfl (ze (i := 1) zX rfl (WeakL.refl _) rfl (zc (L := [_, _, _]) (by first | assumption | omega | (simp; omega) | simp_all) (by first | assumption | omega | (simp; omega) | simp_all) (by first | assumption | omega | (simp; omega) | simp_all)) ?_)
   | refine zv rfl (ze (i := 2) zX rfl (WeakL.refl _) rfl (zc (L := [_, _, _]) (by first | assumption | omega | (simp; omega) | simp_all) (by first | assumption | omega | (simp; omega) | simp_all) (by first | assumption | omega | (simp; omega) | simp_all)) ?_)
   | refine zv rfl (ze (i := 3) zX rfl (WeakL.refl _) rfl (zc (L := [_, _, _]) (by first | assumption | omega | (simp; omega) | simp_all) (by first | assumption | omega | (simp; omega) | simp_all) (by first | assumption | omega | (simp; omega) | simp_all)) ?_)
   rintro _ _ ⟨y10, rfl, hy10, rfl⟩
   refine ⟨fun _ => .inl trivial, ?_⟩
   refine ahe 9 rfl (by kernel_rfl) ?_
   first
   | refine zv rfl (ze (i := 0) zX rfl (WeakL.refl _) rfl (zc (L := [_, _, _]) (by first | assumption | omega | (simp; omega) | simp_all) (by first | assumption | omega | (simp; omega) | simp_all) (by first | assumption | omega | (simp; omega) | simp_all)) ?_)
   | refine zv rfl (ze (i := 1) zX rfl (WeakL.refl _) rfl (zc (L := [_, _, _]) (by first | assumption | omega | (simp; omega) | simp_all) (by first | assumption | omega | (simp; omega) | simp_all) (by first | assumption | omega | (simp; omega) | simp_all)) ?_)
   | refine zv rfl (ze (i := 2) zX rfl (WeakL.refl _) rfl (zc (L := [_, _, _]) (by first | assumption | omega | (simp; omega) | simp_all) (by first | assumption | omega | (simp; omega) | simp_all) (by first | assumption | omega | (simp; omega) | simp_all)) ?_)
   | refine zv rfl (ze (i := 3) zX rfl (WeakL.refl _) rfl (zc (L := [_, _, _]) (by first | assumption | omega | (simp; omega) | simp_all) (by first | assumption | omega | (simp; omega) | simp_all) (by first | assumption | omega | (simp; omega) | simp_all)) ?_)
   rintro _ _ ⟨y13, rfl, hy13, rfl⟩
   refine ⟨fun _ => .inl trivial, ?_⟩
   refine ahe 12 rfl (by kernel_rfl) ?_
   first
   | refine zv rfl (ze (i := 0) zX rfl (WeakL.refl _) rfl (zc (L := [_, _, _]) (by first | assumption | omega | (simp; omega) | simp_all) (by first | assumption | omega | (simp; omega) | simp_all) (by first | assumption | omega | (simp; omega) | simp_all)) ?_)
   | refine zv rfl (ze (i := 1) zX rfl (WeakL.refl _) rfl (zc (L := [_, _, _]) (by first | assumption | omega | (simp; omega) | simp_all) (by first | assumption | omega | (simp; omega) | simp_all) (by first | assumption | omega | (simp; omega) | simp_all)) ?_)
   | refine zv rfl (ze (i := 2) zX rfl (WeakL.refl _) rfl (zc (L := [_, _, _]) (by first | assumption | omega | (simp; omega) | simp_all) (by first | assumption | omega | (simp; omega) | simp_all) (by first | assumption | omega | (simp; omega) | simp_all)) ?_)
   | refine zv rfl (ze (i := 3) zX rfl (WeakL.refl _) rfl (zc (L := [_, _, _]) (by first | assumption | omega | (simp; omega) | simp_all) (by first | assumption | omega | (simp; omega) | simp_all) (by first | assumption | omega | (simp; omega) | simp_all)) ?_)
   rintro _ _ ⟨y16, rfl, hy16, rfl⟩
   refine ⟨fun _ => .inl trivial, ?_⟩
   refine ahe 15 rfl (by kernel_rfl) ?_
   first
   | refine zv rfl (ze (i := 0) zX rfl (WeakL.refl _) rfl (zc (L := [_, _, _]) (by first | assumption | omega | (simp; omega) | simp_all) (by first | assumption | omega | (simp; omega) | simp_all) (by first | assumption | omega | (simp; omega) | simp_all)) ?_)
   | refine zv rfl (ze (i := 1) zX rfl (WeakL.refl _) rfl (zc (L := [_, _, _]) (by first | assumption | omega | (simp; omega) | simp_all) (by first | assumption | omega | (simp; omega) | simp_all) (by first | assumption | omega | (simp; omega) | simp_all)) ?_)
   | refine zv rfl (ze (i := 2) zX rfl (WeakL.refl _) rfl (zc (L := [_, _, _]) (by first | assumption | omega | (simp; omega) | simp_all) (by first | assumption | omega | (simp; omega) | simp_all) (by first | assumption | omega | (simp; omega) | simp_all)) ?_)
   | refine zv rfl (ze (i := 3) zX rfl (WeakL.refl _) rfl (zc (L := [_, _, _]) (by first | assumption | omega | (simp; omega) | simp_all) (by first | assumption | omega | (simp; omega) | simp_all) (by first | assumption | omega | (simp; omega) | simp_all)) ?_)
   rintro _ _ ⟨y19, rfl, hy19, rfl⟩
   refine ⟨fun _ => .inl trivial, ?_⟩
   refine ahe 18 rfl (by kernel_rfl) ?_
   first
   | refine zv rfl (ze (i := 0) zX rfl (WeakL.refl _) rfl (zc (L := [_, _, _]) (by first | assumption | omega | (simp; omega) | simp_all) (by first | assumption | omega | (simp; omega) | simp_all) (by first | assumption | omega | (simp; omega) | simp_all)) ?_)
   | refine zv rfl (ze (i := 1) zX rfl (WeakL.refl _) rfl (zc (L := [_, _, _]) (by first | assumption | omega | (simp; omega) | simp_all) (by first | assumption | omega | (simp; omega) | simp_all) (by first | assumption | omega | (simp; omega) | simp_all)) ?_)
   | refine zv rfl (ze (i := 2) zX rfl (WeakL.refl _) rfl (zc (L := [_, _, _]) (by first | assumption | omega | (simp; omega) | simp_all) (by first | assumption | omega | (simp; omega) | simp_all) (by first | assumption | omega | (simp; omega) | simp_all)) ?_)
   | refine zv rfl (ze (i := 3) zX rfl (WeakL.refl _) rfl (zc (L := [_, _, _]) (by first | assumption | omega | (simp; omega) | simp_all) (by first | assumption | omega | (simp; omega) | simp_all) (by first | assumption | omega | (simp; omega) | simp_all)) ?_)
   rintro _ _ ⟨y22, rfl, hy22, rfl⟩
   refine ⟨fun _ => .inl trivial, ?_⟩
   refine ahp 19 rfl rfl (by kernel_rfl) (by kernel_rfl) (zaG (cs := [_, _, _, _, _, _]) zN ziC rfl) ?_
   refine ahe 21 rfl (by kernel_rfl) ?_
   first
   | refine zae (zz (i := 0) zN rfl rfl rfl rfl rfl (Nat.le_of_ble_eq_true rfl) ?_)
   | refine zae (zz (i := 1) zN rfl rfl rfl rfl rfl (Nat.le_of_ble_eq_true rfl) ?_)
   | refine zae (zz (i := 2) zN rfl rfl rfl rfl rfl (Nat.le_of_ble_eq_true rfl) ?_)
   | refine zae (zz (i := 3) zN rfl rfl rfl rfl rfl (Nat.le_of_ble_eq_true rfl) ?_)
   refine ⟨fun _ => .inl trivial, ?_⟩
   refine ahz (by kernel_rfl) ?_
   refine ⟨(b3, ⟨(zb3.take y6.toNat).drop 0, y10, y13, y16, y19, y22⟩), ?_, ⟨rfl, trivial⟩, (by repeat (first | exact zq | refine zx rfl ?_ | refine zt rfl rfl ?_)), ?_⟩
   ·exact ⟨⟨by simp [zb3]; omega, by simp [zb3]; omega⟩, fun s hs => zea s (List.mem_of_mem_take (by simpa using hs))⟩
   ·repeat (first | exact List.Perm.nil | refine zK 0 rfl ?_ | refine zK 1 rfl ?_ | refine zK 2 rfl ?_ | refine zK 3 rfl ?_ | (refine zF 0 rfl ?hq ?_; (case hq => simp [zW, zj]; done)) | (refine zF 1 rfl ?hq ?_; (case hq => simp [zW, zj]; done)) | (refine zF 2 rfl ?hq ?_; (case hq => simp [zW, zj]; done)) | (refine zF 3 rfl ?hq ?_; (case hq => simp [zW, zj]; done)) | fail)
 ·intro q hq
  obtain ⟨b3, ⟨T, Ve, Wa, Dl, Le, Mo⟩⟩ := q
  dsimp only at hq
  obtain ⟨⟨hT0, hT5⟩, hTs⟩ := hq
  refine zqg [24, 25, 26, 27, 28, 29, 30, 31, 32, 33, 34, 35, 36, 37, 38, 39, 40, 41, 42, 43] (fun (q : MarketS × Nat) => []) (fun (q : MarketS × Nat) => [.cells b3 (zj (zaC q.1)), .cells b2 [nilS, .int .i64 0, .int .i64 0, .int .i64 0, .int .i64 0, .int .i64 0], St b l q.2]) (fun (q : MarketS × Nat) => GoodM q.1 ∧ q.2 ≤ a + 20) ?_ ?_
  ·skip
   refine za ?_
   refine dmv rfl ?_
   first
   | refine de rfl (ze (i := 0) zep rfl (WeakL.refl _) rfl (zap (by first | assumption | omega | (simp; omega) | simp_all) (by first | assumption | omega | (simp; omega) | simp_all)) ?_)
   | refine de rfl (ze (i := 1) zep rfl (WeakL.refl _) rfl (zap (by first | assumption | omega | (simp; omega) | simp_all) (by first | assumption | omega | (simp; omega) | simp_all)) ?_)
   | refine de rfl (ze (i := 2) zep rfl (WeakL.refl _) rfl (zap (by first | assumption | omega | (simp; omega) | simp_all) (by first | assumption | omega | (simp; omega) | simp_all)) ?_)
   | refine de rfl (ze (i := 3) zep rfl (WeakL.refl _) rfl (zap (by first | assumption | omega | (simp; omega) | simp_all) (by first | assumption | omega | (simp; omega) | simp_all)) ?_)
   rintro _ _ ⟨y25, rfl, rfl⟩
   refine dn ?_
   refine zl rfl (fun h1 => ?_) (fun h2 => ?_)
   ·try simp at h1
    refine zB ?_
    refine dq (zb zN rfl zQ (by decide) rfl) ?_
    first
    | refine de rfl (zy (i := 0) zQ rfl rfl (.inl ⟨rfl, rfl⟩) ?_)
    | refine de rfl (zy (i := 1) zQ rfl rfl (.inl ⟨rfl, rfl⟩) ?_)
    | refine de rfl (zy (i := 2) zQ rfl rfl (.inl ⟨rfl, rfl⟩) ?_)
    | refine de rfl (zy (i := 3) zQ rfl rfl (.inl ⟨rfl, rfl⟩) ?_)
    refine de rfl (zef ca34 rfl (WeakL.refl _) (zdC (by first | assumption | omega | (simp; omega) | simp_all)) fun v28 => ?_)
    refine dmv rfl ?_
    refine dq (zE (hs := [_, _, _]) zQ ty9 rfl rfl (by decide) (by decide) rfl) ?_
    first
    | refine de rfl (ze (i := 0) zaF rfl (WeakL.refl _) rfl (zi (L := [_, _, _]) (by first | assumption | omega | (simp; omega) | simp_all) (by first | assumption | omega | (simp; omega) | simp_all) (by first | assumption | omega | (simp; omega) | simp_all)) ?_)
    | refine de rfl (ze (i := 1) zaF rfl (WeakL.refl _) rfl (zi (L := [_, _, _]) (by first | assumption | omega | (simp; omega) | simp_all) (by first | assumption | omega | (simp; omega) | simp_all) (by first | assumption | omega | (simp; omega) | simp_all)) ?_)
    | refine de rfl (ze (i := 2) zaF rfl (WeakL.refl _) rfl (zi (L := [_, _, _]) (by first | assumption | omega | (simp; omega) | simp_all) (by first | assumption | omega | (simp; omega) | simp_all) (by first | assumption | omega | (simp; omega) | simp_all)) ?_)
    | refine de rfl (ze (i := 3) zaF rfl (WeakL.refl _) rfl (zi (L := [_, _, _]) (by first | assumption | omega | (simp; omega) | simp_all) (by first | assumption | omega | (simp; omega) | simp_all) (by first | assumption | omega | (simp; omega) | simp_all)) ?_)
    rintro _ _ ⟨y31, rfl, hy31, rfl⟩
    refine dq (zE (hs := [_]) zQ ty9 rfl rfl (by decide) (by decide) rfl) ?_
    first
    | refine de rfl (zay (i := 0) zQ ty9 rfl rfl rfl rfl rfl (by simp [zbi, zj]) (by first | omega | (simp; omega)) fun v33 => ?_)
    | refine de rfl (zay (i := 1) zQ ty9 rfl rfl rfl rfl rfl (by simp [zbi, zj]) (by first | omega | (simp; omega)) fun v33 => ?_)
    | refine de rfl (zay (i := 2) zQ ty9 rfl rfl rfl rfl rfl (by simp [zbi, zj]) (by first | omega | (simp; omega)) fun v33 => ?_)
    | refine de rfl (zay (i := 3) zQ ty9 rfl rfl rfl rfl rfl (by simp [zbi, zj]) (by first | omega | (simp; omega)) fun v33 => ?_)
    refine dmv rfl ?_
    first
    | refine de rfl (ze (i := 0) zet rfl (WeakL.refl _) rfl (zav (by first | assumption | omega | (simp; omega) | simp_all) (by first | assumption | omega | (simp; omega) | simp_all) (by first | assumption | omega | (simp; omega) | simp_all) (by first | assumption | omega | (simp; omega) | simp_all)) ?_)
    | refine de rfl (ze (i := 1) zet rfl (WeakL.refl _) rfl (zav (by first | assumption | omega | (simp; omega) | simp_all) (by first | assumption | omega | (simp; omega) | simp_all) (by first | assumption | omega | (simp; omega) | simp_all) (by first | assumption | omega | (simp; omega) | simp_all)) ?_)
    | refine de rfl (ze (i := 2) zet rfl (WeakL.refl _) rfl (zav (by first | assumption | omega | (simp; omega) | simp_all) (by first | assumption | omega | (simp; omega) | simp_all) (by first | assumption | omega | (simp; omega) | simp_all) (by first | assumption | omega | (simp; omega) | simp_all)) ?_)
    | refine de rfl (ze (i := 3) zet rfl (WeakL.refl _) rfl (zav (by first | assumption | omega | (simp; omega) | simp_all) (by first | assumption | omega | (simp; omega) | simp_all) (by first | assumption | omega | (simp; omega) | simp_all) (by first | assumption | omega | (simp; omega) | simp_all)) ?_)
    rintro _ _ ⟨y35, rfl, rfl⟩
    refine dmv rfl ?_
    first
    | refine de rfl (ze (i := 0) zet rfl (WeakL.refl _) rfl (zav (by first | assumption | omega | (simp; omega) | simp_all) (by first | assumption | omega | (simp; omega) | simp_all) (by first | assumption | omega | (simp; omega) | simp_all) (by first | assumption | omega | (simp; omega) | simp_all)) ?_)
    | refine de rfl (ze (i := 1) zet rfl (WeakL.refl _) rfl (zav (by first | assumption | omega | (simp; omega) | simp_all) (by first | assumption | omega | (simp; omega) | simp_all) (by first | assumption | omega | (simp; omega) | simp_all) (by first | assumption | omega | (simp; omega) | simp_all)) ?_)
    | refine de rfl (ze (i := 2) zet rfl (WeakL.refl _) rfl (zav (by first | assumption | omega | (simp; omega) | simp_all) (by first | assumption | omega | (simp; omega) | simp_all) (by first | assumption | omega | (simp; omega) | simp_all) (by first | assumption | omega | (simp; omega) | simp_all)) ?_)
    | refine de rfl (ze (i := 3) zet rfl (WeakL.refl _) rfl (zav (by first | assumption | omega | (simp; omega) | simp_all) (by first | assumption | omega | (simp; omega) | simp_all) (by first | assumption | omega | (simp; omega) | simp_all) (by first | assumption | omega | (simp; omega) | simp_all)) ?_)
    rintro _ _ ⟨y37, rfl, rfl⟩
    refine dmv rfl ?_
    first
    | refine de rfl (ze (i := 0) zet rfl (WeakL.refl _) rfl (zav (by first | assumption | omega | (simp; omega) | simp_all) (by first | assumption | omega | (simp; omega) | simp_all) (by first | assumption | omega | (simp; omega) | simp_all) (by first | assumption | omega | (simp; omega) | simp_all)) ?_)
    | refine de rfl (ze (i := 1) zet rfl (WeakL.refl _) rfl (zav (by first | assumption | omega | (simp; omega) | simp_all) (by first | assumption | omega | (simp; omega) | simp_all) (by first | assumption | omega | (simp; omega) | simp_all) (by first | assumption | omega | (simp; omega) | simp_all)) ?_)
    | refine de rfl (ze (i := 2) zet rfl (WeakL.refl _) rfl (zav (by first | assumption | omega | (simp; omega) | simp_all) (by first | assumption | omega | (simp; omega) | simp_all) (by first | assumption | omega | (simp; omega) | simp_all) (by first | assumption | omega | (simp; omega) | simp_all)) ?_)
    | refine de rfl (ze (i := 3) zet rfl (WeakL.refl _) rfl (zav (by first | assumption | omega | (simp; omega) | simp_all) (by first | assumption | omega | (simp; omega) | simp_all) (by first | assumption | omega | (simp; omega) | simp_all) (by first | assumption | omega | (simp; omega) | simp_all)) ?_)
    rintro _ _ ⟨y39, rfl, rfl⟩
    refine dq (zb zN rfl zQ (by decide) rfl) ?_
    first
    | refine de0 (zz (i := 0) zQ rfl rfl rfl rfl rfl (Nat.le_of_ble_eq_true rfl) ?_)
    | refine de0 (zz (i := 1) zQ rfl rfl rfl rfl rfl (Nat.le_of_ble_eq_true rfl) ?_)
    | refine de0 (zz (i := 2) zQ rfl rfl rfl rfl rfl (Nat.le_of_ble_eq_true rfl) ?_)
    | refine de0 (zz (i := 3) zQ rfl rfl rfl rfl rfl (Nat.le_of_ble_eq_true rfl) ?_)
    refine dq (zb zN rfl ty3 (by decide) rfl) ?_
    first
    | refine de0 (zz (i := 0) ty3 rfl rfl rfl rfl rfl (Nat.le_of_ble_eq_true rfl) ?_)
    | refine de0 (zz (i := 1) ty3 rfl rfl rfl rfl rfl (Nat.le_of_ble_eq_true rfl) ?_)
    | refine de0 (zz (i := 2) ty3 rfl rfl rfl rfl rfl (Nat.le_of_ble_eq_true rfl) ?_)
    | refine de0 (zz (i := 3) ty3 rfl rfl rfl rfl rfl (Nat.le_of_ble_eq_true rfl) ?_)
    refine dq (zb zN rfl ty3 (by decide) rfl) ?_
    first
    | refine de0 (zz (i := 0) ty3 rfl rfl rfl rfl rfl (Nat.le_of_ble_eq_true rfl) ?_)
    | refine de0 (zz (i := 1) ty3 rfl rfl rfl rfl rfl (Nat.le_of_ble_eq_true rfl) ?_)
    | refine de0 (zz (i := 2) ty3 rfl rfl rfl rfl rfl (Nat.le_of_ble_eq_true rfl) ?_)
    | refine de0 (zz (i := 3) ty3 rfl rfl rfl rfl rfl (Nat.le_of_ble_eq_true rfl) ?_)
    refine dq (zb zN rfl ty3 (by decide) rfl) ?_
    first
    | refine de0 (zz (i := 0) ty3 rfl rfl rfl rfl rfl (Nat.le_of_ble_eq_true rfl) ?_)
    | refine de0 (zz (i := 1) ty3 rfl rfl rfl rfl rfl (Nat.le_of_ble_eq_true rfl) ?_)
    | refine de0 (zz (i := 2) ty3 rfl rfl rfl rfl rfl (Nat.le_of_ble_eq_true rfl) ?_)
    | refine de0 (zz (i := 3) ty3 rfl rfl rfl rfl rfl (Nat.le_of_ble_eq_true rfl) ?_)
    refine dn ?_
    (first | refine zcs (Ghost.fcell (i := 0) (k := 0) (j := 0) rfl rfl rfl) ?_ | refine zcs (Ghost.fcell (i := 0) (k := 1) (j := 0) rfl rfl rfl) ?_ | refine zcs (Ghost.fcell (i := 0) (k := 2) (j := 0) rfl rfl rfl) ?_ | refine zcs (Ghost.fcell (i := 0) (k := 3) (j := 0) rfl rfl rfl) ?_ | refine zcs (Ghost.fcell (i := 1) (k := 0) (j := 0) rfl rfl rfl) ?_ | refine zcs (Ghost.fcell (i := 1) (k := 1) (j := 0) rfl rfl rfl) ?_ | refine zcs (Ghost.fcell (i := 1) (k := 2) (j := 0) rfl rfl rfl) ?_ | refine zcs (Ghost.fcell (i := 1) (k := 3) (j := 0) rfl rfl rfl) ?_ | refine zcs (Ghost.fcell (i := 2) (k := 0) (j := 0) rfl rfl rfl) ?_ | refine zcs (Ghost.fcell (i := 2) (k := 1) (j := 0) rfl rfl rfl) ?_ | refine zcs (Ghost.fcell (i := 2) (k := 2) (j := 0) rfl rfl rfl) ?_ | refine zcs (Ghost.fcell (i := 2) (k := 3) (j := 0) rfl rfl rfl) ?_ | refine zcs (Ghost.fcell (i := 3) (k := 0) (j := 0) rfl rfl rfl) ?_ | refine zcs (Ghost.fcell (i := 3) (k := 1) (j := 0) rfl rfl rfl) ?_ | refine zcs (Ghost.fcell (i := 3) (k := 2) (j := 0) rfl rfl rfl) ?_ | refine zcs (Ghost.fcell (i := 3) (k := 3) (j := 0) rfl rfl rfl) ?_)
    refine zne (⟨T ++ [y31], y35, y37, Dl, y39, Mo⟩, a + 14) ⟨?_, by dsimp only; omega⟩ trivial (by repeat (first | exact zq | refine zx rfl ?_ | refine zt rfl rfl ?_)) ?_
    ·exact ⟨by simp, by simp; omega, fun s hs => by
      rcases List.mem_append.1 hs with hs | hs
      ·exact hTs s hs
      ·rw [List.mem_singleton.1 hs]; simp at hy31; rcases hy31 with rfl | rfl | rfl <;> decide⟩
    ·repeat (first | exact List.Perm.nil | refine zK 0 rfl ?_ | refine zK 1 rfl ?_ | refine zK 2 rfl ?_ | refine zK 3 rfl ?_ | (refine zF 0 rfl ?hq ?_; (case hq => simp [zW, zj]; done)) | (refine zF 1 rfl ?hq ?_; (case hq => simp [zW, zj]; done)) | (refine zF 2 rfl ?hq ?_; (case hq => simp [zW, zj]; done)) | (refine zF 3 rfl ?hq ?_; (case hq => simp [zW, zj]; done)) | fail)
   ·try simp at h2
    refine zo ?_
    refine zne (⟨T, Ve, Wa, Dl, Le, Mo⟩, a + 7) ⟨⟨hT0, Nat.le_succ_of_le hT5, hTs⟩, by dsimp only; omega⟩ trivial (by repeat (first | exact zq | refine zx rfl ?_ | refine zt rfl rfl ?_)) ?_
    ·repeat (first | exact List.Perm.nil | refine zK 0 rfl ?_ | refine zK 1 rfl ?_ | refine zK 2 rfl ?_ | refine zK 3 rfl ?_ | (refine zF 0 rfl ?hq ?_; (case hq => simp [zW, zj]; done)) | (refine zF 1 rfl ?hq ?_; (case hq => simp [zW, zj]; done)) | (refine zF 2 rfl ?hq ?_; (case hq => simp [zW, zj]; done)) | (refine zF 3 rfl ?hq ?_; (case hq => simp [zW, zj]; done)) | fail)
  ·intro q hq2
   obtain ⟨m, a2⟩ := q
   dsimp only at hq2
   refine za ?_
   first
   | refine de rfl (zeX (i := 0) zN rfl rfl rfl rfl rfl ?_)
   | refine de rfl (zeX (i := 1) zN rfl rfl rfl rfl rfl ?_)
   | refine de rfl (zeX (i := 2) zN rfl rfl rfl rfl rfl ?_)
   | refine de rfl (zeX (i := 3) zN rfl rfl rfl rfl rfl ?_)
   first
   | refine de0 (zz (i := 0) zN rfl rfl rfl rfl rfl (Nat.le_of_ble_eq_true rfl) ?_)
   | refine de0 (zz (i := 1) zN rfl rfl rfl rfl rfl (Nat.le_of_ble_eq_true rfl) ?_)
   | refine de0 (zz (i := 2) zN rfl rfl rfl rfl rfl (Nat.le_of_ble_eq_true rfl) ?_)
   | refine de0 (zz (i := 3) zN rfl rfl rfl rfl rfl (Nat.le_of_ble_eq_true rfl) ?_)
   refine dn ?_
   refine zp ?_
   exact ⟨_, _, (Ghost.drop).trans (Ghost.fc0 2 rfl), [_], _, ⟨⟨_, _, _, _, _, rfl, zN, .inr ⟨rfl, rfl, rfl⟩⟩, trivial⟩, Weak.refl _, m, a2, rfl, hq2.1, hq2.2, rfl⟩
end
section
open Go.HL
set_option maxHeartbeats 4000000 in
/-- (*benchwarmer/benchmake.Stream).AnswerList -/
theorem zbT [Tracks] {b : Nat} {l : List Int} {a : Nat} {m : MarketS} (ha : a ≤ 700000) (hm : GoodM m) : Con Tryz.prog 9 [pAt b, zaC m] [St b l a] (fun x M' => ∃ k a', x = zbr k ∧ GoodRp k ∧ a' ≤ a + 100 ∧ M' = [St b l a']) := by
 have hm0 := hm.pos
 have hm5 := hm.len
 refine Con.of_body Tryz.func9 rfl Tryz.ntmps9 rfl rfl ?_
 refine za ?_
 refine dq (zal rfl rfl) ?_
 refine das rfl ?_
 refine dn ?_
 refine za ?_
 refine das rfl ?_
 refine dn ?_
 refine za ?_
 refine dmv rfl ?_
 refine dq (zE (hs := [_, _]) zbh ty3 rfl rfl (by decide) (by decide) rfl) ?_
 first
 | refine de rfl (ze (i := 0) zX rfl (WeakL.refl _) rfl (zc (L := [_, _]) (by first | assumption | omega | (simp; omega) | simp_all) (by first | assumption | omega | (simp; omega) | simp_all) (by first | assumption | omega | (simp; omega) | simp_all)) ?_)
 | refine de rfl (ze (i := 1) zX rfl (WeakL.refl _) rfl (zc (L := [_, _]) (by first | assumption | omega | (simp; omega) | simp_all) (by first | assumption | omega | (simp; omega) | simp_all) (by first | assumption | omega | (simp; omega) | simp_all)) ?_)
 | refine de rfl (ze (i := 2) zX rfl (WeakL.refl _) rfl (zc (L := [_, _]) (by first | assumption | omega | (simp; omega) | simp_all) (by first | assumption | omega | (simp; omega) | simp_all) (by first | assumption | omega | (simp; omega) | simp_all)) ?_)
 | refine de rfl (ze (i := 3) zX rfl (WeakL.refl _) rfl (zc (L := [_, _]) (by first | assumption | omega | (simp; omega) | simp_all) (by first | assumption | omega | (simp; omega) | simp_all) (by first | assumption | omega | (simp; omega) | simp_all)) ?_)
 rintro _ _ ⟨y12, rfl, hy12, rfl⟩
 refine das rfl ?_
 refine dn ?_
 refine zP (Ghost.perm (M' := [St b l (a + 1)]) (List.Perm.refl _)) ?_
 refine zP (Ghost.arr_nil 4) ?_
 refine zm ?_
 refine za ?_
 refine dmv rfl ?_
 first
 | refine de rfl (ze (i := 0) zdw rfl (WeakL.refl _) rfl (z6 (by first | assumption | omega | (simp; omega) | simp_all) (by first | assumption | omega | (simp; omega) | simp_all) (by first | assumption | omega | (simp; omega) | simp_all) (by first | assumption | omega | (simp; omega) | simp_all)) ?_)
 | refine de rfl (ze (i := 1) zdw rfl (WeakL.refl _) rfl (z6 (by first | assumption | omega | (simp; omega) | simp_all) (by first | assumption | omega | (simp; omega) | simp_all) (by first | assumption | omega | (simp; omega) | simp_all) (by first | assumption | omega | (simp; omega) | simp_all)) ?_)
 | refine de rfl (ze (i := 2) zdw rfl (WeakL.refl _) rfl (z6 (by first | assumption | omega | (simp; omega) | simp_all) (by first | assumption | omega | (simp; omega) | simp_all) (by first | assumption | omega | (simp; omega) | simp_all) (by first | assumption | omega | (simp; omega) | simp_all)) ?_)
 | refine de rfl (ze (i := 3) zdw rfl (WeakL.refl _) rfl (z6 (by first | assumption | omega | (simp; omega) | simp_all) (by first | assumption | omega | (simp; omega) | simp_all) (by first | assumption | omega | (simp; omega) | simp_all) (by first | assumption | omega | (simp; omega) | simp_all)) ?_)
 rintro _ _ ⟨y14, rfl, hy14, rfl⟩
 refine dmv rfl ?_
 refine dn ?_
 refine zu ?_
 refine ziS [5, 6, 7, 8, 15, 16, 17, 18, 19, 20, 21, 22, 23, 24, 25, 26, 27, 28, 29, 30, 31, 32, 33, 34, 35, 36, 37, 38, 39, 40, 41, 42, 43, 44, 45, 46, 47, 48, 49, 50, 51, 52, 53, 54, 55, 56, 57, 58, 59, 60, 61, 62, 63] (fun (k : Nat) (t : Int) (q : GL ReplyS) => [(15, .int .i64 (k : Int)), (6, .int .i64 t), (5, .raw q.u)]) (fun (k : Nat) (t : Int) (q : GL ReplyS) => [St b l q.a, .arr q.u 4 (q.out.map zbA)]) (fun (k : Nat) (t : Int) (q : GL ReplyS) => (k : Int) ≤ y14 ∧ (0 ≤ t ∧ t ≤ 5 + 30 * k) ∧ GLok znH k (a + 2 + 4 * k) q) (fun (k : Nat) (t : Int) (q : GL ReplyS) => y14.toNat - k) (0) (y12) (⟨.slice none 0 0, [], a + 2⟩) ?_ ?_ ?_ ?_
 ·exact ⟨by omega, ⟨by simp at hy12; omega, by simp at hy12; omega⟩, ⟨by simp, by simp, by dsimp only; omega⟩⟩
 ·exact ⟨rfl, rfl, rfl, trivial⟩
 ·repeat (first | exact List.Perm.nil | refine zK 0 rfl ?_ | refine zK 1 rfl ?_ | refine zK 2 rfl ?_ | refine zK 3 rfl ?_ | (refine zF 0 rfl ?hq ?_; (case hq => simp [zW, zj]; done)) | (refine zF 1 rfl ?hq ?_; (case hq => simp [zW, zj]; done)) | (refine zF 2 rfl ?hq ?_; (case hq => simp [zW, zj]; done)) | (refine zF 3 rfl ?hq ?_; (case hq => simp [zW, zj]; done)) | fail)
 ·intro k t q hinv
  obtain ⟨hk, ht, hq⟩ := hinv
  obtain ⟨u, out, a2⟩ := q
  obtain ⟨g1, g2, g3⟩ := id hq
  dsimp only at g1 g2 g3
  refine za ?_
  refine dq (zY rfl rfl) ?_
  refine dn ?_
  refine zm ?_
  refine zl rfl (fun h1 => ?_) (fun h2 => ?_)
  ·try simp at h1
   refine zo ?_
   refine zk ?_
   refine zm ?_
   refine zu ?_
   refine zdi [7, 17, 18, 19, 20, 21, 22, 23, 24, 25, 26, 27, 28] (fun (q7 : Nat × ReplyS) => [(7, pAt q7.1)]) (fun (q7 : Nat × ReplyS) => [St b l (a2 + 3), .arr u 4 (out.map zbA), .cells q7.1 (zj (zbA q7.2))]) (fun (q7 : Nat × ReplyS) => Sh q7.2.Offer) ?_ ?_
   ·skip
    refine zbZ (fun _ => True) [] mixed ?_
    refine ahp 0 rfl rfl (by kernel_rfl) (by kernel_rfl) (zf rfl) ?_
    refine ahp 1 rfl rfl (by kernel_rfl) (by kernel_rfl) (zE (hs := [_, _, _, _, _, _]) zQ ty9 rfl rfl (by decide) (by decide) rfl) ?_
    refine ahp 3 rfl rfl (by kernel_rfl) (by kernel_rfl) (zf rfl) ?_
    refine ahp 4 rfl rfl (by kernel_rfl) (by kernel_rfl) ((by first | exact zd zN rfl zQ (by decide) rfl | exact zb zN rfl zQ (by decide) rfl)) ?_
    refine ahp 5 rfl rfl (by kernel_rfl) (by kernel_rfl) (zh zQ rfl rfl rfl) ?_
    refine ahp 7 rfl rfl (by kernel_rfl) (by kernel_rfl) (zf rfl) ?_
    refine ahp 8 rfl rfl (by kernel_rfl) (by kernel_rfl) (zf rfl) ?_
    refine ahp 9 rfl rfl (by kernel_rfl) (by kernel_rfl) (zE (hs := [_, _, _, _, _, _, _, _, _]) zbh ty3 rfl rfl (by decide) (by decide) rfl) ?_
    refine zfw 2 12 rfl rfl (by kernel_rfl) ?_ ?_
    ·skip
     first
     | refine zv rfl (ze (i := 0) zaF rfl (WeakL.refl _) rfl (zi (L := [_, _, _, _, _, _]) (by first | assumption | omega | (simp; omega) | simp_all) (by first | assumption | omega | (simp; omega) | simp_all) (by first | assumption | omega | (simp; omega) | simp_all)) ?_)
     | refine zv rfl (ze (i := 1) zaF rfl (WeakL.refl _) rfl (zi (L := [_, _, _, _, _, _]) (by first | assumption | omega | (simp; omega) | simp_all) (by first | assumption | omega | (simp; omega) | simp_all) (by first | assumption | omega | (simp; omega) | simp_all)) ?_)
     | refine zv rfl (ze (i := 2) zaF rfl (WeakL.refl _) rfl (zi (L := [_, _, _, _, _, _]) (by first | assumption | omega | (simp; omega) | simp_all) (by first | assumption | omega | (simp; omega) | simp_all) (by first | assumption | omega | (simp; omega) | simp_all)) ?_)
     | refine zv rfl (ze (i := 3) zaF rfl (WeakL.refl _) rfl (zi (L := [_, _, _, _, _, _]) (by first | assumption | omega | (simp; omega) | simp_all) (by first | assumption | omega | (simp; omega) | simp_all) (by first | assumption | omega | (simp; omega) | simp_all)) ?_)
     rintro _ _ ⟨y19, rfl, hy19, rfl⟩
     refine ⟨fun _ => .inl trivial, ?_⟩
     refine zfw 6 12 rfl rfl (by kernel_rfl) ?_ ?_
     ·skip
      first
      | refine zv rfl (ze (i := 0) zaF rfl (WeakL.refl _) rfl (zi (by first | assumption | omega | (simp; omega) | simp_all) (by first | assumption | omega | (simp; omega) | simp_all) (by first | assumption | omega | (simp; omega) | simp_all)) ?_)
      | refine zv rfl (ze (i := 1) zaF rfl (WeakL.refl _) rfl (zi (by first | assumption | omega | (simp; omega) | simp_all) (by first | assumption | omega | (simp; omega) | simp_all) (by first | assumption | omega | (simp; omega) | simp_all)) ?_)
      | refine zv rfl (ze (i := 2) zaF rfl (WeakL.refl _) rfl (zi (by first | assumption | omega | (simp; omega) | simp_all) (by first | assumption | omega | (simp; omega) | simp_all) (by first | assumption | omega | (simp; omega) | simp_all)) ?_)
      | refine zv rfl (ze (i := 3) zaF rfl (WeakL.refl _) rfl (zi (by first | assumption | omega | (simp; omega) | simp_all) (by first | assumption | omega | (simp; omega) | simp_all) (by first | assumption | omega | (simp; omega) | simp_all)) ?_)
      rintro _ _ ⟨y23, rfl, hy23, rfl⟩
      refine ⟨fun _ => .inl trivial, ?_⟩
      refine zfw 10 12 rfl rfl (by kernel_rfl) ?_ ?_
      ·skip
       first
       | refine zv rfl (ze (i := 0) zX rfl (WeakL.refl _) rfl (zc (L := [_, _, _, _, _, _, _, _, _]) (by first | assumption | omega | (simp; omega) | simp_all) (by first | assumption | omega | (simp; omega) | simp_all) (by first | assumption | omega | (simp; omega) | simp_all)) ?_)
       | refine zv rfl (ze (i := 1) zX rfl (WeakL.refl _) rfl (zc (L := [_, _, _, _, _, _, _, _, _]) (by first | assumption | omega | (simp; omega) | simp_all) (by first | assumption | omega | (simp; omega) | simp_all) (by first | assumption | omega | (simp; omega) | simp_all)) ?_)
       | refine zv rfl (ze (i := 2) zX rfl (WeakL.refl _) rfl (zc (L := [_, _, _, _, _, _, _, _, _]) (by first | assumption | omega | (simp; omega) | simp_all) (by first | assumption | omega | (simp; omega) | simp_all) (by first | assumption | omega | (simp; omega) | simp_all)) ?_)
       | refine zv rfl (ze (i := 3) zX rfl (WeakL.refl _) rfl (zc (L := [_, _, _, _, _, _, _, _, _]) (by first | assumption | omega | (simp; omega) | simp_all) (by first | assumption | omega | (simp; omega) | simp_all) (by first | assumption | omega | (simp; omega) | simp_all)) ?_)
       rintro _ _ ⟨y27, rfl, hy27, rfl⟩
       refine ⟨fun _ => .inl trivial, ?_⟩
       refine ahp 11 rfl rfl (by kernel_rfl) (by kernel_rfl) (zaG (cs := [_, _, _, _]) zS znV rfl) ?_
       refine ahe 12 rfl (by kernel_rfl) ?_
       refine zv rfl (zac zS rfl fun b7 => ?_)
       refine ⟨fun _ => .inl trivial, ?_⟩
       refine ahe 13 rfl (by kernel_rfl) ?_
       first
       | refine zae (zz (i := 0) zS rfl rfl rfl rfl rfl (Nat.le_of_ble_eq_true rfl) ?_)
       | refine zae (zz (i := 1) zS rfl rfl rfl rfl rfl (Nat.le_of_ble_eq_true rfl) ?_)
       | refine zae (zz (i := 2) zS rfl rfl rfl rfl rfl (Nat.le_of_ble_eq_true rfl) ?_)
       | refine zae (zz (i := 3) zS rfl rfl rfl rfl rfl (Nat.le_of_ble_eq_true rfl) ?_)
       refine ⟨fun _ => .inl trivial, ?_⟩
       refine ahz (by kernel_rfl) ?_
       refine ⟨(b7, ⟨y19, y23, t, y27⟩), ?_, ⟨rfl, trivial⟩, (by repeat (first | exact zq | refine zx rfl ?_ | refine zt rfl rfl ?_)), ?_⟩
       ·exact zfY (n := 2) (show y19.length ≤ 2 from by revert hy19; revert y19; decide) (by decide)
       ·repeat (first | exact List.Perm.nil | refine zK 0 rfl ?_ | refine zK 1 rfl ?_ | refine zK 2 rfl ?_ | refine zK 3 rfl ?_ | (refine zF 0 rfl ?hq ?_; (case hq => simp [zW, zj]; done)) | (refine zF 1 rfl ?hq ?_; (case hq => simp [zW, zj]; done)) | (refine zF 2 rfl ?hq ?_; (case hq => simp [zW, zj]; done)) | (refine zF 3 rfl ?hq ?_; (case hq => simp [zW, zj]; done)) | fail)
      ·skip
       refine zv rfl (zac zS rfl fun b7 => ?_)
       refine ⟨fun _ => .inl trivial, ?_⟩
       refine ahe 10 rfl (by kernel_rfl) ?_
       first
       | refine zv rfl (ze (i := 0) zX rfl (WeakL.refl _) rfl (zc (L := [_, _, _, _, _, _, _, _, _]) (by first | assumption | omega | (simp; omega) | simp_all) (by first | assumption | omega | (simp; omega) | simp_all) (by first | assumption | omega | (simp; omega) | simp_all)) ?_)
       | refine zv rfl (ze (i := 1) zX rfl (WeakL.refl _) rfl (zc (L := [_, _, _, _, _, _, _, _, _]) (by first | assumption | omega | (simp; omega) | simp_all) (by first | assumption | omega | (simp; omega) | simp_all) (by first | assumption | omega | (simp; omega) | simp_all)) ?_)
       | refine zv rfl (ze (i := 2) zX rfl (WeakL.refl _) rfl (zc (L := [_, _, _, _, _, _, _, _, _]) (by first | assumption | omega | (simp; omega) | simp_all) (by first | assumption | omega | (simp; omega) | simp_all) (by first | assumption | omega | (simp; omega) | simp_all)) ?_)
       | refine zv rfl (ze (i := 3) zX rfl (WeakL.refl _) rfl (zc (L := [_, _, _, _, _, _, _, _, _]) (by first | assumption | omega | (simp; omega) | simp_all) (by first | assumption | omega | (simp; omega) | simp_all) (by first | assumption | omega | (simp; omega) | simp_all)) ?_)
       rintro _ _ ⟨y27, rfl, hy27, rfl⟩
       refine ⟨fun _ => .inl trivial, ?_⟩
       refine ahp 11 rfl rfl (by kernel_rfl) (by kernel_rfl) (zaG (cs := [_, _, _, _]) zS znV rfl) ?_
       refine ahe 13 rfl (by kernel_rfl) ?_
       first
       | refine zae (zz (i := 0) zS rfl rfl rfl rfl rfl (Nat.le_of_ble_eq_true rfl) ?_)
       | refine zae (zz (i := 1) zS rfl rfl rfl rfl rfl (Nat.le_of_ble_eq_true rfl) ?_)
       | refine zae (zz (i := 2) zS rfl rfl rfl rfl rfl (Nat.le_of_ble_eq_true rfl) ?_)
       | refine zae (zz (i := 3) zS rfl rfl rfl rfl rfl (Nat.le_of_ble_eq_true rfl) ?_)
       refine ⟨fun _ => .inl trivial, ?_⟩
       refine ahz (by kernel_rfl) ?_
       refine ⟨(b7, ⟨y19, y23, t, y27⟩), ?_, ⟨rfl, trivial⟩, (by repeat (first | exact zq | refine zx rfl ?_ | refine zt rfl rfl ?_)), ?_⟩
       ·exact zfY (n := 2) (show y19.length ≤ 2 from by revert hy19; revert y19; decide) (by decide)
       ·repeat (first | exact List.Perm.nil | refine zK 0 rfl ?_ | refine zK 1 rfl ?_ | refine zK 2 rfl ?_ | refine zK 3 rfl ?_ | (refine zF 0 rfl ?hq ?_; (case hq => simp [zW, zj]; done)) | (refine zF 1 rfl ?hq ?_; (case hq => simp [zW, zj]; done)) | (refine zF 2 rfl ?hq ?_; (case hq => simp [zW, zj]; done)) | (refine zF 3 rfl ?hq ?_; (case hq => simp [zW, zj]; done)) | fail)
     ·skip
      refine zv rfl (zac zS rfl fun b7 => ?_)
      refine ⟨fun _ => .inl trivial, ?_⟩
      refine ahe 6 rfl (by kernel_rfl) ?_
      first
      | refine zv rfl (ze (i := 0) zaF rfl (WeakL.refl _) rfl (zi (by first | assumption | omega | (simp; omega) | simp_all) (by first | assumption | omega | (simp; omega) | simp_all) (by first | assumption | omega | (simp; omega) | simp_all)) ?_)
      | refine zv rfl (ze (i := 1) zaF rfl (WeakL.refl _) rfl (zi (by first | assumption | omega | (simp; omega) | simp_all) (by first | assumption | omega | (simp; omega) | simp_all) (by first | assumption | omega | (simp; omega) | simp_all)) ?_)
      | refine zv rfl (ze (i := 2) zaF rfl (WeakL.refl _) rfl (zi (by first | assumption | omega | (simp; omega) | simp_all) (by first | assumption | omega | (simp; omega) | simp_all) (by first | assumption | omega | (simp; omega) | simp_all)) ?_)
      | refine zv rfl (ze (i := 3) zaF rfl (WeakL.refl _) rfl (zi (by first | assumption | omega | (simp; omega) | simp_all) (by first | assumption | omega | (simp; omega) | simp_all) (by first | assumption | omega | (simp; omega) | simp_all)) ?_)
      rintro _ _ ⟨y23, rfl, hy23, rfl⟩
      refine ⟨fun _ => .inl trivial, ?_⟩
      refine ahe 10 rfl (by kernel_rfl) ?_
      first
      | refine zv rfl (ze (i := 0) zX rfl (WeakL.refl _) rfl (zc (L := [_, _, _, _, _, _, _, _, _]) (by first | assumption | omega | (simp; omega) | simp_all) (by first | assumption | omega | (simp; omega) | simp_all) (by first | assumption | omega | (simp; omega) | simp_all)) ?_)
      | refine zv rfl (ze (i := 1) zX rfl (WeakL.refl _) rfl (zc (L := [_, _, _, _, _, _, _, _, _]) (by first | assumption | omega | (simp; omega) | simp_all) (by first | assumption | omega | (simp; omega) | simp_all) (by first | assumption | omega | (simp; omega) | simp_all)) ?_)
      | refine zv rfl (ze (i := 2) zX rfl (WeakL.refl _) rfl (zc (L := [_, _, _, _, _, _, _, _, _]) (by first | assumption | omega | (simp; omega) | simp_all) (by first | assumption | omega | (simp; omega) | simp_all) (by first | assumption | omega | (simp; omega) | simp_all)) ?_)
      | refine zv rfl (ze (i := 3) zX rfl (WeakL.refl _) rfl (zc (L := [_, _, _, _, _, _, _, _, _]) (by first | assumption | omega | (simp; omega) | simp_all) (by first | assumption | omega | (simp; omega) | simp_all) (by first | assumption | omega | (simp; omega) | simp_all)) ?_)
      rintro _ _ ⟨y27, rfl, hy27, rfl⟩
      refine ⟨fun _ => .inl trivial, ?_⟩
      refine ahp 11 rfl rfl (by kernel_rfl) (by kernel_rfl) (zaG (cs := [_, _, _, _]) zS znV rfl) ?_
      refine ahe 13 rfl (by kernel_rfl) ?_
      first
      | refine zae (zz (i := 0) zS rfl rfl rfl rfl rfl (Nat.le_of_ble_eq_true rfl) ?_)
      | refine zae (zz (i := 1) zS rfl rfl rfl rfl rfl (Nat.le_of_ble_eq_true rfl) ?_)
      | refine zae (zz (i := 2) zS rfl rfl rfl rfl rfl (Nat.le_of_ble_eq_true rfl) ?_)
      | refine zae (zz (i := 3) zS rfl rfl rfl rfl rfl (Nat.le_of_ble_eq_true rfl) ?_)
      refine ⟨fun _ => .inl trivial, ?_⟩
      refine ahz (by kernel_rfl) ?_
      refine ⟨(b7, ⟨y19, y23, t, y27⟩), ?_, ⟨rfl, trivial⟩, (by repeat (first | exact zq | refine zx rfl ?_ | refine zt rfl rfl ?_)), ?_⟩
      ·exact zfY (n := 2) (show y19.length ≤ 2 from by revert hy19; revert y19; decide) (by decide)
      ·repeat (first | exact List.Perm.nil | refine zK 0 rfl ?_ | refine zK 1 rfl ?_ | refine zK 2 rfl ?_ | refine zK 3 rfl ?_ | (refine zF 0 rfl ?hq ?_; (case hq => simp [zW, zj]; done)) | (refine zF 1 rfl ?hq ?_; (case hq => simp [zW, zj]; done)) | (refine zF 2 rfl ?hq ?_; (case hq => simp [zW, zj]; done)) | (refine zF 3 rfl ?hq ?_; (case hq => simp [zW, zj]; done)) | fail)
    ·skip
     refine zv rfl (zac zS rfl fun b7 => ?_)
     refine ⟨fun _ => .inl trivial, ?_⟩
     refine ahe 2 rfl (by kernel_rfl) ?_
     first
     | refine zv rfl (ze (i := 0) zaF rfl (WeakL.refl _) rfl (zi (L := [_, _, _, _, _, _]) (by first | assumption | omega | (simp; omega) | simp_all) (by first | assumption | omega | (simp; omega) | simp_all) (by first | assumption | omega | (simp; omega) | simp_all)) ?_)
     | refine zv rfl (ze (i := 1) zaF rfl (WeakL.refl _) rfl (zi (L := [_, _, _, _, _, _]) (by first | assumption | omega | (simp; omega) | simp_all) (by first | assumption | omega | (simp; omega) | simp_all) (by first | assumption | omega | (simp; omega) | simp_all)) ?_)
     | refine zv rfl (ze (i := 2) zaF rfl (WeakL.refl _) rfl (zi (L := [_, _, _, _, _, _]) (by first | assumption | omega | (simp; omega) | simp_all) (by first | assumption | omega | (simp; omega) | simp_all) (by first | assumption | omega | (simp; omega) | simp_all)) ?_)
     | refine zv rfl (ze (i := 3) zaF rfl (WeakL.refl _) rfl (zi (L := [_, _, _, _, _, _]) (by first | assumption | omega | (simp; omega) | simp_all) (by first | assumption | omega | (simp; omega) | simp_all) (by first | assumption | omega | (simp; omega) | simp_all)) ?_)
     rintro _ _ ⟨y19, rfl, hy19, rfl⟩
     refine ⟨fun _ => .inl trivial, ?_⟩
     refine ahe 6 rfl (by kernel_rfl) ?_
     first
     | refine zv rfl (ze (i := 0) zaF rfl (WeakL.refl _) rfl (zi (by first | assumption | omega | (simp; omega) | simp_all) (by first | assumption | omega | (simp; omega) | simp_all) (by first | assumption | omega | (simp; omega) | simp_all)) ?_)
     | refine zv rfl (ze (i := 1) zaF rfl (WeakL.refl _) rfl (zi (by first | assumption | omega | (simp; omega) | simp_all) (by first | assumption | omega | (simp; omega) | simp_all) (by first | assumption | omega | (simp; omega) | simp_all)) ?_)
     | refine zv rfl (ze (i := 2) zaF rfl (WeakL.refl _) rfl (zi (by first | assumption | omega | (simp; omega) | simp_all) (by first | assumption | omega | (simp; omega) | simp_all) (by first | assumption | omega | (simp; omega) | simp_all)) ?_)
     | refine zv rfl (ze (i := 3) zaF rfl (WeakL.refl _) rfl (zi (by first | assumption | omega | (simp; omega) | simp_all) (by first | assumption | omega | (simp; omega) | simp_all) (by first | assumption | omega | (simp; omega) | simp_all)) ?_)
     rintro _ _ ⟨y23, rfl, hy23, rfl⟩
     refine ⟨fun _ => .inl trivial, ?_⟩
     refine ahe 10 rfl (by kernel_rfl) ?_
     first
     | refine zv rfl (ze (i := 0) zX rfl (WeakL.refl _) rfl (zc (L := [_, _, _, _, _, _, _, _, _]) (by first | assumption | omega | (simp; omega) | simp_all) (by first | assumption | omega | (simp; omega) | simp_all) (by first | assumption | omega | (simp; omega) | simp_all)) ?_)
     | refine zv rfl (ze (i := 1) zX rfl (WeakL.refl _) rfl (zc (L := [_, _, _, _, _, _, _, _, _]) (by first | assumption | omega | (simp; omega) | simp_all) (by first | assumption | omega | (simp; omega) | simp_all) (by first | assumption | omega | (simp; omega) | simp_all)) ?_)
     | refine zv rfl (ze (i := 2) zX rfl (WeakL.refl _) rfl (zc (L := [_, _, _, _, _, _, _, _, _]) (by first | assumption | omega | (simp; omega) | simp_all) (by first | assumption | omega | (simp; omega) | simp_all) (by first | assumption | omega | (simp; omega) | simp_all)) ?_)
     | refine zv rfl (ze (i := 3) zX rfl (WeakL.refl _) rfl (zc (L := [_, _, _, _, _, _, _, _, _]) (by first | assumption | omega | (simp; omega) | simp_all) (by first | assumption | omega | (simp; omega) | simp_all) (by first | assumption | omega | (simp; omega) | simp_all)) ?_)
     rintro _ _ ⟨y27, rfl, hy27, rfl⟩
     refine ⟨fun _ => .inl trivial, ?_⟩
     refine ahp 11 rfl rfl (by kernel_rfl) (by kernel_rfl) (zaG (cs := [_, _, _, _]) zS znV rfl) ?_
     refine ahe 13 rfl (by kernel_rfl) ?_
     first
     | refine zae (zz (i := 0) zS rfl rfl rfl rfl rfl (Nat.le_of_ble_eq_true rfl) ?_)
     | refine zae (zz (i := 1) zS rfl rfl rfl rfl rfl (Nat.le_of_ble_eq_true rfl) ?_)
     | refine zae (zz (i := 2) zS rfl rfl rfl rfl rfl (Nat.le_of_ble_eq_true rfl) ?_)
     | refine zae (zz (i := 3) zS rfl rfl rfl rfl rfl (Nat.le_of_ble_eq_true rfl) ?_)
     refine ⟨fun _ => .inl trivial, ?_⟩
     refine ahz (by kernel_rfl) ?_
     refine ⟨(b7, ⟨y19, y23, t, y27⟩), ?_, ⟨rfl, trivial⟩, (by repeat (first | exact zq | refine zx rfl ?_ | refine zt rfl rfl ?_)), ?_⟩
     ·exact zfY (n := 2) (show y19.length ≤ 2 from by revert hy19; revert y19; decide) (by decide)
     ·repeat (first | exact List.Perm.nil | refine zK 0 rfl ?_ | refine zK 1 rfl ?_ | refine zK 2 rfl ?_ | refine zK 3 rfl ?_ | (refine zF 0 rfl ?hq ?_; (case hq => simp [zW, zj]; done)) | (refine zF 1 rfl ?hq ?_; (case hq => simp [zW, zj]; done)) | (refine zF 2 rfl ?hq ?_; (case hq => simp [zW, zj]; done)) | (refine zF 3 rfl ?hq ?_; (case hq => simp [zW, zj]; done)) | fail)
   ·intro q7 hq7
    obtain ⟨b7, x7⟩ := q7
    dsimp only at hq7
    refine zP (Ghost.fc 7 (i := 2) rfl rfl) ?_
    refine zm ?_
    refine za ?_
    refine dmv rfl ?_
    refine de rfl (zaA (i := 1) (es := out) zb5 rfl rfl ?_)
    refine das rfl ?_
    refine dn ?_
    refine zrA (i := 1) rfl (fun p ob off cap hp hv => ?_)
    rw [List.length_map] at hv
    subst hv
    refine zar (fun M => ∃ i : Nat, M[i]? = some (.arr (.slice p out.length cap) 4 (out.map zbA))) [8, 18] mixed ?_
    refine ahp 0 rfl rfl (by kernel_rfl) (by kernel_rfl) (zf rfl) ?_
    refine ahp 1 rfl rfl (by kernel_rfl) (by kernel_rfl) (zaj rfl rfl) ?_
    refine ahp 2 rfl rfl (by kernel_rfl) (by kernel_rfl) (zf rfl) ?_
    refine ahg 3 rfl rfl (by kernel_rfl) (by kernel_rfl) rfl (fun hc => ⟨_, OpenTo.refl _, zf rfl⟩) ?_
    refine ahg 4 rfl rfl (by kernel_rfl) (by kernel_rfl) rfl (fun hc => ⟨_, OpenTo.refl _, zf rfl⟩) ?_
    refine ahg 5 rfl rfl (by kernel_rfl) (by kernel_rfl) rfl (fun hc => by have hq := hc; (try simp at hq); exact ⟨_, OpenTo.upd (t := 35) rfl (by first | exact hc | simp_all) (OpenTo.refl _), za5 rfl rfl (by omega) (by omega)⟩) ?_
    refine ahg 6 rfl rfl (by kernel_rfl) (by kernel_rfl) rfl (fun hc => by
     have hp2 := hp.resolve_right (fun e => by have e2 := List.map_eq_nil_iff.1 e; subst e2; simp at hc)
     have hne : 0 < out.length := List.length_pos_iff.2 (fun e => by subst e; simp at hc)
     exact ⟨_, OpenTo.upd (t := 36) rfl (by first | exact hc | simp_all) (OpenTo.upd (t := 34) rfl (by first | exact hc | simp_all) (OpenTo.refl _)), za1 (j := out.length - 1) zb5 zS (congrArg (fun q => some (HVal.raw (Value.slice q out.length cap))) hp2) rfl (by omega) (by omega)⟩) ?_
    refine ahg 7 rfl rfl (by kernel_rfl) (by kernel_rfl) rfl (fun hc => ⟨_, OpenTo.upd (t := 37) rfl (by first | exact hc | simp_all) (OpenTo.refl _), (by first | exact zd zS rfl ty3 (by decide) rfl | exact zb zS rfl ty3 (by decide) rfl)⟩) ?_
    refine zdt 8 rfl rfl (by kernel_rfl) (by kernel_rfl) (by simp) (by first | exact ⟨0, rfl⟩ | exact ⟨1, rfl⟩) rfl (fun hc => ⟨_, OpenTo.upd (t := 38) rfl (by first | exact hc | simp_all) (OpenTo.refl _), fun M hM => by
     have hp2 := hp.resolve_right (fun e => by have e2 := List.map_eq_nil_iff.1 e; subst e2; simp at hc); obtain ⟨i, hi⟩ := hM; rw [hp2] at hi; exact za6 (i := i) (j := out.length - 1) (y := out.getD (out.length - 1) zbU) 2 ty3 rfl (by omega) hi (getD_some (by have : out ≠ [] := (fun e => by (subst e; simp at hc)); have := List.length_pos_iff.2 this; omega)) rfl rfl ⟨rfl, rfl⟩
     ⟩) ?_
    refine ahg 9 rfl rfl (by kernel_rfl) (by kernel_rfl) rfl (fun hc => ⟨_, OpenTo.refl _, zf rfl⟩) ?_
    refine ahg 10 rfl rfl (by kernel_rfl) (by kernel_rfl) rfl (fun hc => ⟨_, OpenTo.upd (t := 40) rfl (by first | exact hc | simp_all) (OpenTo.upd (t := 39) rfl (by first | exact hc | simp_all) (OpenTo.refl _)), zY rfl rfl⟩) ?_
    refine ahp 11 rfl rfl (by kernel_rfl) (by kernel_rfl) (zG rfl (.inl rfl) (.inr ⟨_, rfl, fun h => by simp_all⟩)) ?_
    refine ahp 12 rfl rfl (by kernel_rfl) (by kernel_rfl) (zf rfl) ?_
    refine ahg 13 rfl rfl (by kernel_rfl) (by kernel_rfl) rfl (fun hc => ⟨_, OpenTo.refl _, zf rfl⟩) ?_
    refine ahg 14 rfl rfl (by kernel_rfl) (by kernel_rfl) rfl (fun hc => ⟨_, OpenTo.refl _, zf rfl⟩) ?_
    refine ahg 15 rfl rfl (by kernel_rfl) (by kernel_rfl) rfl (fun hc => by have hq := hc; (try simp at hq); exact ⟨_, OpenTo.upd (t := 45) rfl (by first | exact hc | simp_all) (OpenTo.refl _), za5 rfl rfl (by omega) (by omega)⟩) ?_
    refine ahg 16 rfl rfl (by kernel_rfl) (by kernel_rfl) rfl (fun hc => by
     have hp2 := hp.resolve_right (fun e => by have e2 := List.map_eq_nil_iff.1 e; subst e2; simp at hc)
     have hne : 0 < out.length := List.length_pos_iff.2 (fun e => by subst e; simp at hc)
     exact ⟨_, OpenTo.upd (t := 46) rfl (by first | exact hc | simp_all) (OpenTo.upd (t := 44) rfl (by first | exact hc | simp_all) (OpenTo.refl _)), za1 (j := out.length - 1) zb5 zS (congrArg (fun q => some (HVal.raw (Value.slice q out.length cap))) hp2) rfl (by omega) (by omega)⟩) ?_
    refine ahg 17 rfl rfl (by kernel_rfl) (by kernel_rfl) rfl (fun hc => ⟨_, OpenTo.upd (t := 47) rfl (by first | exact hc | simp_all) (OpenTo.refl _), (by first | exact zd zS rfl ty9 (by decide) rfl | exact zb zS rfl ty9 (by decide) rfl)⟩) ?_
    refine zdt 18 rfl rfl (by kernel_rfl) (by kernel_rfl) (by simp) (by first | exact ⟨0, rfl⟩ | exact ⟨1, rfl⟩) rfl (fun hc => ⟨_, OpenTo.upd (t := 48) rfl (by first | exact hc | simp_all) (OpenTo.refl _), fun M hM => by
     have hp2 := hp.resolve_right (fun e => by have e2 := List.map_eq_nil_iff.1 e; subst e2; simp at hc); obtain ⟨i, hi⟩ := hM; rw [hp2] at hi; exact za6 (i := i) (j := out.length - 1) (y := out.getD (out.length - 1) zbU) 0 ty9 rfl (by omega) hi (getD_some (by have : out ≠ [] := (fun e => by (subst e; simp at hc)); have := List.length_pos_iff.2 this; omega)) rfl rfl ⟨rfl, rfl⟩
     ⟩) ?_
    refine ahg 19 rfl rfl (by kernel_rfl) (by kernel_rfl) rfl (fun hc => ⟨_, OpenTo.refl _, zd zS rfl ty9 (by decide) rfl⟩) ?_
    refine ahg 20 rfl rfl (by kernel_rfl) (by kernel_rfl) rfl (fun hc => ⟨_, OpenTo.upd (t := 50) rfl (by first | exact hc | simp_all) (OpenTo.refl _), zh ty9 rfl rfl rfl⟩) ?_
    refine ahg 21 rfl rfl (by kernel_rfl) (by kernel_rfl) rfl (fun hc => ⟨_, OpenTo.upd (t := 51) rfl (by first | exact hc | simp_all) (OpenTo.upd (t := 49) rfl (by first | exact hc | simp_all) (OpenTo.refl _)), zmr rfl rfl⟩) ?_
    refine ahp 22 rfl rfl (by kernel_rfl) (by kernel_rfl) (zG rfl (.inl rfl) (.inr ⟨_, rfl, fun h => by simp_all⟩)) ?_
    refine ahz (by kernel_rfl) ?_
    refine zl rfl (fun h3 => ?_) (fun h4 => ?_)
    ·try simp at h3
     refine zB ?_
     refine dmv rfl ?_
     refine dq (zD zS rfl rfl rfl rfl) ?_
     refine dq (zE (hs := [_]) zb5 zS rfl rfl (by decide) (by decide) rfl) ?_
     refine de rfl (zay (i := 1) zb5 zS rfl rfl rfl rfl rfl (by simp [zbi, zj]) (by simp; omega) fun v57 => ?_)
     refine das rfl ?_
     refine dn ?_
     refine zk ?_
     refine zB ?_
     refine dmv rfl ?_
     refine dmv rfl ?_
     refine dq (zE (hs := [_, _, _, _, _]) zbh ty3 rfl rfl (by decide) (by decide) rfl) ?_
     first
     | refine de rfl (ze (i := 0) zX rfl (WeakL.refl _) rfl (zc (L := [_, _, _, _, _]) (by first | assumption | omega | (simp; omega) | simp_all) (by first | assumption | omega | (simp; omega) | simp_all) (by first | assumption | omega | (simp; omega) | simp_all)) ?_)
     | refine de rfl (ze (i := 1) zX rfl (WeakL.refl _) rfl (zc (L := [_, _, _, _, _]) (by first | assumption | omega | (simp; omega) | simp_all) (by first | assumption | omega | (simp; omega) | simp_all) (by first | assumption | omega | (simp; omega) | simp_all)) ?_)
     | refine de rfl (ze (i := 2) zX rfl (WeakL.refl _) rfl (zc (L := [_, _, _, _, _]) (by first | assumption | omega | (simp; omega) | simp_all) (by first | assumption | omega | (simp; omega) | simp_all) (by first | assumption | omega | (simp; omega) | simp_all)) ?_)
     | refine de rfl (ze (i := 3) zX rfl (WeakL.refl _) rfl (zc (L := [_, _, _, _, _]) (by first | assumption | omega | (simp; omega) | simp_all) (by first | assumption | omega | (simp; omega) | simp_all) (by first | assumption | omega | (simp; omega) | simp_all)) ?_)
     rintro _ _ ⟨y61, rfl, hy61, rfl⟩
     refine dq (zC rfl rfl (by simp at hy61; omega) (by simp at hy61; omega)) ?_
     refine das rfl ?_
     refine dn ?_
     refine zA ?_
     refine zk ?_
     refine zB ?_
     refine dq (zC rfl rfl (by omega) (by omega)) ?_
     refine dmv rfl ?_
     refine dn ?_
     exact ⟨k + 1, t + y61, ⟨v57, out ++ [x7], a2 + 4⟩, ⟨by omega, ⟨by simp at hy61; omega, by simp at hy61; omega⟩, hq.add (x := x7) hq7 (by omega)⟩, by dsimp only; omega, ⟨rfl, rfl, rfl, trivial⟩, (by repeat (first | exact zq | refine zx rfl ?_ | refine zt rfl rfl ?_)), by repeat (first | exact List.Perm.nil | refine zK 0 rfl ?_ | refine zK 1 rfl ?_ | refine zK 2 rfl ?_ | refine zK 3 rfl ?_ | (refine zF 0 rfl ?hq ?_; (case hq => simp [zW, zj]; done)) | (refine zF 1 rfl ?hq ?_; (case hq => simp [zW, zj]; done)) | (refine zF 2 rfl ?hq ?_; (case hq => simp [zW, zj]; done)) | (refine zF 3 rfl ?hq ?_; (case hq => simp [zW, zj]; done)) | fail)⟩
    ·try simp at h4
     refine zo ?_
     refine zk ?_
     refine zB ?_
     refine dmv rfl ?_
     refine dmv rfl ?_
     refine dq (zE (hs := [_, _, _, _, _]) zbh ty3 rfl rfl (by decide) (by decide) rfl) ?_
     first
     | refine de rfl (ze (i := 0) zX rfl (WeakL.refl _) rfl (zc (L := [_, _, _, _, _]) (by first | assumption | omega | (simp; omega) | simp_all) (by first | assumption | omega | (simp; omega) | simp_all) (by first | assumption | omega | (simp; omega) | simp_all)) ?_)
     | refine de rfl (ze (i := 1) zX rfl (WeakL.refl _) rfl (zc (L := [_, _, _, _, _]) (by first | assumption | omega | (simp; omega) | simp_all) (by first | assumption | omega | (simp; omega) | simp_all) (by first | assumption | omega | (simp; omega) | simp_all)) ?_)
     | refine de rfl (ze (i := 2) zX rfl (WeakL.refl _) rfl (zc (L := [_, _, _, _, _]) (by first | assumption | omega | (simp; omega) | simp_all) (by first | assumption | omega | (simp; omega) | simp_all) (by first | assumption | omega | (simp; omega) | simp_all)) ?_)
     | refine de rfl (ze (i := 3) zX rfl (WeakL.refl _) rfl (zc (L := [_, _, _, _, _]) (by first | assumption | omega | (simp; omega) | simp_all) (by first | assumption | omega | (simp; omega) | simp_all) (by first | assumption | omega | (simp; omega) | simp_all)) ?_)
     rintro _ _ ⟨y61, rfl, hy61, rfl⟩
     refine dq (zC rfl rfl (by simp at hy61; omega) (by simp at hy61; omega)) ?_
     refine das rfl ?_
     refine dn ?_
     refine zA ?_
     refine zk ?_
     refine zB ?_
     refine dq (zC rfl rfl (by omega) (by omega)) ?_
     refine dmv rfl ?_
     refine dn ?_
     exact ⟨k + 1, t + y61, ⟨.slice p out.length cap, out, a2 + 4⟩, ⟨by omega, ⟨by simp at hy61; omega, by simp at hy61; omega⟩, hq.same (by omega)⟩, by dsimp only; omega, ⟨rfl, rfl, rfl, trivial⟩, (by repeat (first | exact zq | refine zx rfl ?_ | refine zt rfl rfl ?_)), by repeat (first | exact List.Perm.nil | refine zK 0 rfl ?_ | refine zK 1 rfl ?_ | refine zK 2 rfl ?_ | refine zK 3 rfl ?_ | (refine zF 0 rfl ?hq ?_; (case hq => simp [zW, zj]; done)) | (refine zF 1 rfl ?hq ?_; (case hq => simp [zW, zj]; done)) | (refine zF 2 rfl ?hq ?_; (case hq => simp [zW, zj]; done)) | (refine zF 3 rfl ?hq ?_; (case hq => simp [zW, zj]; done)) | fail)⟩
  ·try simp at h2
   refine z7 ?_
   refine zag ?_
   refine zjL ?_
   refine zT ?_
   refine zk ?_
   refine zdi [9, 64, 65, 66, 67, 68, 69, 70, 71, 72, 73, 74, 75, 76, 77, 78, 79, 80, 81, 82, 83, 84, 85, 86, 87, 88, 89, 90, 91, 92, 93, 94, 95, 96, 97, 98, 99, 100, 101, 102, 103, 104, 105, 106, 107, 108, 109, 110, 111] (fun (q : List ReplyS × Nat) => []) (fun (q : List ReplyS × Nat) => [St b l q.2, .arr u 4 (q.1.map zbA)]) (fun (q : List ReplyS × Nat) => q.1.length ≤ 12 ∧ (∀ x ∈ q.1, Sh x.Offer) ∧ q.2 ≤ a + 100) ?_ ?_
   ·skip
    refine za ?_
    refine dmv rfl ?_
    first
    | refine de rfl (zaA (i := 0) zb5 rfl rfl ?_)
    | refine de rfl (zaA (i := 1) zb5 rfl rfl ?_)
    | refine de rfl (zaA (i := 2) zb5 rfl rfl ?_)
    | refine de rfl (zaA (i := 3) zb5 rfl rfl ?_)
    refine dq (zaT rfl rfl) ?_
    refine dmv rfl ?_
    refine dg rfl rfl (fun hc => ⟨_, OpenTo.refl _, zf rfl⟩) ?_
    refine dgx (fun x M' => ∃ (y : Bool) (a3 : Nat), x = .bool y ∧ a3 ≤ a2 + 1 ∧ M' = [St b l a3, .arr u 4 (out.map zbA)]) rfl rfl (fun hc => ⟨_, false, a2, rfl, by omega, rfl⟩) (fun hc => ⟨_, OpenTo.upd (t := 68) rfl (by first | exact hc | simp_all) (OpenTo.refl _), ze (i := 0) zep rfl (WeakL.refl _) rfl (zap (a := a2) (by omega) (by omega)) (fun h M' hh => by
     obtain ⟨y, h1, h2⟩ := hh
     exact ⟨y, a2 + 1, h1, by omega, by rw [h2]; rfl⟩)⟩) ?_
    rintro _ _ ⟨y, a3, rfl, ha3, rfl⟩
    refine dq (zG rfl (.inr ⟨_, rfl, fun h => by simp_all⟩) (.inl rfl)) ?_
    refine dn ?_
    refine zl rfl (fun h5 => ?_) (fun h6 => ?_)
    ·try simp at h5
     have ho0 : 0 < out.length := by simp_all
     refine zc6 (i := 1) rfl (fun h0 he => ?_) (fun ob off cap hv hcap => ?_)
     ·exfalso; have := congrArg List.length he; simp at this; subst this; simp at ho0
     subst hv
     refine za ?_
     refine dmv rfl ?_
     refine dmv rfl ?_
     refine dmv rfl ?_
     first
     | refine de rfl (zaA (i := 0) zb5 rfl rfl ?_)
     | refine de rfl (zaA (i := 1) zb5 rfl rfl ?_)
     | refine de rfl (zaA (i := 2) zb5 rfl rfl ?_)
     | refine de rfl (zaA (i := 3) zb5 rfl rfl ?_)
     first
     | refine de rfl (ze (i := 0) zdy rfl (WeakL.refl _) rfl (zab (by first | assumption | omega | (simp; omega) | simp_all) (by first | assumption | omega | (simp; omega) | simp_all)) ?_)
     | refine de rfl (ze (i := 1) zdy rfl (WeakL.refl _) rfl (zab (by first | assumption | omega | (simp; omega) | simp_all) (by first | assumption | omega | (simp; omega) | simp_all)) ?_)
     | refine de rfl (ze (i := 2) zdy rfl (WeakL.refl _) rfl (zab (by first | assumption | omega | (simp; omega) | simp_all) (by first | assumption | omega | (simp; omega) | simp_all)) ?_)
     | refine de rfl (ze (i := 3) zdy rfl (WeakL.refl _) rfl (zab (by first | assumption | omega | (simp; omega) | simp_all) (by first | assumption | omega | (simp; omega) | simp_all)) ?_)
     rintro _ _ ⟨y75, rfl, hy75, rfl⟩
     refine dq (za1 (j := y75) zb5 zS rfl rfl rfl (by simp; omega)) ?_
     refine das rfl ?_
     refine dn ?_
     obtain ⟨x, hx⟩ : ∃ x, out[y75]? = some x := ⟨_, List.getElem?_eq_getElem (by omega)⟩
     refine zbZ (fun M => ∃ i : Nat, M[i]? = some (.arr (.slice (some ⟨ob, off, none⟩) (out.map zbA).length cap) 4 (out.map zbA))) [8, 15, 22] mixed ?_
     refine ahp 0 rfl rfl (by kernel_rfl) (by kernel_rfl) (zf rfl) ?_
     refine ahp 1 rfl rfl (by kernel_rfl) (by kernel_rfl) (zf rfl) ?_
     refine ahp 2 rfl rfl (by kernel_rfl) (by kernel_rfl) (zf rfl) ?_
     refine ahp 3 rfl rfl (by kernel_rfl) (by kernel_rfl) (zf rfl) ?_
     refine ahp 4 rfl rfl (by kernel_rfl) (by kernel_rfl) (zf rfl) ?_
     refine ahp 5 rfl rfl (by kernel_rfl) (by kernel_rfl) (zf rfl) ?_
     refine ahp 6 rfl rfl (by kernel_rfl) (by kernel_rfl) ((by first | exact zn rfl | exact zg rfl)) ?_
     refine ahp 7 rfl rfl (by kernel_rfl) (by kernel_rfl) ((by first | exact zd zS rfl ty9 (by decide) rfl | exact zb zS rfl ty9 (by decide) rfl)) ?_
     refine ahl 8 rfl rfl (by kernel_rfl) (by kernel_rfl) (by simp) ⟨1, rfl⟩ (fun M hM => by obtain ⟨i, hi⟩ := hM; exact za6 (i := i) (j := y75) 0 ty9 rfl (by omega) hi hx rfl rfl ⟨rfl, rfl⟩) ?_
     refine ahp 9 rfl rfl (by kernel_rfl) (by kernel_rfl) (zE (hs := [_, _]) zQ ty9 rfl rfl (by decide) (by decide) rfl) ?_
     refine ahp 11 rfl rfl (by kernel_rfl) (by kernel_rfl) (zf rfl) ?_
     refine ahp 12 rfl rfl (by kernel_rfl) (by kernel_rfl) (zf rfl) ?_
     refine ahp 13 rfl rfl (by kernel_rfl) (by kernel_rfl) ((by first | exact zn rfl | exact zg rfl)) ?_
     refine ahp 14 rfl rfl (by kernel_rfl) (by kernel_rfl) ((by first | exact zd zS rfl ty9 (by decide) rfl | exact zb zS rfl ty9 (by decide) rfl)) ?_
     refine ahl 15 rfl rfl (by kernel_rfl) (by kernel_rfl) (by simp) ⟨1, rfl⟩ (fun M hM => by obtain ⟨i, hi⟩ := hM; exact za6 (i := i) (j := y75) 1 ty9 rfl (by omega) hi hx rfl rfl ⟨rfl, rfl⟩) ?_
     refine ahp 16 rfl rfl (by kernel_rfl) (by kernel_rfl) (zE (hs := [_, _]) zQ ty9 rfl rfl (by decide) (by decide) rfl) ?_
     refine ahp 18 rfl rfl (by kernel_rfl) (by kernel_rfl) (zf rfl) ?_
     refine ahp 19 rfl rfl (by kernel_rfl) (by kernel_rfl) (zf rfl) ?_
     refine ahp 20 rfl rfl (by kernel_rfl) (by kernel_rfl) ((by first | exact zn rfl | exact zg rfl)) ?_
     refine ahp 21 rfl rfl (by kernel_rfl) (by kernel_rfl) ((by first | exact zd zS rfl ty3 (by decide) rfl | exact zb zS rfl ty3 (by decide) rfl)) ?_
     refine ahl 22 rfl rfl (by kernel_rfl) (by kernel_rfl) (by simp) ⟨1, rfl⟩ (fun M hM => by obtain ⟨i, hi⟩ := hM; exact za6 (i := i) (j := y75) 2 ty3 rfl (by omega) hi hx rfl rfl ⟨rfl, rfl⟩) ?_
     refine ahp 23 rfl rfl (by kernel_rfl) (by kernel_rfl) (zE (hs := [_, _, _]) zbh ty3 rfl rfl (by decide) (by decide) rfl) ?_
     refine ahp 25 rfl rfl (by kernel_rfl) (by kernel_rfl) (zf rfl) ?_
     refine ahe 10 rfl (by kernel_rfl) ?_
     first
     | refine zv rfl (ze (i := 0) zaF rfl (WeakL.refl _) rfl (zi (L := [_, _]) (by first | assumption | omega | (simp; omega) | simp_all) (by first | assumption | omega | (simp; omega) | simp_all) (by first | assumption | omega | (simp; omega) | simp_all)) ?_)
     | refine zv rfl (ze (i := 1) zaF rfl (WeakL.refl _) rfl (zi (L := [_, _]) (by first | assumption | omega | (simp; omega) | simp_all) (by first | assumption | omega | (simp; omega) | simp_all) (by first | assumption | omega | (simp; omega) | simp_all)) ?_)
     | refine zv rfl (ze (i := 2) zaF rfl (WeakL.refl _) rfl (zi (L := [_, _]) (by first | assumption | omega | (simp; omega) | simp_all) (by first | assumption | omega | (simp; omega) | simp_all) (by first | assumption | omega | (simp; omega) | simp_all)) ?_)
     | refine zv rfl (ze (i := 3) zaF rfl (WeakL.refl _) rfl (zi (L := [_, _]) (by first | assumption | omega | (simp; omega) | simp_all) (by first | assumption | omega | (simp; omega) | simp_all) (by first | assumption | omega | (simp; omega) | simp_all)) ?_)
     rintro _ _ ⟨y87, rfl, hy87, rfl⟩
     refine ⟨fun _ => by first | exact .inl ⟨0, rfl⟩ | exact .inl ⟨1, rfl⟩ | exact .inl ⟨2, rfl⟩ | exact .inr (by simp [zaq, Region.binds]), ?_⟩
     refine ahe 17 rfl (by kernel_rfl) ?_
     first
     | refine zv rfl (ze (i := 0) zaF rfl (WeakL.refl _) rfl (zi (L := [_, _]) (by first | assumption | omega | (simp; omega) | simp_all) (by first | assumption | omega | (simp; omega) | simp_all) (by first | assumption | omega | (simp; omega) | simp_all)) ?_)
     | refine zv rfl (ze (i := 1) zaF rfl (WeakL.refl _) rfl (zi (L := [_, _]) (by first | assumption | omega | (simp; omega) | simp_all) (by first | assumption | omega | (simp; omega) | simp_all) (by first | assumption | omega | (simp; omega) | simp_all)) ?_)
     | refine zv rfl (ze (i := 2) zaF rfl (WeakL.refl _) rfl (zi (L := [_, _]) (by first | assumption | omega | (simp; omega) | simp_all) (by first | assumption | omega | (simp; omega) | simp_all) (by first | assumption | omega | (simp; omega) | simp_all)) ?_)
     | refine zv rfl (ze (i := 3) zaF rfl (WeakL.refl _) rfl (zi (L := [_, _]) (by first | assumption | omega | (simp; omega) | simp_all) (by first | assumption | omega | (simp; omega) | simp_all) (by first | assumption | omega | (simp; omega) | simp_all)) ?_)
     rintro _ _ ⟨y94, rfl, hy94, rfl⟩
     refine ⟨fun _ => by first | exact .inl ⟨0, rfl⟩ | exact .inl ⟨1, rfl⟩ | exact .inl ⟨2, rfl⟩ | exact .inr (by simp [zaq, Region.binds]), ?_⟩
     refine ahe 24 rfl (by kernel_rfl) ?_
     first
     | refine zv rfl (ze (i := 0) zX rfl (WeakL.refl _) rfl (zc (L := [_, _, _]) (by first | assumption | omega | (simp; omega) | simp_all) (by first | assumption | omega | (simp; omega) | simp_all) (by first | assumption | omega | (simp; omega) | simp_all)) ?_)
     | refine zv rfl (ze (i := 1) zX rfl (WeakL.refl _) rfl (zc (L := [_, _, _]) (by first | assumption | omega | (simp; omega) | simp_all) (by first | assumption | omega | (simp; omega) | simp_all) (by first | assumption | omega | (simp; omega) | simp_all)) ?_)
     | refine zv rfl (ze (i := 2) zX rfl (WeakL.refl _) rfl (zc (L := [_, _, _]) (by first | assumption | omega | (simp; omega) | simp_all) (by first | assumption | omega | (simp; omega) | simp_all) (by first | assumption | omega | (simp; omega) | simp_all)) ?_)
     | refine zv rfl (ze (i := 3) zX rfl (WeakL.refl _) rfl (zc (L := [_, _, _]) (by first | assumption | omega | (simp; omega) | simp_all) (by first | assumption | omega | (simp; omega) | simp_all) (by first | assumption | omega | (simp; omega) | simp_all)) ?_)
     rintro _ _ ⟨y101, rfl, hy101, rfl⟩
     refine ⟨fun _ => by first | exact .inl ⟨0, rfl⟩ | exact .inl ⟨1, rfl⟩ | exact .inl ⟨2, rfl⟩ | exact .inr (by simp [zaq, Region.binds]), ?_⟩
     refine ahe 26 rfl (by kernel_rfl) ?_
     first
     | refine zv rfl (ze (i := 0) zet rfl (WeakL.refl _) rfl (zav (by first | assumption | omega | (simp; omega) | simp_all) (by first | assumption | omega | (simp; omega) | simp_all) (by first | assumption | omega | (simp; omega) | simp_all) (by first | assumption | omega | (simp; omega) | simp_all)) ?_)
     | refine zv rfl (ze (i := 1) zet rfl (WeakL.refl _) rfl (zav (by first | assumption | omega | (simp; omega) | simp_all) (by first | assumption | omega | (simp; omega) | simp_all) (by first | assumption | omega | (simp; omega) | simp_all) (by first | assumption | omega | (simp; omega) | simp_all)) ?_)
     | refine zv rfl (ze (i := 2) zet rfl (WeakL.refl _) rfl (zav (by first | assumption | omega | (simp; omega) | simp_all) (by first | assumption | omega | (simp; omega) | simp_all) (by first | assumption | omega | (simp; omega) | simp_all) (by first | assumption | omega | (simp; omega) | simp_all)) ?_)
     | refine zv rfl (ze (i := 3) zet rfl (WeakL.refl _) rfl (zav (by first | assumption | omega | (simp; omega) | simp_all) (by first | assumption | omega | (simp; omega) | simp_all) (by first | assumption | omega | (simp; omega) | simp_all) (by first | assumption | omega | (simp; omega) | simp_all)) ?_)
     rintro _ _ ⟨y103, rfl, rfl⟩
     refine ⟨fun _ => by first | exact .inl ⟨0, rfl⟩ | exact .inl ⟨1, rfl⟩ | exact .inl ⟨2, rfl⟩ | exact .inr (by simp [zaq, Region.binds]), ?_⟩
     refine ahp 27 rfl rfl (by kernel_rfl) (by kernel_rfl) ((by first | exact zn rfl | exact zg rfl)) ?_
     refine ahp 28 rfl rfl (by kernel_rfl) (by kernel_rfl) ((by first | exact zd zS rfl ty9 (by decide) rfl | exact zb zS rfl ty9 (by decide) rfl)) ?_
     refine ahe 29 rfl (by kernel_rfl) ?_
     refine zae (za3 (i := 1) (j := y75) (f := 0) (y := zbA x) (y' := zbA ⟨y87, x.Team, x.At, x.Kind⟩) ty9 rfl (by omega) rfl rfl (zce hx) rfl rfl (by simp [zj]) rfl ?_)
     refine ⟨fun _ => .inr (by simp [zaq, Region.binds]), ?_⟩
     refine ahp 30 rfl rfl (by kernel_rfl) (by kernel_rfl) ((by first | exact zn rfl | exact zg rfl)) ?_
     refine ahp 31 rfl rfl (by kernel_rfl) (by kernel_rfl) ((by first | exact zd zS rfl ty9 (by decide) rfl | exact zb zS rfl ty9 (by decide) rfl)) ?_
     refine ahe 32 rfl (by kernel_rfl) ?_
     refine zae (za3 (i := 1) (j := y75) (f := 1) (y := zbA ⟨y87, x.Team, x.At, x.Kind⟩) (y' := zbA ⟨y87, y94, x.At, x.Kind⟩) ty9 rfl (by omega) rfl rfl (zcm (zce hx)) rfl rfl (by simp [zj]) rfl ?_)
     refine ⟨fun _ => .inr (by simp [zaq, Region.binds]), ?_⟩
     refine ahp 33 rfl rfl (by kernel_rfl) (by kernel_rfl) ((by first | exact zn rfl | exact zg rfl)) ?_
     refine ahp 34 rfl rfl (by kernel_rfl) (by kernel_rfl) ((by first | exact zd zS rfl ty3 (by decide) rfl | exact zb zS rfl ty3 (by decide) rfl)) ?_
     refine ahe 35 rfl (by kernel_rfl) ?_
     refine zae (za3 (i := 1) (j := y75) (f := 2) (y := zbA ⟨y87, y94, x.At, x.Kind⟩) (y' := zbA ⟨y87, y94, y101, x.Kind⟩) ty3 rfl (by omega) rfl rfl (zcm (zcm (zce hx))) rfl rfl (by simp [zj]) rfl ?_)
     refine ⟨fun _ => .inr (by simp [zaq, Region.binds]), ?_⟩
     refine ahp 36 rfl rfl (by kernel_rfl) (by kernel_rfl) ((by first | exact zn rfl | exact zg rfl)) ?_
     refine ahp 37 rfl rfl (by kernel_rfl) (by kernel_rfl) ((by first | exact zd zS rfl ty3 (by decide) rfl | exact zb zS rfl ty3 (by decide) rfl)) ?_
     refine ahe 38 rfl (by kernel_rfl) ?_
     refine zae (za3 (i := 1) (j := y75) (f := 3) (y := zbA ⟨y87, y94, y101, x.Kind⟩) (y' := zbA ⟨y87, y94, y101, y103⟩) ty3 rfl (by omega) rfl rfl (zcm (zcm (zcm (zce hx)))) rfl rfl (by simp [zj]) rfl ?_)
     refine ⟨fun _ => .inr (by simp [zaq, Region.binds]), ?_⟩
     refine ahz (by kernel_rfl) ?_
     exact ⟨(out.set y75 ⟨y87, y94, y101, y103⟩, a3 + 6), ⟨by simp; omega, zfm (P := znH) g2 (by simp at hy87; rcases hy87 with rfl | rfl; exact g2 x (List.mem_of_getElem? hx); exact zkg), by dsimp only; omega⟩, trivial, (by repeat (first | exact zq | refine zx rfl ?_ | refine zt rfl rfl ?_)), by repeat (first | exact List.Perm.nil | refine zK 0 rfl ?_ | refine zK 1 rfl ?_ | refine zK 2 rfl ?_ | refine zK 3 rfl ?_ | (refine zF 0 rfl ?hq ?_; (case hq => simp [zW, zj]; done)) | (refine zF 1 rfl ?hq ?_; (case hq => simp [zW, zj]; done)) | (refine zF 2 rfl ?hq ?_; (case hq => simp [zW, zj]; done)) | (refine zF 3 rfl ?hq ?_; (case hq => simp [zW, zj]; done)) | fail)⟩
    ·try simp at h6
     refine zo ?_
     exact ⟨(out, a3), ⟨by dsimp only; omega, g2, by dsimp only; omega⟩, trivial, (by repeat (first | exact zq | refine zx rfl ?_ | refine zt rfl rfl ?_)), by repeat (first | exact List.Perm.nil | refine zK 0 rfl ?_ | refine zK 1 rfl ?_ | refine zK 2 rfl ?_ | refine zK 3 rfl ?_ | (refine zF 0 rfl ?hq ?_; (case hq => simp [zW, zj]; done)) | (refine zF 1 rfl ?hq ?_; (case hq => simp [zW, zj]; done)) | (refine zF 2 rfl ?hq ?_; (case hq => simp [zW, zj]; done)) | (refine zF 3 rfl ?hq ?_; (case hq => simp [zW, zj]; done)) | fail)⟩
   ·intro q hq3
    obtain ⟨k1, a4⟩ := q
    dsimp only at hq3
    obtain ⟨q1, q2, q3⟩ := hq3
    refine za ?_
    refine dmv rfl ?_
    refine das rfl ?_
    refine dn ?_
    refine zp ?_
    refine zbO (Ghost.fa 4 (i := 1) rfl rfl) rfl ⟨k1, a4, rfl, ⟨q1, q2⟩, by omega, rfl⟩
end
end Go.Proofs.YtpcaaekefgkhjaaGreatDoor
