/- Part 3 of the proof: a program logic, contracts of functions and plain facts; no conditions. -/
import Derived.Test.YtjecenjmphpmfaaGreatDoorQCountsTurned2
import Derived.Ground.Names2Prog
import Derived.KernelRfl
import Derived.Shelf.SlMaps.Clone
import Derived.Shelf.Slices.CompactI
import Derived.Shelf.Slices.CompactS
import Derived.Shelf.Slices.Delete
import Derived.Shelf.Slices.In.SortNone
import Derived.Shelf.Sort.Plain
import Derived.Shelf.Strconv.Atoi
import Derived.Shelf.Strconv.Itoa3
import Derived.Shelf.Strings.Prefix
import Derived.Test.YtjecenjmphpmfaaGreatDoorProg
set_option linter.unusedVariables false
set_option linter.unusedSimpArgs false
namespace Go.Proofs.YtjecenjmphpmfaaGreatDoor
set_option maxRecDepth 100000
set_option linter.unusedVariables false
set_option linter.unusedSimpArgs false
section
open Go.HL
/-- benchwarmer/play.undone -/
theorem zoK [Tracks] {l : List Play} {n : Int} (hl : l.length ≤ 1000000) : Con Tryz.prog 99 [zbD l, .int .i64 n] [] (fun x M' => ∃ b, x = .raw (.map (some b)) ∧ M' = [.map b (kk ziX (em HVal.bool (zjA l n)))]) := by
 refine Con.of_body Tryz.func99 rfl Tryz.ntmps99 rfl rfl ?_
 refine za ?_
 refine das rfl ?_
 refine dn ?_
 refine za ?_
 refine de rfl (za1 fun m14 => ?_)
 refine das rfl ?_
 refine dn ?_
 refine zf ?_
 refine za ?_
 refine dmv rfl ?_
 refine dq (zL zaC rfl) ?_
 refine dmv rfl ?_
 refine dn ?_
 refine zn ?_
 refine zak [7, 17, 18, 19, 20, 21, 22, 23, 24, 25, 26, 27, 28, 29, 30, 31, 32] (fun (k : Nat) => [(17, .int .i64 k)]) (fun (k : Nat) => [.map m14 (kk ziX (em zR (zeS (l.take k) n)))]) (fun (k : Nat) => k ≤ l.length ∧ (True)) (fun (k : Nat) => l.length - k) (0) ?_ ?_ ?_ ?_
 ·exact ⟨Nat.zero_le _, trivial⟩
 ·exact ⟨rfl, trivial⟩
 ·exact List.Perm.refl _
 ·intro k hinv
  obtain ⟨hk, -⟩ := hinv
  refine za ?_
  refine dq (zW rfl rfl) ?_
  refine dn ?_
  refine zf ?_
  refine zi rfl (fun h1 => ?_) (fun h2 => ?_)
  ·try simp at h1
   obtain ⟨x, hx⟩ : ∃ x, l[k]? = some x := ⟨_, List.getElem?_eq_getElem h1⟩
   have hdx := zX hx
   refine zl ?_
   refine ze ?_
   refine zf ?_
   refine zn ?_
   refine za ?_
   refine dq (zP zaC zm rfl rfl rfl (by assumption)) ?_
   refine dq (zN zm rfl rfl rfl rfl) ?_
   refine de rfl (z8 zm rfl fun b7 => ?_)
   refine de0 (zae zm rfl rfl rfl rfl rfl ?_)
   refine dn ?_
   refine zH (Ghost.fc0 7 rfl) ?_
   refine za ?_
   refine dq (zb zm rfl ty3 (by decide) rfl) ?_
   refine dq (zc ty3 rfl rfl rfl) ?_
   refine dmv rfl ?_
   refine dq (zc1 rfl rfl) ?_
   refine dn ?_
   refine zi rfl (fun h3 => ?_) (fun h4 => ?_)
   ·try simp at h3
    refine zB ?_
    refine dmv rfl ?_
    refine dq (zb zm rfl ty9 (by decide) rfl) ?_
    refine dq (zc ty9 rfl rfl rfl) ?_
    refine dq (zb zm rfl ty3 (by decide) rfl) ?_
    refine dq (zc ty3 rfl rfl rfl) ?_
    refine dq (zaw (cs := [_, _]) zhM zr9 rfl) ?_
    refine dq (zN zm rfl rfl rfl rfl) ?_
    refine de0 (zdC (i := 0) (s := (x.Source, x.No)) (v := x) zu6 zo8 rfl rfl rfl rfl ?_)
    refine dn ?_
    refine zG ?_
    refine ze ?_
    refine zB ?_
    refine dq (zC rfl rfl (by omega) (by omega)) ?_
    refine dmv rfl ?_
    refine dn ?_
    exact ⟨k + 1, ⟨by omega, trivial⟩, by dsimp only; omega, ⟨rfl, trivial⟩, (by repeat (first | exact zp | refine zt rfl ?_ | refine zq rfl rfl ?_)), zS (by dsimp only; rw [zkG hx, ziT, if_pos (by simpa using h3)]; try rfl)⟩
   ·try simp at h4
    refine zl ?_
    refine zG ?_
    refine ze ?_
    refine zB ?_
    refine dq (zC rfl rfl (by omega) (by omega)) ?_
    refine dmv rfl ?_
    refine dn ?_
    exact ⟨k + 1, ⟨by omega, trivial⟩, by dsimp only; omega, ⟨rfl, trivial⟩, (by repeat (first | exact zp | refine zt rfl ?_ | refine zq rfl rfl ?_)), zS (by dsimp only; rw [zkG hx, ziT, if_neg (by simpa using h4)]; try rfl)⟩
  ·try simp at h2
   have hnk : l.length ≤ k := by omega
   obtain rfl : k = l.length := by omega
   refine zU ?_
   refine z6 ?_
   refine zas ?_
   refine zJ ?_
   refine ze ?_
   rw [List.take_length]
   refine za ?_
   refine de rfl (za1 fun m33 => ?_)
   refine das rfl ?_
   refine dn ?_
   refine zf ?_
   refine za ?_
   refine dmv rfl ?_
   refine dq (zL zaC rfl) ?_
   refine dmv rfl ?_
   refine dn ?_
   refine zn ?_
   refine zak [10, 11, 12, 13, 36, 37, 38, 39, 40, 41, 42, 43, 44, 45, 46, 47, 48, 49, 50, 51, 52, 53, 54, 55, 56, 57, 58, 59, 60, 61, 62, 63, 64, 65, 66, 67, 68, 69, 70, 71, 72, 73, 74, 75, 76, 77, 78, 79, 80, 81, 82, 83, 84, 85, 86, 87, 88, 89] (fun (k : Nat) => [(36, .int .i64 k)]) (fun (k : Nat) => [.map m33 (kk ziX (em HVal.bool (ze1 (zeS l n) n (l.take k)))), .map m14 (kk ziX (em zR (zeS l n)))]) (fun (k : Nat) => k ≤ l.length ∧ (True)) (fun (k : Nat) => l.length - k) (0) ?_ ?_ ?_ ?_
   ·exact ⟨Nat.zero_le _, trivial⟩
   ·exact ⟨rfl, trivial⟩
   ·exact List.Perm.refl _
   ·intro k hinv
    obtain ⟨hk, -⟩ := hinv
    refine za ?_
    refine dq (zW rfl rfl) ?_
    refine dn ?_
    refine zf ?_
    refine zi rfl (fun h5 => ?_) (fun h6 => ?_)
    ·try simp at h5
     obtain ⟨x, hx⟩ : ∃ x, l[k]? = some x := ⟨_, List.getElem?_eq_getElem h5⟩
     have hdx := zX hx
     refine zl ?_
     refine ze ?_
     refine zf ?_
     refine zn ?_
     refine za ?_
     refine dq (zP zaC zm rfl rfl rfl (by assumption)) ?_
     refine dq (zN zm rfl rfl rfl rfl) ?_
     refine de rfl (z8 zm rfl fun b10 => ?_)
     refine de0 (zae zm rfl rfl rfl rfl rfl ?_)
     refine dn ?_
     refine zH (Ghost.fc0 10 rfl) ?_
     refine zf ?_
     refine za ?_
     refine dq (zb zm rfl ty3 (by decide) rfl) ?_
     refine dq (zc ty3 rfl rfl rfl) ?_
     refine dmv rfl ?_
     refine dq (zaf rfl rfl) ?_
     refine dmv rfl ?_
     refine dg rfl rfl (fun hc => ⟨_, OpenTo.refl _, zb zm rfl ty3 (by decide) rfl⟩) ?_
     refine dg rfl rfl (fun hc => ⟨_, OpenTo.upd (t := 45) rfl (hc) (OpenTo.refl _), zc ty3 rfl rfl rfl⟩) ?_
     refine dg rfl rfl (fun hc => ⟨_, OpenTo.upd (t := 46) rfl (hc) (OpenTo.refl _), zaJ rfl rfl⟩) ?_
     refine dq (zv rfl (.inl rfl) (.inr ⟨_, rfl, fun h => by simp_all⟩)) ?_
     refine dn ?_
     refine zi rfl (fun h7 => ?_) (fun h8 => ?_)
     ·try simp at h7
      refine zU ?_
      refine z6 ?_
      refine zJ ?_
      refine ze ?_
      refine zB ?_
      refine dq (zC rfl rfl (by omega) (by omega)) ?_
      refine dmv rfl ?_
      refine dn ?_
      exact ⟨k + 1, ⟨by omega, trivial⟩, by dsimp only; omega, ⟨rfl, trivial⟩, (by repeat (first | exact zp | refine zt rfl ?_ | refine zq rfl rfl ?_)), zS (by dsimp only; rw [zgk hx, zf1, if_pos (by simpa using h7)]; try rfl)⟩
     ·try simp at h8
      refine zl ?_
      refine ze ?_
      refine za ?_
      refine dq (zb zm rfl ty9 (by decide) rfl) ?_
      refine dq (zc ty9 rfl rfl rfl) ?_
      refine dq (zb zm rfl ty3 (by decide) rfl) ?_
      refine dq (zc ty3 rfl rfl rfl) ?_
      refine dq (zaw (cs := [_, _]) zhM zr9 rfl) ?_
      refine de rfl (z8 zhM rfl fun b11 => ?_)
      refine de0 (zae zhM rfl rfl rfl rfl rfl ?_)
      refine dn ?_
      refine zH (Ghost.fc0 11 rfl) ?_
      refine za ?_
      refine dmv rfl ?_
      refine dq (zN zhM rfl rfl rfl rfl) ?_
      refine de rfl (zoH (i := 1) (s := (x.Source, x.Undo)) (z0 := zdc) zu6 zo8 zm rfl rfl rfl rfl ?_)
      refine dmv rfl ?_
      refine dq (zx rfl rfl) ?_
      refine dq (zx rfl rfl) ?_
      refine de rfl (z8 zm rfl fun b12 => ?_)
      refine de0 (zae zm rfl rfl rfl rfl rfl ?_)
      refine das rfl ?_
      refine dn ?_
      refine zH (Ghost.fc0 12 rfl) ?_
      refine za ?_
      refine dmv rfl ?_
      refine dmv rfl ?_
      refine dg rfl rfl (fun hc => ⟨_, OpenTo.refl _, zb zm rfl ty3 (by decide) rfl⟩) ?_
      refine dg rfl rfl (fun hc => ⟨_, OpenTo.upd (t := 62) rfl (hc) (OpenTo.refl _), zc ty3 rfl rfl rfl⟩) ?_
      refine dg rfl rfl (fun hc => ⟨_, OpenTo.upd (t := 63) rfl (hc) (OpenTo.refl _), zaJ rfl rfl⟩) ?_
      refine dq (zv rfl (.inr ⟨_, rfl, fun h => by simp_all⟩) (.inl rfl)) ?_
      refine dmv rfl ?_
      refine dg rfl rfl (fun hc => ⟨_, OpenTo.refl _, zb zm rfl ty9 (by decide) rfl⟩) ?_
      refine dg rfl rfl (fun hc => ⟨_, OpenTo.upd (t := 67) rfl (hc) (OpenTo.refl _), zc ty9 rfl rfl rfl⟩) ?_
      refine dg rfl rfl (fun hc => ⟨_, OpenTo.refl _, zb zm rfl ty9 (by decide) rfl⟩) ?_
      refine dg rfl rfl (fun hc => ⟨_, OpenTo.upd (t := 69) rfl (hc) (OpenTo.refl _), zc ty9 rfl rfl rfl⟩) ?_
      refine dg rfl rfl (fun hc => ⟨_, OpenTo.upd (t := 70) rfl (hc) (OpenTo.upd (t := 68) rfl (hc) (OpenTo.refl _)), zaY rfl rfl⟩) ?_
      refine dq (zv rfl (.inr ⟨_, rfl, fun h => by simp_all⟩) (.inl rfl)) ?_
      refine dmv rfl ?_
      refine dg rfl rfl (fun hc => ⟨_, OpenTo.refl _, zb zm rfl ty9 (by decide) rfl⟩) ?_
      refine dg rfl rfl (fun hc => ⟨_, OpenTo.upd (t := 74) rfl (hc) (OpenTo.refl _), zc ty9 rfl rfl rfl⟩) ?_
      refine dg rfl rfl (fun hc => ⟨_, OpenTo.refl _, zb zm rfl ty9 (by decide) rfl⟩) ?_
      refine dg rfl rfl (fun hc => ⟨_, OpenTo.upd (t := 76) rfl (hc) (OpenTo.refl _), zc ty9 rfl rfl rfl⟩) ?_
      refine dg rfl rfl (fun hc => ⟨_, OpenTo.upd (t := 77) rfl (hc) (OpenTo.upd (t := 75) rfl (hc) (OpenTo.refl _)), zaY rfl rfl⟩) ?_
      refine dq (zv rfl (.inr ⟨_, rfl, fun h => by simp_all⟩) (.inl rfl)) ?_
      refine dmv rfl ?_
      refine dg rfl rfl (fun hc => ⟨_, OpenTo.refl _, zb zm rfl ty9 (by decide) rfl⟩) ?_
      refine dg rfl rfl (fun hc => ⟨_, OpenTo.upd (t := 81) rfl (hc) (OpenTo.refl _), zc ty9 rfl rfl rfl⟩) ?_
      refine dg rfl rfl (fun hc => ⟨_, OpenTo.refl _, zb zm rfl ty9 (by decide) rfl⟩) ?_
      refine dg rfl rfl (fun hc => ⟨_, OpenTo.upd (t := 83) rfl (hc) (OpenTo.refl _), zc ty9 rfl rfl rfl⟩) ?_
      refine dg rfl rfl (fun hc => ⟨_, OpenTo.upd (t := 84) rfl (hc) (OpenTo.upd (t := 82) rfl (hc) (OpenTo.refl _)), zaY rfl rfl⟩) ?_
      refine dq (zv rfl (.inr ⟨_, rfl, fun h => by simp_all⟩) (.inl rfl)) ?_
      refine dn ?_
      refine zi rfl (fun h9 => ?_) (fun h10 => ?_)
      ·try simp at h9
       refine zB ?_
       refine dmv rfl ?_
       refine dq (zN zhM rfl rfl rfl rfl) ?_
       refine de0 (zdC (i := 0) (s := (x.Source, x.Undo)) (v := true) zvm zo8 rfl rfl rfl rfl ?_)
       refine dn ?_
       refine zG ?_
       refine ze ?_
       refine zB ?_
       refine dq (zC rfl rfl (by omega) (by omega)) ?_
       refine dmv rfl ?_
       refine dn ?_
       exact ⟨k + 1, ⟨by omega, trivial⟩, by dsimp only; omega, ⟨rfl, trivial⟩, (by repeat (first | exact zp | refine zt rfl ?_ | refine zq rfl rfl ?_)), zS (by dsimp only; rw [zgk hx, zf1, if_neg (by simp_all; try omega), if_pos (by simp_all [zhb])]; try rfl)⟩
      ·try simp at h10
       refine zl ?_
       refine zG ?_
       refine ze ?_
       refine zB ?_
       refine dq (zC rfl rfl (by omega) (by omega)) ?_
       refine dmv rfl ?_
       refine dn ?_
       exact ⟨k + 1, ⟨by omega, trivial⟩, by dsimp only; omega, ⟨rfl, trivial⟩, (by repeat (first | exact zp | refine zt rfl ?_ | refine zq rfl rfl ?_)), zS (by dsimp only; rw [zgk hx, zf1, if_neg (by simp_all; try omega), if_neg (by simp_all [zhb])]; try rfl)⟩
    ·try simp at h6
     have hnk : l.length ≤ k := by omega
     obtain rfl : k = l.length := by omega
     refine zU ?_
     refine z6 ?_
     refine zas ?_
     refine zJ ?_
     refine ze ?_
     rw [List.take_length]
     refine zH (Ghost.only (i := 0) rfl) ?_
     refine za ?_
     refine dmv rfl ?_
     refine das rfl ?_
     refine dn ?_
     refine zk ?_
     exact zaO rfl ⟨_, rfl, rfl⟩

/-- benchwarmer/play.byName -/
theorem zjG [Tracks] {a b : StatS}  : ConP Tryz.prog 105 [zaD a, zaD b] (.int .i64 (za9 a b)) := by
 refine Con.of_body Tryz.func105 rfl Tryz.ntmps105 rfl rfl ?_
 refine za ?_
 refine dq (zao rfl rfl) ?_
 refine dq (zao rfl rfl) ?_
 refine das rfl ?_
 refine dn ?_
 refine za ?_
 refine dq (zb zam rfl ty9 (by decide) rfl) ?_
 refine dq (zc ty9 rfl rfl rfl) ?_
 refine dq (zb zam rfl ty9 (by decide) rfl) ?_
 refine dq (zc ty9 rfl rfl rfl) ?_
 refine dq (zj zfC rfl (WeakL.refl _) zaE) ?_
 refine das rfl ?_
 refine dn ?_
 refine zk ?_
 refine zF rfl ?_
 rfl

/-- slices.SortFunc -/
theorem zij [Tracks] {c : StatS → StatS → Int} (hO : Go.Sort.SWO (Go.Proofs.ltOf c)) {g : FuncId} (hg : Callable Tryz.prog g) {cap : List HVal} (hc : ∀ x y, @ConP zdg Tryz.prog g (zaD x :: zaD y :: cap) (.int .i64 (c x y))) {l : List StatS} (hl : l.length ≤ 1000000) {v : Value} :
 Con Tryz.prog 104 [.raw v, .fn (.func g) [] cap] [.arr v 2 (l.map zaD)] fun x M' => ∃ l' : List StatS, x = .tup [] ∧ l'.Perm l ∧ l'.Pairwise (fun a b => ¬ c b a < 0) ∧ M' = [.arr v 2 (l'.map zaD)] :=
 zka (e := zaD) Tryz.g104 (Tryz.isAgg123) (Tryz.sizeOf123) (fun _ => rfl) (fun _ => rfl) (fun _ => rfl) hO hg hc hl

theorem zv5 [Tracks] (m : Nat) : Go.Proofs.AnyZ.SortsIn Tryz.prog Tryz.g151_ren Fence.wide m :=
 ⟨fun blk off cap ss W hH hblk hsz => callsIn_wide.2 (AnyM.slices_Sort_string Tryz.g140 blk off cap ss W hH hblk hsz), fun p cap W => callsIn_wide.2 (AnyM.slices_Sort_string_none Tryz.g140 p cap W)⟩
theorem zrW [Tracks] {b : Nat} : Con Tryz.prog 152 [.raw (.map (some b))] [] fun x M' => ∃ bx, x = .fn (.func 194) [] [.raw (.pointer (some ⟨bx, 0, none⟩))] ∧ M' = [.cells bx [.raw (.map (some b))]] :=
 zu0 (ρ := Tryz.g152_ren) Tryz.g152
theorem zm6 [Tracks] (hT : Tracks.on = false) {S : List Str} (hn : S.Nodup) (hl : ∀ s ∈ S, s.length ≤ 1000000) (hs : S.length ≤ 1000000) {b bx : Nat} :
 Con Tryz.prog 151 [.fn (.func 194) [] [.raw (.pointer (some ⟨bx, 0, none⟩))]] [.cells bx [.raw (.map (some b))], .map b (sk (zbv S))] fun x M' => ∃ v, x = .raw v ∧ M' = [.arr v 1 ((zaQ S).map .str), .map b (sk (zbv S))] :=
 zoP hT (ρ := Tryz.g151_ren) (ρk := Tryz.g152_ren) Tryz.g151 Tryz.g152 zv5 (enters_of Tryz.func140 (by kernel_rfl) rfl) (enters_of Tryz.func194 (by kernel_rfl) rfl) hn hl hs

set_option maxHeartbeats 1000000 in
/-- (benchwarmer/play.counted).lines -/
theorem zjk [Tracks] {b0 b1 : Nat} {c : List (Of2 × Int)} {S : List Str} {week : Int} (hT : Tracks.on = false) (hn : ANodup c) (hSn : S.Nodup) (hSk : ∀ s ∈ S, s.length ≤ 40) (hc : c.length ≤ 1000000) (hSl : S.length ≤ 1000000) : Con Tryz.prog 100 [.raw (.map (some b0)), .raw (.map (some b1)), .int .i64 week] [.map b0 (kk eOf (em (HVal.int .i64) c)), .map b1 (sk (zbv S))] (fun x M' => x = .tup [zcm (zeO c S week), .int .i64 (zfo c S)] ∧ M' = []) := by
 refine Con.of_body Tryz.func100 rfl Tryz.ntmps100 rfl rfl ?_
 refine za ?_
 refine das rfl ?_
 refine das rfl ?_
 refine dn ?_
 refine za ?_
 refine de rfl (za1 fun m15 => ?_)
 refine das rfl ?_
 refine dn ?_
 refine zf ?_
 refine za ?_
 refine dmv rfl ?_
 refine de rfl (zfp (i := 1) zo3 rfl rfl fun r => ?_)
 refine dn ?_
 refine zn ?_
 refine zdO [6, 7, 9, 10, 18, 19, 20, 21, 22, 23, 24, 25, 26, 27, 28, 29, 30, 31, 32, 33, 34, 35, 36, 37, 38, 39, 40, 41] (fun (vis : List Nat) (E : List (Of2 × Int)) (G : Grp StatS) => []) (fun (vis : List Nat) (E : List (Of2 × Int)) (G : Grp StatS) => [.map m15 (sk (em fG G)), .iter r b0 (kk eOf (em (HVal.int .i64) c)) vis, .map b1 (sk (zbv S))] ++ grp 2 zaD G) (fun (vis : List Nat) (E : List (Of2 × Int)) (G : Grp StatS) => VisOk (c) vis E ∧ (GOk E G ∧ ∀ y ∈ E, out y.2 (-100000) 100000 = false)) (fun (vis : List Nat) (E : List (Of2 × Int)) (G : Grp StatS) => (c).length - vis.length) ([]) ([]) ([]) ?_ ?_ ?_ ?_
 ·exact ⟨VisOk.nil _, GOk.nil, fun y h => by cases h⟩
 ·exact trivial
 ·exact zS rfl
 ·intro vis E G hinv
  obtain ⟨hvis, hG, hO⟩ := hinv
  refine za ?_
  refine de rfl (zfm (i := 1) (L := c) (enc := (fun p : Of2 × Int => (eOf p.1, HVal.int .i64 p.2))) rfl rfl (zhT _ _ _) hvis.nd hvis.lt fun cb R vis' hnx => ?_)
  refine dq (zx rfl rfl) ?_
  refine dn ?_
  refine zf ?_
  refine zi rfl (fun h1 => ?_) (fun h2 => ?_)
  ·try simp at h1
   obtain ⟨j, q, hq, hj, rfl⟩ := hnx.t h1
   have hroom := hvis.room hq hj
   have hstep := hvis.step hq hj
   have hqm := List.mem_of_getElem? hq
   refine zl ?_
   refine ze ?_
   refine zn ?_
   refine za ?_
   refine de rfl (zeL (i := 1) (L := c) (enc := (fun p : Of2 × Int => (eOf p.1, HVal.int .i64 p.2))) rfl rfl (zhT _ _ _) hq ?_)
   refine dq (zx rfl rfl) ?_
   refine dq (zx rfl rfl) ?_
   refine de rfl (z8 zjh rfl fun b9 => ?_)
   refine de0 (zae zjh rfl rfl rfl rfl rfl ?_)
   refine das rfl ?_
   refine dn ?_
   refine zH (Ghost.fc0 9 rfl) ?_
   refine zn ?_
   refine za ?_
   refine dmv rfl ?_
   refine dq (zj zjc rfl (WeakL.refl _) zcU) ?_
   refine das rfl ?_
   refine dn ?_
   refine zi rfl (fun h3 => ?_) (fun h4 => ?_)
   ·try simp at h3
    refine za ?_
    refine das rfl ?_
    refine das rfl ?_
    refine dn ?_
    refine zk ?_
    exact ⟨_, [], Ghost.clear, _, _, rfl, zah (zal 3) (Weak.refl _), by have hf := zsn (S := S) hqm (by simpa using h3); rw [zeO, zfo, hf]; rfl, rfl⟩
   ·try simp at h4
    refine za ?_
    refine dmv rfl ?_
    refine dq (zai rfl rfl) ?_
    refine das rfl ?_
    refine dn ?_
    refine zi rfl (fun h5 => ?_) (fun h6 => ?_)
    ·try simp at h5
     refine zH (Ghost.of_eq (M' := [.map m15 (sk (em fG G)), .iter r b0 (kk eOf (em (HVal.int .i64) c)) (vis ++ [j]), .map b1 (sk (zbv S))] ++ grp 2 zaD G) rfl) ?_
     refine zcQ (fun _ => True) [] mixed ?_
     refine ahp 0 rfl rfl (by kernel_rfl) (by kernel_rfl) (zd rfl) ?_
     refine ahp 1 rfl rfl (by kernel_rfl) (by kernel_rfl) ((zb zjh rfl ty9 (by decide) rfl)) ?_
     refine ahp 2 rfl rfl (by kernel_rfl) (by kernel_rfl) (zc ty9 rfl rfl rfl) ?_
     refine ahp 3 rfl rfl (by kernel_rfl) (by kernel_rfl) (zd rfl) ?_
     refine ahp 4 rfl rfl (by kernel_rfl) (by kernel_rfl) ((zb zjh rfl ty9 (by decide) rfl)) ?_
     refine ahp 5 rfl rfl (by kernel_rfl) (by kernel_rfl) (zc ty9 rfl rfl rfl) ?_
     refine ahp 7 rfl rfl (by kernel_rfl) (by kernel_rfl) ((zb zjh rfl ty9 (by decide) rfl)) ?_
     refine ahp 8 rfl rfl (by kernel_rfl) (by kernel_rfl) (zc ty9 rfl rfl rfl) ?_
     refine ahp 9 rfl rfl (by kernel_rfl) (by kernel_rfl) (zd rfl) ?_
     refine ahp 10 rfl rfl (by kernel_rfl) (by kernel_rfl) (zaw (cs := [_, _]) zam zpb rfl) ?_
     refine ahp 11 rfl rfl (by kernel_rfl) (by kernel_rfl) (zw (hs := [_]) zax zam rfl rfl (by decide) (by decide) rfl) ?_
     refine ahe 6 rfl (by kernel_rfl) ?_
     refine zau rfl (zbZ (i := 0) (z0 := gZ StatS) zsJ ty9 zax rfl rfl rfl rfl ?_)
     refine ⟨fun _ => .inl trivial, ?_⟩
     refine ahe 12 rfl (by kernel_rfl) ?_
     refine zau rfl (znw (A := [.map m15 (sk (em fG G)), .iter r b0 (kk eOf (em (HVal.int .i64) c)) (vis ++ [j]), .map b1 (sk (zbv S))]) (G := G) (s := q.1.1) (ys := [⟨q.1.2, q.2⟩]) (eb := zaD) zax zam rfl rfl rfl rfl (by simp [za5, zh]) (by have := zim E q.1.1; rw [← hG.raw] at this; have := hvis.len; simp only [List.length_cons, List.length_nil]; omega) fun v41 => ?_)
     refine ⟨fun _ => .inl trivial, ?_⟩
     refine ahe 13 rfl (by kernel_rfl) ?_
     refine zaL (zbu (i := 0) (f := fG) (L := G) (v := (v41, gL q.1.1 G ++ [⟨q.1.2, q.2⟩])) zsJ ty9 rfl rfl rfl rfl ?_)
     refine ⟨fun _ => .inl trivial, ?_⟩
     refine ahz (by kernel_rfl) ?_
     refine zG ?_
     refine zG ?_
     have hO' : ∀ y ∈ E ++ [q], out y.2 (-100000) 100000 = false := fun y hy => by
      rcases List.mem_append.1 hy with hy | hy
      ·exact hO y hy
      ·rw [List.mem_singleton.1 hy]; simpa using h4
     exact ⟨_, E ++ [q], _, ⟨hstep, hG.put (by simpa using h5) v41, hO'⟩, by dsimp only; rw [List.length_append]; simp only [List.length_cons, List.length_nil]; omega, trivial, (by repeat (first | exact zp | refine zt rfl ?_ | refine zq rfl rfl ?_)), zS rfl⟩
    ·try simp at h6
     refine zl ?_
     refine zG ?_
     refine zG ?_
     have hO' : ∀ y ∈ E ++ [q], out y.2 (-100000) 100000 = false := fun y hy => by
      rcases List.mem_append.1 hy with hy | hy
      ·exact hO y hy
      ·rw [List.mem_singleton.1 hy]; simpa using h4
     exact ⟨_, E ++ [q], G, ⟨hstep, hG.skip (by simpa using h6), hO'⟩, by dsimp only; rw [List.length_append]; simp only [List.length_cons, List.length_nil]; omega, trivial, (by repeat (first | exact zp | refine zt rfl ?_ | refine zq rfl rfl ?_)), zS rfl⟩
  ·try simp at h2
   obtain ⟨rfl, hlen⟩ := hnx.f h2
   have hEp := hvis.done hlen
   refine zU ?_
   refine z6 ?_
   refine zeH ?_
   refine zJ ?_
   refine ze ?_
   refine zH (Ghost.iterOver (i := 1) rfl) ?_
   refine zH (Ghost.of_eq (M' := [.map m15 (sk (em fG G)), .map b0 (kk eOf (em (HVal.int .i64) c)), .map b1 (sk (zbv S))] ++ grp 2 zaD G) rfl) ?_
   refine za ?_
   refine das rfl ?_
   refine dn ?_
   refine zf ?_
   refine za ?_
   refine dmv rfl ?_
   refine de rfl (za0 (M1 := []) (R := _) zw7 rfl (WeakL.refl _) (List.Perm.refl _) zrW ?_)
   rintro _ _ ⟨bx, rfl, rfl⟩
   refine de rfl (EOp.fzi (N := [.map b1 (sk (zbv S)), .map b0 (kk eOf (em (HVal.int .i64) c))] ++ ([.map m15 (sk (em fG G))] ++ grp 2 zaD G)) (sz := 1) (es := (zaQ S).map .str) 0 (za0 (M1 := [.cells bx [.raw (.map (some b1))], .map b1 (sk (zbv S))]) (R := [.map b0 (kk eOf (em (HVal.int .i64) c))] ++ ([.map m15 (sk (em fG G))] ++ grp 2 zaD G)) zx8 rfl (WeakL.refl _) (by exact zxg) (zm6 hT hSn (fun s hs => Nat.le_trans (hSk s hs) (by decide)) hSl) (by rintro _ _ ⟨v, rfl, rfl⟩; exact ⟨v, rfl, rfl, rfl⟩)) ?_)
   refine dq (zL zaj rfl) ?_
   refine dmv rfl ?_
   refine dn ?_
   refine zH (Ghost.suffix (R := [_, _])) ?_
   refine zH (Ghost.arr_nil 3) ?_
   have hSSl : (zaQ S).length ≤ 1000000 := by rw [zfl]; exact hSl
   have hSS : (zaQ S).Nodup := (zfI S).nodup_iff.2 hSn
   refine zn ?_
   refine zaI [6, 7, 11, 13, 14, 46, 47, 48, 49, 50, 51, 52, 53, 54, 55, 56, 57, 58, 59, 60, 61, 62, 63, 64, 65] (fun (k : Nat) (u : Value) => [(46, .int .i64 k), (11, .raw u)]) (fun (k : Nat) (u : Value) => [.arr u 3 (((zaQ S).take k).map fun s => zaK ⟨s, week, zbx c s⟩), .map m15 (sk (em fG G))] ++ grp 2 zaD (zfy G ((zaQ S).take k))) (fun (k : Nat) (u : Value) => k ≤ (zaQ S).length ∧ (∀ s ∈ (zaQ S).take k, ¬ 40 < (zaW c s).length)) (fun (k : Nat) (u : Value) => (zaQ S).length - k) (0) (.slice none 0 0) ?_ ?_ ?_ ?_
   ·exact ⟨Nat.zero_le _, fun s h => by simp at h⟩
   ·exact ⟨rfl, rfl, trivial⟩
   ·exact zS (by simp [ztZ])
   ·intro k u hinv
    obtain ⟨hk, hg⟩ := hinv
    refine za ?_
    refine dq (zW rfl rfl) ?_
    refine dn ?_
    refine zf ?_
    refine zi rfl (fun h7 => ?_) (fun h8 => ?_)
    ·try simp at h7
     obtain ⟨x, hx⟩ : ∃ x, (zaQ S)[k]? = some x := ⟨_, List.getElem?_eq_getElem h7⟩
     have hdx := zX hx
     refine zl ?_
     refine ze ?_
     refine zf ?_
     refine zn ?_
     refine za ?_
     refine dq (zP zaj ty9 rfl rfl rfl (by assumption)) ?_
     refine dq (zc ty9 rfl rfl rfl) ?_
     refine das rfl ?_
     refine dn ?_
     refine za ?_
     refine dmv rfl ?_
     refine dmv rfl ?_
     refine de rfl (zbZ (i := 1) (z0 := gZ StatS) zsJ ty9 zax rfl rfl rfl rfl ?_)
     refine das rfl ?_
     refine dn ?_
     have hnx := zsG hSS hx
     have hxS : x ∈ S := (zfI S).mem_iff.1 (List.mem_of_getElem? hx)
     refine zH (Ghost.grp_take (A := [.arr u 3 (((zaQ S).take k).map fun s => zaK ⟨s, week, zbx c s⟩), .map m15 (sk (em fG G))]) (G := zfy G ((zaQ S).take k)) (G' := G) (s := x) (zsr hG.nd) (zuh hnx)) ?_
     rw [zsN]
     refine zf ?_
     refine za ?_
     refine dmv rfl ?_
     refine de rfl (zbj (i := 0) (es := gL x G) zax rfl rfl ?_)
     refine dq (zaf rfl rfl) ?_
     refine dn ?_
     refine zi rfl (fun h9 => ?_) (fun h10 => ?_)
     ·try simp at h9
      refine za ?_
      refine das rfl ?_
      refine das rfl ?_
      refine dn ?_
      refine zk ?_
      exact ⟨_, [], Ghost.clear, _, _, rfl, zah (zal 3) (Weak.refl _), by have hf := zr4 (c := c) hxS (by rw [← zpz hEp hG]; omega); rw [zeO, zfo, hf]; rfl, rfl⟩
     ·try simp at h10
      refine zl ?_
      refine ze ?_
      refine za ?_
      refine dmv rfl ?_
      refine de rfl (za0 (M1 := [.arr (gV x G) 2 ((gL x G).map zaD)]) (R := [.arr u 3 (((zaQ S).take k).map fun s => zaK ⟨s, week, zbx c s⟩), .map m15 (sk (em fG G))] ++ grp 2 zaD (zfy G ((zaQ S).take k ++ [x]))) zr3 rfl (WeakL.refl _) (List.Perm.refl _) (zij (c := za9) (zga zbT) zvo (fun _ _ => @zjG zdg _ _) (l := gL x G) (by have := zim c x; rw [zpz hEp hG]; omega)) ?_)
      rintro _ _ ⟨l', rfl, hp', hw', rfl⟩
      obtain rfl := zpX hEp hn hG hp' hw'
      refine dn ?_
      refine zH (Ghost.fa 14 (i := 0) rfl rfl) ?_
      refine zB ?_
      refine dmv rfl ?_
      refine dmv rfl ?_
      refine dmv rfl ?_
      refine dmv rfl ?_
      refine dq (zaw (cs := [_, _, _]) zag zpt rfl) ?_
      refine dq (zw (hs := [_]) zbl zag rfl rfl (by decide) (by decide) rfl) ?_
      refine de rfl (zan (i := 0) zbl zag rfl rfl rfl rfl rfl (by simp [za5, zh]) (by have := zfl S; simp only [List.length_map, List.length_cons, List.length_nil, List.length_take]; omega) fun v64 => ?_)
      refine das rfl ?_
      refine dn ?_
      refine zG ?_
      refine ze ?_
      refine zB ?_
      refine dq (zC rfl rfl (by omega) (by omega)) ?_
      refine dmv rfl ?_
      refine dn ?_
      refine ⟨k + 1, v64, ⟨by omega, fun s hs => ?_⟩, by dsimp only; omega, ⟨rfl, rfl, trivial⟩, (by repeat (first | exact zp | refine zt rfl ?_ | refine zq rfl rfl ?_)), zS (by dsimp only; rw [zad hx, List.map_append]; rfl)⟩
      rw [zad hx] at hs
      rcases List.mem_append.1 hs with hs | hs
      ·exact hg s hs
      ·rw [List.mem_singleton.1 hs, ← zpz hEp hG]; omega
    ·try simp at h8
     have hnk : (zaQ S).length ≤ k := by omega
     obtain rfl : k = (zaQ S).length := by omega
     refine zU ?_
     refine z6 ?_
     refine zaR ?_
     refine zJ ?_
     refine ze ?_
     rw [List.take_length] at hg ⊢
     refine zH (Ghost.only (i := 0) rfl) ?_
     refine za ?_
     refine dmv rfl ?_
     refine das rfl ?_
     refine das rfl ?_
     refine dn ?_
     refine zk ?_
     (refine zkr (M := []) 6 rfl rfl ?_
      have hf := ztA (c := c) (S := S) (fun y hy => hO y (hEp.mem_iff.2 hy)) (fun s hs => hg s ((zfI S).mem_iff.2 hs))
      rw [zeO, zfo, hf]; simp [Function.comp_def, zbh, zcf])

end
section
open Go.HL
set_option maxHeartbeats 1000000 in
/-- benchwarmer/play.lines -/
theorem zkJ [Tracks] {l : List Play} {trust : List Str} {week n : Int} (hT : Tracks.on = false) (hl : l.length ≤ 3000) (ht : trust.length ≤ 1000000) (ok : ∀ x ∈ l, playFault x = 0) : ConP Tryz.prog 61 [zbD l, eSs trust, .int .i64 week, .int .i64 n] (.tup [zcm (zcx l trust week n), .int .i64 (zaS l trust week n)]) := by
 refine Con.of_body Tryz.func61 rfl Tryz.ntmps61 rfl rfl ?_
 refine za ?_
 refine das rfl ?_
 refine das rfl ?_
 refine dn ?_
 refine za ?_
 refine dmv rfl ?_
 refine dmv rfl ?_
 refine dmv rfl ?_
 refine de rfl (za0 (M1 := []) (R := []) ca98 rfl (WeakL.refl _) (List.Perm.refl _) (zqO (l := l) (trust := trust) (n := n) (by omega) ht) ?_)
 rintro _ _ ⟨b19, O19, rfl, hn19, hO19, rfl⟩
 refine dmv rfl ?_
 refine dmv rfl ?_
 refine de rfl (za0 (M1 := []) (R := _) ca99 rfl (WeakL.refl _) (List.Perm.refl _) (zoK (l := l) (n := n) (by omega)) ?_)
 rintro _ _ ⟨b22, rfl, rfl⟩
 refine das rfl ?_
 refine das rfl ?_
 refine dn ?_
 refine za ?_
 refine de rfl (za1 fun m23 => ?_)
 refine de rfl (za1 fun m24 => ?_)
 refine das rfl ?_
 refine das rfl ?_
 refine dn ?_
 refine zf ?_
 refine za ?_
 refine dmv rfl ?_
 refine dq (zL zaC rfl) ?_
 refine dmv rfl ?_
 refine dn ?_
 refine zn ?_
 refine zak [15, 27, 28, 29, 30, 31, 32, 33, 34, 35, 36, 37, 38, 39, 40, 41, 42, 43, 44, 45, 46, 47, 48, 49, 50, 51, 52, 53, 54, 55, 56, 57, 58, 59, 60, 61, 62, 63, 64, 65, 66, 67, 68, 69, 70, 71, 72, 73, 74, 75, 76, 77, 78, 79] (fun (k : Nat) => [(27, .int .i64 k)]) (fun (k : Nat) => [.map m24 (kk eOf (em (HVal.int .i64) (zaB l trust week n (l.take k)).c)), .map m23 (sk (zbv (zaB l trust week n (l.take k)).S)), .map b22 (kk ziX (em HVal.bool (zjA l n))), .map b19 (sk (em HVal.str O19))]) (fun (k : Nat) => k ≤ l.length ∧ (True)) (fun (k : Nat) => l.length - k) (0) ?_ ?_ ?_ ?_
 ·exact ⟨Nat.zero_le _, trivial⟩
 ·exact ⟨rfl, trivial⟩
 ·exact zS rfl
 ·intro k hinv
  obtain ⟨hk, -⟩ := hinv
  refine za ?_
  refine dq (zW rfl rfl) ?_
  refine dn ?_
  refine zf ?_
  refine zi rfl (fun h1 => ?_) (fun h2 => ?_)
  ·try simp at h1
   obtain ⟨x, hx⟩ : ∃ x, l[k]? = some x := ⟨_, List.getElem?_eq_getElem h1⟩
   have hdx := zX hx
   refine zl ?_
   refine ze ?_
   refine zf ?_
   refine zn ?_
   refine za ?_
   refine dq (zP zaC zm rfl rfl rfl (by assumption)) ?_
   refine dq (zN zm rfl rfl rfl rfl) ?_
   refine de rfl (z8 zm rfl fun b15 => ?_)
   refine de0 (zae zm rfl rfl rfl rfl rfl ?_)
   refine dn ?_
   refine zH (Ghost.fc0 15 rfl) ?_
   refine zf ?_
   refine za ?_
   refine dq (zb zm rfl ty3 (by decide) rfl) ?_
   refine dq (zc ty3 rfl rfl rfl) ?_
   refine dmv rfl ?_
   refine dq (zaf rfl rfl) ?_
   refine dmv rfl ?_
   refine dg rfl rfl (fun hc => ⟨_, OpenTo.refl _, zb zm rfl ty3 (by decide) rfl⟩) ?_
   refine dg rfl rfl (fun hc => ⟨_, OpenTo.upd (t := 36) rfl (hc) (OpenTo.refl _), zc ty3 rfl rfl rfl⟩) ?_
   refine dg rfl rfl (fun hc => ⟨_, OpenTo.refl _, zd rfl⟩) ?_
   refine dg rfl rfl (fun hc => ⟨_, OpenTo.upd (t := 38) rfl (hc) (OpenTo.upd (t := 37) rfl (hc) (OpenTo.refl _)), zai rfl rfl⟩) ?_
   refine dq (zv rfl (.inl rfl) (.inr ⟨_, rfl, fun h => by simp_all⟩)) ?_
   refine dmv rfl ?_
   refine dg rfl rfl (fun hc => ⟨_, OpenTo.refl _, zb zm rfl ty3 (by decide) rfl⟩) ?_
   refine dg rfl rfl (fun hc => ⟨_, OpenTo.upd (t := 42) rfl (hc) (OpenTo.refl _), zc ty3 rfl rfl rfl⟩) ?_
   refine dg rfl rfl (fun hc => ⟨_, OpenTo.upd (t := 43) rfl (hc) (OpenTo.refl _), zaf rfl rfl⟩) ?_
   refine dq (zv rfl (.inl rfl) (.inr ⟨_, rfl, fun h => by simp_all⟩)) ?_
   refine dmv rfl ?_
   refine dg rfl rfl (fun hc => ⟨_, OpenTo.refl _, zd rfl⟩) ?_
   refine dg rfl rfl (fun hc => ⟨_, OpenTo.refl _, zb zm rfl ty9 (by decide) rfl⟩) ?_
   refine dg rfl rfl (fun hc => ⟨_, OpenTo.upd (t := 48) rfl (hc) (OpenTo.refl _), zc ty9 rfl rfl rfl⟩) ?_
   refine dg rfl rfl (fun hc => ⟨_, OpenTo.refl _, zb zm rfl ty3 (by decide) rfl⟩) ?_
   refine dg rfl rfl (fun hc => ⟨_, OpenTo.upd (t := 50) rfl (hc) (OpenTo.refl _), zc ty3 rfl rfl rfl⟩) ?_
   refine dg rfl rfl (fun hc => ⟨_, OpenTo.upd (t := 51) rfl (hc) (OpenTo.upd (t := 49) rfl (hc) (OpenTo.refl _)), zaw (cs := [_, _]) zhM zr9 rfl⟩) ?_
   refine dgl rfl rfl (fun hc => ⟨_, OpenTo.upd (t := 52) rfl (hc) (OpenTo.upd (t := 47) rfl (hc) (OpenTo.refl _)), zda (i := 2) (s := (x.Source, x.No)) (z0 := false) zvm zo8 ty4 rfl rfl rfl rfl ⟨rfl, rfl⟩⟩) ?_
   refine dq (zv rfl (.inl rfl) (.inr ⟨_, rfl, fun h => by simp_all⟩)) ?_
   refine dmv rfl ?_
   refine dg rfl rfl (fun hc => ⟨_, OpenTo.refl _, zd rfl⟩) ?_
   refine dg rfl rfl (fun hc => ⟨_, OpenTo.refl _, zb zm rfl ty9 (by decide) rfl⟩) ?_
   refine dg rfl rfl (fun hc => ⟨_, OpenTo.upd (t := 57) rfl (hc) (OpenTo.refl _), zc ty9 rfl rfl rfl⟩) ?_
   refine dgl rfl rfl (fun hc => ⟨_, OpenTo.upd (t := 58) rfl (hc) (OpenTo.upd (t := 56) rfl (hc) (OpenTo.refl _)), zbZ (i := 3) (z0 := ([] : Str)) zvq ty9 ty9 rfl rfl rfl rfl ⟨rfl, rfl⟩⟩) ?_
   refine dg rfl rfl (fun hc => ⟨_, OpenTo.refl _, zb zm rfl ty9 (by decide) rfl⟩) ?_
   refine dg rfl rfl (fun hc => ⟨_, OpenTo.upd (t := 60) rfl (hc) (OpenTo.refl _), zc ty9 rfl rfl rfl⟩) ?_
   refine dg rfl rfl (fun hc => ⟨_, OpenTo.upd (t := 61) rfl (hc) (OpenTo.upd (t := 59) rfl (hc) (OpenTo.refl _)), zf8 rfl rfl⟩) ?_
   refine dq (zv rfl (.inl rfl) (.inr ⟨_, rfl, fun h => by simp_all⟩)) ?_
   refine dn ?_
   refine zi rfl (fun h3 => ?_) (fun h4 => ?_)
   ·try simp at h3
    refine zU ?_
    refine z6 ?_
    refine zJ ?_
    refine ze ?_
    refine zB ?_
    refine dq (zC rfl rfl (by omega) (by omega)) ?_
    refine dmv rfl ?_
    refine dn ?_
    exact ⟨k + 1, ⟨by omega, trivial⟩, by dsimp only; omega, ⟨rfl, trivial⟩, (by repeat (first | exact zp | refine zt rfl ?_ | refine zq rfl rfl ?_)), zS (by dsimp only; rw [zhL hx, zdi, if_neg (by rw [zuK hO19 h3]; simp)])⟩
   ·try simp at h4
    refine zl ?_
    refine ze ?_
    refine za ?_
    refine dmv rfl ?_
    refine dq (zb zm rfl ty9 (by decide) rfl) ?_
    refine dq (zc ty9 rfl rfl rfl) ?_
    refine de0 (zcv (i := 1) zgi ty9 rfl rfl rfl rfl ?_)
    refine dn ?_
    have hpx := ok x (List.mem_of_getElem? hx)
    obtain ⟨_, _, _, _, _, hcb, _⟩ := zcG hpx
    have hlk := zja (l := l) (m := l.take k) (trust := trust) (week := week) (n := n) (fun y hy => ok y (List.mem_of_mem_take hy))
    have hvb := hlk.val (x.Player, x.Stat)
    have hlt : ((l.take k).length : Int) ≤ 3000 := by rw [List.length_take]; omega
    refine zcQ (fun M => M = [MObj.map m24 (kk eOf (em (HVal.int .i64) (zaB l trust week n (l.take k)).c)), MObj.map m23 (sk (zbv (zbR x.Player (zaB l trust week n (l.take k)).S))), MObj.map b22 (kk ziX (em HVal.bool (zjA l n))), MObj.map b19 (sk (em HVal.str O19))] ∨ ∃ j st, zbI (x.Player, x.Stat) (zdV (x.Player, x.Stat) (HVal.int .i64 0) (em (HVal.int .i64) (zaB l trust week n (l.take k)).c)) = some j ∧ M = [MObj.mape m24 (kk eOf (zdV (x.Player, x.Stat) (HVal.int .i64 0) (em (HVal.int .i64) (zaB l trust week n (l.take k)).c))) j st, MObj.map m23 (sk (zbv (zbR x.Player (zaB l trust week n (l.take k)).S))), MObj.map b22 (kk ziX (em HVal.bool (zjA l n))), MObj.map b19 (sk (em HVal.str O19))]) [6] mixed ?_
    refine ahp 0 rfl rfl (by kernel_rfl) (by kernel_rfl) (zd rfl) ?_
    refine ahp 1 rfl rfl (by kernel_rfl) (by kernel_rfl) (zb zm rfl ty9 (by decide) rfl) ?_
    refine ahp 2 rfl rfl (by kernel_rfl) (by kernel_rfl) (zc ty9 rfl rfl rfl) ?_
    refine ahp 3 rfl rfl (by kernel_rfl) (by kernel_rfl) (zb zm rfl ty9 (by decide) rfl) ?_
    refine ahp 4 rfl rfl (by kernel_rfl) (by kernel_rfl) (zc ty9 rfl rfl rfl) ?_
    refine ahp 5 rfl rfl (by kernel_rfl) (by kernel_rfl) (zaw (cs := [_, _]) zjh zyd rfl) ?_
    refine ahl 6 rfl rfl (by kernel_rfl) (by kernel_rfl) (by simp) (.inl rfl) (fun M hM => by
   rcases hM with rfl | ⟨j, st, hj, rfl⟩
   ·exact zda (i := 0) (s := (x.Player, x.Stat)) (z0 := (0 : Int)) zo3 zr5 ty3 rfl rfl rfl rfl ⟨rfl, rfl⟩
   ·exact zpj (i := 0) (s := (x.Player, x.Stat)) (z0 := (0 : Int)) (f := HVal.int .i64) zo3 zr5 ty3 rfl rfl rfl rfl ⟨rfl, rfl⟩) ?_
    refine ahp 7 rfl rfl (by kernel_rfl) (by kernel_rfl) (zb zm rfl ty3 (by decide) rfl) ?_
    refine ahp 8 rfl rfl (by kernel_rfl) (by kernel_rfl) (zc ty3 rfl rfl rfl) ?_
    refine ahp 9 rfl rfl (by kernel_rfl) (by kernel_rfl) (zC rfl rfl (by omega) (by omega)) ?_
    refine ahe 10 rfl (by kernel_rfl) ?_
    refine zau rfl (zoY (i := 0) (s := (x.Player, x.Stat)) (z0 := (0 : Int)) (f := HVal.int .i64) zo3 zr5 ty3 rfl rfl rfl rfl fun j77 st77 hj77 => ?_)
    refine ⟨fun _ => .inl (.inr ⟨j77, st77, hj77, rfl⟩), ?_⟩
    refine ahp 11 rfl rfl (by kernel_rfl) (by kernel_rfl) (zx rfl rfl) ?_
    refine ahe 12 rfl (by kernel_rfl) ?_
    refine zaL (zmo (i := 0) (s := (x.Player, x.Stat)) (f := HVal.int .i64) (z0 := (0 : Int)) (v := (alk (x.Player, x.Stat) (zaB l trust week n (l.take k)).c).getD 0 + x.Count) rfl rfl rfl rfl hj77 ?_)
    refine ⟨fun _ => .inr (by simp [zaT, Region.binds]), ?_⟩
    refine ahz (by kernel_rfl) ?_
    refine zG ?_
    refine ze ?_
    refine zB ?_
    refine dq (zC rfl rfl (by omega) (by omega)) ?_
    refine dmv rfl ?_
    refine dn ?_
    exact ⟨k + 1, ⟨by omega, trivial⟩, by dsimp only; omega, ⟨rfl, trivial⟩, (by repeat (first | exact zp | refine zt rfl ?_ | refine zq rfl rfl ?_)), zS (by dsimp only; rw [zhL hx, zdi, if_pos (zuk hO19 h4)]; rfl)⟩
  ·try simp at h2
   have hnk : l.length ≤ k := by omega
   obtain rfl : k = l.length := by omega
   refine zU ?_
   refine z6 ?_
   refine zas ?_
   refine zJ ?_
   refine ze ?_
   rw [List.take_length]
   have hok := zja (l := l) (m := l) (trust := trust) (week := week) (n := n) ok
   refine za ?_
   refine dmv rfl ?_
   refine dmv rfl ?_
   refine dmv rfl ?_
   refine de rfl (za0 (M1 := [_, _]) (R := [_, _]) zxV rfl (WeakL.refl _) (List.Perm.refl _) (zjk hT hok.c hok.S hok.k (Nat.le_trans hok.cl (by omega)) (Nat.le_trans hok.Sl (by omega))) ?_)
   rintro _ _ ⟨rfl, rfl⟩
   refine dq (zx rfl rfl) ?_
   refine dq (zx rfl rfl) ?_
   refine das rfl ?_
   refine das rfl ?_
   refine dn ?_
   refine zk ?_
   exact zat Ghost.clear rfl ⟨rfl, rfl⟩

/-- benchwarmer/play.Lines -/
theorem zps [Tracks] {l : List Play} {trust : List Str} {week n : Int} (hT : Tracks.on = false) (hl : l.length ≤ 1000000) (ht : trust.length ≤ 1000000) : ConP Tryz.prog 39 [zbD l, eSs trust, .int .i64 week, .int .i64 n] (.tup [zcm (ziy l trust week n), .int .i64 (ziL l trust week n)]) := by
 refine Con.of_body Tryz.func39 rfl Tryz.ntmps39 rfl rfl ?_
 refine za ?_
 refine das rfl ?_
 refine das rfl ?_
 refine dn ?_
 refine zf ?_
 refine za ?_
 refine dmv rfl ?_
 refine dq (zj zrF rfl (WeakL.refl _) (zdv (by assumption))) ?_
 refine dmv rfl ?_
 refine dq (zj ca56 rfl (WeakL.refl _) (zgK (by assumption))) ?_
 refine dq (zw (hs := [_, _]) ziY zlV rfl rfl (by decide) (by decide) rfl) ?_
 refine dq (zj ca55 rfl (WeakL.refl _) (zkE (l := [_, _]) (by simp))) ?_
 refine das rfl ?_
 refine dn ?_
 refine za ?_
 refine dmv rfl ?_
 refine dq (zai rfl rfl) ?_
 refine dn ?_
 refine zi rfl (fun h1 => ?_) (fun h2 => ?_)
 ·try simp at h1
  refine za ?_
  refine dmv rfl ?_
  refine das rfl ?_
  refine das rfl ?_
  refine dn ?_
  refine zk ?_
  exact zav rfl (zah (by rw [ziy, if_pos (by simpa using h1)]; exact zal 3) (by rw [ziL, if_pos (by simpa using h1)]; exact Weak.refl _))
 ·try simp at h2
  refine zl ?_
  refine ze ?_
  refine zf ?_
  refine za ?_
  refine dmv rfl ?_
  refine dq (zj zsg rfl (WeakL.refl _) zgd) ?_
  refine dq (zaa rfl) ?_
  refine dmv rfl ?_
  refine dg rfl rfl (fun hc => ⟨_, OpenTo.refl _, zd rfl⟩) ?_
  refine dg rfl rfl (fun hc => ⟨_, OpenTo.upd (t := 24) rfl (hc) (OpenTo.refl _), zj zpC rfl (WeakL.refl _) zd9⟩) ?_
  refine dg rfl rfl (fun hc => ⟨_, OpenTo.upd (t := 25) rfl (hc) (OpenTo.refl _), zaa rfl⟩) ?_
  refine dq (zv rfl (.inl rfl) (.inr ⟨_, rfl, fun h => by simp_all⟩)) ?_
  refine dn ?_
  refine zi rfl (fun h3 => ?_) (fun h4 => ?_)
  ·try simp at h3
   refine za ?_
   refine das rfl ?_
   refine das rfl ?_
   refine dn ?_
   refine zk ?_
   exact zav rfl (zah (by rw [ziy, if_neg (by simpa using h2), if_pos (by simp_all)]; exact zal 3) (by rw [ziL, if_neg (by simpa using h2), if_pos (by simp_all)]; exact Weak.refl _))
  ·try simp at h4
   refine zl ?_
   refine ze ?_
   refine za ?_
   refine dmv rfl ?_
   refine dmv rfl ?_
   refine dmv rfl ?_
   refine dmv rfl ?_
   refine dq (zj ca61 rfl (WeakL.refl _) (zkJ hT (zft (okPT h2).1).1 ht (zea (okPT h2).1))) ?_
   refine dq (zx rfl rfl) ?_
   refine dq (zx rfl rfl) ?_
   refine das rfl ?_
   refine das rfl ?_
   refine dn ?_
   refine zk ?_
   (refine zF rfl ?_
    rw [ziy, ziL, if_neg (by simpa using h2), if_neg (by simp_all), if_neg (by simpa using h2), if_neg (by simp_all)])

end
end Go.Proofs.YtjecenjmphpmfaaGreatDoor
namespace Go.HL
section
structure MendS where
 Player : Str
 Week : Int
 Stat : Str
 Count : Int
 At : Int
 Version : Int
 By : Str
structure TurnedS where
 Player : Str
 Week : Int
 Stat : Str
 Was : Int
 Now : Int
abbrev zbi (x : MendS) : HVal := .agg [.str x.Player, .int .i64 x.Week, .str x.Stat, .int .i64 x.Count, .int .i64 x.At, .int .i64 x.Version, .str x.By]
abbrev zfH (l : List MendS) : HVal := .slice 7 (l.map zbi)
abbrev zaH (x : TurnedS) : HVal := .agg [.str x.Player, .int .i64 x.Week, .str x.Stat, .int .i64 x.Was, .int .i64 x.Now]
abbrev zcN (l : List TurnedS) : HVal := .slice 5 (l.map zaH)
abbrev Plc := Str × Int
abbrev zeW (x : Plc) : HVal := .agg [.str x.1, .int .i64 x.2]
abbrev Cnt := Str × Int × Str
abbrev zbQ (x : Cnt) : HVal := .agg [.str x.1, .int .i64 x.2.1, .str x.2.2]
def zb6 : MendS := ⟨[], 0, [], 0, 0, 0, []⟩
def zxt : StatS := ⟨[], 0⟩
def zxc : LineS := ⟨[], 0, []⟩
def zdx (a b : MendS) : Int := orI [zaX a.Player b.Player, zcj a.Week b.Week, zaX a.Stat b.Stat, zcj a.Version b.Version]
def zcS (a b : LineS) : Int := orI [zaX a.Player b.Player, zcj a.Week b.Week]
def zgF (a b : TurnedS) : Int := orI [zaX a.Player b.Player, zcj a.Week b.Week, zaX a.Stat b.Stat]
/-! lists that are looked through element by element -/
section
variable {α : Type}
def zb2 (f : α → Int) (c : α → α → Int) (d : α) (l : List α) : Nat → List α → Int
 | _, [] => 0
 | k, x :: r => if f x ≠ 0 then f x else if 0 < k ∧ c x (l.getD (k - 1) d) ≤ 0 then 7 else zb2 f c d l (k + 1) r
theorem zlF {f : α → Int} {c : α → α → Int} {d : α} {l : List α} {k : Nat} {x : α} {r : List α} (h1 : f x = 0) (h2 : 0 < k → ¬ c x (l.getD (k - 1) d) ≤ 0) : zb2 f c d l k (x :: r) = zb2 f c d l (k + 1) r := by
 rw [zb2, if_neg (by simp [h1]), if_neg (fun h => h2 h.1 h.2)]
theorem zsX {f : α → Int} {c : α → α → Int} {d : α} {l : List α} {k : Nat} {x : α} {r : List α} (h1 : f x ≠ 0) : zb2 f c d l k (x :: r) = f x := by
 rw [zb2, if_pos h1]
theorem ztz {f : α → Int} {c : α → α → Int} {d : α} {l : List α} {k : Nat} {x : α} {r : List α} (h1 : f x = 0) (h0 : 0 < k) (h2 : c x (l.getD (k - 1) d) ≤ 0) : zb2 f c d l k (x :: r) = 7 := by
 rw [zb2, if_neg (by simp [h1]), if_pos ⟨h0, h2⟩]
theorem zhC {f : α → Int} {c : α → α → Int} {d : α} {l : List α} : ∀ (r : List α) (k : Nat), zb2 f c d l k r = 0 → ∀ x ∈ r, f x = 0
 | [], _, _, x, hx => by cases hx
 | p :: r, k, h, x, hx => by
   rw [zb2] at h
   split at h
   ·contradiction
   ·split at h
    ·omega
    ·rename_i h1 _
     rcases List.mem_cons.1 hx with rfl | hx
     ·simpa using h1
     ·exact zhC r (k + 1) h x hx
/-- Each is behind the one ahead of it. -/
theorem zn8 {f : α → Int} {c : α → α → Int} {d : α} (hc : Cmp c fun _ => True) : ∀ (r : List α) (l : List α) (k : Nat), l.drop k = r → k ≤ l.length → (l.take k).Pairwise (fun a b => c a b < 0) → zb2 f c d l k r = 0 → l.Pairwise (fun a b => c a b < 0)
 | [], l, k, hd, hk, hp, _ => by
   have h1 : l.length ≤ k := by simpa using hd
   rw [List.take_of_length_le h1] at hp; exact hp
 | x :: r, l, k, hd, hk, hp, h => by
   rw [zb2] at h
   split at h
   ·contradiction
   ·split at h
    ·omega
    ·rename_i h2
     have hx : l[k]? = some x := by have := congrArg (fun q : List α => q[0]?) hd; simpa using this
     have hlt := zK hx
     refine zn8 hc r l (k + 1) (by rw [← List.drop_drop (i := 1), hd]; rfl) hlt ?_ h
     rw [zad hx]
     refine List.pairwise_append.2 ⟨hp, List.pairwise_singleton _ _, fun a ha b hb => ?_⟩
     obtain rfl := List.mem_singleton.1 hb
     obtain ⟨i, hi⟩ := List.getElem?_of_mem ha
     have hik : i < k := by have := zK hi; rw [List.length_take] at this; omega
     have hy : l[k - 1]? = some (l.getD (k - 1) d) := getD_some (by omega)
     have h3 : c (l.getD (k - 1) d) b < 0 := by
      rw [hc.flip _ _ trivial trivial]
      have : ¬ c b (l.getD (k - 1) d) ≤ 0 := fun e => h2 ⟨by omega, e⟩
      omega
     rcases Nat.lt_or_ge i (k - 1) with hlt' | hge
     ·have hyk : (l.take k)[k - 1]? = some (l.getD (k - 1) d) := by rw [List.getElem?_take_of_lt (by omega)]; exact hy
      have h4 : c a (l.getD (k - 1) d) < 0 := by
       have hi2 := zK hi
       have hk2 := zK hyk
       have := List.pairwise_iff_getElem.1 hp i (k - 1) hi2 hk2 hlt'
       rw [List.getElem?_eq_getElem hi2] at hi
       rw [List.getElem?_eq_getElem hk2] at hyk
       rw [Option.some.inj hi, Option.some.inj hyk] at this
       exact this
      have h5 := hc.trans a (l.getD (k - 1) d) b trivial trivial trivial (by omega) (by omega)
      have f1 := hc.flip a (l.getD (k - 1) d) trivial trivial
      have f2 := hc.flip (l.getD (k - 1) d) b trivial trivial
      have f3 := hc.flip a b trivial trivial
      have f4 := hc.flip b a trivial trivial
      rcases Int.lt_or_eq_of_le h5 with e | e
      ·exact e
      ·exfalso
       have := hc.trans b a (l.getD (k - 1) d) trivial trivial trivial (by omega) (by omega)
       omega
     ·have e : i = k - 1 := by omega
      rw [e, List.getElem?_take_of_lt (by omega), hy] at hi
      rw [← Option.some.inj hi]; exact h3
theorem zjs {f : α → Int} {c : α → α → Int} {d : α} (hc : Cmp c fun _ => True) {l : List α} (h : zb2 f c d l 0 l = 0) : l.Pairwise (fun a b => c a b < 0) :=
 zn8 hc l l 0 rfl (Nat.zero_le _) (by simp) h
theorem zml {f : α → Int} {c : α → α → Int} {d : α} (hc : Cmp c fun _ => True) {l : List α} (hf : ∀ x ∈ l, f x = 0) (hp : l.Pairwise (fun a b => c a b < 0)) : ∀ (r : List α) (k : Nat), l.drop k = r → zb2 f c d l k r = 0
 | [], _, _ => rfl
 | x :: r, k, hd => by
   have hx : l[k]? = some x := by have := congrArg (fun q : List α => q[0]?) hd; simpa using this
   have hlt := zK hx
   rw [zlF (hf x (List.mem_of_getElem? hx)) (fun h0 h => ?_)]
   ·exact zml hc hf hp r (k + 1) (by rw [← List.drop_drop (i := 1), hd]; rfl)
   ·have hy : l[k - 1]? = some (l.getD (k - 1) d) := getD_some (by omega)
    have hk1 : k - 1 < l.length := by omega
    have := List.pairwise_iff_getElem.1 hp (k - 1) k hk1 hlt (by omega)
    rw [List.getElem?_eq_getElem hlt] at hx
    rw [List.getElem?_eq_getElem hk1] at hy
    rw [Option.some.inj hx, Option.some.inj hy] at this
    have f1 := hc.flip (l.getD (k - 1) d) x trivial trivial
    omega
theorem Cmp.lex {c d : α → α → Int} (hc : Cmp c fun _ => True) (hd : Cmp d fun _ => True) : Cmp (fun a b => if c a b ≠ 0 then c a b else d a b) fun _ => True where
 flip x y _ _ := by
  have f1 := hc.flip x y trivial trivial
  have f2 := hc.flip y x trivial trivial
  have f3 := hd.flip x y trivial trivial
  by_cases h : c x y = 0
  ·have h' : c y x = 0 := by omega
   rw [if_neg (by simp [h]), if_neg (by simp [h'])]; exact f3
  ·have h' : c y x ≠ 0 := by omega
   rw [if_pos h, if_pos h']; exact f1
 trans x y z _ _ _ h1 h2 := by
  have fxy := hc.flip x y trivial trivial
  have fyx := hc.flip y x trivial trivial
  have fyz := hc.flip y z trivial trivial
  have fzy := hc.flip z y trivial trivial
  have fxz := hc.flip x z trivial trivial
  have fzx := hc.flip z x trivial trivial
  have a1 : c x y ≤ 0 := by split at h1 <;> omega
  have a2 : c y z ≤ 0 := by split at h2 <;> omega
  have a3 := hc.trans x y z trivial trivial trivial a1 a2
  by_cases h : c x z = 0
  ·have b1 := hc.trans z x y trivial trivial trivial (by omega) a1
   have b2 := hc.trans y z x trivial trivial trivial a2 (by omega)
   have e1 : c x y = 0 := by omega
   have e2 : c y z = 0 := by omega
   rw [if_neg (by simp [e1])] at h1
   rw [if_neg (by simp [e2])] at h2
   rw [if_neg (by simp [h])]
   exact hd.trans x y z trivial trivial trivial h1 h2
  ·rw [if_pos h]; exact a3
theorem ziF (f : α → Str) : Cmp (fun a b => zaX (f a) (f b)) fun _ => True where
 flip x y _ _ := by rw [zfr (f x) (f y)]; omega
 trans x y z _ _ _ h1 h2 := zfA h1 h2
theorem zkQ (f : α → Int) : Cmp (fun a b => zcj (f a) (f b)) fun _ => True where
 flip x y _ _ := by rw [zou (f x) (f y)]; omega
 trans x y z _ _ _ h1 h2 := by rw [zkM] at *; omega
theorem zi7 (a b : Int) (r : List Int) : orI (a :: b :: r) = if a ≠ 0 then a else orI (b :: r) := by rw [orI]
end
theorem zbU : Cmp zdx fun _ => True := by
 have h := Cmp.lex (ziF MendS.Player) (Cmp.lex (zkQ MendS.Week) (Cmp.lex (ziF MendS.Stat) (zkQ MendS.Version)))
 have e : zdx = fun a b => if zaX a.Player b.Player ≠ 0 then zaX a.Player b.Player else if zcj a.Week b.Week ≠ 0 then zcj a.Week b.Week else if zaX a.Stat b.Stat ≠ 0 then zaX a.Stat b.Stat else zcj a.Version b.Version := by
  funext a b; unfold zdx; rw [zi7, zi7, zh6]
 rw [e]; exact h
theorem zey : Cmp zcS fun _ => True := by
 have h := Cmp.lex (ziF LineS.Player) (zkQ LineS.Week)
 have e : zcS = fun a b => if zaX a.Player b.Player ≠ 0 then zaX a.Player b.Player else zcj a.Week b.Week := by
  funext a b; unfold zcS; rw [zh6]
 rw [e]; exact h
theorem zlC : Cmp zgF fun _ => True := by
 have h := Cmp.lex (ziF TurnedS.Player) (Cmp.lex (zkQ TurnedS.Week) (ziF TurnedS.Stat))
 have e : zgF = fun a b => if zaX a.Player b.Player ≠ 0 then zaX a.Player b.Player else if zcj a.Week b.Week ≠ 0 then zcj a.Week b.Week else zaX a.Stat b.Stat := by
  funext a b; unfold zgF; rw [zi7, zh6]
 rw [e]; exact h
theorem znu {a b : Int} (h : (if a ≠ 0 then a else b) = 0) : a = 0 ∧ b = 0 := by
 split at h
 ·contradiction
 ·rename_i h1; exact ⟨by simpa using h1, h⟩
theorem zhV {a b : LineS} : zcS a b = 0 ↔ a.Player = b.Player ∧ a.Week = b.Week := by
 unfold zcS; rw [zh6]
 constructor
 ·intro h
  obtain ⟨h1, h2⟩ := znu h
  exact ⟨zbH.1 h1, zgA.1 h2⟩
 ·rintro ⟨h1, h2⟩
  rw [if_neg (by simp [zbH.2 h1]), zgA.2 h2]
theorem ztF {a b : TurnedS} (h : zgF a b = 0) : a.Player = b.Player ∧ a.Week = b.Week ∧ a.Stat = b.Stat := by
 unfold zgF at h; rw [zi7, zh6] at h
 obtain ⟨h1, h2⟩ := znu h
 obtain ⟨h2, h3⟩ := znu h2
 exact ⟨zbH.1 h1, zgA.1 h2, zbH.1 h3⟩
def zab (x : MendS) : Int :=
 if !(key x.Player) || !(key x.Stat) || !(key x.By) then 5
 else if !(zb3 x.Week) || out x.Count (-100000) 100000 || !(zba x.At) || out x.Version 1 1000 then 1 else 0
def zaz (m : List MendS) : Int := if 500 < m.length then 2 else zb2 zab zdx zb6 m 0 m
def zgs (s : StatS) : Int := if !(key s.Name) then 5 else if out s.Count (-100000) 100000 || decide (s.Count = 0) then 1 else 0
def zhj (l : List StatS) : Int := if 40 < l.length then 2 else zb2 zgs za9 zxt l 0 l
def zgo (x : LineS) : Int := if !(key x.Player) then 5 else if !(zb3 x.Week) then 1 else zhj x.Stats
def zbm (l : List LineS) : Int := if 30000 < l.length then 2 else zb2 zgo zcS zxc l 0 l
theorem zpF {x : MendS} (h : zab x = 0) : key x.Player = true ∧ key x.Stat = true ∧ zb3 x.Week = true ∧ (-100000 ≤ x.Count ∧ x.Count ≤ 100000) ∧ zba x.At = true := by
 unfold zab at h
 split at h
 ·omega
 split at h
 ·omega
 rename_i h1 h2
 simp only [Bool.or_eq_true, Bool.not_eq_true', not_or, Bool.not_eq_false, Bool.not_eq_true] at h1 h2
 exact ⟨h1.1.1, h1.1.2, h2.1.1.1, zdw h2.1.1.2, h2.1.2⟩
theorem zoq {m : List MendS} (h : zaz m = 0) : m.length ≤ 500 ∧ (∀ x ∈ m, zab x = 0) ∧ m.Pairwise (fun a b => zdx a b < 0) := by
 unfold zaz at h
 split at h
 ·omega
 ·exact ⟨by omega, zhC m 0 h, zjs zbU h⟩
theorem zfL {s : StatS} : zgs s = 0 ↔ key s.Name = true ∧ (-100000 ≤ s.Count ∧ s.Count ≤ 100000) ∧ s.Count ≠ 0 := by
 unfold zgs
 constructor
 ·intro h
  split at h
  ·omega
  split at h
  ·omega
  rename_i h1 h2
  simp only [Bool.or_eq_true, not_or, Bool.not_eq_true, decide_eq_true_eq] at h2
  exact ⟨by simpa using h1, zdw h2.1, h2.2⟩
 ·rintro ⟨h1, h2, h3⟩
  have h4 : out s.Count (-100000) 100000 = false := by simp [out]; omega
  rw [h1, h4]; simp [h3]
theorem zko {l : List StatS} (h : zhj l = 0) : l.length ≤ 40 ∧ (∀ x ∈ l, zgs x = 0) ∧ l.Pairwise (fun a b => za9 a b < 0) := by
 unfold zhj at h
 split at h
 ·omega
 ·exact ⟨by omega, zhC l 0 h, zjs zbT h⟩
theorem zof {l : List StatS} (h1 : l.length ≤ 40) (h2 : ∀ x ∈ l, zgs x = 0) (h3 : l.Pairwise (fun a b => za9 a b < 0)) : zhj l = 0 := by
 unfold zhj; rw [if_neg (by omega)]; exact zml zbT h2 h3 l 0 rfl
theorem zdD {x : LineS} : zgo x = 0 ↔ key x.Player = true ∧ zb3 x.Week = true ∧ zhj x.Stats = 0 := by
 unfold zgo
 constructor
 ·intro h
  split at h
  ·omega
  split at h
  ·omega
  rename_i h1 h2
  exact ⟨by simpa using h1, by simpa using h2, h⟩
 ·rintro ⟨h1, h2, h3⟩
  rw [h1, h2]; simp [h3]
theorem zdm {l : List LineS} (h : zbm l = 0) : l.length ≤ 30000 ∧ (∀ x ∈ l, zgo x = 0) ∧ l.Pairwise (fun a b => zcS a b < 0) := by
 unfold zbm at h
 split at h
 ·omega
 ·exact ⟨by omega, zhC l 0 h, zjs zey h⟩
theorem zm1 {l : List LineS} (h1 : l.length ≤ 30000) (h2 : ∀ x ∈ l, zgo x = 0) (h3 : l.Pairwise (fun a b => zcS a b < 0)) : zbm l = 0 := by
 unfold zbm; rw [if_neg (by omega)]; exact zml zey h2 h3 l 0 rfl
/-! as a walk tells it -/
theorem zbc {m r : List MendS} {k : Nat} {x : MendS} {c : Int} (hl : ¬ 500 < m.length) (hg : zb2 zab zdx zb6 m 0 m = zb2 zab zdx zb6 m k (x :: r)) (hc : c ≠ 0) (hf : zab x = c) : c = zaz m := by
 rw [zaz, if_neg hl, hg, zsX (by rw [hf]; exact hc), hf]
theorem zcY {m r : List MendS} {k : Nat} {x : MendS} (hl : ¬ 500 < m.length) (hg : zb2 zab zdx zb6 m 0 m = zb2 zab zdx zb6 m k (x :: r)) (hf : zab x = 0) (h0 : 0 < k) (h : zdx x (m.getD (k - 1) zb6) ≤ 0) : 7 = zaz m := by
 rw [zaz, if_neg hl, hg, ztz hf h0 h]
end
section
section
variable {κ : Type} [DecidableEq κ] {β : Type}
abbrev zfa (κ β : Type) := List (κ × (Value × List β))
def gVK (s : κ) (G : zfa κ β) : Value := ((alk s G).getD (gZ β)).1
def gLK (s : κ) (G : zfa κ β) : List β := ((alk s G).getD (gZ β)).2
def zer {κ β : Type} (sz : Nat) (e : β → HVal) (G : zfa κ β) : List MObj := G.map fun p => .arr p.2.1 sz (p.2.2.map e)
theorem zkx {α : Type} {s : κ} {v : α} : ∀ {G : List (κ × α)}, ANodup G → (zY s v G).Perm ((s, v) :: G.filter fun q => decide (q.1 ≠ s))
 | [], _ => by simp [zY]
 | p :: r, hn => by
   have h1 := List.nodup_cons.1 hn
   simp only [zY]
   by_cases hs : s = p.1
   ·rw [if_pos hs]
    have h2 : alk s r = none := by rw [zcM, hs]; exact h1.1
    rw [List.filter_cons, if_neg (by simp [hs]), zct h2]
   ·rw [if_neg hs, List.filter_cons, if_pos (by simp; exact fun e => hs e.symm)]
    exact (List.Perm.cons p (zkx h1.2)).trans (List.Perm.swap _ _ _)
/-- A slice is put back, or a new one is put. -/
theorem zqe {sz : Nat} {e : β → HVal} {A : List MObj} {G : zfa κ β} {s : κ} {v : Value} {l : List β} (hn : ANodup G) : (.arr v sz (l.map e) :: (A ++ zer sz e (G.filter fun q => decide (q.1 ≠ s)))).Perm (A ++ zer sz e (zY s (v, l) G)) := by
 have h := ((zkx (s := s) (v := (v, l)) hn).map fun p => MObj.arr p.2.1 sz (p.2.2.map e)).append_left A
 refine List.Perm.symm (h.trans ?_)
 simp only [List.map_cons, zer]
 exact List.perm_middle
def zej (G : zfa κ β) (N : List κ) : zfa κ β := G.filter fun q => decide (q.1 ∉ N)
theorem ztK (G : zfa κ β) : zej G [] = G := by unfold zej; rw [List.filter_eq_self]; simp
theorem ztV {G : zfa κ β} {N : List κ} {s : κ} (h : s ∉ N) : alk s (zej G N) = alk s G := by
 have := zgY (s := s) (p := fun k => decide (k ∉ N)) (G := G)
 unfold zej
 rw [this, if_pos (by simpa using h)]
theorem zr7 (G : zfa κ β) (N : List κ) (s : κ) : (zej G N).filter (fun q => decide (q.1 ≠ s)) = zej G (N ++ [s]) := by
 unfold zej
 rw [List.filter_filter]
 refine List.filter_congr fun q _ => ?_
 by_cases h1 : q.1 ∈ N <;> by_cases h2 : q.1 = s <;> simp [h1, h2]
theorem zqK {G : zfa κ β} {N : List κ} (h : ANodup G) : ANodup (zej G N) := by
 unfold ANodup zej at *
 exact h.sublist ((List.filter_sublist).map _)
theorem ztX {G : zfa κ β} {N : List κ} (h : ∀ q ∈ G, q.1 ∈ N) : zej G N = [] := by
 unfold zej; rw [List.filter_eq_nil_iff]; intro q hq; simpa using h q hq
end
section
variable {P : Program} {e : Env} {κ : Type} [DecidableEq κ] {β : Type} {eb : β → HVal}
theorem Ghost.grpK_take [Tracks] {A : List MObj} {G G' : zfa κ β} {s : κ} {sz : Nat} (hn : ANodup G) (hG : alk s G = alk s G') : Ghost e (A ++ zer sz eb G) e (.arr (gVK s G') sz ((gLK s G').map eb) :: (A ++ zer sz eb (G.filter fun q => decide (q.1 ≠ s)))) := by
 cases hq : alk s G with
 | none =>
   have h1 : gVK s G' = .slice none 0 0 := by unfold gVK; rw [← hG, hq]; rfl
   have h2 : gLK s G' = [] := by unfold gLK; rw [← hG, hq]; rfl
   rw [h1, h2, zct hq]
   exact Ghost.arr_nil sz
 | some q =>
   obtain ⟨v, l⟩ := q
   have h1 : gVK s G' = v := by unfold gVK; rw [← hG, hq]; rfl
   have h2 : gLK s G' = l := by unfold gLK; rw [← hG, hq]; rfl
   rw [h1, h2]
   refine Ghost.perm ?_
   have h3 := ((zdF hn hq).map fun p => MObj.arr p.2.1 sz (p.2.2.map eb)).append_left A
   refine h3.trans ?_
   simp only [List.map_cons, zer]
   exact List.perm_middle
theorem EOp.post_ghost [Tracks] {M : List MObj} {K : HVal → List MObj → Prop} {o : Oper} (h : EOp P e M o fun x N => ∃ N', (∀ J F w, Sat P J (N ++ F) w → Sat P J (N' ++ F) w) ∧ K x N') : EOp P e M o K := fun I F a w ho hs =>
 Oper.wp_noQ (fun _ _ ⟨v, x, M', J, h1, h2, ⟨N', h3, h4⟩, h5, h6⟩ => ⟨v, x, N', J, h1, h2, h4, h5, h3 J F _ h6⟩) (h I F a w ho hs)
/-- A slice is put in another one's place, or as a new one. -/
theorem ztm [Tracks] {sz : Nat} {A : List MObj} {G : zfa κ β} {s : κ} {v : Value} {l : List β} (hn : ANodup G) (J : Imm) (F : List MObj) (w : World) (hs : Sat P J ((.arr v sz (l.map eb) :: (A ++ zer sz eb G)) ++ F) w) : Sat P J ((A ++ zer sz eb (zY s (v, l) G)) ++ F) w := by
 have hp := (zqe (sz := sz) (e := eb) (A := A) (s := s) (v := v) (l := l) hn).append_right F
 cases hq : alk s G with
 | none =>
   rw [zct hq] at hp
   exact hs.perm hp
 | some q =>
   have h3 := ((zdF hn hq).map fun p => MObj.arr p.2.1 sz (p.2.2.map eb)).append_left A
   simp only [List.map_cons] at h3
   have h4 : (A ++ zer sz eb G).Perm (.arr q.1 sz (q.2.map eb) :: (A ++ zer sz eb (G.filter fun q => decide (q.1 ≠ s)))) := h3.trans List.perm_middle
   have h5 : ((MObj.arr v sz (l.map eb) :: (A ++ zer sz eb G)) ++ F).Perm (.arr q.1 sz (q.2.map eb) :: ((.arr v sz (l.map eb) :: (A ++ zer sz eb (G.filter fun q => decide (q.1 ≠ s)))) ++ F)) := by
    have := (h4.cons (MObj.arr v sz (l.map eb))).append_right F
    exact this.trans (List.Perm.swap _ _ _)
   exact (hs.perm h5).drop.perm hp
theorem zyc {G : zfa κ β} {s : κ} {q : Value × List β} (h : alk s G = some q) : gVK s G = q.1 ∧ gLK s G = q.2 := by
 unfold gVK gLK; rw [h]; exact ⟨rfl, rfl⟩
end
end
section
/-! lines by their places, with mends -/
abbrev GrS := List (Plc × List StatS)
def zeZ (G : GrS) (x : LineS) : GrS := zY (x.Player, x.Week) x.Stats G
def zck (l : List LineS) : GrS := l.foldl zeZ []
theorem zsB {l : List LineS} {k : Nat} {x : LineS} (h : l[k]? = some x) : zck (l.take (k + 1)) = zY (x.Player, x.Week) x.Stats (zck (l.take k)) := by
 rw [zad h]; simp [zck, List.foldl_append, zeZ]
def zhW (x : MendS) (l : List StatS) : List StatS := l.filter fun s => !(s.Name == x.Stat)
def zcJ (x : MendS) (l : List StatS) : List StatS := zhW x l ++ if x.Count ≠ 0 then [⟨x.Stat, x.Count⟩] else []
def zbq (n : Int) (G : GrS) (x : MendS) : GrS := if n < x.At then G else zY (x.Player, x.Week) (zcJ x ((alk (x.Player, x.Week) G).getD [])) G
def zed (G : GrS) (m : List MendS) (n : Int) : GrS := m.foldl (zbq n) G
def zdX (l : List LineS) (m : List MendS) (n : Int) : GrS := zed (zck l) m n
theorem znW {G : GrS} {m : List MendS} {n : Int} {k : Nat} {x : MendS} (h : m[k]? = some x) : zed G (m.take (k + 1)) n = zbq n (zed G (m.take k) n) x := by
 rw [zad h]; simp [zed, List.foldl_append]
def zcy (q : Plc × List StatS) : LineS := ⟨q.1.1, q.1.2, zaV za9 q.2⟩
def mdL (l : List LineS) (m : List MendS) (n : Int) : List LineS := zaV zcS ((zdX l m n).map zcy)
theorem zic (l : List LineS) : ANodup (zck l) := by
 unfold zck
 have key : ∀ (l : List LineS) (G : GrS), ANodup G → ANodup (l.foldl zeZ G) := fun l => by
  induction l with
  | nil => intro G h; exact h
  | cons x l ih => intro G h; exact ih _ h.put
 exact key l [] ANodup.nil
theorem zqa {n : Int} {G : GrS} {x : MendS} (h : ANodup G) : ANodup (zbq n G x) := by
 unfold zbq; split
 ·exact h
 ·exact h.put
theorem zrU (m : List MendS) (n : Int) : ∀ {G : GrS}, ANodup G → ANodup (zed G m n) := by
 induction m with
 | nil => intro G h; exact h
 | cons x m ih => intro G h; exact ih (zqa h)
theorem zqV (l : List LineS) (m : List MendS) (n : Int) : ANodup (zdX l m n) := zrU m n (zic l)
/-! how long the lists are -/
def GLen (b : Nat) (G : GrS) : Prop := ∀ q ∈ G, q.2.length ≤ b
theorem GLen.put {b : Nat} {G : GrS} {p : Plc} {l : List StatS} (h : GLen b G) (hl : l.length ≤ b) : GLen b (zY p l G) := fun q hq => by
 rcases zce hq with rfl | hq
 ·exact hl
 ·exact h q hq
theorem GLen.get {b : Nat} {G : GrS} (h : GLen b G) (p : Plc) : ((alk p G).getD []).length ≤ b := by
 cases hq : alk p G with
 | none => simp
 | some l => exact h _ (zbK hq)
theorem GLen.up {b c : Nat} {G : GrS} (h : GLen b G) (hb : b ≤ c) : GLen c G := fun q hq => Nat.le_trans (h q hq) hb
theorem zoh (x : MendS) (l : List StatS) : (zhW x l).length ≤ l.length := List.length_filter_le _ _
theorem zs7 (x : MendS) (l : List StatS) : (zcJ x l).length ≤ l.length + 1 := by
 have := zoh x l
 unfold zcJ; rw [List.length_append]; split
 ·simp only [List.length_cons, List.length_nil]; omega
 ·simp only [List.length_nil]; omega
theorem GLen.step {b : Nat} {n : Int} {G : GrS} {x : MendS} (h : GLen b G) : GLen (b + 1) (zbq n G x) := by
 unfold zbq; split
 ·exact h.up (by omega)
 ·refine (h.up (by omega)).put ?_
  have h1 := zs7 x ((alk (x.Player, x.Week) G).getD [])
  have h2 := h.get (x.Player, x.Week)
  omega
theorem zpE (m : List MendS) (n : Int) : ∀ {b : Nat} {G : GrS}, GLen b G → GLen (b + m.length) (zed G m n) := by
 induction m with
 | nil => intro b G h; exact h
 | cons x m ih => intro b G h; have := ih (h.step (n := n) (x := x)); rw [List.length_cons, show b + (m.length + 1) = b + 1 + m.length by omega]; exact this
theorem zn2 {b : Nat} {l : List LineS} (h : ∀ x ∈ l, x.Stats.length ≤ b) : GLen b (zck l) := by
 unfold zck
 have key : ∀ (l : List LineS) (G : GrS), (∀ x ∈ l, x.Stats.length ≤ b) → GLen b G → GLen b (l.foldl zeZ G) := fun l => by
  induction l with
  | nil => intro G _ h; exact h
  | cons x l ih => intro G h hG; exact ih _ (fun y hy => h y (List.mem_cons_of_mem _ hy)) (hG.put (h x List.mem_cons_self))
 exact key l [] h (fun q hq => by cases hq)
theorem zr8 (l : List LineS) : (zck l).length ≤ l.length := by
 unfold zck
 have key : ∀ (l : List LineS) (G : GrS), (l.foldl zeZ G).length ≤ G.length + l.length := fun l => by
  induction l with
  | nil => intro G; exact Nat.le_refl _
  | cons x l ih =>
    intro G
    have h1 := ih (zeZ G x)
    have h2 : (zeZ G x).length ≤ G.length + 1 := zeK _ _ _
    rw [List.foldl_cons, List.length_cons]; omega
 have := key l []
 simpa using this
theorem ztB (m : List MendS) (n : Int) : ∀ (G : GrS), (zed G m n).length ≤ G.length + m.length := by
 induction m with
 | nil => intro G; exact Nat.le_refl _
 | cons x m ih =>
   intro G
   have h1 := ih (zbq n G x)
   have h2 : (zbq n G x).length ≤ G.length + 1 := by
    unfold zbq; split
    ·omega
    ·exact zeK _ _ _
   rw [List.length_cons]
   show (zed (zbq n G x) m n).length ≤ _
   omega
theorem ziW (l : List LineS) (m : List MendS) (n : Int) : (zdX l m n).length ≤ l.length + m.length := Nat.le_trans (ztB m n _) (by have := zr8 l; omega)
/-! names within a list -/
def GNm (G : GrS) : Prop := ∀ q ∈ G, (q.2.map (·.Name)).Nodup
theorem GNm.put {G : GrS} {p : Plc} {l : List StatS} (h : GNm G) (hl : (l.map (·.Name)).Nodup) : GNm (zY p l G) := fun q hq => by
 rcases zce hq with rfl | hq
 ·exact hl
 ·exact h q hq
theorem GNm.get {G : GrS} (h : GNm G) (p : Plc) : (((alk p G).getD []).map (·.Name)).Nodup := by
 cases hq : alk p G with
 | none => exact List.nodup_nil
 | some l => exact h _ (zbK hq)
theorem zlr {x : MendS} {l : List StatS} (h : (l.map (·.Name)).Nodup) : ((zcJ x l).map (·.Name)).Nodup := by
 have h1 : ((zhW x l).map (·.Name)).Nodup := h.sublist ((List.filter_sublist).map _)
 unfold zcJ
 split
 ·rw [List.map_append]
  refine List.nodup_append.2 ⟨h1, by simp, fun a ha b hb => ?_⟩
  simp at hb; subst hb
  obtain ⟨s, hs, rfl⟩ := List.mem_map.1 ha
  have := (List.mem_filter.1 hs).2
  simpa using this
 ·rw [List.append_nil]; exact h1
theorem GNm.step {n : Int} {G : GrS} {x : MendS} (h : GNm G) : GNm (zbq n G x) := by
 unfold zbq; split
 ·exact h
 ·exact h.put (zlr (h.get _))
theorem zsz (m : List MendS) (n : Int) : ∀ {G : GrS}, GNm G → GNm (zed G m n) := by
 induction m with
 | nil => intro G h; exact h
 | cons x m ih => intro G h; exact ih h.step
theorem zqB {l : List LineS} (h : ∀ x ∈ l, (x.Stats.map (·.Name)).Nodup) : GNm (zck l) := by
 unfold zck
 have key : ∀ (l : List LineS) (G : GrS), (∀ x ∈ l, (x.Stats.map (·.Name)).Nodup) → GNm G → GNm (l.foldl zeZ G) := fun l => by
  induction l with
  | nil => intro G _ h; exact h
  | cons x l ih => intro G h hG; exact ih _ (fun y hy => h y (List.mem_cons_of_mem _ hy)) (hG.put (h x List.mem_cons_self))
 exact key l [] h (fun q hq => by cases hq)
theorem zqC {l : List LineS} {m : List MendS} {n : Int} (h : ∀ x ∈ l, (x.Stats.map (·.Name)).Nodup) : GNm (zdX l m n) := zsz m n (zqB h)
theorem znm {l : List StatS} (h : (l.map (·.Name)).Nodup) {x y : StatS} (hx : x ∈ l) (hy : y ∈ l) (e : x.Name = y.Name) : x = y := by
 obtain ⟨i, hi⟩ := List.getElem?_of_mem hx
 obtain ⟨j, hj⟩ := List.getElem?_of_mem hy
 have := zjo h (a := x.Name) (i := i) (j := j) (by rw [List.getElem?_map, hi]; rfl) (by rw [List.getElem?_map, hj, e]; rfl)
 rw [this, hj] at hi; exact (Option.some.inj hi).symm
theorem zqx {l l' : List StatS} (h : (l.map (·.Name)).Nodup) (hp : l'.Perm l) (hw : l'.Pairwise fun a b => ¬ za9 b a < 0) : l' = zaV za9 l :=
 zcd zbT (fun _ _ hx hy e => znm h hx hy (zbH.1 e)) hp hw
/-! groups of owned slices that hold such a map -/
abbrev GrV := zfa Plc StatS
def zeh (G : GrV) : GrS := G.map fun q => (q.1, q.2.2)
theorem zlT {p : Plc} {v : Value} {l : List StatS} : ∀ {G : GrV}, zeh (zY p (v, l) G) = zY p l (zeh G)
 | [] => rfl
 | q :: r => by
   have ih := zlT (p := p) (v := v) (l := l) (G := r)
   simp only [zeh, zY, List.map_cons] at ih ⊢
   by_cases h : p = q.1
   ·rw [if_pos h, if_pos h]; rfl
   ·rw [if_neg h, if_neg h, List.map_cons, ih]
theorem zqn (p : Plc) (G : GrV) : (alk p (zeh G)).getD [] = gLK p G := by
 unfold zeh gLK
 rw [zkW (fun q : Value × List StatS => q.2) p G]
 cases alk p G <;> rfl
theorem zuN (G : GrV) : (zeh G).length = G.length := by unfold zeh; simp
theorem ztL {n : Int} {G : GrV} {x : MendS} (h : ¬ n < x.At) (v : Value) : zeh (zY (x.Player, x.Week) (v, zcJ x (gLK (x.Player, x.Week) G)) G) = zbq n (zeh G) x := by
 rw [zlT, zbq, if_neg h, zqn]
/-- What a range over the group gathers. -/
abbrev zjd (q : Plc × (Value × List StatS)) : LineS := zcy (q.1, q.2.2)
theorem zwP {l : List LineS} {m : List MendS} {n : Int} {G E : GrV} (hG : zeh G = zdX l m n) (hE : E.Perm G) {out : List LineS} (hp : out.Perm (E.map zjd)) (hw : out.Pairwise fun a b => ¬ zcS b a < 0) : out = mdL l m n := by
 have hn : ANodup (zdX l m n) := zqV l m n
 have hm : ((zdX l m n).map zcy).Perm out := by
  rw [← hG]
  refine List.Perm.trans ?_ hp.symm
  unfold zeh; rw [List.map_map]
  exact (hE.map zjd).symm
 refine zcd zey (fun x y hx hy e => ?_) hm.symm hw
 obtain ⟨p, hp1, rfl⟩ := List.mem_map.1 hx
 obtain ⟨q, hq1, rfl⟩ := List.mem_map.1 hy
 obtain ⟨e1, e2⟩ := zhV.1 e
 have e3 : p.1 = q.1 := Prod.ext e1 e2
 have a1 := (zcg hn (x := p.1) (v := p.2)).1 hp1
 have a2 := (zcg hn (x := q.1) (v := q.2)).1 hq1
 rw [← e3, a1] at a2
 have e4 : p.2 = q.2 := Option.some.inj a2
 rw [show p = q from Prod.ext e3 e4]
theorem zvG {l : List LineS} {m : List MendS} {n : Int} {k : Nat} {G : GrV} (hL : ∀ x ∈ l, x.Stats.length ≤ 1000) (hm : m.length ≤ 100) (hc : zeh G = zed (zck l) (m.take k) n) (p : Plc) : (gLK p G).length ≤ 1100 := by
 rw [← zqn, hc]
 have h1 := (zpE (m.take k) n (zn2 hL)).get p
 have h2 : (m.take k).length ≤ m.length := by rw [List.length_take]; omega
 omega
theorem zvY {l : List LineS} {m : List MendS} {n : Int} {G : GrV} (hl : l.length ≤ 1000) (hm : m.length ≤ 100) (hc : zeh G = zed (zck l) m n) : G.length ≤ 1100 := by
 have h1 := zuN G
 rw [hc] at h1
 have h2 := ziW l m n
 unfold zdX at h2
 omega
theorem zph {G : GrV} {q : Plc × (Value × List StatS)} (h : q ∈ G) : (q.1, q.2.2) ∈ zeh G := List.mem_map.2 ⟨q, h, rfl⟩
theorem zwv {l : List LineS} {m : List MendS} {n : Int} {G : GrV} {q : Plc × (Value × List StatS)} (h40 : GLen 40 (zdX l m n)) (hc : zeh G = zed (zck l) m n) (hq : q ∈ G) : q.2.2.length ≤ 40 := by
 have h1 := zph hq
 rw [hc] at h1
 exact h40 _ h1
theorem zxx {l : List LineS} {m : List MendS} {n : Int} {G : GrV} {q : Plc × (Value × List StatS)} (hs : ∀ x ∈ l, (x.Stats.map (·.Name)).Nodup) (hc : zeh G = zed (zck l) m n) (hq : q ∈ G) : (q.2.2.map (·.Name)).Nodup := by
 have h1 := zph hq
 rw [hc] at h1
 exact zqC (m := m) (n := n) hs _ h1
/-! counts of lines -/
abbrev CnS := List (Cnt × Int)
def ziw (x : LineS) (C : CnS) (s : StatS) : CnS := zY (x.Player, x.Week, s.Name) s.Count C
def zfN (x : LineS) (C : CnS) (l : List StatS) : CnS := l.foldl (ziw x) C
def zhf (C : CnS) (x : LineS) : CnS := zfN x C x.Stats
def cnL (l : List LineS) : CnS := l.foldl zhf []
theorem zsl {x : LineS} {C : CnS} {l : List StatS} {k : Nat} {s : StatS} (h : l[k]? = some s) : zfN x C (l.take (k + 1)) = zY (x.Player, x.Week, s.Name) s.Count (zfN x C (l.take k)) := by
 rw [zad h]; simp [zfN, List.foldl_append, ziw]
theorem zug {l : List LineS} {k : Nat} {x : LineS} (h : l[k]? = some x) : cnL (l.take (k + 1)) = zfN x (cnL (l.take k)) x.Stats := by
 rw [zad h]; simp [cnL, List.foldl_append, zhf]
theorem zle (x : LineS) : ∀ (l : List StatS) {C : CnS}, ANodup C → ANodup (zfN x C l)
 | [], _, h => h
 | s :: l, _, h => zle x l h.put
theorem znS (l : List LineS) : ANodup (cnL l) := by
 unfold cnL
 have key : ∀ (l : List LineS) (C : CnS), ANodup C → ANodup (l.foldl zhf C) := fun l => by
  induction l with
  | nil => intro C h; exact h
  | cons x l ih => intro C h; exact ih _ (zle x _ h)
 exact key l [] ANodup.nil
theorem zmS (x : LineS) : ∀ (l : List StatS) (C : CnS), (zfN x C l).length ≤ C.length + l.length
 | [], C => Nat.le_refl _
 | s :: l, C => by
   have h1 := zmS x l (ziw x C s)
   have h2 : (ziw x C s).length ≤ C.length + 1 := zeK _ _ _
   rw [List.length_cons]
   show (zfN x (ziw x C s) l).length ≤ _
   omega
theorem zi9 {b : Nat} {l : List LineS} (h : ∀ x ∈ l, x.Stats.length ≤ b) : (cnL l).length ≤ b * l.length := by
 unfold cnL
 have key : ∀ (l : List LineS) (C : CnS), (∀ x ∈ l, x.Stats.length ≤ b) → (l.foldl zhf C).length ≤ C.length + b * l.length := fun l => by
  induction l with
  | nil => intro C _; simp
  | cons x l ih =>
    intro C h
    have h1 := ih (zhf C x) (fun y hy => h y (List.mem_cons_of_mem _ hy))
    have h2 := zmS x x.Stats C
    have h3 := h x List.mem_cons_self
    have h4 : (zhf C x).length = (zfN x C x.Stats).length := rfl
    rw [List.foldl_cons, List.length_cons, Nat.mul_add]; omega
 have := key l [] h
 simpa using this
def zhF (l : List LineS) (k : Cnt) : Int := (alk k (cnL l)).getD 0
/-! a map that is copied into another one -/
def zci {κ α : Type} [DecidableEq κ] (D S : List (κ × α)) : List (κ × α) := S.foldl (fun C p => zY p.1 p.2 C) D
theorem zs4 {κ α : Type} [DecidableEq κ] (D E : List (κ × α)) (q : κ × α) : zci D (E ++ [q]) = zY q.1 q.2 (zci D E) := by simp [zci, List.foldl_append]
theorem zhJ {κ α : Type} [DecidableEq κ] {y : κ} : ∀ {S D : List (κ × α)}, y ∈ (zci D S).map (·.1) ↔ y ∈ D.map (·.1) ∨ y ∈ S.map (·.1)
 | [], D => by simp [zci]
 | p :: r, D => by
   have ih := zhJ (y := y) (S := r) (D := zY p.1 p.2 D)
   show y ∈ (zci (zY p.1 p.2 D) r).map (·.1) ↔ _
   rw [ih, zhR, List.map_cons, List.mem_cons]
   constructor
   ·rintro ((h | h) | h)
    ·exact .inr (.inl h)
    ·exact .inl h
    ·exact .inr (.inr h)
   ·rintro (h | h | h)
    ·exact .inl (.inr h)
    ·exact .inl (.inl h)
    ·exact .inr h
theorem zfR {κ α : Type} [DecidableEq κ] : ∀ {S D : List (κ × α)}, ANodup D → ANodup (zci D S)
 | [], _, h => h
 | p :: r, D, h => zfR (S := r) (D := zY p.1 p.2 D) h.put
theorem zjy {κ α : Type} [DecidableEq κ] : ∀ (S D : List (κ × α)), (zci D S).length ≤ D.length + S.length
 | [], D => Nat.le_refl _
 | p :: r, D => by
   have h1 := zjy r (zY p.1 p.2 D)
   have h2 := zeK p.1 p.2 D
   rw [List.length_cons]
   show (zci (zY p.1 p.2 D) r).length ≤ _
   omega
theorem ztw {κ α : Type} [DecidableEq κ] {D S E : List (κ × α)} (hD : ANodup D) (hp : E.Perm S) : ((zci D E).map (·.1)).Perm ((zci D S).map (·.1)) :=
 (List.perm_ext_iff_of_nodup (zfR hD) (zfR hD)).2 fun a => by rw [zhJ, zhJ, (hp.map (·.1)).mem_iff]
/-! what differs -/
def dfT (a b : List LineS) (k : Cnt) : Option TurnedS := if zhF a k ≠ zhF b k then some ⟨k.1, k.2.1, k.2.2, zhF a k, zhF b k⟩ else none
def zgz (a b : List LineS) : List Cnt := (zci (cnL a) (cnL b)).map (·.1)
def dfL (a b : List LineS) : List TurnedS := zaV zgF ((zgz a b).filterMap (dfT a b))
theorem zvB {a b : List LineS} {k : Cnt} (h : ¬ (alk k (cnL a)).getD 0 = (alk k (cnL b)).getD 0) : dfT a b k = some ⟨k.1, k.2.1, k.2.2, (alk k (cnL a)).getD 0, (alk k (cnL b)).getD 0⟩ := by
 unfold dfT zhF; rw [if_pos h]
theorem zwM {a b : List LineS} {k : Cnt} (h : (alk k (cnL a)).getD 0 = (alk k (cnL b)).getD 0) : dfT a b k = none := by
 unfold dfT zhF; rw [if_neg (by simp [h])]
theorem zkO {a b : List LineS} {k : Cnt} {t : TurnedS} (h : dfT a b k = some t) : k = (t.Player, t.Week, t.Stat) := by
 unfold dfT at h
 split at h
 ·rw [← Option.some.inj h]
 ·cases h
theorem zwJ {a b : List LineS} {k : Cnt} {t u : TurnedS} (h : dfT a b k = some t) (h' : dfT a b k = some u) : t = u := by rw [h] at h'; exact Option.some.inj h'
theorem zsR {a b : List LineS} {E : CnS} {out : List TurnedS} (hE : (E.map (·.1)).Perm (zgz a b)) (hp : out.Perm ((E.map (·.1)).filterMap (dfT a b))) (hw : out.Pairwise fun x y => ¬ zgF y x < 0) : out = dfL a b := by
 have hm : out.Perm ((zgz a b).filterMap (dfT a b)) := hp.trans (hE.filterMap _)
 refine zcd zlC (fun x y hx hy e => ?_) hm hw
 obtain ⟨k, _, hk⟩ := List.mem_filterMap.1 hx
 obtain ⟨k', _, hk'⟩ := List.mem_filterMap.1 hy
 obtain ⟨e1, e2, e3⟩ := ztF e
 have h1 := zkO hk
 have h2 := zkO hk'
 rw [e1, e2, e3, ← h2] at h1
 rw [h1] at hk
 exact zwJ hk hk'
theorem zpP (a b : List LineS) (E : CnS) (q : Cnt × Int) : ((E ++ [q]).map (·.1)).filterMap (dfT a b) = (E.map (·.1)).filterMap (dfT a b) ++ (dfT a b q.1).toList := by
 rw [List.map_append, List.filterMap_append]
 congr 1
theorem znf (a b : List LineS) (E : CnS) : ((E.map (·.1)).filterMap (dfT a b)).length ≤ E.length := by
 have := List.length_filterMap_le (dfT a b) (E.map (·.1)); simpa using this
theorem zwl (a b : List LineS) : (dfL a b).length ≤ (cnL a).length + (cnL b).length := by
 unfold dfL zgz
 rw [zcZ]
 have h1 := znf a b (zci (cnL a) (cnL b))
 have h2 := zjy (cnL b) (cnL a)
 omega
/-! one count -/
end
section
/-! one list of statistics by name -/
abbrev stA (l : List StatS) : List (Str × Int) := l.map fun s => (s.Name, s.Count)
def sv (l : List StatS) (s : Str) : Int := (alk s (stA l)).getD 0
structure StOk (l : List StatS) : Prop where
 nd : (l.map (·.Name)).Nodup
 nz : ∀ x ∈ l, x.Count ≠ 0
theorem zkn {l : List StatS} (h : (l.map (·.Name)).Nodup) : ANodup (stA l) := by
 unfold ANodup; rw [List.map_map]; exact h
theorem zsL {l : List StatS} (h : StOk l) {x : StatS} : x ∈ l ↔ x.Count ≠ 0 ∧ sv l x.Name = x.Count := by
 have hn := zkn h.nd
 constructor
 ·intro hx
  have h1 : (x.Name, x.Count) ∈ stA l := List.mem_map.2 ⟨x, hx, rfl⟩
  rw [zcg hn] at h1
  exact ⟨h.nz x hx, by unfold sv; rw [h1]; rfl⟩
 ·rintro ⟨h1, h2⟩
  unfold sv at h2
  cases hq : alk x.Name (stA l) with
  | none => rw [hq] at h2; exact absurd h2.symm h1
  | some v =>
    rw [hq] at h2
    have h3 : v = x.Count := h2
    rw [h3] at hq
    obtain ⟨y, hy, e⟩ := List.mem_map.1 (zbK hq)
    have e1 : y.Name = x.Name := congrArg Prod.fst e
    have e2 : y.Count = x.Count := congrArg Prod.snd e
    have : y = x := by cases y; cases x; simp only at e1 e2; rw [e1, e2]
    rw [← this]; exact hy
theorem StOk.nodup {l : List StatS} (h : StOk l) : l.Nodup := (List.pairwise_map.1 h.nd).imp fun h e => h (congrArg _ e)
theorem zvJ {l l' : List StatS} (h : StOk l) (h' : StOk l') (he : ∀ s, sv l s = sv l' s) : l.Perm l' :=
 (List.perm_ext_iff_of_nodup h.nodup h'.nodup).2 fun a => by rw [zsL h, zsL h', he]
theorem zv1 {l l' : List StatS} (h : StOk l) (h' : StOk l') (he : ∀ s, sv l s = sv l' s) : zaV za9 l = zaV za9 l' :=
 zkI zbT (fun _ _ => trivial) (fun _ _ hx hy e => znm h.nd hx hy (zbH.1 e)) (zvJ h h' he)
theorem zv7 {l l' : List StatS} (h : (l'.map (·.Name)).Nodup) (hp : l.Perm l') (s : Str) : sv l s = sv l' s := by
 unfold sv; rw [zpp (hp.map _) (zkn h)]
theorem StOk.sort {l : List StatS} (h : StOk l) : StOk (zaV za9 l) where
 nd := ((zbo za9 l).map _).nodup_iff.2 h.nd
 nz x hx := h.nz x ((zdk _).1 hx)
theorem znD {κ α : Type} [DecidableEq κ] (k : κ) : ∀ (A B : List (κ × α)), alk k (A ++ B) = (alk k A).or (alk k B)
 | [], B => by simp [alk]
 | p :: r, B => by
   have ih := znD k r B
   simp only [List.cons_append, alk]
   by_cases h : k = p.1
   ·rw [if_pos h, if_pos h]; rfl
   ·rw [if_neg h, if_neg h, ih]
theorem zvX (x : MendS) (l : List StatS) : stA (zhW x l) = (stA l).filter fun q => !(q.1 == x.Stat) := by
 unfold stA zhW; rw [List.filter_map]; rfl
theorem zwR (x : MendS) (l : List StatS) (s : Str) : sv (zcJ x l) s = if s = x.Stat then x.Count else sv l s := by
 have h1 : alk s (stA (zhW x l)) = if s = x.Stat then none else alk s (stA l) := by
  rw [zvX, zgY (s := s) (p := fun k => !(k == x.Stat))]
  by_cases h : s = x.Stat
  ·rw [if_pos h, if_neg (by simp [h])]
  ·rw [if_neg h, if_pos (by simp [h])]
 have h2 : stA (zcJ x l) = stA (zhW x l) ++ stA (if x.Count ≠ 0 then [⟨x.Stat, x.Count⟩] else []) := by unfold stA zcJ; rw [List.map_append]
 unfold sv
 rw [h2, znD, h1]
 by_cases h : s = x.Stat
 ·rw [if_pos h, if_pos h]
  by_cases hc : x.Count = 0
  ·rw [if_neg (by simp [hc])]; simp [alk, hc]
  ·rw [if_pos hc]; simp [alk, h]
 ·rw [if_neg h, if_neg h]
  have : alk s (stA (if x.Count ≠ 0 then [⟨x.Stat, x.Count⟩] else [])) = none := by
   split
   ·simp [alk, h]
   ·rfl
  rw [this]; cases alk s (stA l) <;> rfl
theorem StOk.put {x : MendS} {l : List StatS} (h : StOk l) : StOk (zcJ x l) where
 nd := zlr h.nd
 nz y hy := by
  unfold zcJ at hy
  rcases List.mem_append.1 hy with hy | hy
  ·exact h.nz y (List.mem_filter.1 hy).1
  ·split at hy
   ·rename_i hc; rw [List.mem_singleton.1 hy]; exact hc
   ·cases hy
theorem StOk.nil : StOk [] := ⟨List.nodup_nil, fun x h => by cases h⟩
/-! all lists by place -/
structure GSOk (G : GrS) : Prop where
 nd : ANodup G
 ok : ∀ q ∈ G, StOk q.2
def gv (G : GrS) (p : Plc) (s : Str) : Int := sv ((alk p G).getD []) s
theorem GSOk.get {G : GrS} (h : GSOk G) (p : Plc) : StOk ((alk p G).getD []) := by
 cases hq : alk p G with
 | none => exact StOk.nil
 | some l => exact h.ok _ (zbK hq)
theorem GSOk.step {n : Int} {G : GrS} {x : MendS} (h : GSOk G) : GSOk (zbq n G x) := by
 unfold zbq; split
 ·exact h
 ·refine ⟨h.nd.put, fun q hq => ?_⟩
  rcases zce hq with rfl | hq
  ·exact (h.get _).put
  ·exact h.ok q hq
theorem GSOk.go {m : List MendS} {n : Int} : ∀ {G : GrS}, GSOk G → GSOk (zed G m n) := by
 induction m with
 | nil => intro G h; exact h
 | cons x m ih => intro G h; exact ih h.step
theorem zjr {G : GrS} (h : ANodup G) : (G.map zcy).Nodup := by
 refine List.pairwise_map.2 ((List.pairwise_map.1 h).imp fun {a b} hab e => hab ?_)
 have e1 : a.1.1 = b.1.1 := congrArg LineS.Player e
 have e2 : a.1.2 = b.1.2 := congrArg LineS.Week e
 exact Prod.ext e1 e2
theorem zvp {G H : GrS} (hG : GSOk G) (hH : GSOk H) (hd : ∀ p, (alk p G).isSome = true → (alk p H).isSome = true) (hv : ∀ p s, gv G p s = gv H p s) {y : LineS} (hy : y ∈ G.map zcy) : y ∈ H.map zcy := by
 obtain ⟨q, hq, rfl⟩ := List.mem_map.1 hy
 have h1 := (zcg hG.nd (x := q.1) (v := q.2)).1 hq
 have h2 := hd q.1 (by rw [h1]; rfl)
 obtain ⟨l', h3⟩ := Option.isSome_iff_exists.1 h2
 have h4 := zbK h3
 refine List.mem_map.2 ⟨_, h4, ?_⟩
 have h5 : zaV za9 l' = zaV za9 q.2 := by
  refine zv1 (hH.ok _ h4) (hG.ok _ hq) fun s => ?_
  have := hv q.1 s
  unfold gv at this
  rw [h1, h3] at this
  exact this.symm
 simp only [zcy, h5]
theorem zwB {G H : GrS} (hG : GSOk G) (hH : GSOk H) (hd : ∀ p, (alk p G).isSome = true ↔ (alk p H).isSome = true) (hv : ∀ p s, gv G p s = gv H p s) : (G.map zcy).Perm (H.map zcy) :=
 (List.perm_ext_iff_of_nodup (zjr hG.nd) (zjr hH.nd)).2 fun _ => ⟨zvp hG hH (fun p => (hd p).1) hv, zvp hH hG (fun p => (hd p).2) fun p s => (hv p s).symm⟩
theorem zn3 {G : GrS} (hG : ANodup G) {x y : LineS} (hx : x ∈ G.map zcy) (hy : y ∈ G.map zcy) (e : zcS x y = 0) : x = y := by
 obtain ⟨p, hp1, rfl⟩ := List.mem_map.1 hx
 obtain ⟨q, hq1, rfl⟩ := List.mem_map.1 hy
 obtain ⟨e1, e2⟩ := zhV.1 e
 have e3 : p.1 = q.1 := Prod.ext e1 e2
 have a1 := (zcg hG (x := p.1) (v := p.2)).1 hp1
 have a2 := (zcg hG (x := q.1) (v := q.2)).1 hq1
 rw [← e3, a1] at a2
 have e4 : p.2 = q.2 := Option.some.inj a2
 rw [show p = q from Prod.ext e3 e4]
theorem zwT {G H : GrS} (hG : GSOk G) (hH : GSOk H) (hd : ∀ p, (alk p G).isSome = true ↔ (alk p H).isSome = true) (hv : ∀ p s, gv G p s = gv H p s) : zaV zcS (G.map zcy) = zaV zcS (H.map zcy) :=
 zkI zey (fun _ _ => trivial) (fun _ _ hx hy e => zn3 hG.nd hx hy e) (zwB hG hH hd hv)
/-! what a mend does -/
abbrev plM (x : MendS) : Plc := (x.Player, x.Week)
abbrev plL (x : LineS) : Plc := (x.Player, x.Week)
theorem zvI (n : Int) (G : GrS) (x : MendS) (p : Plc) (s : Str) : gv (zbq n G x) p s = if x.At ≤ n ∧ p = plM x ∧ s = x.Stat then x.Count else gv G p s := by
 unfold zbq gv
 by_cases h : n < x.At
 ·rw [if_pos h, if_neg (by omega)]
 ·rw [if_neg h, zcr]
  by_cases hp : p = plM x
  ·rw [if_pos hp]
   show sv (zcJ x _) s = _
   rw [zwR, hp]
   by_cases hs : s = x.Stat
   ·rw [if_pos hs, if_pos ⟨by omega, rfl, hs⟩]
   ·rw [if_neg hs, if_neg (fun e => hs e.2.2)]
  ·rw [if_neg hp, if_neg (fun e => hp e.2.1)]
theorem zvz (n : Int) (G : GrS) (x : MendS) (p : Plc) : (alk p (zbq n G x)).isSome = true ↔ (alk p G).isSome = true ∨ (x.At ≤ n ∧ p = plM x) := by
 unfold zbq
 by_cases h : n < x.At
 ·rw [if_pos h]
  constructor
  ·exact .inl
  ·rintro (h' | ⟨h', _⟩)
   ·exact h'
   ·omega
 ·rw [if_neg h, zcr]
  by_cases hp : p = plM x
  ·rw [if_pos hp]; simp; exact .inr ⟨by omega, hp⟩
  ·rw [if_neg hp]
   constructor
   ·exact .inl
   ·rintro (h' | ⟨_, h'⟩)
    ·exact h'
    ·exact absurd h' hp
abbrev lnA (l : List LineS) : GrS := l.map fun y => (plL y, y.Stats)
theorem zlz {l : List LineS} (h : (l.map plL).Nodup) : zck l = lnA l := by
 have key : ∀ (l : List LineS) (G : GrS), (l.map plL).Nodup → (∀ y ∈ l, alk (plL y) G = none) → l.foldl zeZ G = G ++ lnA l := fun l => by
  induction l with
  | nil => intro G _ _; simp
  | cons x l ih =>
    intro G hn hG
    obtain ⟨h1, h2⟩ := List.nodup_cons.1 (by simpa using hn : (plL x :: l.map plL).Nodup)
    have e : zeZ G x = G ++ [(plL x, x.Stats)] := zhp (hG x List.mem_cons_self)
    rw [List.foldl_cons, e, ih _ h2]
    ·simp
    ·intro y hy
     rw [znD, hG y (List.mem_cons_of_mem _ hy)]
     have : plL y ≠ plL x := fun e => h1 (e ▸ List.mem_map_of_mem hy)
     simp [alk, this]
 have h1 := key l [] h (fun y _ => rfl)
 exact h1
theorem zjm {l : List LineS} (h : l.Pairwise fun a b => zcS a b < 0) : (l.map plL).Nodup := by
 refine List.pairwise_map.2 (h.imp fun {a b} hab e => ?_)
 have := zhV.2 ⟨congrArg Prod.fst e, congrArg Prod.snd e⟩
 omega
theorem zup {l : List StatS} (h : l.Pairwise fun a b => za9 a b < 0) : (l.map (·.Name)).Nodup := by
 refine List.pairwise_map.2 (h.imp fun {a b} hab e => ?_)
 have : za9 a b = 0 := zbH.2 e
 omega
theorem zt6 {l : List StatS} (h : zhj l = 0) : StOk l := by
 obtain ⟨_, h2, h3⟩ := zko h
 exact ⟨zup h3, fun x hx => (zfL.1 (h2 x hx)).2.2⟩
theorem zi1 {l : List LineS} (h : zbm l = 0) {x : LineS} (hx : x ∈ l) : StOk x.Stats := zt6 (zdD.1 ((zdm h).2.1 x hx)).2.2
theorem zsA {l : List LineS} (h : zbm l = 0) : ∀ x ∈ l, (x.Stats.map (·.Name)).Nodup := fun _ hx => (zi1 h hx).nd
theorem zlR {l : List LineS} (h : zbm l = 0) : GSOk (zck l) := by
 have hn := zjm (zdm h).2.2
 refine ⟨zic l, fun q hq => ?_⟩
 rw [zlz hn] at hq
 obtain ⟨y, hy, rfl⟩ := List.mem_map.1 hq
 exact zi1 h hy
/-! what the mended lines are -/
structure GVal (G : GrS) : Prop where
 pl : ∀ q ∈ G, key q.1.1 = true ∧ zb3 q.1.2 = true
 st : ∀ q ∈ G, ∀ s ∈ q.2, key s.Name = true ∧ (-100000 ≤ s.Count ∧ s.Count ≤ 100000)
theorem GVal.step {n : Int} {G : GrS} {x : MendS} (h : GVal G) (hx : zab x = 0) : GVal (zbq n G x) := by
 obtain ⟨k1, k2, k3, k4, _⟩ := zpF hx
 unfold zbq; split
 ·exact h
 ·refine ⟨fun q hq => ?_, fun q hq s hs => ?_⟩
  ·rcases zce hq with rfl | hq
   ·exact ⟨k1, k3⟩
   ·exact h.pl q hq
  ·rcases zce hq with rfl | hq
   ·unfold zcJ at hs
    rcases List.mem_append.1 hs with hs | hs
    ·have h1 := (List.mem_filter.1 hs).1
     cases ha : alk (x.Player, x.Week) G with
     | none => rw [ha] at h1; cases h1
     | some l => rw [ha] at h1; exact h.st _ (zbK ha) s h1
    ·split at hs
     ·rw [List.mem_singleton.1 hs]; exact ⟨k2, k4⟩
     ·cases hs
   ·exact h.st q hq s hs
theorem GVal.go {n : Int} : ∀ {m : List MendS} {G : GrS}, GVal G → (∀ x ∈ m, zab x = 0) → GVal (zed G m n)
 | [], _, h, _ => h
 | x :: m, _, h, hm => GVal.go (m := m) (h.step (hm x List.mem_cons_self)) fun y hy => hm y (List.mem_cons_of_mem _ hy)
theorem ztH {l : List LineS} (h : zbm l = 0) : GVal (zck l) := by
 have hn := zjm (zdm h).2.2
 rw [zlz hn]
 refine ⟨fun q hq => ?_, fun q hq s hs => ?_⟩
 ·obtain ⟨y, hy, rfl⟩ := List.mem_map.1 hq
  obtain ⟨a1, a2, _⟩ := zdD.1 ((zdm h).2.1 y hy)
  exact ⟨a1, a2⟩
 ·obtain ⟨y, hy, rfl⟩ := List.mem_map.1 hq
  obtain ⟨_, _, a3⟩ := zdD.1 ((zdm h).2.1 y hy)
  obtain ⟨b1, b2, _⟩ := zfL.1 ((zko a3).2.1 s hs)
  exact ⟨b1, b2⟩
theorem zlk {l : List StatS} (h : (l.map (·.Name)).Nodup) : (zaV za9 l).Pairwise fun a b => za9 a b < 0 := by
 have h1 := zdE zbT (l := l) (fun _ _ => trivial)
 have h2 : ((zaV za9 l).map (·.Name)).Nodup := ((zbo za9 l).map _).nodup_iff.2 h
 refine (h1.and (List.pairwise_map.1 h2)).imp fun {a b} hab => ?_
 have h3 : za9 a b ≠ 0 := fun e => hab.2 (zbH.1 e)
 omega
theorem zpT {G : GrS} (h : ANodup G) : (zaV zcS (G.map zcy)).Pairwise fun a b => zcS a b < 0 := by
 have h1 := zdE zey (l := G.map zcy) (fun _ _ => trivial)
 have h2 : (zaV zcS (G.map zcy)).Nodup := (zbo zcS _).nodup_iff.2 (zjr h)
 refine (List.Pairwise.and_mem.1 (h1.and h2)).imp fun {a b} hab => ?_
 have h3 : zcS a b ≠ 0 := fun e => hab.2.2.2 (zn3 h ((zdk _).1 hab.1) ((zdk _).1 hab.2.1) e)
 omega
theorem zs9 {a : List LineS} {m : List MendS} {n : Int} (ha : zbm a = 0) (hm : zaz m = 0) (h40 : GLen 40 (zdX a m n)) (hmany : (zdX a m n).length ≤ 30000) : zbm (mdL a m n) = 0 := by
 have hG : GSOk (zdX a m n) := (zlR ha).go
 have hV : GVal (zdX a m n) := (ztH ha).go (zoq hm).2.1
 refine zm1 (by unfold mdL; rw [zcZ, List.length_map]; exact hmany) (fun y hy => ?_) (zpT hG.nd)
 unfold mdL at hy
 rw [zdk] at hy
 obtain ⟨q, hq, rfl⟩ := List.mem_map.1 hy
 have hq2 := hG.ok q hq
 obtain ⟨k1, k2⟩ := hV.pl q hq
 refine zdD.2 ⟨k1, k2, zof (by show (zaV za9 q.2).length ≤ 40; rw [zcZ]; exact h40 q hq) (fun s hs => ?_) (zlk hq2.nd)⟩
 have hs' : s ∈ q.2 := (zdk _).1 hs
 obtain ⟨k3, k4⟩ := hV.st q hq s hs'
 exact zfL.2 ⟨k3, k4, hq2.nz s hs'⟩
end
section
open Go.Proofs Go.Shelf
variable {P : Program}
theorem zts [Tracks] {ρ : Ren} (L : SlLaysW.n5 P ρ) {b : Nat} {l : List (HVal × HVal)} : Con P (ρ.f 5) [.raw (.map (some b))] [.map b l] fun x M' => ∃ b', x = .raw (.map (some b')) ∧ M' = [.map b' l, .map b l] := by
 intro I F w args ha hs
 obtain ⟨u, rfl, hu⟩ := ha.one
 obtain rfl := hu.raw_inv
 obtain ⟨es, clk, h1, h2, h3⟩ := hs.obj (.map b l) (by simp)
 refine (AnyW.maps_Clone L b es clk w h1).mono ?_
 rintro _ w' ⟨rfl, rfl⟩
 refine ⟨_, _, _, I, rfl, .refl I, ⟨w.heap.size, rfl, rfl⟩, .raw _ rfl, ?_⟩
 exact hs.new_own (.map es clk) (.map w.heap.size l) rfl ⟨es, clk, by simp [push], h2, h3⟩
end
section

end
section
section
variable {P : Program}
theorem VL.takeL {I : Imm} {cs : List HVal} {vs : List Value} (h : VL I cs vs) (n : Nat) : VL I (cs.take n) (vs.take n) := by
 refine ⟨by rw [List.length_take, List.length_take, h.1], fun j c v h1 h2 => ?_⟩
 have hj := zK h1
 rw [List.length_take] at hj
 rw [List.getElem?_take_of_lt (by omega)] at h1 h2
 exact h.2 j c v h1 h2
theorem VL.dropL {I : Imm} {cs : List HVal} {vs : List Value} (h : VL I cs vs) (n : Nat) : VL I (cs.drop n) (vs.drop n) := by
 refine ⟨by rw [List.length_drop, List.length_drop, h.1], fun j c v h1 h2 => ?_⟩
 rw [List.getElem?_drop] at h1 h2
 exact h.2 _ c v h1 h2
theorem zls : ∀ {a b c d : List HVal}, a.length = b.length → zbX (a ++ c) (b ++ d) = (zbX a b && zbX c d)
 | [], [], _, _, _ => by simp [zbX]
 | [], _ :: _, _, _, h => by simp at h
 | _ :: _, [], _, _, h => by simp at h
 | x :: a, y :: b, c, d, h => by
   rw [List.cons_append, List.cons_append, zbX, zbX, zls (a := a) (b := b) (by simpa using h), Bool.and_assoc]
theorem znc [Tracks] {t : TypeId} {fs : List (Nat × Nat)} {s by' : Nat} {z : Value} (hf : Fits P t (.struct fs) s by' z) (hq : EqOk P t) {I : Imm} {xs ys : Array Value} {cs ds : List HVal} (hx : VL I cs xs.toList) (hy : VL I ds ys.toList)
 (hk : zge P fs 0 cs ds) (n : Nat) (w : World) : (Op.equalIn (n + 2) t (.agg xs) (.agg ys)).run P w = .ok (zbX cs ds) w := by
 obtain ⟨gs, h1, h2⟩ := hf.structD
 have h3 : P.fieldsOf t = gs := by simp [Program.fieldsOf, h1]
 have hn := hq.names
 rw [h3] at hn
 rw [run_equalIn_struct w (n + 1) t xs ys (by rw [h3]; exact h1) hq.held, h3]
 have := zg6 (P := P) hx hy n w gs.toList 0 (fun f hf => by have := List.all_eq_true.1 hn f hf; simpa using this) (by rw [h2]; exact hk)
 simpa using this
theorem zlq [Tracks] {t : TypeId} {gs : List (Nat × Nat)} {s by' : Nat} {z : Value} (hf : Fits P t (.struct gs) s by' z) {cs : Array Value} {o : Nat} (w : World) : (part t cs o).run P w = .ok (.agg (cs.extract o (o + s))) w := by
 simp [part, hf.run_isAgg, hf.run_sizeOf, TD.isAgg]
theorem zhc (xs : Array Value) (o s : Nat) : (xs.extract o (o + s)).toList = (xs.toList.drop o).take s := by
 rw [Array.toList_extract, List.extract_eq_take_drop, Nat.add_sub_cancel_left]
end
section
variable {P : Program} {e : Env} {dst : Option Tmp} {ty : TypeId} {pos : String} {af : Array Edge} {g : Option (Nat × Bool)}
end
end
section
section
variable {P : Program}
/-- A struct's fields, each a struct of single cells or a single cell. -/
def ziN (P : Program) : List (Nat × Nat) → Nat → List HVal → List HVal → Prop
 | [], _, cs, ds => cs = [] ∧ ds = []
 | f :: fs, k, cs, ds => f.1 = k ∧ ((∃ gs s by' z, Fits P f.2 (.struct gs) s by' z ∧ EqOk P f.2 ∧ s ≤ cs.length ∧ s ≤ ds.length ∧ zge P gs 0 (cs.take s) (ds.take s) ∧ ziN P fs (k + s) (cs.drop s) (ds.drop s)) ∨
    ∃ d s by' z a b r r', cs = a :: r ∧ ds = b :: r' ∧ Fits P f.2 d s by' z ∧ zdY d a b = true ∧ ziN P fs (k + 1) r r')
theorem zgG [Tracks] {I : Imm} {xs ys : Array Value} {cs ds : List HVal} (hx : VL I cs xs.toList) (hy : VL I ds ys.toList) (n : Nat) (w : World) :
 ∀ (fs : List Field) (k : Nat), (∀ f ∈ fs, f.name ≠ "_") → ziN P (fs.map fun f => (f.offset, f.type)) k (cs.drop k) (ds.drop k) → (Op.eqFields (n + 2) xs ys fs).run P w = .ok (zbX (cs.drop k) (ds.drop k)) w
 | [], k, _, hk => by
   obtain ⟨h1, h2⟩ := hk
   rw [h1, h2]
   simp [Op.eqFields, zbX]
 | f :: fs, k, hn, hk => by
   obtain ⟨h1, hk⟩ := hk
   simp only at h1
   rcases hk with ⟨gs, s, by', z, h2, hq, l1, l2, h3, h4⟩ | ⟨d, s, by', z, a, b, r, r', hc, hd, h2, h3, h4⟩
   ·simp only at h2 hq
    rw [List.drop_drop, List.drop_drop] at h4
    have ih := zgG hx hy n w fs (k + s) (fun f hf => hn f (by simp [hf])) h4
    subst h1
    have e1 : VL I ((cs.drop f.offset).take s) (xs.extract f.offset (f.offset + s)).toList := by rw [zhc]; exact (hx.dropL _).takeL _
    have e2 : VL I ((ds.drop f.offset).take s) (ys.extract f.offset (f.offset + s)).toList := by rw [zhc]; exact (hy.dropL _).takeL _
    have he := znc h2 hq e1 e2 h3 n w
    have hs : zbX (cs.drop f.offset) (ds.drop f.offset) = (zbX ((cs.drop f.offset).take s) ((ds.drop f.offset).take s) && zbX (cs.drop (f.offset + s)) (ds.drop (f.offset + s))) := by
     rw [← List.drop_drop (l := cs), ← List.drop_drop (l := ds), ← zls (by rw [List.length_take, List.length_take]; omega), List.take_append_drop, List.take_append_drop]
    simp only [Op.eqFields]
    rw [if_pos (hn f (by simp))]
    simp only [Sem.run_bind, zlq h2, Result.andThen_ok, he]
    rw [hs]
    cases hq : zbX ((cs.drop f.offset).take s) ((ds.drop f.offset).take s) with
    | true => simp only [Bool.not_true, Bool.false_eq_true, if_false, ih, Bool.true_and]
    | false => simp only [Bool.not_false, if_true, Sem.run_pure, Bool.false_and]
   ·simp only at h2
    have ha : cs[k]? = some a := by have := congrArg (fun l : List HVal => l[0]?) hc; simpa using this
    have hb : ds[k]? = some b := by have := congrArg (fun l : List HVal => l[0]?) hd; simpa using this
    obtain ⟨u, hu, hu'⟩ := hx.get ha
    obtain ⟨v, hv, hv'⟩ := hy.get hb
    have hr : cs.drop (k + 1) = r := by rw [← List.drop_drop (i := 1), hc]; rfl
    have hr' : ds.drop (k + 1) = r' := by rw [← List.drop_drop (i := 1), hd]; rfl
    have ih := zgG hx hy n w fs (k + 1) (fun f hf => hn f (by simp [hf])) (by rw [hr, hr']; exact h4)
    subst h1
    have p1 := zf5 h2 (zet h3) (cs := xs) (o := f.offset) (by simpa using hu) w
    have p2 := zf5 h2 (zet h3) (cs := ys) (o := f.offset) (by simpa using hv) w
    have he := zhq h2 h3 hu' hv' (n + 1) w
    simp only [Op.eqFields]
    rw [if_pos (hn f (by simp))]
    simp only [Sem.run_bind, p1, p2, Result.andThen_ok, he]
    rw [hc, hd, zbX, ← hr, ← hr']
    cases hq : eqH a b with
    | true => simp only [Bool.not_true, Bool.false_eq_true, if_false, ih, Bool.true_and]
    | false => simp only [Bool.not_false, if_true, Sem.run_pure, Bool.false_and]
theorem zk1 [Tracks] {t : TypeId} {fs : List (Nat × Nat)} {s by' : Nat} {z : Value} (hf : Fits P t (.struct fs) s by' z) (hq : EqOk P t) {I : Imm} {xs ys : Array Value} {cs ds : List HVal} (hx : VL I cs xs.toList) (hy : VL I ds ys.toList)
 (hk : ziN P fs 0 cs ds) (w : World) : (Op.equal t (.agg xs) (.agg ys)).run P w = .ok (zbX cs ds) w := by
 obtain ⟨gs, h1, h2⟩ := hf.structD
 have h3 : P.fieldsOf t = gs := by simp [Program.fieldsOf, h1]
 have hn := hq.names
 rw [h3] at hn
 have h : ∀ n, (Op.equalIn (n + 3) t (.agg xs) (.agg ys)).run P w = .ok (zbX cs ds) w := fun n => by
  rw [run_equalIn_struct w (n + 2) t xs ys (by rw [h3]; exact h1) hq.held, h3]
  have := zgG (P := P) hx hy n w gs.toList 0 (fun f hf => by have := List.all_eq_true.1 hn f hf; simpa using this) (by rw [h2]; exact hk)
  simpa using this
 exact h 9997
/-- A struct of single cells as a key, at any depth that is left. -/
theorem zpc {t : TypeId} {fs : List (Nat × Nat)} {s by' : Nat} {z : Value} (hf : Fits P t (.struct fs) s by' z) (hq : EqOk P t) {I : Imm} {xs : Array Value} {cs : List HVal} (hx : VL I cs xs.toList) (hk : zge P fs 0 cs cs) (em : Bool) (n : Nat) (w : World) :
 (Instr.checkKey em (n + 2) t (.agg xs)).run P w = .ok () w := by
 haveI : Tracks := ⟨true⟩
 obtain ⟨gs, h1, h2⟩ := hf.structD
 have hn : ∀ f ∈ gs.toList, f.name ≠ "_" := fun f hf => by
  have := hq.names
  rw [show P.fieldsOf t = gs by simp [Program.fieldsOf, h1]] at this
  have := List.all_eq_true.1 this f hf; simpa using this
 have each := zjq (P := P) hx em n w gs.toList 0 (by rw [h2]; exact hk)
 rw [show n + 2 = (n + 1) + 1 from rfl, Instr.checkKey]
 simp only [Sem.run_bind, run_underlying h1, Result.andThen_ok]
 rw [← Array.forIn_toList]
 clear h1 h2
 generalize gs.toList = L at each hn
 induction L with
 | nil => simp
 | cons f L ih =>
   obtain ⟨a, p1, p2⟩ := each f (by simp)
   have hn1 := hn f (by simp)
   simp only [List.forIn_cons, Sem.run_bind, hn1, ne_eq, not_false_eq_true, if_true, Result.andThen_ok, p1, p2, Sem.run_pure]
   exact ih (fun y hy => each y (by simp [hy])) (fun y hy => hn y (by simp [hy]))
theorem zh1 {I : Imm} {xs : Array Value} {cs : List HVal} (hx : VL I cs xs.toList) (em : Bool) (n : Nat) (w : World) :
 ∀ (fs : List Field) (k : Nat), ziN P (fs.map fun f => (f.offset, f.type)) k (cs.drop k) (cs.drop k) → ∀ f ∈ fs, ∃ a, (part f.type xs f.offset).run P w = .ok a w ∧ (Instr.checkKey em (n + 2) f.type a).run P w = .ok () w
 | [], k, _, f, hf => by simp at hf
 | g :: fs, k, hk, f, hf => by
   haveI : Tracks := ⟨true⟩
   obtain ⟨h1, hk⟩ := hk
   simp only at h1
   rcases hk with ⟨gs, s, by', z, h2, hq, l1, l2, h3, h4⟩ | ⟨d, s, by', z, a, b, r, r', hc, hd, h2, h3, h4⟩
   ·rw [List.drop_drop] at h4
    rcases List.mem_cons.1 hf with rfl | hf
    ·subst h1
     have e1 : VL I ((cs.drop f.offset).take s) (xs.extract f.offset (f.offset + s)).toList := by rw [zhc]; exact (hx.dropL _).takeL _
     exact ⟨_, zlq h2 w, zpc h2 hq e1 h3 em n w⟩
    ·exact zh1 hx em n w fs (k + s) h4 f hf
   ·have ha : cs[k]? = some a := by have := congrArg (fun l : List HVal => l[0]?) hc; simpa using this
    have hr : cs.drop (k + 1) = r := by rw [← List.drop_drop (i := 1), hc]; rfl
    have hab : a = b ∧ r = r' := by rw [hc] at hd; simpa using hd
    obtain ⟨rfl, rfl⟩ := hab
    rcases List.mem_cons.1 hf with rfl | hf
    ·obtain ⟨u, hu, hu'⟩ := hx.get ha
     exact ⟨u, zf5 h2 (zet h3) (by rw [h1]; simpa using hu) w, zhl h2 h3 hu' em (n + 1) w⟩
    ·exact zh1 hx em n w fs (k + 1) (by rw [hr]; exact h4) f hf
theorem zoX {κ : Type} [DecidableEq κ] {kt : TypeId} {fs : List (Nat × Nat)} {s by' : Nat} {z : Value} {cs : κ → List HVal} (hf : Fits P kt (.struct fs) s by' z) (hq : EqOk P kt) (hk : ∀ x y, ziN P fs 0 (cs x) (cs y))
 (he : ∀ x y, zbX (cs x) (cs y) = decide (x = y)) (hs : ∀ x, zi6 (cs x) = true) : KeyOk P kt (fun x => .agg (cs x)) := by
 haveI : Tracks := ⟨true⟩
 obtain ⟨gs, h1, h2⟩ := hf.structD
 have hn : ∀ f ∈ gs.toList, f.name ≠ "_" := fun f hf => by
  have := hq.names
  rw [show P.fieldsOf kt = gs by simp [Program.fieldsOf, h1]] at this
  have := List.all_eq_true.1 this f hf; simpa using this
 refine ⟨fun I x v b w hv => ?_, fun I x y u v w hu hv => ?_, fun I x v es w hv hes => run_findKey_eq w (by rw [h1]) v es, fun I x u v hu hv => ?_⟩
 ·obtain ⟨xs, rfl, hx⟩ := hv.agg_inv
  have each := zh1 (P := P) hx b 9997 w gs.toList 0 (by rw [h2]; exact hk x x)
  rw [show (10000 : Nat) = 9999 + 1 from rfl, Instr.checkKey]
  simp only [Sem.run_bind, run_underlying h1, Result.andThen_ok]
  rw [← Array.forIn_toList]
  clear h1 h2
  generalize gs.toList = L at each hn
  induction L with
  | nil => simp
  | cons f L ih =>
    obtain ⟨a, p1, p2⟩ := each f (by simp)
    have hn1 := hn f (by simp)
    simp only [List.forIn_cons, Sem.run_bind, hn1, ne_eq, not_false_eq_true, if_true, Result.andThen_ok, p1, p2, Sem.run_pure]
    exact ih (fun y hy => each y (by simp [hy])) (fun y hy => hn y (by simp [hy]))
 ·obtain ⟨xs, rfl, hx⟩ := hu.agg_inv
  obtain ⟨ys, rfl, hy⟩ := hv.agg_inv
  rw [zk1 hf hq hx hy (hk x y) w, he]
 ·obtain ⟨xs, rfl, hx⟩ := hu.agg_inv
  obtain ⟨ys, rfl, hy⟩ := hv.agg_inv
  obtain ⟨e1, e2⟩ := znU (hs x) hx hy
  have e3 : xs = ys := by have := congrArg List.toArray e1; simpa using this
  subst e3
  show Instr.sameBits (9999 + 1) _ _ = true
  simp only [Instr.sameBits, beq_self_eq_true, Bool.true_and, List.all_eq_true]
  intro p hp
  have h9 : ∀ (l : List Value) (p : Value × Value), p ∈ l.zip l → p.1 ∈ l ∧ p.1 = p.2 := fun l => by
   induction l with
   | nil => intro p hp; simp at hp
   | cons a l ih =>
     intro p hp
     simp only [List.zip_cons_cons, List.mem_cons] at hp
     rcases hp with rfl | hp
     ·exact ⟨by simp, rfl⟩
     ·exact ⟨by simp [(ih p hp).1], (ih p hp).2⟩
  obtain ⟨q1, q2⟩ := h9 _ p hp
  obtain ⟨u, v⟩ := p
  simp only at q1 q2
  subst q2
  exact e2 u q1 9999
end
end
end Go.HL
namespace Go.Proofs.YtjecenjmphpmfaaGreatDoor
set_option maxRecDepth 100000
set_option linter.unusedVariables false
set_option linter.unusedSimpArgs false
section
open Go.HL
set_option linter.unusedSimpArgs false
end
section
open Go.HL
/-- slices.Clone[[]string,string] -/
theorem zf7 [Tracks] {l : List Str} (hl : l.length ≤ 1000000) : zlW Tryz.prog 134 [eSs l] 1 (l.map .str) := by
 refine Con.of_body Tryz.func134 rfl Tryz.ntmps134 rfl rfl ?_
 refine za ?_
 refine das rfl ?_
 refine dn ?_
 refine zf ?_
 refine za ?_
 refine dmv rfl ?_
 refine de rfl (zhO zaj rfl rfl fun b4 hb4 => ?_)
 refine dn ?_
 refine zi rfl (fun h1 => ?_) (fun h2 => ?_)
 ·try simp at h1
  refine za ?_
  refine das rfl ?_
  refine dn ?_
  refine zk ?_
  exact zat (Ghost.arr_nil 1) rfl ⟨_, rfl, by simp_all⟩
 ·try simp at h2
  refine zl ?_
  refine ze ?_
  refine za ?_
  refine de rfl (ziv zaj ty9 fun v5 => ?_)
  refine dmv rfl ?_
  refine de rfl (zan (i := 0) zaj ty9 rfl rfl rfl rfl rfl (by simp [za5, zh]) (by simp; omega) fun v7 => ?_)
  refine das rfl ?_
  refine dn ?_
  refine zk ?_
  exact zgN rfl rfl

end
section
open Go.HL
set_option linter.unusedSimpArgs false
end
section
open Go.HL
/-- strings.makeASCIISet -/
theorem zh9 [Tracks] {l : Str} (hl : l.length ≤ 1000000) (ha : ∀ c ∈ l, c.toNat < 128) : ConP Tryz.prog 145 [.str l] (.tup [.agg (asciiSet l), .bool true]) := by
 refine Con.of_bodyc Tryz.func145 rfl Tryz.ntmps145 rfl rfl ?_
 refine za ?_
 refine de rfl (z8 zhH rfl fun b2 => ?_)
 refine das rfl ?_
 refine dn ?_
 refine zf ?_
 refine za ?_
 refine das rfl ?_
 refine dn ?_
 refine zn ?_
 refine zak [3, 4, 5, 6, 7, 8, 9, 10, 11, 12, 13, 14, 15, 16, 17, 18, 19] (fun (k : Nat) => [(4, .int .i64 k)]) (fun (k : Nat) => [.cells b2 (asciiSet (l.take k))]) (fun (k : Nat) => k ≤ l.length ∧ (True)) (fun (k : Nat) => l.length - k) (0) ?_ ?_ ?_ ?_
 ·exact ⟨Nat.zero_le _, by simp_all⟩
 ·exact ⟨rfl, trivial⟩
 ·exact zS rfl
 ·intro k hinv
  obtain ⟨hk, -⟩ := hinv
  refine zf ?_
  refine za ?_
  refine dmv rfl ?_
  refine dmv rfl ?_
  refine dq (zbk ty9 rfl) ?_
  refine dq (zW rfl rfl) ?_
  refine dn ?_
  refine zi rfl (fun h1 => ?_) (fun h2 => ?_)
  ·try simp at h1
   obtain ⟨x, hx⟩ : ∃ x, l[k]? = some x := ⟨_, List.getElem?_eq_getElem h1⟩
   have hdx := zX hx
   have hc := ha x (List.mem_of_getElem? hx)
   refine zl ?_
   refine ze ?_
   refine zf ?_
   refine zn ?_
   refine za ?_
   refine dmv rfl ?_
   refine dmv rfl ?_
   refine dq (zbA ty9 rfl rfl rfl (by assumption)) ?_
   refine das rfl ?_
   refine dn ?_
   refine zf ?_
   refine za ?_
   refine dmv rfl ?_
   refine dq (zbW rfl rfl) ?_
   refine dn ?_
   refine zi rfl (fun h3 => ?_) (fun h3 => ?_)
   ·exfalso
    try simp at h3
    omega
   ·try simp at h3
    refine zl ?_
    refine ze ?_
    refine zB ?_
    refine dmv rfl ?_
    refine dq (zpW zhH ty4 rfl rfl rfl (by omega)) ?_
    refine de0 (z7 (i := 0) ty4 rfl rfl rfl rfl rfl (by rw [zc7]; omega) ?_)
    refine dn ?_
    refine zG ?_
    refine ze ?_
    refine zB ?_
    refine dmv rfl ?_
    refine dq (zC rfl rfl (by omega) (by omega)) ?_
    refine das rfl ?_
    refine dn ?_
    refine ⟨k + 1, ?_, ?_, ⟨rfl, trivial⟩, (by repeat (first | exact zp | refine zt rfl ?_ | refine zq rfl rfl ?_)), zS (by show [MObj.cells b2 (zO _ (0 + x.toNat * 1) [.bool true])] = _; rw [zqo]; dsimp only; rw [List.take_add_one, hx]; rfl)⟩
    ·exact ⟨by omega, trivial⟩
    ·dsimp only; omega
  ·try simp at h2
   have hnk : l.length ≤ k := by omega
   obtain rfl : k = l.length := by omega
   refine zU ?_
   refine z6 ?_
   refine zas ?_
   refine zJ ?_
   refine ze ?_
   refine zH (Ghost.of_eq (M' := [.cells b2 (asciiSet l)]) (by rw [List.take_length])) ?_
   refine za ?_
   refine de rfl (zdJ (i := 0) (h := .agg (asciiSet l)) zhH rfl rfl rfl rfl (zc7 l) ?_)
   refine de0 (zae (h := .agg (asciiSet l)) zhH rfl rfl (by simp [zd0, zc7]) (zoS l) (zc7 l) ?_)
   refine das rfl ?_
   refine dn ?_
   refine zk ?_
   refine ⟨_, _, Ghost.fc0 2 rfl, [_, _], _, ⟨⟨_, _, _, _, _, rfl, zhH, .inr ⟨rfl, rfl, rfl⟩⟩, ⟨rfl, trivial⟩⟩, Weak.refl _, ?_, rfl⟩
   rfl

/-- (*strings.asciiSet).contains -/
theorem zdM [Tracks] {l : Str} {c : UInt8}  : ConP Tryz.prog 188 [.vptr (asciiSet l) 0, .int .u8 c.toNat] (.bool (l.contains c)) := by
 have hc := c.toNat_lt
 refine Con.of_body Tryz.func188 rfl Tryz.ntmps188 rfl rfl ?_
 refine za ?_
 refine das rfl ?_
 refine dn ?_
 refine za ?_
 refine dmv rfl ?_
 refine dmv rfl ?_
 refine dq ((za8 rfl)) ?_
 refine dq (zuJ zhH ty4 rfl rfl rfl (by omega)) ?_
 refine dq (zc ty4 rfl rfl (by rw [show 0 + c.toNat * 1 = c.toNat from by omega]; exact zjW l c)) ?_
 refine das rfl ?_
 refine dn ?_
 refine zk ?_
 refine zF rfl ?_
 rfl

/-- strings.trimLeftASCII -/
theorem zhx [Tracks] {s l : Str} (hl : s.length ≤ 1000000) : ConP Tryz.prog 146 [.str s, .vptr (asciiSet l) 0] (.str (s.dropWhile (l.contains ·))) := by
 refine Con.of_body Tryz.func146 rfl Tryz.ntmps146 rfl rfl ?_
 refine za ?_
 refine das rfl ?_
 refine dn ?_
 refine zf ?_
 refine zn ?_
 refine zak [0, 5, 6, 7, 8, 9, 10, 11, 12, 13, 14] (fun (t : Str) => [(0, .str t)]) (fun (t : Str) => []) (fun (t : Str) => t.length ≤ s.length ∧ s.dropWhile (l.contains ·) = t.dropWhile (l.contains ·)) (fun (t : Str) => t.length) (s) ?_ ?_ ?_ ?_
 ·exact ⟨Nat.le_refl _, rfl⟩
 ·exact ⟨rfl, trivial⟩
 ·exact List.Perm.refl _
 ·intro t hinv
  obtain ⟨ht, hg⟩ := hinv
  refine zf ?_
  refine za ?_
  refine dmv rfl ?_
  refine dq (zbk ty9 rfl) ?_
  refine dq (zaf rfl rfl) ?_
  refine dn ?_
  refine zi rfl (fun h1 => ?_) (fun h2 => ?_)
  ·try simp at h1
   obtain ⟨x, u, rfl⟩ : ∃ x u, t = x :: u := by cases t with | nil => simp at h1 | cons x u => exact ⟨x, u, rfl⟩
   have hlen : (x :: u).length = u.length + 1 := rfl
   refine zl ?_
   refine ze ?_
   refine zn ?_
   refine zf ?_
   refine za ?_
   refine dmv rfl ?_
   refine dmv rfl ?_
   refine dq (zbA (j := 0) (b := x) ty9 rfl rfl rfl rfl) ?_
   refine dq (zj zvx rfl (WeakL.refl _) zdM) ?_
   refine dq (zaa rfl) ?_
   refine dn ?_
   refine zi rfl (fun h3 => ?_) (fun h4 => ?_)
   ·try simp at h3
    refine zU ?_
    refine z6 ?_
    refine zol rfl ?_
    refine zas ?_
    refine zJ ?_
    refine ze ?_
    refine za ?_
    refine dmv rfl ?_
    refine das rfl ?_
    refine dn ?_
    refine zk ?_
    refine zF rfl ?_
    show HVal.str _ = _
    rw [hg]; simp_all [List.dropWhile_cons]
   ·try simp at h4
    refine zl ?_
    refine ze ?_
    refine zB ?_
    refine dmv rfl ?_
    refine dq (zdl (l := 1) ty9 rfl ⟨_, _, rfl, rfl⟩ rfl (by omega) (by omega)) ?_
    refine das rfl ?_
    refine dn ?_
    refine zG ?_
    refine ⟨_, ?_, ?_, ⟨rfl, trivial⟩, (by repeat (first | exact zp | refine zt rfl ?_ | refine zq rfl rfl ?_)), List.Perm.refl _⟩
    ·refine ⟨by simp at ht ⊢; omega, ?_⟩
     rw [hg]; simp_all [List.dropWhile_cons]
    ·dsimp only; simp
  ·try simp at h2
   obtain rfl : t = [] := by simpa using h2
   refine zU ?_
   refine z6 ?_
   refine zas ?_
   refine zJ ?_
   refine ze ?_
   refine za ?_
   refine dmv rfl ?_
   refine das rfl ?_
   refine dn ?_
   refine zk ?_
   refine zF rfl ?_
   show HVal.str _ = _
   rw [hg]; simp_all [List.dropWhile_cons]

/-- strings.trimRightASCII -/
theorem zhr [Tracks] {s l : Str} (hl : s.length ≤ 1000000) : ConP Tryz.prog 147 [.str s, .vptr (asciiSet l) 0] (.str (zdQ (l.contains ·) s)) := by
 refine Con.of_body Tryz.func147 rfl Tryz.ntmps147 rfl rfl ?_
 refine za ?_
 refine das rfl ?_
 refine dn ?_
 refine zf ?_
 refine zn ?_
 refine zak [0, 5, 6, 7, 8, 9, 10, 11, 12, 13, 14, 15, 16, 17, 18, 19, 20] (fun (t : Str) => [(0, .str t)]) (fun (t : Str) => []) (fun (t : Str) => t.length ≤ s.length ∧ zdQ (l.contains ·) s = zdQ (l.contains ·) t) (fun (t : Str) => t.length) (s) ?_ ?_ ?_ ?_
 ·exact ⟨Nat.le_refl _, rfl⟩
 ·exact ⟨rfl, trivial⟩
 ·exact List.Perm.refl _
 ·intro t hinv
  obtain ⟨ht, hg⟩ := hinv
  refine zf ?_
  refine za ?_
  refine dmv rfl ?_
  refine dq (zbk ty9 rfl) ?_
  refine dq (zaf rfl rfl) ?_
  refine dn ?_
  refine zi rfl (fun h1 => ?_) (fun h2 => ?_)
  ·try simp at h1
   obtain ⟨u, x, rfl⟩ : ∃ u x, t = u ++ [x] := ⟨_, _, (List.dropLast_concat_getLast (by intro h0; subst h0; simp at h1)).symm⟩
   have hlen : (u ++ [x]).length = u.length + 1 := by simp
   refine zl ?_
   refine ze ?_
   refine zn ?_
   refine zf ?_
   refine za ?_
   refine dmv rfl ?_
   refine dmv rfl ?_
   refine dmv rfl ?_
   refine dq (zbk ty9 rfl) ?_
   refine dq (zbd rfl rfl (by omega) (by omega)) ?_
   refine dq (zbA (j := u.length) (b := x) ty9 rfl rfl (by omega) (by simp)) ?_
   refine dq (zj zvx rfl (WeakL.refl _) zdM) ?_
   refine dq (zaa rfl) ?_
   refine dn ?_
   refine zi rfl (fun h3 => ?_) (fun h4 => ?_)
   ·try simp at h3
    refine zU ?_
    refine z6 ?_
    refine zol rfl ?_
    refine zas ?_
    refine zJ ?_
    refine ze ?_
    refine za ?_
    refine dmv rfl ?_
    refine das rfl ?_
    refine dn ?_
    refine zk ?_
    refine zF rfl ?_
    show HVal.str _ = _
    rw [hg]; first | rfl | (rw [zg0, if_neg (by simp_all)])
   ·try simp at h4
    refine zl ?_
    refine ze ?_
    refine zB ?_
    refine dmv rfl ?_
    refine dmv rfl ?_
    refine dq (zbk ty9 rfl) ?_
    refine dq (zbd rfl rfl (by omega) (by omega)) ?_
    refine dq (zdl (l := 0) (h := u.length) ty9 rfl rfl ⟨_, _, rfl, by omega⟩ (by omega) (by omega)) ?_
    refine das rfl ?_
    refine dn ?_
    refine zG ?_
    refine ⟨_, ?_, ?_, ⟨rfl, trivial⟩, (by repeat (first | exact zp | refine zt rfl ?_ | refine zq rfl rfl ?_)), List.Perm.refl _⟩
    ·refine ⟨by simp at ht ⊢; omega, ?_⟩
     rw [hg, zg0, if_pos (by simp_all)]; simp
    ·dsimp only; simp
  ·try simp at h2
   obtain rfl : t = [] := by simpa using h2
   refine zU ?_
   refine z6 ?_
   refine zas ?_
   refine zJ ?_
   refine ze ?_
   refine za ?_
   refine dmv rfl ?_
   refine das rfl ?_
   refine dn ?_
   refine zk ?_
   refine zF rfl ?_
   show HVal.str _ = _
   rw [hg]; first | rfl | (rw [zg0, if_neg (by simp_all)])

/-- strings.Trim -/
theorem zfX [Tracks] {s l : Str} (hs : s.length ≤ 1000000) (hl : l.length ≤ 1000000) (h2l : 2 ≤ l.length) (ha : ∀ c ∈ l, c.toNat < 128) : ConP Tryz.prog 93 [.str s, .str l] (.str ((zdQ (l.contains ·) s).dropWhile (l.contains ·))) := by
 refine Con.of_body Tryz.func93 rfl Tryz.ntmps93 rfl rfl ?_
 refine za ?_
 refine das rfl ?_
 refine dn ?_
 refine zf ?_
 refine za ?_
 refine dmv rfl ?_
 refine dq (zaY rfl rfl) ?_
 refine dmv rfl ?_
 refine dg rfl rfl (fun hc => ⟨_, OpenTo.refl _, zd rfl⟩) ?_
 refine dg rfl rfl (fun hc => ⟨_, OpenTo.upd (t := 10) rfl (hc) (OpenTo.refl _), zaY rfl rfl⟩) ?_
 refine dq (zv rfl (.inl rfl) (.inr ⟨_, rfl, fun h => by simp_all⟩)) ?_
 refine dn ?_
 refine zi rfl (fun h1 => ?_) (fun h2 => ?_)
 ·try simp at h1
  refine za ?_
  refine dmv rfl ?_
  refine das rfl ?_
  refine dn ?_
  refine zk ?_
  refine zF rfl ?_
  show HVal.str _ = _
  (rcases h1 with rfl | rfl <;> first | (simp at h2l; done) | (simp [zdQ]; done))
 ·try simp at h2
  refine zl ?_
  refine ze ?_
  refine zf ?_
  refine za ?_
  refine dmv rfl ?_
  refine dq (zbk ty9 rfl) ?_
  refine dq (zaJ rfl rfl) ?_
  refine dmv rfl ?_
  refine dg rfl rfl (fun hc => ⟨_, OpenTo.refl _, zd rfl⟩) ?_
  refine dg rfl rfl (fun hc => ⟨_, OpenTo.upd (t := 18) rfl (hc) (OpenTo.refl _), zbA (j := 0) (b := l.headD 0) ty9 rfl rfl rfl (hd0 (by intro h0; subst h0; simp at h2l))⟩) ?_
  refine dg rfl rfl (fun hc => ⟨_, OpenTo.upd (t := 19) rfl (hc) (OpenTo.refl _), zW rfl rfl⟩) ?_
  refine dq (zv rfl (.inr ⟨_, rfl, fun h => by simp_all⟩) (.inl rfl)) ?_
  refine dn ?_
  refine zi rfl (fun h3 => ?_) (fun h3 => ?_)
  ·exfalso
   try simp at h3
   omega
  ·try simp at h3
   refine zl ?_
   refine ze ?_
   refine zf ?_
   refine za ?_
   refine dmv rfl ?_
   refine dq (zj zxk rfl (WeakL.refl _) (zh9 (by assumption) (by assumption))) ?_
   refine dmv rfl ?_
   refine dq (zx rfl rfl) ?_
   refine dq (zx rfl rfl) ?_
   refine de rfl (z8 zhH rfl fun b5 => ?_)
   refine de0 (zae zhH rfl rfl rfl rfl rfl ?_)
   refine das rfl ?_
   refine dn ?_
   refine zH (Ghost.fc0 5 rfl) ?_
   refine za ?_
   refine dmv rfl ?_
   refine dn ?_
   refine znX rfl ?_
   refine za ?_
   refine dmv rfl ?_
   refine dq (zj zx7 rfl (WeakL.refl _) (zhr (by assumption))) ?_
   refine dq (zj zw3 rfl (WeakL.refl _) (zhx (Nat.le_trans (zsV _ _) hs))) ?_
   refine das rfl ?_
   refine dn ?_
   refine zk ?_
   refine zF rfl ?_
   show HVal.str _ = _
   rfl

/-- internal/stringslite.IndexByte -/
theorem zfg [Tracks] {s : Str} {c : Int}  : ConP Tryz.prog 150 [.str s, .int .u8 c] (.int .i64 (Lib.indexByte s c.toNat.toUInt8)) := by
 refine Con.of_body Tryz.func150 rfl Tryz.ntmps150 rfl rfl ?_
 refine za ?_
 refine das rfl ?_
 refine dn ?_
 refine za ?_
 refine dmv rfl ?_
 refine dmv rfl ?_
 refine dq (zoF Tryz.func192 (by kernel_rfl) (by kernel_rfl) (by kernel_rfl) (by kernel_rfl) rfl rfl rfl) ?_
 refine das rfl ?_
 refine dn ?_
 refine zk ?_
 refine zF rfl ?_
 rfl

/-- strings.IndexByte -/
theorem zfS [Tracks] {s : Str} {c : Int}  : ConP Tryz.prog 94 [.str s, .int .u8 c] (.int .i64 (Lib.indexByte s c.toNat.toUInt8)) := by
 refine Con.of_body Tryz.func94 rfl Tryz.ntmps94 rfl rfl ?_
 refine za ?_
 refine das rfl ?_
 refine dn ?_
 refine za ?_
 refine dmv rfl ?_
 refine dmv rfl ?_
 refine dq (zj zxB rfl (WeakL.refl _) zfg) ?_
 refine das rfl ?_
 refine dn ?_
 refine zk ?_
 refine zF rfl ?_
 rfl

/-- benchwarmer/benchref1.in -/
theorem za7 [Tracks] {n lo hi : Int}  : ConP Tryz.prog 52 [.int .i64 n, .int .i64 lo, .int .i64 hi] (.bool (!(out n lo hi))) := by
 refine Con.of_body Tryz.func52 rfl Tryz.ntmps52 rfl rfl ?_
 refine za ?_
 refine das rfl ?_
 refine dn ?_
 refine za ?_
 refine dmv rfl ?_
 refine dmv rfl ?_
 refine dq (zc1 rfl rfl) ?_
 refine dmv rfl ?_
 refine dg rfl rfl (fun hc => ⟨_, OpenTo.refl _, zd rfl⟩) ?_
 refine dg rfl rfl (fun hc => ⟨_, OpenTo.refl _, zd rfl⟩) ?_
 refine dg rfl rfl (fun hc => ⟨_, OpenTo.upd (t := 12) rfl (hc) (OpenTo.upd (t := 11) rfl (hc) (OpenTo.refl _)), zc1 rfl rfl⟩) ?_
 refine dq (zv rfl (.inr ⟨_, rfl, fun h => by simp_all⟩) (.inl rfl)) ?_
 refine das rfl ?_
 refine dn ?_
 refine zk ?_
 refine zF rfl ?_
 show HVal.bool _ = _
 congr 1; simp [out]; rw [Bool.eq_iff_iff]; simp; try omega

/-- benchwarmer/benchref1.Key -/
theorem zbV [Tracks] {s : Str} (hs : s.length ≤ 1000000) : ConP Tryz.prog 50 [.str s] (.bool (key s)) := by
 refine Con.of_body Tryz.func50 rfl Tryz.ntmps50 rfl rfl ?_
 refine za ?_
 refine das rfl ?_
 refine dn ?_
 refine za ?_
 refine dmv rfl ?_
 refine dq (zbk ty9 rfl) ?_
 refine dq (zj zf9 rfl (WeakL.refl _) za7) ?_
 refine dmv rfl ?_
 refine dg rfl rfl (fun hc => ⟨_, OpenTo.refl _, zd rfl⟩) ?_
 refine dg rfl rfl (fun hc => ⟨_, OpenTo.upd (t := 7) rfl (hc) (OpenTo.refl _), zj zuy rfl (WeakL.refl _) (zfX (l := zg1) hs (by decide) (by decide) (by decide))⟩) ?_
 refine dg rfl rfl (fun hc => ⟨_, OpenTo.upd (t := 8) rfl (hc) (OpenTo.refl _), zaY rfl rfl⟩) ?_
 refine dq (zv rfl (.inr ⟨_, rfl, fun h => by simp_all⟩) (.inl rfl)) ?_
 refine dmv rfl ?_
 refine dg rfl rfl (fun hc => ⟨_, OpenTo.refl _, zd rfl⟩) ?_
 refine dg rfl rfl (fun hc => ⟨_, OpenTo.upd (t := 12) rfl (hc) (OpenTo.refl _), zbA (j := 0) (b := s.headD 0) ty9 rfl rfl rfl (hd0 (by rintro rfl; simp [out] at hc))⟩) ?_
 refine dg rfl rfl (fun hc => ⟨_, OpenTo.upd (t := 13) rfl (hc) (OpenTo.refl _), zj ca94 rfl (WeakL.refl _) zfS⟩) ?_
 refine dg rfl rfl (fun hc => ⟨_, OpenTo.upd (t := 14) rfl (hc) (OpenTo.refl _), zbW rfl rfl⟩) ?_
 refine dq (zv rfl (.inr ⟨_, rfl, fun h => by simp_all⟩) (.inl rfl)) ?_
 refine das rfl ?_
 refine dn ?_
 refine zk ?_
 refine zF rfl ?_
 show HVal.bool _ = _
 rw [zrr]
 simp [zg1, ziH]

/-- benchwarmer/benchref1.SpanFault -/
theorem zfn [Tracks] {n lo hi : Int}  : ConP Tryz.prog 54 [.int .i64 n, .int .i64 lo, .int .i64 hi] (.int .i64 (if out n lo hi then 1 else 0)) := by
 refine Con.of_body Tryz.func54 rfl Tryz.ntmps54 rfl rfl ?_
 refine za ?_
 refine das rfl ?_
 refine dn ?_
 refine zf ?_
 refine za ?_
 refine dmv rfl ?_
 refine dmv rfl ?_
 refine dmv rfl ?_
 refine dq (zj zf9 rfl (WeakL.refl _) za7) ?_
 refine dq (zaa rfl) ?_
 refine dn ?_
 refine zi rfl (fun h1 => ?_) (fun h2 => ?_)
 ·try simp at h1
  refine za ?_
  refine das rfl ?_
  refine dn ?_
  refine zk ?_
  refine zF rfl ?_
  show HVal.int .i64 _ = _
  simp_all
 ·try simp at h2
  refine zl ?_
  refine ze ?_
  refine za ?_
  refine das rfl ?_
  refine dn ?_
  refine zk ?_
  refine zF rfl ?_
  show HVal.int .i64 _ = _
  simp_all

/-- benchwarmer/benchref1.MomentFault -/
theorem zbP [Tracks] {n : Int}  : ConP Tryz.prog 21 [.int .i64 n] (.int .i64 (if zba n then 0 else 1)) := by
 refine Con.of_body Tryz.func21 rfl Tryz.ntmps21 rfl rfl ?_
 refine za ?_
 refine das rfl ?_
 refine dn ?_
 refine za ?_
 refine dmv rfl ?_
 refine dq (zj ca54 rfl (WeakL.refl _) zfn) ?_
 refine das rfl ?_
 refine dn ?_
 refine zk ?_
 refine zF rfl ?_
 show HVal.int .i64 _ = _
 rw [zsw]
end
end Go.Proofs.YtjecenjmphpmfaaGreatDoor
namespace Go.Proofs
section
open Go.Shelf
def Tryz.lays190_ren : Go.Shelf.Ren := ⟨fun | 190 => 140 | 125 => 155 | 258 => 186 | 128 => 203 | 129 => 204 | 302 => 246 | 303 => 247 | 304 => 248 | 305 => 249 | 306 => 250 | 307 => 251 | 308 => 252 | 309 => 253 | 310 => 254 | 333 => 290 | 329 => 260 | 330 => 261 | 334 => 291 | 335 => 292 | 336 => 293 | 344 => 313 | n => n, fun | 31 => 39 | 9 => 9 | 3 => 3 | 46 => 212 | 0 => 0 | 51 => 252 | 53 => 231 | 4 => 4 | 183 => 246 | 182 => 245 | 131 => 68 | 5 => 5 | 218 => 284 | 222 => 288 | 228 => 316 | 229 => 317 | n => n, fun | n => n⟩
theorem Tryz.lays190 : Go.Proofs.Lays.n190 Tryz.prog Tryz.lays190_ren := {
 mixed := by kernel_rfl
 f125 := Tryz.func155.trans (congrArg some (by kernel_rfl))
 f128 := Tryz.func203.trans (congrArg some (by kernel_rfl))
 f129 := Tryz.func204.trans (congrArg some (by kernel_rfl))
 f190 := Tryz.func140.trans (congrArg some (by kernel_rfl))
 f258 := Tryz.func186.trans (congrArg some (by kernel_rfl))
 f302 := Tryz.func246.trans (congrArg some (by kernel_rfl))
 f303 := Tryz.func247.trans (congrArg some (by kernel_rfl))
 f304 := Tryz.func248.trans (congrArg some (by kernel_rfl))
 f305 := Tryz.func249.trans (congrArg some (by kernel_rfl))
 f306 := Tryz.func250.trans (congrArg some (by kernel_rfl))
 f307 := Tryz.func251.trans (congrArg some (by kernel_rfl))
 f308 := Tryz.func252.trans (congrArg some (by kernel_rfl))
 f309 := Tryz.func253.trans (congrArg some (by kernel_rfl))
 f310 := Tryz.func254.trans (congrArg some (by kernel_rfl))
 f329 := Tryz.func260.trans (congrArg some (by kernel_rfl))
 f330 := Tryz.func261.trans (congrArg some (by kernel_rfl))
 f333 := Tryz.func290.trans (congrArg some (by kernel_rfl))
 f334 := Tryz.func291.trans (congrArg some (by kernel_rfl))
 f335 := Tryz.func292.trans (congrArg some (by kernel_rfl))
 f336 := Tryz.func293.trans (congrArg some (by kernel_rfl))
 f344 := Tryz.func313.trans (congrArg some (by kernel_rfl))
 t0 := Tryz.underlying0
 a0 := Tryz.isAgg0
 z0 := Tryz.sizeOf0
 v0 := Tryz.zeroValue0
 t3 := Tryz.underlying3
 a3 := Tryz.isAgg3
 z3 := Tryz.sizeOf3
 v3 := Tryz.zeroValue3
 t4 := Tryz.underlying4
 a4 := Tryz.isAgg4
 z4 := Tryz.sizeOf4
 v4 := Tryz.zeroValue4
 t5 := Tryz.underlying5
 a5 := Tryz.isAgg5
 z5 := Tryz.sizeOf5
 v5 := Tryz.zeroValue5
 t9 := Tryz.underlying9
 a9 := Tryz.isAgg9
 z9 := Tryz.sizeOf9
 v9 := Tryz.zeroValue9
 t31 := Tryz.underlying39
 a31 := Tryz.isAgg39
 z31 := Tryz.sizeOf39
 v31 := Tryz.zeroValue39
 t46 := Tryz.underlying212
 a46 := Tryz.isAgg212
 z46 := Tryz.sizeOf212
 v46 := Tryz.zeroValue212
 t51 := Tryz.underlying252
 a51 := Tryz.isAgg252
 z51 := Tryz.sizeOf252
 v51 := Tryz.zeroValue252
 t53 := Tryz.underlying231
 a53 := Tryz.isAgg231
 z53 := Tryz.sizeOf231
 v53 := Tryz.zeroValue231
 t131 := Tryz.underlying68
 a131 := Tryz.isAgg68
 z131 := Tryz.sizeOf68
 v131 := Tryz.zeroValue68
 t182 := Tryz.underlying245
 a182 := Tryz.isAgg245
 z182 := Tryz.sizeOf245
 v182 := Tryz.zeroValue245
 t183 := Tryz.underlying246
 a183 := Tryz.isAgg246
 z183 := Tryz.sizeOf246
 v183 := Tryz.zeroValue246
 t218 := Tryz.underlying284
 a218 := Tryz.isAgg284
 z218 := Tryz.sizeOf284
 v218 := Tryz.zeroValue284
 t222 := Tryz.underlying288
 a222 := Tryz.isAgg288
 z222 := Tryz.sizeOf288
 v222 := Tryz.zeroValue288
 t228 := Tryz.underlying316
 a228 := Tryz.isAgg316
 z228 := Tryz.sizeOf316
 v228 := Tryz.zeroValue316
 t229 := Tryz.underlying317
 a229 := Tryz.isAgg317
 z229 := Tryz.sizeOf317
 v229 := Tryz.zeroValue317 }
def Tryz.lays194_ren : Go.Shelf.Ren := ⟨fun | 194 => 227 | n => n, fun | 31 => 39 | 9 => 9 | 3 => 3 | 4 => 4 | 0 => 0 | n => n, fun | n => n⟩
theorem Tryz.lays194 : Go.Proofs.Lays.n194 Tryz.prog Tryz.lays194_ren := {
 mixed := by kernel_rfl
 f194 := Tryz.func227.trans (congrArg some (by kernel_rfl))
 t0 := Tryz.underlying0
 a0 := Tryz.isAgg0
 z0 := Tryz.sizeOf0
 v0 := Tryz.zeroValue0
 t3 := Tryz.underlying3
 a3 := Tryz.isAgg3
 z3 := Tryz.sizeOf3
 v3 := Tryz.zeroValue3
 t4 := Tryz.underlying4
 a4 := Tryz.isAgg4
 z4 := Tryz.sizeOf4
 v4 := Tryz.zeroValue4
 t9 := Tryz.underlying9
 a9 := Tryz.isAgg9
 z9 := Tryz.sizeOf9
 v9 := Tryz.zeroValue9
 t31 := Tryz.underlying39
 a31 := Tryz.isAgg39
 z31 := Tryz.sizeOf39
 v31 := Tryz.zeroValue39 }
def Tryz.lays171_ren : Go.Shelf.Ren := ⟨fun | 171 => 30 | 243 => 76 | 246 => 125 | 283 => 175 | 284 => 176 | 285 => 177 | 286 => 178 | 129 => 204 | 317 => 236 | 318 => 237 | 319 => 238 | 320 => 239 | 337 => 279 | 338 => 280 | n => n, fun | 3 => 3 | 9 => 9 | 2 => 2 | 4 => 4 | 171 => 230 | 0 => 0 | 53 => 231 | 37 => 59 | 5 => 5 | 173 => 234 | 212 => 273 | 51 => 252 | 20 => 20 | 213 => 274 | 46 => 212 | 232 => 332 | 233 => 333 | n => n, fun | 17 => 1 | 18 => 6 | 19 => 7 | n => n⟩
def Tryz.laysm171_ren : Go.Shelf.Ren := ⟨fun | 171 => 30 | 243 => 76 | 246 => 125 | 283 => 175 | 284 => 176 | 285 => 177 | 286 => 178 | 129 => 204 | 317 => 236 | 318 => 237 | 319 => 238 | 320 => 239 | 337 => 279 | 338 => 280 | n => n, fun | 3 => 3 | 9 => 9 | 2 => 2 | 4 => 4 | 171 => 230 | 0 => 0 | 53 => 231 | 37 => 59 | 5 => 5 | 173 => 234 | 212 => 273 | 51 => 252 | 20 => 20 | 213 => 274 | 46 => 212 | 232 => 332 | 233 => 333 | n => n, fun | 17 => 1 | 18 => 6 | 19 => 7 | n => n⟩
theorem Tryz.laysm171 : Go.Proofs.LaysM.n171 Tryz.prog Tryz.laysm171_ren := {
 mixed := by kernel_rfl
 f129 := Tryz.func204.trans (congrArg some (by kernel_rfl))
 f171 := Tryz.func30.trans (congrArg some (by kernel_rfl))
 f243 := Tryz.func76.trans (congrArg some (by kernel_rfl))
 f246 := Tryz.func125.trans (congrArg some (by kernel_rfl))
 f283 := Tryz.func175.trans (congrArg some (by kernel_rfl))
 f284 := Tryz.func176.trans (congrArg some (by kernel_rfl))
 f285 := Tryz.func177.trans (congrArg some (by kernel_rfl))
 f286 := Tryz.func178.trans (congrArg some (by kernel_rfl))
 f317 := Tryz.func236.trans (congrArg some (by kernel_rfl))
 f318 := Tryz.func237.trans (congrArg some (by kernel_rfl))
 f319 := Tryz.func238.trans (congrArg some (by kernel_rfl))
 f320 := Tryz.func239.trans (congrArg some (by kernel_rfl))
 f337 := Tryz.func279.trans (congrArg some (by kernel_rfl))
 f338 := Tryz.func280.trans (congrArg some (by kernel_rfl))
 t0 := Tryz.underlying0
 a0 := Tryz.isAgg0
 z0 := Tryz.sizeOf0
 v0 := Tryz.zeroValue0
 t2 := Tryz.underlying2
 a2 := Tryz.isAgg2
 z2 := Tryz.sizeOf2
 v2 := Tryz.zeroValue2
 t3 := Tryz.underlying3
 a3 := Tryz.isAgg3
 z3 := Tryz.sizeOf3
 v3 := Tryz.zeroValue3
 t4 := Tryz.underlying4
 a4 := Tryz.isAgg4
 z4 := Tryz.sizeOf4
 v4 := Tryz.zeroValue4
 t5 := Tryz.underlying5
 a5 := Tryz.isAgg5
 z5 := Tryz.sizeOf5
 v5 := Tryz.zeroValue5
 t9 := Tryz.underlying9
 a9 := Tryz.isAgg9
 z9 := Tryz.sizeOf9
 v9 := Tryz.zeroValue9
 t20 := Tryz.underlying20
 a20 := Tryz.isAgg20
 z20 := Tryz.sizeOf20
 v20 := Tryz.zeroValue20
 t37 := Tryz.underlying59
 a37 := Tryz.isAgg59
 z37 := Tryz.sizeOf59
 v37 := Tryz.zeroValue59
 t46 := Tryz.underlying212
 a46 := Tryz.isAgg212
 z46 := Tryz.sizeOf212
 v46 := Tryz.zeroValue212
 t51 := Tryz.underlying252
 a51 := Tryz.isAgg252
 z51 := Tryz.sizeOf252
 v51 := Tryz.zeroValue252
 t53 := Tryz.underlying231
 a53 := Tryz.isAgg231
 z53 := Tryz.sizeOf231
 v53 := Tryz.zeroValue231
 t171 := Tryz.underlying230
 a171 := Tryz.isAgg230
 z171 := Tryz.sizeOf230
 v171 := Tryz.zeroValue230
 t173 := Tryz.underlying234
 a173 := Tryz.isAgg234
 z173 := Tryz.sizeOf234
 v173 := Tryz.zeroValue234
 t212 := Tryz.underlying273
 a212 := Tryz.isAgg273
 z212 := Tryz.sizeOf273
 v212 := Tryz.zeroValue273
 t213 := Tryz.underlying274
 a213 := Tryz.isAgg274
 z213 := Tryz.sizeOf274
 t232 := Tryz.underlying332
 a232 := Tryz.isAgg332
 z232 := Tryz.sizeOf332
 v232 := Tryz.zeroValue332
 t233 := Tryz.underlying333
 a233 := Tryz.isAgg333
 z233 := Tryz.sizeOf333
 v233 := Tryz.zeroValue333
 g17 := by kernel_rfl
 g18 := by kernel_rfl
 g19 := by kernel_rfl
 i0 := by kernel_rfl
 i2 := by kernel_rfl
 i3 := by kernel_rfl
 i4 := by kernel_rfl
 i5 := by kernel_rfl
 i9 := by kernel_rfl
 i20 := by kernel_rfl
 i37 := by kernel_rfl
 i46 := by kernel_rfl
 i51 := by kernel_rfl
 i53 := by kernel_rfl
 i171 := by kernel_rfl
 i173 := by kernel_rfl
 i212 := by kernel_rfl
 i232 := by kernel_rfl
 i233 := by kernel_rfl
 m17 := by kernel_rfl
 m18 := by kernel_rfl
 m19 := by kernel_rfl }
def Tryz.lays172_ren : Go.Shelf.Ren := ⟨fun | 172 => 174 | 244 => 234 | 245 => 235 | 247 => 274 | 279 => 275 | 280 => 276 | 281 => 277 | 282 => 278 | 287 => 307 | 316 => 308 | 171 => 30 | 205 => 309 | 321 => 317 | 322 => 318 | 243 => 76 | 246 => 125 | 283 => 175 | 284 => 176 | 285 => 177 | 286 => 178 | 129 => 204 | 317 => 236 | 318 => 237 | 319 => 238 | 320 => 239 | 337 => 279 | 338 => 280 | n => n, fun | 9 => 9 | 3 => 3 | 75 => 64 | 76 => 65 | 4 => 4 | 5 => 5 | 167 => 296 | 37 => 59 | 0 => 0 | 85 => 297 | 2 => 2 | 168 => 299 | 53 => 231 | 175 => 326 | 46 => 212 | 210 => 330 | 127 => 125 | 145 => 342 | 143 => 340 | 21 => 21 | 171 => 230 | 173 => 234 | 212 => 273 | 51 => 252 | 20 => 20 | 213 => 274 | 232 => 332 | 233 => 333 | 80 => 36 | n => n, fun | 15 => 4 | 16 => 5 | 17 => 1 | 18 => 6 | 19 => 7 | n => n⟩
theorem Tryz.lays172 : Go.Proofs.Lays.n172 Tryz.prog Tryz.lays172_ren := {
 mixed := by kernel_rfl
 f129 := Tryz.func204.trans (congrArg some (by kernel_rfl))
 f171 := Tryz.func30.trans (congrArg some (by kernel_rfl))
 f172 := Tryz.func174.trans (congrArg some (by kernel_rfl))
 f205 := Tryz.func309.trans (congrArg some (by kernel_rfl))
 f243 := Tryz.func76.trans (congrArg some (by kernel_rfl))
 f244 := Tryz.func234.trans (congrArg some (by kernel_rfl))
 f245 := Tryz.func235.trans (congrArg some (by kernel_rfl))
 f246 := Tryz.func125.trans (congrArg some (by kernel_rfl))
 f247 := Tryz.func274.trans (congrArg some (by kernel_rfl))
 f279 := Tryz.func275.trans (congrArg some (by kernel_rfl))
 f280 := Tryz.func276.trans (congrArg some (by kernel_rfl))
 f281 := Tryz.func277.trans (congrArg some (by kernel_rfl))
 f282 := Tryz.func278.trans (congrArg some (by kernel_rfl))
 f283 := Tryz.func175.trans (congrArg some (by kernel_rfl))
 f284 := Tryz.func176.trans (congrArg some (by kernel_rfl))
 f285 := Tryz.func177.trans (congrArg some (by kernel_rfl))
 f286 := Tryz.func178.trans (congrArg some (by kernel_rfl))
 f287 := Tryz.func307.trans (congrArg some (by kernel_rfl))
 f316 := Tryz.func308.trans (congrArg some (by kernel_rfl))
 f317 := Tryz.func236.trans (congrArg some (by kernel_rfl))
 f318 := Tryz.func237.trans (congrArg some (by kernel_rfl))
 f319 := Tryz.func238.trans (congrArg some (by kernel_rfl))
 f320 := Tryz.func239.trans (congrArg some (by kernel_rfl))
 f321 := Tryz.func317.trans (congrArg some (by kernel_rfl))
 f322 := Tryz.func318.trans (congrArg some (by kernel_rfl))
 f337 := Tryz.func279.trans (congrArg some (by kernel_rfl))
 f338 := Tryz.func280.trans (congrArg some (by kernel_rfl))
 t0 := Tryz.underlying0
 a0 := Tryz.isAgg0
 z0 := Tryz.sizeOf0
 v0 := Tryz.zeroValue0
 t2 := Tryz.underlying2
 a2 := Tryz.isAgg2
 z2 := Tryz.sizeOf2
 v2 := Tryz.zeroValue2
 t3 := Tryz.underlying3
 a3 := Tryz.isAgg3
 z3 := Tryz.sizeOf3
 v3 := Tryz.zeroValue3
 t4 := Tryz.underlying4
 a4 := Tryz.isAgg4
 z4 := Tryz.sizeOf4
 v4 := Tryz.zeroValue4
 t5 := Tryz.underlying5
 a5 := Tryz.isAgg5
 z5 := Tryz.sizeOf5
 v5 := Tryz.zeroValue5
 t9 := Tryz.underlying9
 a9 := Tryz.isAgg9
 z9 := Tryz.sizeOf9
 v9 := Tryz.zeroValue9
 t20 := Tryz.underlying20
 a20 := Tryz.isAgg20
 z20 := Tryz.sizeOf20
 v20 := Tryz.zeroValue20
 t21 := Tryz.underlying21
 a21 := Tryz.isAgg21
 z21 := Tryz.sizeOf21
 v21 := Tryz.zeroValue21
 t37 := Tryz.underlying59
 a37 := Tryz.isAgg59
 z37 := Tryz.sizeOf59
 v37 := Tryz.zeroValue59
 t46 := Tryz.underlying212
 a46 := Tryz.isAgg212
 z46 := Tryz.sizeOf212
 v46 := Tryz.zeroValue212
 t51 := Tryz.underlying252
 a51 := Tryz.isAgg252
 z51 := Tryz.sizeOf252
 v51 := Tryz.zeroValue252
 t53 := Tryz.underlying231
 a53 := Tryz.isAgg231
 z53 := Tryz.sizeOf231
 v53 := Tryz.zeroValue231
 t75 := Tryz.underlying64
 a75 := Tryz.isAgg64
 z75 := Tryz.sizeOf64
 v75 := Tryz.zeroValue64
 t76 := Tryz.underlying65
 a76 := Tryz.isAgg65
 z76 := Tryz.sizeOf65
 v76 := Tryz.zeroValue65
 t85 := Tryz.underlying297
 a85 := Tryz.isAgg297
 z85 := Tryz.sizeOf297
 v85 := Tryz.zeroValue297
 t127 := Tryz.underlying125
 a127 := Tryz.isAgg125
 z127 := Tryz.sizeOf125
 v127 := Tryz.zeroValue125
 t143 := Tryz.underlying340
 a143 := Tryz.isAgg340
 z143 := Tryz.sizeOf340
 v143 := Tryz.zeroValue340
 t145 := Tryz.underlying342
 a145 := Tryz.isAgg342
 z145 := Tryz.sizeOf342
 v145 := Tryz.zeroValue342
 t167 := Tryz.underlying296
 a167 := Tryz.isAgg296
 z167 := Tryz.sizeOf296
 v167 := Tryz.zeroValue296
 t168 := Tryz.underlying299
 a168 := Tryz.isAgg299
 z168 := Tryz.sizeOf299
 v168 := Tryz.zeroValue299
 t171 := Tryz.underlying230
 a171 := Tryz.isAgg230
 z171 := Tryz.sizeOf230
 v171 := Tryz.zeroValue230
 t173 := Tryz.underlying234
 a173 := Tryz.isAgg234
 z173 := Tryz.sizeOf234
 v173 := Tryz.zeroValue234
 t175 := Tryz.underlying326
 a175 := Tryz.isAgg326
 z175 := Tryz.sizeOf326
 v175 := Tryz.zeroValue326
 t210 := Tryz.underlying330
 a210 := Tryz.isAgg330
 z210 := Tryz.sizeOf330
 v210 := Tryz.zeroValue330
 t212 := Tryz.underlying273
 a212 := Tryz.isAgg273
 z212 := Tryz.sizeOf273
 v212 := Tryz.zeroValue273
 t213 := Tryz.underlying274
 a213 := Tryz.isAgg274
 z213 := Tryz.sizeOf274
 t232 := Tryz.underlying332
 a232 := Tryz.isAgg332
 z232 := Tryz.sizeOf332
 v232 := Tryz.zeroValue332
 t233 := Tryz.underlying333
 a233 := Tryz.isAgg333
 z233 := Tryz.sizeOf333
 v233 := Tryz.zeroValue333
 g15 := by kernel_rfl
 g16 := by kernel_rfl
 g17 := by kernel_rfl
 g18 := by kernel_rfl
 g19 := by kernel_rfl }
def Tryz.lays101_ren : Go.Shelf.Ren := ⟨fun | 101 => 173 | 208 => 233 | 206 => 273 | n => n, fun | 9 => 9 | 4 => 4 | 3 => 3 | n => n, fun | n => n⟩
theorem Tryz.lays101 : Go.Proofs.Lays.n101 Tryz.prog Tryz.lays101_ren := {
 mixed := by kernel_rfl
 f101 := Tryz.func173.trans (congrArg some (by kernel_rfl))
 f206 := Tryz.func273.trans (congrArg some (by kernel_rfl))
 f208 := Tryz.func233.trans (congrArg some (by kernel_rfl))
 t3 := Tryz.underlying3
 a3 := Tryz.isAgg3
 z3 := Tryz.sizeOf3
 v3 := Tryz.zeroValue3
 t4 := Tryz.underlying4
 a4 := Tryz.isAgg4
 z4 := Tryz.sizeOf4
 v4 := Tryz.zeroValue4
 t9 := Tryz.underlying9
 a9 := Tryz.isAgg9
 z9 := Tryz.sizeOf9
 v9 := Tryz.zeroValue9 }
def Tryz.lays189_ren : Go.Shelf.Ren := ⟨fun | 189 => 222 | 125 => 155 | 257 => 272 | 128 => 203 | 129 => 204 | 294 => 298 | 295 => 299 | 296 => 300 | 297 => 301 | 298 => 302 | 299 => 303 | 216 => 304 | 300 => 305 | 301 => 306 | 328 => 314 | 329 => 260 | 330 => 261 | 331 => 315 | 332 => 316 | 215 => 142 | 343 => 320 | n => n, fun | 28 => 22 | 3 => 3 | 46 => 212 | 0 => 0 | 51 => 252 | 53 => 231 | 4 => 4 | 183 => 246 | 182 => 245 | 131 => 68 | 5 => 5 | 9 => 9 | 218 => 284 | 222 => 288 | 228 => 316 | 229 => 317 | n => n, fun | n => n⟩
theorem Tryz.lays189 : Go.Proofs.Lays.n189 Tryz.prog Tryz.lays189_ren := {
 mixed := by kernel_rfl
 f125 := Tryz.func155.trans (congrArg some (by kernel_rfl))
 f128 := Tryz.func203.trans (congrArg some (by kernel_rfl))
 f129 := Tryz.func204.trans (congrArg some (by kernel_rfl))
 f189 := Tryz.func222.trans (congrArg some (by kernel_rfl))
 f215 := Tryz.func142.trans (congrArg some (by kernel_rfl))
 f216 := Tryz.func304.trans (congrArg some (by kernel_rfl))
 f257 := Tryz.func272.trans (congrArg some (by kernel_rfl))
 f294 := Tryz.func298.trans (congrArg some (by kernel_rfl))
 f295 := Tryz.func299.trans (congrArg some (by kernel_rfl))
 f296 := Tryz.func300.trans (congrArg some (by kernel_rfl))
 f297 := Tryz.func301.trans (congrArg some (by kernel_rfl))
 f298 := Tryz.func302.trans (congrArg some (by kernel_rfl))
 f299 := Tryz.func303.trans (congrArg some (by kernel_rfl))
 f300 := Tryz.func305.trans (congrArg some (by kernel_rfl))
 f301 := Tryz.func306.trans (congrArg some (by kernel_rfl))
 f328 := Tryz.func314.trans (congrArg some (by kernel_rfl))
 f329 := Tryz.func260.trans (congrArg some (by kernel_rfl))
 f330 := Tryz.func261.trans (congrArg some (by kernel_rfl))
 f331 := Tryz.func315.trans (congrArg some (by kernel_rfl))
 f332 := Tryz.func316.trans (congrArg some (by kernel_rfl))
 f343 := Tryz.func320.trans (congrArg some (by kernel_rfl))
 t0 := Tryz.underlying0
 a0 := Tryz.isAgg0
 z0 := Tryz.sizeOf0
 v0 := Tryz.zeroValue0
 t3 := Tryz.underlying3
 a3 := Tryz.isAgg3
 z3 := Tryz.sizeOf3
 v3 := Tryz.zeroValue3
 t4 := Tryz.underlying4
 a4 := Tryz.isAgg4
 z4 := Tryz.sizeOf4
 v4 := Tryz.zeroValue4
 t5 := Tryz.underlying5
 a5 := Tryz.isAgg5
 z5 := Tryz.sizeOf5
 v5 := Tryz.zeroValue5
 t9 := Tryz.underlying9
 a9 := Tryz.isAgg9
 z9 := Tryz.sizeOf9
 v9 := Tryz.zeroValue9
 t28 := Tryz.underlying22
 a28 := Tryz.isAgg22
 z28 := Tryz.sizeOf22
 v28 := Tryz.zeroValue22
 t46 := Tryz.underlying212
 a46 := Tryz.isAgg212
 z46 := Tryz.sizeOf212
 v46 := Tryz.zeroValue212
 t51 := Tryz.underlying252
 a51 := Tryz.isAgg252
 z51 := Tryz.sizeOf252
 v51 := Tryz.zeroValue252
 t53 := Tryz.underlying231
 a53 := Tryz.isAgg231
 z53 := Tryz.sizeOf231
 v53 := Tryz.zeroValue231
 t131 := Tryz.underlying68
 a131 := Tryz.isAgg68
 z131 := Tryz.sizeOf68
 v131 := Tryz.zeroValue68
 t182 := Tryz.underlying245
 a182 := Tryz.isAgg245
 z182 := Tryz.sizeOf245
 v182 := Tryz.zeroValue245
 t183 := Tryz.underlying246
 a183 := Tryz.isAgg246
 z183 := Tryz.sizeOf246
 v183 := Tryz.zeroValue246
 t218 := Tryz.underlying284
 a218 := Tryz.isAgg284
 z218 := Tryz.sizeOf284
 v218 := Tryz.zeroValue284
 t222 := Tryz.underlying288
 a222 := Tryz.isAgg288
 z222 := Tryz.sizeOf288
 v222 := Tryz.zeroValue288
 t228 := Tryz.underlying316
 a228 := Tryz.isAgg316
 z228 := Tryz.sizeOf316
 v228 := Tryz.zeroValue316
 t229 := Tryz.underlying317
 a229 := Tryz.isAgg317
 z229 := Tryz.sizeOf317
 v229 := Tryz.zeroValue317 }
def Tryz.lays220_ren : Go.Shelf.Ren := ⟨fun | 20 => 223 | n => n, fun | 22 => 22 | 3 => 3 | 4 => 4 | 0 => 0 | n => n, fun | n => n⟩
theorem Tryz.lays220 : Go.Proofs.Lays2.n20 Tryz.prog Tryz.lays220_ren := {
 mixed := by kernel_rfl
 f20 := Tryz.func223.trans (congrArg some (by kernel_rfl))
 t0 := Tryz.underlying0
 a0 := Tryz.isAgg0
 z0 := Tryz.sizeOf0
 v0 := Tryz.zeroValue0
 t3 := Tryz.underlying3
 a3 := Tryz.isAgg3
 z3 := Tryz.sizeOf3
 v3 := Tryz.zeroValue3
 t4 := Tryz.underlying4
 a4 := Tryz.isAgg4
 z4 := Tryz.sizeOf4
 v4 := Tryz.zeroValue4
 t22 := Tryz.underlying22
 a22 := Tryz.isAgg22
 z22 := Tryz.sizeOf22
 v22 := Tryz.zeroValue22
 i3 := by kernel_rfl }
end
end Go.Proofs
namespace Go.Proofs.YtjecenjmphpmfaaGreatDoor
set_option maxRecDepth 100000
set_option linter.unusedVariables false
set_option linter.unusedSimpArgs false
section
open Go.HL
/-- math/bits.Len64 -/
theorem zk3 [Tracks]   : ConP Tryz.prog 204 [.int .u64 0] (.int .i64 0) := by
 refine Con.of_body Tryz.func204 rfl Tryz.ntmps204 rfl rfl ?_
 refine za ?_
 refine das rfl ?_
 refine dn ?_
 refine zf ?_
 refine za ?_
 refine dmv rfl ?_
 refine dq (zbW rfl rfl) ?_
 refine dn ?_
 refine zeF rfl ?_
 refine zl ?_
 refine ze ?_
 refine zf ?_
 refine za ?_
 refine dmv rfl ?_
 refine dq (zbW rfl rfl) ?_
 refine dn ?_
 refine zeF rfl ?_
 refine zl ?_
 refine ze ?_
 refine zf ?_
 refine za ?_
 refine dmv rfl ?_
 refine dq (zbW rfl rfl) ?_
 refine dn ?_
 refine zeF rfl ?_
 refine zl ?_
 refine ze ?_
 refine za ?_
 refine dmv rfl ?_
 refine dmv rfl ?_
 refine dq (zg8 zyb ty5 rfl) ?_
 refine dq (zbA (j := 0) (b := 0) ty9 rfl rfl rfl rfl) ?_
 refine dq (zg8 ty5 ty3 rfl) ?_
 refine dq (zC rfl rfl (by decide) (by decide)) ?_
 refine das rfl ?_
 refine dn ?_
 refine zk ?_
 refine zF rfl ?_
 rfl

/-- math/bits.Len -/
theorem zmt [Tracks]   : ConP Tryz.prog 155 [.int .u64 0] (.int .i64 0) := by
 refine Con.of_body Tryz.func155 rfl Tryz.ntmps155 rfl rfl ?_
 refine za ?_
 refine das rfl ?_
 refine dn ?_
 refine zf ?_
 refine zeF rfl ?_
 refine zl ?_
 refine ze ?_
 refine za ?_
 refine dmv rfl ?_
 refine dq (zj zw1 rfl (WeakL.refl _) zk3) ?_
 refine das rfl ?_
 refine dn ?_
 refine zk ?_
 refine zF rfl ?_
 rfl

/-- slices.insertionSortOrdered[string] -/
theorem zep [Tracks]   : ConP Tryz.prog 246 [eSs [], .int .i64 0, .int .i64 0] (.tup []) := by
 refine Con.of_body Tryz.func246 rfl Tryz.ntmps246 rfl rfl ?_
 refine za ?_
 refine dmv rfl ?_
 refine dq (zC rfl rfl (by omega) (by omega)) ?_
 refine das rfl ?_
 refine dn ?_
 refine zn ?_
 refine zak [6, 7, 10, 11, 12, 13, 14, 15, 16, 17, 18, 19, 20, 21, 22, 23, 24, 25, 26, 27, 28, 29, 30, 31, 32, 33, 34, 35, 36, 37, 38, 39, 40, 41, 42, 43, 44, 45, 46, 47, 48] (fun (u : Unit) => [(6, .int .i64 1)]) (fun (u : Unit) => []) (fun (u : Unit) => True) (fun (u : Unit) => 0) (()) ?_ ?_ ?_ ?_
 ·trivial
 ·exact ⟨rfl, trivial⟩
 ·exact List.Perm.refl _
 ·intro u hu
  refine zf ?_
  refine za ?_
  refine dmv rfl ?_
  refine dmv rfl ?_
  refine dq (zW rfl rfl) ?_
  refine dn ?_
  refine zeF rfl ?_
  refine zU ?_
  refine z6 ?_
  refine zas ?_
  refine zJ ?_
  refine zvn rfl ?_
  rfl

/-- slices.pdqsortOrdered[string] -/
theorem zfD [Tracks]   : ConP Tryz.prog 186 [eSs [], .int .i64 0, .int .i64 0, .int .i64 0] (.tup []) := by
 refine Con.of_body Tryz.func186 rfl Tryz.ntmps186 rfl rfl ?_
 refine za ?_
 refine das rfl ?_
 refine dn ?_
 refine za ?_
 refine das rfl ?_
 refine dn ?_
 refine zn ?_
 refine zak (1 :: 2 :: 3 :: 8 :: 9 :: 10 :: 11 :: 12 :: 13 :: 14 :: 15 :: 16 :: 17 :: 18 :: 19 :: 20 :: 21 :: 22 :: 23 :: 24 :: 25 :: 26 :: 27 :: 28 :: 29 :: 30 :: 31 :: 32 :: 33 :: 34 :: 35 :: 36 :: 37 :: 38 :: 39 :: 40 :: 41 :: 42 :: 43 :: 44 :: 45 :: 46 :: 47 :: 48 :: 49 :: 50 :: 51 :: 52 :: 53 :: 54 :: 55 :: 56 :: 57 :: 58 :: 59 :: 60 :: 61 :: 62 :: 63 :: 64 :: 65 :: 66 :: 67 :: 68 :: 69 :: 70 :: 71 :: 72 :: 73 :: 74 :: 75 :: 76 :: 77 :: 78 :: 79 :: 80 :: 81 :: 82 :: 83 :: 84 :: 85 :: 86 :: 87 :: 88 :: 89 :: 90 :: 91 :: 92 :: 93 :: 94 :: 95 :: 96 :: 97 :: 98 :: 99 :: 100 :: 101 :: 102 :: 103 :: 104 :: 105 :: 106 :: 107 :: 108 :: 109 :: 110 :: 111 :: 112 :: 113 :: 114 :: 115 :: 116 :: 117 :: 118 :: 119 :: 120 :: 121 :: 122 :: 123 :: 124 :: 125 :: 126 :: 127 :: 128 :: 129 :: 130 :: 131 :: 132 :: 133 :: []) (fun (u : Unit) => [(1, .int .i64 0), (2, .int .i64 0)]) (fun (u : Unit) => []) (fun (u : Unit) => True) (fun (u : Unit) => 0) (()) ?_ ?_ ?_ ?_
 ·trivial
 ·exact ⟨rfl, rfl, trivial⟩
 ·exact List.Perm.refl _
 ·intro u hu
  refine zn ?_
  refine za ?_
  refine dmv rfl ?_
  refine dmv rfl ?_
  refine dq (zbd rfl rfl (by omega) (by omega)) ?_
  refine das rfl ?_
  refine dn ?_
  refine zf ?_
  refine za ?_
  refine dmv rfl ?_
  refine dq (zc1 rfl rfl) ?_
  refine dn ?_
  refine znX rfl ?_
  refine za ?_
  refine dmv rfl ?_
  refine dmv rfl ?_
  refine dmv rfl ?_
  refine dq (zj zxn rfl (WeakL.refl _) zep) ?_
  refine dn ?_
  refine zk ?_
  refine zF rfl ?_
  rfl

/-- slices.Sort[[]string,string] -/
theorem zla [Tracks]   : ConP Tryz.prog 140 [eSs []] (.tup []) := by
 refine Con.of_body Tryz.func140 rfl Tryz.ntmps140 rfl rfl ?_
 refine za ?_
 refine dmv rfl ?_
 refine dq (zL zaj rfl) ?_
 refine das rfl ?_
 refine dn ?_
 refine zB ?_
 refine dmv rfl ?_
 refine dmv rfl ?_
 refine dmv rfl ?_
 refine dq (zg8 ty3 zxw rfl) ?_
 refine dq (zj zxK rfl (WeakL.refl _) zmt) ?_
 refine dq (zj zx4 rfl (WeakL.refl _) zfD) ?_
 refine dn ?_
 refine zvn rfl ?_
 rfl

/-- slices.Sort: the slice holds the same strings in order -/
theorem zoE [Tracks] {l : List Str} {v : Value} (hl : l.length ≤ 1000000) : Con Tryz.prog 140 [.raw v] [.arr v 1 (l.map .str)] fun x M' => x = .tup [] ∧ M' = [.arr v 1 ((zaQ l).map .str)] :=
 zv6 (zfl l) (fun b off cap w h1 h2 _ => Any.slices_Sort_string Tryz.lays190 b off cap l w h1 h2 (by omega)) (fun _ => zla)

/-- slices.Compact: the slice is cut to the strings that differ from the one before -/
theorem zlM [Tracks] {l : List Str} {v : Value} (hl : l.length ≤ 1000000) : Con Tryz.prog 227 [.raw v] [.arr v 1 (l.map .str)] fun x M' => ∃ u, x = .raw u ∧ M' = [.arr u 1 ((Lib.compact l).map .str)] :=
 zuD (zsc l) (fun b off cap w h1 h2 h3 => Any.slices_Compact_string Tryz.lays194 b off cap l w h1 (by omega) h3) (fun _ w => Any.slices_Compact_string_empty Tryz.lays194 none 0 w)

/-- benchwarmer/benchref1.once -/
theorem zlN [Tracks] {l : List Str} (hl : l.length ≤ 1000000) : zlW Tryz.prog 162 [eSs l] 1 ((Lib.compact (zaQ l)).map .str) := by
 refine Con.of_body Tryz.func162 rfl Tryz.ntmps162 rfl rfl ?_
 refine za ?_
 refine das rfl ?_
 refine dn ?_
 refine za ?_
 refine dmv rfl ?_
 refine de rfl (zfs zxl rfl (WeakL.refl _) (zf7 (by assumption)) fun v4 => ?_)
 refine das rfl ?_
 refine dn ?_
 refine za ?_
 refine dmv rfl ?_
 refine de rfl (za0 (M1 := [_]) (R := []) zxd rfl (WeakL.refl _) (List.Perm.refl _) (zoE hl) ?_)
 rintro _ _ ⟨rfl, rfl⟩
 refine dn ?_
 refine za ?_
 refine dmv rfl ?_
 refine de rfl (za0 (M1 := [_]) (R := []) zxU rfl (WeakL.refl _) (List.Perm.refl _) (zlM (l := zaQ l) (by rw [zfl]; exact hl)) ?_)
 rintro _ _ ⟨u8, rfl, rfl⟩
 refine das rfl ?_
 refine dn ?_
 refine zk ?_
 refine zgN rfl ?_
 rfl
end
section
open Go.HL
/-- benchwarmer/benchmake.Below -/
theorem zeQ [Tracks] {x n : Int} (hn : n ≤ 4000000000) : ConP Tryz.prog 89 [.int .i64 x, .int .i64 n] (.int .i64 (ze3 x n)) := by
 refine Con.of_body Tryz.func89 rfl Tryz.ntmps89 rfl rfl ?_
 refine za ?_
 refine das rfl ?_
 refine dn ?_
 refine zf ?_
 refine za ?_
 refine dmv rfl ?_
 refine dq (zW rfl rfl) ?_
 refine dn ?_
 refine zi rfl (fun h1 => ?_) (fun h2 => ?_)
 ·try simp at h1
  refine za ?_
  refine das rfl ?_
  refine dn ?_
  refine zk ?_
  refine zF rfl ?_
  show HVal.int .i64 _ = _
  simp_all [ze3]
  try omega
 ·try simp at h2
  refine zl ?_
  refine ze ?_
  refine za ?_
  refine dmv rfl ?_
  refine dmv rfl ?_
  refine dq (zrq rfl rfl (by omega)) ?_
  refine das rfl ?_
  refine dn ?_
  refine zf ?_
  refine za ?_
  refine dmv rfl ?_
  refine dq (zW rfl rfl) ?_
  refine dn ?_
  refine zi rfl (fun h3 => ?_) (fun h4 => ?_)
  ·try simp at h3
   refine zB ?_
   refine dmv rfl ?_
   refine dmv rfl ?_
   have hm := Int.tmod_lt_of_pos x (show 0 < n by omega)
   obtain ⟨y, hy1, hy2⟩ := zkt x n
   have hb : ze3 x n = x.tmod n + n := by unfold ze3; rw [if_neg (by omega), if_pos (by omega)]
   refine dq (zC rfl rfl (by omega) (by omega)) ?_
   refine das rfl ?_
   refine dn ?_
   refine ze ?_
   refine za ?_
   refine dmv rfl ?_
   refine das rfl ?_
   refine dn ?_
   refine zk ?_
   refine zF rfl ?_
   show HVal.int .i64 _ = _
   simp_all [ze3]
   try omega
  ·try simp at h4
   refine zl ?_
   refine ze ?_
   refine za ?_
   refine dmv rfl ?_
   refine das rfl ?_
   refine dn ?_
   refine zk ?_
   refine zF rfl ?_
   show HVal.int .i64 _ = _
   simp_all [ze3]
   try omega

/-- (*benchwarmer/benchmake.Stream).Next -/
theorem zV [Tracks] {b : Nat} {l : List Int} {a : Nat} {n : Int} (ha : a ≤ 1000000) (hn : n ≤ 4000000000) : Con Tryz.prog 44 [pAt b, .int .i64 n] [St b l a] (fun x M' => ∃ y : Nat, x = .int .i64 (y : Int) ∧ (y : Int) < max n 1 ∧ M' = [St b l (a + 1)]) := by
 refine Con.of_body Tryz.func44 rfl Tryz.ntmps44 rfl rfl ?_
 refine za ?_
 refine das rfl ?_
 refine dn ?_
 refine za ?_
 refine dmv rfl ?_
 refine dq ((zM rfl)) ?_
 refine dq (zg zie rfl ty3 (by decide) rfl) ?_
 refine de rfl (zbr (i := 0) ty3 rfl rfl (.inl ⟨rfl, rfl⟩) ?_)
 refine dq (zC rfl rfl (by omega) (by omega)) ?_
 refine dq ((zM rfl)) ?_
 refine dq (zg zie rfl ty3 (by decide) rfl) ?_
 refine de0 (z7 (i := 0) ty3 rfl rfl rfl rfl rfl (Nat.le_of_ble_eq_true rfl) ?_)
 refine dn ?_
 refine zf ?_
 refine za ?_
 refine dmv rfl ?_
 refine dq ((zM rfl)) ?_
 refine dq (zg zie rfl zaq (by decide) rfl) ?_
 refine de rfl (zbr (i := 0) zaq rfl rfl (.inl ⟨rfl, rfl⟩) ?_)
 refine dq (zL zaq rfl) ?_
 refine dq (zaJ rfl rfl) ?_
 refine dn ?_
 refine zi rfl (fun h1 => ?_) (fun h2 => ?_)
 ·try simp at h1
  refine za ?_
  refine dmv rfl ?_
  refine dq ((zM rfl)) ?_
  refine dq (zg zie rfl ty3 (by decide) rfl) ?_
  refine de rfl (zbr (i := 0) ty3 rfl rfl (.inl ⟨rfl, rfl⟩) ?_)
  refine dq (zrh rfl rfl) ?_
  refine dmv rfl ?_
  refine dq (zj zuX rfl (WeakL.refl _) (zeQ (by assumption))) ?_
  refine das rfl ?_
  refine dn ?_
  refine zk ?_
  refine zaO rfl ?_
  obtain ⟨y, h1, h2⟩ := zkt _ n
  exact ⟨y, congrArg _ h1, h2, rfl⟩
 ·try simp at h2
  refine zl ?_
  refine ze ?_
  have hl0 : 0 < l.length := List.length_pos_iff.2 (by simpa using h2)
  refine zaM (fun M => ∃ i : Nat, M[i]? = some (St b l (a + 1))) [3, 8] mixed ?_
  refine ahp 0 rfl rfl (by kernel_rfl) (by kernel_rfl) (zd rfl) ?_
  refine ahp 1 rfl rfl (by kernel_rfl) (by kernel_rfl) ((zM rfl)) ?_
  refine ahp 2 rfl rfl (by kernel_rfl) (by kernel_rfl) (zg zie rfl ty3 (by decide) rfl) ?_
  refine ahl 3 rfl rfl (by kernel_rfl) (by kernel_rfl) (by simp) (⟨0, rfl⟩) (fun M hM => by obtain ⟨i, hi⟩ := hM; exact zbr (i := i) ty3 rfl hi (.inl ⟨rfl, rfl⟩) ⟨rfl, rfl⟩) ?_
  refine ahp 4 rfl rfl (by kernel_rfl) (by kernel_rfl) (zbd rfl rfl (by omega) (by omega)) ?_
  refine ahp 5 rfl rfl (by kernel_rfl) (by kernel_rfl) (zd rfl) ?_
  refine ahp 6 rfl rfl (by kernel_rfl) (by kernel_rfl) ((zM rfl)) ?_
  refine ahp 7 rfl rfl (by kernel_rfl) (by kernel_rfl) (zg zie rfl zaq (by decide) rfl) ?_
  refine ahl 8 rfl rfl (by kernel_rfl) (by kernel_rfl) (by simp) (⟨0, rfl⟩) (fun M hM => by obtain ⟨i, hi⟩ := hM; exact zbr (i := i) zaq rfl hi (.inl ⟨rfl, rfl⟩) ⟨rfl, rfl⟩) ?_
  refine ahp 9 rfl rfl (by kernel_rfl) (by kernel_rfl) (zL zaq rfl) ?_
  refine ahp 10 rfl rfl (by kernel_rfl) (by kernel_rfl) (ziI (h' := .int .i64 ((a % l.length : Nat) : Int)) (zrq rfl rfl (by omega)) (by show HVal.int .i64 (((a : Int) + 1 - 1).tmod _) = _; rw [show ((a : Int) + 1 - 1) = (a : Int) by omega]; exact congrArg _ (zuP _ _))) ?_
  refine ahp 11 rfl rfl (by kernel_rfl) (by kernel_rfl) (zaA rfl) ?_
  refine ahz (by kernel_rfl) ?_
  refine zaM (fun M => ∃ i : Nat, M[i]? = some (St b l (a + 1))) [3, 8] mixed ?_
  refine ahp 0 rfl rfl (by kernel_rfl) (by kernel_rfl) (zd rfl) ?_
  refine ahp 1 rfl rfl (by kernel_rfl) (by kernel_rfl) ((zM rfl)) ?_
  refine ahp 2 rfl rfl (by kernel_rfl) (by kernel_rfl) (zg zie rfl ty3 (by decide) rfl) ?_
  refine ahl 3 rfl rfl (by kernel_rfl) (by kernel_rfl) (by simp) (⟨0, rfl⟩) (fun M hM => by obtain ⟨i, hi⟩ := hM; exact zbr (i := i) ty3 rfl hi (.inl ⟨rfl, rfl⟩) ⟨rfl, rfl⟩) ?_
  refine ahp 4 rfl rfl (by kernel_rfl) (by kernel_rfl) (zbd rfl rfl (by omega) (by omega)) ?_
  refine ahp 5 rfl rfl (by kernel_rfl) (by kernel_rfl) (zd rfl) ?_
  refine ahp 6 rfl rfl (by kernel_rfl) (by kernel_rfl) ((zM rfl)) ?_
  refine ahp 7 rfl rfl (by kernel_rfl) (by kernel_rfl) (zg zie rfl zaq (by decide) rfl) ?_
  refine ahl 8 rfl rfl (by kernel_rfl) (by kernel_rfl) (by simp) (⟨0, rfl⟩) (fun M hM => by obtain ⟨i, hi⟩ := hM; exact zbr (i := i) zaq rfl hi (.inl ⟨rfl, rfl⟩) ⟨rfl, rfl⟩) ?_
  refine ahp 9 rfl rfl (by kernel_rfl) (by kernel_rfl) (zL zaq rfl) ?_
  refine ahp 10 rfl rfl (by kernel_rfl) (by kernel_rfl) (zwm rfl rfl (by omega)) ?_
  refine ahp 11 rfl rfl (by kernel_rfl) (by kernel_rfl) (zaA rfl) ?_
  refine ahz (by kernel_rfl) ?_
  refine za ?_
  refine dmv rfl ?_
  refine dq ((zM rfl)) ?_
  refine dq (zg zie rfl zaq (by decide) rfl) ?_
  refine de rfl (zbr (i := 0) zaq rfl rfl (.inl ⟨rfl, rfl⟩) ?_)
  refine dmv rfl ?_
  refine dq (zP (j := a % l.length) (a := l[a % l.length]'(Nat.mod_lt _ (by omega))) zaq ty3 rfl rfl rfl (List.getElem?_eq_getElem _)) ?_
  refine dq (zc ty3 rfl rfl rfl) ?_
  refine dq (zj zuX rfl (WeakL.refl _) (zeQ (by omega))) ?_
  refine dmv rfl ?_
  refine dmv rfl ?_
  refine dq (znx rfl rfl) ?_
  refine dq (zrh rfl rfl) ?_
  refine dq (znx rfl rfl) ?_
  refine dmv rfl ?_
  refine dq (zj zuX rfl (WeakL.refl _) (zeQ (by assumption))) ?_
  refine das rfl ?_
  refine dn ?_
  refine zk ?_
  refine zaO rfl ?_
  obtain ⟨y, h1, h2⟩ := zkt _ n
  exact ⟨y, congrArg _ h1, h2, rfl⟩

/-- (*benchwarmer/benchmake.Stream).Range -/
theorem zex [Tracks] {b : Nat} {l : List Int} {a : Nat} {lo hi : Int} (ha : a ≤ 1000000) (hlh : lo ≤ hi) (h0 : -1000000000 ≤ lo) (h1 : hi ≤ 1000000000) : Con Tryz.prog 43 [pAt b, .int .i64 lo, .int .i64 hi] [St b l a] (fun x M' => ∃ y : Int, x = .int .i64 y ∧ (lo ≤ y ∧ y ≤ hi) ∧ M' = [St b l (a + 1)]) := by
 refine Con.of_body Tryz.func43 rfl Tryz.ntmps43 rfl rfl ?_
 refine za ?_
 refine das rfl ?_
 refine dn ?_
 refine zf ?_
 refine za ?_
 refine dmv rfl ?_
 refine dmv rfl ?_
 refine dq (zW rfl rfl) ?_
 refine dn ?_
 refine zi rfl (fun h1 => ?_) (fun h1 => ?_)
 ·exfalso
  try simp at h1
  omega
 ·try simp at h1
  refine zl ?_
  refine ze ?_
  refine za ?_
  refine dmv rfl ?_
  refine dmv rfl ?_
  refine dmv rfl ?_
  refine dmv rfl ?_
  refine dq (zbd rfl rfl (by omega) (by omega)) ?_
  refine dq (zC rfl rfl (by omega) (by omega)) ?_
  refine de rfl (zo (i := 0) zcV rfl (WeakL.refl _) rfl (zV (by assumption) (by omega)) ?_)
  rintro _ _ ⟨y17, rfl, hy17, rfl⟩
  refine dq (zC rfl rfl (by omega) (by omega)) ?_
  refine das rfl ?_
  refine dn ?_
  refine zk ?_
  exact zaO rfl ⟨_, rfl, by omega, rfl⟩

/-- (*benchwarmer/benchmake.Stream).Flip -/
theorem zaF [Tracks] {b : Nat} {l : List Int} {a : Nat} {n : Int} (ha : a ≤ 1000000) (hn : n ≤ 4000000000) : Con Tryz.prog 46 [pAt b, .int .i64 n] [St b l a] (fun x M' => ∃ y : Bool, x = .bool y ∧ M' = [St b l (a + 1)]) := by
 refine Con.of_body Tryz.func46 rfl Tryz.ntmps46 rfl rfl ?_
 refine za ?_
 refine das rfl ?_
 refine dn ?_
 refine za ?_
 refine dmv rfl ?_
 refine dmv rfl ?_
 refine de rfl (zo (i := 0) zcV rfl (WeakL.refl _) rfl (zV (by assumption) (by assumption)) ?_)
 rintro _ _ ⟨y7, rfl, hy7, rfl⟩
 refine dq (zaJ rfl rfl) ?_
 refine das rfl ?_
 refine dn ?_
 refine zk ?_
 exact zaO rfl ⟨_, rfl, rfl⟩

/-- (*benchwarmer/benchmake.Stream).Pick -/
theorem zy [Tracks] {b : Nat} {l : List Int} {a : Nat} {L : List Int} (ha : a ≤ 1000000) (h0 : 0 < L.length) (h1 : L.length ≤ 1000000) : Con Tryz.prog 14 [pAt b, .slice 1 (L.map (.int .i64))] [St b l a] (fun x M' => ∃ y : Int, x = .int .i64 y ∧ y ∈ L ∧ M' = [St b l (a + 1)]) := by
 refine Con.of_body Tryz.func14 rfl Tryz.ntmps14 rfl rfl ?_
 refine za ?_
 refine das rfl ?_
 refine dn ?_
 refine za ?_
 refine dmv rfl ?_
 refine dmv rfl ?_
 refine dmv rfl ?_
 refine dq (zL zaq rfl) ?_
 refine de rfl (zo (i := 0) zcV rfl (WeakL.refl _) rfl (zV (by assumption) (by omega)) ?_)
 rintro _ _ ⟨y9, rfl, hy9, rfl⟩
 obtain ⟨z, hz, hm⟩ := getI hy9 h0
 refine dq (zP (j := y9) (a := z) zaq ty3 rfl rfl rfl hz) ?_
 refine dq (zc ty3 rfl rfl rfl) ?_
 refine das rfl ?_
 refine dn ?_
 refine zk ?_
 exact zaO rfl ⟨_, rfl, hm, rfl⟩

/-- (*benchwarmer/benchmake.Stream).Some -/
theorem zac [Tracks] {b : Nat} {l : List Int} {a : Nat} {L : List Str} (ha : a ≤ 1000000) (h0 : 0 < L.length) (h1 : L.length ≤ 1000000) : Con Tryz.prog 45 [pAt b, eSs L] [St b l a] (fun x M' => ∃ y : Str, x = .str y ∧ y ∈ L ∧ M' = [St b l (a + 1)]) := by
 refine Con.of_body Tryz.func45 rfl Tryz.ntmps45 rfl rfl ?_
 refine za ?_
 refine das rfl ?_
 refine dn ?_
 refine za ?_
 refine dmv rfl ?_
 refine dmv rfl ?_
 refine dmv rfl ?_
 refine dq (zL zaj rfl) ?_
 refine de rfl (zo (i := 0) zcV rfl (WeakL.refl _) rfl (zV (by assumption) (by omega)) ?_)
 rintro _ _ ⟨y9, rfl, hy9, rfl⟩
 obtain ⟨z, hz, hm⟩ := getS hy9 h0
 refine dq (zP (j := y9) (a := z) zaj ty9 rfl rfl rfl hz) ?_
 refine dq (zc ty9 rfl rfl rfl) ?_
 refine das rfl ?_
 refine dn ?_
 refine zk ?_
 exact zaO rfl ⟨_, rfl, hm, rfl⟩
end
section
open Go.HL
set_option linter.unusedSimpArgs false
end
end Go.Proofs.YtjecenjmphpmfaaGreatDoor
section
namespace Go.HL
section
variable {P : Program} {ops : Array Oper} {n : Nat} {S : List MObj → Prop} {ld : List Nat} {K : Env → List MObj → Prop} {e : Env} {M : List MObj} {listed : Array Bool} {fuel : Nat} {d : Nat} {op : Op} {ty : TypeId} {pos : String} {af : Array Edge} {h : HVal}
end
theorem zbp {k : IntKind} {a b : Int} (h : a = b) : some (HVal.int k a) = some (.int k b) := by rw [h]
section
variable {α : Type} {c : α → α → Int}
end
end Go.HL
namespace Go.HL
section
variable {α : Type} {p : α → Bool}
/-- What slices.DeleteFunc has done when it looks at place j. -/
structure DelInv (p : α → Bool) (l : List α) (j : Nat) (D : List α) : Prop where
 len : D.length = l.length
 jle : j ≤ l.length
 lt : ((l.take j).filter (fun x => !p x)).length < j
 kept : D.take ((l.take j).filter (fun x => !p x)).length = (l.take j).filter (fun x => !p x)
 rest : D.drop j = l.drop j
theorem zib {l : List α} {j : Nat} {x : α} (hx : l[j]? = some x) : (l.take (j + 1)).filter (fun x => !p x) = (l.take j).filter (fun x => !p x) ++ if p x then [] else [x] := by
 rw [zad hx, List.filter_append]
 by_cases h : p x <;> simp [h]
theorem DelInv.get {l D : List α} {j : Nat} {x : α} (h : DelInv p l j D) (hx : l[j]? = some x) : D[j]? = some x := by
 have h1 := congrArg (fun t => t[0]?) h.rest
 simp only [List.getElem?_drop, Nat.add_zero] at h1
 rw [h1]; exact hx
theorem DelInv.drop1 {l D : List α} {j : Nat} (h : DelInv p l j D) : D.drop (j + 1) = l.drop (j + 1) := by
 have := congrArg (List.drop 1) h.rest
 simpa [List.drop_drop] using this
theorem DelInv.skip {l D : List α} {j : Nat} {x : α} (h : DelInv p l j D) (hx : l[j]? = some x) (hp : p x = true) : DelInv p l (j + 1) D ∧ ((l.take (j + 1)).filter (fun x => !p x)).length = ((l.take j).filter (fun x => !p x)).length := by
 have e := zib (p := p) hx
 rw [if_pos hp, List.append_nil] at e
 refine ⟨⟨h.len, by have := zK hx; omega, by rw [e]; have := h.lt; omega, by rw [e]; exact h.kept, h.drop1⟩, by rw [e]⟩
theorem DelInv.keep {l D : List α} {j : Nat} {x : α} (h : DelInv p l j D) (hx : l[j]? = some x) (hp : p x = false) :
 DelInv p l (j + 1) (D.set ((l.take j).filter (fun x => !p x)).length x) ∧ ((l.take (j + 1)).filter (fun x => !p x)).length = ((l.take j).filter (fun x => !p x)).length + 1 := by
 have e := zib (p := p) hx
 rw [if_neg (by simp [hp])] at e
 have hlt := h.lt
 have hj := zK hx
 have hl := h.len
 have el : ((l.take (j + 1)).filter (fun x => !p x)).length = ((l.take j).filter (fun x => !p x)).length + 1 := by rw [e]; simp
 refine ⟨⟨by simp [hl], by omega, by omega, ?_, ?_⟩, el⟩
 ·rw [el, e]
  have hk := h.kept
  generalize ((l.take j).filter (fun x => !p x)) = F at *
  rw [zad (List.getElem?_set_self (by omega)), List.take_set_of_le (Nat.le_refl _), hk]
 ·rw [List.drop_set_of_lt (by omega)]; exact h.drop1
theorem zgS (p : α → Bool) : ∀ (l : List α) (k : Int), 0 ≤ k → zaP p l k ≠ -1 → ∃ i : Nat, zaP p l k = k + i ∧ i < l.length ∧ (∃ x, l[i]? = some x ∧ p x = true) ∧ ∀ y ∈ l.take i, p y = false
 | [], k, _, h => by simp [zaP] at h
 | x :: r, k, h0, h => by
   by_cases hx : p x = true
   ·exact ⟨0, by simp [zaP, hx], by simp, ⟨x, rfl, hx⟩, by simp⟩
   ·have e : zaP p (x :: r) k = zaP p r (k + 1) := by simp [zaP, hx]
    rw [e] at h ⊢
    obtain ⟨i, h1, h2, ⟨y, h3, h4⟩, h5⟩ := zgS p r (k + 1) (by omega) h
    refine ⟨i + 1, by rw [h1]; simp; omega, by simp; omega, ⟨y, by simpa using h3, h4⟩, fun z hz => ?_⟩
    simp only [List.take_succ_cons, List.mem_cons] at hz
    rcases hz with rfl | hz
    ·simpa using hx
    ·exact h5 z hz
theorem zgy (p : α → Bool) : ∀ (l : List α) (k : Int), 0 ≤ k → zaP p l k = -1 → l.filter (fun x => !p x) = l
 | [], _, _, _ => rfl
 | x :: r, k, h0, h => by
   by_cases hx : p x = true
   ·simp [zaP, hx] at h; omega
   ·have e : zaP p (x :: r) k = zaP p r (k + 1) := by simp [zaP, hx]
    rw [e] at h
    rw [List.filter_cons, if_pos (by simp [hx]), zgy p r (k + 1) (by omega) h]
theorem DelInv.start {l : List α} {i : Nat} {x : α} (hi : i < l.length) (hx : l[i]? = some x) (hp : p x = true) (hb : ∀ y ∈ l.take i, p y = false) : DelInv p l (i + 1) l ∧ ((l.take (i + 1)).filter (fun x => !p x)).length = i := by
 have e := zib (p := p) hx
 rw [if_pos hp, List.append_nil, (List.filter_eq_self (l := l.take i) (p := fun x => !p x)).2 (fun y hy => by simp [hb y hy])] at e
 have hl : (l.take i).length = i := by simp; omega
 refine ⟨⟨rfl, by omega, by rw [e]; omega, by rw [e, hl], rfl⟩, by rw [e, hl]⟩
theorem DelInv.done {l D : List α} (h : DelInv p l l.length D) : D.take (l.filter (fun x => !p x)).length = l.filter (fun x => !p x) := by
 have := h.kept
 rwa [List.take_length] at this
end
theorem zpO {cap off sz m n : Nat} (h1 : m ≤ n) (h2 : n ≤ cap) : n - m = 0 ∨ zhz cap off sz m = off + m * sz := by
 unfold zhz
 by_cases h : cap = m
 ·exact .inl (by omega)
 ·exact .inr (by rw [if_neg h])
end Go.HL
namespace Go.HL
/-- A function that only reads is handed an owned slice for good. -/
theorem zwp [Tracks] {P : Program} {f : FuncId} {v : Value} {sz : Nat} {es rest : List HVal} {h : HVal} (hp : ConP P f (.slice sz es :: rest) h) : Con P f (.raw v :: rest) [.arr v sz es] fun x M' => x = h ∧ M' = [] := by
 intro I F w args ha hs
 obtain ⟨J, hl, hs', hv⟩ := hs.freeze_arr
 cases args with
 | nil => have := ha.1; simp at this
 | cons a args =>
   have h1 := ha.head.raw_inv
   subst h1
   refine (hp J F w (a :: args) (VL.cons hv (ha.tail.mono hl)) hs').mono ?_
   rintro e w' ⟨u, x, M', K, rfl, hk, ⟨rfl, rfl⟩, h3, h4⟩
   exact ⟨u, x, [], K, rfl, hl.trans hk, ⟨rfl, rfl⟩, h3, h4⟩
end Go.HL
end
namespace Go.Proofs.YtjecenjmphpmfaaGreatDoor
set_option maxRecDepth 100000
set_option linter.unusedVariables false
set_option linter.unusedSimpArgs false
section
open Go.HL
set_option linter.unusedSimpArgs false
end
section
open Go.HL

end
section
open Go.HL
set_option linter.unusedSimpArgs false
end
section
open Go.HL
set_option linter.unusedSimpArgs false
end
section
open Go.HL
theorem zw5 [Tracks] : EqOk Tryz.prog 168 := ⟨by kernel_rfl, by kernel_rfl, by kernel_rfl⟩
theorem zrJ [Tracks] : KeyOk Tryz.prog 157 zeW := zht (cs := fun x : Plc => zh (zeW x)) zb7 zvt (fun x y => ⟨rfl, ⟨_, _, _, _, ty9, rfl⟩, rfl, ⟨_, _, _, _, ty3, rfl⟩, trivial⟩)
 (fun x y => by obtain ⟨a, b⟩ := x; obtain ⟨c, d⟩ := y; show (_ && (_ && true)) = _; rw [Bool.eq_iff_iff]; simp [eqH, Prod.mk.injEq]) (fun x => rfl)
theorem zkS [Tracks] : KeyOk Tryz.prog 168 zbQ := zoX (cs := fun x : Cnt => zh (zbQ x)) zdo zw5
 (fun x y => ⟨rfl, .inl ⟨_, _, _, _, zb7, zvt, Nat.le_of_ble_eq_true rfl, Nat.le_of_ble_eq_true rfl, ⟨rfl, ⟨_, _, _, _, ty9, rfl⟩, rfl, ⟨_, _, _, _, ty3, rfl⟩, trivial⟩, rfl, .inr ⟨_, _, _, _, _, _, _, _, rfl, rfl, ty9, rfl, rfl, rfl⟩⟩⟩)
 (fun x y => by obtain ⟨a, b, e⟩ := x; obtain ⟨c, d, f⟩ := y; show (_ && (_ && (_ && true))) = _; rw [Bool.eq_iff_iff]; simp [eqH, Prod.mk.injEq]) (fun x => rfl)

/-- slices.SortFunc -/
theorem zln [Tracks] {c : LineS → LineS → Int} (hO : Go.Sort.SWO (Go.Proofs.ltOf c)) {g : FuncId} (hg : Callable Tryz.prog g) {cap : List HVal} (hc : ∀ x y, @ConP zdg Tryz.prog g (zaK x :: zaK y :: cap) (.int .i64 (c x y))) {l : List LineS} (hl : l.length ≤ 1000000) {v : Value} :
 Con Tryz.prog 106 [.raw v, .fn (.func g) [] cap] [.arr v 3 (l.map zaK)] fun x M' => ∃ l' : List LineS, x = .tup [] ∧ l'.Perm l ∧ l'.Pairwise (fun a b => ¬ c b a < 0) ∧ M' = [.arr v 3 (l'.map zaK)] :=
 zka (e := zaK) Tryz.g106 (Tryz.isAgg91) (Tryz.sizeOf91) (fun _ => rfl) (fun _ => rfl) (fun _ => rfl) hO hg hc hl

/-- slices.SortFunc -/
theorem zjK [Tracks] {c : TurnedS → TurnedS → Int} (hO : Go.Sort.SWO (Go.Proofs.ltOf c)) {g : FuncId} (hg : Callable Tryz.prog g) {cap : List HVal} (hc : ∀ x y, @ConP zdg Tryz.prog g (zaH x :: zaH y :: cap) (.int .i64 (c x y))) {l : List TurnedS} (hl : l.length ≤ 1000000) {v : Value} :
 Con Tryz.prog 111 [.raw v, .fn (.func g) [] cap] [.arr v 5 (l.map zaH)] fun x M' => ∃ l' : List TurnedS, x = .tup [] ∧ l'.Perm l ∧ l'.Pairwise (fun a b => ¬ c b a < 0) ∧ M' = [.arr v 5 (l'.map zaH)] :=
 zka (e := zaH) Tryz.g111 (Tryz.isAgg56) (Tryz.sizeOf56) (fun _ => rfl) (fun _ => rfl) (fun _ => rfl) hO hg hc hl

/-- slices.IndexFunc[[]benchwarmer/api.Stat,benchwarmer/api.Stat] -/
theorem zcB [Tracks] {l : List StatS} {fid : FuncId} {caps : List HVal} {p : StatS → Bool} (hca : Callable Tryz.prog fid) (hp : ∀ x, ConP Tryz.prog fid ([zaD x] ++ caps) (.bool (p x))) (hl : l.length ≤ 1000000) : ConP Tryz.prog 153 [.slice 2 (l.map zaD), .fn (.func fid) [] caps] (.int .i64 (zaP p l 0)) := by
 refine Con.of_body Tryz.func153 rfl Tryz.ntmps153 rfl rfl ?_
 refine za ?_
 refine das rfl ?_
 refine dn ?_
 refine zf ?_
 refine za ?_
 refine dmv rfl ?_
 refine dq (zL zax rfl) ?_
 refine dmv rfl ?_
 refine dn ?_
 refine zn ?_
 refine zak [4, 5, 8, 9, 10, 11, 12, 13, 14, 15, 16, 17, 18] (fun (k : Nat) => [(8, .int .i64 k)]) (fun (k : Nat) => []) (fun (k : Nat) => k ≤ l.length ∧ (zaP p l 0 = zaP p (l.drop k) k)) (fun (k : Nat) => l.length - k) (0) ?_ ?_ ?_ ?_
 ·exact ⟨Nat.zero_le _, rfl⟩
 ·exact ⟨rfl, trivial⟩
 ·exact List.Perm.refl _
 ·intro k hinv
  obtain ⟨hk, hg⟩ := hinv
  refine za ?_
  refine dq (zW rfl rfl) ?_
  refine dn ?_
  refine zf ?_
  refine zi rfl (fun h1 => ?_) (fun h2 => ?_)
  ·try simp at h1
   obtain ⟨x, hx⟩ : ∃ x, l[k]? = some x := ⟨_, List.getElem?_eq_getElem h1⟩
   have hdx := zX hx
   rw [hdx] at hg
   refine zl ?_
   refine ze ?_
   refine zf ?_
   refine zn ?_
   refine za ?_
   refine dmv rfl ?_
   refine das rfl ?_
   refine dn ?_
   refine za ?_
   refine dmv rfl ?_
   refine dmv rfl ?_
   refine dmv rfl ?_
   refine dq (zP zax zam rfl rfl rfl (by first | assumption | simp_all)) ?_
   refine dq (zN zam rfl rfl rfl rfl) ?_
   refine dq (zb4 hca rfl rfl (WeakL.refl _) (hp _)) ?_
   refine dn ?_
   refine zi rfl (fun h3 => ?_) (fun h4 => ?_)
   ·try simp at h3
    refine za ?_
    refine dmv rfl ?_
    refine das rfl ?_
    refine dn ?_
    refine zk ?_
    refine zF rfl ?_
    show HVal.int .i64 _ = _
    first | (rw [hg]; rfl) | (rw [hg]; simp_all [zaP])
   ·try simp at h4
    refine zl ?_
    refine zG ?_
    refine ze ?_
    refine zB ?_
    refine dq (zC rfl rfl (by omega) (by omega)) ?_
    refine dmv rfl ?_
    refine dn ?_
    refine ⟨k + 1, ?_, ?_, ⟨rfl, trivial⟩, (by repeat (first | exact zp | refine zt rfl ?_ | refine zq rfl rfl ?_)), List.Perm.refl _⟩
    ·refine ⟨by omega, ?_⟩
     rw [hg, zaP, if_neg (by simp_all)]; rfl
    ·dsimp only; omega
  ·try simp at h2
   have hnk : l.length ≤ k := by omega
   obtain rfl : k = l.length := by omega
   rw [zap (Nat.le_refl _)] at hg
   refine zU ?_
   refine z6 ?_
   refine zas ?_
   refine zJ ?_
   refine ze ?_
   refine za ?_
   refine das rfl ?_
   refine dn ?_
   refine zk ?_
   refine zF rfl ?_
   show HVal.int .i64 _ = _
   first | (rw [hg]; rfl) | (rw [hg]; simp_all [zaP])

/-- slices.Clone[[]benchwarmer/api.Stat,benchwarmer/api.Stat] -/
theorem zff [Tracks] {l : List StatS} (hl : l.length ≤ 1000000) : zlW Tryz.prog 101 [.slice 2 (l.map zaD)] 2 (l.map zaD) := by
 refine Con.of_body Tryz.func101 rfl Tryz.ntmps101 rfl rfl ?_
 refine za ?_
 refine das rfl ?_
 refine dn ?_
 refine zf ?_
 refine za ?_
 refine dmv rfl ?_
 refine de rfl (zhO zax rfl rfl fun b4 hb4 => ?_)
 refine dn ?_
 refine zi rfl (fun h1 => ?_) (fun h2 => ?_)
 ·try simp at h1
  refine za ?_
  refine das rfl ?_
  refine dn ?_
  refine zk ?_
  first | exact zgN rfl rfl | exact zat (Ghost.arr_nil 2) rfl ⟨_, rfl, by simp_all⟩
 ·try simp at h2
  refine zl ?_
  refine ze ?_
  refine za ?_
  refine de rfl (ziv zax zam fun v5 => ?_)
  refine dmv rfl ?_
  refine de rfl (zan (i := 0) zax zam rfl rfl rfl rfl rfl (by simp [za5, zh]) (by first | omega | (simp; omega)) fun v7 => ?_)
  refine das rfl ?_
  refine dn ?_
  refine zk ?_
  first | exact zgN rfl rfl | exact zat (Ghost.arr_nil 2) rfl ⟨_, rfl, by simp_all⟩

/-- slices.DeleteFunc[[]benchwarmer/api.Stat,benchwarmer/api.Stat] -/
theorem zek [Tracks] {l : List StatS} {fid : FuncId} {caps : List HVal} {p : StatS → Bool} {v : Value} (hca : Callable Tryz.prog fid) (hp : ∀ x, ConP Tryz.prog fid ([zaD x] ++ caps) (.bool (p x))) (hl : l.length ≤ 1000000) : Con Tryz.prog 102 [.raw v, .fn (.func fid) [] caps] [.arr v 2 (l.map zaD)] (fun x M' => ∃ u, x = .raw u ∧ M' = [.arr u 2 ((l.filter (fun x => !p x)).map zaD)]) := by
 refine Con.of_body Tryz.func102 rfl Tryz.ntmps102 rfl rfl ?_
 refine za ?_
 refine das rfl ?_
 refine dn ?_
 refine za ?_
 refine dmv rfl ?_
 refine dmv rfl ?_
 refine de rfl (zgn (hs' := [.slice 2 (l.map zaD), .fn (.func fid) [] caps]) zvg rfl ⟨.arr (i := 0) rfl, .weak (Weak.refl _), trivial⟩ (zcB (p := p) hca hp hl) rfl ?_)
 refine das rfl ?_
 refine dn ?_
 refine zf ?_
 refine za ?_
 refine dmv rfl ?_
 refine dq (zaJ rfl rfl) ?_
 refine dn ?_
 refine zi rfl (fun h1 => ?_) (fun h2 => ?_)
 ·try simp at h1
  refine za ?_
  refine dmv rfl ?_
  refine das rfl ?_
  refine dn ?_
  refine zk ?_
  first
  | (refine zaO rfl ⟨_, rfl, ?_⟩
     rw [zgy p l 0 (by omega) h1]
     done)
  | (refine zaO rfl ⟨_, rfl, ?_⟩
     rw [List.take_length, ← List.map_take, hend]; rfl)
 ·try simp at h2
  refine zl ?_
  refine ze ?_
  refine zf ?_
  obtain ⟨i0, hi0, hil, ⟨x0, hx0, hp0⟩, hb0⟩ := zgS p l 0 (by omega) h2
  rw [Int.zero_add] at hi0
  obtain ⟨hD0, hn0⟩ := DelInv.start (p := p) hil hx0 hp0 hb0
  refine zfu (i := 0) rfl (fun h0 he => ?_) (fun b off cap hv hcap => ?_)
  ·exfalso; have := congrArg List.length he; simp at this; subst this; simp at hil
  rw [List.length_map] at hv hcap
  subst hv
  refine za ?_
  refine dmv rfl ?_
  refine dq (ziI (zC rfl rfl (by rw [hi0]; omega) (by rw [hi0]; omega)) (congrArg _ (by rw [hi0]))) ?_
  refine das rfl ?_
  refine dn ?_
  refine zn ?_
  refine zaI [5, 6, 7, 16, 17, 18, 19, 20, 21, 22, 23, 24, 25, 26, 27, 28, 29, 30, 31, 32, 33, 34, 35] (fun (j : Nat) (D : List StatS) => [(6, .int .i64 (j : Int)), (5, .int .i64 (((l.take j).filter (fun x => !p x)).length : Int))]) (fun (j : Nat) (D : List StatS) => [.arr (.slice (some ⟨b, off, none⟩) l.length cap) 2 (D.map zaD)]) (fun (j : Nat) (D : List StatS) => DelInv p l j D) (fun (j : Nat) (D : List StatS) => l.length - j) (i0 + 1) (l) ?_ ?_ ?_ ?_
  ·exact hD0
  ·exact ⟨rfl, zbp (by rw [hn0, hi0]), trivial⟩
  ·exact List.Perm.refl _
  ·intro j D hD
   have hlt0 := hD.lt
   have hle0 := hD.len
   refine zf ?_
   refine za ?_
   refine dmv rfl ?_
   refine dmv rfl ?_
   first
   | refine de rfl (zbj (i := 0) zax rfl rfl ?_)
   | refine de rfl (zbj (i := 1) zax rfl rfl ?_)
   | refine de rfl (zbj (i := 2) zax rfl rfl ?_)
   | refine de rfl (zbj (i := 3) zax rfl rfl ?_)
   refine dq (zW rfl rfl) ?_
   refine dn ?_
   refine zi rfl (fun h3 => ?_) (fun h4 => ?_)
   ·try simp at h3
    obtain ⟨x, hx⟩ : ∃ x, l[j]? = some x := ⟨_, List.getElem?_eq_getElem (by omega)⟩
    refine zl ?_
    refine ze ?_
    refine zf ?_
    refine zn ?_
    refine za ?_
    refine dmv rfl ?_
    refine dmv rfl ?_
    refine dq (zbL (j := j) zax zam rfl rfl rfl (by omega)) ?_
    refine de rfl (zg5 (i := 0) (j := j) zam rfl rfl rfl (hD.get hx) rfl rfl rfl ?_)
    refine de rfl (z8 zam rfl fun b7 => ?_)
    refine de0 (zae zam rfl rfl rfl rfl rfl ?_)
    refine dn ?_
    refine zH (Ghost.fc0 7 rfl) ?_
    refine za ?_
    refine dmv rfl ?_
    refine dq (zN zam rfl rfl rfl rfl) ?_
    refine dq (zb4 hca rfl rfl (WeakL.refl _) (hp _)) ?_
    refine dq (zaa rfl) ?_
    refine dn ?_
    refine zi rfl (fun h5 => ?_) (fun h6 => ?_)
    ·try simp at h5
     refine za ?_
     refine dmv rfl ?_
     refine dmv rfl ?_
     refine dq (zN zam rfl rfl rfl rfl) ?_
     refine dq (zbL (j := ((l.take j).filter (fun x => !p x)).length) zax zam rfl rfl rfl (by have := hD.lt; omega)) ?_
     refine de0 (ze2 (i := 0) (j := ((l.take j).filter (fun x => !p x)).length) (y := D[((l.take j).filter (fun x => !p x)).length]'(by have := hD.lt; have := hD.len; omega)) (y' := x) zam rfl rfl rfl rfl (List.getElem?_eq_getElem _) rfl rfl rfl ?_)
     refine dn ?_
     refine zB ?_
     refine dmv rfl ?_
     refine dq (zC rfl rfl (by omega) (by have := hD.lt; omega)) ?_
     refine das rfl ?_
     refine dn ?_
     refine zG ?_
     refine ze ?_
     refine zB ?_
     refine dmv rfl ?_
     refine dq (zC rfl rfl (by omega) (by omega)) ?_
     refine das rfl ?_
     refine dn ?_
     first
     | exact ⟨j + 1, _, (hD.keep hx (by simp_all)).1, by dsimp only; omega, ⟨rfl, zbp (by rw [(hD.keep hx (by simp_all)).2]; rfl), trivial⟩, (by repeat (first | exact zp | refine zt rfl ?_ | refine zq rfl rfl ?_)), List.Perm.refl _⟩
     | exact ⟨j + 1, _, (hD.skip hx (by simp_all)).1, by dsimp only; omega, ⟨rfl, zbp (by rw [(hD.skip hx (by simp_all)).2]), trivial⟩, (by repeat (first | exact zp | refine zt rfl ?_ | refine zq rfl rfl ?_)), List.Perm.refl _⟩
    ·try simp at h6
     refine zl ?_
     refine zG ?_
     refine ze ?_
     refine zB ?_
     refine dmv rfl ?_
     refine dq (zC rfl rfl (by omega) (by omega)) ?_
     refine das rfl ?_
     refine dn ?_
     first
     | exact ⟨j + 1, _, (hD.keep hx (by simp_all)).1, by dsimp only; omega, ⟨rfl, zbp (by rw [(hD.keep hx (by simp_all)).2]; rfl), trivial⟩, (by repeat (first | exact zp | refine zt rfl ?_ | refine zq rfl rfl ?_)), List.Perm.refl _⟩
     | exact ⟨j + 1, _, (hD.skip hx (by simp_all)).1, by dsimp only; omega, ⟨rfl, zbp (by rw [(hD.skip hx (by simp_all)).2]), trivial⟩, (by repeat (first | exact zp | refine zt rfl ?_ | refine zq rfl rfl ?_)), List.Perm.refl _⟩
   ·try simp at h4
    obtain rfl : j = l.length := by have := hD.jle; omega
    have hend := hD.done
    refine zU ?_
    refine z6 ?_
    refine zaR ?_
    refine zJ ?_
    refine ze ?_
    refine za ?_
    refine dmv rfl ?_
    refine dmv rfl ?_
    refine dq (zor (l := ((l.take l.length).filter (fun x => !p x)).length) zax zam rfl ⟨_, _, rfl, rfl⟩ rfl (by omega) (by omega) hcap) ?_
    refine de0 (zkC (i := 0) (m := ((l.take l.length).filter (fun x => !p x)).length) (((l.take l.length).filter (fun x => !p x)).length) zax zam rfl rfl rfl (zpO (by omega) hcap) rfl (by omega) (Nat.le_refl _) (by rw [List.length_map, hD.len]; omega) ?_)
    refine dn ?_
    refine za ?_
    refine dmv rfl ?_
    refine dmv rfl ?_
    refine dq (zi3 (h := ((l.take l.length).filter (fun x => !p x)).length) zax zam rfl ⟨_, _, rfl, rfl⟩ (by omega)) ?_
    refine das rfl ?_
    refine dn ?_
    refine zk ?_
    first
    | (refine zaO rfl ⟨_, rfl, ?_⟩
       rw [zgy p l 0 (by omega) h1]
       done)
    | (refine zaO rfl ⟨_, rfl, ?_⟩
       rw [List.take_length, ← List.map_take, hend]; rfl)

/-- benchwarmer/play.byVersion -/
theorem zl9 [Tracks] {a b : MendS}  : ConP Tryz.prog 97 [zbi a, zbi b] (.int .i64 (zdx a b)) := by
 refine Con.of_body Tryz.func97 rfl Tryz.ntmps97 rfl rfl ?_
 refine za ?_
 refine dq (zao rfl rfl) ?_
 refine dq (zao rfl rfl) ?_
 refine das rfl ?_
 refine dn ?_
 refine zaM (fun _ => True) [] mixed ?_
 refine ahp 0 rfl rfl (by kernel_rfl) (by kernel_rfl) (zb zQ rfl ty9 (by decide) rfl) ?_
 refine ahp 1 rfl rfl (by kernel_rfl) (by kernel_rfl) (zc ty9 rfl rfl rfl) ?_
 refine ahp 2 rfl rfl (by kernel_rfl) (by kernel_rfl) (zb zQ rfl ty9 (by decide) rfl) ?_
 refine ahp 3 rfl rfl (by kernel_rfl) (by kernel_rfl) (zc ty9 rfl rfl rfl) ?_
 refine ahp 4 rfl rfl (by kernel_rfl) (by kernel_rfl) (zj zfC rfl (WeakL.refl _) zaE) ?_
 refine ahp 5 rfl rfl (by kernel_rfl) (by kernel_rfl) (zb zQ rfl ty3 (by decide) rfl) ?_
 refine ahp 6 rfl rfl (by kernel_rfl) (by kernel_rfl) (zc ty3 rfl rfl rfl) ?_
 refine ahp 7 rfl rfl (by kernel_rfl) (by kernel_rfl) (zb zQ rfl ty3 (by decide) rfl) ?_
 refine ahp 8 rfl rfl (by kernel_rfl) (by kernel_rfl) (zc ty3 rfl rfl rfl) ?_
 refine ahp 9 rfl rfl (by kernel_rfl) (by kernel_rfl) (zj ziq rfl (WeakL.refl _) zbe) ?_
 refine ahp 10 rfl rfl (by kernel_rfl) (by kernel_rfl) (zb zQ rfl ty9 (by decide) rfl) ?_
 refine ahp 11 rfl rfl (by kernel_rfl) (by kernel_rfl) (zc ty9 rfl rfl rfl) ?_
 refine ahp 12 rfl rfl (by kernel_rfl) (by kernel_rfl) (zb zQ rfl ty9 (by decide) rfl) ?_
 refine ahp 13 rfl rfl (by kernel_rfl) (by kernel_rfl) (zc ty9 rfl rfl rfl) ?_
 refine ahp 14 rfl rfl (by kernel_rfl) (by kernel_rfl) (zj zfC rfl (WeakL.refl _) zaE) ?_
 refine ahp 15 rfl rfl (by kernel_rfl) (by kernel_rfl) (zb zQ rfl ty3 (by decide) rfl) ?_
 refine ahp 16 rfl rfl (by kernel_rfl) (by kernel_rfl) (zc ty3 rfl rfl rfl) ?_
 refine ahp 17 rfl rfl (by kernel_rfl) (by kernel_rfl) (zb zQ rfl ty3 (by decide) rfl) ?_
 refine ahp 18 rfl rfl (by kernel_rfl) (by kernel_rfl) (zc ty3 rfl rfl rfl) ?_
 refine ahp 19 rfl rfl (by kernel_rfl) (by kernel_rfl) (zj ziq rfl (WeakL.refl _) zbe) ?_
 refine ahp 20 rfl rfl (by kernel_rfl) (by kernel_rfl) (zw (hs := [_, _, _, _]) zaq ty3 rfl rfl (by decide) (by decide) rfl) ?_
 refine ahp 21 rfl rfl (by kernel_rfl) (by kernel_rfl) (zj zj0 rfl (WeakL.refl _) (zcz (l := [_, _, _, _]) (by simp))) ?_
 refine ahp 22 rfl rfl (by kernel_rfl) (by kernel_rfl) (zaA rfl) ?_
 refine ahz (by kernel_rfl) ?_
 refine zk ?_
 refine zF rfl ?_
 rfl

/-- benchwarmer/play.byWeek -/
theorem zoL [Tracks] {a b : LineS}  : ConP Tryz.prog 107 [zaK a, zaK b] (.int .i64 (zcS a b)) := by
 refine Con.of_body Tryz.func107 rfl Tryz.ntmps107 rfl rfl ?_
 refine za ?_
 refine dq (zao rfl rfl) ?_
 refine dq (zao rfl rfl) ?_
 refine das rfl ?_
 refine dn ?_
 refine zaM (fun _ => True) [] mixed ?_
 refine ahp 0 rfl rfl (by kernel_rfl) (by kernel_rfl) (zb zag rfl ty9 (by decide) rfl) ?_
 refine ahp 1 rfl rfl (by kernel_rfl) (by kernel_rfl) (zc ty9 rfl rfl rfl) ?_
 refine ahp 2 rfl rfl (by kernel_rfl) (by kernel_rfl) (zb zag rfl ty9 (by decide) rfl) ?_
 refine ahp 3 rfl rfl (by kernel_rfl) (by kernel_rfl) (zc ty9 rfl rfl rfl) ?_
 refine ahp 4 rfl rfl (by kernel_rfl) (by kernel_rfl) (zj zfC rfl (WeakL.refl _) zaE) ?_
 refine ahp 5 rfl rfl (by kernel_rfl) (by kernel_rfl) (zb zag rfl ty3 (by decide) rfl) ?_
 refine ahp 6 rfl rfl (by kernel_rfl) (by kernel_rfl) (zc ty3 rfl rfl rfl) ?_
 refine ahp 7 rfl rfl (by kernel_rfl) (by kernel_rfl) (zb zag rfl ty3 (by decide) rfl) ?_
 refine ahp 8 rfl rfl (by kernel_rfl) (by kernel_rfl) (zc ty3 rfl rfl rfl) ?_
 refine ahp 9 rfl rfl (by kernel_rfl) (by kernel_rfl) (zj ziq rfl (WeakL.refl _) zbe) ?_
 refine ahp 10 rfl rfl (by kernel_rfl) (by kernel_rfl) (zw (hs := [_, _]) zaq ty3 rfl rfl (by decide) (by decide) rfl) ?_
 refine ahp 11 rfl rfl (by kernel_rfl) (by kernel_rfl) (zj zj0 rfl (WeakL.refl _) (zcz (l := [_, _]) (by simp))) ?_
 refine ahp 12 rfl rfl (by kernel_rfl) (by kernel_rfl) (zaA rfl) ?_
 refine ahz (by kernel_rfl) ?_
 refine zk ?_
 refine zF rfl ?_
 rfl

/-- benchwarmer/play.differ$1 -/
theorem zm2 [Tracks] {a b : TurnedS}  : ConP Tryz.prog 112 [zaH a, zaH b] (.int .i64 (zgF a b)) := by
 refine Con.of_body Tryz.func112 rfl Tryz.ntmps112 rfl rfl ?_
 refine za ?_
 refine dq (zao rfl rfl) ?_
 refine dq (zao rfl rfl) ?_
 refine das rfl ?_
 refine dn ?_
 refine zaM (fun _ => True) [] mixed ?_
 refine ahp 0 rfl rfl (by kernel_rfl) (by kernel_rfl) (zb zbE rfl ty9 (by decide) rfl) ?_
 refine ahp 1 rfl rfl (by kernel_rfl) (by kernel_rfl) (zc ty9 rfl rfl rfl) ?_
 refine ahp 2 rfl rfl (by kernel_rfl) (by kernel_rfl) (zb zbE rfl ty9 (by decide) rfl) ?_
 refine ahp 3 rfl rfl (by kernel_rfl) (by kernel_rfl) (zc ty9 rfl rfl rfl) ?_
 refine ahp 4 rfl rfl (by kernel_rfl) (by kernel_rfl) (zj zfC rfl (WeakL.refl _) zaE) ?_
 refine ahp 5 rfl rfl (by kernel_rfl) (by kernel_rfl) (zb zbE rfl ty3 (by decide) rfl) ?_
 refine ahp 6 rfl rfl (by kernel_rfl) (by kernel_rfl) (zc ty3 rfl rfl rfl) ?_
 refine ahp 7 rfl rfl (by kernel_rfl) (by kernel_rfl) (zb zbE rfl ty3 (by decide) rfl) ?_
 refine ahp 8 rfl rfl (by kernel_rfl) (by kernel_rfl) (zc ty3 rfl rfl rfl) ?_
 refine ahp 9 rfl rfl (by kernel_rfl) (by kernel_rfl) (zj ziq rfl (WeakL.refl _) zbe) ?_
 refine ahp 10 rfl rfl (by kernel_rfl) (by kernel_rfl) (zb zbE rfl ty9 (by decide) rfl) ?_
 refine ahp 11 rfl rfl (by kernel_rfl) (by kernel_rfl) (zc ty9 rfl rfl rfl) ?_
 refine ahp 12 rfl rfl (by kernel_rfl) (by kernel_rfl) (zb zbE rfl ty9 (by decide) rfl) ?_
 refine ahp 13 rfl rfl (by kernel_rfl) (by kernel_rfl) (zc ty9 rfl rfl rfl) ?_
 refine ahp 14 rfl rfl (by kernel_rfl) (by kernel_rfl) (zj zfC rfl (WeakL.refl _) zaE) ?_
 refine ahp 15 rfl rfl (by kernel_rfl) (by kernel_rfl) (zw (hs := [_, _, _]) zaq ty3 rfl rfl (by decide) (by decide) rfl) ?_
 refine ahp 16 rfl rfl (by kernel_rfl) (by kernel_rfl) (zj zj0 rfl (WeakL.refl _) (zcz (l := [_, _, _]) (by simp))) ?_
 refine ahp 17 rfl rfl (by kernel_rfl) (by kernel_rfl) (zaA rfl) ?_
 refine ahz (by kernel_rfl) ?_
 refine zk ?_
 refine zF rfl ?_
 rfl

/-- benchwarmer/play.CheckMends -/
theorem zlb [Tracks] {m : List MendS} (hl : m.length ≤ 1000000) : ConP Tryz.prog 57 [zfH m] (.int .i64 (zaz m)) := by
 refine Con.of_body Tryz.func57 rfl Tryz.ntmps57 rfl rfl ?_
 refine za ?_
 refine das rfl ?_
 refine dn ?_
 refine zf ?_
 refine za ?_
 refine dmv rfl ?_
 refine dq (zL za2 rfl) ?_
 refine dq (zaf rfl rfl) ?_
 refine dn ?_
 refine zi rfl (fun h1 => ?_) (fun h2 => ?_)
 ·try simp at h1
  refine za ?_
  refine das rfl ?_
  refine dn ?_
  refine zk ?_
  refine zF rfl ?_
  show HVal.int .i64 _ = _
  first
  | (rw [zaz, if_pos (by omega)]; done)
  | (rw [zaz, if_neg (by omega), hg]; rfl)
  | (refine congrArg _ (zbc (c := 5) (by omega) hg (by decide) ?_)
     rw [zab, if_pos]
     simp_all
     done)
  | (refine congrArg _ (zbc (c := 1) (by omega) hg (by decide) ?_)
     rw [zab, if_neg, if_pos]
     all_goals simp_all
     done)
  | (refine congrArg _ (zcY (by omega) hg ?_ ?_ ?_)
     ·rw [zab, if_neg, if_neg] <;> simp_all
     ·simp_all
     ·simp_all)
 ·try simp at h2
  refine zl ?_
  refine ze ?_
  refine zf ?_
  refine za ?_
  refine dmv rfl ?_
  refine dq (zL za2 rfl) ?_
  refine dmv rfl ?_
  refine dn ?_
  refine zn ?_
  refine zak (2 :: 3 :: 4 :: 10 :: 11 :: 12 :: 13 :: 14 :: 15 :: 16 :: 17 :: 18 :: 19 :: 20 :: 21 :: 22 :: 23 :: 24 :: 25 :: 26 :: 27 :: 28 :: 29 :: 30 :: 31 :: 32 :: 33 :: 34 :: 35 :: 36 :: 37 :: 38 :: 39 :: 40 :: 41 :: 42 :: 43 :: 44 :: 45 :: 46 :: 47 :: 48 :: 49 :: 50 :: 51 :: 52 :: 53 :: 54 :: 55 :: 56 :: 57 :: 58 :: 59 :: 60 :: 61 :: 62 :: 63 :: 64 :: 65 :: 66 :: []) (fun (k : Nat) => [(10, .int .i64 k)]) (fun (k : Nat) => []) (fun (k : Nat) => k ≤ m.length ∧ (zb2 zab zdx zb6 m 0 m = zb2 zab zdx zb6 m k (m.drop k))) (fun (k : Nat) => m.length - k) (0) ?_ ?_ ?_ ?_
  ·exact ⟨Nat.zero_le _, rfl⟩
  ·exact ⟨rfl, trivial⟩
  ·exact List.Perm.refl _
  ·intro k hinv
   obtain ⟨hk, hg⟩ := hinv
   refine za ?_
   refine dq (zW rfl rfl) ?_
   refine dn ?_
   refine zf ?_
   refine zi rfl (fun h3 => ?_) (fun h4 => ?_)
   ·try simp at h3
    obtain ⟨x, hx⟩ : ∃ x, m[k]? = some x := ⟨_, List.getElem?_eq_getElem h3⟩
    have hdx := zX hx
    rw [hdx] at hg
    refine zl ?_
    refine ze ?_
    refine zf ?_
    refine zn ?_
    refine za ?_
    refine dmv rfl ?_
    refine dq (zP za2 zQ rfl rfl rfl (by first | assumption | simp_all)) ?_
    refine dq (zN zQ rfl rfl rfl rfl) ?_
    refine de rfl (z8 zQ rfl fun b4 => ?_)
    refine das rfl ?_
    refine de0 (zae zQ rfl rfl rfl rfl rfl ?_)
    refine dn ?_
    refine zH (Ghost.fc0 4 rfl) ?_
    refine zn ?_
    refine za ?_
    refine dq (zb zQ rfl ty9 (by decide) rfl) ?_
    refine dq (zc ty9 rfl rfl rfl) ?_
    refine dq (zj zku rfl (WeakL.refl _) zdn) ?_
    refine dq (zaa rfl) ?_
    refine dmv rfl ?_
    refine dg rfl rfl (fun hc => ⟨_, OpenTo.refl _, zb zQ rfl ty9 (by decide) rfl⟩) ?_
    refine dg rfl rfl (fun hc => ⟨_, OpenTo.upd (t := 21) rfl (by first | exact hc | simp_all) (OpenTo.refl _), zc ty9 rfl rfl rfl⟩) ?_
    refine dg rfl rfl (fun hc => ⟨_, OpenTo.upd (t := 22) rfl (by first | exact hc | simp_all) (OpenTo.refl _), zj zku rfl (WeakL.refl _) zdn⟩) ?_
    refine dg rfl rfl (fun hc => ⟨_, OpenTo.upd (t := 23) rfl (by first | exact hc | simp_all) (OpenTo.refl _), zaa rfl⟩) ?_
    refine dq (zv rfl (.inl rfl) (.inr ⟨_, rfl, fun h => by simp_all⟩)) ?_
    refine dmv rfl ?_
    refine dg rfl rfl (fun hc => ⟨_, OpenTo.refl _, zb zQ rfl ty9 (by decide) rfl⟩) ?_
    refine dg rfl rfl (fun hc => ⟨_, OpenTo.upd (t := 27) rfl (by first | exact hc | simp_all) (OpenTo.refl _), zc ty9 rfl rfl rfl⟩) ?_
    refine dg rfl rfl (fun hc => ⟨_, OpenTo.upd (t := 28) rfl (by first | exact hc | simp_all) (OpenTo.refl _), zj zku rfl (WeakL.refl _) zdn⟩) ?_
    refine dg rfl rfl (fun hc => ⟨_, OpenTo.upd (t := 29) rfl (by first | exact hc | simp_all) (OpenTo.refl _), zaa rfl⟩) ?_
    refine dq (zv rfl (.inl rfl) (.inr ⟨_, rfl, fun h => by simp_all⟩)) ?_
    refine das rfl ?_
    refine dn ?_
    refine zi rfl (fun h5 => ?_) (fun h6 => ?_)
    ·try simp at h5
     refine za ?_
     refine das rfl ?_
     refine dn ?_
     refine zk ?_
     refine zF rfl ?_
     show HVal.int .i64 _ = _
     first
     | (rw [zaz, if_pos (by omega)]; done)
     | (rw [zaz, if_neg (by omega), hg]; rfl)
     | (refine congrArg _ (zbc (c := 5) (by omega) hg (by decide) ?_)
        rw [zab, if_pos]
        simp_all
        done)
     | (refine congrArg _ (zbc (c := 1) (by omega) hg (by decide) ?_)
        rw [zab, if_neg, if_pos]
        all_goals simp_all
        done)
     | (refine congrArg _ (zcY (by omega) hg ?_ ?_ ?_)
        ·rw [zab, if_neg, if_neg] <;> simp_all
        ·simp_all
        ·simp_all)
    ·try simp at h6
     refine za ?_
     refine dq (zb zQ rfl ty3 (by decide) rfl) ?_
     refine dq (zc ty3 rfl rfl rfl) ?_
     refine dq (zj zsg rfl (WeakL.refl _) zgd) ?_
     refine dq (zaa rfl) ?_
     refine dmv rfl ?_
     refine dg rfl rfl (fun hc => ⟨_, OpenTo.refl _, zb zQ rfl ty3 (by decide) rfl⟩) ?_
     refine dg rfl rfl (fun hc => ⟨_, OpenTo.upd (t := 38) rfl (by first | exact hc | simp_all) (OpenTo.refl _), zc ty3 rfl rfl rfl⟩) ?_
     refine dg rfl rfl (fun hc => ⟨_, OpenTo.upd (t := 39) rfl (by first | exact hc | simp_all) (OpenTo.refl _), zj zjc rfl (WeakL.refl _) zcU⟩) ?_
     refine dq (zv rfl (.inl rfl) (.inr ⟨_, rfl, fun h => by simp_all⟩)) ?_
     refine dmv rfl ?_
     refine dg rfl rfl (fun hc => ⟨_, OpenTo.refl _, zb zQ rfl ty3 (by decide) rfl⟩) ?_
     refine dg rfl rfl (fun hc => ⟨_, OpenTo.upd (t := 43) rfl (by first | exact hc | simp_all) (OpenTo.refl _), zc ty3 rfl rfl rfl⟩) ?_
     refine dg rfl rfl (fun hc => ⟨_, OpenTo.upd (t := 44) rfl (by first | exact hc | simp_all) (OpenTo.refl _), zj zpC rfl (WeakL.refl _) zd9⟩) ?_
     refine dg rfl rfl (fun hc => ⟨_, OpenTo.upd (t := 45) rfl (by first | exact hc | simp_all) (OpenTo.refl _), zaa rfl⟩) ?_
     refine dq (zv rfl (.inl rfl) (.inr ⟨_, rfl, fun h => by simp_all⟩)) ?_
     refine dmv rfl ?_
     refine dg rfl rfl (fun hc => ⟨_, OpenTo.refl _, zb zQ rfl ty3 (by decide) rfl⟩) ?_
     refine dg rfl rfl (fun hc => ⟨_, OpenTo.upd (t := 49) rfl (by first | exact hc | simp_all) (OpenTo.refl _), zc ty3 rfl rfl rfl⟩) ?_
     refine dg rfl rfl (fun hc => ⟨_, OpenTo.upd (t := 50) rfl (by first | exact hc | simp_all) (OpenTo.refl _), zj zjc rfl (WeakL.refl _) zcU⟩) ?_
     refine dq (zv rfl (.inl rfl) (.inr ⟨_, rfl, fun h => by simp_all⟩)) ?_
     refine das rfl ?_
     refine dn ?_
     refine zi rfl (fun h7 => ?_) (fun h8 => ?_)
     ·try simp at h7
      refine za ?_
      refine das rfl ?_
      refine dn ?_
      refine zk ?_
      refine zF rfl ?_
      show HVal.int .i64 _ = _
      first
      | (rw [zaz, if_pos (by omega)]; done)
      | (rw [zaz, if_neg (by omega), hg]; rfl)
      | (refine congrArg _ (zbc (c := 5) (by omega) hg (by decide) ?_)
         rw [zab, if_pos]
         simp_all
         done)
      | (refine congrArg _ (zbc (c := 1) (by omega) hg (by decide) ?_)
         rw [zab, if_neg, if_pos]
         all_goals simp_all
         done)
      | (refine congrArg _ (zcY (by omega) hg ?_ ?_ ?_)
         ·rw [zab, if_neg, if_neg] <;> simp_all
         ·simp_all
         ·simp_all)
     ·try simp at h8
      refine zaM (fun _ => True) [] mixed ?_
      refine ahp 0 rfl rfl (by kernel_rfl) (by kernel_rfl) (zd rfl) ?_
      refine ahp 1 rfl rfl (by kernel_rfl) (by kernel_rfl) (zaf rfl rfl) ?_
      refine ahp 2 rfl rfl (by kernel_rfl) (by kernel_rfl) (zd rfl) ?_
      refine ahg 3 rfl rfl (by kernel_rfl) (by kernel_rfl) rfl (fun hc => ⟨_, OpenTo.refl _, zN zQ rfl rfl rfl rfl⟩) ?_
      refine ahg 4 rfl rfl (by kernel_rfl) (by kernel_rfl) rfl (fun hc => ⟨_, OpenTo.refl _, zd rfl⟩) ?_
      refine ahg 5 rfl rfl (by kernel_rfl) (by kernel_rfl) rfl (fun hc => ⟨_, OpenTo.refl _, zd rfl⟩) ?_
      refine ahg 6 rfl rfl (by kernel_rfl) (by kernel_rfl) rfl (fun hc => by have hq := hc; (try simp at hq); exact ⟨_, OpenTo.upd (t := 59) rfl (by first | exact hc | simp_all) (OpenTo.refl _), zbd rfl rfl (by omega) (by omega)⟩) ?_
      refine ahg 7 rfl rfl (by kernel_rfl) (by kernel_rfl) rfl (fun hc => by have hq := hc; (try simp at hq); exact ⟨_, OpenTo.upd (t := 60) rfl (by first | exact hc | simp_all) (OpenTo.upd (t := 58) rfl (by first | exact hc | simp_all) (OpenTo.refl _)), zP (j := k - 1) (a := m.getD (k - 1) zb6) za2 zQ rfl rfl (by omega) (getD_some (by omega))⟩) ?_
      refine ahg 8 rfl rfl (by kernel_rfl) (by kernel_rfl) rfl (fun hc => ⟨_, OpenTo.upd (t := 61) rfl (by first | exact hc | simp_all) (OpenTo.refl _), zN zQ rfl rfl rfl rfl⟩) ?_
      refine ahg 9 rfl rfl (by kernel_rfl) (by kernel_rfl) rfl (fun hc => ⟨_, OpenTo.upd (t := 62) rfl (by first | exact hc | simp_all) (OpenTo.upd (t := 57) rfl (by first | exact hc | simp_all) (OpenTo.refl _)), zj ca97 rfl (WeakL.refl _) zl9⟩) ?_
      refine ahg 10 rfl rfl (by kernel_rfl) (by kernel_rfl) rfl (fun hc => ⟨_, OpenTo.upd (t := 63) rfl (by first | exact hc | simp_all) (OpenTo.refl _), zc1 rfl rfl⟩) ?_
      refine ahp 11 rfl rfl (by kernel_rfl) (by kernel_rfl) (zv rfl (.inr ⟨_, rfl, fun h => by simp_all⟩) (.inl rfl)) ?_
      refine ahp 12 rfl rfl (by kernel_rfl) (by kernel_rfl) (zaA rfl) ?_
      refine ahz (by kernel_rfl) ?_
      refine zi rfl (fun h9 => ?_) (fun h10 => ?_)
      ·try simp at h9
       refine za ?_
       refine das rfl ?_
       refine dn ?_
       refine zk ?_
       refine zF rfl ?_
       show HVal.int .i64 _ = _
       first
       | (rw [zaz, if_pos (by omega)]; done)
       | (rw [zaz, if_neg (by omega), hg]; rfl)
       | (refine congrArg _ (zbc (c := 5) (by omega) hg (by decide) ?_)
          rw [zab, if_pos]
          simp_all
          done)
       | (refine congrArg _ (zbc (c := 1) (by omega) hg (by decide) ?_)
          rw [zab, if_neg, if_pos]
          all_goals simp_all
          done)
       | (refine congrArg _ (zcY (by omega) hg ?_ ?_ ?_)
          ·rw [zab, if_neg, if_neg] <;> simp_all
          ·simp_all
          ·simp_all)
      ·try simp at h10
       refine zl ?_
       refine zG ?_
       refine zG ?_
       refine ze ?_
       refine zB ?_
       refine dq (zC rfl rfl (by omega) (by omega)) ?_
       refine dmv rfl ?_
       refine dn ?_
       refine ⟨k + 1, ?_, ?_, ⟨rfl, trivial⟩, (by repeat (first | exact zp | refine zt rfl ?_ | refine zq rfl rfl ?_)), List.Perm.refl _⟩
       ·refine ⟨by omega, ?_⟩
        rw [hg, zlF (by rw [zab, if_neg (by simp_all), if_neg (by simp_all)]) (by intro hk0; simp_all; try omega)]
       ·dsimp only; omega
   ·try simp at h4
    have hnk : m.length ≤ k := by omega
    obtain rfl : k = m.length := by omega
    rw [zap (Nat.le_refl _)] at hg
    refine zU ?_
    refine z6 ?_
    refine zas ?_
    refine zJ ?_
    refine ze ?_
    refine za ?_
    refine das rfl ?_
    refine dn ?_
    refine zk ?_
    refine zF rfl ?_
    show HVal.int .i64 _ = _
    first
    | (rw [zaz, if_pos (by omega)]; done)
    | (rw [zaz, if_neg (by omega), hg]; rfl)
    | (refine congrArg _ (zbc (c := 5) (by omega) hg (by decide) ?_)
       rw [zab, if_pos]
       simp_all
       done)
    | (refine congrArg _ (zbc (c := 1) (by omega) hg (by decide) ?_)
       rw [zab, if_neg, if_pos]
       all_goals simp_all
       done)
    | (refine congrArg _ (zcY (by omega) hg ?_ ?_ ?_)
       ·rw [zab, if_neg, if_neg] <;> simp_all
       ·simp_all
       ·simp_all)

/-- benchwarmer/play.mended$1 -/
theorem zm0 [Tracks] {s : StatS} {x : MendS}  : ConP Tryz.prog 103 [zaD s, .vptr (zh (zbi x)) 0] (.bool (s.Name == x.Stat)) := by
 refine Con.of_body Tryz.func103 rfl Tryz.ntmps103 rfl rfl ?_
 refine za ?_
 refine dq (zao rfl rfl) ?_
 refine das rfl ?_
 refine dn ?_
 refine za ?_
 refine dq (zb zam rfl ty9 (by decide) rfl) ?_
 refine dq (zc ty9 rfl rfl rfl) ?_
 refine dq (zb zQ rfl ty9 (by decide) rfl) ?_
 refine dq (zc ty9 rfl rfl rfl) ?_
 refine dq (zaY rfl rfl) ?_
 refine das rfl ?_
 refine dn ?_
 refine zk ?_
 refine zF rfl ?_
 rfl

set_option maxHeartbeats 2000000 in
/-- benchwarmer/play.mended -/
theorem zo0 [Tracks] {l : List LineS} {m : List MendS} {n : Int} (hl : l.length ≤ 1000) (hm : m.length ≤ 100) (hL : ∀ x ∈ l, x.Stats.length ≤ 1000) (hs : ∀ x ∈ l, (x.Stats.map (·.Name)).Nodup) (h40 : GLen 40 (zdX l m n)) : ConP Tryz.prog 62 [zcm l, zfH m, .int .i64 n] (.tup [zcm (mdL l m n), .int .i64 0]) := by
 refine Con.of_body Tryz.func62 rfl Tryz.ntmps62 rfl rfl ?_
 refine za ?_
 refine das rfl ?_
 refine das rfl ?_
 refine dn ?_
 refine za ?_
 refine de rfl (za1 fun m18 => ?_)
 refine das rfl ?_
 refine dn ?_
 refine zH (Ghost.of_eq (M' := [.map m18 (kk zeW (em fG ([] : GrV)))] ++ zer 2 zaD ([] : GrV)) rfl) ?_
 refine zf ?_
 refine za ?_
 refine dmv rfl ?_
 refine dq (zL zbl rfl) ?_
 refine dmv rfl ?_
 refine dn ?_
 refine zn ?_
 refine zaI [10, 21, 22, 23, 24, 25, 26, 27, 28, 29, 30, 31, 32, 33, 34] (fun (k : Nat) (G : GrV) => [(21, .int .i64 k)]) (fun (k : Nat) (G : GrV) => [.map m18 (kk zeW (em fG G))] ++ zer 2 zaD G) (fun (k : Nat) (G : GrV) => k ≤ l.length ∧ (ANodup G ∧ zeh G = zck (l.take k))) (fun (k : Nat) (G : GrV) => l.length - k) (0) ([]) ?_ ?_ ?_ ?_
 ·exact ⟨Nat.zero_le _, ANodup.nil, rfl⟩
 ·exact ⟨rfl, trivial⟩
 ·exact zS rfl
 ·intro k G hinv
  obtain ⟨hk, ⟨hn, hc⟩⟩ := hinv
  refine za ?_
  refine dq (zW rfl rfl) ?_
  refine dn ?_
  refine zf ?_
  refine zi rfl (fun h1 => ?_) (fun h2 => ?_)
  ·try simp at h1
   obtain ⟨x, hx⟩ : ∃ x, l[k]? = some x := ⟨_, List.getElem?_eq_getElem h1⟩
   have hdx := zX hx
   refine zl ?_
   refine ze ?_
   refine zf ?_
   refine zn ?_
   refine za ?_
   refine dq (zP zbl zag rfl rfl rfl (by first | assumption | simp_all)) ?_
   refine dq (zN zag rfl rfl rfl rfl) ?_
   refine de rfl (z8 zag rfl fun b10 => ?_)
   refine de0 (zae zag rfl rfl rfl rfl rfl ?_)
   refine dn ?_
   refine zH (Ghost.fc0 10 rfl) ?_
   refine zcQ (fun _ => True) [] mixed ?_
   refine ahp 0 rfl rfl (by kernel_rfl) (by kernel_rfl) (zd rfl) ?_
   refine ahp 1 rfl rfl (by kernel_rfl) (by kernel_rfl) ((by first | exact zb zag rfl ty9 (by decide) rfl | exact zg zag rfl ty9 (by decide) rfl)) ?_
   refine ahp 2 rfl rfl (by kernel_rfl) (by kernel_rfl) (zc ty9 rfl rfl rfl) ?_
   refine ahp 3 rfl rfl (by kernel_rfl) (by kernel_rfl) ((by first | exact zb zag rfl ty3 (by decide) rfl | exact zg zag rfl ty3 (by decide) rfl)) ?_
   refine ahp 4 rfl rfl (by kernel_rfl) (by kernel_rfl) (zc ty3 rfl rfl rfl) ?_
   refine ahp 5 rfl rfl (by kernel_rfl) (by kernel_rfl) (zaw (cs := [_, _]) zb7 zsH rfl) ?_
   refine ahp 6 rfl rfl (by kernel_rfl) (by kernel_rfl) ((by first | exact zb zag rfl zax (by decide) rfl | exact zg zag rfl zax (by decide) rfl)) ?_
   refine ahp 7 rfl rfl (by kernel_rfl) (by kernel_rfl) (zc zax rfl rfl rfl) ?_
   refine ahe 8 rfl (by kernel_rfl) ?_
   refine zau rfl (zfs zxM rfl (WeakL.refl _) (zff (l := x.Stats) (Nat.le_trans (hL x (List.mem_of_getElem? hx)) (by decide))) fun v33 => ?_)
   refine ⟨fun _ => .inl trivial, ?_⟩
   refine ahe 9 rfl (by kernel_rfl) ?_
   refine zaL (EOp.post_ghost (zdC (i := 1) (s := (x.Player, x.Week)) (f := fG) (L := G) (v := (v33, x.Stats)) zhD zrJ rfl rfl rfl rfl ⟨_, ztm (A := [.map m18 (kk zeW (em fG (zY (x.Player, x.Week) (v33, x.Stats) G)))]) (s := (x.Player, x.Week)) (v := v33) (l := x.Stats) hn, ?_⟩))
   refine ⟨fun _ => .inl trivial, ?_⟩
   refine ahz (by kernel_rfl) ?_
   refine zG ?_
   refine ze ?_
   refine zB ?_
   refine dq (zC rfl rfl (by omega) (by omega)) ?_
   refine dmv rfl ?_
   refine dn ?_
   exact ⟨k + 1, zY (x.Player, x.Week) (v33, x.Stats) G, ⟨by omega, hn.put, by rw [zlT, hc, zsB hx]⟩, by dsimp only; omega, ⟨rfl, trivial⟩, (by repeat (first | exact zp | refine zt rfl ?_ | refine zq rfl rfl ?_)), zS rfl⟩
  ·try simp at h2
   have hnk : l.length ≤ k := by omega
   obtain rfl : k = l.length := by omega
   rw [List.take_length] at hc
   refine zU ?_
   refine z6 ?_
   refine zaR ?_
   refine zJ ?_
   refine ze ?_
   refine zf ?_
   refine za ?_
   refine dmv rfl ?_
   refine dq (zL za2 rfl) ?_
   refine dmv rfl ?_
   refine dn ?_
   refine zn ?_
   refine zaI [12, 13, 14, 37, 38, 39, 40, 41, 42, 43, 44, 45, 46, 47, 48, 49, 50, 51, 52, 53, 54, 55, 56, 57, 58, 59, 60, 61, 62, 63, 64, 65, 66, 67, 68, 69] (fun (k : Nat) (G : GrV) => [(37, .int .i64 k)]) (fun (k : Nat) (G : GrV) => [.map m18 (kk zeW (em fG G))] ++ zer 2 zaD G) (fun (k : Nat) (G : GrV) => k ≤ m.length ∧ (ANodup G ∧ zeh G = zed (zck l) (m.take k) n)) (fun (k : Nat) (G : GrV) => m.length - k) (0) (G) ?_ ?_ ?_ ?_
   ·exact ⟨Nat.zero_le _, hn, hc⟩
   ·exact ⟨rfl, trivial⟩
   ·exact zS rfl
   ·intro k G hinv
    obtain ⟨hk, ⟨hn, hc⟩⟩ := hinv
    refine za ?_
    refine dq (zW rfl rfl) ?_
    refine dn ?_
    refine zf ?_
    refine zi rfl (fun h3 => ?_) (fun h4 => ?_)
    ·try simp at h3
     obtain ⟨x, hx⟩ : ∃ x, m[k]? = some x := ⟨_, List.getElem?_eq_getElem h3⟩
     have hdx := zX hx
     refine zl ?_
     refine ze ?_
     refine zf ?_
     refine zn ?_
     refine za ?_
     refine dq (zP za2 zQ rfl rfl rfl (by first | assumption | simp_all)) ?_
     refine dq (zN zQ rfl rfl rfl rfl) ?_
     refine de rfl (z8 zQ rfl fun b12 => ?_)
     refine de0 (zae zQ rfl rfl rfl rfl rfl ?_)
     refine dn ?_
     refine zH (Ghost.fc0 12 rfl) ?_
     refine zf ?_
     refine za ?_
     refine dq ((by first | exact zb zQ rfl ty3 (by decide) rfl | exact zg zQ rfl ty3 (by decide) rfl)) ?_
     refine dq (zc ty3 rfl rfl rfl) ?_
     refine dmv rfl ?_
     refine dq (zaf rfl rfl) ?_
     refine dn ?_
     refine zi rfl (fun h5 => ?_) (fun h6 => ?_)
     ·try simp at h5
      refine zU ?_
      refine z6 ?_
      refine zJ ?_
      refine ze ?_
      refine zB ?_
      refine dq (zC rfl rfl (by omega) (by omega)) ?_
      refine dmv rfl ?_
      refine dn ?_
      exact ⟨k + 1, G, ⟨by omega, hn, by rw [znW hx, zbq, if_pos (by omega)]; exact hc⟩, by dsimp only; omega, ⟨rfl, trivial⟩, (by repeat (first | exact zp | refine zt rfl ?_ | refine zq rfl rfl ?_)), zS rfl⟩
     ·try simp at h6
      refine zl ?_
      refine ze ?_
      refine za ?_
      refine dq ((by first | exact zb zQ rfl ty9 (by decide) rfl | exact zg zQ rfl ty9 (by decide) rfl)) ?_
      refine dq (zc ty9 rfl rfl rfl) ?_
      refine dq ((by first | exact zb zQ rfl ty3 (by decide) rfl | exact zg zQ rfl ty3 (by decide) rfl)) ?_
      refine dq (zc ty3 rfl rfl rfl) ?_
      refine dq (zaw (cs := [_, _]) zb7 zsH rfl) ?_
      refine de rfl (z8 zb7 rfl fun b13 => ?_)
      refine de0 (zae zb7 rfl rfl rfl rfl rfl ?_)
      refine dn ?_
      refine zH (Ghost.fc0 13 rfl) ?_
      have hgl := zvG (n := n) hL hm hc (x.Player, x.Week)
      refine zH (Ghost.grpK_take (A := [.map m18 (kk zeW (em fG G))]) (G := G) (G' := G) (s := (x.Player, x.Week)) hn rfl) ?_
      refine za ?_
      refine dmv rfl ?_
      refine dq (zN zb7 rfl rfl rfl rfl) ?_
      refine de rfl (zda (i := 1) (s := (x.Player, x.Week)) (z0 := gZ StatS) zhD zrJ zax rfl rfl rfl rfl ?_)
      refine dq (zcF rfl rfl) ?_
      refine de rfl (zo (i := 0) zxE rfl (WeakL.refl _) rfl (zek (l := gLK (x.Player, x.Week) G) (p := fun s => s.Name == x.Stat) zxQ (fun _ => zm0) (by omega)) ?_)
      rintro _ _ ⟨u54, rfl, rfl⟩
      refine das rfl ?_
      refine dn ?_
      refine zeb [14, 55, 56, 57, 58, 59, 60, 61, 62, 63, 64, 65] (fun (w : Value) => [(14, .raw w)]) (fun (w : Value) => .arr w 2 ((zcJ x (gLK (x.Player, x.Week) G)).map zaD) :: ([.map m18 (kk zeW (em fG G))] ++ zer 2 zaD (G.filter fun q => decide (q.1 ≠ (x.Player, x.Week))))) (fun (w : Value) => True) ?_ ?_
      ·skip
       refine za ?_
       refine dq ((by first | exact zb zQ rfl ty3 (by decide) rfl | exact zg zQ rfl ty3 (by decide) rfl)) ?_
       refine dq (zc ty3 rfl rfl rfl) ?_
       refine dq (zai rfl rfl) ?_
       refine dn ?_
       refine zi rfl (fun h7 => ?_) (fun h8 => ?_)
       ·try simp at h7
        refine zB ?_
        refine dmv rfl ?_
        refine dq ((by first | exact zb zQ rfl ty9 (by decide) rfl | exact zg zQ rfl ty9 (by decide) rfl)) ?_
        refine dq (zc ty9 rfl rfl rfl) ?_
        refine dq ((by first | exact zb zQ rfl ty3 (by decide) rfl | exact zg zQ rfl ty3 (by decide) rfl)) ?_
        refine dq (zc ty3 rfl rfl rfl) ?_
        refine dq (zaw (cs := [_, _]) zam zpb rfl) ?_
        refine dq (zw (hs := [_]) zax zam rfl rfl (by decide) (by decide) rfl) ?_
        refine de rfl (zan (i := 0) zax zam rfl rfl rfl rfl rfl (by simp [za5, zh]) (by have := zoh x (gLK (x.Player, x.Week) G); unfold zhW at this; simp only [List.length_map, List.length_cons, List.length_nil]; omega) fun v65 => ?_)
        refine das rfl ?_
        refine dn ?_
        exact ⟨v65, trivial, ⟨rfl, trivial⟩, (by repeat (first | exact zp | refine zt rfl ?_ | refine zq rfl rfl ?_)), zS (by rw [zcJ, if_pos (by assumption), List.map_append]; rfl)⟩
       ·try simp at h8
        refine zl ?_
        exact ⟨u54, trivial, ⟨rfl, trivial⟩, (by repeat (first | exact zp | refine zt rfl ?_ | refine zq rfl rfl ?_)), zS (by rw [zcJ, if_neg (by simp_all), List.append_nil]; rfl)⟩
      ·intro w _
       refine zB ?_
       refine dmv rfl ?_
       refine dq (zN zb7 rfl rfl rfl rfl) ?_
       refine dmv rfl ?_
       refine de0 (EOp.post_perm (zdC (i := 1) (s := (x.Player, x.Week)) (f := fG) (L := G) (v := (w, zcJ x (gLK (x.Player, x.Week) G))) zhD zrJ rfl rfl rfl rfl ⟨_, zqe (A := [.map m18 (kk zeW (em fG (zY (x.Player, x.Week) (w, zcJ x (gLK (x.Player, x.Week) G)) G)))]) (s := (x.Player, x.Week)) (v := w) (l := zcJ x (gLK (x.Player, x.Week) G)) hn, ?_⟩))
       refine dn ?_
       refine zG ?_
       refine ze ?_
       refine zB ?_
       refine dq (zC rfl rfl (by omega) (by omega)) ?_
       refine dmv rfl ?_
       refine dn ?_
       exact ⟨k + 1, zY (x.Player, x.Week) (w, zcJ x (gLK (x.Player, x.Week) G)) G, ⟨by omega, hn.put, by rw [znW hx, ← hc, ztL (n := n) (by omega)]⟩, by dsimp only; omega, ⟨rfl, trivial⟩, (by repeat (first | exact zp | refine zt rfl ?_ | refine zq rfl rfl ?_)), zS rfl⟩
    ·try simp at h4
     have hnk : m.length ≤ k := by omega
     obtain rfl : k = m.length := by omega
     rw [List.take_length] at hc
     refine zU ?_
     refine z6 ?_
     refine zaR ?_
     refine zJ ?_
     refine ze ?_
     refine zf ?_
     have hGl := zvY hl hm hc
     have hkl : (kk zeW (em fG G)).length = G.length := by simp [kk]
     refine za ?_
     refine dmv rfl ?_
     first
     | refine de rfl (zcw (i := 0) zhD rfl rfl ?_)
     | refine de rfl (zcw (i := 1) zhD rfl rfl ?_)
     | refine de rfl (zcw (i := 2) zhD rfl rfl ?_)
     | refine de rfl (zcw (i := 3) zhD rfl rfl ?_)
     refine dq (zaf rfl rfl) ?_
     refine dn ?_
     refine zi rfl (fun h9 => ?_) (fun h9 => ?_)
     ·exfalso
      try simp at h9
      omega
     ·try simp at h9
      refine zl ?_
      refine ze ?_
      refine za ?_
      refine das rfl ?_
      refine dn ?_
      refine zH (Ghost.arr_nil 3) ?_
      refine zf ?_
      refine za ?_
      refine dmv rfl ?_
      refine de rfl (zfp (i := 1) zhD rfl rfl fun r => ?_)
      refine dn ?_
      refine zn ?_
      refine zdO [6, 7, 15, 16, 17, 75, 76, 77, 78, 79, 80, 81, 82, 83, 84, 85, 86, 87, 88, 89, 90, 91, 92, 93] (fun (vis : List Nat) (E : List (Plc × (Value × List StatS))) (u : Value) => [(15, .raw u)]) (fun (vis : List Nat) (E : List (Plc × (Value × List StatS))) (u : Value) => [.arr u 3 ((E.map zjd).map zaK), .iter r m18 (kk zeW (em fG G)) vis] ++ zer 2 zaD (zej G (E.map (·.1)))) (fun (vis : List Nat) (E : List (Plc × (Value × List StatS))) (u : Value) => VisOk (G) vis E ∧ (True)) (fun (vis : List Nat) (E : List (Plc × (Value × List StatS))) (u : Value) => (G).length - vis.length) ([]) ([]) (.slice none 0 0) ?_ ?_ ?_ ?_
      ·exact ⟨VisOk.nil _, trivial⟩
      ·exact ⟨rfl, trivial⟩
      ·exact zS (by simp only [List.map_nil, ztK]; rfl)
      ·intro vis E u hinv
       obtain ⟨hvis, -⟩ := hinv
       refine za ?_
       refine de rfl (zfm (i := 1) (L := G) (enc := (fun p : Plc × (Value × List StatS) => (zeW p.1, fG p.2))) rfl rfl (zhT _ _ _) hvis.nd hvis.lt fun cb R vis' hnx => ?_)
       refine dq (zx rfl rfl) ?_
       refine dn ?_
       refine zf ?_
       refine zi rfl (fun h10 => ?_) (fun h11 => ?_)
       ·try simp at h10
        obtain ⟨j, q, hq, hj, rfl⟩ := hnx.t h10
        have hroom := hvis.room hq hj
        have hstep := hvis.step hq hj
        have hqm := List.mem_of_getElem? hq
        refine zl ?_
        refine ze ?_
        refine zn ?_
        refine za ?_
        refine de rfl (zeL (i := 1) (L := G) (enc := (fun p : Plc × (Value × List StatS) => (zeW p.1, fG p.2))) rfl rfl (zhT _ _ _) hq ?_)
        refine dq (zx rfl rfl) ?_
        refine dq (zx rfl rfl) ?_
        refine de rfl (z8 zb7 rfl fun b16 => ?_)
        refine de0 (zae zb7 rfl rfl rfl rfl rfl ?_)
        refine das rfl ?_
        refine dn ?_
        refine zH (Ghost.fc0 16 rfl) ?_
        have hqa : alk q.1 G = some q.2 := (zcg hn).1 hqm
        have hqx : q.1 ∉ E.map (·.1) := zcM.1 (hvis.fresh hn hq hj)
        obtain ⟨gv1, gl1⟩ := zyc hqa
        have hq40 := zwv h40 hc hqm
        have hqn := zxx hs hc hqm
        refine zH (Ghost.grpK_take (A := [.arr u 3 ((E.map zjd).map zaK), .iter r m18 (kk zeW (em fG G)) (vis ++ [j])]) (G := zej G (E.map (·.1))) (G' := G) (s := q.1) (zqK hn) (ztV hqx)) ?_
        rw [zr7, gv1, gl1]
        refine zf ?_
        refine za ?_
        refine dmv rfl ?_
        refine de rfl (zbj (i := 0) (es := q.2.2) zax rfl rfl ?_)
        refine dq (zaf rfl rfl) ?_
        refine dn ?_
        refine zi rfl (fun h12 => ?_) (fun h12 => ?_)
        ·exfalso
         try simp at h12
         omega
        ·try simp at h12
         refine zl ?_
         refine ze ?_
         refine za ?_
         refine dmv rfl ?_
         refine de rfl (za0 (M1 := [.arr q.2.1 2 (q.2.2.map zaD)]) (R := _) zr3 rfl (WeakL.refl _) (List.Perm.refl _) (zij (c := za9) (zga zbT) zvo (fun _ _ => @zjG zdg _ _) (l := q.2.2) (by omega)) ?_)
         rintro _ _ ⟨l', rfl, hp', hw', rfl⟩
         obtain rfl := zqx hqn hp' hw'
         refine dn ?_
         refine zH (Ghost.fa 17 (i := 0) rfl rfl) ?_
         refine zB ?_
         refine dmv rfl ?_
         refine dq ((by first | exact zb zb7 rfl ty9 (by decide) rfl | exact zg zb7 rfl ty9 (by decide) rfl)) ?_
         refine dq (zc ty9 rfl rfl rfl) ?_
         refine dq ((by first | exact zb zb7 rfl ty3 (by decide) rfl | exact zg zb7 rfl ty3 (by decide) rfl)) ?_
         refine dq (zc ty3 rfl rfl rfl) ?_
         refine dmv rfl ?_
         refine dq (zaw (cs := [_, _, _]) zag zpt rfl) ?_
         refine dq (zw (hs := [_]) zbl zag rfl rfl (by decide) (by decide) rfl) ?_
         refine de rfl (zan (i := 0) zbl zag rfl rfl rfl rfl rfl (by simp [za5, zh]) (by have := hvis.len; simp only [List.length_map, List.length_cons, List.length_nil]; omega) fun v93 => ?_)
         refine das rfl ?_
         refine dn ?_
         refine zG ?_
         exact ⟨_, E ++ [q], v93, ⟨hstep, trivial⟩, by dsimp only; rw [List.length_append]; simp only [List.length_cons, List.length_nil]; omega, ⟨rfl, trivial⟩, (by repeat (first | exact zp | refine zt rfl ?_ | refine zq rfl rfl ?_)), zS (by dsimp only; simp only [List.map_append, List.map_cons, List.map_nil]; rfl)⟩
       ·try simp at h11
        obtain ⟨rfl, hlen⟩ := hnx.f h11
        have hEp := hvis.done hlen
        refine zU ?_
        refine z6 ?_
        refine zeH ?_
        refine zJ ?_
        refine ze ?_
        have hr0 : zej G (E.map (·.1)) = [] := ztX (fun q hq => List.mem_map_of_mem (hEp.mem_iff.2 hq))
        rw [hr0]
        refine zH (Ghost.iterOver (i := 1) rfl) ?_
        refine zH (Ghost.of_eq (M' := [.arr u 3 ((E.map zjd).map zaK), .map m18 (kk zeW (em fG G))]) rfl) ?_
        refine za ?_
        refine dmv rfl ?_
        refine de rfl (za0 (M1 := [.arr u 3 ((E.map zjd).map zaK)]) (R := [.map m18 (kk zeW (em fG G))]) zvh rfl (WeakL.refl _) (List.Perm.refl _) (zln (c := zcS) (zga zey) zxy (fun _ _ => @zoL zdg _ _) (l := E.map zjd) (by have := hEp.length_eq; simp only [List.length_map]; omega)) ?_)
        rintro _ _ ⟨l', rfl, hp', hw', rfl⟩
        obtain rfl := zwP hc hEp hp' hw'
        refine dn ?_
        refine zH (Ghost.only (i := 0) rfl) ?_
        refine za ?_
        refine dmv rfl ?_
        refine das rfl ?_
        refine das rfl ?_
        refine dn ?_
        refine zk ?_
        exact zkr (M := []) 6 rfl rfl rfl

/-- benchwarmer/play.counts -/
theorem zjH [Tracks] {l : List LineS} (hl : l.length ≤ 1000) (hL : ∀ x ∈ l, x.Stats.length ≤ 1000) : Con Tryz.prog 108 [zcm l] [] (fun x M' => ∃ b, x = .raw (.map (some b)) ∧ M' = [.map b (kk zbQ (em (HVal.int .i64) (cnL l)))]) := by
 refine Con.of_body Tryz.func108 rfl Tryz.ntmps108 rfl rfl ?_
 refine za ?_
 refine das rfl ?_
 refine dn ?_
 refine za ?_
 refine de rfl (za1 fun m8 => ?_)
 refine das rfl ?_
 refine dn ?_
 refine zf ?_
 refine za ?_
 refine dmv rfl ?_
 refine dq (zL zbl rfl) ?_
 refine dmv rfl ?_
 refine dn ?_
 refine zn ?_
 refine zak [5, 7, 11, 12, 13, 14, 15, 16, 17, 18, 19, 20, 21, 22, 23, 24, 25, 26, 27, 28, 29, 30, 31, 32, 33, 34] (fun (k : Nat) => [(11, .int .i64 k)]) (fun (k : Nat) => [.map m8 (kk zbQ (em (HVal.int .i64) (cnL (l.take k))))]) (fun (k : Nat) => k ≤ l.length ∧ (True)) (fun (k : Nat) => l.length - k) (0) ?_ ?_ ?_ ?_
 ·exact ⟨Nat.zero_le _, trivial⟩
 ·exact ⟨rfl, trivial⟩
 ·exact zS rfl
 ·intro k hinv
  obtain ⟨hk, -⟩ := hinv
  refine za ?_
  refine dq (zW rfl rfl) ?_
  refine dn ?_
  refine zf ?_
  refine zi rfl (fun h1 => ?_) (fun h2 => ?_)
  ·try simp at h1
   obtain ⟨x, hx⟩ : ∃ x, l[k]? = some x := ⟨_, List.getElem?_eq_getElem h1⟩
   have hdx := zX hx
   have hsl := hL x (List.mem_of_getElem? hx)
   refine zl ?_
   refine ze ?_
   refine zf ?_
   refine zn ?_
   refine za ?_
   refine dq (zP zbl zag rfl rfl rfl (by first | assumption | simp_all)) ?_
   refine dq (zN zag rfl rfl rfl rfl) ?_
   refine de rfl (z8 zag rfl fun b5 => ?_)
   refine de0 (zae zag rfl rfl rfl rfl rfl ?_)
   refine dn ?_
   refine zH (Ghost.fc0 5 rfl) ?_
   refine za ?_
   refine dq (zb zag rfl zax (by decide) rfl) ?_
   refine dq (zc zax rfl rfl rfl) ?_
   refine dq (zL zax rfl) ?_
   refine dmv rfl ?_
   refine dn ?_
   refine zn ?_
   refine zak [7, 18, 19, 20, 21, 22, 23, 24, 25, 26, 27, 28, 29, 30, 31, 32, 33] (fun (j : Nat) => [(18, .int .i64 j)]) (fun (j : Nat) => [.map m8 (kk zbQ (em (HVal.int .i64) (zfN x (cnL (l.take k)) (x.Stats.take j))))]) (fun (j : Nat) => j ≤ x.Stats.length ∧ (True)) (fun (j : Nat) => x.Stats.length - j) (0) ?_ ?_ ?_ ?_
   ·exact ⟨Nat.zero_le _, trivial⟩
   ·exact ⟨rfl, trivial⟩
   ·exact zS rfl
   ·intro j hinv
    obtain ⟨hj, -⟩ := hinv
    refine za ?_
    refine dq (zW rfl rfl) ?_
    refine dn ?_
    refine zf ?_
    refine zi rfl (fun h3 => ?_) (fun h4 => ?_)
    ·try simp at h3
     obtain ⟨s, hs⟩ : ∃ s, x.Stats[j]? = some s := ⟨_, List.getElem?_eq_getElem h3⟩
     have hds := zX hs
     refine zl ?_
     refine ze ?_
     refine zf ?_
     refine zn ?_
     refine za ?_
     refine dq (zP zax zam rfl rfl rfl (by first | assumption | simp_all)) ?_
     refine dq (zN zam rfl rfl rfl rfl) ?_
     refine de rfl (z8 zam rfl fun b7 => ?_)
     refine de0 (zae zam rfl rfl rfl rfl rfl ?_)
     refine dn ?_
     refine zH (Ghost.fc0 7 rfl) ?_
     refine zB ?_
     refine dmv rfl ?_
     refine dq (zb zag rfl ty9 (by decide) rfl) ?_
     refine dq (zc ty9 rfl rfl rfl) ?_
     refine dq (zb zag rfl ty3 (by decide) rfl) ?_
     refine dq (zc ty3 rfl rfl rfl) ?_
     refine dq (zaw (cs := [_, _]) zb7 zsH rfl) ?_
     refine dq (zb zam rfl ty9 (by decide) rfl) ?_
     refine dq (zc ty9 rfl rfl rfl) ?_
     refine dq (zaw (cs := [_, _, _]) zdo zxD rfl) ?_
     refine dq (zb zam rfl ty3 (by decide) rfl) ?_
     refine dq (zc ty3 rfl rfl rfl) ?_
     refine de0 (zdC (i := 0) (s := (x.Player, x.Week, s.Name)) (v := s.Count) zh0 zkS rfl rfl rfl rfl ?_)
     refine dn ?_
     refine zG ?_
     refine ze ?_
     refine zB ?_
     refine dq (zC rfl rfl (by omega) (by omega)) ?_
     refine dmv rfl ?_
     refine dn ?_
     exact ⟨j + 1, ⟨by omega, trivial⟩, by dsimp only; omega, ⟨rfl, trivial⟩, (by repeat (first | exact zp | refine zt rfl ?_ | refine zq rfl rfl ?_)), zS (by dsimp only; rw [zsl hs]; rfl)⟩
    ·try simp at h4
     have hnj : x.Stats.length ≤ j := by omega
     obtain rfl : j = x.Stats.length := by omega
     rw [List.take_length]
     refine zU ?_
     refine z6 ?_
     refine zas ?_
     refine zJ ?_
     refine zG ?_
     refine ze ?_
     refine zB ?_
     refine dq (zC rfl rfl (by omega) (by omega)) ?_
     refine dmv rfl ?_
     refine dn ?_
     exact ⟨k + 1, ⟨by omega, trivial⟩, by dsimp only; omega, ⟨rfl, trivial⟩, (by repeat (first | exact zp | refine zt rfl ?_ | refine zq rfl rfl ?_)), zS (by dsimp only; rw [zug hx])⟩
  ·try simp at h2
   have hnk : l.length ≤ k := by omega
   obtain rfl : k = l.length := by omega
   rw [List.take_length]
   refine zU ?_
   refine z6 ?_
   refine zas ?_
   refine zJ ?_
   refine ze ?_
   refine za ?_
   refine dmv rfl ?_
   refine das rfl ?_
   refine dn ?_
   refine zk ?_
   exact zaO rfl ⟨_, rfl, rfl⟩

theorem znJ [Tracks] {b : Nat} {l : List (HVal × HVal)} : Con Tryz.prog 109 [.raw (.map (some b))] [.map b l] fun x M' => ∃ b', x = .raw (.map (some b')) ∧ M' = [.map b' l, .map b l] :=
 zts Tryz.g109

/-- maps.Copy[map[benchwarmer/play.count]int,map[benchwarmer/play.count]int,benchwarmer/play.count,int] -/
theorem zoR [Tracks] {bd bs : Nat} {D0 S : List (Cnt × Int)} (hS : S.length ≤ 1000000) : Con Tryz.prog 110 [.raw (.map (some bd)), .raw (.map (some bs))] [.map bd (kk zbQ (em (HVal.int .i64) D0)), .map bs (kk zbQ (em (HVal.int .i64) S))] (fun x M' => ∃ E, x = .tup [] ∧ E.Perm S ∧ M' = [.map bd (kk zbQ (em (HVal.int .i64) (zci D0 E))), .map bs (kk zbQ (em (HVal.int .i64) S))]) := by
 refine Con.of_body Tryz.func110 rfl Tryz.ntmps110 rfl rfl ?_
 refine za ?_
 refine dmv rfl ?_
 refine de rfl (zfp (i := 1) zh0 rfl rfl fun r => ?_)
 refine dn ?_
 refine zn ?_
 refine zaI [4, 5, 8, 9, 10, 11, 12, 13, 14, 15] (fun (vis : List Nat) (E : List (Cnt × Int)) => []) (fun (vis : List Nat) (E : List (Cnt × Int)) => [.map bd (kk zbQ (em (HVal.int .i64) (zci D0 E))), .iter r bs (kk zbQ (em (HVal.int .i64) S)) vis]) (fun (vis : List Nat) (E : List (Cnt × Int)) => VisOk (S) vis E ∧ (True)) (fun (vis : List Nat) (E : List (Cnt × Int)) => (S).length - vis.length) ([]) ([]) ?_ ?_ ?_ ?_
 ·exact ⟨VisOk.nil _, trivial⟩
 ·exact trivial
 ·exact zS rfl
 ·intro vis E hinv
  obtain ⟨hvis, -⟩ := hinv
  refine za ?_
  refine de rfl (zfm (i := 1) (L := S) (enc := (fun p : Cnt × Int => (zbQ p.1, HVal.int .i64 p.2))) rfl rfl (zhT _ _ _) hvis.nd hvis.lt fun cb R vis' hnx => ?_)
  refine dq (zx rfl rfl) ?_
  refine dn ?_
  refine zf ?_
  refine zi rfl (fun h1 => ?_) (fun h2 => ?_)
  ·try simp at h1
   obtain ⟨j, q, hq, hj, rfl⟩ := hnx.t h1
   have hroom := hvis.room hq hj
   have hstep := hvis.step hq hj
   have hqm := List.mem_of_getElem? hq
   refine zl ?_
   refine ze ?_
   refine zn ?_
   refine za ?_
   refine de rfl (zeL (i := 1) (L := S) (enc := (fun p : Cnt × Int => (zbQ p.1, HVal.int .i64 p.2))) rfl rfl (zhT _ _ _) hq ?_)
   refine dq (zx rfl rfl) ?_
   refine dq (zx rfl rfl) ?_
   refine de rfl (z8 zdo rfl fun b4 => ?_)
   refine de0 (zae zdo rfl rfl rfl rfl rfl ?_)
   refine das rfl ?_
   refine dn ?_
   refine zH (Ghost.fc0 4 rfl) ?_
   refine zB ?_
   refine dmv rfl ?_
   refine dq (zN zdo rfl rfl rfl rfl) ?_
   refine dmv rfl ?_
   refine de0 (zdC (i := 0) (s := q.1) (v := q.2) zh0 zkS rfl rfl rfl rfl ?_)
   refine dn ?_
   refine zG ?_
   exact ⟨_, E ++ [q], ⟨hstep, trivial⟩, by dsimp only; rw [List.length_append]; simp only [List.length_cons, List.length_nil]; omega, trivial, (by repeat (first | exact zp | refine zt rfl ?_ | refine zq rfl rfl ?_)), zS (by dsimp only; rw [zs4]; rfl)⟩
  ·try simp at h2
   obtain ⟨rfl, hlen⟩ := hnx.f h2
   have hEp := hvis.done hlen
   refine zU ?_
   refine z6 ?_
   refine zaR ?_
   refine zJ ?_
   exact zat (Ghost.iterOver (i := 1) rfl) rfl ⟨E, rfl, hEp, rfl⟩

set_option maxHeartbeats 2000000 in
/-- benchwarmer/play.differ -/
theorem zoZ [Tracks] {a b : List LineS} (hla : a.length ≤ 1000) (hLa : ∀ x ∈ a, x.Stats.length ≤ 100) (hlb : b.length ≤ 1000) (hLb : ∀ x ∈ b, x.Stats.length ≤ 100) : ConP Tryz.prog 63 [zcm a, zcm b] (zcN (dfL a b)) := by
 have hka := zi9 hLa
 have hkb := zi9 hLb
 refine Con.of_body Tryz.func63 rfl Tryz.ntmps63 rfl rfl ?_
 refine za ?_
 refine das rfl ?_
 refine dn ?_
 refine za ?_
 refine dmv rfl ?_
 refine de rfl (za0 (M1 := []) (R := []) zvi rfl (WeakL.refl _) (List.Perm.refl _) (zjH (l := a) hla (fun x hx => Nat.le_trans (hLa x hx) (by decide))) ?_)
 rintro _ _ ⟨b11, rfl, rfl⟩
 refine dmv rfl ?_
 refine de rfl (za0 (M1 := []) (R := [.map b11 (kk zbQ (em (HVal.int .i64) (cnL a)))]) zvi rfl (WeakL.refl _) (List.Perm.refl _) (zjH (l := b) hlb (fun x hx => Nat.le_trans (hLb x hx) (by decide))) ?_)
 rintro _ _ ⟨b13, rfl, rfl⟩
 refine das rfl ?_
 refine das rfl ?_
 refine dn ?_
 refine za ?_
 refine dmv rfl ?_
 refine de rfl (za0 (M1 := [.map b11 (kk zbQ (em (HVal.int .i64) (cnL a)))]) (R := [.map b13 (kk zbQ (em (HVal.int .i64) (cnL b)))]) zxZ rfl (WeakL.refl _) (List.Perm.swap _ _ _) znJ ?_)
 rintro _ _ ⟨b15, rfl, rfl⟩
 refine das rfl ?_
 refine dn ?_
 refine za ?_
 refine dmv rfl ?_
 refine dmv rfl ?_
 refine de rfl (za0 (M1 := [.map b15 (kk zbQ (em (HVal.int .i64) (cnL a))), .map b13 (kk zbQ (em (HVal.int .i64) (cnL b)))]) (R := [.map b11 (kk zbQ (em (HVal.int .i64) (cnL a)))]) zxj rfl (WeakL.refl _) (List.Perm.cons _ (List.Perm.swap _ _ _)) (zoR (D0 := cnL a) (S := cnL b) (by omega)) ?_)
 rintro _ _ ⟨E0, rfl, hE0, rfl⟩
 refine dn ?_
 have hDl := zjy E0 (cnL a)
 have hE0l := hE0.length_eq
 generalize hD : zci (cnL a) E0 = D at hDl ⊢
 refine za ?_
 refine das rfl ?_
 refine dn ?_
 refine zH (Ghost.arr_nil 5) ?_
 refine zf ?_
 refine za ?_
 refine dmv rfl ?_
 refine de rfl (zfp (i := 1) zh0 rfl rfl fun r => ?_)
 refine dn ?_
 refine zn ?_
 refine zdO [8, 9, 21, 22, 23, 24, 25, 26, 27, 28, 29, 30, 31, 32, 33, 34, 35, 36, 37, 38, 39, 40, 41, 42, 43, 44, 45, 46, 47, 48, 49] (fun (vis : List Nat) (E : List (Cnt × Int)) (u : Value) => [(8, .raw u)]) (fun (vis : List Nat) (E : List (Cnt × Int)) (u : Value) => [.arr u 5 (((E.map (·.1)).filterMap (dfT a b)).map zaH), .iter r b15 (kk zbQ (em (HVal.int .i64) D)) vis, .map b13 (kk zbQ (em (HVal.int .i64) (cnL b))), .map b11 (kk zbQ (em (HVal.int .i64) (cnL a)))]) (fun (vis : List Nat) (E : List (Cnt × Int)) (u : Value) => VisOk (D) vis E ∧ (True)) (fun (vis : List Nat) (E : List (Cnt × Int)) (u : Value) => (D).length - vis.length) ([]) ([]) (.slice none 0 0) ?_ ?_ ?_ ?_
 ·exact ⟨VisOk.nil _, trivial⟩
 ·exact ⟨rfl, trivial⟩
 ·exact zS rfl
 ·intro vis E u hinv
  obtain ⟨hvis, -⟩ := hinv
  refine za ?_
  refine de rfl (zfm (i := 1) (L := D) (enc := (fun p : Cnt × Int => (zbQ p.1, HVal.int .i64 p.2))) rfl rfl (zhT _ _ _) hvis.nd hvis.lt fun cb R vis' hnx => ?_)
  refine dq (zx rfl rfl) ?_
  refine dn ?_
  refine zf ?_
  refine zi rfl (fun h1 => ?_) (fun h2 => ?_)
  ·try simp at h1
   obtain ⟨j, q, hq, hj, rfl⟩ := hnx.t h1
   have hroom := hvis.room hq hj
   have hstep := hvis.step hq hj
   have hqm := List.mem_of_getElem? hq
   refine zl ?_
   refine ze ?_
   refine zn ?_
   refine za ?_
   refine de rfl (zeL (i := 1) (L := D) (enc := (fun p : Cnt × Int => (zbQ p.1, HVal.int .i64 p.2))) rfl rfl (zhT _ _ _) hq ?_)
   refine dq (zx rfl rfl) ?_
   refine de rfl (z8 zdo rfl fun b9 => ?_)
   refine de0 (zae zdo rfl rfl rfl rfl rfl ?_)
   refine dn ?_
   refine zH (Ghost.fc0 9 rfl) ?_
   refine zaM (fun M => M = [.arr u 5 (((E.map (·.1)).filterMap (dfT a b)).map zaH), .iter r b15 (kk zbQ (em (HVal.int .i64) D)) (vis ++ [j]), .map b13 (kk zbQ (em (HVal.int .i64) (cnL b))), .map b11 (kk zbQ (em (HVal.int .i64) (cnL a)))]) [2, 5] mixed ?_
   refine ahp 0 rfl rfl (by kernel_rfl) (by kernel_rfl) (zd rfl) ?_
   refine ahp 1 rfl rfl (by kernel_rfl) (by kernel_rfl) (zN zdo rfl rfl rfl rfl) ?_
   refine ahl 2 rfl rfl (by kernel_rfl) (by kernel_rfl) (by simp) rfl (fun M hM => by
   subst hM
   exact zda (i := 3) (s := q.1) (z0 := (0 : Int)) (f := (HVal.int .i64)) zh0 zkS ty3 rfl rfl rfl rfl ⟨rfl, rfl⟩) ?_
   refine ahp 3 rfl rfl (by kernel_rfl) (by kernel_rfl) (zd rfl) ?_
   refine ahp 4 rfl rfl (by kernel_rfl) (by kernel_rfl) (zN zdo rfl rfl rfl rfl) ?_
   refine ahl 5 rfl rfl (by kernel_rfl) (by kernel_rfl) (by simp) rfl (fun M hM => by
   subst hM
   exact zda (i := 2) (s := q.1) (z0 := (0 : Int)) (f := (HVal.int .i64)) zh0 zkS ty3 rfl rfl rfl rfl ⟨rfl, rfl⟩) ?_
   refine ahp 6 rfl rfl (by kernel_rfl) (by kernel_rfl) (zai rfl rfl) ?_
   refine ahz (by kernel_rfl) ?_
   refine zi rfl (fun h3 => ?_) (fun h4 => ?_)
   ·try simp at h3
    refine zcQ (fun M => ∃ a0 : MObj, M = [a0, .iter r b15 (kk zbQ (em (HVal.int .i64) D)) (vis ++ [j]), .map b13 (kk zbQ (em (HVal.int .i64) (cnL b))), .map b11 (kk zbQ (em (HVal.int .i64) (cnL a)))]) [11, 14] mixed ?_
    refine ahp 0 rfl rfl (by kernel_rfl) (by kernel_rfl) (zd rfl) ?_
    refine ahp 1 rfl rfl (by kernel_rfl) (by kernel_rfl) ((by first | exact zb zdo rfl zb7 (by decide) rfl | exact zg zdo rfl zb7 (by decide) rfl)) ?_
    refine ahp 2 rfl rfl (by kernel_rfl) (by kernel_rfl) ((by first | exact zb zb7 rfl ty9 (by decide) rfl | exact zg zb7 rfl ty9 (by decide) rfl)) ?_
    refine ahp 3 rfl rfl (by kernel_rfl) (by kernel_rfl) (zc ty9 rfl rfl rfl) ?_
    refine ahp 4 rfl rfl (by kernel_rfl) (by kernel_rfl) ((by first | exact zb zdo rfl zb7 (by decide) rfl | exact zg zdo rfl zb7 (by decide) rfl)) ?_
    refine ahp 5 rfl rfl (by kernel_rfl) (by kernel_rfl) ((by first | exact zb zb7 rfl ty3 (by decide) rfl | exact zg zb7 rfl ty3 (by decide) rfl)) ?_
    refine ahp 6 rfl rfl (by kernel_rfl) (by kernel_rfl) (zc ty3 rfl rfl rfl) ?_
    refine ahp 7 rfl rfl (by kernel_rfl) (by kernel_rfl) ((by first | exact zb zdo rfl ty9 (by decide) rfl | exact zg zdo rfl ty9 (by decide) rfl)) ?_
    refine ahp 8 rfl rfl (by kernel_rfl) (by kernel_rfl) (zc ty9 rfl rfl rfl) ?_
    refine ahp 9 rfl rfl (by kernel_rfl) (by kernel_rfl) (zd rfl) ?_
    refine ahp 10 rfl rfl (by kernel_rfl) (by kernel_rfl) (zN zdo rfl rfl rfl rfl) ?_
    refine ahl 11 rfl rfl (by kernel_rfl) (by kernel_rfl) (by simp) ⟨_, rfl⟩ (fun M hM => by
   obtain ⟨a0, rfl⟩ := hM
   exact zda (i := 3) (s := q.1) (z0 := (0 : Int)) (f := (HVal.int .i64)) zh0 zkS ty3 rfl rfl rfl rfl ⟨rfl, rfl⟩) ?_
    refine ahp 12 rfl rfl (by kernel_rfl) (by kernel_rfl) (zd rfl) ?_
    refine ahp 13 rfl rfl (by kernel_rfl) (by kernel_rfl) (zN zdo rfl rfl rfl rfl) ?_
    refine ahl 14 rfl rfl (by kernel_rfl) (by kernel_rfl) (by simp) ⟨_, rfl⟩ (fun M hM => by
   obtain ⟨a0, rfl⟩ := hM
   exact zda (i := 2) (s := q.1) (z0 := (0 : Int)) (f := (HVal.int .i64)) zh0 zkS ty3 rfl rfl rfl rfl ⟨rfl, rfl⟩) ?_
    refine ahp 15 rfl rfl (by kernel_rfl) (by kernel_rfl) (zaw (cs := [_, _, _, _, _]) zbE pl56 rfl) ?_
    refine ahp 16 rfl rfl (by kernel_rfl) (by kernel_rfl) (zw (hs := [_]) zhh zbE rfl rfl (by decide) (by decide) rfl) ?_
    refine ahe 17 rfl (by kernel_rfl) ?_
    refine zau rfl (zan (i := 0) zhh zbE rfl rfl rfl rfl rfl (by simp [za5, zh]) (by have h8 := znf a b E; have h9 := hvis.len; simp only [List.length_map, List.length_cons, List.length_nil]; omega) fun v49 => ?_)
    refine ⟨fun _ => .inl ⟨_, rfl⟩, ?_⟩
    refine ahp 18 rfl rfl (by kernel_rfl) (by kernel_rfl) (zaA rfl) ?_
    refine ahz (by kernel_rfl) ?_
    refine zG ?_
    exact ⟨_, E ++ [q], v49, ⟨hstep, trivial⟩, by dsimp only; rw [List.length_append]; simp only [List.length_cons, List.length_nil]; omega, ⟨rfl, trivial⟩, (by repeat (first | exact zp | refine zt rfl ?_ | refine zq rfl rfl ?_)), zS (by dsimp only; rw [zpP, zvB (by assumption)]; simp only [Option.toList, List.map_append, List.map_cons, List.map_nil, List.append_nil]; rfl)⟩
   ·try simp at h4
    refine zl ?_
    refine zG ?_
    exact ⟨_, E ++ [q], u, ⟨hstep, trivial⟩, by dsimp only; rw [List.length_append]; simp only [List.length_cons, List.length_nil]; omega, ⟨rfl, trivial⟩, (by repeat (first | exact zp | refine zt rfl ?_ | refine zq rfl rfl ?_)), zS (by dsimp only; rw [zpP, zwM (by assumption)]; simp only [Option.toList, List.map_append, List.map_cons, List.map_nil, List.append_nil]; rfl)⟩
  ·try simp at h2
   obtain ⟨rfl, hlen⟩ := hnx.f h2
   have hEp := hvis.done hlen
   refine zU ?_
   refine z6 ?_
   refine zeH ?_
   refine zJ ?_
   refine ze ?_
   refine zH (Ghost.iterOver (i := 1) rfl) ?_
   refine zH (Ghost.of_eq (M' := [.arr u 5 (((E.map (·.1)).filterMap (dfT a b)).map zaH), .map b15 (kk zbQ (em (HVal.int .i64) D)), .map b13 (kk zbQ (em (HVal.int .i64) (cnL b))), .map b11 (kk zbQ (em (HVal.int .i64) (cnL a)))]) rfl) ?_
   refine za ?_
   refine dmv rfl ?_
   refine de rfl (za0 (M1 := [.arr u 5 (((E.map (·.1)).filterMap (dfT a b)).map zaH)]) (R := _) zvs rfl (WeakL.refl _) (List.Perm.refl _) (zjK (c := zgF) (zga zlC) zxG (fun _ _ => @zm2 zdg _ _) (l := ((E.map (·.1)).filterMap (dfT a b))) (by have := znf a b E; have := hEp.length_eq; omega)) ?_)
   rintro _ _ ⟨l', rfl, hp', hw', rfl⟩
   obtain rfl := zsR ((hEp.map _).trans (by rw [← hD]; exact ztw (znS a) hE0)) hp' hw'
   refine dn ?_
   refine zH (Ghost.only (i := 0) rfl) ?_
   refine za ?_
   refine dmv rfl ?_
   refine das rfl ?_
   refine dn ?_
   refine zk ?_
   exact zkr (M := []) 4 rfl rfl rfl
end
section
open Go.HL

end
section
open Go.HL

end
section
open Go.HL

end
end Go.Proofs.YtjecenjmphpmfaaGreatDoor
namespace Go.HL
section

end
section
open Op (bytesLess)
abbrev zmV : Pick := ⟨0, [], [], 0, false⟩
theorem ztC {α : Type} {R : α → α → Prop} : ∀ {l : List α}, l.Pairwise R → ∀ x ∈ l, ∀ y ∈ l, x = y ∨ R x y ∨ R y x
 | [], _, x, hx, _, _ => by simp at hx
 | a :: l, h, x, hx, y, hy => by
   obtain ⟨h1, h2⟩ := List.pairwise_cons.1 h
   rcases List.mem_cons.1 hx with e | hx' <;> rcases List.mem_cons.1 hy with e' | hy'
   ·exact .inl (e.trans e'.symm)
   ·exact .inr (.inl (e ▸ h1 y hy'))
   ·exact .inr (.inr (e' ▸ h1 x hx'))
   ·exact ztC h2 x hx' y hy'
/-! keeps that are right -/
def kLt (a b : Keep) : Prop := bytesLess a.Team b.Team = true ∨ (a.Team = b.Team ∧ a.Round < b.Round)
structure KeepsOk (r : Room) (k : List Keep) : Prop where
 all : ∀ x ∈ k, x.Team ∈ r.Teams ∧ x.Player ∈ r.Players ∧ 1 ≤ x.Round ∧ x.Round ≤ r.Rounds
 lt : k.Pairwise kLt
theorem zjZ {l : List Str} : ∀ (r : List Str) (k : Nat), zf2 l k r = 0 → ∀ s ∈ r, key s = true
 | [], _, _, s, hs => by simp at hs
 | x :: r, k, h, s, hs => by
   simp only [zf2] at h
   split at h
   ·omega
   ·rename_i h1
    split at h
    ·omega
    ·rcases List.mem_cons.1 hs with rfl | hs
     ·simpa using h1
     ·exact zjZ r (k + 1) h s hs
structure RoomOk (r : Room) : Prop where
 sorted : SortedS r.Players
 t20 : r.Teams.length ≤ 20
 t0 : 0 < r.Teams.length
 r1 : 1 ≤ r.Rounds
 r30 : r.Rounds ≤ 30
 p500 : r.Players.length ≤ 500
 ne : ∀ s ∈ r.Players, s ≠ []
 many : (r.Teams.length : Int) * r.Rounds ≤ r.Players.length
 clock : 1000 ≤ r.Clock ∧ r.Clock ≤ 86400000
 start : zba r.Start = true
theorem zwf {r : Room} (h : zcD r = 0) : RoomOk r := by
 obtain ⟨a1, a2, a3, a4, a5, a6⟩ := zqj h
 unfold zcD at h
 split at h
 ·rename_i hc; simp [h] at hc
 ·split at h
  ·omega
  ·split at h
   ·omega
   ·split at h
    ·rename_i hc; simp [h] at hc
    ·rename_i hp
     split at h
     ·omega
     ·rename_i hcl
      split at h
      ·omega
      ·rename_i hm
       simp at hcl hp
       refine ⟨a1, a2, a3, a4, a5, a6, fun s hs e => ?_, by omega, zdw hcl.1, hcl.2⟩
       unfold zeD at hp
       split at hp
       ·omega
       ·have := zjZ _ 0 hp s hs
        subst e; simp [key, zgO] at this
def zuW (t : Turn) (x : Keep) : Bool := decide (x.Team = t.of ∧ x.Round = t.round)
theorem zna (r : Room) (t : Turn) : ∀ (k : List Keep) (p : Pick), (zjT r t p k).No = p.No ∧ (zjT r t p k).Team = p.Team
 | [], p => ⟨rfl, rfl⟩
 | x :: k, p => by
   obtain ⟨h1, h2⟩ := zna r t k (if x.Team = t.of ∧ x.Round = t.round then { p with Player := x.Player, At := r.Start } else p)
   simp only [zjT]; rw [h1, h2]
   split <;> exact ⟨rfl, rfl⟩
theorem KeepsOk.one {r : Room} {k : List Keep} (h : KeepsOk r k) {t : Turn} {x y : Keep} (hx : x ∈ k) (hy : y ∈ k) (fx : zuW t x = true) (fy : zuW t y = true) : y = x := by
 simp [zuW] at fx fy
 rcases ztC h.lt x hx y hy with e | e | e
 ·exact e.symm
 ·exfalso
  rcases e with e | ⟨e1, e2⟩
  ·rw [fx.1, fy.1, zbt] at e; cases e
  ·omega
 ·exfalso
  rcases e with e | ⟨e1, e2⟩
  ·rw [fx.1, fy.1, zbt] at e; cases e
  ·omega
def zgh (r : Room) (k : List Keep) (s : List Swap) : List Pick := (zkL r k s).filter fun p => p.Player == []
def zkX (k : List Keep) (l : List Pick) (s : Str) : Bool := k.any (fun x => x.Player == s) || l.any (fun p => p.Player == s)
end
section
def zwF (r : Room) (l : List Pick) : Int := match l.getLast? with | some p => p.At | none => r.Start
def pkF (r : Room) (k : List Keep) (fr l : List Pick) (p : Pick) : Int :=
 if !(zba p.At) then 1 else if !(p.No == (fr.getD l.length zmV).No) then 7 else if !(p.Team == (fr.getD l.length zmV).Team) then 13
 else if !(r.Players.contains p.Player) then 8 else if zkX k l p.Player then 6 else if p.At < zwF r l then 11 else 0
def zgZ (r : Room) (k : List Keep) (fr l : List Pick) : Nat → List Pick → Int
 | _, [] => 0
 | i, p :: t => if pkF r k fr (l.take i) p != 0 then pkF r k fr (l.take i) p else zgZ r k fr l (i + 1) t
def pksR (r : Room) (k : List Keep) (s : List Swap) (l : List Pick) : Int := if (zgh r k s).length < l.length then 2 else zgZ r k (zgh r k s) l 0 l
def zme (r : Room) (k : List Keep) (s : List Swap) (l : List Pick) : Int := if zgm r k s != 0 then zgm r k s else pksR r k s l
theorem zwC {r : Room} {k : List Keep} {fr l : List Pick} {i : Nat} {p : Pick} {t : List Pick} (h : pkF r k fr (l.take i) p ≠ 0) : zgZ r k fr l i (p :: t) = pkF r k fr (l.take i) p := by
 rw [zgZ, if_pos (by simpa using h)]
theorem zxN {r : Room} {k : List Keep} {fr l : List Pick} {i : Nat} {p : Pick} {t : List Pick} (h : pkF r k fr (l.take i) p = 0) : zgZ r k fr l i (p :: t) = zgZ r k fr l (i + 1) t := by
 rw [zgZ, if_neg (by simp [h])]
section
variable {r : Room} {k : List Keep} {fr l : List Pick} {p : Pick}
theorem zwG (h : pkF r k fr l p = 0) : zba p.At = true ∧ p.No = (fr.getD l.length zmV).No ∧ p.Team = (fr.getD l.length zmV).Team ∧ p.Player ∈ r.Players ∧ zkX k l p.Player = false := by
 unfold pkF at h
 split at h
 ·omega
 ·rename_i h1
  split at h
  ·omega
  ·rename_i h2
   split at h
   ·omega
   ·rename_i h3
    split at h
    ·omega
    ·rename_i h4
     split at h
     ·omega
     ·rename_i h5
      simp at h1 h2 h3 h4 h5
      exact ⟨h1, h2, h3, h4, h5⟩
end
theorem zs5 {r : Room} {k : List Keep} {s : List Swap} {l : List Pick} (h : zme r k s l = 0) : zgm r k s = 0 ∧ l.length ≤ (zgh r k s).length ∧ zgZ r k (zgh r k s) l 0 l = 0 := by
 unfold zme at h
 split at h
 ·rename_i hc; simp [h] at hc
 ·rename_i hc
  unfold pksR at h
  split at h
  ·omega
  ·exact ⟨by simpa using hc, by omega, h⟩
theorem zpZ {r : Room} {k : List Keep} {fr l : List Pick} : ∀ (t : List Pick) (i : Nat), l.drop i = t → zgZ r k fr l i t = 0 → ∀ (j : Nat) (p : Pick), i ≤ j → l[j]? = some p → pkF r k fr (l.take j) p = 0
 | [], i, hd, _, j, p, hj, hp => by
   have := zK hp
   have h2 : l.length ≤ i := by rw [← List.drop_eq_nil_iff]; exact hd
   omega
 | x :: t, i, hd, h, j, p, hj, hp => by
   have hk : l[i]? = some x := by
    have := congrArg (fun q => q[0]?) hd
    simpa using this
   have hd' : l.drop (i + 1) = t := by
    have := zX hk
    rw [hd] at this; simp at this; exact this.symm
   by_cases e : pkF r k fr (l.take i) x = 0
   ·rw [zxN e] at h
    by_cases hij : i = j
    ·subst hij; rw [hk] at hp; cases hp; exact e
    ·exact zpZ t (i + 1) hd' h j p (by omega) hp
   ·rw [zwC e] at h; exact absurd h e
structure Wish where
 Team : Str
 Players : List Str
theorem zrT (k : List Keep) (l : List Pick) (p : Pick) (s : Str) : zkX k (l ++ [p]) s = (zkX k l s || p.Player == s) := by
 simp [zkX, Bool.or_assoc]
/-! what a run holds -/
structure RunOk (r : Room) (k : List Keep) (s : List Swap) (l : List Pick) (S : List Str) : Prop where
 gone : ∀ x ∈ r.Players, S.contains x = zkX k l x
theorem RunOk.add {r : Room} {k : List Keep} {s : List Swap} {l : List Pick} {S : List Str} (ok : RunOk r k s l S) (p : Pick) : RunOk r k s (l ++ [p]) (zbR p.Player S) :=
 ⟨fun x hx => by rw [zrT, zjC, ok.gone x hx]⟩
end
section
section
variable {r : Room} {w : List Wish} {k : Nat} {x : Wish} {t : List Wish}
end
end
end Go.HL
namespace Go.Proofs.YtjecenjmphpmfaaGreatDoor
set_option maxRecDepth 100000
set_option linter.unusedVariables false
set_option linter.unusedSimpArgs false
section
open Go.HL

end
section
open Go.HL

end
section
open Go.HL
/-- strconv.Itoa of any number -/
theorem zeq [Tracks] {n : Int} (h0 : -9223372036854775808 ≤ n) (h1 : n ≤ 9223372036854775807) : ConP Tryz.prog 30 [.int .i64 n] (.str (Lib.itoa n)) :=
 zsO (by kernel_rfl) fun w ht => Any.strconv_Itoa Tryz.laysm171 n h0 h1 w ht
end
section
open Go.HL

end
section
open Go.HL

end
section
open Go.HL

end
section
open Go.HL
set_option maxHeartbeats 2000000 in
/-- (*benchwarmer/benchmake.Stream).Order -/
theorem zg7 [Tracks] {b : Nat} {l : List Int} {a : Nat} {n : Nat} (ha : a ≤ 800000) (hn1 : 1 ≤ n) (hn2 : n ≤ 1000) : Con Tryz.prog 47 [pAt b, .int .i64 (n : Int)] [St b l a] (fun x M' => ∃ (L : List Int) (a' : Nat), x = .slice 1 (L.map (.int .i64)) ∧ (L.length = n ∧ ∀ i ∈ L, (0 : Int) ≤ i ∧ i < n) ∧ a' ≤ a + n ∧ M' = [St b l a']) := by
 refine Con.of_body Tryz.func47 rfl Tryz.ntmps47 rfl rfl ?_
 refine za ?_
 refine das rfl ?_
 refine dn ?_
 refine za ?_
 refine das rfl ?_
 refine dn ?_
 refine zH (Ghost.arr_nil 1) ?_
 refine zf ?_
 refine za ?_
 refine dmv rfl ?_
 refine dmv rfl ?_
 refine dn ?_
 refine zn ?_
 refine zdO [5, 6, 10, 11, 12, 13, 14, 15, 16, 17] (fun (k : Nat) (u : Value) (L : List Int) => [(10, .int .i64 (k : Int)), (5, .raw u)]) (fun (k : Nat) (u : Value) (L : List Int) => [.arr u 1 (L.map (HVal.int .i64)), St b l a]) (fun (k : Nat) (u : Value) (L : List Int) => k ≤ n ∧ L.length = k ∧ ∀ i ∈ L, (0 : Int) ≤ i ∧ i < n) (fun (k : Nat) (u : Value) (L : List Int) => n - k) (0) (.slice none 0 0) ([]) ?_ ?_ ?_ ?_
 ·exact ⟨by omega, rfl, by simp⟩
 ·exact ⟨rfl, rfl, trivial⟩
 ·exact zS rfl
 ·intro k u L hinv
  obtain ⟨hk, hL, hLb⟩ := hinv
  refine za ?_
  refine dq (zW rfl rfl) ?_
  refine dn ?_
  refine zf ?_
  refine zi rfl (fun h1 => ?_) (fun h2 => ?_)
  ·try simp at h1
   have hkn : k < n := by omega
   refine zl ?_
   refine ze ?_
   refine zf ?_
   refine zn ?_
   refine za ?_
   refine dmv rfl ?_
   refine das rfl ?_
   refine dn ?_
   refine zB ?_
   refine dmv rfl ?_
   refine dmv rfl ?_
   refine dq (zw (hs := [_]) zaq ty3 rfl rfl (by decide) (by decide) rfl) ?_
   refine de rfl (zan (i := 0) zaq ty3 rfl rfl rfl rfl rfl (by simp [za5, zh]) (by simp; omega) fun v16 => ?_)
   refine das rfl ?_
   refine dn ?_
   refine zG ?_
   refine ze ?_
   refine zB ?_
   refine dq (zC rfl rfl (by omega) (by omega)) ?_
   refine dmv rfl ?_
   refine dn ?_
   exact ⟨k + 1, v16, L ++ [(k : Int)], ⟨by omega, by simp [hL], fun i hi => by rcases List.mem_append.1 hi with h | h; exact hLb i h; (simp at h; omega)⟩, by dsimp only; omega, ⟨rfl, rfl, trivial⟩, (by repeat (first | exact zp | refine zt rfl ?_ | refine zq rfl rfl ?_)), zS (by simp)⟩
  ·try simp at h2
   obtain rfl : n = k := by omega
   refine zU ?_
   refine z6 ?_
   refine zeH ?_
   refine zJ ?_
   refine ze ?_
   refine zf ?_
   refine zH (Ghost.perm (M' := [St b l a, .arr u 1 (L.map (.int .i64))]) (by repeat (first | exact List.Perm.nil | refine zI 0 rfl ?_ | refine zI 1 rfl ?_ | refine zI 2 rfl ?_ | refine zI 3 rfl ?_ | (refine zD 0 rfl ?hq ?_; (case hq => simp [zO, zh]; done)) | (refine zD 1 rfl ?hq ?_; (case hq => simp [zO, zh]; done)) | (refine zD 2 rfl ?hq ?_; (case hq => simp [zO, zh]; done)) | (refine zD 3 rfl ?hq ?_; (case hq => simp [zO, zh]; done)) | fail))) ?_
   refine zfu (i := 1) rfl (fun h0 he => ?_) (fun ob off cap hv hcap => ?_)
   ·exfalso; have := congrArg List.length he; simp at this; subst this; simp at hL; omega
   rw [List.length_map, hL] at hv hcap
   subst hv
   refine za ?_
   refine dmv rfl ?_
   refine dq (zbd rfl rfl (by omega) (by omega)) ?_
   refine das rfl ?_
   refine dn ?_
   refine zn ?_
   refine zdO [7, 8, 20, 21, 22, 23, 24, 25, 26, 27, 28, 29, 30, 31, 32, 33, 34, 35, 36, 37, 38, 39, 40, 41] (fun (m : Nat) (L : List Int) (a2 : Nat) => [(7, .int .i64 (m : Int))]) (fun (m : Nat) (L : List Int) (a2 : Nat) => [St b l a2, .arr (.slice (some ⟨ob, off, none⟩) n cap) 1 (L.map (HVal.int .i64))]) (fun (m : Nat) (L : List Int) (a2 : Nat) => m < n ∧ (L.length = n ∧ ∀ i ∈ L, (0 : Int) ≤ i ∧ i < n) ∧ a2 + m ≤ a + n) (fun (m : Nat) (L : List Int) (a2 : Nat) => m) (n - 1) (L) (a) ?_ ?_ ?_ ?_
   ·exact ⟨by omega, ⟨hL, hLb⟩, by omega⟩
   ·exact ⟨zbp (by omega), trivial⟩
   ·exact List.Perm.refl _
   ·intro m L a2 hinv
    obtain ⟨hm, ⟨hL, hLb⟩, ha2⟩ := hinv
    refine zf ?_
    refine za ?_
    refine dmv rfl ?_
    refine dq (zaf rfl rfl) ?_
    refine dn ?_
    refine zi rfl (fun h3 => ?_) (fun h4 => ?_)
    ·try simp at h3
     have hm0 : 0 < m := by omega
     refine zl ?_
     refine ze ?_
     refine zf ?_
     refine zn ?_
     refine za ?_
     refine dmv rfl ?_
     refine dmv rfl ?_
     refine dq (zC rfl rfl (by omega) (by omega)) ?_
     refine de rfl (zo (i := 0) zcV rfl (WeakL.refl _) rfl (zV (by omega) (by omega)) ?_)
     rintro _ _ ⟨y27, rfl, hy27, rfl⟩
     refine das rfl ?_
     refine dn ?_
     obtain ⟨z1, hz1⟩ : ∃ z, L[y27]? = some z := ⟨_, List.getElem?_eq_getElem (by omega)⟩
     obtain ⟨z2, hz2⟩ : ∃ z, L[m]? = some z := ⟨_, List.getElem?_eq_getElem (by omega)⟩
     obtain ⟨z3, hz3⟩ : ∃ z, (L.set m z1)[y27]? = some z := ⟨_, List.getElem?_eq_getElem (by simp; omega)⟩
     refine zcQ (fun M => ∃ i : Nat, M[i]? = some (.arr (.slice (some ⟨ob, off, none⟩) n cap) 1 (L.map (HVal.int .i64)))) [7, 11] mixed ?_
     refine ahp 0 rfl rfl (by kernel_rfl) (by kernel_rfl) (zd rfl) ?_
     refine ahp 1 rfl rfl (by kernel_rfl) (by kernel_rfl) (zd rfl) ?_
     refine ahp 2 rfl rfl (by kernel_rfl) (by kernel_rfl) (zd rfl) ?_
     refine ahp 3 rfl rfl (by kernel_rfl) (by kernel_rfl) (zd rfl) ?_
     refine ahp 4 rfl rfl (by kernel_rfl) (by kernel_rfl) (zd rfl) ?_
     refine ahp 5 rfl rfl (by kernel_rfl) (by kernel_rfl) (zd rfl) ?_
     refine ahp 6 rfl rfl (by kernel_rfl) (by kernel_rfl) (zbL (j := y27) zaq ty3 rfl rfl rfl (by omega)) ?_
     refine ahl 7 rfl rfl (by kernel_rfl) (by kernel_rfl) (by simp) (⟨1, rfl⟩) (fun M hM => by obtain ⟨i, hi⟩ := hM; exact zbf (i := i) (j := y27) 0 ty3 rfl (by omega) hi hz1 rfl rfl ⟨rfl, rfl⟩) ?_
     refine ahp 8 rfl rfl (by kernel_rfl) (by kernel_rfl) (zd rfl) ?_
     refine ahp 9 rfl rfl (by kernel_rfl) (by kernel_rfl) (zd rfl) ?_
     refine ahp 10 rfl rfl (by kernel_rfl) (by kernel_rfl) (zbL (j := m) zaq ty3 rfl rfl rfl (by omega)) ?_
     refine ahl 11 rfl rfl (by kernel_rfl) (by kernel_rfl) (by simp) (⟨1, rfl⟩) (fun M hM => by obtain ⟨i, hi⟩ := hM; exact zbf (i := i) (j := m) 0 ty3 rfl (by omega) hi hz2 rfl rfl ⟨rfl, rfl⟩) ?_
     refine ahp 12 rfl rfl (by kernel_rfl) (by kernel_rfl) (zbL (j := m) zaq ty3 rfl rfl rfl (by omega)) ?_
     refine ahe 13 rfl (by kernel_rfl) ?_
     refine zaL (ze2 (i := 1) (f := HVal.int .i64) (es := L) (j := m) (y := z2) (y' := z1) ty3 rfl rfl rfl rfl hz2 rfl rfl rfl ?_)
     refine ⟨fun _ => .inr (by simp [zaT, Region.binds]), ?_⟩
     refine ahp 14 rfl rfl (by kernel_rfl) (by kernel_rfl) (zbL (j := y27) zaq ty3 rfl rfl rfl (by omega)) ?_
     refine ahe 15 rfl (by kernel_rfl) ?_
     refine zaL (ze2 (i := 1) (f := HVal.int .i64) (es := L.set m z1) (j := y27) (y := z3) (y' := z2) ty3 rfl rfl rfl rfl hz3 rfl rfl rfl ?_)
     refine ⟨fun _ => .inr (by simp [zaT, Region.binds]), ?_⟩
     refine ahz (by kernel_rfl) ?_
     refine zG ?_
     refine ze ?_
     refine zB ?_
     refine dmv rfl ?_
     refine dq (zbd rfl rfl (by omega) (by omega)) ?_
     refine das rfl ?_
     refine dn ?_
     exact ⟨m - 1, (L.set m z1).set y27 z2, a2 + 1, ⟨by omega, ⟨by simp [hL], zf4 (P := fun i : Int => 0 ≤ i ∧ i < n) (zf4 (P := fun i : Int => 0 ≤ i ∧ i < n) hLb (hLb z1 (List.mem_of_getElem? hz1))) (hLb z2 (List.mem_of_getElem? hz2))⟩, by omega⟩, by dsimp only; omega, ⟨zbp (by omega), trivial⟩, (by repeat (first | exact zp | refine zt rfl ?_ | refine zq rfl rfl ?_)), zS (by simp [List.map_set])⟩
    ·try simp at h4
     refine zU ?_
     refine z6 ?_
     refine zeH ?_
     refine zJ ?_
     refine ze ?_
     refine za ?_
     refine dmv rfl ?_
     refine das rfl ?_
     refine dn ?_
     refine zk ?_
     refine zat (Ghost.fa 4 (i := 1) rfl rfl) rfl ⟨L, a2, rfl, ⟨hL, hLb⟩, by omega, rfl⟩
end
section
open Go.HL

end
end Go.Proofs.YtjecenjmphpmfaaGreatDoor
namespace Go.HL
section
section
variable {κ : Type}
/-- A value that is a map, or none. -/
abbrev fM (o : Option Nat) : HVal := .raw (.map o)
/-- The zbs maps by the outer key: block and entries. -/
abbrev GrM (κ : Type) := List (Str × (Nat × List (κ × Int)))
def zcR (G : GrM κ) : List (Str × Option Nat) := G.map fun p => (p.1, some p.2.1)
def grm (ek : κ → HVal) (G : GrM κ) : List MObj := G.map fun p => .map p.2.1 (kk ek (em (HVal.int .i64) p.2.2))
theorem zgx {s : Str} : ∀ {G : GrM κ}, alk s (zcR G) = (alk s G).map fun q => some q.1
 | [] => rfl
 | p :: r => by
   have ih := zgx (s := s) (G := r)
   simp only [zcR, List.map_cons, alk] at ih ⊢
   by_cases h : s = p.1
   ·rw [if_pos h, if_pos h]; rfl
   ·rw [if_neg h, if_neg h]; exact ih
theorem zn7 {s : Str} {b : Nat} {L : List (κ × Int)} : ∀ {G : GrM κ}, zY s (some b) (zcR G) = zcR (zY s (b, L) G)
 | [] => rfl
 | p :: r => by
   have ih := zn7 (s := s) (b := b) (L := L) (G := r)
   simp only [zcR, List.map_cons, zY] at ih ⊢
   by_cases h : s = p.1
   ·rw [if_pos h, if_pos h]; rfl
   ·rw [if_neg h, if_neg h, List.map_cons, ih]
/-- Where the block stays the outer map stays. -/
theorem zmg {s : Str} {b : Nat} {L L' : List (κ × Int)} : ∀ {G : GrM κ}, alk s G = some (b, L) → zcR (zY s (b, L') G) = zcR G
 | [], h => by simp [alk] at h
 | p :: r, h => by
   simp only [alk] at h
   by_cases hs : s = p.1
   ·rw [if_pos hs] at h
    simp only [Option.some.injEq] at h
    simp only [zY, if_pos hs, zcR, List.map_cons]
    rw [h, hs]
   ·rw [if_neg hs] at h
    have ih := zmg (L' := L') h
    simp only [zY, if_neg hs, zcR, List.map_cons] at ih ⊢
    rw [ih]
theorem zlh {α : Type} {s : Str} {v : α} : ∀ {G : List (Str × α)}, ANodup G → (zY s v G).Perm ((s, v) :: G.filter fun q => decide (q.1 ≠ s))
 | [], _ => by simp [zY]
 | p :: r, hn => by
   have h1 := List.nodup_cons.1 hn
   simp only [zY]
   by_cases hs : s = p.1
   ·rw [if_pos hs]
    have h2 : alk s r = none := by rw [zcM, hs]; exact h1.1
    rw [List.filter_cons, if_neg (by simp [hs]), zct h2]
   ·rw [if_neg hs, List.filter_cons, if_pos (by simp; exact fun e => hs e.symm)]
    exact (List.Perm.cons p (zlh h1.2)).trans (List.Perm.swap _ _ _)
/-- One zbs map is taken to the head. -/
theorem zlS {ek : κ → HVal} {A : List MObj} {G : GrM κ} {s : Str} {b : Nat} {L : List (κ × Int)} (hn : ANodup G) (hq : alk s G = some (b, L)) : (A ++ grm ek G).Perm (.map b (kk ek (em (HVal.int .i64) L)) :: (A ++ grm ek (G.filter fun q => decide (q.1 ≠ s)))) := by
 have h := ((zdF hn hq).map fun p => MObj.map p.2.1 (kk ek (em (HVal.int .i64) p.2.2))).append_left A
 refine h.trans ?_
 simp only [List.map_cons, grm]
 exact List.perm_middle
/-- And put back, with other entries; or a new one is put. -/
theorem zq9 {ek : κ → HVal} {A : List MObj} {G : GrM κ} {s : Str} {b : Nat} {L : List (κ × Int)} (hn : ANodup G) : (.map b (kk ek (em (HVal.int .i64) L)) :: (A ++ grm ek (G.filter fun q => decide (q.1 ≠ s)))).Perm (A ++ grm ek (zY s (b, L) G)) := by
 have h := ((zlh (s := s) (v := (b, L)) hn).map fun p => MObj.map p.2.1 (kk ek (em (HVal.int .i64) p.2.2))).append_left A
 refine List.Perm.symm (h.trans ?_)
 simp only [List.map_cons, grm]
 exact List.perm_middle
theorem zvC {ek : κ → HVal} {A : List MObj} {G : GrM κ} {s : Str} {b : Nat} {L : List (κ × Int)} (hn : ANodup G) (hq : alk s G = none) : (.map b (kk ek (em (HVal.int .i64) L)) :: (A ++ grm ek G)).Perm (A ++ grm ek (zY s (b, L) G)) := by
 have h := zq9 (ek := ek) (A := A) (s := s) (b := b) (L := L) hn
 rw [zct hq] at h
 exact h
end
end
section
section
variable {P : Program} {e : Env} {dst : Option Tmp} {ty : TypeId} {pos : String} {af : Array Edge} {g : Option (Nat × Bool)} {M : List MObj} {K : HVal → List MObj → Prop}
theorem zl0 {t k el : TypeId} (hu : P.underlying t = some (.map k el)) (a : Option Nat) (w : World) : (Op.equal t (.map a) (.map none)).run P w = .ok a.isNone w := by
 have h : ∀ d, (Op.equalIn (d + 1) t (.map a) (.map none)).run P w = .ok a.isNone w := fun d => by
  cases a <;> simp only [Op.equalIn, Sem.run_bind, run_underlying hu, Result.andThen_ok, Sem.run_pure, Option.isNone]
 exact h 9999
theorem zsa [Tracks] {x y : Operand} {t t' k el : TypeId} {size bytes : Nat} {zero : Value} {o : Option Nat} (hf : Fits P t (.map k el) size bytes zero) (hx : zA e x = some (.raw (.map o))) (hy : zA e y = some (.raw (.map none))) :
 POp P e ⟨dst, .binOp .eql t x y t', ty, pos, af, g⟩ (.bool o.isNone) :=
 POp.of_val fun I a w ho => by
  have h1 := (ho.one (x := x) (by simp [Op.operands]) hx).raw_inv
  have h2 := (ho.one (x := y) (by simp [Op.operands]) hy).raw_inv
  refine ⟨_, ?_, .bool _⟩
  simp [execOp, h1, h2, eqGuard, binOp, zl0 hf.mapD]
/-! arrays of two scalars -/
end
end
section
variable {P : Program}
open Go.Sort Go.Proofs
theorem zmp [Tracks] {I : Imm} {F : List MObj} {w : World} {b off n cap : Nat} {l : List Int} (h : Sat P I (.arr (.slice (some ⟨b, off, none⟩) n cap) 1 (l.map (.int .i64)) :: F) w) :
 Holds (Value.int .i64) w b off l.toArray ∧ b < w.heap.size ∧ l.length ≤ cap ∧ n = l.length := by
 obtain ⟨h0, rc, el, fr, h2, h3, h4, h5, h6, h7⟩ := zfj h
 simp only [List.length_map] at h0 h5
 refine ⟨fun j hj => ?_, ?_, h5.1, h0⟩
 ·have hj' : j < l.length := by simpa using hj
  have hlt : off + j < rc.size := by omega
  constructor
  ·rw [zcH h2, Array.getElem?_eq_getElem hlt]
   have hv := h7 j 0 (.int .i64 l[j]) (.int .i64 l[j]) rc[off + j] (by simp [hj']) (by simp [zh]) (by simp [Array.getElem?_eq_getElem hlt])
   rw [hv.int_inv]
   simp [hj']
  ·simp only [World.frozen?, h2]
   have := h3 (off + j) hlt
   simpa using this
 ·rcases Nat.lt_or_ge b w.heap.size with h' | h'
  ·exact h'
  ·simp [Array.getElem?_eq_none h'] at h2
theorem zqv [Tracks] {I : Imm} {F : List MObj} {w : World} {b off n cap n' k : Nat} {os : Array Obj} {l zs : List Int} (h : Sat P I (.arr (.slice (some ⟨b, off, none⟩) n cap) 1 (l.map (.int .i64)) :: F) w) (hz : zs.length = l.length) (hn : n' ≤ l.length) :
 Sat P I (.arr (.slice (some ⟨b, off, none⟩) n' cap) 1 ((zs.take n').map (.int .i64)) :: F) (grow (putRow (Value.int .i64) (Sort.ahead w k) b off zs.toArray) os) := by
 obtain ⟨h0, rc, el, fr, h2, h3, h4, h5, h6, h7⟩ := zfj h
 simp only [List.length_map] at h0 h5
 have hlt : b < w.heap.size := by
  rcases Nat.lt_or_ge b w.heap.size with h' | h'
  ·exact h'
  ·simp [Array.getElem?_eq_none h'] at h2
 have hheap : ∀ c, c < w.heap.size → (grow (putRow (Value.int .i64) (Sort.ahead w k) b off zs.toArray) os).heap[c]? = (w.heap.modify b (onCells (putCells (Value.int .i64) off zs.toArray)))[c]? := fun c hc => by
  simp only [grow, putRow, mapBlock, Sort.ahead]
  rw [Array.getElem?_append_left (by simpa using hc)]
 refine h.change (m' := .arr (.slice (some ⟨b, off, none⟩) n' cap) 1 ((zs.take n').map (.int .i64))) (fun c hc hnc => ?_) (fun c hc => .inl hc) (by simp [MObj.blocks]) ?_ rfl rfl rfl
 ·rw [hheap c hc, Array.getElem?_modify]
  have : b ≠ c := fun hh => hnc (by subst hh; simp [MObj.blocks])
  rw [if_neg this]
 ·refine .inr ⟨b, off, cap, putCells (Value.int .i64) off zs.toArray rc, el, fr, ?_, ?_, ?_, ?_, ?_, ?_, ?_⟩
  ·simp [hz, Nat.min_eq_left hn]
  ·rw [hheap b hlt, Array.getElem?_modify, if_pos rfl, h2]; rfl
  ·simpa [putCells] using h3
  ·intro e he; obtain ⟨a, _, rfl⟩ := List.mem_map.1 he; simp [zh]
  ·simp; omega
  ·simpa [putCells] using h6
  ·intro i j e c v a1 a2 a3
   have hi : i < n' := by
    have := zK a1; simp at this; omega
   rw [List.getElem?_map, List.getElem?_take_of_lt hi] at a1
   cases hq : zs[i]? with
   | none => rw [hq] at a1; simp at a1
   | some s =>
     rw [hq] at a1; simp at a1; subst a1
     have hj : j = 0 := by have := zK a2; simp [zh] at this; omega
     subst hj
     simp [zh] at a2; subst a2
     have hil : i < zs.length := zK hq
     have hr : off + i * 1 + 0 < rc.size := by omega
     rw [putCells, Array.getElem?_mapIdx, Array.getElem?_eq_getElem hr, Option.map_some, if_pos ⟨by omega, by simp; omega⟩] at a3
     have e1 : off + i * 1 + 0 - off = i := by omega
     rw [e1] at a3
     have e2 : zs.toArray[i]! = s := by
      rw [getElem!_pos zs.toArray i (by simpa using hil)]
      have := List.getElem?_eq_getElem hil
      rw [hq] at this; simpa using (Option.some.inj this).symm
     rw [e2] at a3
     cases a3
     exact .int _ s

/-- A function that works on a slice of numbers in place and hands on nothing. -/
theorem zuw [Tracks] {P : Program} {f : FuncId} {l zs : List Int} {v : Value} (hz : zs.length = l.length)
 (h1 : ∀ (b off cap : Nat) (w : World), Holds (Value.int .i64) w b off l.toArray → b < w.heap.size → l.length ≤ cap → Calls P f #[.slice (some ⟨b, off, none⟩) l.length cap] w fun e w' => e = .returned (.tuple #[]) ∧ ∃ n os, w' = grow (putRow (Value.int .i64) (Sort.ahead w n) b off zs.toArray) os)
 (h0 : l = [] → ConP P f [.slice 1 []] (.tup [])) : Con P f [.raw v] [.arr v 1 (l.map (.int .i64))] fun x M' => x = .tup [] ∧ M' = [.arr v 1 (zs.map (.int .i64))] := by
 intro I F w args ha hs
 obtain ⟨u, rfl, hu⟩ := ha.one
 obtain rfl : u = v := hu.raw_inv
 rcases hs.obj (.arr u 1 (l.map (.int .i64))) (by simp) with ⟨rfl, hn⟩ | ⟨b, off, cap, rc, el, fr, rfl, _⟩
 ·have hl : l = [] := by simpa using hn
  subst hl
  have hz0 : zs = [] := List.length_eq_zero_iff.1 hz
  subst hz0
  refine (h0 rfl I (.arr (.slice none 0 0) 1 [] :: F) w [.slice none 0 0] (VL.cons (.slice0 _ _ _) VL.nil) (by simpa using hs)).mono ?_
  rintro _ w' ⟨v, h, M', J, rfl, hle, ⟨rfl, rfl⟩, hv, hsat⟩
  exact ⟨v, _, [.arr (.slice none 0 0) 1 []], J, rfl, hle, ⟨rfl, rfl⟩, hv, by simpa using hsat⟩
 ·rw [List.length_map] at hs ⊢
  obtain ⟨g1, g2, g3, g4⟩ := zmp hs
  refine (h1 b off cap w g1 g2 g3).mono ?_
  rintro _ w' ⟨rfl, n, os, rfl⟩
  refine ⟨_, .tup [], _, I, rfl, .refl I, ⟨rfl, rfl⟩, .tup (by simp) (fun j c v h _ => by simp at h), ?_⟩
  have := zqv (n' := l.length) (k := n) (os := os) hs hz (Nat.le_refl _)
  rw [← hz, List.take_length, hz] at this
  exact this
/-- The same, where the slice comes back, cut. -/
theorem ztN [Tracks] {P : Program} {f : FuncId} {l zs : List Int} {v : Value} (hz : zs.length ≤ l.length)
 (h1 : ∀ (b off cap : Nat) (w : World), Holds (Value.int .i64) w b off l.toArray → b < w.heap.size → l.length ≤ cap → Calls P f #[.slice (some ⟨b, off, none⟩) l.length cap] w fun e w' => e = .returned (.slice (some ⟨b, off, none⟩) zs.length cap) ∧ ∃ n, w' = putRow (Value.int .i64) (Sort.ahead w n) b off (zs ++ List.replicate (l.length - zs.length) 0).toArray)
 (h0 : l = [] → ∀ w, Calls P f #[.slice none 0 0] w fun e w' => e = .returned (.slice none 0 0) ∧ w' = w) : Con P f [.raw v] [.arr v 1 (l.map (.int .i64))] fun x M' => ∃ u, x = .raw u ∧ M' = [.arr u 1 (zs.map (.int .i64))] := by
 intro I F w args ha hs
 obtain ⟨u, rfl, hu⟩ := ha.one
 obtain rfl : u = v := hu.raw_inv
 rcases hs.obj (.arr u 1 (l.map (.int .i64))) (by simp) with ⟨rfl, hn⟩ | ⟨b, off, cap, rc, el, fr, rfl, _⟩
 ·have hl : l = [] := by simpa using hn
  subst hl
  have hz0 : zs = [] := List.length_eq_zero_iff.1 (by simpa using hz)
  subst hz0
  refine (h0 rfl w).mono ?_
  rintro _ w' ⟨rfl, rfl⟩
  exact ⟨_, .raw (.slice none 0 0), _, I, rfl, .refl I, ⟨_, rfl, rfl⟩, .raw _ rfl, hs⟩
 ·rw [List.length_map] at hs ⊢
  obtain ⟨g1, g2, g3, g4⟩ := zmp hs
  refine (h1 b off cap w g1 g2 g3).mono ?_
  rintro _ w' ⟨rfl, n, rfl⟩
  refine ⟨_, .raw (.slice (some ⟨b, off, none⟩) zs.length cap), _, I, rfl, .refl I, ⟨_, rfl, rfl⟩, .raw _ rfl, ?_⟩
  have := zqv (zs := zs ++ List.replicate (l.length - zs.length) 0) (n' := zs.length) (k := n) (os := #[]) hs (by simp; omega) hz
  rw [List.take_left' rfl, grow_empty] at this
  exact this
theorem zpG {l : List Int} {z : Int} : z ∈ Lib.compact l ↔ z ∈ l := by
 unfold Lib.compact Lib.compactUpTo
 rw [List.mem_map]
 have hget : ∀ j, (hj : j < l.length) → l.toArray[j]! = l[j] := fun j hj => by rw [getElem!_pos l.toArray j (by simpa using hj)]; simp
 constructor
 ·rintro ⟨j, hj, rfl⟩
  have hlt := List.mem_range.1 (List.mem_filter.1 hj).1
  rw [hget j hlt]; exact List.getElem_mem _
 ·intro hz
  obtain ⟨j, hj⟩ := List.getElem?_of_mem hz
  induction j with
  | zero =>
    have h0 := zK hj
    refine ⟨0, List.mem_filter.2 ⟨List.mem_range.2 h0, by simp [Lib.keeps]⟩, ?_⟩
    rw [hget 0 h0]
    rw [List.getElem?_eq_getElem h0] at hj
    exact Option.some.inj hj
  | succ j ih =>
    have h1 := zK hj
    have e1 : l[j + 1] = z := by
     rw [List.getElem?_eq_getElem h1] at hj
     exact Option.some.inj hj
    by_cases h : l[j]? = some z
    ·exact ih h
    ·refine ⟨j + 1, List.mem_filter.2 ⟨List.mem_range.2 h1, ?_⟩, ?_⟩
     ·unfold Lib.keeps
      rw [decide_eq_true_eq]
      right
      rw [hget _ h1, Nat.add_sub_cancel, hget j (by omega), e1]
      intro e
      apply h
      rw [List.getElem?_eq_getElem (by omega), ← e]
     ·rw [hget _ h1, e1]
def zje (l : List Int) : List Int := l.mergeSort fun x y => decide (x ≤ y)
theorem zj9 (l : List Int) : (zje l).length = l.length := by simp [zje]
theorem zsT {l : List Int} {z : Int} : z ∈ zje l ↔ z ∈ l := (List.mergeSort_perm _ _).mem_iff
theorem zll (l : List Int) : (Lib.compact l).length ≤ l.length := by
 unfold Lib.compact Lib.compactUpTo
 rw [List.length_map]
 exact Nat.le_trans (List.length_filter_le _ _) (by simp)
end
section
def zkY : Str := [103, 111, 97, 108]
def zkU : Play := ⟨[115], 1, 0, 1, [109], [112], zkY, 2, 0⟩
def zo1 : LineS := ⟨[112], 1, [⟨zkY, 2⟩]⟩
theorem zpf : zaB [zkU] [[115]] 1 5 [zkU] = ⟨[[112]], [(([112], zkY), 2)]⟩ := by kernel_rfl
theorem zpq : orI [zz [zkU], zbw [[115]]] = 0 := by kernel_rfl
theorem zmh : zdS [(([112], zkY), 2)] [[112]] = false := by kernel_rfl
theorem zqJ : zbx [(([112], zkY), 2)] [112] = [⟨zkY, 2⟩] := by kernel_rfl
theorem zvH : ziL [zkU] [[115]] 1 5 = 0 := by
 rw [ziL, zpq, if_neg (by decide), if_neg (by decide), zaS, zpf, zfo, zmh]; rfl
theorem zvE : ziy [zkU] [[115]] 1 5 = [zo1] := by
 rw [ziy, zpq, if_neg (by decide), if_neg (by decide), zcx, zpf, zeO, zmh, if_neg (by decide)]
 simp [zaQ, zqJ, zo1]
end
section
theorem zju (s : Str) : ∀ (l : List Str) (k : Int), 0 ≤ k → (zbC s l k = -1 ∧ s ∉ l) ∨ ∃ i : Nat, zbC s l k = k + i ∧ l[i]? = some s ∧ ∀ j : Nat, j < i → l[j]? ≠ some s
 | [], k, _ => .inl ⟨rfl, by simp⟩
 | x :: r, k, h => by
   simp only [zbC]
   by_cases e : s = x
   ·subst e
    rw [if_pos rfl]
    exact .inr ⟨0, by simp, rfl, fun j hj => by omega⟩
   ·rw [if_neg e]
    rcases zju s r (k + 1) (by omega) with ⟨h1, h2⟩ | ⟨i, h1, h2, h3⟩
    ·exact .inl ⟨h1, by simp [e, h2]⟩
    ·refine .inr ⟨i + 1, by rw [h1]; omega, h2, fun j hj => ?_⟩
     cases j with
     | zero => simp; exact fun q => e q.symm
     | succ j => exact h3 j (by omega)
theorem zm3 {α : Type} {q : α → Bool} : ∀ {l : List α} {k : Nat} {s : α}, l[k]? = some s → q s = true → (∀ j t, j < k → l[j]? = some t → q t = false) → l.find? q = some s
 | [], k, s, h, _, _ => by simp at h
 | x :: r, 0, s, h, hq, _ => by
   simp at h; subst h; rw [List.find?_cons_of_pos hq]
 | x :: r, k + 1, s, h, hq, hm => by
   rw [List.find?_cons_of_neg (by rw [hm 0 x (by omega) rfl]; simp)]
   exact zm3 (k := k) (by simpa using h) hq fun j t hj ht => hm (j + 1) t (by omega) (by simpa using ht)
/-- A play of a match that is trusted and known. -/
def ziJ (trust : List Str) (n : Int) (m : Str) (p : Play) : Prop := p.Match = m ∧ p.At ≤ n ∧ 0 ≤ zbC p.Source trust 0
def zit (trust : List Str) (n : Int) (m : Str) (B : List (Str × Int)) (l : List Play) : Prop :=
 (alk m B = none ∧ ∀ p ∈ l, ¬ ziJ trust n m p) ∨ ∃ k, alk m B = some k ∧ (∃ p ∈ l, ziJ trust n m p ∧ zbC p.Source trust 0 = k) ∧ ∀ p ∈ l, ziJ trust n m p → k ≤ zbC p.Source trust 0
theorem zqq {trust : List Str} {n : Int} {m : Str} {B : List (Str × Int)} {l : List Play} (x : Play) (h : zit trust n m B l) : zit trust n m (zcL trust n B x) (l ++ [x]) := by
 have hold : ¬ ziJ trust n m x → zit trust n m B (l ++ [x]) := fun hx => by
  rcases h with ⟨h1, h2⟩ | ⟨k, h1, ⟨p, hp, h2⟩, h3⟩
  ·refine .inl ⟨h1, fun p hp => ?_⟩
   rcases List.mem_append.1 hp with hp | hp
   ·exact h2 p hp
   ·rw [List.mem_singleton.1 hp]; exact hx
  ·refine .inr ⟨k, h1, ⟨p, List.mem_append_left _ hp, h2⟩, fun p hp hc => ?_⟩
   rcases List.mem_append.1 hp with hp | hp
   ·exact h3 p hp hc
   ·rw [List.mem_singleton.1 hp] at hc; exact absurd hc hx
 unfold zcL
 by_cases c1 : n < x.At ∨ zbC x.Source trust 0 < 0
 ·rw [if_pos c1]
  exact hold fun hx => by have := hx.2; omega
 ·rw [if_neg c1]
  by_cases hm : x.Match = m
  ·have hcan : ziJ trust n m x := ⟨hm, by omega, by omega⟩
   rw [hm]
   rcases h with ⟨h1, h2⟩ | ⟨k, h1, ⟨p, hp, h2, h2'⟩, h3⟩
   ·rw [h1, if_pos (.inl rfl)]
    refine .inr ⟨zbC x.Source trust 0, by rw [zcr, if_pos rfl], ⟨x, by simp, hcan, rfl⟩, fun p hp hc => ?_⟩
    rcases List.mem_append.1 hp with hp | hp
    ·exact absurd hc (h2 p hp)
    ·rw [List.mem_singleton.1 hp]; exact Int.le_refl _
   ·rw [h1]
    by_cases c2 : zbC x.Source trust 0 < k
    ·rw [if_pos (.inr c2)]
     refine .inr ⟨zbC x.Source trust 0, by rw [zcr, if_pos rfl], ⟨x, by simp, hcan, rfl⟩, fun p hp hc => ?_⟩
     rcases List.mem_append.1 hp with hp | hp
     ·have := h3 p hp hc; omega
     ·rw [List.mem_singleton.1 hp]; exact Int.le_refl _
    ·rw [if_neg (by simp; omega)]
     refine .inr ⟨k, h1, ⟨p, List.mem_append_left _ hp, h2, h2'⟩, fun p hp hc => ?_⟩
     rcases List.mem_append.1 hp with hp | hp
     ·exact h3 p hp hc
     ·rw [List.mem_singleton.1 hp]; omega
  ·have hno : ¬ ziJ trust n m x := fun hx => hm hx.1
   have := hold hno
   split
   ·unfold zit at *
    rw [zcr, if_neg (fun e => hm e.symm)]
    exact this
   ·exact this
theorem zvU (l : List Play) (trust : List Str) (n : Int) (m : Str) : zit trust n m (zdA l trust n) l := by
 have key : ∀ k, k ≤ l.length → zit trust n m (zdA (l.take k) trust n) (l.take k) := by
  intro k
  induction k with
  | zero => intro _; exact .inl ⟨rfl, by simp⟩
  | succ k ih =>
    intro hk
    have hx := List.getElem?_eq_getElem (l := l) (i := k) (by omega)
    rw [zgX hx, zad hx]
    exact zqq _ (ih (by omega))
 have := key l.length (Nat.le_refl _)
 rwa [List.take_length] at this
/-- The source that counts, told the other way. -/
def zgC (l : List Play) (m : Str) (n : Int) (s : Str) : Bool := l.any fun x => x.Source == s && x.Match == m && decide (x.At ≤ n)
theorem zpH (l : List Play) (trust : List Str) (n : Int) (m : Str) : zgj l trust n m = trust.find? (zgC l m n) := by
 unfold zgj
 rcases zvU l trust n m with ⟨h1, h2⟩ | ⟨k, h1, ⟨p, hp, ⟨c1, c2, c3⟩, h2⟩, h3⟩
 ·rw [h1]
  symm
  refine List.find?_eq_none.2 fun s hs hq => ?_
  unfold zgC at hq
  rw [List.any_eq_true] at hq
  obtain ⟨x, hx, hq⟩ := hq
  simp only [Bool.and_eq_true, beq_iff_eq, decide_eq_true_eq] at hq
  refine h2 x hx ⟨hq.1.2, hq.2, ?_⟩
  rcases zju x.Source trust 0 (by omega) with ⟨_, q⟩ | ⟨i, q, _⟩
  ·rw [hq.1.1] at q; exact absurd hs q
  ·omega
 ·rw [h1]
  rcases zju p.Source trust 0 (by omega) with ⟨q, _⟩ | ⟨i, q1, q2, q3⟩
  ·omega
  ·have hk : k.toNat = i := by omega
   have e : trust.getD k.toNat [] = p.Source := by rw [hk]; simp [List.getD, q2]
   rw [Option.map_some, e]
   symm
   refine zm3 q2 ?_ fun j t hj ht => ?_
   ·unfold zgC
    rw [List.any_eq_true]
    exact ⟨p, hp, by simp [c1, c2]⟩
   ·rw [Bool.eq_false_iff]
    intro hq
    unfold zgC at hq
    rw [List.any_eq_true] at hq
    obtain ⟨x, hx, hq⟩ := hq
    simp only [Bool.and_eq_true, beq_iff_eq, decide_eq_true_eq] at hq
    rcases zju x.Source trust 0 (by omega) with ⟨_, r⟩ | ⟨i', r1, r2, r3⟩
    ·rw [hq.1.1] at r; exact r (List.mem_of_getElem? ht)
    ·have hle := h3 x hx ⟨hq.1.2, hq.2, by omega⟩
     have : ¬ j < i' := fun hji => r3 j hji (by rw [hq.1.1]; exact ht)
     omega
def zdL (l : List Play) (trust : List Str) (m : Str) (n : Int) : Str := (trust.find? (zgC l m n)).getD []
theorem zhs (l : List Play) (trust : List Str) (m : Str) (n : Int) : zdL l trust m n = (zgj l trust n m).getD [] := by
 rw [zpH]; rfl
end
end Go.HL
