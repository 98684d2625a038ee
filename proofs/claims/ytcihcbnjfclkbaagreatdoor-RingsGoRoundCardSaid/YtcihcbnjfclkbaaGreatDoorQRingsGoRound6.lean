/- The statement is proved: the card of the law, out of its function's contract; no conditions. -/
import Derived.Test.YtcihcbnjfclkbaaGreatDoorQRingsGoRound5
import Derived.Handed
import Derived.KernelRfl
import Derived.LaidMore
import Derived.Lay
import Derived.OpenShut
import Derived.ProofKit
import Derived.SevenTiedAt
import Derived.Shelf.Vars
import Derived.Stop.Joined
import Derived.Test.YtcihcbnjfclkbaaGreatDoorCards
import Derived.Test.YtcihcbnjfclkbaaGreatDoorTie
set_option linter.unusedVariables false
set_option linter.unusedSimpArgs false
namespace Go.Proofs.YtcihcbnjfclkbaaGreatDoor
set_option maxRecDepth 100000
set_option linter.unusedVariables false
set_option linter.unusedSimpArgs false
section
open Go.HL
set_option maxHeartbeats 1000000 in
/-- benchwarmer/play.lines -/
theorem zoq [Tracks] {l : List Play} {trust : List Str} {week n : Int} (hT : Tracks.on = false) (hl : l.length ≤ 3000) (ht : trust.length ≤ 1000000) (ok : ∀ x ∈ l, playFault x = 0) : ConP Tryz.prog 98 [zhk l, eSs trust, .int .i64 week, .int .i64 n] (.tup [zoM (znW l trust week n), .int .i64 (zoN l trust week n)]) := by
 refine Con.of_body Tryz.func98 rfl Tryz.ntmps98 rfl rfl ?_
 refine zb ?_
 refine das rfl ?_
 refine das rfl ?_
 refine dn ?_
 refine zb ?_
 refine dmv rfl ?_
 refine dmv rfl ?_
 refine dmv rfl ?_
 refine de rfl (zbP (M1 := []) (R := []) zvw rfl (WeakL.refl _) (List.Perm.refl _) (zpk (l := l) (trust := trust) (n := n) (by omega) ht) ?_)
 rintro _ _ ⟨b19, O19, rfl, hn19, hO19, rfl⟩
 refine dmv rfl ?_
 refine dmv rfl ?_
 refine de rfl (zbP (M1 := []) (R := _) zuE rfl (WeakL.refl _) (List.Perm.refl _) (znd (l := l) (n := n) (by omega)) ?_)
 rintro _ _ ⟨b22, rfl, rfl⟩
 refine das rfl ?_
 refine das rfl ?_
 refine dn ?_
 refine zb ?_
 refine de rfl (zbU fun m23 => ?_)
 refine de rfl (zbU fun m24 => ?_)
 refine das rfl ?_
 refine das rfl ?_
 refine dn ?_
 refine zh ?_
 refine zb ?_
 refine dmv rfl ?_
 refine dq (zF zec rfl) ?_
 refine dmv rfl ?_
 refine dn ?_
 refine zl ?_
 refine zZ [15, 27, 28, 29, 30, 31, 32, 33, 34, 35, 36, 37, 38, 39, 40, 41, 42, 43, 44, 45, 46, 47, 48, 49, 50, 51, 52, 53, 54, 55, 56, 57, 58, 59, 60, 61, 62, 63, 64, 65, 66, 67, 68, 69, 70, 71, 72, 73, 74, 75, 76, 77, 78, 79] (fun (k : Nat) => [(27, .int .i64 k)]) (fun (k : Nat) => [.map m24 (kk eOf (em (HVal.int .i64) (zdX l trust week n (l.take k)).c)), .map m23 (sk (zbD (zdX l trust week n (l.take k)).S)), .map b22 (kk zhD (em HVal.bool (zhT l n))), .map b19 (sk (em HVal.str O19))]) (fun (k : Nat) => k ≤ l.length ∧ (True)) (fun (k : Nat) => l.length - k) (0) ?_ ?_ ?_ ?_
 ·exact ⟨Nat.zero_le _, trivial⟩
 ·exact ⟨rfl, trivial⟩
 ·exact zL rfl
 ·intro k hinv
  obtain ⟨hk, -⟩ := hinv
  refine zb ?_
  refine dq (zO rfl rfl) ?_
  refine dn ?_
  refine zh ?_
  refine zj rfl (fun h1 => ?_) (fun h2 => ?_)
  ·try simp at h1
   obtain ⟨x, hx⟩ : ∃ x, l[k]? = some x := ⟨_, List.getElem?_eq_getElem h1⟩
   have hdx := zQ hx
   refine zk ?_
   refine zf ?_
   refine zh ?_
   refine zl ?_
   refine zb ?_
   refine dq (zJ zec zaa rfl rfl rfl (by assumption)) ?_
   refine dq (zV zaa rfl rfl rfl rfl) ?_
   refine de rfl (zX zaa rfl fun b15 => ?_)
   refine de0 (zag zaa rfl rfl rfl rfl rfl ?_)
   refine dn ?_
   refine zI (Ghost.fc0 15 rfl) ?_
   refine zh ?_
   refine zb ?_
   refine dq (zc zaa rfl ty3 (by decide) rfl) ?_
   refine dq (ze ty3 rfl rfl rfl) ?_
   refine dmv rfl ?_
   refine dq (zai rfl rfl) ?_
   refine dmv rfl ?_
   refine dg rfl rfl (fun hc => ⟨_, OpenTo.refl _, zc zaa rfl ty3 (by decide) rfl⟩) ?_
   refine dg rfl rfl (fun hc => ⟨_, OpenTo.upd (t := 36) rfl (hc) (OpenTo.refl _), ze ty3 rfl rfl rfl⟩) ?_
   refine dg rfl rfl (fun hc => ⟨_, OpenTo.refl _, zg rfl⟩) ?_
   refine dg rfl rfl (fun hc => ⟨_, OpenTo.upd (t := 38) rfl (hc) (OpenTo.upd (t := 37) rfl (hc) (OpenTo.refl _)), zaM rfl rfl⟩) ?_
   refine dq (zB rfl (.inl rfl) (.inr ⟨_, rfl, fun h => by simp_all⟩)) ?_
   refine dmv rfl ?_
   refine dg rfl rfl (fun hc => ⟨_, OpenTo.refl _, zc zaa rfl ty3 (by decide) rfl⟩) ?_
   refine dg rfl rfl (fun hc => ⟨_, OpenTo.upd (t := 42) rfl (hc) (OpenTo.refl _), ze ty3 rfl rfl rfl⟩) ?_
   refine dg rfl rfl (fun hc => ⟨_, OpenTo.upd (t := 43) rfl (hc) (OpenTo.refl _), zai rfl rfl⟩) ?_
   refine dq (zB rfl (.inl rfl) (.inr ⟨_, rfl, fun h => by simp_all⟩)) ?_
   refine dmv rfl ?_
   refine dg rfl rfl (fun hc => ⟨_, OpenTo.refl _, zg rfl⟩) ?_
   refine dg rfl rfl (fun hc => ⟨_, OpenTo.refl _, zc zaa rfl ty9 (by decide) rfl⟩) ?_
   refine dg rfl rfl (fun hc => ⟨_, OpenTo.upd (t := 48) rfl (hc) (OpenTo.refl _), ze ty9 rfl rfl rfl⟩) ?_
   refine dg rfl rfl (fun hc => ⟨_, OpenTo.refl _, zc zaa rfl ty3 (by decide) rfl⟩) ?_
   refine dg rfl rfl (fun hc => ⟨_, OpenTo.upd (t := 50) rfl (hc) (OpenTo.refl _), ze ty3 rfl rfl rfl⟩) ?_
   refine dg rfl rfl (fun hc => ⟨_, OpenTo.upd (t := 51) rfl (hc) (OpenTo.upd (t := 49) rfl (hc) (OpenTo.refl _)), zaG (cs := [_, _]) zgC zqK rfl⟩) ?_
   refine dgl rfl rfl (fun hc => ⟨_, OpenTo.upd (t := 52) rfl (hc) (OpenTo.upd (t := 47) rfl (hc) (OpenTo.refl _)), ziu (i := 2) (s := (x.Source, x.No)) (z0 := false) ztf znz ty4 rfl rfl rfl rfl ⟨rfl, rfl⟩⟩) ?_
   refine dq (zB rfl (.inl rfl) (.inr ⟨_, rfl, fun h => by simp_all⟩)) ?_
   refine dmv rfl ?_
   refine dg rfl rfl (fun hc => ⟨_, OpenTo.refl _, zg rfl⟩) ?_
   refine dg rfl rfl (fun hc => ⟨_, OpenTo.refl _, zc zaa rfl ty9 (by decide) rfl⟩) ?_
   refine dg rfl rfl (fun hc => ⟨_, OpenTo.upd (t := 57) rfl (hc) (OpenTo.refl _), ze ty9 rfl rfl rfl⟩) ?_
   refine dgl rfl rfl (fun hc => ⟨_, OpenTo.upd (t := 58) rfl (hc) (OpenTo.upd (t := 56) rfl (hc) (OpenTo.refl _)), zgV (i := 3) (z0 := ([] : Str)) ztp ty9 ty9 rfl rfl rfl rfl ⟨rfl, rfl⟩⟩) ?_
   refine dg rfl rfl (fun hc => ⟨_, OpenTo.refl _, zc zaa rfl ty9 (by decide) rfl⟩) ?_
   refine dg rfl rfl (fun hc => ⟨_, OpenTo.upd (t := 60) rfl (hc) (OpenTo.refl _), ze ty9 rfl rfl rfl⟩) ?_
   refine dg rfl rfl (fun hc => ⟨_, OpenTo.upd (t := 61) rfl (hc) (OpenTo.upd (t := 59) rfl (hc) (OpenTo.refl _)), zgg rfl rfl⟩) ?_
   refine dq (zB rfl (.inl rfl) (.inr ⟨_, rfl, fun h => by simp_all⟩)) ?_
   refine dn ?_
   refine zj rfl (fun h3 => ?_) (fun h4 => ?_)
   ·try simp at h3
    refine zN ?_
    refine zT ?_
    refine zD ?_
    refine zf ?_
    refine zy ?_
    refine dq (zv rfl rfl (by omega) (by omega)) ?_
    refine dmv rfl ?_
    refine dn ?_
    exact ⟨k + 1, ⟨by omega, trivial⟩, by dsimp only; omega, ⟨rfl, trivial⟩, (by repeat (first | exact zo | refine zt rfl ?_ | refine zp rfl rfl ?_)), zL (by dsimp only; rw [zm5 hx, zgt, if_neg (by rw [zsP hO19 h3]; simp)])⟩
   ·try simp at h4
    refine zk ?_
    refine zf ?_
    refine zb ?_
    refine dmv rfl ?_
    refine dq (zc zaa rfl ty9 (by decide) rfl) ?_
    refine dq (ze ty9 rfl rfl rfl) ?_
    refine de0 (zhg (i := 1) zqz ty9 rfl rfl rfl rfl ?_)
    refine dn ?_
    have hpx := ok x (List.mem_of_getElem? hx)
    obtain ⟨_, _, _, _, _, hcb, _⟩ := ziR hpx
    have hlk := ztr (l := l) (m := l.take k) (trust := trust) (week := week) (n := n) (fun y hy => ok y (List.mem_of_mem_take hy))
    have hvb := hlk.val (x.Player, x.Stat)
    have hlt : ((l.take k).length : Int) ≤ 3000 := by rw [List.length_take]; omega
    refine zbV (fun M => M = [MObj.map m24 (kk eOf (em (HVal.int .i64) (zdX l trust week n (l.take k)).c)), MObj.map m23 (sk (zbD (zcj x.Player (zdX l trust week n (l.take k)).S))), MObj.map b22 (kk zhD (em HVal.bool (zhT l n))), MObj.map b19 (sk (em HVal.str O19))] ∨ ∃ j st, zbv (x.Player, x.Stat) (zdt (x.Player, x.Stat) (HVal.int .i64 0) (em (HVal.int .i64) (zdX l trust week n (l.take k)).c)) = some j ∧ M = [MObj.mape m24 (kk eOf (zdt (x.Player, x.Stat) (HVal.int .i64 0) (em (HVal.int .i64) (zdX l trust week n (l.take k)).c))) j st, MObj.map m23 (sk (zbD (zcj x.Player (zdX l trust week n (l.take k)).S))), MObj.map b22 (kk zhD (em HVal.bool (zhT l n))), MObj.map b19 (sk (em HVal.str O19))]) [6] mixed ?_
    refine ahp 0 rfl rfl (by kernel_rfl) (by kernel_rfl) (zg rfl) ?_
    refine ahp 1 rfl rfl (by kernel_rfl) (by kernel_rfl) (zc zaa rfl ty9 (by decide) rfl) ?_
    refine ahp 2 rfl rfl (by kernel_rfl) (by kernel_rfl) (ze ty9 rfl rfl rfl) ?_
    refine ahp 3 rfl rfl (by kernel_rfl) (by kernel_rfl) (zc zaa rfl ty9 (by decide) rfl) ?_
    refine ahp 4 rfl rfl (by kernel_rfl) (by kernel_rfl) (ze ty9 rfl rfl rfl) ?_
    refine ahp 5 rfl rfl (by kernel_rfl) (by kernel_rfl) (zaG (cs := [_, _]) zhr zuZ rfl) ?_
    refine ahl 6 rfl rfl (by kernel_rfl) (by kernel_rfl) (by simp) (.inl rfl) (fun M hM => by
   rcases hM with rfl | ⟨j, st, hj, rfl⟩
   ·exact ziu (i := 0) (s := (x.Player, x.Stat)) (z0 := (0 : Int)) znt zqn ty3 rfl rfl rfl rfl ⟨rfl, rfl⟩
   ·exact zoz (i := 0) (s := (x.Player, x.Stat)) (z0 := (0 : Int)) (f := HVal.int .i64) znt zqn ty3 rfl rfl rfl rfl ⟨rfl, rfl⟩) ?_
    refine ahp 7 rfl rfl (by kernel_rfl) (by kernel_rfl) (zc zaa rfl ty3 (by decide) rfl) ?_
    refine ahp 8 rfl rfl (by kernel_rfl) (by kernel_rfl) (ze ty3 rfl rfl rfl) ?_
    refine ahp 9 rfl rfl (by kernel_rfl) (by kernel_rfl) (zv rfl rfl (by omega) (by omega)) ?_
    refine ahe 10 rfl (by kernel_rfl) ?_
    refine zH rfl (znm (i := 0) (s := (x.Player, x.Stat)) (z0 := (0 : Int)) (f := HVal.int .i64) znt zqn ty3 rfl rfl rfl rfl fun j77 st77 hj77 => ?_)
    refine ⟨fun _ => .inl (.inr ⟨j77, st77, hj77, rfl⟩), ?_⟩
    refine ahp 11 rfl rfl (by kernel_rfl) (by kernel_rfl) (z6 rfl rfl) ?_
    refine ahe 12 rfl (by kernel_rfl) ?_
    refine zau (zlg (i := 0) (s := (x.Player, x.Stat)) (f := HVal.int .i64) (z0 := (0 : Int)) (v := (alk (x.Player, x.Stat) (zdX l trust week n (l.take k)).c).getD 0 + x.Count) rfl rfl rfl rfl hj77 ?_)
    refine ⟨fun _ => .inr (by simp [zbC, Region.binds]), ?_⟩
    refine ahz (by kernel_rfl) ?_
    refine zz ?_
    refine zf ?_
    refine zy ?_
    refine dq (zv rfl rfl (by omega) (by omega)) ?_
    refine dmv rfl ?_
    refine dn ?_
    exact ⟨k + 1, ⟨by omega, trivial⟩, by dsimp only; omega, ⟨rfl, trivial⟩, (by repeat (first | exact zo | refine zt rfl ?_ | refine zp rfl rfl ?_)), zL (by dsimp only; rw [zm5 hx, zgt, if_pos (zsF hO19 h4)]; rfl)⟩
  ·try simp at h2
   have hnk : l.length ≤ k := by omega
   obtain rfl : k = l.length := by omega
   refine zN ?_
   refine zT ?_
   refine zah ?_
   refine zD ?_
   refine zf ?_
   rw [List.take_length]
   have hok := ztr (l := l) (m := l) (trust := trust) (week := week) (n := n) ok
   refine zb ?_
   refine dmv rfl ?_
   refine dmv rfl ?_
   refine dmv rfl ?_
   refine de rfl (zbP (M1 := [_, _]) (R := [_, _]) zuR rfl (WeakL.refl _) (List.Perm.refl _) (zhF hT hok.c hok.S hok.k (Nat.le_trans hok.cl (by omega)) (Nat.le_trans hok.Sl (by omega))) ?_)
   rintro _ _ ⟨rfl, rfl⟩
   refine dq (z6 rfl rfl) ?_
   refine dq (z6 rfl rfl) ?_
   refine das rfl ?_
   refine das rfl ?_
   refine dn ?_
   refine zn ?_
   exact zbW Ghost.clear rfl ⟨rfl, rfl⟩

/-- benchwarmer/play.Lines -/
theorem zo0 [Tracks] {l : List Play} {trust : List Str} {week n : Int} (hT : Tracks.on = false) (hl : l.length ≤ 1000000) (ht : trust.length ≤ 1000000) : ConP Tryz.prog 63 [zhk l, eSs trust, .int .i64 week, .int .i64 n] (.tup [zoM (zhl l trust week n), .int .i64 (zg9 l trust week n)]) := by
 refine Con.of_body Tryz.func63 rfl Tryz.ntmps63 rfl rfl ?_
 refine zb ?_
 refine das rfl ?_
 refine das rfl ?_
 refine dn ?_
 refine zh ?_
 refine zb ?_
 refine dmv rfl ?_
 refine dq (zq ca94 rfl (WeakL.refl _) (zjD (by assumption))) ?_
 refine dmv rfl ?_
 refine dq (zq ca95 rfl (WeakL.refl _) (zjE (by assumption))) ?_
 refine dq (zK (hs := [_, _]) zqq zqF rfl rfl (by decide) (by decide) rfl) ?_
 refine dq (zq ca93 rfl (WeakL.refl _) (zie (l := [_, _]) (by simp))) ?_
 refine das rfl ?_
 refine dn ?_
 refine zb ?_
 refine dmv rfl ?_
 refine dq (zaM rfl rfl) ?_
 refine dn ?_
 refine zj rfl (fun h1 => ?_) (fun h2 => ?_)
 ·try simp at h1
  refine zb ?_
  refine dmv rfl ?_
  refine das rfl ?_
  refine das rfl ?_
  refine dn ?_
  refine zn ?_
  exact znA rfl (zcN (by rw [zhl, if_pos (by simpa using h1)]; exact zcC 3) (by rw [zg9, if_pos (by simpa using h1)]; exact Weak.refl _))
 ·try simp at h2
  refine zk ?_
  refine zf ?_
  refine zh ?_
  refine zb ?_
  refine dmv rfl ?_
  refine dq (zq ca96 rfl (WeakL.refl _) zjM) ?_
  refine dq (zao rfl) ?_
  refine dmv rfl ?_
  refine dg rfl rfl (fun hc => ⟨_, OpenTo.refl _, zg rfl⟩) ?_
  refine dg rfl rfl (fun hc => ⟨_, OpenTo.upd (t := 24) rfl (hc) (OpenTo.refl _), zq zsS rfl (WeakL.refl _) zfL⟩) ?_
  refine dg rfl rfl (fun hc => ⟨_, OpenTo.upd (t := 25) rfl (hc) (OpenTo.refl _), zao rfl⟩) ?_
  refine dq (zB rfl (.inl rfl) (.inr ⟨_, rfl, fun h => by simp_all⟩)) ?_
  refine dn ?_
  refine zj rfl (fun h3 => ?_) (fun h4 => ?_)
  ·try simp at h3
   refine zb ?_
   refine das rfl ?_
   refine das rfl ?_
   refine dn ?_
   refine zn ?_
   exact znA rfl (zcN (by rw [zhl, if_neg (by simpa using h2), if_pos (by simp_all)]; exact zcC 3) (by rw [zg9, if_neg (by simpa using h2), if_pos (by simp_all)]; exact Weak.refl _))
  ·try simp at h4
   refine zk ?_
   refine zf ?_
   refine zb ?_
   refine dmv rfl ?_
   refine dmv rfl ?_
   refine dmv rfl ?_
   refine dmv rfl ?_
   refine dq (zq ca98 rfl (WeakL.refl _) (zoq hT (zmT (okPT h2).1).1 ht (zo7 (okPT h2).1))) ?_
   refine dq (z6 rfl rfl) ?_
   refine dq (z6 rfl rfl) ?_
   refine das rfl ?_
   refine das rfl ?_
   refine dn ?_
   refine zn ?_
   (refine zA rfl ?_
    rw [zhl, zg9, if_neg (by simpa using h2), if_neg (by simp_all), if_neg (by simpa using h2), if_neg (by simp_all)])

end
section
open Go.HL

end
end Go.Proofs.YtcihcbnjfclkbaaGreatDoor
namespace Go.HL
section
section
variable {r : Room} {k : List Keep} {s : List Swap} {l : List Pick} {w : List Wish} {n : Int}
end
end
section
section
variable {r : Room} {k : List Keep} {s : List Swap} {l : List Pick}
def zjf (A : List Pick) (p : Pick) : List Pick := A.set p.No.toNat p
def NoInc (A : List Pick) : Prop := ∀ (i : Nat) (p : Pick), A[i]? = some p → p.No = (i : Int)
theorem zjW : ∀ (t : List Turn) (i j : Nat) (p : Pick), (zdY r k i t)[j]? = some p → p.No = ((i + j : Nat) : Int)
 | [], i, j, p, h => by simp [zdY] at h
 | x :: t, i, 0, p, h => by
   simp only [zdY, List.getElem?_cons_zero, Option.some.injEq] at h
   subst h; rw [(zlu r x k _).1]; rfl
 | x :: t, i, j + 1, p, h => by
   simp only [zdY, List.getElem?_cons_succ] at h
   rw [zjW t (i + 1) j p h]; congr 1; omega
theorem zpl : NoInc (zhq r k s) := fun i p h => by
 have := zjW _ 0 i p h
 rw [this]; congr 1; omega
theorem NoInc.pw {A : List Pick} (h : NoInc A) : A.Pairwise fun a b => a.No < b.No :=
 List.pairwise_iff_getElem.2 fun i j hi hj hij => by
  rw [h i _ (List.getElem?_eq_getElem hi), h j _ (List.getElem?_eq_getElem hj)]; omega
theorem NoInc.put {A : List Pick} (h : NoInc A) {p : Pick} (hp : 0 ≤ p.No) : NoInc (zjf A p) := fun i x hx => by
 unfold zjf at hx
 by_cases e : p.No.toNat = i
 ·subst e
  have hlt := zC hx
  rw [List.length_set] at hlt
  rw [List.getElem?_set_self hlt] at hx; cases hx; omega
 ·rw [List.getElem?_set_ne e] at hx; exact h i x hx
theorem zkG {α : Type} (q : α → Bool) {x y : α} (hx : q x = true) (hy : q y = false) : ∀ {A : List α} {j : Nat}, A[j]? = some y → ((A.set j x).filter q).Perm (A.filter q ++ [x])
 | [], j, h => by simp at h
 | a :: A, 0, h => by
   simp at h; subst h
   simp only [List.set_cons_zero, List.filter_cons, hx, hy, if_true, Bool.false_eq_true, if_false]
   exact (List.perm_append_comm (l₁ := [x]))
 | a :: A, j + 1, h => by
   simp only [List.getElem?_cons_succ] at h
   have := zkG q hx hy h
   simp only [List.set_cons_succ, List.filter_cons]
   split
   ·exact this.cons a
   ·exact this
def isP (p : Pick) : Bool := !(p.Player == [])
structure AllOk (r : Room) (k : List Keep) (s : List Swap) (l : List Pick) (i : Nat) (A : List Pick) : Prop where
 inc : NoInc A
 len : A.length = (zhq r k s).length
 free : ∀ (j : Nat) (p : Pick), i ≤ j → (zb7 r k s)[j]? = some p → A[p.No.toNat]? = some p
 perm : (A.filter isP).Perm ((zhq r k s).filter isP ++ l.take i)
theorem zox {j : Nat} {p : Pick} (h : (zb7 r k s)[j]? = some p) : p ∈ zhq r k s ∧ p.Player = [] := by
 have := List.mem_filter.1 (List.mem_of_getElem? h)
 exact ⟨this.1, by simpa using this.2⟩
theorem ztM {j : Nat} {p : Pick} (h : (zb7 r k s)[j]? = some p) : 0 ≤ p.No ∧ (zhq r k s)[p.No.toNat]? = some p := by
 obtain ⟨m, hm⟩ := List.getElem?_of_mem (zox h).1
 have := zpl m p hm
 exact ⟨by omega, by rw [this]; simpa using hm⟩
theorem zt7 (h : zeo r k s l = 0) {i : Nat} {x : Pick} (hx : l[i]? = some x) : ∃ p, (zb7 r k s)[i]? = some p ∧ x.No = p.No ∧ x.Player ≠ [] := by
 obtain ⟨h1, h2, h3⟩ := zif h
 have hi := zC hx
 obtain ⟨_, a2, _, a4, _⟩ := zud (zkA l 0 rfl h3 i x (Nat.zero_le _) hx)
 have hg := getD_some (d := ze3) (show i < (zb7 r k s).length by omega)
 refine ⟨_, hg, ?_, (zmb (zgk h1).1).ne _ a4⟩
 rw [a2]; congr 2; simp; omega
theorem AllOk.step (h : zeo r k s l = 0) {i : Nat} {x : Pick} (hx : l[i]? = some x) {A : List Pick} (ok : AllOk r k s l i A) : AllOk r k s l (i + 1) (zjf A x) ∧ 0 ≤ x.No ∧ x.No.toNat < A.length ∧ ∃ y, A[x.No.toNat]? = some y := by
 obtain ⟨p, hp, hn, hpl⟩ := zt7 h hx
 obtain ⟨n0, _⟩ := ztM hp
 have hA := ok.free i p (Nat.le_refl _) hp
 have hlt := zC hA
 refine ⟨⟨ok.inc.put (by omega), by unfold zjf; rw [List.length_set]; exact ok.len, fun j q hj hq => ?_, ?_⟩, by omega, by rw [hn]; exact hlt, p, by rw [hn]; exact hA⟩
 ·have hq1 := ok.free j q (by omega) hq
  have hne : p.No < q.No := by
   have hpw : (zb7 r k s).Pairwise fun a b => a.No < b.No := (zpl (r := r) (k := k) (s := s)).pw.sublist List.filter_sublist
   obtain ⟨hi', e1⟩ := List.getElem?_eq_some_iff.1 hp
   obtain ⟨hj', e2⟩ := List.getElem?_eq_some_iff.1 hq
   have := List.pairwise_iff_getElem.1 hpw i j hi' hj' (by omega)
   rw [e1, e2] at this; exact this
  unfold zjf
  rw [List.getElem?_set_ne (by omega)]; exact hq1
 ·have hf := zkG isP (x := x) (y := p) (by unfold isP; simpa using hpl) (by unfold isP; simp [(zox hp).2]) hA
  unfold zjf
  rw [hn, zaN hx, ← List.append_assoc]
  exact hf.trans (ok.perm.append_right _)
end
end
section
section
variable {P : Program} {e : Env} {dst : Option Tmp} {ty : TypeId} {pos : String} {af : Array Edge} {g : Option (Nat × Bool)} {M : List MObj} {K : HVal → List MObj → Prop}
end
end
end Go.HL
namespace Go.Proofs.YtcihcbnjfclkbaaGreatDoor
set_option maxRecDepth 100000
set_option linter.unusedVariables false
set_option linter.unusedSimpArgs false
section
open Go.HL

end
section
open Go.HL
/-- benchwarmer/benchkeep1.ready -/
theorem zfz [Tracks]  (hT : Tracks.on = false) : ConP Tryz.prog 21 [] (.bool true) := by
 refine Con.of_body Tryz.func21 rfl Tryz.ntmps21 rfl rfl ?_
 refine zb ?_
 refine das rfl ?_
 refine dn ?_
 refine zb ?_
 refine dq (zaG (cs := [_, _, _, _, _, _, _, _, _]) zaa zu4 rfl) ?_
 refine dq (zK (hs := [_]) zec zaa rfl rfl (by decide) (by decide) rfl) ?_
 refine dq (zK (hs := [_]) zG ty9 rfl rfl (by decide) (by decide) rfl) ?_
 refine dq (zq (hs' := [zhk [zjp], eSs [[115]], .int .i64 1, .int .i64 5]) ca63 rfl (WeakL.refl _) (zo0 hT (by decide) (by decide))) ?_
 refine dmv rfl ?_
 refine dq (z6 rfl rfl) ?_
 refine dq (z6 rfl rfl) ?_
 refine das rfl ?_
 refine das rfl ?_
 refine dn ?_
 simp only [zt6, ztQ]
 refine zb ?_
 refine dq (zK (hs := [_, _]) zG ty9 rfl rfl (by decide) (by decide) rfl) ?_
 refine dq (zK (hs := [_, _, _, _]) zG ty9 rfl rfl (by decide) (by decide) rfl) ?_
 refine dq (zaG (cs := [_, _, _, _, _, _]) zb8 zuI rfl) ?_
 refine de rfl (zX zb8 rfl fun b3 => ?_)
 refine de0 (zag zb8 rfl rfl rfl rfl rfl ?_)
 refine dn ?_
 refine zI (Ghost.fc0 3 rfl) ?_
 refine zb ?_
 refine dq (zV zb8 rfl rfl rfl rfl) ?_
 refine dq (zq (hs' := [zk3 znx, ziI []]) ca64 rfl ⟨Weak.refl _, zcC 3, trivial⟩ (znj (r := znx) (s := []) (by decide) (by decide) (by decide))) ?_
 refine dmv rfl ?_
 refine dq (z6 rfl rfl) ?_
 refine dq (z6 rfl rfl) ?_
 refine das rfl ?_
 refine das rfl ?_
 refine dn ?_
 simp only [zo6, zsR]
 refine zb ?_
 refine dq (zaG (cs := [_, _, _]) zaH zuM rfl) ?_
 refine dq (zK (hs := [_]) zch zaH rfl rfl (by decide) (by decide) rfl) ?_
 refine dq (zaG (cs := [_, _]) zcL zuK rfl) ?_
 refine dq (zK (hs := [_]) zhM zcL rfl rfl (by decide) (by decide) rfl) ?_
 refine dq (zq (hs' := [zf6 [zfx], zjg [zg3]]) ca65 rfl (WeakL.refl _) (zkY (l := [zfx]) (p := [zg3]) (by decide) (by decide))) ?_
 refine dmv rfl ?_
 refine dq (z6 rfl rfl) ?_
 refine dq (z6 rfl rfl) ?_
 refine dq (z6 rfl rfl) ?_
 refine das rfl ?_
 refine das rfl ?_
 refine das rfl ?_
 refine dn ?_
 simp only [zux, ztF, zrD]
 refine zb ?_
 refine dmv rfl ?_
 refine dq (zaA rfl rfl) ?_
 refine dmv rfl ?_
 refine dg rfl rfl (fun hc => ⟨_, OpenTo.refl _, zg rfl⟩) ?_
 refine dg rfl rfl (fun hc => ⟨_, OpenTo.upd (t := 36) rfl (hc) (OpenTo.refl _), zF znu rfl⟩) ?_
 refine dg rfl rfl (fun hc => ⟨_, OpenTo.upd (t := 37) rfl (hc) (OpenTo.refl _), zaA rfl rfl⟩) ?_
 refine dq (zB rfl (.inr ⟨_, rfl, fun h => by simp_all⟩) (.inl rfl)) ?_
 refine dmv rfl ?_
 refine dg rfl rfl (fun hc => ⟨_, OpenTo.refl _, zg rfl⟩) ?_
 refine dg rfl rfl (fun hc => ⟨_, OpenTo.upd (t := 41) rfl (hc) (OpenTo.refl _), zJ (j := 0) (a := zqB) znu zkS rfl rfl rfl rfl⟩) ?_
 refine dg rfl rfl (fun hc => ⟨_, OpenTo.upd (t := 42) rfl (hc) (OpenTo.refl _), zc zkS rfl zfS (by decide) rfl⟩) ?_
 refine dg rfl rfl (fun hc => ⟨_, OpenTo.upd (t := 43) rfl (hc) (OpenTo.refl _), ze zfS rfl rfl rfl⟩) ?_
 refine dg rfl rfl (fun hc => ⟨_, OpenTo.upd (t := 44) rfl (hc) (OpenTo.refl _), zF zfS rfl⟩) ?_
 refine dg rfl rfl (fun hc => ⟨_, OpenTo.upd (t := 45) rfl (hc) (OpenTo.refl _), zaA rfl rfl⟩) ?_
 refine dq (zB rfl (.inr ⟨_, rfl, fun h => by simp_all⟩) (.inl rfl)) ?_
 refine dmv rfl ?_
 refine dg rfl rfl (fun hc => ⟨_, OpenTo.refl _, zg rfl⟩) ?_
 refine dg rfl rfl (fun hc => ⟨_, OpenTo.upd (t := 49) rfl (hc) (OpenTo.refl _), zaA rfl rfl⟩) ?_
 refine dq (zB rfl (.inr ⟨_, rfl, fun h => by simp_all⟩) (.inl rfl)) ?_
 refine dmv rfl ?_
 refine dg rfl rfl (fun hc => ⟨_, OpenTo.refl _, zg rfl⟩) ?_
 refine dg rfl rfl (fun hc => ⟨_, OpenTo.refl _, zK (hs := [_, _, _, _]) zG ty9 rfl rfl (by decide) (by decide) rfl⟩) ?_
 refine dg rfl rfl (fun hc => ⟨_, OpenTo.upd (t := 54) rfl (hc) (OpenTo.upd (t := 53) rfl (hc) (OpenTo.refl _)), zq ca18 rfl (WeakL.refl _) (zfd (l := [[97], [98], [98], [97]]) (m := [[97], [98], [98], [97]]) (by decide))⟩) ?_
 refine dq (zB rfl (.inr ⟨_, rfl, fun h => by simp_all⟩) (.inl rfl)) ?_
 refine dmv rfl ?_
 refine dg rfl rfl (fun hc => ⟨_, OpenTo.refl _, zg rfl⟩) ?_
 refine dg rfl rfl (fun hc => ⟨_, OpenTo.upd (t := 58) rfl (hc) (OpenTo.refl _), zaA rfl rfl⟩) ?_
 refine dq (zB rfl (.inr ⟨_, rfl, fun h => by simp_all⟩) (.inl rfl)) ?_
 refine dmv rfl ?_
 refine dg rfl rfl (fun hc => ⟨_, OpenTo.refl _, zg rfl⟩) ?_
 refine dg rfl rfl (fun hc => ⟨_, OpenTo.upd (t := 62) rfl (hc) (OpenTo.refl _), zaA rfl rfl⟩) ?_
 refine dq (zB rfl (.inr ⟨_, rfl, fun h => by simp_all⟩) (.inl rfl)) ?_
 refine das rfl ?_
 refine dn ?_
 refine zn ?_
 refine zA rfl ?_
 rfl
end
end Go.Proofs.YtcihcbnjfclkbaaGreatDoor
namespace Go.HL
section
open Op
/-- A list that goes round. -/
structure CycL (to : List Int) (L : List Int) : Prop where
 ne : L ≠ []
 nd : L.Nodup
 nx : ∀ (i : Nat) (a : Int), L[i]? = some a → L[(i + 1) % L.length]? = some (to.getD a.toNat 0)
theorem zp2 {i k m : Nat} (hi : i < m) (hk : k < m) : (i + k) % m = if i + k < m then i + k else i + k - m := by
 split
 ·rename_i h; exact Nat.mod_eq_of_lt h
 ·rw [Nat.mod_eq_sub_mod (by omega), Nat.mod_eq_of_lt (by omega)]
theorem zot {i m : Nat} (hi : i < m) : (i + 1) % m = if i + 1 < m then i + 1 else 0 := by
 split
 ·rename_i h; exact Nat.mod_eq_of_lt h
 ·rw [show i + 1 = m by omega, Nat.mod_self]
theorem zmG {α : Type} {l : List α} {i j : Nat} {a : α} (h : l.Nodup) (h1 : l[i]? = some a) (h2 : l[j]? = some a) : i = j := zfA h h1 h2
theorem zfq {α : Type} {l : List α} (h : ∀ (i j : Nat) (a : α), l[i]? = some a → l[j]? = some a → i = j) : l.Nodup := by
 refine List.pairwise_iff_getElem.2 fun i j hi hj hij e => ?_
 have := h i j l[i] (List.getElem?_eq_getElem hi) (by rw [e]; exact List.getElem?_eq_getElem hj)
 omega
def zlT (L : List Int) (i : Nat) : List Int := (List.range L.length).map fun k => L.getD ((i + k) % L.length) 0
theorem zg1 {L : List Int} {i k : Nat} (hk : k < L.length) : (zlT L i)[k]? = some (L.getD ((i + k) % L.length) 0) := by
 unfold zlT; rw [List.getElem?_map, List.getElem?_range hk]; rfl
theorem zjv {L : List Int} {i : Nat} : (zlT L i).length = L.length := by unfold zlT; simp
theorem ztG {to L : List Int} (h : CycL to L) {i : Nat} (hi : i < L.length) : CycL to (zlT L i) where
 ne e := by have := congrArg List.length e; rw [zjv] at this; simp at this; exact h.ne this
 nd := zfq fun a b x ha hb => by
  have ha1 := zC ha
  have hb1 := zC hb
  rw [zjv] at ha1 hb1
  rw [zg1 ha1] at ha
  rw [zg1 hb1] at hb
  have m1 := zp2 hi ha1
  have m2 := zp2 hi hb1
  have := zmG h.nd (show L[(i + a) % L.length]? = some x by rw [← ha]; exact getD_some (by split at m1 <;> omega)) (show L[(i + b) % L.length]? = some x by rw [← hb]; exact getD_some (by split at m2 <;> omega))
  split at m1 <;> split at m2 <;> omega
 nx k a hk := by
  have hk1 := zC hk
  rw [zjv] at hk1 ⊢
  rw [zg1 hk1] at hk
  have m1 := zp2 hi hk1
  have hx : L[(i + k) % L.length]? = some a := by rw [← hk]; exact getD_some (by split at m1 <;> omega)
  have h0 := h.nx _ _ hx
  have m3 := zot hk1
  have hk2 : (k + 1) % L.length < L.length := by split at m3 <;> omega
  rw [zg1 hk2]
  have e : (i + (k + 1) % L.length) % L.length = ((i + k) % L.length + 1) % L.length := by
   have m4 := zp2 hi hk2
   have m5 := zot (i := (i + k) % L.length) (m := L.length) (by split at m1 <;> omega)
   split at m1 <;> split at m3 <;> split at m4 <;> split at m5 <;> omega
  rw [e, List.getD_eq_getElem?_getD, h0]; rfl
theorem znI {to R : List Int} (h : CycL to R) : ∀ (d t f : Nat), t + d = R.length → 1 ≤ t → d < f → zd5 to f (R.take t) (R.getD (t % R.length) 0) = R
 | 0, t, f, hd, ht, hf => by
   have : t = R.length := by omega
   subst this
   rw [List.take_length, Nat.mod_self]
   obtain ⟨f', rfl⟩ : ∃ f', f = f' + 1 := ⟨f - 1, by omega⟩
   rw [zd5, if_pos]
   rw [List.contains_iff_mem]
   exact List.mem_of_getElem? (getD_some (d := (0 : Int)) (List.length_pos_iff.2 h.ne))
 | d + 1, t, f, hd, ht, hf => by
   obtain ⟨f', rfl⟩ : ∃ f', f = f' + 1 := ⟨f - 1, by omega⟩
   have hlt : t < R.length := by omega
   rw [Nat.mod_eq_of_lt hlt]
   have hg : R[t]? = some (R.getD t 0) := getD_some hlt
   have hn : ¬ (R.take t).contains (R.getD t 0) = true := by
    rw [List.contains_iff_mem]
    intro hm
    obtain ⟨j, hj⟩ := List.getElem?_of_mem hm
    have hj1 := zC hj
    rw [List.length_take] at hj1
    rw [List.getElem?_take_of_lt (by omega)] at hj
    have := zmG h.nd hj hg
    omega
   rw [zd5, if_neg hn]
   have e1 : R.take t ++ [R.getD t 0] = R.take (t + 1) := by rw [List.take_add_one, hg]; rfl
   have e2 : to.getD (R.getD t 0).toNat 0 = R.getD ((t + 1) % R.length) 0 := by
    have := h.nx t _ hg
    rw [List.getD_eq_getElem?_getD (l := R) (i := (t + 1) % R.length), this]; rfl
   rw [e1, e2]
   exact znI h d (t + 1) f' (by omega) (by omega) (by omega)
theorem zst {to R : List Int} (h : CycL to R) {n a : Nat} (ha : R[0]? = some (a : Int)) (hn : R.length ≤ n) : zbS to n a = R ∧ zdS to n a = true := by
 have hp : 0 < R.length := List.length_pos_iff.2 h.ne
 have h1 : R.take 1 = [(a : Int)] := by
  cases R with
  | nil => simp at ha
  | cons x t => simp at ha; simp [ha]
 have h2 : R.getD (1 % R.length) 0 = to.getD a 0 := by
  have := h.nx 0 _ ha
  rw [Int.toNat_natCast, Nat.zero_add] at this
  rw [List.getD_eq_getElem?_getD, this]; rfl
 have e : zbS to n a = R := by
  have := znI h (R.length - 1) 1 n (by omega) (by omega) (by omega)
  rw [h1, h2] at this
  exact this
 refine ⟨e, ?_⟩
 unfold zdS
 rw [e, beq_iff_eq]
 have hl : R[R.length - 1]? = some (R.getLastD 0) := by
  obtain ⟨z, z1, z2⟩ : ∃ z, R[R.length - 1]? = some z ∧ R.getLastD 0 = z := by
   obtain ⟨A, z, rfl⟩ : ∃ A z, R = A ++ [z] := ⟨R.dropLast, R.getLast h.ne, (List.dropLast_concat_getLast h.ne).symm⟩
   exact ⟨z, by simp, by simp⟩
  rw [z1, z2]
 have := h.nx _ _ hl
 rw [show R.length - 1 + 1 = R.length by omega, Nat.mod_self, ha] at this
 simpa using this.symm
/-! a ring that was found -/
theorem zk6 {to : List Int} : ∀ (m : Nat) (L : List Int) (kk : Int), L ≠ [] → (∀ (i : Nat) (a b : Int), L[i]? = some a → L[i + 1]? = some b → b = to.getD a.toNat 0) → kk = to.getD (L.getLastD 0).toNat 0 →
 ∀ (i : Nat) (a b : Int), (zd5 to m L kk)[i]? = some a → (zd5 to m L kk)[i + 1]? = some b → b = to.getD a.toNat 0
 | 0, L, kk, _, h, _ => h
 | m + 1, L, kk, hne, h, hk => by
   rw [zd5]
   split
   ·exact h
   ·refine zk6 m _ _ (by simp) (fun i a b ha hb => ?_) (by simp)
    rcases Nat.lt_or_ge (i + 1) L.length with hi | hi
    ·rw [List.getElem?_append_left (by omega)] at ha hb
     exact h i a b ha hb
    ·have hb1 := zC hb
     simp at hb1
     have e : i + 1 = L.length := by omega
     rw [List.getElem?_append_right (by omega)] at hb
     rw [List.getElem?_append_left (by omega)] at ha
     rw [show i + 1 - L.length = 0 by omega] at hb
     simp at hb
     subst hb
     rw [hk]
     obtain ⟨A, z, e2⟩ : ∃ A z, L = A ++ [z] := ⟨L.dropLast, L.getLast hne, (List.dropLast_concat_getLast hne).symm⟩
     subst e2
     simp at e
     rw [show i = A.length by omega] at ha
     simp at ha
     simp [ha]
theorem zrO {to : List Int} {g : List Bool} (hc : ClosedT to g) {j : Nat} (hj : j < to.length) (hg : g.getD j false = false) (hr : zdS to to.length j = true) : CycL to (zbS to to.length j) ∧ (∀ z ∈ zbS to to.length j, ∃ a : Nat, z = (a : Int) ∧ a < to.length ∧ g.getD a false = false) := by
 have key : ∀ (m : Nat) (L : List Int) (kk : Int), WalkI to g j L kk → to.length + 1 - L.length ≤ m → (zbS to to.length j).Nodup ∧ ∀ z ∈ zbS to to.length j, ∃ a : Nat, z = (a : Int) ∧ a < to.length ∧ g.getD a false = false := by
  intro m
  induction m with
  | zero => intro L kk hw hm; have := hw.len; omega
  | succ m ih =>
    intro L kk hw hm
    cases hcn : L.contains kk with
    | true => rw [hw.done hcn]; exact ⟨hw.nd, hw.all⟩
    | false => exact ih _ _ (hw.step hc hcn) (by simp; omega)
 obtain ⟨h1, h2⟩ := key _ _ _ (WalkI.start hc hj hg) (Nat.le_refl _)
 have hh := ziY (to := to) (n := to.length) (i := j)
 have hch : ∀ (i : Nat) (a b : Int), (zbS to to.length j)[i]? = some a → (zbS to to.length j)[i + 1]? = some b → b = to.getD a.toNat 0 := zk6 _ _ _ (by simp) (fun i a b ha hb => by simp at hb) (by simp)
 have hne : zbS to to.length j ≠ [] := fun e => by rw [e] at hh; cases hh
 refine ⟨⟨hne, h1, fun i a hi => ?_⟩, h2⟩
 have hil := zC hi
 have m1 := zot hil
 split at m1
 ·rename_i hlt
  rw [m1, List.getElem?_eq_getElem hlt]
  rw [hch i a _ hi (List.getElem?_eq_getElem hlt)]
 ·rename_i hlt
  rw [m1, ← List.head?_eq_getElem?, hh]
  unfold zdS at hr
  rw [beq_iff_eq] at hr
  have e : (zbS to to.length j).getLastD 0 = a := by
   generalize zbS to to.length j = R at *
   obtain ⟨A, z, rfl⟩ : ∃ A z, R = A ++ [z] := ⟨R.dropLast, R.getLast hne, (List.dropLast_concat_getLast hne).symm⟩
   simp at hlt hil
   rw [show i = A.length by omega] at hi
   simp at hi
   simp [hi]
  rw [e] at hr
  rw [hr]
/-- The ring that is taken: it goes round, all are there, its first one is the least. -/
theorem zpT {to : List Int} {g : List Bool} (hc : ClosedT to g) (h : zaz to g to.length ≠ []) : CycL to (zaz to g to.length) ∧ (∀ z ∈ zaz to g to.length, ∃ a : Nat, z = (a : Int) ∧ a < to.length ∧ g.getD a false = false) ∧ ∀ z ∈ zaz to g to.length, ∃ f, (zaz to g to.length)[0]? = some f ∧ f ≤ z := by
 obtain ⟨j, _, j2, j3, j4, j5, j6⟩ := zeR h
 have hj : j < to.length := by omega
 obtain ⟨c1, c2⟩ := zrO hc hj j3 j4
 have hL := zkn hc
 have e : zaz to g to.length = zbS to to.length j := j5
 rw [e] at hL ⊢
 refine ⟨c1, c2, fun z hz => ⟨(j : Int), by rw [← List.head?_eq_getElem?]; exact ziY, ?_⟩⟩
 obtain ⟨a, rfl, a2, a3⟩ := c2 z hz
 refine Classical.byContradiction fun hn => ?_
 obtain ⟨i, hi⟩ := List.getElem?_of_mem hz
 have hil := zC hi
 have r0 : (zlT (zbS to to.length j) i)[0]? = some (a : Int) := by
  rw [zg1 (by omega), Nat.add_zero, Nat.mod_eq_of_lt hil, List.getD_eq_getElem?_getD, hi]; rfl
 obtain ⟨_, r2⟩ := zst (ztG c1 hil) (n := to.length) r0 (by rw [zjv]; exact hL)
 exact j6 a (by omega) (by omega) ⟨a3, r2⟩
end
section
open Op
def zk7 (w : List WantS) (a b : Str) : Bool := w.any fun x => (x.Player == a) && x.For.contains b
structure RoundG (w : List WantS) (g : List Bool) (out : List (List Str)) (NX : List (Nat × Nat)) : Prop where
 n1 : (NX.map (·.1)).Nodup
 n2 : (NX.map (·.2)).Nodup
 sm : ∀ a, a ∈ NX.map (·.1) ↔ a ∈ NX.map (·.2)
 at' : ∀ z ∈ NX, z.1 < w.length ∧ z.2 < w.length ∧ g.getD z.1 false = false ∧ ∃ x, w[z.1]? = some x ∧ zbG w z.2 ∈ x.For
 fl : out.flatten = (NX.map (·.1)).map (zbG w)
 rg : ∀ r ∈ out, ∀ (i : Nat) (s : Str), r[i]? = some s → (∃ t, r[(i + 1) % r.length]? = some t ∧ zk7 w s t = true) ∧ ∃ f, r[0]? = some f ∧ bytesLess s f = false
theorem zj1 : ∀ {l : List Int} {g : List Bool}, SubG g (zbT g l)
 | [], g => SubG.refl g
 | k :: t, g => by
   rw [zbT]
   refine SubG.trans (fun i hi => ?_) zj1
   rw [getD_setG]
   split
   ·rfl
   ·exact hi
theorem zpH : ∀ {l : List Int} {g : List Bool} {a : Nat}, (a : Int) ∈ l → a < g.length → (zbT g l).getD a false = true
 | k :: t, g, a, h, ha => by
   rw [zbT]
   rcases List.mem_cons.1 h with e | h
   ·refine zj1 a ?_
    rw [getD_setG, if_pos ⟨by omega, by omega⟩]
   ·exact zpH h (by simpa using ha)
theorem zpt {w : List WantS} {g : List Bool} : ∀ {F : List Str}, 0 ≤ zdw w g F → ∃ s ∈ F, zba w s = zdw w g F
 | [], h => by simp [zdw] at h
 | s :: t, h => by
   rw [zdw] at h ⊢
   split
   ·exact ⟨s, by simp, rfl⟩
   ·rename_i hc
    rw [if_neg hc] at h
    obtain ⟨u, u1, u2⟩ := zpt h
    exact ⟨u, List.mem_cons_of_mem _ u1, u2⟩
theorem zpA {α β : Type} {f : α → β} {l : List α} (h : (l.map f).Nodup) {a b : α} (ha : a ∈ l) (hb : b ∈ l) (e : f a = f b) : a = b := by
 obtain ⟨i, hi⟩ := List.getElem?_of_mem ha
 obtain ⟨j, hj⟩ := List.getElem?_of_mem hb
 have := zfA h (a := f a) (by rw [List.getElem?_map, hi]; rfl) (show _ = _ by rw [List.getElem?_map, hj, e]; rfl)
 subst this
 rw [hi] at hj
 simpa using hj
def nxL (L : List Int) : List (Nat × Nat) := (List.range L.length).map fun i => ((L.getD i 0).toNat, (L.getD ((i + 1) % L.length) 0).toNat)
theorem zqh {w : List WantS} (hs : SortedS (w.map (·.Player))) {g G : List Bool} {out : List (List Str)} {NX : List (Nat × Nat)} (hc : CoreG w g G) (h : zaz (za6 w G) G w.length ≠ []) (hr : RoundG w (zbT G (zaz (za6 w G) G w.length)) out NX) :
 RoundG w g (zdB w (zaz (za6 w G) G w.length) :: out) (nxL (zaz (za6 w G) G w.length) ++ NX) := by
 obtain ⟨cy, all, least⟩ := zpT (zdo hs hc) (by rw [zbk]; exact h)
 rw [zbk] at cy all least
 generalize zaz (za6 w G) G w.length = L at *
 have hp : 0 < L.length := List.length_pos_iff.2 h
 have lt1 : ∀ i, i < L.length → (i + 1) % L.length < L.length := fun i hi => Nat.mod_lt _ hp
 have el : ∀ i, i < L.length → ∃ a : Nat, L[i]? = some (a : Int) ∧ L.getD i 0 = (a : Int) ∧ a < w.length ∧ G.getD a false = false := fun i hi => by
  obtain ⟨a, ha, a2, a3⟩ := all L[i] (List.getElem_mem hi)
  have e : L[i]? = some (a : Int) := by rw [List.getElem?_eq_getElem hi, ha]
  exact ⟨a, e, by rw [List.getD_eq_getElem?_getD, e]; rfl, a2, a3⟩
 have inj : ∀ i j, i < L.length → j < L.length → (L.getD i 0).toNat = (L.getD j 0).toNat → i = j := fun i j hi hj e => by
  obtain ⟨a, a1, a2, _⟩ := el i hi
  obtain ⟨b, b1, b2, _⟩ := el j hj
  rw [a2, b2] at e
  have : a = b := by simpa using e
  subst this
  exact zfA cy.nd a1 b1
 have m1 : ∀ a, a ∈ (nxL L).map (·.1) ↔ ∃ i, i < L.length ∧ a = (L.getD i 0).toNat := fun a => by
  unfold nxL
  rw [List.map_map, List.mem_map]
  constructor
  ·rintro ⟨i, hi, rfl⟩; exact ⟨i, List.mem_range.1 hi, rfl⟩
  ·rintro ⟨i, hi, rfl⟩; exact ⟨i, List.mem_range.2 hi, rfl⟩
 have m2 : ∀ a, a ∈ (nxL L).map (·.2) ↔ ∃ i, i < L.length ∧ a = (L.getD ((i + 1) % L.length) 0).toNat := fun a => by
  unfold nxL
  rw [List.map_map, List.mem_map]
  constructor
  ·rintro ⟨i, hi, rfl⟩; exact ⟨i, List.mem_range.1 hi, rfl⟩
  ·rintro ⟨i, hi, rfl⟩; exact ⟨i, List.mem_range.2 hi, rfl⟩
 have m12 : ∀ a, a ∈ (nxL L).map (·.1) ↔ a ∈ (nxL L).map (·.2) := fun a => by
  rw [m1, m2]
  constructor
  ·rintro ⟨i, hi, rfl⟩
   rcases Nat.eq_zero_or_pos i with q | q
   ·refine ⟨L.length - 1, by omega, ?_⟩
    rw [show L.length - 1 + 1 = L.length by omega, Nat.mod_self, q]
   ·refine ⟨i - 1, by omega, ?_⟩
    rw [show i - 1 + 1 = i by omega, Nat.mod_eq_of_lt hi]
  ·rintro ⟨i, hi, rfl⟩; exact ⟨_, lt1 i hi, rfl⟩
 have gone : ∀ a, a ∈ (nxL L).map (·.1) → (zbT G L).getD a false = true := fun a ha => by
  obtain ⟨i, hi, rfl⟩ := (m1 a).1 ha
  obtain ⟨b, b1, b2, b3, _⟩ := el i hi
  rw [b2, Int.toNat_natCast]
  exact zpH (List.mem_of_getElem? b1) (by rw [hc.len]; exact b3)
 have rest1 : ∀ a, a ∈ NX.map (·.1) → (zbT G L).getD a false = false := fun a ha => by
  obtain ⟨z, hz, rfl⟩ := List.mem_map.1 ha
  exact (hr.at' z hz).2.2.1
 have k1 : ((nxL L).map (·.1)).Nodup := zfq fun i j a hi hj => by
  have hi1 := zC hi
  have hj1 := zC hj
  unfold nxL at hi hj hi1 hj1
  simp only [List.length_map, List.length_range] at hi1 hj1
  rw [List.map_map, List.getElem?_map, List.getElem?_range hi1] at hi
  rw [List.map_map, List.getElem?_map, List.getElem?_range hj1] at hj
  simp at hi hj
  exact inj i j hi1 hj1 (by rw [List.getD_eq_getElem?_getD, List.getD_eq_getElem?_getD, hi, hj])
 have k2 : ((nxL L).map (·.2)).Nodup := zfq fun i j a hi hj => by
  have hi1 := zC hi
  have hj1 := zC hj
  unfold nxL at hi hj hi1 hj1
  simp only [List.length_map, List.length_range] at hi1 hj1
  rw [List.map_map, List.getElem?_map, List.getElem?_range hi1] at hi
  rw [List.map_map, List.getElem?_map, List.getElem?_range hj1] at hj
  simp at hi hj
  have := inj ((i + 1) % L.length) ((j + 1) % L.length) (lt1 i hi1) (lt1 j hj1) (by rw [List.getD_eq_getElem?_getD, List.getD_eq_getElem?_getD, hi, hj])
  have h1 := zot hi1
  have h2 := zot hj1
  split at h1 <;> split at h2 <;> omega
 have pt : ∀ i, i < L.length → ∃ x, w[(L.getD i 0).toNat]? = some x ∧ zbG w (L.getD ((i + 1) % L.length) 0).toNat ∈ x.For := fun i hi => by
  obtain ⟨a, a1, a2, a3, a4⟩ := el i hi
  obtain ⟨b, b1, b2, b3, b4⟩ := el _ (lt1 i hi)
  have hn := cy.nx i _ a1
  rw [b1, Int.toNat_natCast, List.getD_eq_getElem?_getD, zf4 a3] at hn
  have hn : (b : Int) = zbL w G a := by simpa using hn
  obtain ⟨x, hx⟩ : ∃ x, w[a]? = some x := ⟨_, List.getElem?_eq_getElem a3⟩
  rw [a2, b2, Int.toNat_natCast, Int.toNat_natCast]
  refine ⟨x, hx, ?_⟩
  unfold zbL at hn
  rw [if_neg (by rw [a4]; simp), List.getD_eq_getElem?_getD, hx] at hn
  replace hn : (b : Int) = zdw w G x.For := hn
  obtain ⟨s, s1, s2⟩ := zpt (w := w) (g := G) (F := x.For) (by omega)
  obtain ⟨y, hy, he⟩ := (zcW hs (s := s) (k := b)).1 (by omega)
  rw [zc2 hy, he]; exact s1
 refine ⟨?_, ?_, fun a => ?_, fun z hz => ?_, ?_, fun r hr2 => ?_⟩
 ·rw [List.map_append]
  refine List.nodup_append.2 ⟨k1, hr.n1, fun a ha b hb e => ?_⟩
  subst e
  have := gone a ha
  rw [rest1 a hb] at this; cases this
 ·rw [List.map_append]
  refine List.nodup_append.2 ⟨k2, hr.n2, fun a ha b hb e => ?_⟩
  subst e
  have := gone a ((m12 a).2 ha)
  rw [rest1 a ((hr.sm a).2 hb)] at this; cases this
 ·rw [List.map_append, List.map_append, List.mem_append, List.mem_append, m12, hr.sm]
 ·rcases List.mem_append.1 hz with hz | hz
  ·unfold nxL at hz
   obtain ⟨i, hi, rfl⟩ := List.mem_map.1 hz
   have hi := List.mem_range.1 hi
   obtain ⟨a, a1, a2, a3, a4⟩ := el i hi
   obtain ⟨b, b1, b2, b3, b4⟩ := el _ (lt1 i hi)
   refine ⟨by rw [a2]; simpa using a3, by rw [b2]; simpa using b3, ?_, pt i hi⟩
   cases hq : g.getD (L.getD i 0).toNat false with
   | false => rfl
   | true => have := hc.sub _ hq; rw [a2, Int.toNat_natCast, a4] at this; cases this
  ·obtain ⟨h1, h2, h3, h4⟩ := hr.at' z hz
   refine ⟨h1, h2, ?_, h4⟩
   cases hq : g.getD z.1 false with
   | false => rfl
   | true => have := zj1 (l := L) _ (hc.sub _ hq); rw [h3] at this; cases this
 ·rw [List.flatten_cons, hr.fl, List.map_append, List.map_append]
  congr 1
  refine List.ext_getElem? fun i => ?_
  unfold zdB nxL
  rw [List.map_map, List.map_map, List.getElem?_map, List.getElem?_map]
  rcases Nat.lt_or_ge i L.length with hi | hi
  ·obtain ⟨a, a1, a2, _⟩ := el i hi
   rw [List.getElem?_range hi, a1]
   simp only [Option.map_some, Function.comp_apply, a2]
   rfl
  ·rw [List.getElem?_eq_none hi, List.getElem?_eq_none (by simpa using hi)]; rfl
 ·rcases List.mem_cons.1 hr2 with e | hr2
  ·subst e
   intro i s hi
   have hil := zC hi
   unfold zdB at hi hil ⊢
   rw [List.length_map] at hil
   rw [List.length_map, List.getElem?_map, List.getElem?_map]
   obtain ⟨a, a1, a2, a3, a4⟩ := el i hil
   obtain ⟨b, b1, b2, b3, b4⟩ := el _ (lt1 i hil)
   obtain ⟨x, hx, hF⟩ := pt i hil
   rw [a2, Int.toNat_natCast] at hx
   rw [b2, Int.toNat_natCast] at hF
   rw [List.getElem?_map, a1] at hi
   simp at hi
   have hs1 : s = zbG w a := by rw [zbG, List.getD_eq_getElem?_getD]; exact hi.symm
   obtain ⟨f, f1, f2⟩ := least _ (List.mem_of_getElem? a1)
   obtain ⟨f', f3, f4, f5, _⟩ := el 0 hp
   rw [f3] at f1
   simp at f1
   subst f1
   refine ⟨⟨zbG w b, by rw [b1]; rfl, ?_⟩, zbG w f', by rw [f3]; rfl, ?_⟩
   ·unfold zk7
    rw [List.any_eq_true]
    exact ⟨x, List.mem_of_getElem? hx, by rw [hs1, zc2 hx]; simpa using hF⟩
   ·rw [hs1]
    obtain ⟨y, hy⟩ : ∃ x, w[f']? = some x := ⟨_, List.getElem?_eq_getElem f5⟩
    rw [zc2 hx, zc2 hy]
    rcases Nat.lt_or_ge f' a with q | q
    ·exact zbd (hs.get q (by rw [List.getElem?_map, hy]; rfl) (by rw [List.getElem?_map, hx]; rfl))
    ·have : a = f' := by omega
     subst this
     rw [hx] at hy; cases hy
     exact zas _
  ·exact hr.rg r hr2
theorem zue {w : List WantS} (hs : SortedS (w.map (·.Player))) {g : List Bool} {out : List (List Str)} (h : RingsR w g out) : ∃ NX, RoundG w g out NX := by
 induction h with
 | done h h2 => exact ⟨[], ⟨by simp, by simp, fun a => by simp, fun z hz => (by cases hz), rfl, fun r hr => (by cases hr)⟩⟩
 | more h h2 h3 ih =>
   obtain ⟨NX, hN⟩ := ih
   exact ⟨_, zqh hs h h2 hN⟩
end
section
open Op
theorem zmg : ∀ {q : List Nat} {fr : Nat}, zbf fr q = ((zdF fr q).length : Int)
 | [], _ => rfl
 | c :: q, fr => by
   rw [zbf, zdF, zmg]
   by_cases e : c = fr
   ·rw [if_pos e, if_pos e]; omega
   ·rw [if_neg e, if_neg e, List.length_cons]; omega
theorem zkU {o : List OwnerS} {w : List WantS} : ∀ {q : List Nat} {fr : Nat}, zc4 o w fr q = (zdF fr q).map fun z => (⟨zbG w z.2, zaE o (zbG w z.2), zaE o (zbG w z.1)⟩ : GiveS)
 | [], _ => rfl
 | c :: q, fr => by
   rw [zc4, zdF, zkU]
   by_cases e : c = fr
   ·rw [if_pos e, if_pos e.symm]
   ·rw [if_neg e, if_neg (fun h => e h.symm)]; rfl
theorem zrg {w : List WantS} (hs : SortedS (w.map (·.Player))) {q : List Nat} (hq : q.Nodup) (hlt : ∀ c ∈ q, c < w.length) : ((zdF 0 q).map fun z => zbG w z.2).Nodup := by
 have h0 := (zpP (q := q) (fr := 0)).1
 rw [List.pairwise_map] at h0
 refine List.pairwise_map.2 (h0.imp_of_mem fun {a b} ha hb hab he => ?_)
 obtain ⟨i, h1, h2, _⟩ := zhh.1 (show (a.1, a.2) ∈ zdF 0 q from ha)
 obtain ⟨j, g1, g2, _⟩ := zhh.1 (show (b.1, b.2) ∈ zdF 0 q from hb)
 have := zmX hs (hlt _ (List.mem_of_getElem? h2)) (hlt _ (List.mem_of_getElem? g2)) he
 rw [this] at h2
 have := zfA hq h2 g2
 omega
theorem zqR {o : List OwnerS} {w : List WantS} (hw : WantsOk o w) (hl : w.length ≤ 14) {g : List Bool} {out : List (List Str)} {NX : List (Nat × Nat)} (h : RoundG w g out NX) : (NX.length : Int) ≤ zbf 0 (zaO (zbE w)) := by
 obtain ⟨q, q1, q2⟩ := zpr (P := fun i c => (∃ z ∈ NX, z.1 = i ∧ z.2 = c) ∨ (i ∉ NX.map (·.1) ∧ c = i)) w.length fun i _ => by
  by_cases hm : i ∈ NX.map (·.1)
  ·obtain ⟨z, hz, e⟩ := List.mem_map.1 hm
   exact ⟨z.2, .inl ⟨z, hz, e, rfl⟩⟩
  ·exact ⟨i, .inr ⟨hm, rfl⟩⟩
 have hf : zeq (zbE w) q := by
  refine ⟨zrQ (fun i c hc => ?_) ?_, by rw [q1, zf7]⟩
  ·rw [Nat.zero_add]
   rcases q2 i c hc with ⟨z, hz, rfl, rfl⟩ | ⟨_, rfl⟩
   ·obtain ⟨h1, h2, _, x, hx, hF⟩ := h.at' z hz
    refine List.mem_cons_of_mem _ ?_
    rw [zhA hx, zgE hw.srt]
    obtain ⟨y, hy⟩ : ∃ y, w[z.2]? = some y := ⟨_, List.getElem?_eq_getElem h2⟩
    exact ⟨_, hF, y, hy, (zc2 hy).symm⟩
   ·simp
  ·rw [List.nil_append]
   refine zfq fun i j c hi hj => ?_
   rcases q2 i c hi with ⟨z, hz, e1, e2⟩ | ⟨n1, e1⟩ <;> rcases q2 j c hj with ⟨z', hz', e1', e2'⟩ | ⟨n1', e1'⟩
   ·have := zpA h.n2 hz hz' (by rw [e2, e2'])
    rw [← e1, ← e1', this]
   ·exact absurd ((h.sm j).2 (by rw [← e1', ← e2]; exact List.mem_map.2 ⟨z, hz, rfl⟩)) n1'
   ·exact absurd ((h.sm i).2 (by rw [← e1, ← e2']; exact List.mem_map.2 ⟨z', hz', rfl⟩)) n1
   ·rw [← e1, ← e1']
 have hcq : (NX.length : Int) ≤ zbf 0 q := by
  rw [zmg]
  have := zeU (l := NX.map (·.1)) (m := (zdF 0 q).map (·.1)) h.n1 fun a ha => by
   obtain ⟨z, hz, rfl⟩ := List.mem_map.1 ha
   obtain ⟨h1, h2, _, x, hx, hF⟩ := h.at' z hz
   obtain ⟨c, hc⟩ : ∃ c, q[z.1]? = some c := ⟨_, List.getElem?_eq_getElem (by omega)⟩
   have hcz : c = z.2 := by
    rcases q2 _ c hc with ⟨z', hz', e1, e2⟩ | ⟨n1, _⟩
    ·have := zpA h.n1 hz' hz e1
     rw [← e2, this]
    ·exact absurd (List.mem_map.2 ⟨z, hz, rfl⟩) n1
   refine List.mem_map.2 ⟨(z.1, c), zhh.2 ⟨z.1, by omega, hc, fun e => ?_⟩, rfl⟩
   rw [hcz] at e
   exact zt8 hw hx (by rw [← zc2 hx, ← e]; exact hF)
  rw [List.length_map, List.length_map] at this
  omega
 by_cases e : q = zaO (zbE w)
 ·rw [← e]; exact hcq
 ·rcases (zk2 (zg5 hw hl)).2 q hf e with h1 | ⟨h1, _⟩ <;> omega
theorem zmS : ∀ {o : List OwnerS} {s : Str}, zaE o s ≠ [] → (⟨s, zaE o s⟩ : OwnerS) ∈ o
 | [], s, h => absurd rfl h
 | x :: t, s, h => by
   rw [zaE] at h ⊢
   split
   ·rename_i e
    subst e
    exact List.mem_cons_self
   ·rename_i e
    rw [if_neg e] at h
    exact List.mem_cons_of_mem _ (zmS h)
structure GivesOk (o : List OwnerS) (G : List GiveS) : Prop where
 srt : G.Pairwise fun a b => bytesLess a.Player b.Player = true
 all : ∀ x ∈ G, x.From ≠ x.To ∧ (⟨x.Player, x.From⟩ : OwnerS) ∈ o
theorem zql {m : MarketS} {o : List OwnerS} {w : List WantS} (h : zar m o w = 0) (hl : w.length ≤ 14) : GivesOk o (zcg m o w) ∧ ((zcg m o w).length : Int) = zbf 0 (zaO (zbE w)) := by
 obtain ⟨_, hw⟩ := zeH h
 obtain ⟨hf, _⟩ := zk2 (zg5 hw hl)
 have hrl := zl5 hw hl
 have hrt := zrS hw hl
 have hnd : (zaO (zbE w)).Nodup := by simpa using zlv (g := []) (by simp) hf.1
 have hnm := zrg hw.srt hnd hrt
 have e : zcg m o w = zaY zgK (zc4 o w 0 (zaO (zbE w))) := if_pos h
 refine ⟨⟨?_, fun x hx => ?_⟩, ?_⟩
 ·rw [e]
  have h1 := ziV (s := fun _ => True) zrC (l := zc4 o w 0 (zaO (zbE w))) fun _ _ => trivial
  have h2 : ((zaY zgK (zc4 o w 0 (zaO (zbE w)))).map (·.Player)).Nodup := by
   refine ((zd4 zgK _).map _).nodup_iff.2 ?_
   rw [zkU, List.map_map]
   exact hnm
  have h2' : (zaY zgK (zc4 o w 0 (zaO (zbE w)))).Pairwise fun a b => a.Player ≠ b.Player := List.pairwise_map.1 h2
  refine (h1.and h2').imp fun {a b} hab => ?_
  rw [← zhc]
  have h3 : za4 a.Player b.Player ≠ 0 := fun q => hab.2 (zdZ.1 q)
  have h4 : za4 a.Player b.Player ≤ 0 := hab.1
  omega
 ·rw [e, ziM, zkU] at hx
  obtain ⟨z, hz, rfl⟩ := List.mem_map.1 hx
  obtain ⟨j, h1, h2, h3⟩ := zhh.1 (show (z.1, z.2) ∈ zdF 0 (zaO (zbE w)) from hz)
  have hjl := zC h2
  rw [hrl] at hjl
  have hm := (zg7 hf.1 j z.2 h2).2
  rw [Nat.zero_add] at hm
  obtain ⟨x, hx⟩ : ∃ x, w[j]? = some x := ⟨_, List.getElem?_eq_getElem hjl⟩
  have hz1 : z.1 = j := by omega
  rcases List.mem_cons.1 hm with e' | hm
  ·exact absurd (by omega) h3
  rw [zhA hx, zgE hw.srt] at hm
  obtain ⟨s, hs, y, hy, he⟩ := hm
  have hn : zbG w z.2 = s := by rw [zc2 hy, he]
  obtain ⟨f1, f2⟩ := hw.ftm x (List.mem_of_getElem? hx) s hs
  dsimp only
  rw [hn, hz1, zc2 hx]
  exact ⟨f2, zmS f1⟩
 ·rw [e, zcc, zkU, List.length_map, zmg]
theorem zss {i n : Nat} : ((i : Int) + 1).tmod (n : Int) = (((i + 1) % n : Nat) : Int) := by
 show ((i + 1 : Nat) : Int).tmod (n : Int) = _
 rfl
structure RoundLaw (m : MarketS) (o : List OwnerS) (w : List WantS) : Prop where
 nd : ((zbe w).flatten).Nodup
 le : ((zbe w).flatten).length ≤ (zcg m o w).length
 few : ((zbe w).flatten).length ≤ w.length
 rg : ∀ r ∈ zbe w, ∀ (i : Nat) (s : Str), r[i]? = some s → (∃ t, r[(i + 1) % r.length]? = some t ∧ zk7 w s t = true) ∧ ∃ f, r[0]? = some f ∧ bytesLess s f = false
 gv : GivesOk o (zcg m o w)
theorem zrp {m : MarketS} {o : List OwnerS} {w : List WantS} (h : zar m o w = 0) (hl : w.length ≤ 14) : RoundLaw m o w := by
 obtain ⟨_, hw⟩ := zeH h
 obtain ⟨NX, hN⟩ := zue hw.srt (zlM w)
 obtain ⟨g1, g2⟩ := zql h hl
 have hmm := zqR hw hl hN
 have hlt : ∀ a ∈ NX.map (·.1), a < w.length := fun a ha => by
  obtain ⟨z, hz, rfl⟩ := List.mem_map.1 ha
  exact (hN.at' z hz).1
 have hle : (NX.map (·.1)).length ≤ w.length := by
  have := zeU (m := List.range w.length) hN.n1 fun a ha => List.mem_range.2 (hlt a ha)
  rwa [List.length_range] at this
 rw [List.length_map] at hle
 refine ⟨?_, by rw [hN.fl, List.length_map, List.length_map]; omega, by rw [hN.fl, List.length_map, List.length_map]; exact hle, hN.rg, g1⟩
 rw [hN.fl]
 exact List.pairwise_map.2 (hN.n1.imp_of_mem fun {a b} ha hb hab e => hab (zmX hw.srt (hlt a ha) (hlt b hb) e))
theorem zp6 {m : MarketS} {o : List OwnerS} {w : List WantS} (h1 : zat m = 0) (h2 : zcI m o = 0) (h3 : zY o w = 0) : zar m o w = 0 := by
 have h4 : ¬ zat m ≠ 0 := by simp [h1]
 rw [zar, zce, if_neg h4, if_neg (by simp [h2]), h3]
theorem ztC {o : List OwnerS} {y : OwnerS} (h : y ∈ o) : (o.any fun z => zhS zaF y z) = true := by
 rw [List.any_eq_true]
 exact ⟨y, h, by simp [zhS, zm, zgs, eqH]⟩
theorem zqi {o : List OwnerS} {G : List GiveS} (h : GivesOk o G) {k : Nat} {x : GiveS} (hx : G[k]? = some x) (hk : 0 < k) : (bytesLess x.Player (G.getD (k - 1) zlt).Player || x.Player == (G.getD (k - 1) zlt).Player) = false := by
 have hkl := zC hx
 have hp : G[k - 1]? = some (G.getD (k - 1) zlt) := getD_some (by omega)
 generalize G.getD (k - 1) zlt = y at hp
 have h1 : bytesLess y.Player x.Player = true := by
  have := List.pairwise_iff_getElem.1 h.srt (k - 1) k (by omega) hkl (by omega)
  rw [List.getElem?_eq_getElem (by omega)] at hp hx
  simp at hp hx
  rwa [hp, hx] at this
 rw [zbd h1, Bool.false_or, beq_eq_false_iff_ne]
 intro e
 rw [e, zas] at h1
 cases h1
theorem zrk {α : Type} {L : List (List α)} {k : Nat} {x : List α} (h : L[k]? = some x) : (L.take (k + 1)).flatten = (L.take k).flatten ++ x ∧ (L.take k).flatten.length + x.length ≤ L.flatten.length := by
 have e : L.take (k + 1) = L.take k ++ [x] := by rw [List.take_add_one, h]; rfl
 have e2 : (L.take (k + 1)).flatten = (L.take k).flatten ++ x := by rw [e, List.flatten_append]; simp
 refine ⟨e2, ?_⟩
 have := congrArg (fun q : List (List α) => q.flatten.length) (List.take_append_drop (k + 1) L)
 simp only [List.flatten_append, List.length_append] at this
 rw [e2, List.length_append] at this
 omega
end
section
theorem znG {r : Room} {k : List Keep} {fr l : List Pick} : ∀ (t : List Pick) (i : Nat), l.drop i = t → (∀ (j : Nat) (p : Pick), i ≤ j → l[j]? = some p → pkF r k fr (l.take j) p = 0) → zfo r k fr l i t = 0
 | [], _, _, _ => rfl
 | x :: t, i, hd, h => by
   have hx : l[i]? = some x := by
    have := congrArg (fun q => q[0]?) hd
    simpa [List.getElem?_drop] using this
   have hd' : l.drop (i + 1) = t := by
    have := zQ hx
    rw [hd] at this
    exact (List.cons.inj this).2.symm
   rw [zte (h i x (Nat.le_refl _) hx)]
   exact znG t (i + 1) hd' fun j p hj hp => h j p (by omega) hp
section
variable {r : Room} {k : List Keep} {s : List Swap} {l : List Pick} {w : List Wish}
theorem zqO (h : zeo r k s l = 0) (hl : l.length < (zb7 r k s).length) {p : Pick} (hp : pkF r k (zb7 r k s) l p = 0) : zeo r k s (l ++ [p]) = 0 := by
 obtain ⟨h1, h2, h3⟩ := zif h
 unfold zeo zsO
 rw [if_neg (by simp [h1]), if_neg (by simp; omega)]
 refine znG _ 0 rfl fun j q _ hq => ?_
 rcases Nat.lt_or_ge j l.length with hj | hj
 ·rw [List.getElem?_append_left hj] at hq
  rw [List.take_append_of_le_length (Nat.le_of_lt hj)]
  exact zkA l 0 rfl h3 j q (Nat.zero_le _) hq
 ·have hlt := zC hq
  rw [List.length_append, List.length_singleton] at hlt
  have e : j = l.length := by omega
  subst e
  simp only [List.getElem?_concat_length, Option.some.injEq] at hq
  rw [List.take_left' rfl, ← hq]; exact hp
theorem ziq {g : Str → Bool} {t : Str} : ∀ {w : List Wish} {x : Str}, zga g t w = some x → (∃ y ∈ w, x ∈ y.Players) ∧ g x = false
 | [], x, h => by simp [zga] at h
 | y :: w, x, h => by
   unfold zga at h
   by_cases e : y.Team = t
   ·rw [if_pos e] at h
    cases hf : y.Players.find? (fun s => !(g s)) with
    | some z =>
      rw [hf] at h
      simp only [Option.some.injEq] at h
      subst h
      obtain ⟨a, b⟩ := znY hf
      exact ⟨⟨y, List.mem_cons_self, a⟩, by simpa using b⟩
    | none =>
      rw [hf] at h
      obtain ⟨⟨y', a, b⟩, c⟩ := ziq h
      exact ⟨⟨y', List.mem_cons_of_mem _ a, b⟩, c⟩
   ·rw [if_neg e] at h
    obtain ⟨⟨y', a, b⟩, c⟩ := ziq h
    exact ⟨⟨y', List.mem_cons_of_mem _ a, b⟩, c⟩
theorem ztE (h : zdl r k s = 0) (hl : l.length < (zb7 r k s).length) (hw : ∀ y ∈ w, ∀ x ∈ y.Players, x ∈ r.Players) (t : Str) : zis r (zcE k l) w t ∈ r.Players ∧ zcE k l (zis r (zcE k l) w t) = false := by
 unfold zis
 cases hg : zga (zcE k l) t w with
 | some x =>
   obtain ⟨⟨y, a, b⟩, c⟩ := ziq hg
   exact ⟨hw y a x b, c⟩
 | none =>
   have h0 := ztw h hl
   obtain ⟨x, hx⟩ := List.exists_mem_of_length_pos h0
   obtain ⟨h1, h2⟩ := List.mem_filter.1 hx
   cases hf : r.Players.find? (fun s => !(zcE k l s)) with
   | none => exact absurd h2 (by simpa using List.find?_eq_none.1 hf x h1)
   | some z =>
     obtain ⟨a, b⟩ := znY hf
     exact ⟨a, by simpa using b⟩
theorem zrs (h : zeo r k s l = 0) (hl : l.length < (zb7 r k s).length) (hw : ∀ y ∈ w, ∀ x ∈ y.Players, x ∈ r.Players) {n : Int} (hm : zcX n = true) (hn : zgm r l ≤ n) : zeo r k s (l ++ [zsV r k (zb7 r k s) w l n]) = 0 := by
 obtain ⟨a, b⟩ := ztE (t := ((zb7 r k s).getD l.length ze3).Team) (zif h).1 hl hw
 exact zqO h hl (pf0 hm rfl rfl a b (by show ¬ n < zgm r l; omega))
/-- What picks by lists have been so far. -/
structure AutOk (r : Room) (k : List Keep) (s : List Swap) (w : List Wish) (at' : Int) (l : List Pick) : Prop where
 ok : zeo r k s l = 0
 auto : ∀ p ∈ l, p.Auto = true ∧ p.At ≤ at'
 reg : ∀ (j : Nat) (p : Pick), l[j]? = some p → p.Player = zis r (zcE k (l.take j)) w p.Team
theorem AutOk.step {at' : Int} (h : AutOk r k s w at' l) (hl : l.length < (zb7 r k s).length) (hw : ∀ y ∈ w, ∀ x ∈ y.Players, x ∈ r.Players) (hc : 0 ≤ r.Clock) (hd : dueB r l at' = true) : AutOk r k s w at' (l ++ [zsV r k (zb7 r k s) w l (zgm r l + r.Clock)]) := by
 simp only [dueB, Bool.and_eq_true, decide_eq_true_eq] at hd
 refine ⟨zrs h.ok hl hw hd.1 (by omega), fun p hp => ?_, fun j p hp => ?_⟩
 ·rcases List.mem_append.1 hp with hp | hp
  ·exact h.auto p hp
  ·rw [List.mem_singleton.1 hp]; exact ⟨rfl, hd.2⟩
 ·rcases Nat.lt_or_ge j l.length with hj | hj
  ·rw [List.getElem?_append_left hj] at hp
   rw [List.take_append_of_le_length (Nat.le_of_lt hj)]
   exact h.reg j p hp
  ·have hlt := zC hp
   rw [List.length_append, List.length_singleton] at hlt
   have e : j = l.length := by omega
   subst e
   simp only [List.getElem?_concat_length, Option.some.injEq] at hp
   rw [List.take_left' rfl, ← hp]; rfl
end
end
section
section
variable {r : Room} {k : List Keep} {s : List Swap} {l : List Pick} {w : List Wish}
theorem zni {l : List Str} (h : l.Nodup) : (Lib.compact (zaJ l)).length = l.length := by
 have h1 := zqu l
 unfold zmi at h1
 have h2 := zkR (zaJ l)
 rw [zcP] at h2
 have h3 : ¬ (Lib.compact (zaJ l)).length < l.length := by
  intro hc
  rw [decide_eq_true hc] at h1
  simp [h] at h1
 omega
end
end
end Go.HL
namespace Go.Proofs.YtcihcbnjfclkbaaGreatDoor
set_option maxRecDepth 100000
set_option linter.unusedVariables false
set_option linter.unusedSimpArgs false
section
open Go.HL
/-- slices.IndexFunc[[]benchwarmer/api.Wants,benchwarmer/api.Wants] -/
theorem zdG [Tracks] {l : List WantS} {fid : FuncId} {caps : List HVal} {p : WantS → Bool} (hca : Callable Tryz.prog fid) (hp : ∀ x ∈ l, ConP Tryz.prog fid ([zbY x] ++ caps) (.bool (p x))) (hl : l.length ≤ 1000000) : ConP Tryz.prog 66 [zc8 l, .fn (.func fid) [] caps] (.int .i64 (zbN p l 0)) := by
 refine Con.of_body Tryz.func66 rfl Tryz.ntmps66 rfl rfl ?_
 refine zb ?_
 refine das rfl ?_
 refine dn ?_
 refine zh ?_
 refine zb ?_
 refine dmv rfl ?_
 refine dq (zF zbj rfl) ?_
 refine dmv rfl ?_
 refine dn ?_
 refine zl ?_
 refine zZ [4, 5, 8, 9, 10, 11, 12, 13, 14, 15, 16, 17, 18] (fun (k : Nat) => [(8, .int .i64 k)]) (fun (k : Nat) => []) (fun (k : Nat) => k ≤ l.length ∧ (zbN p l 0 = zbN p (l.drop k) k)) (fun (k : Nat) => l.length - k) (0) ?_ ?_ ?_ ?_
 ·exact ⟨Nat.zero_le _, rfl⟩
 ·exact ⟨rfl, trivial⟩
 ·exact List.Perm.refl _
 ·intro k hinv
  obtain ⟨hk, hg⟩ := hinv
  refine zb ?_
  refine dq (zO rfl rfl) ?_
  refine dn ?_
  refine zh ?_
  refine zj rfl (fun h1 => ?_) (fun h2 => ?_)
  ·try simp at h1
   obtain ⟨x, hx⟩ : ∃ x, l[k]? = some x := ⟨_, List.getElem?_eq_getElem h1⟩
   have hdx := zQ hx
   rw [hdx] at hg
   refine zk ?_
   refine zf ?_
   refine zh ?_
   refine zl ?_
   refine zb ?_
   refine dmv rfl ?_
   refine das rfl ?_
   refine dn ?_
   refine zb ?_
   refine dmv rfl ?_
   refine dmv rfl ?_
   refine dmv rfl ?_
   refine dq (zJ zbj zaj rfl rfl rfl (by first | assumption | simp_all)) ?_
   refine dq (zV zaj rfl rfl rfl rfl) ?_
   refine dq (zdj hca rfl rfl (WeakL.refl _) (hp x (List.mem_of_getElem? hx))) ?_
   refine dn ?_
   refine zj rfl (fun h3 => ?_) (fun h4 => ?_)
   ·try simp at h3
    refine zb ?_
    refine dmv rfl ?_
    refine das rfl ?_
    refine dn ?_
    refine zn ?_
    refine zA rfl ?_
    show HVal.int .i64 _ = _
    first | (rw [hg]; rfl) | (rw [hg]; simp_all [zbN])
   ·try simp at h4
    refine zk ?_
    refine zz ?_
    refine zf ?_
    refine zy ?_
    refine dq (zv rfl rfl (by omega) (by omega)) ?_
    refine dmv rfl ?_
    refine dn ?_
    refine ⟨k + 1, ?_, ?_, ⟨rfl, trivial⟩, (by repeat (first | exact zo | refine zt rfl ?_ | refine zp rfl rfl ?_)), List.Perm.refl _⟩
    ·refine ⟨by omega, ?_⟩
     rw [hg, zbN, if_neg (by simp_all)]; rfl
    ·dsimp only; omega
  ·try simp at h2
   have hnk : l.length ≤ k := by omega
   obtain rfl : k = l.length := by omega
   rw [zad (Nat.le_refl _)] at hg
   refine zN ?_
   refine zT ?_
   refine zah ?_
   refine zD ?_
   refine zf ?_
   refine zb ?_
   refine das rfl ?_
   refine dn ?_
   refine zn ?_
   refine zA rfl ?_
   show HVal.int .i64 _ = _
   first | (rw [hg]; rfl) | (rw [hg]; simp_all [zbN])

/-- slices.ContainsFunc[[]benchwarmer/api.Wants,benchwarmer/api.Wants] -/
theorem zij [Tracks] {l : List WantS} {fid : FuncId} {caps : List HVal} {p : WantS → Bool} (hca : Callable Tryz.prog fid) (hp : ∀ x ∈ l, ConP Tryz.prog fid ([zbY x] ++ caps) (.bool (p x))) (hl : l.length ≤ 1000000) : ConP Tryz.prog 23 [zc8 l, .fn (.func fid) [] caps] (.bool (l.any p)) := by
 refine Con.of_body Tryz.func23 rfl Tryz.ntmps23 rfl rfl ?_
 refine zb ?_
 refine das rfl ?_
 refine dn ?_
 refine zb ?_
 refine dmv rfl ?_
 refine dmv rfl ?_
 refine dq (zq ca66 rfl (WeakL.refl _) (zdG (p := p) hca hp hl)) ?_
 refine dq (zbJ rfl rfl) ?_
 refine das rfl ?_
 refine dn ?_
 refine zn ?_
 refine zA rfl ?_
 congr 1; exact zej p l 0 (by omega)

/-- slices.Index[[]benchwarmer/api.Owner,benchwarmer/api.Owner] -/
theorem zee [Tracks] {l : List OwnerS} {y : OwnerS} (hl : l.length ≤ 1000000) : ConP Tryz.prog 70 [zb4 l, zaF y] (.int .i64 (zbN (fun z => zhS zaF y z) l 0)) := by
 refine Con.of_body Tryz.func70 rfl Tryz.ntmps70 rfl rfl ?_
 refine zb ?_
 refine dq (zaC rfl rfl) ?_
 refine das rfl ?_
 refine dn ?_
 refine zh ?_
 refine zb ?_
 refine dmv rfl ?_
 refine dq (zF zaV rfl) ?_
 refine dmv rfl ?_
 refine dn ?_
 refine zl ?_
 refine zZ [4, 5, 8, 9, 10, 11, 12, 13, 14, 15, 16, 17, 18] (fun (k : Nat) => [(8, .int .i64 k)]) (fun (k : Nat) => []) (fun (k : Nat) => k ≤ l.length ∧ (zbN (fun z => zhS zaF y z) l 0 = zbN (fun z => zhS zaF y z) (l.drop k) k)) (fun (k : Nat) => l.length - k) (0) ?_ ?_ ?_ ?_
 ·exact ⟨Nat.zero_le _, rfl⟩
 ·exact ⟨rfl, trivial⟩
 ·exact List.Perm.refl _
 ·intro k hinv
  obtain ⟨hk, hg⟩ := hinv
  refine zb ?_
  refine dq (zO rfl rfl) ?_
  refine dn ?_
  refine zh ?_
  refine zj rfl (fun h1 => ?_) (fun h2 => ?_)
  ·try simp at h1
   obtain ⟨x, hx⟩ : ∃ x, l[k]? = some x := ⟨_, List.getElem?_eq_getElem h1⟩
   have hdx := zQ hx
   rw [hdx] at hg
   refine zk ?_
   refine zf ?_
   refine zh ?_
   refine zl ?_
   refine zb ?_
   refine dmv rfl ?_
   refine das rfl ?_
   refine dn ?_
   refine za9 (fun _ => True) [] mixed ?_
   refine ahp 0 rfl rfl (by kernel_rfl) (by kernel_rfl) (zV zae rfl rfl rfl rfl) ?_
   refine ahp 1 rfl rfl (by kernel_rfl) (by kernel_rfl) (zg rfl) ?_
   refine ahp 2 rfl rfl (by kernel_rfl) (by kernel_rfl) (zg rfl) ?_
   refine ahp 3 rfl rfl (by kernel_rfl) (by kernel_rfl) (zJ zaV zae rfl rfl rfl (by first | assumption | simp_all)) ?_
   refine ahp 4 rfl rfl (by kernel_rfl) (by kernel_rfl) (zV zae rfl rfl rfl rfl) ?_
   refine ahp 5 rfl rfl (by kernel_rfl) (by kernel_rfl) (zsm zae eq65 rfl rfl ⟨rfl, ⟨_, _, _, _, ty9, rfl⟩, ⟨rfl, ⟨_, _, _, _, ty9, rfl⟩, trivial⟩⟩) ?_
   refine ahz (by kernel_rfl) ?_
   refine zj rfl (fun h3 => ?_) (fun h4 => ?_)
   ·try simp at h3
    refine zb ?_
    refine dmv rfl ?_
    refine das rfl ?_
    refine dn ?_
    refine zn ?_
    refine zA rfl ?_
    show HVal.int .i64 _ = _
    first | (rw [hg]; rfl) | (rw [hg, zbN, if_pos (show zhS zaF y x = true from h3)])
   ·try simp at h4
    refine zk ?_
    refine zz ?_
    refine zf ?_
    refine zy ?_
    refine dq (zv rfl rfl (by omega) (by omega)) ?_
    refine dmv rfl ?_
    refine dn ?_
    refine ⟨k + 1, ?_, ?_, ⟨rfl, trivial⟩, (by repeat (first | exact zo | refine zt rfl ?_ | refine zp rfl rfl ?_)), List.Perm.refl _⟩
    ·refine ⟨by omega, ?_⟩
     rw [hg, zbN, if_neg (by rw [show zhS zaF y x = false from h4]; simp)]; rfl
    ·dsimp only; omega
  ·try simp at h2
   have hnk : l.length ≤ k := by omega
   obtain rfl : k = l.length := by omega
   rw [zad (Nat.le_refl _)] at hg
   refine zN ?_
   refine zT ?_
   refine zah ?_
   refine zD ?_
   refine zf ?_
   refine zb ?_
   refine das rfl ?_
   refine dn ?_
   refine zn ?_
   refine zA rfl ?_
   show HVal.int .i64 _ = _
   first | (rw [hg]; rfl) | (rw [hg, zbN, if_pos (show zhS zaF y x = true from h3)])

/-- slices.Contains[[]benchwarmer/api.Owner,benchwarmer/api.Owner] -/
theorem zdL [Tracks] {l : List OwnerS} {y : OwnerS} (hl : l.length ≤ 1000000) : ConP Tryz.prog 29 [zb4 l, zaF y] (.bool (l.any fun z => zhS zaF y z)) := by
 refine Con.of_body Tryz.func29 rfl Tryz.ntmps29 rfl rfl ?_
 refine zb ?_
 refine dq (zaC rfl rfl) ?_
 refine das rfl ?_
 refine dn ?_
 refine zb ?_
 refine dmv rfl ?_
 refine dq (zV zae rfl rfl rfl rfl) ?_
 refine dq (zq ca70 rfl (WeakL.refl _) (zee (by first | assumption | omega | (simp; omega) | simp_all))) ?_
 refine dq (zbJ rfl rfl) ?_
 refine das rfl ?_
 refine dn ?_
 refine zn ?_
 refine zA rfl ?_
 show HVal.bool _ = _
 rw [← zej _ l 0 (by omega)]

/-- benchwarmer/benchkeep1.RingsGoRound$1$1 -/
theorem ze7 [Tracks] {x : WantS} {s t : Str} (hf : x.For.length ≤ 1000000) : ConP Tryz.prog 24 [zbY x, .vptr [.str s] 0, .vptr [.str t] 0] (.bool ((x.Player == s) && x.For.contains t)) := by
 refine Con.of_body Tryz.func24 rfl Tryz.ntmps24 rfl rfl ?_
 refine zb ?_
 refine dq (zaC rfl rfl) ?_
 refine das rfl ?_
 refine dn ?_
 refine zb ?_
 refine dq (zc zaj rfl ty9 (by decide) rfl) ?_
 refine dq (ze ty9 rfl rfl rfl) ?_
 refine dq (ze ty9 rfl rfl rfl) ?_
 refine dq (zaX rfl rfl) ?_
 refine dmv rfl ?_
 refine dg rfl rfl (fun hc => ⟨_, OpenTo.refl _, zc zaj rfl zG (by decide) rfl⟩) ?_
 refine dg rfl rfl (fun hc => ⟨_, OpenTo.upd (t := 10) rfl (by first | exact hc | simp_all) (OpenTo.refl _), ze zG rfl rfl rfl⟩) ?_
 refine dg rfl rfl (fun hc => ⟨_, OpenTo.refl _, ze ty9 rfl rfl rfl⟩) ?_
 refine dg rfl rfl (fun hc => by have hq := hc; (try simp at hq); exact ⟨_, OpenTo.upd (t := 12) rfl (by first | exact hc | simp_all) (OpenTo.upd (t := 11) rfl (by first | exact hc | simp_all) (OpenTo.refl _)), zq zi8 rfl (WeakL.refl _) (zay (l := x.For) (s := t) (by omega))⟩) ?_
 refine dq (zB rfl (.inr ⟨_, rfl, fun h => by simp_all⟩) (.inl rfl)) ?_
 refine das rfl ?_
 refine dn ?_
 refine zn ?_
 refine zA rfl ?_
 show HVal.bool _ = _
 cases x.Player == s <;> simp_all

/-- benchwarmer/benchkeep1.RingsGoRound$1 -/
theorem zfu [Tracks] {w : List WantS} {s t : Str} (hw : w.length ≤ 1000000) (hf : ∀ x ∈ w, x.For.length ≤ 1000000) : ConP Tryz.prog 22 [.str s, .str t, .vptr [zc8 w] 0] (.bool (zk7 w s t)) := by
 refine Con.of_body Tryz.func22 rfl Tryz.ntmps22 rfl rfl ?_
 refine zb ?_
 refine dq (zaC rfl rfl) ?_
 refine dq (zaC rfl rfl) ?_
 refine das rfl ?_
 refine dn ?_
 refine zb ?_
 refine dq (ze zbj rfl rfl rfl) ?_
 refine dq (zcx rfl rfl) ?_
 refine dq (zq ca23 rfl (WeakL.refl _) (zij (l := w) (p := fun x => (x.Player == s) && x.For.contains t) ca24 (fun x hx => ze7 (hf x hx)) hw)) ?_
 refine das rfl ?_
 refine dn ?_
 refine zn ?_
 refine zA rfl ?_
 rfl

set_option maxHeartbeats 4000000 in
/-- benchwarmer/benchkeep1.RingsGoRound -/
theorem zdH [Tracks] {l : List Int} (hT : Tracks.on = false) : ConP Tryz.prog 4 [.slice 1 (l.map (.int .i64))] (.bool true) := by
 refine Con.of_body Tryz.func4 rfl Tryz.ntmps4 rfl rfl ?_
 refine zb ?_
 refine das rfl ?_
 refine dn ?_
 refine zb ?_
 refine dmv rfl ?_
 refine dq (zaG (cs := [_, _]) zgX pl25 rfl) ?_
 refine de rfl (zpE rfl rfl fun b => ?_)
 refine zrI (M' := [St b l 0]) rfl ?_
 refine das rfl ?_
 refine dn ?_
 refine zb ?_
 refine dmv rfl ?_
 first
 | refine de rfl (zi (i := 0) ca5 rfl (WeakL.refl _) rfl (zbH (by first | assumption | omega | (simp; omega) | simp_all)) ?_)
 | refine de rfl (zi (i := 1) ca5 rfl (WeakL.refl _) rfl (zbH (by first | assumption | omega | (simp; omega) | simp_all)) ?_)
 | refine de rfl (zi (i := 2) ca5 rfl (WeakL.refl _) rfl (zbH (by first | assumption | omega | (simp; omega) | simp_all)) ?_)
 | refine de rfl (zi (i := 3) ca5 rfl (WeakL.refl _) rfl (zbH (by first | assumption | omega | (simp; omega) | simp_all)) ?_)
 rintro _ _ ⟨m23, a23, rfl, hm23, ha23, rfl⟩
 refine de rfl (zX z7 rfl fun b4 => ?_)
 first
 | refine de0 (zx (i := 0) z7 rfl rfl rfl rfl rfl (Nat.le_of_ble_eq_true rfl) ?_)
 | refine de0 (zx (i := 1) z7 rfl rfl rfl rfl rfl (Nat.le_of_ble_eq_true rfl) ?_)
 | refine de0 (zx (i := 2) z7 rfl rfl rfl rfl rfl (Nat.le_of_ble_eq_true rfl) ?_)
 | refine de0 (zx (i := 3) z7 rfl rfl rfl rfl rfl (Nat.le_of_ble_eq_true rfl) ?_)
 refine dn ?_
 refine zb ?_
 refine dq (zw z7 rfl ty3 (by decide) rfl) ?_
 first
 | refine de0 (zx (i := 0) ty3 rfl rfl rfl rfl rfl (Nat.le_of_ble_eq_true rfl) ?_)
 | refine de0 (zx (i := 1) ty3 rfl rfl rfl rfl rfl (Nat.le_of_ble_eq_true rfl) ?_)
 | refine de0 (zx (i := 2) ty3 rfl rfl rfl rfl rfl (Nat.le_of_ble_eq_true rfl) ?_)
 | refine de0 (zx (i := 3) ty3 rfl rfl rfl rfl rfl (Nat.le_of_ble_eq_true rfl) ?_)
 refine dq (zw z7 rfl ty3 (by decide) rfl) ?_
 first
 | refine de0 (zx (i := 0) ty3 rfl rfl rfl rfl rfl (Nat.le_of_ble_eq_true rfl) ?_)
 | refine de0 (zx (i := 1) ty3 rfl rfl rfl rfl rfl (Nat.le_of_ble_eq_true rfl) ?_)
 | refine de0 (zx (i := 2) ty3 rfl rfl rfl rfl rfl (Nat.le_of_ble_eq_true rfl) ?_)
 | refine de0 (zx (i := 3) ty3 rfl rfl rfl rfl rfl (Nat.le_of_ble_eq_true rfl) ?_)
 refine dn ?_
 refine zI (Ghost.of_eq (M' := [.cells b4 (zm (zbr (zc5 m23))), St b l a23]) rfl) ?_
 refine zI (Ghost.fc 4 (i := 0) rfl rfl) ?_
 have hmf := zra hm23
 have hm5 := hmf.len
 have hm0 := hmf.pos
 refine zb ?_
 refine dmv rfl ?_
 refine dq (zV z7 rfl rfl rfl rfl) ?_
 first
 | refine de rfl (zi (i := 0) ca6 rfl (WeakL.refl _) rfl (zbB (by first | assumption | omega | (simp; omega) | simp_all) (by first | assumption | omega | (simp; omega) | simp_all)) ?_)
 | refine de rfl (zi (i := 1) ca6 rfl (WeakL.refl _) rfl (zbB (by first | assumption | omega | (simp; omega) | simp_all) (by first | assumption | omega | (simp; omega) | simp_all)) ?_)
 | refine de rfl (zi (i := 2) ca6 rfl (WeakL.refl _) rfl (zbB (by first | assumption | omega | (simp; omega) | simp_all) (by first | assumption | omega | (simp; omega) | simp_all)) ?_)
 | refine de rfl (zi (i := 3) ca6 rfl (WeakL.refl _) rfl (zbB (by first | assumption | omega | (simp; omega) | simp_all) (by first | assumption | omega | (simp; omega) | simp_all)) ?_)
 rintro _ _ ⟨o28, a28, rfl, ho28, ha28, rfl⟩
 refine das rfl ?_
 refine dn ?_
 refine zb ?_
 refine dmv rfl ?_
 refine dmv rfl ?_
 first
 | refine de rfl (zi (i := 0) ca7 rfl (WeakL.refl _) rfl (zbI (by first | assumption | omega | (simp; omega) | simp_all) (by first | assumption | omega | (simp; omega) | simp_all)) ?_)
 | refine de rfl (zi (i := 1) ca7 rfl (WeakL.refl _) rfl (zbI (by first | assumption | omega | (simp; omega) | simp_all) (by first | assumption | omega | (simp; omega) | simp_all)) ?_)
 | refine de rfl (zi (i := 2) ca7 rfl (WeakL.refl _) rfl (zbI (by first | assumption | omega | (simp; omega) | simp_all) (by first | assumption | omega | (simp; omega) | simp_all)) ?_)
 | refine de rfl (zi (i := 3) ca7 rfl (WeakL.refl _) rfl (zbI (by first | assumption | omega | (simp; omega) | simp_all) (by first | assumption | omega | (simp; omega) | simp_all)) ?_)
 rintro _ _ ⟨w31, a31, rfl, hw31, ha31, rfl⟩
 refine de rfl (zX zbj rfl fun b6 => ?_)
 refine de0 (zag zbj rfl rfl rfl rfl rfl ?_)
 refine dn ?_
 refine zI (Ghost.fc0 6 rfl) ?_
 have hol := ho28.len
 have hwl := hw31.len
 have hff : ∀ x ∈ w31, x.For.length ≤ 1000000 := fun x hx => Nat.le_trans (hw31.all x hx).2.1 (by decide)
 refine zh ?_
 refine zb ?_
 refine dq (zV z7 rfl rfl rfl rfl) ?_
 refine dq (zq ca8 rfl (WeakL.refl _) (zgx (m := (zc5 m23)) (by omega) (fun s hs => Nat.le_trans (hmf.sh s hs) (by decide)))) ?_
 refine dq (zaM rfl rfl) ?_
 refine dmv rfl ?_
 refine dg rfl rfl (fun hc => ⟨_, OpenTo.refl _, zV z7 rfl rfl rfl rfl⟩) ?_
 refine dg rfl rfl (fun hc => ⟨_, OpenTo.refl _, zg rfl⟩) ?_
 refine dg rfl rfl (fun hc => by have hq := hc; (try simp at hq); exact ⟨_, OpenTo.upd (t := 37) rfl (by first | exact hc | simp_all) (OpenTo.upd (t := 36) rfl (by first | exact hc | simp_all) (OpenTo.refl _)), zq ca10 rfl (WeakL.refl _) (zgv (m := (zc5 m23)) (o := o28) (by omega) (by omega) (fun x hx => (ho28.all x hx).1))⟩) ?_
 refine dg rfl rfl (fun hc => ⟨_, OpenTo.upd (t := 38) rfl (by first | exact hc | simp_all) (OpenTo.refl _), zaM rfl rfl⟩) ?_
 refine dq (zB rfl (.inl rfl) (.inr ⟨_, rfl, fun h => by simp_all⟩)) ?_
 refine dmv rfl ?_
 refine dg rfl rfl (fun hc => ⟨_, OpenTo.refl _, zg rfl⟩) ?_
 refine dg rfl rfl (fun hc => ⟨_, OpenTo.refl _, ze zbj rfl rfl rfl⟩) ?_
 refine dg rfl rfl (fun hc => by have hq := hc; (try simp at hq); exact ⟨_, OpenTo.upd (t := 43) rfl (by first | exact hc | simp_all) (OpenTo.upd (t := 42) rfl (by first | exact hc | simp_all) (OpenTo.refl _)), zq ca11 rfl (WeakL.refl _) (zgR (o := o28) (w := w31) (by omega) (by omega) hff)⟩) ?_
 refine dg rfl rfl (fun hc => ⟨_, OpenTo.upd (t := 44) rfl (by first | exact hc | simp_all) (OpenTo.refl _), zaM rfl rfl⟩) ?_
 refine dq (zB rfl (.inl rfl) (.inr ⟨_, rfl, fun h => by simp_all⟩)) ?_
 refine dn ?_
 refine zj rfl (fun h1 => ?_) (fun h2 => ?_)
 ·try simp at h1
  refine zb ?_
  refine dq (zq ca21 rfl (WeakL.refl _) (zfz hT)) ?_
  refine das rfl ?_
  refine dn ?_
  refine zn ?_
  exact zbW Ghost.clear rfl ⟨rfl, rfl⟩
 ·try simp at h2
  refine zk ?_
  refine zf ?_
  have hz : (zar (zc5 m23) o28 w31) = 0 := by apply zp6 <;> simp_all
  refine zb ?_
  refine dq (zV z7 rfl rfl rfl rfl) ?_
  refine dmv rfl ?_
  refine dq (ze zbj rfl rfl rfl) ?_
  refine dq (zq ca13 rfl (WeakL.refl _) (znr (m := (zc5 m23)) (o := o28) (w := w31) (by omega) (by omega) (by omega) hff)) ?_
  refine dmv rfl ?_
  refine dq (z6 rfl rfl) ?_
  refine dq (z6 rfl rfl) ?_
  refine das rfl ?_
  refine das rfl ?_
  refine dn ?_
  refine zb ?_
  refine dq (zV z7 rfl rfl rfl rfl) ?_
  refine dmv rfl ?_
  refine dq (ze zbj rfl rfl rfl) ?_
  refine dq (zq ca14 rfl (WeakL.refl _) (znZ (m := (zc5 m23)) (o := o28) (w := w31) (by omega) (by omega) (by omega) hff)) ?_
  refine dmv rfl ?_
  refine dq (z6 rfl rfl) ?_
  refine dq (z6 rfl rfl) ?_
  refine das rfl ?_
  refine das rfl ?_
  refine dn ?_
  refine zh ?_
  refine zb ?_
  refine dmv rfl ?_
  refine dq (zaM rfl rfl) ?_
  refine dmv rfl ?_
  refine dg rfl rfl (fun hc => ⟨_, OpenTo.refl _, zg rfl⟩) ?_
  refine dg rfl rfl (fun hc => ⟨_, OpenTo.upd (t := 65) rfl (by first | exact hc | simp_all) (OpenTo.refl _), zaM rfl rfl⟩) ?_
  refine dq (zB rfl (.inl rfl) (.inr ⟨_, rfl, fun h => by simp_all⟩)) ?_
  refine dn ?_
  refine zj rfl (fun h3 => ?_) (fun h3 => ?_)
  ·exfalso
   try simp at h3
   simp_all
  ·try simp at h3
   refine zk ?_
   refine zf ?_
   have er : (zho (zc5 m23) o28 w31) = zbe w31 := if_pos hz
   have hwk := (zeH hz).2
   have hrb := zqW hwk.srt
   have hlaw := zrp hz (by omega)
   have hml := zqZ hz (by omega)
   have hfew := hlaw.few
   simp only [er]
   refine zb ?_
   refine dq (zcx rfl rfl) ?_
   refine das rfl ?_
   refine dn ?_
   refine zb ?_
   refine das rfl ?_
   refine dn ?_
   refine zI (Ghost.arr_nil 1) ?_
   refine zh ?_
   refine zb ?_
   refine dmv rfl ?_
   refine dq (zF zqd rfl) ?_
   refine dmv rfl ?_
   refine dn ?_
   refine zl ?_
   refine zaS [2, 12, 14, 15, 16, 71, 72, 73, 74, 75, 76, 77, 78, 79, 80, 81, 82, 83, 84, 85, 86, 87, 88, 89, 90, 91, 92, 93, 94, 95, 96, 97, 98, 99, 100, 101, 102, 103, 104, 105] (fun (k : Nat) (v : Value) => [(71, .int .i64 k), (12, .raw v)]) (fun (k : Nat) (v : Value) => [.arr v 1 ((((zbe w31).take k).flatten).map .str), St b l a31]) (fun (k : Nat) (v : Value) => k ≤ (zbe w31).length ∧ (True)) (fun (k : Nat) (v : Value) => (zbe w31).length - k) (0) (.slice none 0 0) ?_ ?_ ?_ ?_
   ·exact ⟨Nat.zero_le _, trivial⟩
   ·exact ⟨rfl, rfl, trivial⟩
   ·exact zL (by simp)
   ·intro k v hinv
    obtain ⟨hk, -⟩ := hinv
    refine zb ?_
    refine dq (zO rfl rfl) ?_
    refine dn ?_
    refine zh ?_
    refine zj rfl (fun h4 => ?_) (fun h5 => ?_)
    ·try simp at h4
     obtain ⟨x, hx⟩ : ∃ x, (zbe w31)[k]? = some x := ⟨_, List.getElem?_eq_getElem h4⟩
     have hdx := zQ hx
     have hrg := hlaw.rg x (List.mem_of_getElem? hx)
     have hxl := hrb.2 x (List.mem_of_getElem? hx)
     refine zk ?_
     refine zf ?_
     refine zh ?_
     refine zl ?_
     refine zb ?_
     refine dq (zJ zqd zG rfl rfl rfl (by first | assumption | simp_all)) ?_
     refine dq (ze zG rfl rfl rfl) ?_
     refine das rfl ?_
     refine dn ?_
     refine zh ?_
     refine zb ?_
     refine dmv rfl ?_
     refine dq (zF zG rfl) ?_
     refine dmv rfl ?_
     refine dn ?_
     refine zl ?_
     refine zZ [2, 15, 16, 77, 78, 79, 80, 81, 82, 83, 84, 85, 86, 87, 88, 89, 90, 91, 92, 93, 94, 95, 96, 97, 98, 99, 100, 101] (fun (i : Nat) => [(77, .int .i64 i)]) (fun (i : Nat) => [.arr v 1 ((((zbe w31).take k).flatten).map .str), St b l a31]) (fun (i : Nat) => i ≤ x.length ∧ (True)) (fun (i : Nat) => x.length - i) (0) ?_ ?_ ?_ ?_
     ·exact ⟨Nat.zero_le _, trivial⟩
     ·exact ⟨rfl, trivial⟩
     ·exact List.Perm.refl _
     ·intro i hinv
      obtain ⟨hi, -⟩ := hinv
      refine zb ?_
      refine dq (zO rfl rfl) ?_
      refine dn ?_
      refine zh ?_
      refine zj rfl (fun h6 => ?_) (fun h7 => ?_)
      ·try simp at h6
       obtain ⟨p, hp⟩ : ∃ p, x[i]? = some p := ⟨_, List.getElem?_eq_getElem h6⟩
       have hdp := zQ hp
       refine zk ?_
       refine zf ?_
       refine zh ?_
       refine zl ?_
       refine zb ?_
       refine dmv rfl ?_
       refine dq (zJ zG ty9 rfl rfl rfl (by first | assumption | simp_all)) ?_
       refine dq (ze ty9 rfl rfl rfl) ?_
       refine das rfl ?_
       refine das rfl ?_
       refine dn ?_
       have hxi := zC hp
       obtain ⟨⟨t, ht, hwt⟩, f, hf0, hlf⟩ := hrg i p hp
       refine zb ?_
       refine dmv rfl ?_
       refine dmv rfl ?_
       refine dmv rfl ?_
       refine dmv rfl ?_
       refine dq (zv rfl rfl (by omega) (by omega)) ?_
       refine dmv rfl ?_
       refine dq (zF zG rfl) ?_
       refine dq (zcy (zg8 rfl rfl (by omega)) (congrArg (HVal.int .i64) zss)) ?_
       refine dq (zJ (j := (i + 1) % x.length) (a := t) zG ty9 rfl rfl rfl ht) ?_
       refine dq (ze ty9 rfl rfl rfl) ?_
       refine dq (zdj ca22 rfl rfl (WeakL.refl _) (zfu (w := w31) (s := p) (t := t) (by omega) hff)) ?_
       refine dq (zao rfl) ?_
       refine dmv rfl ?_
       refine dg rfl rfl (fun hc => ⟨_, OpenTo.refl _, zg rfl⟩) ?_
       refine dg rfl rfl (fun hc => ⟨_, OpenTo.refl _, zg rfl⟩) ?_
       refine dg rfl rfl (fun hc => ⟨_, OpenTo.upd (t := 96) rfl (by first | exact hc | simp_all) (OpenTo.refl _), zJ (j := 0) (a := f) zG ty9 rfl rfl rfl hf0⟩) ?_
       refine dg rfl rfl (fun hc => ⟨_, OpenTo.upd (t := 97) rfl (by first | exact hc | simp_all) (OpenTo.refl _), ze ty9 rfl rfl rfl⟩) ?_
       refine dg rfl rfl (fun hc => ⟨_, OpenTo.upd (t := 98) rfl (by first | exact hc | simp_all) (OpenTo.upd (t := 95) rfl (by first | exact hc | simp_all) (OpenTo.refl _)), znT rfl rfl⟩) ?_
       refine dq (zB rfl (.inl rfl) (.inr ⟨_, rfl, fun h => by simp_all⟩)) ?_
       refine dn ?_
       refine zj rfl (fun h8 => ?_) (fun h8 => ?_)
       ·exfalso
        try simp at h8
        simp_all
       ·try simp at h8
        refine zk ?_
        refine zz ?_
        refine zf ?_
        refine zy ?_
        refine dq (zv rfl rfl (by omega) (by omega)) ?_
        refine dmv rfl ?_
        refine dn ?_
        exact ⟨i + 1, ⟨by omega, trivial⟩, by dsimp only; omega, ⟨rfl, trivial⟩, (by repeat (first | exact zo | refine zt rfl ?_ | refine zp rfl rfl ?_)), List.Perm.refl _⟩
      ·try simp at h7
       have hni : x.length ≤ i := by omega
       obtain rfl : i = x.length := by omega
       refine zN ?_
       refine zT ?_
       refine zah ?_
       refine zD ?_
       refine zf ?_
       obtain ⟨ft1, ft2⟩ := zrk hx
       refine zy ?_
       refine dmv rfl ?_
       refine dmv rfl ?_
       refine de rfl (zam (i := 0) (v := v) (es := (((zbe w31).take k).flatten).map .str) (ys := x.map .str) zG ty9 rfl rfl rfl rfl rfl (fun y hy => by obtain ⟨z, _, rfl⟩ := List.mem_map.1 hy; rfl) (by simp only [List.length_map]; omega) fun v104 => ?_)
       refine das rfl ?_
       refine dn ?_
       refine zz ?_
       refine zf ?_
       refine zy ?_
       refine dq (zv rfl rfl (by omega) (by omega)) ?_
       refine dmv rfl ?_
       refine dn ?_
       exact ⟨k + 1, v104, ⟨by omega, trivial⟩, by dsimp only; omega, ⟨rfl, rfl, trivial⟩, (by repeat (first | exact zo | refine zt rfl ?_ | refine zp rfl rfl ?_)), zL (by dsimp only; rw [ft1, List.map_append]; rfl)⟩
    ·try simp at h5
     have hnk : (zbe w31).length ≤ k := by omega
     obtain rfl : k = (zbe w31).length := by omega
     refine zN ?_
     refine zT ?_
     refine za3 ?_
     refine zD ?_
     refine zf ?_
     rw [List.take_length]
     refine zb ?_
     refine dmv rfl ?_
     refine de rfl (zi (i := 0) ca26 rfl (WeakL.refl _) rfl (zh3 (l := ((zbe w31).flatten)) (by omega)) ?_)
     rintro _ _ ⟨rfl, rfl⟩
     refine dn ?_
     refine zh ?_
     refine zI (Ghost.fa 12 (i := 0) rfl rfl) ?_
     have hcmp := zni hlaw.nd
     have hsl := zcP ((zbe w31).flatten)
     have hgl := hlaw.le
     refine zb ?_
     refine dmv rfl ?_
     refine de rfl (zeK zqv rfl (WeakL.refl _) (zbA (l := zaJ ((zbe w31).flatten)) (by rw [zcP]; omega)) fun v109 => ?_)
     refine de rfl (zi (i := 0) ca27 rfl (WeakL.refl _) rfl (zj3 (l := zaJ ((zbe w31).flatten)) (by rw [zcP]; omega)) ?_)
     rintro _ _ ⟨u110, rfl, rfl⟩
     refine de rfl (zaP (i := 0) (es := Lib.compact (zaJ ((zbe w31).flatten))) zG rfl rfl ?_)
     refine dmv rfl ?_
     refine dq (zF (f := HVal.str) (l := zaJ ((zbe w31).flatten)) zG rfl) ?_
     refine dq (zaM rfl rfl) ?_
     refine dmv rfl ?_
     refine dg rfl rfl (fun hc => ⟨_, OpenTo.refl _, zg rfl⟩) ?_
     refine dg rfl rfl (fun hc => ⟨_, OpenTo.upd (t := 116) rfl (by first | exact hc | simp_all) (OpenTo.refl _), zF (f := zbR) (l := (zcg (zc5 m23) o28 w31)) zef rfl⟩) ?_
     refine dg rfl rfl (fun hc => ⟨_, OpenTo.refl _, zg rfl⟩) ?_
     refine dg rfl rfl (fun hc => ⟨_, OpenTo.upd (t := 118) rfl (by first | exact hc | simp_all) (OpenTo.refl _), zF (f := HVal.str) (l := zaJ ((zbe w31).flatten)) zG rfl⟩) ?_
     refine dg rfl rfl (fun hc => ⟨_, OpenTo.upd (t := 119) rfl (by first | exact hc | simp_all) (OpenTo.upd (t := 117) rfl (by first | exact hc | simp_all) (OpenTo.refl _)), zO rfl rfl⟩) ?_
     refine dq (zB rfl (.inl rfl) (.inr ⟨_, rfl, fun h => by simp_all⟩)) ?_
     refine dn ?_
     refine zj rfl (fun h9 => ?_) (fun h9 => ?_)
     ·exfalso
      try simp at h9
      first | omega | (simp_all; omega)
     ·try simp at h9
      refine zk ?_
      refine zf ?_
      refine zh ?_
      refine zb ?_
      refine dmv rfl ?_
      refine dq (zF (f := zbR) (l := (zcg (zc5 m23) o28 w31)) zef rfl) ?_
      refine dmv rfl ?_
      refine dn ?_
      refine zl ?_
      refine zZ [2, 17, 18, 124, 125, 126, 127, 128, 129, 130, 131, 132, 133, 134, 135, 136, 137, 138, 139, 140, 141, 142, 143, 144, 145, 146, 147, 148, 149, 150, 151, 152, 153, 154, 155, 156, 157, 158, 159] (fun (k : Nat) => [(124, .int .i64 k)]) (fun (k : Nat) => [.arr u110 1 ((Lib.compact (zaJ ((zbe w31).flatten))).map .str), St b l a31]) (fun (k : Nat) => k ≤ (zcg (zc5 m23) o28 w31).length ∧ (True)) (fun (k : Nat) => (zcg (zc5 m23) o28 w31).length - k) (0) ?_ ?_ ?_ ?_
      ·exact ⟨Nat.zero_le _, trivial⟩
      ·exact ⟨rfl, trivial⟩
      ·exact List.Perm.refl _
      ·intro k hinv
       obtain ⟨hk, -⟩ := hinv
       refine zb ?_
       refine dq (zO rfl rfl) ?_
       refine dn ?_
       refine zh ?_
       refine zj rfl (fun h10 => ?_) (fun h11 => ?_)
       ·try simp at h10
        obtain ⟨x, hx⟩ : ∃ x, (zcg (zc5 m23) o28 w31)[k]? = some x := ⟨_, List.getElem?_eq_getElem h10⟩
        have hdx := zQ hx
        refine zk ?_
        refine zf ?_
        refine zh ?_
        refine zl ?_
        refine zb ?_
        refine dmv rfl ?_
        refine dq (zJ zef zby rfl rfl rfl (by first | assumption | simp_all)) ?_
        refine dq (zV zby rfl rfl rfl rfl) ?_
        refine de rfl (zX zby rfl fun b18 => ?_)
        refine das rfl ?_
        refine de0 (zag zby rfl rfl rfl rfl rfl ?_)
        refine dn ?_
        refine zI (Ghost.fc0 18 rfl) ?_
        obtain ⟨hne, hin⟩ := hlaw.gv.all x (List.mem_of_getElem? hx)
        have hnx := zqi hlaw.gv hx
        have hany := ztC hin
        have hkl := zC hx
        refine za9 (fun _ => True) [] mixed ?_
        refine ahp 0 rfl rfl (by kernel_rfl) (by kernel_rfl) ((by first | exact zc zby rfl ty9 (by decide) rfl | exact zw zby rfl ty9 (by decide) rfl)) ?_
        refine ahp 1 rfl rfl (by kernel_rfl) (by kernel_rfl) (ze ty9 rfl rfl rfl) ?_
        refine ahp 2 rfl rfl (by kernel_rfl) (by kernel_rfl) ((by first | exact zc zby rfl ty9 (by decide) rfl | exact zw zby rfl ty9 (by decide) rfl)) ?_
        refine ahp 3 rfl rfl (by kernel_rfl) (by kernel_rfl) (ze ty9 rfl rfl rfl) ?_
        refine ahp 4 rfl rfl (by kernel_rfl) (by kernel_rfl) (zaX rfl rfl) ?_
        refine ahp 5 rfl rfl (by kernel_rfl) (by kernel_rfl) (zg rfl) ?_
        refine ahg 6 rfl rfl (by kernel_rfl) (by kernel_rfl) rfl (fun hc => ⟨_, OpenTo.refl _, zg rfl⟩) ?_
        refine ahg 7 rfl rfl (by kernel_rfl) (by kernel_rfl) rfl (fun hc => ⟨_, OpenTo.upd (t := 135) rfl (by first | exact hc | simp_all) (OpenTo.refl _), zai rfl rfl⟩) ?_
        refine ahg 8 rfl rfl (by kernel_rfl) (by kernel_rfl) rfl (fun hc => ⟨_, OpenTo.upd (t := 136) rfl (by first | exact hc | simp_all) (OpenTo.refl _), zg rfl⟩) ?_
        refine ahg 9 rfl rfl (by kernel_rfl) (by kernel_rfl) rfl (fun hc => ⟨_, OpenTo.refl _, (by first | exact zc zby rfl ty9 (by decide) rfl | exact zw zby rfl ty9 (by decide) rfl)⟩) ?_
        refine ahg 10 rfl rfl (by kernel_rfl) (by kernel_rfl) rfl (fun hc => ⟨_, OpenTo.upd (t := 138) rfl (by first | exact hc | simp_all) (OpenTo.refl _), ze ty9 rfl rfl rfl⟩) ?_
        refine ahg 11 rfl rfl (by kernel_rfl) (by kernel_rfl) rfl (fun hc => ⟨_, OpenTo.refl _, zg rfl⟩) ?_
        refine ahg 12 rfl rfl (by kernel_rfl) (by kernel_rfl) rfl (fun hc => ⟨_, OpenTo.refl _, zg rfl⟩) ?_
        refine ahg 13 rfl rfl (by kernel_rfl) (by kernel_rfl) rfl (fun hc => by have hq := hc; (try simp at hq); exact ⟨_, OpenTo.upd (t := 141) rfl (by first | exact hc | simp_all) (OpenTo.refl _), zal rfl rfl (by omega) (by omega)⟩) ?_
        refine ahg 14 rfl rfl (by kernel_rfl) (by kernel_rfl) rfl (fun hc => by
         have hk0 : 0 < k := by (have q := hc; simp at q; omega)
         exact ⟨_, OpenTo.upd (t := 142) rfl (by first | exact hc | simp_all) (OpenTo.upd (t := 140) rfl (by first | exact hc | simp_all) (OpenTo.refl _)), zJ (j := k - 1) (a := (zcg (zc5 m23) o28 w31).getD (k - 1) zlt) zef zby rfl rfl (by omega) (getD_some (by omega))⟩) ?_
        refine ahg 15 rfl rfl (by kernel_rfl) (by kernel_rfl) rfl (fun hc => ⟨_, OpenTo.upd (t := 143) rfl (by first | exact hc | simp_all) (OpenTo.refl _), (by first | exact zc zby rfl ty9 (by decide) rfl | exact zw zby rfl ty9 (by decide) rfl)⟩) ?_
        refine ahg 16 rfl rfl (by kernel_rfl) (by kernel_rfl) rfl (fun hc => ⟨_, OpenTo.upd (t := 144) rfl (by first | exact hc | simp_all) (OpenTo.refl _), ze ty9 rfl rfl rfl⟩) ?_
        refine ahg 17 rfl rfl (by kernel_rfl) (by kernel_rfl) rfl (fun hc => ⟨_, OpenTo.upd (t := 145) rfl (by first | exact hc | simp_all) (OpenTo.upd (t := 139) rfl (by first | exact hc | simp_all) (OpenTo.refl _)), zdv rfl rfl⟩) ?_
        refine ahg 18 rfl rfl (by kernel_rfl) (by kernel_rfl) rfl (fun hc => ⟨_, OpenTo.upd (t := 137) rfl (by first | exact hc | simp_all) (OpenTo.refl _), zB rfl (.inr ⟨_, rfl, fun h => by simp_all⟩) (.inl rfl)⟩) ?_
        refine ahp 19 rfl rfl (by kernel_rfl) (by kernel_rfl) (zB rfl (.inl rfl) (.inr ⟨_, rfl, fun h => by simp_all⟩)) ?_
        refine ahp 20 rfl rfl (by kernel_rfl) (by kernel_rfl) (zg rfl) ?_
        refine ahg 21 rfl rfl (by kernel_rfl) (by kernel_rfl) rfl (fun hc => ⟨_, OpenTo.refl _, zg rfl⟩) ?_
        refine ahg 22 rfl rfl (by kernel_rfl) (by kernel_rfl) rfl (fun hc => ⟨_, OpenTo.refl _, (by first | exact zc zby rfl ty9 (by decide) rfl | exact zw zby rfl ty9 (by decide) rfl)⟩) ?_
        refine ahg 23 rfl rfl (by kernel_rfl) (by kernel_rfl) rfl (fun hc => ⟨_, OpenTo.upd (t := 151) rfl (by first | exact hc | simp_all) (OpenTo.refl _), ze ty9 rfl rfl rfl⟩) ?_
        refine ahg 24 rfl rfl (by kernel_rfl) (by kernel_rfl) rfl (fun hc => ⟨_, OpenTo.refl _, (by first | exact zc zby rfl ty9 (by decide) rfl | exact zw zby rfl ty9 (by decide) rfl)⟩) ?_
        refine ahg 25 rfl rfl (by kernel_rfl) (by kernel_rfl) rfl (fun hc => ⟨_, OpenTo.upd (t := 153) rfl (by first | exact hc | simp_all) (OpenTo.refl _), ze ty9 rfl rfl rfl⟩) ?_
        refine ahg 26 rfl rfl (by kernel_rfl) (by kernel_rfl) rfl (fun hc => ⟨_, OpenTo.upd (t := 154) rfl (by first | exact hc | simp_all) (OpenTo.upd (t := 152) rfl (by first | exact hc | simp_all) (OpenTo.refl _)), zaG (cs := [_, _]) zae zrZ rfl⟩) ?_
        refine ahg 27 rfl rfl (by kernel_rfl) (by kernel_rfl) rfl (fun hc => by have hq := hc; (try simp at hq); exact ⟨_, OpenTo.upd (t := 155) rfl (by first | exact hc | simp_all) (OpenTo.upd (t := 150) rfl (by first | exact hc | simp_all) (OpenTo.refl _)), zq ca29 rfl (WeakL.refl _) (zdL (l := o28) (y := ⟨x.Player, x.From⟩) (by omega))⟩) ?_
        refine ahg 28 rfl rfl (by kernel_rfl) (by kernel_rfl) rfl (fun hc => ⟨_, OpenTo.upd (t := 156) rfl (by first | exact hc | simp_all) (OpenTo.refl _), zao rfl⟩) ?_
        refine ahp 29 rfl rfl (by kernel_rfl) (by kernel_rfl) (zB rfl (.inl rfl) (.inr ⟨_, rfl, fun h => by simp_all⟩)) ?_
        refine ahz (by kernel_rfl) ?_
        refine zj rfl (fun h12 => ?_) (fun h12 => ?_)
        ·exfalso
         try simp at h12
         simp_all
         obtain ⟨y, y1, y2⟩ := hany
         rcases h12 with ⟨q1, q2 | q2⟩ | q
         ·have := (hnx q1).1; rw [q2] at this; cases this
         ·exact (hnx q1).2 q2
         ·have := q y y1; rw [y2] at this; cases this
        ·try simp at h12
         refine zk ?_
         refine zz ?_
         refine zf ?_
         refine zy ?_
         refine dq (zv rfl rfl (by omega) (by omega)) ?_
         refine dmv rfl ?_
         refine dn ?_
         exact ⟨k + 1, ⟨by omega, trivial⟩, by dsimp only; omega, ⟨rfl, trivial⟩, (by repeat (first | exact zo | refine zt rfl ?_ | refine zp rfl rfl ?_)), List.Perm.refl _⟩
       ·try simp at h11
        have hnk : (zcg (zc5 m23) o28 w31).length ≤ k := by omega
        obtain rfl : k = (zcg (zc5 m23) o28 w31).length := by omega
        refine zN ?_
        refine zT ?_
        refine zah ?_
        refine zD ?_
        refine zf ?_
        refine zb ?_
        refine dq (zq ca21 rfl (WeakL.refl _) (zfz hT)) ?_
        refine das rfl ?_
        refine dn ?_
        refine zn ?_
        exact zbW Ghost.clear rfl ⟨rfl, rfl⟩
end
end Go.Proofs.YtcihcbnjfclkbaaGreatDoor
namespace Go.HL
section
open Go
theorem zns {H : Type} {enc : TypeId × Value → H} {a : Assume} {C : Checked} {os : Os} {f : FuncId} {fn : Func} {s : ChangeSpec} {conds : List PathCond} {apart fresh handsOn again : Bool} {X : World → Array Value → Prop}
 (hX : ∀ (w w' : World) (args : Array Value), w.heap = w'.heap → X w args → X w' args)
 (own : ownKnob C.prog.godebug = none) (started : os.Started) (noInit : C.prog.inits.idxOf? f = none) (hfn : C.prog.funcs[f]? = some fn)
 (witness : ∃ (w : World) (tape : Tape) (i : Input), w.os = os ∧ (w.forCall tape i).Shaped C.prog ∧ i.vars = [] ∧ Input.okWide C.prog (w.forCall tape i) .any w.heap.size f i ∧
   ((s.pre enc C.prog fn conds apart (w.forCall tape i).memory i.args ∧ X (w.forCall tape i).memory i.args) ∧ sizedMet enc C.prog fn (OpenSpec.ofChange s) apart (w.forCall tape i).memory i.args) ∧ a.holds C.prog (lone (Frame.enter C.prog f i.args .normal) [] (w.forCall tape i)))
 (contract : ∀ (W : World) (base : Nat) (args : Array Value) (ds gs : List (DataW H)) (before : List MemPlace),
   (∀ (j : Nat) t v, fn.params[j]? = some t → args[j]? = some v → Value.okWide C.prog W .any base t v) → DataW.Whole enc C.prog fn.params.toList s.vars apart W args.toList ds gs before →
   X W args → W.ShapedOpen C.prog → Calls C.prog f args W fun e W' => ∃ v, e = .returned v ∧ s.post enc C.prog fn apart fresh handsOn again W args v W') :
 ReturnsInHanded a C os f .any (fun w args => (s.pre enc C.prog fn conds apart w args ∧ X w args) ∧ sizedMet enc C.prog fn (OpenSpec.ofChange s) apart w args) (s.post enc C.prog fn apart fresh handsOn again) := by
 refine returnsInHanded_of_calls own started noInit witness fun w tape i _ hsh _ hok hpre _ => ?_
 obtain ⟨_, _, _, fn', hfn', _, _, _, _, hval⟩ := hok
 obtain rfl : fn' = fn := Option.some.inj (hfn'.symm.trans hfn)
 obtain ⟨⟨⟨ds, gs, before, hw, _⟩, hx⟩, _⟩ := hpre
 refine (contract (w.forCall tape i) w.heap.size i.args ds gs before hval (DataW.Whole.of_heap (w' := w.forCall tape i) (by rfl) hw) (hX _ _ _ (by rfl) hx) hsh).mono fun e W' ⟨v, he, hp⟩ => ?_
 subst he
 exact ChangeSpec.post_blind hp
end
end Go.HL
namespace Go.Proofs.YtcihcbnjfclkbaaGreatDoor
section
open Go.ChangeShapes Go.WideShapes Go.ChangeAt Go.RowKit Go.HL
theorem zkW : ownKnob Tryz.prog.godebug = none := by kernel_rfl
theorem ze8 : laidOutB Tryz.prog = true := by kernel_rfl
theorem zjG : Tryz.prog.cellsOf 3 = 1 := by kernel_rfl
theorem zkM {W : World} (h : laidMetH Tryz.prog Rows.ringsGoRoundRow.laid W) (hsh : W.ShapedOpen Tryz.prog) : TabI Tryz.prog (zbz W) := by
 rw [MakeChecks.laidMetH_plain _ _ _ (by kernel_rfl)] at h
 letI : Tracks := ⟨false⟩
 exact znL (i := 2) (g := 1) (t := 262) h (by kernel_rfl) (by kernel_rfl) (by kernel_rfl) Tryz.underlying262 Tryz.underlying179 (by kernel_rfl) (by kernel_rfl) (fun g hg => by
  obtain rfl : 0 = g := Option.some.inj ((show Tryz.prog.globalNamed "internal/bytealg.MaxLen" = some 0 by kernel_rfl).symm.trans hg)
  exact Go.Proofs.cell_of_shapedOpen_int (zero := #[.int .i64 0]) (t := 3) hsh (of_decide_eq_true (by kernel_rfl)) (by kernel_rfl) rfl (by kernel_rfl) (by kernel_rfl) Tryz.underlying3)
theorem zjA {W : World} (ht : TabI Tryz.prog (zbz W)) {a : Option Addr} {len cap : Nat} {H : Type} {enc : TypeId × Value → H} {d0 : DataW H} {p : List MemPlace} (h : DataW.Trod enc Tryz.prog W 0 (fun _ => true) true 22 (.slice a len cap) d0 p) :
 Calls Tryz.prog 4 #[.slice a len cap] W fun e W' => e = .returned (.bool true) ∧ Below W.heap.size W W' := by
 obtain ⟨fuel, hf⟩ := h
 rcases open_ints Tryz.underlying22 Tryz.underlying3 zjG hf with ⟨hcs, hx⟩ | ⟨a', len', cap', zs, hcs, _, hl, hm, hz, hx, hcell, hwz⟩
 ·simp [Value.cells] at hcs
  obtain ⟨rfl, rfl, rfl⟩ := hcs
  letI : Tracks := ⟨false⟩
  exact zn7 (l := []) (zdH rfl) ht (.slice0 _ _ _)
 ·simp [Value.cells] at hcs
  obtain ⟨rfl, rfl, rfl⟩ := hcs
  simp only [if_true] at hz
  letI : Tracks := ⟨false⟩
  exact zn7 (l := zs.take len) (zdH rfl) ht (zuf hcell (by omega) hl)
set_option maxRecDepth 100000 in
theorem zil (os : Os) (started : os.Started) (H : Type) (enc : TypeId × Value → H) :
 ReturnsInHanded {} Tryz.checked os 4 .any (fun w args => (Rows.ringsGoRoundSpec.pre enc Tryz.prog Tryz.f4 Rows.ringsGoRoundRow.domain false w args ∧ laidMetH Tryz.prog Rows.ringsGoRoundRow.laid w) ∧ sizedMet enc Tryz.prog Tryz.f4 (OpenSpec.ofChange Rows.ringsGoRoundSpec) false w args)
  (Rows.ringsGoRoundSpec.post enc Tryz.prog Tryz.f4 false true false false) := by
 refine zns (C := Tryz.checked) (X := fun w _ => laidMetH Tryz.prog Rows.ringsGoRoundRow.laid w) (fun _ _ _ hh h => h.of_heap hh) zkW started (by kernel_rfl) Tryz.func4
  (ChangeSpec.witness_shaped (enc := enc) (C := Tryz.checked) (os := os) (X := fun w _ => laidMetH Tryz.prog Rows.ringsGoRoundRow.laid w) false (World.laidAll Tryz.prog os Rows.ringsGoRoundRow.laid) #[.slice none 0 0] 8 (World.laidAll_os _ _ _)
    (World.shaped_of_ZipB (by kernel_rfl) (by kernel_rfl)) (by kernel_rfl) (by kernel_rfl) (by kernel_rfl)
    (by rw [MakeChecks.laidMetH_plain _ _ _ (by kernel_rfl)]; exact laidMet_laidAll _ (by kernel_rfl) (by kernel_rfl))) ?_
 intro W base args ds gs before hval0 hW hL hsh
 have hval : ∀ (j : Nat) t v, Tryz.f4.params[j]? = some t → args[j]? = some v → Value.okWide Tryz.prog W .any base t v := hval0
 have hW' := hW
 obtain ⟨p, q, hA0, hV, rfl, _, _⟩ := hW
 have hA : DataW.TrodAll enc Tryz.prog W 0 (fun _ => true) true Tryz.f4.params.toList args.toList ds p := hA0
 rw [Tryz.params4] at hA hval
 obtain ⟨v0, d0, rfl, rfl, h0⟩ := trodAll_one hA
 obtain ⟨rfl, rfl⟩ := trodVars_none hV
 obtain ⟨a0, len, cap, rfl⟩ := okWide_slice Tryz.underlying22 (hval 0 22 v0 rfl rfl)
 simp only [List.append_nil] at hW'
 have hlt : ∀ x ∈ p, x.block < W.heap.size := fun x hx => by simpa using hW'.lt x hx
 refine (zjA (zkM hL hsh) h0).mono fun e W' ⟨he, hb⟩ => ?_
 subst he
 have hargs : DataW.Trod enc Tryz.prog W' 0 (fun b => decide (b < W.heap.size)) true 22 (.slice a0 len cap) d0 p :=
  Below.trod ze8 (by kernel_rfl) (of_decide_eq_true (by kernel_rfl)) h0 hb hlt
 exact ⟨_, rfl, _, _, _, [], p, [], hW', trodAll_mk1 (shut_bool Tryz.underlying4 _), trodAll_mk1 hargs, rfl, hb.frame _, fun h => by cases h⟩
theorem zj7 : mapsRowed Tryz.prog = true := by kernel_rfl
theorem zj0 : (Rows.ringsGoRoundRow.inPlace == Tryz.prog.inPlace 4) = true := by kernel_rfl
theorem zj9 : (Rows.ringsGoRoundRow.unfollowed == Tryz.prog.unfollowed 4) = true := by kernel_rfl
theorem zjY : (Rows.ringsGoRoundRow.recurses == Tryz.prog.recurses 4) = true := by kernel_rfl
theorem zkx : (Rows.ringsGoRoundRow.named == Tryz.prog.varsNamed 4) = true := by kernel_rfl
theorem zkg : joinedFacts Tryz.prog 4 Tryz.f4 Rows.ringsGoRoundSpec Rows.ringsGoRoundRow = true := by
 simp only [joinedFacts, Bool.and_eq_true]
 repeat' apply And.intro
 all_goals first
  | with_reducible exact ze8
  | with_reducible exact zj7
  | with_reducible exact zj0
  | with_reducible exact zj9
  | with_reducible exact zjY
  | with_reducible exact zkx
  | kernel_rfl
theorem zku : false = Tryz.prog.looks [] := by kernel_rfl
theorem zkj : false = Rows.ringsGoRoundRow.goesBy Tryz.prog := by kernel_rfl
theorem zj8 : Rows.ringsGoRoundRow.wfByText (OpenSpec.ofChange Rows.ringsGoRoundSpec) = true := by kernel_rfl
theorem zjZ : Tryz.prog.mainIs = some ("1bb75e56fcbe5a8f100c5ca37cd5719690cb5fdf68a0e51e68a0ed26666dc345" |> fun h => (true, h.toList)) := by kernel_rfl
theorem zkz : ([22].all fun u => !Tryz.prog.wantsStandIn u) = true := by kernel_rfl
theorem zgu : Tryz.prog.funcNamed Rows.ringsGoRoundRow.func = some 4 := by kernel_rfl
theorem zjF : Rows.RingsGoRoundSaid :=
 OpenClaim.holds_of_wide 4 Tryz.f4 rfl rfl rfl rfl rfl rfl rfl ⟨rfl, rfl, rfl, rfl, rfl⟩ rfl rfl rfl rfl rfl zgu Tryz.func4 zkg
  (of_decide_eq_true (by kernel_rfl)) (by unfold Func.isWrapper; first | (rw [if_pos (by decide +kernel)]; kernel_rfl) | (rw [if_neg (by decide +kernel)]; exact ⟨rfl, rfl⟩))
  (fun os started H enc _ => zil os started H enc)
theorem cardRingsGoRound : Rows.RingsGoRoundCardSaid :=
 Claim7.holds_tied_plain_at .later [] [.data, .data, .data, .data, .pinned] true (true, "1bb75e56fcbe5a8f100c5ca37cd5719690cb5fdf68a0e51e68a0ed26666dc345") false zjF (fun _ h => by cases h) zj8 (fun _ h => by cases h) ringsGoRound_row_tie rfl ⟨rfl, rfl⟩ zjZ rfl
  (fun f fn hf hfn => by
    obtain rfl : f = 4 := Option.some.inj (zgu.symm.trans hf) |>.symm
    obtain rfl : fn = Tryz.f4 := (Option.some.inj (Tryz.func4.symm.trans hfn)).symm
    exact ⟨zku, fun j t ht => by
     rw [Tryz.params4] at ht
     have hm : t ∈ [22] := by simpa using Array.mem_of_getElem? ht
     have hall := zkz
     exact (show Tryz.prog.wantsStandIn t = false by simpa using List.all_eq_true.1 hall t hm)⟩)
  zkj
end
end Go.Proofs.YtcihcbnjfclkbaaGreatDoor
