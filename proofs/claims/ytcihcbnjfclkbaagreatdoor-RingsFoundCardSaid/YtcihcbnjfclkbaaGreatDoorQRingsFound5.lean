/- The statement is proved: the card of the law, out of its function's contract; no conditions. -/
import Derived.Test.YtcihcbnjfclkbaaGreatDoorQRingsFound4
import Derived.Handed
import Derived.KernelRfl
import Derived.LaidMore
import Derived.Lay
import Derived.Lib.AtoiBound
import Derived.Lib.ItoaMem
import Derived.Lib.Join
import Derived.Lib.SplitLaws
import Derived.Lib.Strings
import Derived.OpenShut
import Derived.ProofKit
import Derived.SevenTiedAt
import Derived.Shelf.Vars
import Derived.Stop.Joined
import Derived.Test.YtcihcbnjfclkbaaGreatDoorCards
import Derived.Test.YtcihcbnjfclkbaaGreatDoorTie
set_option linter.unusedVariables false
set_option linter.unusedSimpArgs false
namespace Go.HL
section
open Op
def zaG : List WantS → List Bool → List (Str × List Str)
 | x :: t, b :: g => if b = true then zaG t g else (x.Player, x.For) :: zaG t g
 | _, _ => []
def zgp (w : List WantS) : List (Str × List Str) := w.map fun x => (x.Player, x.For)
theorem znb : ∀ {w : List WantS}, zaG w (List.replicate w.length false) = zgp w
 | [] => rfl
 | x :: t => by rw [List.length_cons, List.replicate_succ, zaG, if_neg (by simp), znb]; rfl
theorem zgH : ∀ {w : List WantS} {g : List Bool} {s : Str}, alk s (zaG w g) ≠ none → s ∈ w.map (·.Player)
 | [], _, s, h => by cases ‹List Bool› <;> exact absurd rfl h
 | x :: t, [], s, h => absurd rfl h
 | x :: t, b :: g, s, h => by
   rw [zaG] at h
   split at h
   ·exact List.mem_cons_of_mem _ (zgH h)
   ·rw [alk] at h
    split at h
    ·rename_i e; rw [e]; simp
    ·exact List.mem_cons_of_mem _ (zgH h)
theorem zh8 : ∀ {w : List WantS} {g : List Bool} {i : Nat} {x : WantS}, (w.map (·.Player)).Nodup → g.length = w.length → w[i]? = some x → alk x.Player (zaG w g) = if g.getD i false = true then none else some x.For
 | [], _, i, x, _, _, h => by simp at h
 | y :: t, [], i, x, _, hl, _ => by simp at hl
 | y :: t, b :: g, 0, x, hn, hl, h => by
   simp at h; subst h
   have hn' := List.nodup_cons.1 (show (y.Player :: t.map (·.Player)).Nodup from hn)
   rw [zaG]
   show _ = if b = true then none else _
   split
   ·refine Classical.byContradiction fun hq => hn'.1 (zgH hq)
   ·rw [alk, if_pos rfl]
 | y :: t, b :: g, i + 1, x, hn, hl, h => by
   have hn' := List.nodup_cons.1 (show (y.Player :: t.map (·.Player)).Nodup from hn)
   have hx : t[i]? = some x := by simpa using h
   have ih := zh8 (w := t) (g := g) hn'.2 (by simpa using hl) hx
   have hne : ¬ x.Player = y.Player := fun e => hn'.1 (by rw [← e]; exact List.mem_map.2 ⟨x, List.mem_of_getElem? hx, rfl⟩)
   rw [zaG]
   show _ = if g.getD i false = true then none else _
   split
   ·exact ih
   ·rw [alk, if_neg hne]; exact ih
theorem zrk {w : List WantS} {g : List Bool} {s : Str} (h : s ∉ w.map (·.Player)) : alk s (zaG w g) = none := Classical.byContradiction fun hq => h (zgH hq)
theorem zj6 : ∀ {w : List WantS} {g : List Bool} {i : Nat} {x : WantS}, (w.map (·.Player)).Nodup → g.length = w.length → w[i]? = some x → zca x.Player (zaG w g) = zaG w (g.set i true)
 | [], _, i, x, _, _, h => by simp at h
 | y :: t, [], i, x, _, hl, _ => by simp at hl
 | y :: t, b :: g, 0, x, hn, hl, h => by
   simp at h; subst h
   have hn' := List.nodup_cons.1 (show (y.Player :: t.map (·.Player)).Nodup from hn)
   rw [List.set_cons_zero, zaG, zaG, if_pos rfl]
   have hno : zca y.Player (zaG t g) = zaG t g := adel_no fun p hp e => hn'.1 (by rw [e]; exact zgH (g := g) (by
    rw [alk_ne_none]; exact ⟨p, hp, rfl⟩))
   split
   ·exact hno
   ·rw [zca, if_pos rfl]
 | y :: t, b :: g, i + 1, x, hn, hl, h => by
   have hn' := List.nodup_cons.1 (show (y.Player :: t.map (·.Player)).Nodup from hn)
   have hx : t[i]? = some x := by simpa using h
   have ih := zj6 (w := t) (g := g) hn'.2 (by simpa using hl) hx
   have hne : ¬ x.Player = y.Player := fun e => hn'.1 (by rw [← e]; exact List.mem_map.2 ⟨x, List.mem_of_getElem? hx, rfl⟩)
   rw [List.set_cons_succ, zaG, zaG]
   split
   ·exact ih
   ·rw [zca, if_neg hne, ih]
where
 adel_no {s : Str} : ∀ {l : List (Str × List Str)}, (∀ p ∈ l, s ≠ p.1) → zca s l = l
  | [], _ => rfl
  | p :: r, h => by rw [zca, if_neg (h p (by simp)), adel_no fun q hq => h q (List.mem_cons_of_mem _ hq)]
 alk_ne_none {s : Str} : ∀ {l : List (Str × List Str)}, alk s l ≠ none ↔ ∃ p ∈ l, p.1 = s
  | [] => by simp [alk]
  | p :: r => by
    rw [alk]
    split
    ·rename_i e; simp [e]
    ·rename_i e
     rw [alk_ne_none]
     constructor
     ·rintro ⟨q, h1, h2⟩; exact ⟨q, List.mem_cons_of_mem _ h1, h2⟩
     ·rintro ⟨q, h1, h2⟩
      rcases List.mem_cons.1 h1 with rfl | h1
      ·exact absurd h2.symm e
      ·exact ⟨q, h1, h2⟩
/-- To whom one points, by name. -/
def zeP (L : List (Str × List Str)) (s : Str) : Str := (((alk s L).getD []).find? fun t => (alk t L).isSome).getD []
def nmI (w : List WantS) (k : Int) : Str := if k < 0 then [] else nameK w k.toNat
where nameK (w : List WantS) (k : Nat) : Str := (w.getD k zbQ).Player
theorem zkK {w : List WantS} {g : List Bool} (hs : SortedS (w.map (·.Player))) (hl : g.length = w.length) : ∀ {F : List Str}, ((F.find? fun t => (alk t (zaG w g)).isSome).getD []) = nmI w (zew w g F)
 | [] => rfl
 | s :: t => by
   have hn : (w.map (·.Player)).Nodup := sorted_nd hs
   rw [zew, List.find?_cons]
   have ih := zkK (F := t) hs hl
   by_cases hf : 0 ≤ zba w s
   ·obtain ⟨x, hx, he⟩ := (zcG hs).1 (show zba w s = ((zba w s).toNat : Int) by omega)
    have ha := zh8 (g := g) hn hl hx
    rw [he] at ha
    rw [ha]
    by_cases hg : g.getD (zba w s).toNat false = true
    ·rw [if_pos hg, if_neg (fun h => by rw [h.2] at hg; cases hg)]; exact ih
    ·rw [if_neg hg, if_pos ⟨hf, by simpa using hg⟩]
     show s = nmI w (zba w s)
     rw [nmI, if_neg (by omega), nmI.nameK, List.getD_eq_getElem?_getD, hx]
     exact he.symm
   ·rw [zrk (znR.1 (by omega)), if_neg (fun h => hf h.1)]; exact ih
where
 sorted_nd {l : List Str} (h : SortedS l) : l.Nodup := h.imp fun {a b} hab e => by rw [e, zau] at hab; cases hab
theorem zfU {w : List WantS} (hs : SortedS (w.map (·.Player))) : (w.map (·.Player)).Nodup := zkK.sorted_nd hs
theorem znw {w : List WantS} {g : List Bool} (hs : SortedS (w.map (·.Player))) (hl : g.length = w.length) {i : Nat} {x : WantS} (hx : w[i]? = some x) : zeP (zaG w g) x.Player = nmI w (zbA w g i) := by
 unfold zeP
 rw [zh8 (zfU hs) hl hx]
 unfold zbA
 have hd : w.getD i zbQ = x := by rw [List.getD_eq_getElem?_getD, hx]; rfl
 by_cases hg : g.getD i false = true
 ·rw [if_pos hg, if_pos hg]; rfl
 ·rw [if_neg hg, if_neg hg, hd]; exact zkK hs hl
theorem zoR {w : List WantS} (hne : ∀ x ∈ w, x.Player ≠ []) {k : Int} (hk : k < w.length) : nmI w k = [] ↔ k < 0 := by
 unfold nmI
 split
 ·rename_i h; simp [h]
 ·rename_i h
  constructor
  ·intro e
   obtain ⟨x, hx⟩ : ∃ x, w[k.toNat]? = some x := ⟨_, List.getElem?_eq_getElem (by omega)⟩
   unfold nmI.nameK at e
   rw [List.getD_eq_getElem?_getD, hx] at e
   exact absurd e (hne x (List.mem_of_getElem? hx))
  ·exact fun q => absurd q h
theorem znt {w : List WantS} (hs : SortedS (w.map (·.Player))) {a b : Nat} (ha : a < w.length) (hb : b < w.length) (h : nmI w (a : Int) = nmI w (b : Int)) : a = b := by
 unfold nmI nmI.nameK at h
 rw [if_neg (by omega), if_neg (by omega)] at h
 simp only [Int.toNat_natCast] at h
 obtain ⟨x, hx⟩ : ∃ x, w[a]? = some x := ⟨_, List.getElem?_eq_getElem ha⟩
 obtain ⟨y, hy⟩ : ∃ x, w[b]? = some x := ⟨_, List.getElem?_eq_getElem hb⟩
 rw [List.getD_eq_getElem?_getD, List.getD_eq_getElem?_getD, hx, hy] at h
 have h1 := (zcG hs (s := x.Player)).2 ⟨x, hx, rfl⟩
 have h2 := (zcG hs (s := x.Player)).2 ⟨y, hy, h.symm⟩
 omega
theorem zpD {w : List WantS} {L : List Int} (h : ∀ z ∈ L, 0 ≤ z) : zdx w L = L.map (nmI w) := by
 unfold zdx
 refine List.map_congr_left fun z hz => ?_
 have := h z hz
 unfold nmI nmI.nameK
 rw [if_neg (by omega)]
end
section
open Op
structure PassI (w : List WantS) (h h2 : List Bool) (k : Nat) (sm : Bool) : Prop where
 len : h2.length = w.length
 core : ∀ G, CoreG w h G ↔ CoreG w h2 G
 eq : sm = false → h2 = h
 cl : sm = false → ∀ i, i < k → i < w.length → h.getD i false = false → 0 ≤ zbA w h i
 lt : sm = true → zaR h2 < zaR h
 le : zaR h2 ≤ zaR h
theorem PassI.start {w : List WantS} {h : List Bool} (hl : h.length = w.length) : PassI w h h 0 false := ⟨hl, fun _ => Iff.rfl, fun _ => rfl, fun _ i hi => by omega, fun e => (by cases e), Nat.le_refl _⟩
theorem PassI.set {w : List WantS} {h h2 : List Bool} {k : Nat} {sm : Bool} (d : PassI w h h2 k sm) (hk : k < w.length) (hb : h2.getD k false = false) (hp : zbA w h2 k < 0) : PassI w h (h2.set k true) (k + 1) true := by
 have hl := zfR hb (by rw [d.len]; exact hk)
 have hle := d.le
 refine ⟨by simpa using d.len, fun G => (d.core G).trans (zhV (fun i hi => ?_) fun i h1 h3 H s1 s2 => ?_), fun e => (by cases e), fun e => (by cases e), fun _ => by omega, by omega⟩
 ·rw [getD_setG]; split
  ·rfl
  ·exact hi
 ·rw [getD_setG] at h3
  split at h3
  ·rename_i e; rw [← e.1]; exact zkg hk hb hp H s1 s2
  ·rw [h1] at h3; cases h3
theorem PassI.skip {w : List WantS} {h h2 : List Bool} {k : Nat} {sm : Bool} (d : PassI w h h2 k sm) (hn : h2.getD k false = true ∨ 0 ≤ zbA w h2 k) : PassI w h h2 (k + 1) sm := by
 refine ⟨d.len, d.core, d.eq, fun e i hi hiw hg => ?_, d.lt, d.le⟩
 rcases Nat.lt_succ_iff_lt_or_eq.1 hi with q | q
 ·exact d.cl e i q hiw hg
 ·subst q
  have := d.eq e
  subst this
  rcases hn with q | q
  ·rw [hg] at q; cases q
  ·exact q
theorem PassI.done {w : List WantS} {h h2 : List Bool} (hl : h.length = w.length) (d : PassI w h h2 w.length false) : CoreG w h h ∧ h2 = h :=
 ⟨zgm hl fun i hi hg => d.cl rfl i hi hi hg, d.eq rfl⟩
/-- The names of those on a way, and the next one. -/
def NameI (w : List WantS) (h : List Bool) (i : Nat) (R : List Str) (s : Str) : Prop :=
 (h.getD i false = true ∧ R = [nmI w (i : Int)] ∧ s = []) ∨ (h.getD i false = false ∧ ∃ L kk, WalkI (zaF w h) h i L kk ∧ R = L.map (nmI w) ∧ s = nmI w kk)
section
variable {w : List WantS} {h : List Bool} {i : Nat} {R : List Str} {s : Str}
theorem zjN {x : WantS} (hx : w[i]? = some x) : nmI w (i : Int) = x.Player := by
 unfold nmI nmI.nameK
 rw [if_neg (by omega), Int.toNat_natCast, List.getD_eq_getElem?_getD, hx]; rfl
theorem ziQ (hs : SortedS (w.map (·.Player))) (hl : h.length = w.length) (hi : i < w.length) : zeP (zaG w h) (nmI w (i : Int)) = nmI w (zbA w h i) := by
 obtain ⟨x, hx⟩ : ∃ x, w[i]? = some x := ⟨_, List.getElem?_eq_getElem hi⟩
 rw [zjN hx]; exact znw hs hl hx
theorem zhy (hi : i < w.length) : (zaF w h).getD i 0 = zbA w h i := by rw [List.getD_eq_getElem?_getD, zgL hi]; rfl
theorem NameI.start (hs : SortedS (w.map (·.Player))) (hl : h.length = w.length) (hc : CoreG w h h) {x : WantS} (hx : w[i]? = some x) : NameI w h i [x.Player] (zeP (zaG w h) x.Player) := by
 have hi := zD hx
 rw [← zjN hx, ziQ hs hl hi]
 cases hg : h.getD i false with
 | true => left; exact ⟨hg, rfl, by unfold zbA; rw [if_pos hg]; rfl⟩
 | false =>
   right
   refine ⟨hg, [(i : Int)], _, WalkI.start (zc5 hs hc) (by rw [zbq]; exact hi) hg, rfl, ?_⟩
   rw [zhy hi]
theorem zhF (hs : SortedS (w.map (·.Player))) {to : List Int} {g : List Bool} {L : List Int} {kk : Int} (hto : to.length = w.length) (hW : WalkI to g i L kk) : (L.map (nmI w)).contains (nmI w kk) = L.contains kk := by
 obtain ⟨b, rfl, b2, _⟩ := hW.at'
 rw [Bool.eq_iff_iff, List.contains_iff_mem, List.contains_iff_mem, List.mem_map]
 constructor
 ·rintro ⟨z, hz, e⟩
  obtain ⟨a, rfl, a2, _⟩ := hW.all z hz
  have := znt hs (by omega) (by omega) e
  rw [← this]; exact hz
 ·exact fun hz => ⟨_, hz, rfl⟩
theorem NameI.step (hs : SortedS (w.map (·.Player))) (hl : h.length = w.length) (hc : CoreG w h h) (hn : NameI w h i R s) (h1 : s ≠ []) (h2 : R.contains s = false) : NameI w h i (R ++ [s]) (zeP (zaG w h) s) := by
 rcases hn with ⟨_, _, rfl⟩ | ⟨hg, L, kk, hW, rfl, rfl⟩
 ·exact absurd rfl h1
 ·rw [zhF hs zbq hW] at h2
  obtain ⟨b, e, b2, b3⟩ := hW.at'
  rw [zbq] at b2
  refine .inr ⟨hg, _, _, hW.step (zc5 hs hc) h2, by simp, ?_⟩
  rw [e, ziQ hs hl b2, Int.toNat_natCast, zhy b2]
theorem NameI.len (hn : NameI w h i R s) (hi : i < w.length) : R.length ≤ w.length := by
 rcases hn with ⟨_, rfl, _⟩ | ⟨_, L, kk, hW, rfl, _⟩
 ·show 1 ≤ _; omega
 ·have := hW.len
  rw [zbq] at this
  simpa using this
theorem NameI.ne (hn : NameI w h i R s) : R ≠ [] := by
 rcases hn with ⟨_, rfl, _⟩ | ⟨_, L, kk, hW, rfl, _⟩
 ·simp
 ·exact fun e => hW.ne (List.map_eq_nil_iff.1 e)
/-- At the end of the way: it is a ring just where the last one points to the first. -/
theorem NameI.done (hs : SortedS (w.map (·.Player))) (hl : h.length = w.length) (hc : CoreG w h h) (hne : ∀ x ∈ w, x.Player ≠ []) (hn : NameI w h i R s) (hi : i < w.length) (hx : s = [] ∨ R.contains s = true) :
 (h.getD i false = false → (zeP (zaG w h) (R.getLastD []) = nmI w (i : Int) ↔ zd0 (zaF w h) w.length i = true)) ∧ (h.getD i false = false → R = (zd9 (zaF w h) w.length i).map (nmI w)) := by
 rcases hn with ⟨hg, _, _⟩ | ⟨hg, L, kk, hW, rfl, rfl⟩
 ·exact ⟨fun e => (by rw [hg] at e; cases e), fun e => (by rw [hg] at e; cases e)⟩
 ·have hcn : L.contains kk = true := by
   obtain ⟨b, e, b2, _⟩ := hW.at'
   rw [zbq] at b2
   rcases hx with q | q
   ·rw [e, zoR hne (by omega)] at q; omega
   ·rwa [zhF hs zbq hW] at q
  have hd := hW.done hcn
  rw [zbq] at hd
  obtain ⟨b, l1, l2, l3, l4⟩ := hW.last
  rw [zbq] at l3
  refine ⟨fun _ => ?_, fun _ => by rw [hd]⟩
  have e1 : (L.map (nmI w)).getLastD [] = nmI w (b : Int) := by
   obtain ⟨A, z, e⟩ : ∃ A z, L = A ++ [z] := ⟨L.dropLast, L.getLast hW.ne, (List.dropLast_concat_getLast hW.ne).symm⟩
   subst e
   simp at l2
   simp [l2]
  rw [e1, ziQ hs hl l3]
  unfold zd0
  rw [hd, l2, Int.toNat_natCast, zhy l3, beq_iff_eq]
  obtain ⟨k, k1, k2, _⟩ := (zc5 hs hc).nx b (by rw [zbq]; exact l3) l4
  rw [zgL l3] at k1
  simp at k1
  rw [zbq] at k2
  rw [k1]
  constructor
  ·intro e; rw [znt hs k2 hi e]
  ·intro e; rw [show k = i by omega]
theorem zjg {w : List WantS} (hs : SortedS (w.map (·.Player))) : ∀ {l : List Int} {g : List Bool}, g.length = w.length → (∀ z ∈ l, ∃ a : Nat, z = (a : Int) ∧ a < w.length) → (l.map (nmI w)).foldl (fun L s => zca s L) (zaG w g) = zaG w (zbP g l)
 | [], _, _, _ => rfl
 | z :: t, g, hl, hz => by
   obtain ⟨a, rfl, ha⟩ := hz z (by simp)
   obtain ⟨x, hx⟩ : ∃ x, w[a]? = some x := ⟨_, List.getElem?_eq_getElem ha⟩
   rw [List.map_cons, List.foldl_cons, zbP, zjN hx, zj6 (zfU hs) hl hx]
   rw [Int.toNat_natCast]
   exact zjg hs (by simpa using hl) fun y hy => hz y (List.mem_cons_of_mem _ hy)
theorem znZ {to : List Int} {g : List Bool} {n k : Nat} (hk : k < n) (h : ¬ (g.getD k false = false ∧ zd0 to n k = true)) (he : zam to g n = zcC to g n k (n - k)) : zam to g n = zcC to g n (k + 1) (n - (k + 1)) := by
 rw [he, show n - k = (n - (k + 1)) + 1 by omega, zcC, if_neg h]
theorem zmZ {to : List Int} {g : List Bool} {n k : Nat} (hk : k < n) (h1 : g.getD k false = false) (h2 : zd0 to n k = true) (he : zam to g n = zcC to g n k (n - k)) : zam to g n = zd9 to n k := by
 rw [he, show n - k = (n - (k + 1)) + 1 by omega, zcC, if_pos ⟨h1, h2⟩]
end
end
section
open Op
variable {w : List WantS} {h : List Bool} {k : Nat} {R : List Str} {s : Str} {x : WantS} {out : List (List Str)}
theorem zqV (hs : SortedS (w.map (·.Player))) (hx : w[k]? = some x) : zaC x.Player x.For (zgp (w.take k)) = zgp (w.take (k + 1)) := by
 have hn : alk x.Player (zgp (w.take k)) = none := by
  refine Classical.byContradiction fun hq => ?_
  have hm : ∀ {l : List WantS}, alk x.Player (zgp l) ≠ none → x.Player ∈ l.map (·.Player) := by
   intro l
   induction l with
   | nil => intro h; exact absurd rfl h
   | cons y t ih =>
     intro h
     rw [show zgp (y :: t) = (y.Player, y.For) :: zgp t from rfl, alk] at h
     split at h
     ·rename_i e; rw [e]; simp
     ·exact List.mem_cons_of_mem _ (ih h)
  have h1 := hm hq
  have hnd := zfU hs
  have e : w = w.take k ++ x :: w.drop (k + 1) := by rw [← zK hx, List.take_append_drop]
  rw [e, List.map_append, List.nodup_append] at hnd
  exact hnd.2.2 _ h1 _ (by simp) rfl
 rw [zmg hn, zb3 hx]
 unfold zgp
 simp
theorem zkx : ∀ {w : List WantS} {g : List Bool} {s : Str} {F : List Str}, alk s (zaG w g) = some F → ∃ x ∈ w, x.For = F
 | [], _, _, _, h => by cases ‹List Bool› <;> cases h
 | y :: t, [], _, _, h => by cases h
 | y :: t, b :: g, s, F, h => by
   rw [zaG] at h
   split at h
   ·obtain ⟨x, h1, h2⟩ := zkx h
    exact ⟨x, List.mem_cons_of_mem _ h1, h2⟩
   ·rw [alk] at h
    split at h
    ·simp at h; exact ⟨y, by simp, h⟩
    ·obtain ⟨x, h1, h2⟩ := zkx h
     exact ⟨x, List.mem_cons_of_mem _ h1, h2⟩
theorem zga {n : Nat} (hf : ∀ x ∈ w, x.For.length ≤ n) (g : List Bool) (s : Str) : ((alk s (zaG w g)).getD []).length ≤ n := by
 cases e : alk s (zaG w g) with
 | none => exact Nat.zero_le _
 | some F => obtain ⟨x, h1, rfl⟩ := zkx e; exact hf x h1
theorem znl (hs : SortedS (w.map (·.Player))) (hl : h.length = w.length) (hx : w[k]? = some x) : (alk x.Player (zaG w h)).isSome = !(h.getD k false) := by
 rw [zh8 (zfU hs) hl hx]
 cases h.getD k false <;> rfl
theorem zqe (hs : SortedS (w.map (·.Player))) (hl : h.length = w.length) (hne : ∀ x ∈ w, x.Player ≠ []) (hx : w[k]? = some x) : zeP (zaG w h) x.Player = [] ↔ zbA w h k < 0 := by
 rw [znw hs hl hx, zoR hne]
 unfold zbA
 split
 ·omega
 ·rcases zki (g := h) hs (t := (w.getD k zbQ).For) with e | ⟨a, e, h2, _⟩ <;> omega
theorem zqH {b c : Bool} {q : Str} {z : Int} (h1 : b = !c) (h2 : q = [] ↔ z < 0) (h3 : b = true → ¬ q = []) : c = true ∨ 0 ≤ z := by
 cases c with
 | true => exact .inl rfl
 | false => exact .inr (by have := h3 (by rw [h1]; rfl); rw [h2] at this; omega)
theorem zo6 (h : R ≠ []) : ∃ z, R[R.length - 1]? = some z ∧ R.getLastD [] = z := by
 obtain ⟨A, z, rfl⟩ : ∃ A z, R = A ++ [z] := ⟨R.dropLast, R.getLast h, (List.dropLast_concat_getLast h).symm⟩
 exact ⟨z, by simp, by simp⟩
structure FoundR (w : List WantS) (h : List Bool) (R : List Str) (out : List (List Str)) : Prop where
 len : (zbP h (zam (zaF w h) h w.length)).length = w.length
 rest : ze5 w (zbP h (zam (zaF w h) h w.length)) (out ++ [R])
 lt : zaR (zbP h (zam (zaF w h) h w.length)) < zaR h
 map : R.foldl (fun L s => zca s L) (zaG w h) = zaG w (zbP h (zam (zaF w h) h w.length))
theorem zol (hs : SortedS (w.map (·.Player))) (hl : h.length = w.length) (hc : CoreG w h h) (hne : ∀ x ∈ w, x.Player ≠ []) (hn : NameI w h k R s) (hx : w[k]? = some x) (he : s = [] ∨ R.contains s = true)
 (hg : zam (zaF w h) h w.length = zcC (zaF w h) h w.length k (w.length - k)) (h0 : h.getD k false = false) (hp : zeP (zaG w h) (R.getLastD []) = x.Player) (hre : ze5 w h out) : FoundR w h R out := by
 have hk := zD hx
 obtain ⟨d1, d2⟩ := hn.done hs hl hc hne hk he
 have hr : zd0 (zaF w h) w.length k = true := (d1 h0).1 (by rw [hp, zjN hx])
 have e1 := zmZ hk h0 hr hg
 have e2 := d2 h0
 rw [← e1] at e2
 have hRne : zam (zaF w h) h w.length ≠ [] := by
  intro q; rw [q] at e2; exact hn.ne (by rw [e2]; rfl)
 have hcl := zc5 hs hc
 have hrm := zmC hcl
 rw [zbq] at hrm
 refine ⟨by rw [zeW]; exact hl, ?_, zig hl hRne, ?_⟩
 ·have := zlp hc hre hRne
  rw [zpD (fun z hz => by obtain ⟨a, rfl, _⟩ := hrm z hz; omega), ← e2] at this
  exact this
 ·conv => lhs; rw [e2]
  exact zjg hs hl fun z hz => by obtain ⟨a, q1, q2, _⟩ := hrm z hz; exact ⟨a, q1, q2⟩
theorem zpz (hs : SortedS (w.map (·.Player))) (hl : h.length = w.length) (hc : CoreG w h h) (hne : ∀ x ∈ w, x.Player ≠ []) (hn : NameI w h k R s) (hx : w[k]? = some x) (he : s = [] ∨ R.contains s = true)
 (hg : zam (zaF w h) h w.length = zcC (zaF w h) h w.length k (w.length - k)) (h0 : ¬ (h.getD k false = false ∧ zeP (zaG w h) (R.getLastD []) = x.Player)) : zam (zaF w h) h w.length = zcC (zaF w h) h w.length (k + 1) (w.length - (k + 1)) := by
 have hk := zD hx
 obtain ⟨d1, _⟩ := hn.done hs hl hc hne hk he
 refine znZ hk (fun q => h0 ⟨q.1, ?_⟩) hg
 rw [(d1 q.1).2 q.2, zjN hx]
theorem zpk (hg : zam (zaF w h) h w.length = zcC (zaF w h) h w.length w.length (w.length - w.length)) : zam (zaF w h) h w.length = [] := by
 rw [hg, Nat.sub_self]; rfl
end
section
open Go
section
variable {P : Program} {e : Env} {dst : Option Tmp} {ty : TypeId} {pos : String} {af : Array Edge} {g : Option (Nat × Bool)} {M : List MObj} {K : HVal → List MObj → Prop}
theorem zlF [Tracks] {x y : Operand} {t kt et : TypeId} {size bytes s2 b2 s3 b3 : Nat} {zero z2 z3 : Value} {d : TD} {ls : zce} {s : List UInt8}
 (hf : Fits P t (.map kt et) size bytes zero) (hkt : Fits P kt .str s2 b2 z2) (het : Fits P et d s3 b3 z3) (hx : zx e x = some (hsm ls)) (hy : zx e y = some (.str s)) :
 POp P e ⟨dst, .lookup t x y true, ty, pos, af, g⟩ (.tup [match zaf s ls with | some p => p.2 | none => zd7 z3, .bool (zaf s ls).isSome]) :=
 POp.of_run fun I F a w ho hs => by
  obtain ⟨b, es, clk, h1, h3, h4, h4', hK, hV⟩ := (ho.one (x := x) (by simp [Op.operands]) hx).hmap_inv
  have h2 := (ho.one (x := y) (by simp [Op.operands]) hy).str_inv
  have h3 := hs.imm _ _ h3
  have h5 : ∀ (i : Nat) (p : HVal × HVal) (m : MapEntry), (sk ls)[i]? = some p → es[i]? = some m → V I p.1 m.key ∧ V I p.2 m.val := fun i p m a1 a2 => by
   refine ⟨hK i _ m ?_ a2, hV i _ m ?_ a2⟩
   ·rw [← zl5, List.getElem?_map, a1]; rfl
   ·rw [← zl8, List.getElem?_map, a1]; rfl
  obtain ⟨h6, h7⟩ := zcW (by simpa [sk] using h4) h5
  obtain ⟨n1, n2⟩ := zdw (I := I) (s := s) es.toList ls 0 h6 h7
  cases hq : zaf s ls with
  | none =>
    refine ⟨.tuple #[z3, .bool false], w, I, ?_, .refl I, V.tup2 (zeM I z3) (.bool _), hs⟩
    simp only [execOp, h1, h2, Instr.lookup, Sem.run_bind, run_underlying hf.mapD, Result.andThen_ok, zbH h3, Sem.run_pure, za0 hkt.strD, Instr.findKey, run_underlying hkt.strD, n1 hq, het.run_zero]
    simp
  | some p =>
    obtain ⟨j, h⟩ := p
    obtain ⟨v, g1, g2⟩ := n2 j h hq
    refine ⟨.tuple #[v, .bool true], w, I, ?_, .refl I, V.tup2 g2 (.bool _), hs⟩
    simp only [execOp, h1, h2, Instr.lookup, Sem.run_bind, run_underlying hf.mapD, Result.andThen_ok, zbH h3, Sem.run_pure, za0 hkt.strD, Instr.findKey, run_underlying hkt.strD, g1]
    simp
theorem zmb {s : Str} (L : List (Str × List Str)) : (zaf s (em eSs L)).isSome = (alk s L).isSome := by
 have := congrArg Option.isSome (zi6 eSs s L)
 simpa using this
theorem zhQ [Tracks] {s : Str} (L : List (Str × List Str)) : Weak (match zaf s (em eSs L) with | some p => p.2 | none => .raw (.slice none 0 0)) (eSs ((alk s L).getD [])) := by
 have := zi6 eSs s L
 cases hq : zaf s (em eSs L) with
 | none => rw [hq] at this; cases ha : alk s L with
   | none => exact zbX 1
   | some F => rw [ha] at this; cases this
 | some p => rw [hq] at this; cases ha : alk s L with
   | none => rw [ha] at this; cases this
   | some F => rw [ha] at this; simp at this; simp only; rw [this]; exact Weak.refl _
theorem zoy [Tracks] {x y : Operand} {t kt et : TypeId} {size bytes s2 b2 s3 b3 : Nat} {zero z2 : Value} {d : TD} {L : List (Str × List Str)} {s : Str}
 (hf : Fits P t (.map kt et) size bytes zero) (hkt : Fits P kt .str s2 b2 z2) (het : Fits P et d s3 b3 (.slice none 0 0)) (hx : zx e x = some (hsm (em eSs L))) (hy : zx e y = some (.str s)) :
 POp P e ⟨dst, .lookup t x y false, ty, pos, af, g⟩ (eSs ((alk s L).getD [])) := zlS (zhQ L) (zhw hf hkt het hx hy)
theorem zon [Tracks] {x y : Operand} {t kt et : TypeId} {size bytes s2 b2 s3 b3 : Nat} {zero z2 : Value} {d : TD} {L : List (Str × List Str)} {s : Str}
 (hf : Fits P t (.map kt et) size bytes zero) (hkt : Fits P kt .str s2 b2 z2) (het : Fits P et d s3 b3 (.slice none 0 0)) (hx : zx e x = some (hsm (em eSs L))) (hy : zx e y = some (.str s)) :
 POp P e ⟨dst, .lookup t x y true, ty, pos, af, g⟩ (.tup [eSs ((alk s L).getD []), .bool (alk s L).isSome]) := by
 have := zlF (dst := dst) (ty := ty) (pos := pos) (af := af) (g := g) hf hkt het hx hy
 rw [zmb] at this
 exact zlS (zbC (zhQ L) (Weak.refl _)) this
theorem zjV [Tracks] {x y : Operand} {t kt et : TypeId} {size bytes s2 b2 s3 b3 : Nat} {zero z2 : Value} {d : TD} {i b : Nat} {L : List (Str × List Str)} {s : Str}
 (hf : Fits P t (.map kt et) size bytes zero) (hkt : Fits P kt .str s2 b2 z2) (het : Fits P et d s3 b3 (.slice none 0 0)) (hx : zx e x = some (.raw (.map (some b)))) (hy : zx e y = some (.str s)) (hm : M[i]? = some (.map b (sk (em eSs L))))
 (hk : K (.tup [eSs ((alk s L).getD []), .bool (alk s L).isSome]) M) : EOp P e M ⟨dst, .lookup t x y true, ty, pos, af, g⟩ K := fun I F a w ho hs => by
 refine Oper.wp_noQ ?_ ((zmX (K := fun h N => h = .tup [match zaf s (em eSs L) with | some p => p.2 | none => zd7 (.slice none 0 0), .bool (zaf s (em eSs L)).isSome] ∧ N = M) hf hkt het hx hy hm ⟨rfl, rfl⟩) I F a w ho hs)
 rintro a' w' ⟨v, x', M', J, h1, h2, ⟨rfl, rfl⟩, h4, h5⟩
 refine ⟨v, _, _, J, h1, h2, hk, ?_, h5⟩
 rw [zmb] at h4
 exact zbC (zhQ L) (Weak.refl _) _ _ h4
end
end
end Go.HL
namespace Go.Proofs.YtcihcbnjfclkbaaGreatDoor
set_option maxRecDepth 100000
set_option linter.unusedVariables false
set_option linter.unusedSimpArgs false
section
open Go.HL
/-- benchwarmer/benchref1.RingsOf$1 -/
theorem zb8 [Tracks] {L : List (Str × List Str)} {s : Str} (hL : ∀ s, ((alk s L).getD []).length ≤ 1000000) : zaa Tryz.prog 58 [.str s, .vptr [hsm (em eSs L)] 0] (.str (zeP L s)) := by
 refine Con.of_body Tryz.func58 rfl Tryz.ntmps58 rfl rfl ?_
 refine zb ?_
 refine das rfl ?_
 refine dn ?_
 refine zf ?_
 refine zb ?_
 refine dq (zi zcN rfl rfl rfl) ?_
 refine dmv rfl ?_
 refine dq (zoy zcN ty9 zF rfl rfl) ?_
 refine dq (zB zF rfl) ?_
 refine dmv rfl ?_
 refine dn ?_
 refine zm ?_
 refine z8 [3, 5, 6, 7, 12, 13, 14, 15, 16, 17, 18, 19, 20, 21, 22, 23, 24] (fun (k : Nat) => [(12, .int .i64 k)]) (fun (k : Nat) => []) (fun (k : Nat) => k ≤ ((alk s L).getD []).length ∧ (zeP L s = ((((alk s L).getD []).drop k).find? fun t => (alk t L).isSome).getD [])) (fun (k : Nat) => ((alk s L).getD []).length - k) (0) ?_ ?_ ?_ ?_
 ·exact ⟨Nat.zero_le _, rfl⟩
 ·exact ⟨rfl, trivial⟩
 ·exact List.Perm.refl _
 ·intro k hinv
  obtain ⟨hk, hg⟩ := hinv
  refine zb ?_
  refine dq (zJ rfl rfl) ?_
  refine dn ?_
  refine zf ?_
  refine zj rfl (fun h1 => ?_) (fun h2 => ?_)
  ·try simp at h1
   obtain ⟨y, hy⟩ : ∃ y, ((alk s L).getD [])[k]? = some y := ⟨_, List.getElem?_eq_getElem h1⟩
   have hdy := zK hy
   rw [hdy] at hg
   have hLs := hL s
   refine zk ?_
   refine ze ?_
   refine zf ?_
   refine zm ?_
   refine zb ?_
   refine dq (zH zF ty9 rfl rfl rfl (by first | assumption | simp_all)) ?_
   refine dq (zi ty9 rfl rfl rfl) ?_
   refine das rfl ?_
   refine dn ?_
   refine zb ?_
   refine dq (zi zcN rfl rfl rfl) ?_
   refine dmv rfl ?_
   refine dq (zon zcN ty9 zF rfl rfl) ?_
   refine dmv rfl ?_
   refine dq (zan rfl rfl) ?_
   refine dq (zan rfl rfl) ?_
   refine das rfl ?_
   refine das rfl ?_
   refine dn ?_
   refine zb ?_
   refine dmv rfl ?_
   refine dn ?_
   refine zj rfl (fun h3 => ?_) (fun h4 => ?_)
   ·try simp at h3
    refine zb ?_
    refine dmv rfl ?_
    refine das rfl ?_
    refine dn ?_
    refine zo ?_
    refine zC rfl ?_
    show HVal.str _ = _
    first
    | (rw [hg, List.find?_cons_of_pos (by assumption)]; rfl)
    | (rw [hg, z6 (Nat.le_refl _)]; rfl)
   ·try simp at h4
    refine zk ?_
    refine zz ?_
    refine ze ?_
    refine zy ?_
    refine dq (zv rfl rfl (by omega) (by omega)) ?_
    refine dmv rfl ?_
    refine dn ?_
    refine ⟨k + 1, ?_, ?_, ⟨rfl, trivial⟩, (by repeat (first | exact zp | refine zu rfl ?_ | refine zq rfl rfl ?_)), List.Perm.refl _⟩
    ·refine ⟨by omega, ?_⟩
     rw [hg, List.find?_cons_of_neg (by simp_all)]
    ·dsimp only; omega
  ·try simp at h2
   have hnk : ((alk s L).getD []).length ≤ k := by omega
   obtain rfl : k = ((alk s L).getD []).length := by omega
   refine zN ?_
   refine zS ?_
   refine zag ?_
   refine zE ?_
   refine ze ?_
   refine zb ?_
   refine das rfl ?_
   refine dn ?_
   refine zo ?_
   refine zC rfl ?_
   show HVal.str _ = _
   first
   | (rw [hg, List.find?_cons_of_pos (by assumption)]; rfl)
   | (rw [hg, z6 (Nat.le_refl _)]; rfl)

set_option maxHeartbeats 2000000 in
/-- benchwarmer/benchref1.RingsOf -/
theorem zhh [Tracks] {w : List WantS} (hw : w.length ≤ 500) (hs : SortedS (w.map (·.Player))) (hf : ∀ x ∈ w, x.For.length ≤ 1000000) (hne : ∀ x ∈ w, x.Player ≠ []) : zaa Tryz.prog 17 [za1 w] (znV (zd1 w)) := by
 refine Con.of_body Tryz.func17 rfl Tryz.ntmps17 rfl rfl ?_
 refine zb ?_
 refine das rfl ?_
 refine dn ?_
 refine zb ?_
 refine de rfl (ziu fun m21 => ?_)
 refine de rfl (zab zcN rfl fun b3 => ?_)
 refine de0 (zao zcN rfl rfl rfl rfl rfl ?_)
 refine dn ?_
 refine zO (Ghost.fc0 3 rfl) ?_
 refine zf ?_
 refine zb ?_
 refine dmv rfl ?_
 refine dq (zB zaP rfl) ?_
 refine dmv rfl ?_
 refine dn ?_
 refine zm ?_
 refine z8 [5, 24, 25, 26, 27, 28, 29, 30, 31, 32, 33] (fun (k : Nat) => [(24, .int .i64 k)]) (fun (k : Nat) => [.map m21 (sk (em eSs (zgp (w.take k))))]) (fun (k : Nat) => k ≤ w.length ∧ (True)) (fun (k : Nat) => w.length - k) (0) ?_ ?_ ?_ ?_
 ·exact ⟨Nat.zero_le _, trivial⟩
 ·exact ⟨rfl, trivial⟩
 ·exact zT rfl
 ·intro k hinv
  obtain ⟨hk, -⟩ := hinv
  refine zb ?_
  refine dq (zJ rfl rfl) ?_
  refine dn ?_
  refine zf ?_
  refine zj rfl (fun h1 => ?_) (fun h2 => ?_)
  ·try simp at h1
   obtain ⟨x, hx⟩ : ∃ x, w[k]? = some x := ⟨_, List.getElem?_eq_getElem h1⟩
   have hdx := zK hx
   refine zk ?_
   refine ze ?_
   refine zf ?_
   refine zm ?_
   refine zb ?_
   refine dq (zH zaP zU rfl rfl rfl (by first | assumption | simp_all)) ?_
   refine dq (zY zU rfl rfl rfl rfl) ?_
   refine de rfl (zab zU rfl fun b5 => ?_)
   refine de0 (zao zU rfl rfl rfl rfl rfl ?_)
   refine dn ?_
   refine zO (Ghost.fc0 5 rfl) ?_
   refine zy ?_
   refine dq (zi zcN rfl rfl rfl) ?_
   refine dq ((by first | exact zg zU rfl ty9 (by decide) rfl | exact zn zU rfl ty9 (by decide) rfl)) ?_
   refine dq (zi ty9 rfl rfl rfl) ?_
   refine dq ((by first | exact zg zU rfl zF (by decide) rfl | exact zn zU rfl zF (by decide) rfl)) ?_
   refine dq (zi zF rfl rfl rfl) ?_
   refine de0 (zm2 (i := 0) (f := eSs) (v := x.For) (s := x.Player) (L := zgp (w.take k)) zcN ty9 rfl rfl rfl rfl ?_)
   rw [zqV hs hx]
   refine dn ?_
   refine zz ?_
   refine ze ?_
   refine zy ?_
   refine dq (zv rfl rfl (by omega) (by omega)) ?_
   refine dmv rfl ?_
   refine dn ?_
   exact ⟨k + 1, ⟨by omega, trivial⟩, by dsimp only; omega, ⟨rfl, trivial⟩, (by repeat (first | exact zp | refine zu rfl ?_ | refine zq rfl rfl ?_)), zT rfl⟩
  ·try simp at h2
   have hnk : w.length ≤ k := by omega
   obtain rfl : k = w.length := by omega
   refine zN ?_
   refine zS ?_
   refine zag ?_
   refine zE ?_
   refine ze ?_
   refine zb ?_
   refine dq (zcr rfl rfl) ?_
   refine das rfl ?_
   refine dn ?_
   rw [List.take_length]
   refine zb ?_
   refine das rfl ?_
   refine dn ?_
   refine zO (Ghost.arr_nil 1) ?_
   refine zf ?_
   refine zb ?_
   refine das rfl ?_
   refine dn ?_
   refine zm ?_
   refine zf5 (7 :: 8 :: 10 :: 11 :: 12 :: 14 :: 15 :: 16 :: 17 :: 18 :: 20 :: 35 :: 36 :: 37 :: 38 :: 39 :: 40 :: 41 :: 42 :: 43 :: 44 :: 45 :: 46 :: 47 :: 48 :: 49 :: 50 :: 51 :: 52 :: 53 :: 54 :: 55 :: 56 :: 57 :: 58 :: 59 :: 60 :: 61 :: 62 :: 63 :: 64 :: 65 :: 66 :: 67 :: 68 :: 69 :: 70 :: 71 :: 72 :: 73 :: 74 :: 75 :: 76 :: 77 :: 78 :: 79 :: 80 :: 81 :: 82 :: 83 :: 84 :: 85 :: 86 :: 87 :: 88 :: 89 :: 90 :: 91 :: 92 :: 93 :: 94 :: 95 :: 96 :: 97 :: 98 :: 99 :: 100 :: 101 :: 102 :: 103 :: 104 :: 105 :: 106 :: 107 :: 108 :: 109 :: 110 :: 111 :: 112 :: 113 :: 114 :: 115 :: 116 :: 117 :: 118 :: 119 :: 120 :: 121 :: 122 :: 123 :: 124 :: []) (fun (ag : Bool) (ov : Value) (h : List Bool) (out : List (List Str)) => [(8, .bool ag), (7, .raw ov)]) (fun (ag : Bool) (ov : Value) (h : List Bool) (out : List (List Str)) => [.arr ov 1 (out.map eSs), .map m21 (sk (em eSs (zaG w h)))]) (fun (ag : Bool) (ov : Value) (h : List Bool) (out : List (List Str)) => h.length = w.length ∧ (ag = true → ze5 w h out) ∧ (ag = false → zd1 w = out) ∧ out.length + zaR h ≤ w.length) (fun (ag : Bool) (ov : Value) (h : List Bool) (out : List (List Str)) => zaR h + (if ag then 1 else 0)) (true) (.slice none 0 0) (List.replicate w.length false) ([]) ?_ ?_ ?_ ?_
   ·exact ⟨by simp, fun _ => zjY, fun e => (by cases e), by rw [zje]; simp⟩
   ·exact ⟨rfl, rfl, trivial⟩
   ·exact zT (by rw [znb]; rfl)
   ·intro ag ov h out hinv
    obtain ⟨hhl, hre, hnd, hol⟩ := hinv
    refine zf ?_
    refine zb ?_
    refine dmv rfl ?_
    refine dn ?_
    refine zj rfl (fun h3 => ?_) (fun h4 => ?_)
    ·try simp at h3
     have hag : ag = true := by first | assumption | simp_all
     refine zk ?_
     refine ze ?_
     refine zm ?_
     refine zb ?_
     refine das rfl ?_
     refine dn ?_
     refine zf ?_
     refine zb ?_
     refine dmv rfl ?_
     refine dq (zB zaP rfl) ?_
     refine dmv rfl ?_
     refine dn ?_
     refine zm ?_
     refine zcI [8, 10, 11, 12, 38, 39, 40, 41, 42, 43, 44, 45, 46, 47, 48, 49, 50, 51, 52, 53, 54, 55, 56, 57, 58, 59, 60] (fun (k : Nat) (hB : List Bool) (sm : Bool) => [(38, .int .i64 k), (8, .bool sm)]) (fun (k : Nat) (hB : List Bool) (sm : Bool) => [.arr ov 1 (out.map eSs), .map m21 (sk (em eSs (zaG w hB)))]) (fun (k : Nat) (hB : List Bool) (sm : Bool) => k ≤ w.length ∧ (PassI w h hB k sm)) (fun (k : Nat) (hB : List Bool) (sm : Bool) => w.length - k) (0) (h) (false) ?_ ?_ ?_ ?_
     ·exact ⟨Nat.zero_le _, PassI.start hhl⟩
     ·exact ⟨rfl, rfl, trivial⟩
     ·exact List.Perm.refl _
     ·intro k hB sm hinv
      obtain ⟨hk, hd⟩ := hinv
      refine zb ?_
      refine dq (zJ rfl rfl) ?_
      refine dn ?_
      refine zf ?_
      refine zj rfl (fun h5 => ?_) (fun h6 => ?_)
      ·try simp at h5
       obtain ⟨x, hx⟩ : ∃ x, w[k]? = some x := ⟨_, List.getElem?_eq_getElem h5⟩
       have hdx := zK hx
       refine zk ?_
       refine ze ?_
       refine zf ?_
       refine zm ?_
       refine zb ?_
       refine dq (zH zaP zU rfl rfl rfl (by first | assumption | simp_all)) ?_
       refine dq (zY zU rfl rfl rfl rfl) ?_
       refine de rfl (zab zU rfl fun b10 => ?_)
       refine de0 (zao zU rfl rfl rfl rfl rfl ?_)
       refine dn ?_
       refine zO (Ghost.fc0 10 rfl) ?_
       refine zb ?_
       refine dq (zi zcN rfl rfl rfl) ?_
       refine dq ((by first | exact zg zU rfl ty9 (by decide) rfl | exact zn zU rfl ty9 (by decide) rfl)) ?_
       refine dq (zi ty9 rfl rfl rfl) ?_
       refine de rfl (zjV (i := 1) (L := zaG w hB) (s := x.Player) zcN ty9 zF rfl rfl rfl ?_)
       refine dmv rfl ?_
       refine dq (zan rfl rfl) ?_
       refine dq (zan rfl rfl) ?_
       refine das rfl ?_
       refine das rfl ?_
       refine dn ?_
       have his := znl hs hd.len hx
       have hpn := zqe hs hd.len hne hx
       have hkl := zD hx
       refine zb ?_
       refine dmv rfl ?_
       refine dmv rfl ?_
       refine dg rfl rfl (fun hc => ⟨_, OpenTo.refl _, zd rfl⟩) ?_
       refine dg rfl rfl (fun hc => ⟨_, OpenTo.refl _, (by first | exact zg zU rfl ty9 (by decide) rfl | exact zn zU rfl ty9 (by decide) rfl)⟩) ?_
       refine dg rfl rfl (fun hc => ⟨_, OpenTo.upd (t := 52) rfl (by first | exact hc | simp_all) (OpenTo.refl _), zi ty9 rfl rfl rfl⟩) ?_
       refine dgl rfl rfl (fun hc => ⟨_, OpenTo.upd (t := 53) rfl (by first | exact hc | simp_all) (OpenTo.upd (t := 51) rfl (by first | exact hc | simp_all) (OpenTo.refl _)), zfv (hs' := [.str x.Player, .vptr [hsm (em eSs (zaG w hB))] 0]) zn8 rfl rfl ⟨.refl, .vptrL ⟨.map (i := 1) rfl, trivial⟩, trivial⟩ (zb8 (L := zaG w hB) (s := x.Player) (zga hf hB)) rfl ⟨rfl, rfl⟩⟩) ?_
       refine dg rfl rfl (fun hc => ⟨_, OpenTo.upd (t := 54) rfl (by first | exact hc | simp_all) (OpenTo.refl _), zbb rfl rfl⟩) ?_
       refine dq (zL rfl (.inr ⟨_, rfl, fun h => by simp_all⟩) (.inl rfl)) ?_
       refine dn ?_
       refine zj rfl (fun h7 => ?_) (fun h8 => ?_)
       ·try simp at h7
        refine zb ?_
        refine dq (zi zcN rfl rfl rfl) ?_
        refine dq ((by first | exact zg zU rfl ty9 (by decide) rfl | exact zn zU rfl ty9 (by decide) rfl)) ?_
        refine dq (zi ty9 rfl rfl rfl) ?_
        refine de0 (zjx (i := 1) (f := eSs) (L := zaG w hB) (s := x.Player) zcN ty9 rfl rfl rfl ?_)
        rw [zj6 (zfU hs) hd.len hx]
        refine dn ?_
        refine zy ?_
        refine das rfl ?_
        refine dn ?_
        refine zz ?_
        refine ze ?_
        refine zy ?_
        refine dq (zv rfl rfl (by omega) (by omega)) ?_
        refine dmv rfl ?_
        refine dn ?_
        exact ⟨k + 1, hB.set k true, true, ⟨by omega, hd.set hkl (by simp_all) (by simp_all)⟩, by dsimp only; omega, ⟨rfl, rfl, trivial⟩, (by repeat (first | exact zp | refine zu rfl ?_ | refine zq rfl rfl ?_)), List.Perm.refl _⟩
       ·try simp at h8
        refine zk ?_
        refine zz ?_
        refine ze ?_
        refine zy ?_
        refine dq (zv rfl rfl (by omega) (by omega)) ?_
        refine dmv rfl ?_
        refine dn ?_
        exact ⟨k + 1, hB, sm, ⟨by omega, hd.skip (zqH his hpn (by first | assumption | simp_all))⟩, by dsimp only; omega, ⟨rfl, rfl, trivial⟩, (by repeat (first | exact zp | refine zu rfl ?_ | refine zq rfl rfl ?_)), List.Perm.refl _⟩
      ·try simp at h6
       have hnk : w.length ≤ k := by omega
       obtain rfl : k = w.length := by omega
       refine zN ?_
       refine zS ?_
       refine zdu ?_
       refine zE ?_
       refine ze ?_
       refine zf ?_
       refine zb ?_
       refine dmv rfl ?_
       refine dn ?_
       refine zj rfl (fun h9 => ?_) (fun h10 => ?_)
       ·try simp at h9
        refine zN ?_
        refine zS ?_
        refine zE ?_
        have hsm : sm = true := by first | assumption | simp_all
        subst hsm
        exact ⟨true, ov, hB, out, ⟨hd.len, fun _ => (zo9 hd.core).1 (hre hag), fun e => (by cases e), by have := hd.le; omega⟩, by have := hd.lt rfl; subst hag; dsimp only; simp; omega, ⟨rfl, rfl, trivial⟩, (by repeat (first | exact zp | refine zu rfl ?_ | refine zq rfl rfl ?_)), List.Perm.refl _⟩
       ·try simp at h10
        refine zk ?_
        refine ze ?_
        have hsm : sm = false := by first | assumption | simp_all
        subst hsm
        obtain ⟨hcore, heq⟩ := hd.done hhl
        replace heq := heq.symm
        subst heq
        have hrest := hre hag
        refine zb ?_
        refine dmv rfl ?_
        refine dq (zB zaP rfl) ?_
        refine dmv rfl ?_
        refine dn ?_
        refine zm ?_
        refine z8 (7 :: 8 :: 14 :: 15 :: 16 :: 17 :: 18 :: 20 :: 64 :: 65 :: 66 :: 67 :: 68 :: 69 :: 70 :: 71 :: 72 :: 73 :: 74 :: 75 :: 76 :: 77 :: 78 :: 79 :: 80 :: 81 :: 82 :: 83 :: 84 :: 85 :: 86 :: 87 :: 88 :: 89 :: 90 :: 91 :: 92 :: 93 :: 94 :: 95 :: 96 :: 97 :: 98 :: 99 :: 100 :: 101 :: 102 :: 103 :: 104 :: 105 :: 106 :: 107 :: 108 :: 109 :: 110 :: 111 :: 112 :: 113 :: 114 :: 115 :: 116 :: 117 :: 118 :: 119 :: 120 :: 121 :: 122 :: 123 :: 124 :: []) (fun (k : Nat) => [(64, .int .i64 k), (7, .raw ov), (8, .bool false)]) (fun (k : Nat) => [.arr ov 1 (out.map eSs), .map m21 (sk (em eSs (zaG w h)))]) (fun (k : Nat) => k ≤ w.length ∧ (zam (zaF w h) h w.length = zcC (zaF w h) h w.length k (w.length - k))) (fun (k : Nat) => w.length - k) (0) ?_ ?_ ?_ ?_
        ·exact ⟨Nat.zero_le _, rfl⟩
        ·exact ⟨rfl, rfl, rfl, trivial⟩
        ·exact List.Perm.refl _
        ·intro k hinv
         obtain ⟨hk, hg⟩ := hinv
         refine zb ?_
         refine dq (zJ rfl rfl) ?_
         refine dn ?_
         refine zf ?_
         refine zj rfl (fun h11 => ?_) (fun h12 => ?_)
         ·try simp at h11
          obtain ⟨x, hx⟩ : ∃ x, w[k]? = some x := ⟨_, List.getElem?_eq_getElem h11⟩
          have hdx := zK hx
          have hkl := zD hx
          refine zk ?_
          refine ze ?_
          refine zf ?_
          refine zm ?_
          refine zb ?_
          refine dq (zH zaP zU rfl rfl rfl (by first | assumption | simp_all)) ?_
          refine dq (zY zU rfl rfl rfl rfl) ?_
          refine de rfl (zab zU rfl fun b14 => ?_)
          refine de0 (zao zU rfl rfl rfl rfl rfl ?_)
          refine dn ?_
          refine zO (Ghost.fc0 14 rfl) ?_
          refine zb ?_
          refine dq ((by first | exact zg zU rfl ty9 (by decide) rfl | exact zn zU rfl ty9 (by decide) rfl)) ?_
          refine dq (zi ty9 rfl rfl rfl) ?_
          refine de rfl (zf8 (hs := [_]) zF ty9 rfl rfl (by decide) (by decide) rfl fun v70 => ?_)
          refine das rfl ?_
          refine dn ?_
          refine zf ?_
          refine zb ?_
          refine dmv rfl ?_
          refine dq ((by first | exact zg zU rfl ty9 (by decide) rfl | exact zn zU rfl ty9 (by decide) rfl)) ?_
          refine dq (zi ty9 rfl rfl rfl) ?_
          refine de rfl (zfv (hs' := [.str x.Player, .vptr [hsm (em eSs (zaG w h))] 0]) zn8 rfl rfl ⟨.refl, .vptrL ⟨.map (i := 2) rfl, trivial⟩, trivial⟩ (zb8 (L := zaG w h) (s := x.Player) (zga hf h)) rfl ?_) 
          refine das rfl ?_
          refine dn ?_
          refine zm ?_
          refine zcI [15, 16, 75, 76, 77, 78, 79, 80, 81, 82, 83, 84, 85, 86, 87, 88, 89] (fun (u : Value) (R : List Str) (s : Str) => [(15, .raw u), (16, .str s)]) (fun (u : Value) (R : List Str) (s : Str) => [.arr u 1 (R.map .str), .arr ov 1 (out.map eSs), .map m21 (sk (em eSs (zaG w h)))]) (fun (u : Value) (R : List Str) (s : Str) => NameI w h k R s) (fun (u : Value) (R : List Str) (s : Str) => w.length + 1 - R.length) (v70) ([x.Player]) (zeP (zaG w h) x.Player) ?_ ?_ ?_ ?_
          ·exact NameI.start hs hhl hcore hx
          ·exact ⟨rfl, rfl, trivial⟩
          ·exact zT rfl
          ·intro u R s hn
           refine zf ?_
           have hRl := hn.len hkl
           refine zb ?_
           refine dmv rfl ?_
           refine dq (zeQ rfl rfl) ?_
           refine dmv rfl ?_
           refine dg rfl rfl (fun hc => ⟨_, OpenTo.refl _, zd rfl⟩) ?_
           refine dg rfl rfl (fun hc => ⟨_, OpenTo.refl _, zd rfl⟩) ?_
           refine dgl rfl rfl (fun hc => ⟨_, OpenTo.upd (t := 79) rfl (by first | exact hc | simp_all) (OpenTo.upd (t := 78) rfl (by first | exact hc | simp_all) (OpenTo.refl _)), zh0 (hs' := [.slice 1 (R.map .str), .str s]) zl4 rfl ⟨.arr (i := 0) rfl, .weak (Weak.refl _), trivial⟩ (zaW (l := R) (s := s) (by omega)) rfl ⟨rfl, rfl⟩⟩) ?_
           refine dg rfl rfl (fun hc => ⟨_, OpenTo.upd (t := 80) rfl (by first | exact hc | simp_all) (OpenTo.refl _), zaw rfl⟩) ?_
           refine dq (zL rfl (.inr ⟨_, rfl, fun h => by simp_all⟩) (.inl rfl)) ?_
           refine dn ?_
           refine zj rfl (fun h13 => ?_) (fun h14 => ?_)
           ·try simp at h13
            have hs1 : s ≠ [] := by simp_all
            have hs2 : R.contains s = false := by simp_all
            refine zk ?_
            refine ze ?_
            refine zf ?_
            refine zm ?_
            refine zy ?_
            refine dmv rfl ?_
            refine dmv rfl ?_
            refine dq (zM (hs := [_]) zF ty9 rfl rfl (by decide) (by decide) rfl) ?_
            refine de rfl (zah (i := 0) zF ty9 rfl rfl rfl rfl rfl (by simp [zaD, zl]) (by simp; omega) fun v89 => ?_)
            refine das rfl ?_
            refine dn ?_
            refine zz ?_
            refine ze ?_
            refine zy ?_
            refine dmv rfl ?_
            refine dmv rfl ?_
            refine de rfl (zfv (hs' := [.str s, .vptr [hsm (em eSs (zaG w h))] 0]) zn8 rfl rfl ⟨.refl, .vptrL ⟨.map (i := 2) rfl, trivial⟩, trivial⟩ (zb8 (L := zaG w h) (s := s) (zga hf h)) rfl ?_) 
            refine das rfl ?_
            refine dn ?_
            exact ⟨v89, R ++ [s], zeP (zaG w h) s, hn.step hs hhl hcore hs1 hs2, by dsimp only; simp; omega, ⟨rfl, rfl, trivial⟩, (by repeat (first | exact zp | refine zu rfl ?_ | refine zq rfl rfl ?_)), zT (by dsimp only; simp)⟩
           ·try simp at h14
            have hend : s = [] ∨ R.contains s = true := by by_cases q : s = [] <;> simp_all
            refine zN ?_
            refine zS ?_
            refine zdu ?_
            refine zE ?_
            refine ze ?_
            refine zO (Ghost.fa 15 (i := 0) rfl rfl) ?_
            have his := znl hs hhl hx
            obtain ⟨rl, hrl, hrl2⟩ := zo6 hn.ne
            have hRl := hn.len hkl
            have hRp : 0 < R.length := List.length_pos_iff.2 hn.ne
            refine zb ?_
            refine dq (zi zcN rfl rfl rfl) ?_
            refine dq ((by first | exact zg zU rfl ty9 (by decide) rfl | exact zn zU rfl ty9 (by decide) rfl)) ?_
            refine dq (zi ty9 rfl rfl rfl) ?_
            refine de rfl (zjV (i := 1) (L := zaG w h) (s := x.Player) zcN ty9 zF rfl rfl rfl ?_)
            refine dmv rfl ?_
            refine dq (zan rfl rfl) ?_
            refine dq (zan rfl rfl) ?_
            refine das rfl ?_
            refine das rfl ?_
            refine dn ?_
            refine za7 (fun M => M = [.arr ov 1 (out.map eSs), .map m21 (sk (em eSs (zaG w h)))]) [9] mixed ?_
            refine ahp 0 rfl rfl (by kernel_rfl) (by kernel_rfl) (zd rfl) ?_
            refine ahp 1 rfl rfl (by kernel_rfl) (by kernel_rfl) (zd rfl) ?_
            refine ahg 2 rfl rfl (by kernel_rfl) (by kernel_rfl) rfl (fun hc => ⟨_, OpenTo.refl _, zd rfl⟩) ?_
            refine ahg 3 rfl rfl (by kernel_rfl) (by kernel_rfl) rfl (fun hc => ⟨_, OpenTo.refl _, zd rfl⟩) ?_
            refine ahg 4 rfl rfl (by kernel_rfl) (by kernel_rfl) rfl (fun hc => ⟨_, OpenTo.refl _, zd rfl⟩) ?_
            refine ahg 5 rfl rfl (by kernel_rfl) (by kernel_rfl) rfl (fun hc => ⟨_, OpenTo.upd (t := 101) rfl (by first | exact hc | simp_all) (OpenTo.refl _), zB (f := HVal.str) (l := R) zF rfl⟩) ?_
            refine ahg 6 rfl rfl (by kernel_rfl) (by kernel_rfl) rfl (fun hc => by have hq := hc; (try simp at hq); exact ⟨_, OpenTo.upd (t := 102) rfl (by first | exact hc | simp_all) (OpenTo.refl _), zay rfl rfl (by omega) (by omega)⟩) ?_
            refine ahg 7 rfl rfl (by kernel_rfl) (by kernel_rfl) rfl (fun hc => by have hq := hc; (try simp at hq); exact ⟨_, OpenTo.upd (t := 103) rfl (by first | exact hc | simp_all) (OpenTo.upd (t := 100) rfl (by first | exact hc | simp_all) (OpenTo.refl _)), zH (j := R.length - 1) (a := rl) zF ty9 rfl rfl (by omega) hrl⟩) ?_
            refine ahg 8 rfl rfl (by kernel_rfl) (by kernel_rfl) rfl (fun hc => ⟨_, OpenTo.upd (t := 104) rfl (by first | exact hc | simp_all) (OpenTo.refl _), zi ty9 rfl rfl rfl⟩) ?_
            refine zko 9 rfl rfl (by kernel_rfl) (by kernel_rfl) (by simp) rfl rfl (fun hc => ⟨_, OpenTo.upd (t := 105) rfl (by first | exact hc | simp_all) (OpenTo.upd (t := 99) rfl (by first | exact hc | simp_all) (OpenTo.refl _)), fun M hM => by
             subst hM; exact zfv (hs' := [.str rl, .vptr [hsm (em eSs (zaG w h))] 0]) zn8 rfl rfl ⟨.refl, .vptrL ⟨.map (i := 1) rfl, trivial⟩, trivial⟩ (zb8 (L := zaG w h) (s := rl) (zga hf h)) rfl ⟨rfl, rfl⟩
             ⟩) ?_
            refine ahg 10 rfl rfl (by kernel_rfl) (by kernel_rfl) rfl (fun hc => ⟨_, OpenTo.refl _, (by first | exact zg zU rfl ty9 (by decide) rfl | exact zn zU rfl ty9 (by decide) rfl)⟩) ?_
            refine ahg 11 rfl rfl (by kernel_rfl) (by kernel_rfl) rfl (fun hc => ⟨_, OpenTo.upd (t := 107) rfl (by first | exact hc | simp_all) (OpenTo.refl _), zi ty9 rfl rfl rfl⟩) ?_
            refine ahg 12 rfl rfl (by kernel_rfl) (by kernel_rfl) rfl (fun hc => ⟨_, OpenTo.upd (t := 108) rfl (by first | exact hc | simp_all) (OpenTo.upd (t := 106) rfl (by first | exact hc | simp_all) (OpenTo.refl _)), zbb rfl rfl⟩) ?_
            refine ahp 13 rfl rfl (by kernel_rfl) (by kernel_rfl) (zL rfl (.inr ⟨_, rfl, fun h => by simp_all⟩) (.inl rfl)) ?_
            refine ahz (by kernel_rfl) ?_
            refine zj rfl (fun h15 => ?_) (fun h16 => ?_)
            ·try simp at h15
             have hF := zol hs hhl hcore hne hn hx hend hg (by simp_all) (by simp_all) hrest
             refine zb ?_
             refine dmv rfl ?_
             refine dmv rfl ?_
             refine dq (zM (hs := [_]) zgh zF rfl rfl (by decide) (by decide) rfl) ?_
             refine de rfl (zah (i := 0) zgh zF rfl rfl rfl rfl rfl (by simp [zaD, zl]) (by simp; omega) fun v114 => ?_)
             refine das rfl ?_
             refine dn ?_
             refine zf ?_
             refine zb ?_
             refine dmv rfl ?_
             refine dq (zB (f := HVal.str) (l := R) zF rfl) ?_
             refine dmv rfl ?_
             refine dn ?_
             refine zm ?_
             refine z8 [20, 117, 118, 119, 120, 121, 122, 123] (fun (j : Nat) => [(117, .int .i64 j)]) (fun (j : Nat) => [.arr v114 1 ((out ++ [R]).map eSs), .map m21 (sk (em eSs ((R.take j).foldl (fun L s => zca s L) (zaG w h))))]) (fun (j : Nat) => j ≤ R.length ∧ (True)) (fun (j : Nat) => R.length - j) (0) ?_ ?_ ?_ ?_
             ·exact ⟨Nat.zero_le _, trivial⟩
             ·exact ⟨rfl, trivial⟩
             ·exact zT (by simp)
             ·intro j hinv
              obtain ⟨hj, -⟩ := hinv
              refine zb ?_
              refine dq (zJ rfl rfl) ?_
              refine dn ?_
              refine zf ?_
              refine zj rfl (fun h17 => ?_) (fun h18 => ?_)
              ·try simp at h17
               obtain ⟨y, hy⟩ : ∃ y, R[j]? = some y := ⟨_, List.getElem?_eq_getElem h17⟩
               have hdy := zK hy
               refine zk ?_
               refine ze ?_
               refine zf ?_
               refine zm ?_
               refine zb ?_
               refine dq (zH zF ty9 rfl rfl rfl (by first | assumption | simp_all)) ?_
               refine dq (zi ty9 rfl rfl rfl) ?_
               refine das rfl ?_
               refine dn ?_
               refine zy ?_
               refine dq (zi zcN rfl rfl rfl) ?_
               refine dmv rfl ?_
               refine de0 (zjx (i := 1) (f := eSs) (L := (R.take j).foldl (fun L s => zca s L) (zaG w h)) (s := y) zcN ty9 rfl rfl rfl ?_)
               refine dn ?_
               refine zz ?_
               refine ze ?_
               refine zy ?_
               refine dq (zv rfl rfl (by omega) (by omega)) ?_
               refine dmv rfl ?_
               refine dn ?_
               exact ⟨j + 1, ⟨by omega, trivial⟩, by dsimp only; omega, ⟨rfl, trivial⟩, (by repeat (first | exact zp | refine zu rfl ?_ | refine zq rfl rfl ?_)), zT (by dsimp only; rw [zb3 hy, List.foldl_append]; first | done | rfl)⟩
              ·try simp at h18
               have hnj : R.length ≤ j := by omega
               obtain rfl : j = R.length := by omega
               refine zN ?_
               refine zS ?_
               refine zag ?_
               refine zE ?_
               refine ze ?_
               rw [List.take_length, hF.map]
               refine zb ?_
               refine das rfl ?_
               refine dn ?_
               refine zN ?_
               refine ze7 rfl ?_
               refine zS ?_
               refine zag ?_
               refine zE ?_
               refine zz ?_
               exact ⟨true, v114, zbP h (zam (zaF w h) h w.length), out ++ [R], ⟨hF.len, fun _ => hF.rest, fun e => (by cases e), by have := hF.lt; simp; omega⟩, by have := hF.lt; subst hag; dsimp only; simp; omega, ⟨rfl, rfl, trivial⟩, (by repeat (first | exact zp | refine zu rfl ?_ | refine zq rfl rfl ?_)), List.Perm.refl _⟩
            ·try simp at h16
             refine zk ?_
             refine zz ?_
             refine ze ?_
             refine zy ?_
             refine dq (zv rfl rfl (by omega) (by omega)) ?_
             refine dmv rfl ?_
             refine dn ?_
             exact ⟨k + 1, ⟨by omega, zpz hs hhl hcore hne hn hx hend hg (by rw [hrl2]; intro q; simp_all)⟩, by dsimp only; omega, ⟨rfl, rfl, rfl, trivial⟩, (by repeat (first | exact zp | refine zu rfl ?_ | refine zq rfl rfl ?_)), List.Perm.refl _⟩
         ·try simp at h12
          have hnk : w.length ≤ k := by omega
          obtain rfl : k = w.length := by omega
          refine zN ?_
          refine zS ?_
          refine zag ?_
          refine zE ?_
          refine zz ?_
          exact ⟨false, ov, h, out, ⟨hhl, fun e => (by cases e), fun _ => zhA hcore hrest (zpk hg), hol⟩, by subst hag; dsimp only; simp, ⟨rfl, rfl, trivial⟩, (by repeat (first | exact zp | refine zu rfl ?_ | refine zq rfl rfl ?_)), List.Perm.refl _⟩
    ·try simp at h4
     refine zN ?_
     refine zS ?_
     refine zg2 ?_
     refine zE ?_
     refine ze ?_
     refine zO (Ghost.fa 7 (i := 0) rfl rfl) ?_
     refine zb ?_
     refine dmv rfl ?_
     refine das rfl ?_
     refine dn ?_
     refine zo ?_
     refine zbO Ghost.clear rfl ⟨?_, rfl⟩
     rw [hnd (by first | assumption | simp_all)]
end
end Go.Proofs.YtcihcbnjfclkbaaGreatDoor
namespace Go.HL
section
open Op
def zbx : List WantS → List Int → List Str
 | x :: w, k :: p => if 0 ≤ k then x.Player :: zbx w p else zbx w p
 | _, _ => []
def zbL : List WantS → List Int → List Str
 | x :: w, k :: p => if 0 ≤ k then x.For.getD k.toNat [] :: zbL w p else zbL w p
 | _, _ => []
theorem zhl : ∀ {w : List WantS} {p : List Int} {i : Nat} {x : WantS} {k : Int}, w[i]? = some x → p[i]? = some k → zbx w (p.take (i + 1)) = zbx w (p.take i) ++ if 0 ≤ k then [x.Player] else []
 | [], _, _, _, _, h, _ => by simp at h
 | _ :: _, [], _, _, _, _, h => by simp at h
 | y :: w, a :: p, 0, x, k, h1, h2 => by
   simp at h1 h2; subst h1 h2
   simp only [List.take_succ_cons, List.take_zero, zbx, List.nil_append]
 | y :: w, a :: p, i + 1, x, k, h1, h2 => by
   have ih := zhl (w := w) (p := p) (i := i) (by simpa using h1) (by simpa using h2)
   simp only [List.take_succ_cons, zbx]
   rw [ih]
   by_cases h : 0 ≤ a
   ·rw [if_pos h, if_pos h]; rfl
   ·rw [if_neg h, if_neg h]
theorem zi2 : ∀ {w : List WantS} {p : List Int} {i : Nat} {x : WantS} {k : Int}, w[i]? = some x → p[i]? = some k → zbL w (p.take (i + 1)) = zbL w (p.take i) ++ if 0 ≤ k then [x.For.getD k.toNat []] else []
 | [], _, _, _, _, h, _ => by simp at h
 | _ :: _, [], _, _, _, _, h => by simp at h
 | y :: w, a :: p, 0, x, k, h1, h2 => by
   simp at h1 h2; subst h1 h2
   simp only [List.take_succ_cons, List.take_zero, zbL, List.nil_append]
 | y :: w, a :: p, i + 1, x, k, h1, h2 => by
   have ih := zi2 (w := w) (p := p) (i := i) (by simpa using h1) (by simpa using h2)
   simp only [List.take_succ_cons, zbL]
   rw [ih]
   by_cases h : 0 ≤ a
   ·rw [if_pos h, if_pos h]; rfl
   ·rw [if_neg h, if_neg h]
theorem zjc : ∀ {w : List WantS} {p : List Int}, (zbx w p).length ≤ p.length
 | [], _ => Nat.zero_le _
 | _ :: _, [] => Nat.zero_le _
 | x :: w, k :: p => by
   rw [zbx]
   have := zjc (w := w) (p := p)
   split <;> simp <;> omega
theorem zkn : ∀ {w : List WantS} {p : List Int}, (zbL w p).length ≤ p.length
 | [], _ => Nat.zero_le _
 | _ :: _, [] => Nat.zero_le _
 | x :: w, k :: p => by
   rw [zbL]
   have := zkn (w := w) (p := p)
   split <;> simp <;> omega
/-! one choice is better than another -/
def zcB (l : List Int) : Nat := l.countP fun k => decide (k < 0)
theorem zli {l : List Int} {k : Nat} {x : Int} (h : l[k]? = some x) : zcB (l.take (k + 1)) = zcB (l.take k) + if x < 0 then 1 else 0 := by
 unfold zcB
 rw [List.take_add_one, h, List.countP_append]
 by_cases e : x < 0 <;> simp [e]
theorem zqQ (l : List Int) : zcB l ≤ l.length := List.countP_le_length
def zeK : List Int → List Int → Int
 | [], [] => 0
 | [], _ :: _ => -1
 | _ :: _, [] => 1
 | x :: a, y :: b => if zgs x y ≠ 0 then zgs x y else zeK a b
def zgv : List Int → List Int → Option Bool
 | x :: a, y :: b => if decide (x < 0) ≠ decide (y < 0) then some (decide (x < 0)) else zgv a b
 | _, _ => none
def zcm (a b : List Int) : Bool := if zcB a ≠ zcB b then decide (zcB a < zcB b) else (zgv a b).getD (decide (zeK a b < 0))
def zcF (p : List Int) : Option (List Int) → Bool
 | none => true
 | some b => zcm p b
/-! the tries -/
def zdN (w : List WantS) (best : Option (List Int)) (p : List Int) : Option (List Int) := if (zbx w p == zbR (zbL w p)) && zcF p best then some p else best
def zcb : List WantS → List (List Int)
 | [] => [[]]
 | x :: t => (List.range (x.For.length + 1)).flatMap fun (j : Nat) => (zcb t).map (((j : Int) - 1) :: ·)
def zc3 (w : List WantS) (p : List Int) (best : Option (List Int)) : Option (List Int) := ((zcb (w.drop p.length)).map (p ++ ·)).foldl (zdN w) best
theorem zeI {w : List WantS} {p : List Int} {best : Option (List Int)} (h : w.length ≤ p.length) : zc3 w p best = zdN w best p := by
 unfold zc3
 rw [List.drop_eq_nil_of_le h, zcb]
 simp
theorem zjW {α β γ : Type} (f : γ → β → γ) (g : α → List β) : ∀ (l : List α) (z : γ), (l.flatMap g).foldl f z = l.foldl (fun z a => (g a).foldl f z) z
 | [], _ => rfl
 | a :: l, z => by rw [List.flatMap_cons, List.foldl_append, zjW f g l]; rfl
theorem zi8 {w : List WantS} {p : List Int} {best : Option (List Int)} {x : WantS} (h : w[p.length]? = some x) : zc3 w p best = (List.range (x.For.length + 1)).foldl (fun b (j : Nat) => zc3 w (p ++ [(j : Int) - 1]) b) best := by
 have e : ∀ (j : Nat) (z : Option (List Int)), (((zcb (w.drop (p.length + 1))).map (((j : Int) - 1) :: ·)).map (p ++ ·)).foldl (zdN w) z = zc3 w (p ++ [(j : Int) - 1]) z := fun j z => by
  unfold zc3
  rw [List.length_append, List.length_singleton, List.map_map]
  congr 1
  refine List.map_congr_left fun q _ => ?_
  simp
 unfold zc3 at e ⊢
 rw [zK h, zcb, List.map_flatMap, zjW]
 simp only [e]
theorem zpw {w : List WantS} {p : List Int} {best : Option (List Int)} (hb : ∀ l, best = some l → l.length = w.length) (hp : p.length ≤ w.length) : ∀ l, zc3 w p best = some l → l.length = w.length := by
 have key : ∀ (cs : List (List Int)) (b : Option (List Int)), (∀ c ∈ cs, c.length = w.length) → (∀ l, b = some l → l.length = w.length) → ∀ l, cs.foldl (zdN w) b = some l → l.length = w.length := by
  intro cs
  induction cs with
  | nil => intro b _ h l hl; exact h l hl
  | cons c cs ih =>
    intro b hc h l hl
    refine ih _ (fun d hd => hc d (List.mem_cons_of_mem _ hd)) (fun l hl => ?_) l hl
    unfold zdN at hl
    split at hl
    ·cases hl; exact hc c (by simp)
    ·exact h l hl
 have hc : ∀ (t : List WantS), ∀ c ∈ zcb t, c.length = t.length := by
  intro t
  induction t with
  | nil => intro c hc; rw [zcb, List.mem_singleton] at hc; rw [hc]; rfl
  | cons x t ih =>
    intro c hc
    rw [zcb, List.mem_flatMap] at hc
    obtain ⟨j, _, hj⟩ := hc
    obtain ⟨d, hd, rfl⟩ := List.mem_map.1 hj
    simp [ih d hd]
 refine key _ _ (fun c h => ?_) hb
 obtain ⟨d, hd, rfl⟩ := List.mem_map.1 h
 rw [List.length_append, hc _ d hd, List.length_drop]; omega
def zdk (w : List WantS) (p : List Int) : Prop := p.length ≤ w.length ∧ ∀ (i : Nat) (k : Int), p[i]? = some k → -1 ≤ k ∧ k < (w.getD i zbQ).For.length
theorem zmp {w : List WantS} : zdk w [] := ⟨Nat.zero_le _, fun i k h => by simp at h⟩
theorem zo3 {w : List WantS} {p : List Int} {x : WantS} {j : Nat} (h : zdk w p) (hx : w[p.length]? = some x) (hj : j ≤ x.For.length) : zdk w (p ++ [(j : Int) - 1]) := by
 refine ⟨by have := zD hx; simp; omega, fun i k hk => ?_⟩
 rcases Nat.lt_or_ge i p.length with q | q
 ·rw [List.getElem?_append_left q] at hk; exact h.2 i k hk
 ·rw [List.getElem?_append_right q] at hk
  have h0 := zD hk
  simp at h0
  have hi : i = p.length := by omega
  subst hi
  simp at hk
  rw [List.getD_eq_getElem?_getD, hx]
  show _ ∧ _ < (x.For.length : Int)
  omega
theorem ziw {γ : Type} (f : γ → Nat → γ) (n : Nat) (z : γ) : (List.range (n + 1)).foldl f z = f ((List.range n).foldl f z) n := by rw [List.range_succ, List.foldl_append]; rfl
end
section
open Op
theorem zoB {w : List WantS} {p : List Int} {x : WantS} {best bst : Option (List Int)} {j : Nat} (hb : ∀ l, best = some l → l.length = w.length) (hx : w[p.length]? = some x) (h : bst = (List.range j).foldl (fun b (i : Nat) => zc3 w (p ++ [(i : Int) - 1]) b) best) : ∀ l, bst = some l → l.length = w.length := by
 have hp := zD hx
 subst h
 induction j with
 | zero => exact hb
 | succ j ih =>
   rw [ziw]
   exact zpw ih (by simp; omega)
theorem zeU {w : List WantS} {p : List Int} {best : Option (List Int)} (h : zbx w p = zbR (zbL w p) ∧ zcF p best = true) : zdN w best p = some p := by
 unfold zdN
 rw [if_pos (by rw [Bool.and_eq_true, beq_iff_eq]; exact h)]
theorem zgw {w : List WantS} {p : List Int} {best : Option (List Int)} (h : ¬ (zbx w p = zbR (zbL w p) ∧ zcF p best = true)) : zdN w best p = best := by
 unfold zdN
 rw [if_neg (by rw [Bool.and_eq_true, beq_iff_eq]; exact h)]
/-- Who goes where after a choice. -/
def gvR (o : List OwnerS) : List WantS → List Int → List GiveS
 | x :: w, k :: p => if 0 ≤ k then ⟨x.For.getD k.toNat [], zaA o (x.For.getD k.toNat []), zaA o x.Player⟩ :: gvR o w p else gvR o w p
 | _, _ => []
theorem znr {o : List OwnerS} {w : List WantS} : gvR o w [] = [] := by cases w <;> rfl
theorem ziV {o : List OwnerS} : ∀ {w : List WantS} {p : List Int} {i : Nat} {x : WantS} {k : Int}, w[i]? = some x → p[i]? = some k → gvR o w (p.take (i + 1)) = gvR o w (p.take i) ++ if 0 ≤ k then [⟨x.For.getD k.toNat [], zaA o (x.For.getD k.toNat []), zaA o x.Player⟩] else []
 | [], _, _, _, _, h, _ => by simp at h
 | _ :: _, [], _, _, _, _, h => by simp at h
 | y :: w, a :: p, 0, x, k, h1, h2 => by
   simp at h1 h2; subst h1 h2
   simp only [List.take_succ_cons, List.take_zero, gvR, znr, List.nil_append]
 | y :: w, a :: p, i + 1, x, k, h1, h2 => by
   have ih := ziV (o := o) (w := w) (p := p) (i := i) (by simpa using h1) (by simpa using h2)
   simp only [List.take_succ_cons, gvR]
   rw [ih]
   by_cases h : 0 ≤ a
   ·rw [if_pos h, if_pos h]; rfl
   ·rw [if_neg h, if_neg h]
theorem zj4 {o : List OwnerS} : ∀ {w : List WantS} {p : List Int}, (gvR o w p).length ≤ p.length
 | [], _ => Nat.zero_le _
 | _ :: _, [] => Nat.zero_le _
 | x :: w, k :: p => by
   rw [gvR]
   have := zj4 (o := o) (w := w) (p := p)
   split <;> simp <;> omega
def zji (o : List OwnerS) (w : List WantS) : List GiveS := zb4 zcz (gvR o w ((zc3 w [] none).getD []))
end
section
open Go
section
variable {P : Program} {e : Env} {dst : Option Tmp} {ty : TypeId} {pos : String} {af : Array Edge} {g : Option (Nat × Bool)}
def zcO : Option (List Int) → HVal
 | none => .raw (.slice none 0 0)
 | some l => .slice 1 (l.map (HVal.int .i64))
theorem zp3 {b : Option (List Int)} (h : b ≠ some []) : zcO b = znB (b.getD []) := by
 cases b with
 | none => rfl
 | some l => cases l with
   | nil => exact absurd rfl h
   | cons x t => rfl
theorem znO [Tracks] {x y : Operand} {t t' el : TypeId} {size bytes : Nat} {zero : Value} {b : Option (List Int)} (hn : b ≠ some []) (hf : Fits P t (.slice el) size bytes zero) (hx : zx e x = some (zcO b)) (hy : zx e y = some (.raw (.slice none 0 0))) :
 POp P e ⟨dst, .binOp .eql t x y t', ty, pos, af, g⟩ (.bool b.isNone) := by
 rw [zp3 hn] at hx
 have := zjO (dst := dst) (ty := ty) (pos := pos) (af := af) (g := g) (t' := t') hf hx hy
 have e : decide (b.getD [] = []) = b.isNone := by
  cases b with
  | none => rfl
  | some l => cases l with
    | nil => exact absurd rfl hn
    | cons x t => rfl
 rwa [e] at this
end
end
end Go.HL
namespace Go.Proofs.YtcihcbnjfclkbaaGreatDoor
set_option maxRecDepth 100000
set_option linter.unusedVariables false
set_option linter.unusedSimpArgs false
section
open Go.HL
/-- benchwarmer/benchref1.better$1 -/
theorem zey [Tracks] {l : List Int} (hl : l.length ≤ 1000) : zaa Tryz.prog 91 [.slice 1 (l.map (HVal.int .i64))] (.int .i64 ((zcB l : Nat) : Int)) := by
 refine Con.of_body Tryz.func91 rfl Tryz.ntmps91 rfl rfl ?_
 refine zb ?_
 refine das rfl ?_
 refine dn ?_
 refine zb ?_
 refine das rfl ?_
 refine dn ?_
 refine zf ?_
 refine zb ?_
 refine dmv rfl ?_
 refine dq (zB zaX rfl) ?_
 refine dmv rfl ?_
 refine dn ?_
 refine zm ?_
 refine z8 [3, 5, 8, 9, 10, 11, 12, 13, 14, 15, 16] (fun (k : Nat) => [(8, .int .i64 k), (3, .int .i64 ((zcB (l.take k) : Nat) : Int))]) (fun (k : Nat) => []) (fun (k : Nat) => k ≤ l.length ∧ (True)) (fun (k : Nat) => l.length - k) (0) ?_ ?_ ?_ ?_
 ·exact ⟨Nat.zero_le _, trivial⟩
 ·exact ⟨rfl, rfl, trivial⟩
 ·exact List.Perm.refl _
 ·intro k hinv
  obtain ⟨hk, -⟩ := hinv
  refine zb ?_
  refine dq (zJ rfl rfl) ?_
  refine dn ?_
  refine zf ?_
  refine zj rfl (fun h1 => ?_) (fun h2 => ?_)
  ·try simp at h1
   obtain ⟨x, hx⟩ : ∃ x, l[k]? = some x := ⟨_, List.getElem?_eq_getElem h1⟩
   have hdx := zK hx
   have hst := zqQ (l.take k)
   rw [List.length_take] at hst
   refine zk ?_
   refine ze ?_
   refine zf ?_
   refine zm ?_
   refine zb ?_
   refine dq (zH zaX ty3 rfl rfl rfl (by first | assumption | simp_all)) ?_
   refine dq (zi ty3 rfl rfl rfl) ?_
   refine das rfl ?_
   refine dn ?_
   refine zb ?_
   refine dmv rfl ?_
   refine dq (zJ rfl rfl) ?_
   refine dn ?_
   refine zj rfl (fun h3 => ?_) (fun h4 => ?_)
   ·try simp at h3
    refine zy ?_
    refine dmv rfl ?_
    refine dq (zv rfl rfl (by omega) (by omega)) ?_
    refine das rfl ?_
    refine dn ?_
    refine zz ?_
    refine ze ?_
    refine zy ?_
    refine dq (zv rfl rfl (by omega) (by omega)) ?_
    refine dmv rfl ?_
    refine dn ?_
    exact ⟨k + 1, ⟨by omega, trivial⟩, by dsimp only; omega, ⟨rfl, zbY (by rw [zli hx, if_pos (by assumption)]; omega), trivial⟩, (by repeat (first | exact zp | refine zu rfl ?_ | refine zq rfl rfl ?_)), List.Perm.refl _⟩
   ·try simp at h4
    refine zk ?_
    refine zz ?_
    refine ze ?_
    refine zy ?_
    refine dq (zv rfl rfl (by omega) (by omega)) ?_
    refine dmv rfl ?_
    refine dn ?_
    exact ⟨k + 1, ⟨by omega, trivial⟩, by dsimp only; omega, ⟨rfl, zbY (by rw [zli hx, if_neg (by omega)]; omega), trivial⟩, (by repeat (first | exact zp | refine zu rfl ?_ | refine zq rfl rfl ?_)), List.Perm.refl _⟩
  ·try simp at h2
   have hnk : l.length ≤ k := by omega
   obtain rfl : k = l.length := by omega
   refine zN ?_
   refine zS ?_
   refine zag ?_
   refine zE ?_
   refine ze ?_
   refine zb ?_
   refine dmv rfl ?_
   refine das rfl ?_
   refine dn ?_
   refine zo ?_
   refine zC rfl ?_
   show HVal.int .i64 _ = _
   rw [List.take_length]

/-- slices.Compare[benchwarmer/benchref1.pick,int] -/
theorem zdQ [Tracks] {a b : List Int} (ha : a.length ≤ 1000) (hb : b.length ≤ 1000) : zaa Tryz.prog 92 [.slice 1 (a.map (HVal.int .i64)), .slice 1 (b.map (HVal.int .i64))] (.int .i64 (zeK a b)) := by
 refine Con.of_body Tryz.func92 rfl Tryz.ntmps92 rfl rfl ?_
 refine zb ?_
 refine das rfl ?_
 refine dn ?_
 refine zf ?_
 refine zb ?_
 refine dmv rfl ?_
 refine dq (zB zaX rfl) ?_
 refine dmv rfl ?_
 refine dn ?_
 refine zm ?_
 refine z8 [4, 5, 6, 7, 8, 11, 12, 13, 14, 15, 16, 17, 18, 19, 20, 21, 22, 23, 24, 25, 26, 27, 28, 29, 30] (fun (k : Nat) => [(11, .int .i64 k)]) (fun (k : Nat) => []) (fun (k : Nat) => k ≤ a.length ∧ (zeK a b = zeK (a.drop k) (b.drop k))) (fun (k : Nat) => a.length - k) (0) ?_ ?_ ?_ ?_
 ·exact ⟨Nat.zero_le _, rfl⟩
 ·exact ⟨rfl, trivial⟩
 ·exact List.Perm.refl _
 ·intro k hinv
  obtain ⟨hk, hg⟩ := hinv
  refine zb ?_
  refine dq (zJ rfl rfl) ?_
  refine dn ?_
  refine zf ?_
  refine zj rfl (fun h1 => ?_) (fun h2 => ?_)
  ·try simp at h1
   obtain ⟨x, hx⟩ : ∃ x, a[k]? = some x := ⟨_, List.getElem?_eq_getElem h1⟩
   have hdx := zK hx
   rw [hdx] at hg
   refine zk ?_
   refine ze ?_
   refine zf ?_
   refine zm ?_
   refine zb ?_
   refine dmv rfl ?_
   refine dq (zH zaX ty3 rfl rfl rfl (by first | assumption | simp_all)) ?_
   refine dq (zi ty3 rfl rfl rfl) ?_
   refine das rfl ?_
   refine das rfl ?_
   refine dn ?_
   refine zf ?_
   refine zb ?_
   refine dmv rfl ?_
   refine dmv rfl ?_
   refine dq (zB zaX rfl) ?_
   refine dq (zbw rfl rfl) ?_
   refine dn ?_
   refine zj rfl (fun h3 => ?_) (fun h4 => ?_)
   ·try simp at h3
    refine zb ?_
    refine das rfl ?_
    refine dn ?_
    refine zo ?_
    refine zC rfl ?_
    show HVal.int .i64 _ = _
    first
    | (rw [hg, zK hy, zeK, if_pos (by assumption)]; done)
    | (rw [hg, List.drop_eq_nil_of_le (show b.length ≤ k by omega)]; rfl)
    | (rw [hg, List.drop_eq_nil_of_le (show b.length ≤ a.length by omega)]; rfl)
    | (obtain ⟨y, hy⟩ : ∃ y, b[a.length]? = some y := ⟨_, List.getElem?_eq_getElem (by omega)⟩
       rw [hg, zK hy]; rfl)
   ·try simp at h4
    refine zk ?_
    refine ze ?_
    obtain ⟨y, hy⟩ : ∃ y, b[k]? = some y := ⟨_, List.getElem?_eq_getElem (by omega)⟩
    refine zb ?_
    refine dmv rfl ?_
    refine dmv rfl ?_
    refine dq (zH zaX ty3 rfl rfl rfl (by first | assumption | simp_all)) ?_
    refine dq (zi ty3 rfl rfl rfl) ?_
    refine das rfl ?_
    refine dn ?_
    refine zb ?_
    refine dmv rfl ?_
    refine dmv rfl ?_
    refine dq (zw zr2 rfl (WeakL.refl _) (zir (a := x) (b := y))) ?_
    refine das rfl ?_
    refine dn ?_
    refine zb ?_
    refine dmv rfl ?_
    refine dq (za6 rfl rfl) ?_
    refine dn ?_
    refine zj rfl (fun h5 => ?_) (fun h6 => ?_)
    ·try simp at h5
     refine zb ?_
     refine dmv rfl ?_
     refine das rfl ?_
     refine dn ?_
     refine zo ?_
     refine zC rfl ?_
     show HVal.int .i64 _ = _
     first
     | (rw [hg, zK hy, zeK, if_pos (by assumption)]; done)
     | (rw [hg, List.drop_eq_nil_of_le (show b.length ≤ k by omega)]; rfl)
     | (rw [hg, List.drop_eq_nil_of_le (show b.length ≤ a.length by omega)]; rfl)
     | (obtain ⟨y, hy⟩ : ∃ y, b[a.length]? = some y := ⟨_, List.getElem?_eq_getElem (by omega)⟩
        rw [hg, zK hy]; rfl)
    ·try simp at h6
     refine zk ?_
     refine zz ?_
     refine ze ?_
     refine zy ?_
     refine dq (zv rfl rfl (by omega) (by omega)) ?_
     refine dmv rfl ?_
     refine dn ?_
     exact ⟨k + 1, ⟨by omega, by rw [hg, zK hy, zeK, if_neg (by simp_all)]⟩, by dsimp only; omega, ⟨rfl, trivial⟩, (by repeat (first | exact zp | refine zu rfl ?_ | refine zq rfl rfl ?_)), List.Perm.refl _⟩
  ·try simp at h2
   have hnk : a.length ≤ k := by omega
   obtain rfl : k = a.length := by omega
   rw [z6 (Nat.le_refl _)] at hg
   refine zN ?_
   refine zS ?_
   refine zag ?_
   refine zE ?_
   refine ze ?_
   refine zf ?_
   refine zb ?_
   refine dmv rfl ?_
   refine dq (zB zaX rfl) ?_
   refine dmv rfl ?_
   refine dq (zB zaX rfl) ?_
   refine dq (zJ rfl rfl) ?_
   refine dn ?_
   refine zj rfl (fun h7 => ?_) (fun h8 => ?_)
   ·try simp at h7
    refine zb ?_
    refine das rfl ?_
    refine dn ?_
    refine zo ?_
    refine zC rfl ?_
    show HVal.int .i64 _ = _
    first
    | (rw [hg, zK hy, zeK, if_pos (by assumption)]; done)
    | (rw [hg, List.drop_eq_nil_of_le (show b.length ≤ k by omega)]; rfl)
    | (rw [hg, List.drop_eq_nil_of_le (show b.length ≤ a.length by omega)]; rfl)
    | (obtain ⟨y, hy⟩ : ∃ y, b[a.length]? = some y := ⟨_, List.getElem?_eq_getElem (by omega)⟩
       rw [hg, zK hy]; rfl)
   ·try simp at h8
    refine zk ?_
    refine ze ?_
    refine zb ?_
    refine das rfl ?_
    refine dn ?_
    refine zo ?_
    refine zC rfl ?_
    show HVal.int .i64 _ = _
    first
    | (rw [hg, zK hy, zeK, if_pos (by assumption)]; done)
    | (rw [hg, List.drop_eq_nil_of_le (show b.length ≤ k by omega)]; rfl)
    | (rw [hg, List.drop_eq_nil_of_le (show b.length ≤ a.length by omega)]; rfl)
    | (obtain ⟨y, hy⟩ : ∃ y, b[a.length]? = some y := ⟨_, List.getElem?_eq_getElem (by omega)⟩
       rw [hg, zK hy]; rfl)

/-- benchwarmer/benchref1.better -/
theorem zhk [Tracks] {a b : List Int} (ha : a.length ≤ 1000) (hab : a.length = b.length) : zaa Tryz.prog 61 [.slice 1 (a.map (HVal.int .i64)), .slice 1 (b.map (HVal.int .i64))] (.bool (zcm a b)) := by
 refine Con.of_body Tryz.func61 rfl Tryz.ntmps61 rfl rfl ?_
 refine zb ?_
 refine das rfl ?_
 refine dn ?_
 refine zb ?_
 refine das rfl ?_
 refine dn ?_
 refine zf ?_
 refine zb ?_
 refine dmv rfl ?_
 refine dmv rfl ?_
 refine dq (zci ca91 rfl rfl (WeakL.refl _) (zey (l := a) (by omega))) ?_
 refine dmv rfl ?_
 refine dmv rfl ?_
 refine dq (zci ca91 rfl rfl (WeakL.refl _) (zey (l := b) (by omega))) ?_
 refine das rfl ?_
 refine das rfl ?_
 refine dn ?_
 refine zb ?_
 refine dmv rfl ?_
 refine dmv rfl ?_
 refine dq (za6 rfl rfl) ?_
 refine dn ?_
 refine zj rfl (fun h1 => ?_) (fun h2 => ?_)
 ·try simp at h1
  refine zb ?_
  refine dmv rfl ?_
  refine dmv rfl ?_
  refine dq (zJ rfl rfl) ?_
  refine das rfl ?_
  refine dn ?_
  refine zo ?_
  refine zC rfl ?_
  show HVal.bool _ = _
  congr 1
  unfold zcm
  first
  | (rw [if_pos (by omega)]; congr 1; exact propext (by omega))
  | (rw [if_neg (by omega), hg, if_pos (by simp_all)]; rfl)
  | (rw [if_neg (by omega), hg]; rfl)
 ·try simp at h2
  refine zk ?_
  refine ze ?_
  refine zf ?_
  refine zb ?_
  refine dmv rfl ?_
  refine dq (zB zaX rfl) ?_
  refine dmv rfl ?_
  refine dn ?_
  refine zm ?_
  refine z8 [4, 8, 23, 24, 25, 26, 27, 28, 29, 30, 31, 32, 33, 34, 35, 36, 37, 38, 39, 40, 41, 42] (fun (k : Nat) => [(23, .int .i64 k)]) (fun (k : Nat) => []) (fun (k : Nat) => k ≤ a.length ∧ (zgv a b = zgv (a.drop k) (b.drop k))) (fun (k : Nat) => a.length - k) (0) ?_ ?_ ?_ ?_
  ·exact ⟨Nat.zero_le _, rfl⟩
  ·exact ⟨rfl, trivial⟩
  ·exact List.Perm.refl _
  ·intro k hinv
   obtain ⟨hk, hg⟩ := hinv
   refine zb ?_
   refine dq (zJ rfl rfl) ?_
   refine dn ?_
   refine zf ?_
   refine zj rfl (fun h3 => ?_) (fun h4 => ?_)
   ·try simp at h3
    obtain ⟨x, hx⟩ : ∃ x, a[k]? = some x := ⟨_, List.getElem?_eq_getElem h3⟩
    have hdx := zK hx
    obtain ⟨y, hy⟩ : ∃ y, b[k]? = some y := ⟨_, List.getElem?_eq_getElem (by omega)⟩
    rw [hdx, zK hy, zgv] at hg
    refine zk ?_
    refine ze ?_
    refine zf ?_
    refine zm ?_
    refine zb ?_
    refine dmv rfl ?_
    refine das rfl ?_
    refine dn ?_
    refine za7 (fun _ => True) [] mixed ?_
    refine ahp 0 rfl rfl (by kernel_rfl) (by kernel_rfl) (zd rfl) ?_
    refine ahp 1 rfl rfl (by kernel_rfl) (by kernel_rfl) (zd rfl) ?_
    refine ahp 2 rfl rfl (by kernel_rfl) (by kernel_rfl) (zH zaX ty3 rfl rfl rfl (by first | assumption | simp_all)) ?_
    refine ahp 3 rfl rfl (by kernel_rfl) (by kernel_rfl) (zi ty3 rfl rfl rfl) ?_
    refine ahp 4 rfl rfl (by kernel_rfl) (by kernel_rfl) (zJ rfl rfl) ?_
    refine ahp 5 rfl rfl (by kernel_rfl) (by kernel_rfl) (zd rfl) ?_
    refine ahp 6 rfl rfl (by kernel_rfl) (by kernel_rfl) (zd rfl) ?_
    refine ahp 7 rfl rfl (by kernel_rfl) (by kernel_rfl) (zH zaX ty3 rfl rfl rfl (by first | assumption | simp_all)) ?_
    refine ahp 8 rfl rfl (by kernel_rfl) (by kernel_rfl) (zi ty3 rfl rfl rfl) ?_
    refine ahp 9 rfl rfl (by kernel_rfl) (by kernel_rfl) (zJ rfl rfl) ?_
    refine ahp 10 rfl rfl (by kernel_rfl) (by kernel_rfl) (zpQ ty4 rfl rfl) ?_
    refine ahz (by kernel_rfl) ?_
    refine zj rfl (fun h5 => ?_) (fun h6 => ?_)
    ·try simp at h5
     refine zb ?_
     refine dmv rfl ?_
     refine dmv rfl ?_
     refine dq (zH zaX ty3 rfl rfl rfl (by first | assumption | simp_all)) ?_
     refine dq (zi ty3 rfl rfl rfl) ?_
     refine dq (zJ rfl rfl) ?_
     refine das rfl ?_
     refine dn ?_
     refine zo ?_
     refine zC rfl ?_
     show HVal.bool _ = _
     congr 1
     unfold zcm
     first
     | (rw [if_pos (by omega)]; congr 1; exact propext (by omega))
     | (rw [if_neg (by omega), hg, if_pos (by simp_all)]; rfl)
     | (rw [if_neg (by omega), hg]; rfl)
    ·try simp at h6
     refine zk ?_
     refine zz ?_
     refine ze ?_
     refine zy ?_
     refine dq (zv rfl rfl (by omega) (by omega)) ?_
     refine dmv rfl ?_
     refine dn ?_
     exact ⟨k + 1, ⟨by omega, by rw [hg, if_neg (by simp_all)]⟩, by dsimp only; omega, ⟨rfl, trivial⟩, (by repeat (first | exact zp | refine zu rfl ?_ | refine zq rfl rfl ?_)), List.Perm.refl _⟩
   ·try simp at h4
    have hnk : a.length ≤ k := by omega
    obtain rfl : k = a.length := by omega
    rw [z6 (Nat.le_refl _)] at hg
    refine zN ?_
    refine zS ?_
    refine zag ?_
    refine zE ?_
    refine ze ?_
    refine zb ?_
    refine dmv rfl ?_
    refine dmv rfl ?_
    refine dq (zw ca92 rfl (WeakL.refl _) (zdQ (a := a) (b := b) ha (by omega))) ?_
    refine dq (zJ rfl rfl) ?_
    refine das rfl ?_
    refine dn ?_
    refine zo ?_
    refine zC rfl ?_
    show HVal.bool _ = _
    congr 1
    unfold zcm
    first
    | (rw [if_pos (by omega)]; congr 1; exact propext (by omega))
    | (rw [if_neg (by omega), hg, if_pos (by simp_all)]; rfl)
    | (rw [if_neg (by omega), hg]; rfl)

theorem zn0 [Tracks] {p : List Int} {b : Option (List Int)} (ha : p.length ≤ 1000) (hb : ∀ l, b = some l → p.length = l.length) (hn : b ≠ none) : zaa Tryz.prog 61 [.slice 1 (p.map (HVal.int .i64)), zcO b] (.bool (zcF p b)) := by
 cases b with
 | none => exact absurd rfl hn
 | some l => exact zhk ha (hb l rfl)

/-- slices.Clone[benchwarmer/benchref1.pick,int] -/
theorem zd2 [Tracks] {l : List Int} (hl : l.length ≤ 1000000) : ziW Tryz.prog 60 [.slice 1 (l.map (HVal.int .i64))] 1 (l.map (HVal.int .i64)) := by
 refine Con.of_body Tryz.func60 rfl Tryz.ntmps60 rfl rfl ?_
 refine zb ?_
 refine das rfl ?_
 refine dn ?_
 refine zf ?_
 refine zb ?_
 refine dmv rfl ?_
 refine de rfl (zhI zaX rfl rfl fun b4 hb4 => ?_)
 refine dn ?_
 refine zj rfl (fun h1 => ?_) (fun h2 => ?_)
 ·try simp at h1
  refine zb ?_
  refine das rfl ?_
  refine dn ?_
  refine zo ?_
  first | exact zjm rfl rfl | exact zbO (Ghost.arr_nil 1) rfl ⟨_, rfl, by simp_all⟩
 ·try simp at h2
  refine zk ?_
  refine ze ?_
  refine zb ?_
  refine de rfl (zib zaX ty3 fun v5 => ?_)
  refine dmv rfl ?_
  refine de rfl (zah (i := 0) zaX ty3 rfl rfl rfl rfl rfl (by simp [zaD, zl]) (by first | omega | (simp; omega)) fun v7 => ?_)
  refine das rfl ?_
  refine dn ?_
  refine zo ?_
  first | exact zjm rfl rfl | exact zbO (Ghost.arr_nil 1) rfl ⟨_, rfl, by simp_all⟩

set_option maxHeartbeats 1000000 in
/-- benchwarmer/benchref1.MostTraded$1 -/
theorem zdt [Tracks] {w : List WantS} {p : List Int} {best : Option (List Int)} {b6 b5 : Nat} (hw : w.length ≤ 100) (hf : ∀ x ∈ w, x.For.length ≤ 100) (hp : zdk w p) (hb : ∀ l, best = some l → l.length = w.length) (hbn : best ≠ some []) (ih : ∀ (q : List Int) (bst : Option (List Int)), q.length = p.length + 1 → zdk w q → (∀ l, bst = some l → l.length = w.length) → bst ≠ some [] → Con Tryz.prog 59 [.slice 1 (q.map (HVal.int .i64)), .vptr [za1 w] 0, .raw (.pointer (some ⟨b6, 0, none⟩)), .raw (.pointer (some ⟨b5, 0, none⟩))] [.cells b6 [.fn (.func 59) [] [.vptr [za1 w] 0, .raw (.pointer (some ⟨b6, 0, none⟩)), .raw (.pointer (some ⟨b5, 0, none⟩))]], .cells b5 [zcO bst]] (fun x M' => x = .tup [] ∧ M' = [.cells b6 [.fn (.func 59) [] [.vptr [za1 w] 0, .raw (.pointer (some ⟨b6, 0, none⟩)), .raw (.pointer (some ⟨b5, 0, none⟩))]], .cells b5 [zcO (zc3 w q bst)]])) : Con Tryz.prog 59 [.slice 1 (p.map (HVal.int .i64)), .vptr [za1 w] 0, .raw (.pointer (some ⟨b6, 0, none⟩)), .raw (.pointer (some ⟨b5, 0, none⟩))] [.cells b6 [.fn (.func 59) [] [.vptr [za1 w] 0, .raw (.pointer (some ⟨b6, 0, none⟩)), .raw (.pointer (some ⟨b5, 0, none⟩))]], .cells b5 [zcO best]] (fun x M' => x = .tup [] ∧ M' = [.cells b6 [.fn (.func 59) [] [.vptr [za1 w] 0, .raw (.pointer (some ⟨b6, 0, none⟩)), .raw (.pointer (some ⟨b5, 0, none⟩))]], .cells b5 [zcO (zc3 w p best)]]) := by
 have hp1 := hp.1
 refine Con.of_body Tryz.func59 rfl Tryz.ntmps59 rfl rfl ?_
 refine zf ?_
 refine zb ?_
 refine dmv rfl ?_
 refine dq (zB (f := HVal.int .i64) (l := p) zaX rfl) ?_
 refine dq (zi zaP rfl rfl rfl) ?_
 refine dq (zB zaP rfl) ?_
 refine dq (zJ rfl rfl) ?_
 refine dn ?_
 refine zj rfl (fun h1 => ?_) (fun h2 => ?_)
 ·try simp at h1
  refine zf ?_
  refine zb ?_
  refine das rfl ?_
  refine dn ?_
  refine zm ?_
  obtain ⟨x, hx⟩ : ∃ x, w[p.length]? = some x := ⟨_, List.getElem?_eq_getElem (by omega)⟩
  have hfx := hf x (List.mem_of_getElem? hx)
  refine zbf [5, 15, 16, 17, 18, 19, 20, 21, 22, 23, 24, 25, 26, 27, 28, 29, 30, 31, 32] (fun (j : Nat) (bst : Option (List Int)) => [(5, .int .i64 ((j : Int) - 1))]) (fun (j : Nat) (bst : Option (List Int)) => [.cells b6 [.fn (.func 59) [] [.vptr [za1 w] 0, .raw (.pointer (some ⟨b6, 0, none⟩)), .raw (.pointer (some ⟨b5, 0, none⟩))]], .cells b5 [zcO bst]]) (fun (j : Nat) (bst : Option (List Int)) => j ≤ x.For.length + 1 ∧ bst = (List.range j).foldl (fun b (i : Nat) => zc3 w (p ++ [(i : Int) - 1]) b) best) (fun (j : Nat) (bst : Option (List Int)) => x.For.length + 1 - j) (0) (best) ?_ ?_ ?_ ?_
  ·exact ⟨Nat.zero_le _, rfl⟩
  ·exact ⟨rfl, trivial⟩
  ·exact List.Perm.refl _
  ·intro j bst hinv
   obtain ⟨hj, hbst⟩ := hinv
   refine zf ?_
   refine zb ?_
   refine dmv rfl ?_
   refine dq (zi zaP rfl rfl rfl) ?_
   refine dmv rfl ?_
   refine dq (zB (f := HVal.int .i64) (l := p) zaX rfl) ?_
   refine dq (zH (j := p.length) (a := x) zaP zU rfl rfl rfl hx) ?_
   refine dq ((by first | exact zg zU rfl zF (by decide) rfl | exact zn zU rfl zF (by decide) rfl)) ?_
   refine dq (zi zF rfl rfl rfl) ?_
   refine dq (zB zF rfl) ?_
   refine dq (zJ rfl rfl) ?_
   refine dn ?_
   refine zj rfl (fun h3 => ?_) (fun h4 => ?_)
   ·try simp at h3
    have hbs := zoB hb hx (bst := bst) hbst
    have hbsn : bst ≠ some [] := by rintro rfl; have := hbs _ rfl; simp at this; omega
    refine zk ?_
    refine ze ?_
    refine zf ?_
    refine zm ?_
    refine zb0 (fun M => ∃ i : Nat, M[i]? = some (MObj.cells b6 [.fn (.func 59) [] [.vptr [za1 w] 0, .raw (.pointer (some ⟨b6, 0, none⟩)), .raw (.pointer (some ⟨b5, 0, none⟩))]])) [0] mixed ?_
    refine ahl 0 rfl rfl (by kernel_rfl) (by kernel_rfl) (by simp) (by first | exact ⟨0, rfl⟩ | exact ⟨1, rfl⟩ | exact ⟨2, rfl⟩) (fun M hM => by obtain ⟨i, hi⟩ := hM; exact zG (i := i) ze2 rfl hi (.inl ⟨rfl, rfl⟩) ⟨rfl, rfl⟩) ?_
    refine ahp 1 rfl rfl (by kernel_rfl) (by kernel_rfl) (zd rfl) ?_
    refine ahp 3 rfl rfl (by kernel_rfl) (by kernel_rfl) (zd rfl) ?_
    refine ahp 4 rfl rfl (by kernel_rfl) (by kernel_rfl) (zM (hs := [_]) zaX ty3 rfl rfl (by decide) (by decide) rfl) ?_
    refine ahe 2 rfl (by kernel_rfl) ?_
    refine zA rfl (zel ca60 rfl (WeakL.refl _) (zd2 (by first | assumption | omega | (simp; omega) | simp_all)) fun v28 => ?_)
    refine ⟨fun _ => by first | exact .inl ⟨0, rfl⟩ | exact .inl ⟨1, rfl⟩ | exact .inl ⟨2, rfl⟩ | exact .inr (by simp [zbW, Region.binds]), ?_⟩
    refine ahe 5 rfl (by kernel_rfl) ?_
    refine zA rfl (EOp.fzi (N := [.cells b6 [.fn (.func 59) [] [.vptr [za1 w] 0, .raw (.pointer (some ⟨b6, 0, none⟩)), .raw (.pointer (some ⟨b5, 0, none⟩))]], .cells b5 [zcO bst]]) (sz := 1) (es := (p ++ [(j : Int) - 1]).map (HVal.int .i64)) 0 (zah (i := 0) zaX ty3 rfl rfl rfl rfl rfl (by simp [zaD, zl]) (by simp; omega) fun v31 => ⟨v31, rfl, by rw [List.map_append]; rfl, rfl⟩) ?_)
    refine ⟨fun _ => .inl ⟨0, rfl⟩, ?_⟩
    refine ahe 6 rfl (by kernel_rfl) ?_
    refine zA rfl (EOp.mono ?_ (zdI (M := [.cells b6 [.fn (.func 59) [] [.vptr [za1 w] 0, .raw (.pointer (some ⟨b6, 0, none⟩)), .raw (.pointer (some ⟨b5, 0, none⟩))]], .cells b5 [zcO bst]]) ca59 rfl rfl (WeakL.refl _) (ih (p ++ [(j : Int) - 1]) bst (by simp) (zo3 hp hx (by omega)) hbs hbsn)))
    rintro _ _ ⟨rfl, rfl⟩
    refine ⟨fun _ => .inl ⟨0, rfl⟩, ?_⟩
    refine ahz (by kernel_rfl) ?_
    refine zz ?_
    refine ze ?_
    refine zy ?_
    refine dmv rfl ?_
    refine dq (zv rfl rfl (by omega) (by omega)) ?_
    refine das rfl ?_
    refine dn ?_
    exact ⟨j + 1, _, ⟨by omega, by rw [ziw, ← hbst]⟩, by dsimp only; omega, ⟨zbY (by omega), trivial⟩, (by repeat (first | exact zp | refine zu rfl ?_ | refine zq rfl rfl ?_)), List.Perm.refl _⟩
   ·try simp at h4
    obtain rfl : j = x.For.length + 1 := by omega
    refine zN ?_
    refine zS ?_
    refine zbr ?_
    refine zE ?_
    refine ze ?_
    refine zo ?_
    first
    | (refine ⟨_, _, Ghost.sub (Sub.refl _), _, _, rfl, Weak.refl _, rfl, ?_⟩
       rw [zi8 hx, ← hbst]
       done)
    | (clear ih
       refine ⟨_, _, Ghost.sub (Sub.refl _), _, _, rfl, Weak.refl _, rfl, ?_⟩
       rw [zeI hpw, zeU (by cases best <;> simp_all [zcF])]
       rfl)
    | (clear ih
       refine ⟨_, _, Ghost.sub (Sub.refl _), _, _, rfl, Weak.refl _, rfl, ?_⟩
       rw [zeI hpw, zgw (by cases best <;> simp_all [zcF])]
       rfl)
 ·try simp at h2
  refine zk ?_
  refine ze ?_
  refine zb ?_
  refine das rfl ?_
  refine das rfl ?_
  refine dn ?_
  refine zO (Ghost.arr_nil 1) ?_
  refine zO (Ghost.arr_nil 1) ?_
  refine zf ?_
  refine zb ?_
  refine dmv rfl ?_
  refine dq (zB zaX rfl) ?_
  refine dmv rfl ?_
  refine dn ?_
  refine zm ?_
  refine zcI [6, 7, 8, 9, 35, 36, 37, 38, 39, 40, 41, 42, 43, 44, 45, 46, 47, 48, 49, 50, 51, 52, 53, 54, 55, 56, 57, 58, 59, 60, 61] (fun (i : Nat) (v6 : Value) (v7 : Value) => [(35, .int .i64 i), (6, .raw v6), (7, .raw v7)]) (fun (i : Nat) (v6 : Value) (v7 : Value) => [.arr v7 1 ((zbL w (p.take i)).map .str), .arr v6 1 ((zbx w (p.take i)).map .str), .cells b6 [.fn (.func 59) [] [.vptr [za1 w] 0, .raw (.pointer (some ⟨b6, 0, none⟩)), .raw (.pointer (some ⟨b5, 0, none⟩))]], .cells b5 [zcO best]]) (fun (i : Nat) (v6 : Value) (v7 : Value) => i ≤ p.length ∧ (True)) (fun (i : Nat) (v6 : Value) (v7 : Value) => p.length - i) (0) (.slice none 0 0) (.slice none 0 0) ?_ ?_ ?_ ?_
  ·exact ⟨Nat.zero_le _, trivial⟩
  ·exact ⟨rfl, rfl, rfl, trivial⟩
  ·exact zT (by cases w <;> rfl)
  ·intro i v6 v7 hinv
   obtain ⟨hi, -⟩ := hinv
   refine zb ?_
   refine dq (zJ rfl rfl) ?_
   refine dn ?_
   refine zf ?_
   refine zj rfl (fun h5 => ?_) (fun h6 => ?_)
   ·try simp at h5
    obtain ⟨z, hz⟩ : ∃ z, p[i]? = some z := ⟨_, List.getElem?_eq_getElem h5⟩
    have hdz := zK hz
    obtain ⟨x, hx⟩ : ∃ x, w[i]? = some x := ⟨_, List.getElem?_eq_getElem (by omega)⟩
    have hzb := hp.2 i z hz
    rw [List.getD_eq_getElem?_getD, hx] at hzb
    replace hzb : -1 ≤ z ∧ z < (x.For.length : Int) := hzb
    have hg1 := zjc (w := w) (p := p.take i)
    have hg2 := zkn (w := w) (p := p.take i)
    rw [List.length_take] at hg1 hg2
    have hfx := hf x (List.mem_of_getElem? hx)
    refine zk ?_
    refine ze ?_
    refine zf ?_
    refine zm ?_
    refine zb ?_
    refine dmv rfl ?_
    refine dq (zH zaX ty3 rfl rfl rfl (by first | assumption | simp_all)) ?_
    refine dq (zi ty3 rfl rfl rfl) ?_
    refine das rfl ?_
    refine das rfl ?_
    refine dn ?_
    refine zb ?_
    refine dmv rfl ?_
    refine dq (zbw rfl rfl) ?_
    refine dn ?_
    refine zj rfl (fun h7 => ?_) (fun h8 => ?_)
    ·try simp at h7
     refine zb0 (fun _ => True) [] mixed ?_
     refine ahp 0 rfl rfl (by kernel_rfl) (by kernel_rfl) (zd rfl) ?_
     refine ahp 1 rfl rfl (by kernel_rfl) (by kernel_rfl) (zi zaP rfl rfl rfl) ?_
     refine ahp 2 rfl rfl (by kernel_rfl) (by kernel_rfl) (zd rfl) ?_
     refine ahp 3 rfl rfl (by kernel_rfl) (by kernel_rfl) (zH zaP zU rfl rfl rfl (by first | assumption | simp_all)) ?_
     refine ahp 4 rfl rfl (by kernel_rfl) (by kernel_rfl) ((by first | exact zg zU rfl ty9 (by decide) rfl | exact zn zU rfl ty9 (by decide) rfl)) ?_
     refine ahp 5 rfl rfl (by kernel_rfl) (by kernel_rfl) (zi ty9 rfl rfl rfl) ?_
     refine ahp 6 rfl rfl (by kernel_rfl) (by kernel_rfl) (zM (hs := [_]) zF ty9 rfl rfl (by decide) (by decide) rfl) ?_
     refine ahp 8 rfl rfl (by kernel_rfl) (by kernel_rfl) (zd rfl) ?_
     refine ahp 9 rfl rfl (by kernel_rfl) (by kernel_rfl) (zi zaP rfl rfl rfl) ?_
     refine ahp 10 rfl rfl (by kernel_rfl) (by kernel_rfl) (zd rfl) ?_
     refine ahp 11 rfl rfl (by kernel_rfl) (by kernel_rfl) (zH zaP zU rfl rfl rfl (by first | assumption | simp_all)) ?_
     refine ahp 12 rfl rfl (by kernel_rfl) (by kernel_rfl) ((by first | exact zg zU rfl zF (by decide) rfl | exact zn zU rfl zF (by decide) rfl)) ?_
     refine ahp 13 rfl rfl (by kernel_rfl) (by kernel_rfl) (zi zF rfl rfl rfl) ?_
     refine ahp 14 rfl rfl (by kernel_rfl) (by kernel_rfl) (zd rfl) ?_
     refine ahp 15 rfl rfl (by kernel_rfl) (by kernel_rfl) (zH (j := z.toNat) (a := x.For.getD z.toNat []) zF ty9 rfl rfl (by omega) (getD_some (by omega))) ?_
     refine ahp 16 rfl rfl (by kernel_rfl) (by kernel_rfl) (zi ty9 rfl rfl rfl) ?_
     refine ahp 17 rfl rfl (by kernel_rfl) (by kernel_rfl) (zM (hs := [_]) zF ty9 rfl rfl (by decide) (by decide) rfl) ?_
     refine ahe 7 rfl (by kernel_rfl) ?_
     refine zA rfl (zah (i := 1) zF ty9 rfl rfl rfl rfl rfl (by simp [zaD, zl]) (by simp; omega) fun v49 => ?_)
     refine ⟨fun _ => .inl trivial, ?_⟩
     refine ahe 18 rfl (by kernel_rfl) ?_
     refine zA rfl (zah (i := 0) zF ty9 rfl rfl rfl rfl rfl (by simp [zaD, zl]) (by simp; omega) fun v60 => ?_)
     refine ⟨fun _ => .inl trivial, ?_⟩
     refine ahp 19 rfl rfl (by kernel_rfl) (by kernel_rfl) (zaK rfl) ?_
     refine ahp 20 rfl rfl (by kernel_rfl) (by kernel_rfl) (zaK rfl) ?_
     refine ahz (by kernel_rfl) ?_
     refine zz ?_
     refine ze ?_
     refine zy ?_
     refine dq (zv rfl rfl (by omega) (by omega)) ?_
     refine dmv rfl ?_
     refine dn ?_
     have hz0 : 0 ≤ z := by first | assumption | omega
     exact ⟨i + 1, v49, v60, ⟨by omega, trivial⟩, by dsimp only; omega, ⟨rfl, rfl, rfl, trivial⟩, (by repeat (first | exact zp | refine zu rfl ?_ | refine zq rfl rfl ?_)), zT (by dsimp only; rw [zhl hx hz, zi2 hx hz, if_pos hz0, if_pos hz0, List.map_append, List.map_append]; rfl)⟩
    ·try simp at h8
     refine zk ?_
     refine zz ?_
     refine ze ?_
     refine zy ?_
     refine dq (zv rfl rfl (by omega) (by omega)) ?_
     refine dmv rfl ?_
     refine dn ?_
     have hz0 : ¬ 0 ≤ z := by first | assumption | omega
     exact ⟨i + 1, v6, v7, ⟨by omega, trivial⟩, by dsimp only; omega, ⟨rfl, rfl, rfl, trivial⟩, (by repeat (first | exact zp | refine zu rfl ?_ | refine zq rfl rfl ?_)), zT (by dsimp only; rw [zhl hx hz, zi2 hx hz, if_neg hz0, if_neg hz0, List.append_nil, List.append_nil])⟩
   ·try simp at h6
    have hni : p.length ≤ i := by omega
    obtain rfl : i = p.length := by omega
    refine zN ?_
    refine zS ?_
    refine zdu ?_
    refine zE ?_
    refine ze ?_
    rw [List.take_length]
    have hpw : w.length ≤ p.length := by omega
    refine zb ?_
    refine dmv rfl ?_
    refine de rfl (zh (i := 0) ca26 rfl (WeakL.refl _) rfl (zhe (l := zbL w p) (by have := zkn (w := w) (p := p); omega)) ?_)
    rintro _ _ ⟨rfl, rfl⟩
    refine dn ?_
    refine zO (Ghost.fa 7 (i := 0) rfl rfl) ?_
    refine zO (Ghost.fa 6 (i := 0) rfl rfl) ?_
    refine zb ?_
    refine dmv rfl ?_
    refine dmv rfl ?_
    refine dq (zw ca18 rfl (WeakL.refl _) (zc2 (l := zbx w p) (m := zbR (zbL w p)) (by have := zjc (w := w) (p := p); omega))) ?_
    refine dmv rfl ?_
    refine dgl rfl rfl (fun hc => ⟨_, OpenTo.refl _, zG (i := 1) zaX rfl rfl (.inl ⟨rfl, rfl⟩) ⟨rfl, rfl⟩⟩) ?_
    refine dg rfl rfl (fun hc => ⟨_, OpenTo.upd (t := 68) rfl (by first | exact hc | simp_all) (OpenTo.refl _), znO hbn zaX rfl rfl⟩) ?_
    refine dg rfl rfl (fun hc => ⟨_, OpenTo.upd (t := 69) rfl (by first | exact hc | simp_all) (OpenTo.refl _), zd rfl⟩) ?_
    refine dg rfl rfl (fun hc => ⟨_, OpenTo.refl _, zd rfl⟩) ?_
    refine dgl rfl rfl (fun hc => ⟨_, OpenTo.refl _, zG (i := 1) zaX rfl rfl (.inl ⟨rfl, rfl⟩) ⟨rfl, rfl⟩⟩) ?_
    refine dg rfl rfl (fun hc => by
     have hbo : best ≠ none := by rintro rfl; simp at hc
     exact ⟨_, OpenTo.upd (t := 72) rfl (by first | exact hc | simp_all) (OpenTo.upd (t := 71) rfl (by first | exact hc | simp_all) (OpenTo.refl _)), zw ca61 rfl (WeakL.refl _) (zn0 (p := p) (b := best) (by omega) (fun l hl => by rw [hb l hl]; omega) hbo)⟩) ?_
    refine dg rfl rfl (fun hc => ⟨_, OpenTo.upd (t := 70) rfl (by first | exact hc | simp_all) (OpenTo.refl _), zL rfl (.inl rfl) (.inr ⟨_, rfl, fun h => by simp_all⟩)⟩) ?_
    refine dq (zL rfl (.inr ⟨_, rfl, fun h => by simp_all⟩) (.inl rfl)) ?_
    refine dn ?_
    refine zj rfl (fun h9 => ?_) (fun h10 => ?_)
    ·try simp at h9
     refine zy ?_
     refine dmv rfl ?_
     first
     | refine de0 (zt (i := 0) zaX rfl rfl rfl rfl rfl (Nat.le_of_ble_eq_true rfl) ?_)
     | refine de0 (zt (i := 1) zaX rfl rfl rfl rfl rfl (Nat.le_of_ble_eq_true rfl) ?_)
     | refine de0 (zt (i := 2) zaX rfl rfl rfl rfl rfl (Nat.le_of_ble_eq_true rfl) ?_)
     | refine de0 (zt (i := 3) zaX rfl rfl rfl rfl rfl (Nat.le_of_ble_eq_true rfl) ?_)
     refine dn ?_
     first
     | (refine ⟨_, _, Ghost.sub (Sub.refl _), _, _, rfl, Weak.refl _, rfl, ?_⟩
        rw [zi8 hx, ← hbst]
        done)
     | (clear ih
        refine ⟨_, _, Ghost.sub (Sub.refl _), _, _, rfl, Weak.refl _, rfl, ?_⟩
        rw [zeI hpw, zeU (by cases best <;> simp_all [zcF])]
        rfl)
     | (clear ih
        refine ⟨_, _, Ghost.sub (Sub.refl _), _, _, rfl, Weak.refl _, rfl, ?_⟩
        rw [zeI hpw, zgw (by cases best <;> simp_all [zcF])]
        rfl)
    ·try simp at h10
     refine zk ?_
     first
     | (refine ⟨_, _, Ghost.sub (Sub.refl _), _, _, rfl, Weak.refl _, rfl, ?_⟩
        rw [zi8 hx, ← hbst]
        done)
     | (clear ih
        refine ⟨_, _, Ghost.sub (Sub.refl _), _, _, rfl, Weak.refl _, rfl, ?_⟩
        rw [zeI hpw, zeU (by cases best <;> simp_all [zcF])]
        rfl)
     | (clear ih
        refine ⟨_, _, Ghost.sub (Sub.refl _), _, _, rfl, Weak.refl _, rfl, ?_⟩
        rw [zeI hpw, zgw (by cases best <;> simp_all [zcF])]
        rfl)

theorem zk1 [Tracks] {w : List WantS} {b6 b5 : Nat} (hw : w.length ≤ 100) (hf : ∀ x ∈ w, x.For.length ≤ 100) : ∀ (n : Nat) (p : List Int) (best : Option (List Int)), w.length = p.length + n → zdk w p → (∀ l, best = some l → l.length = w.length) → best ≠ some [] → Con Tryz.prog 59 [.slice 1 (p.map (HVal.int .i64)), .vptr [za1 w] 0, .raw (.pointer (some ⟨b6, 0, none⟩)), .raw (.pointer (some ⟨b5, 0, none⟩))] [.cells b6 [.fn (.func 59) [] [.vptr [za1 w] 0, .raw (.pointer (some ⟨b6, 0, none⟩)), .raw (.pointer (some ⟨b5, 0, none⟩))]], .cells b5 [zcO best]] (fun x M' => x = .tup [] ∧ M' = [.cells b6 [.fn (.func 59) [] [.vptr [za1 w] 0, .raw (.pointer (some ⟨b6, 0, none⟩)), .raw (.pointer (some ⟨b5, 0, none⟩))]], .cells b5 [zcO (zc3 w p best)]])
 | 0, p, best, h, hp, hb, hbn => zdt hw hf hp hb hbn fun q bst hq hpk => absurd hpk.1 (by omega)
 | n + 1, p, best, h, hp, hb, hbn => zdt hw hf hp hb hbn fun q bst hq hpk h1 h2 => zk1 hw hf n q bst (by omega) hpk h1 h2

/-- benchwarmer/benchref1.MostTraded$2 -/
theorem zfT [Tracks] {a b : GiveS}  : zaa Tryz.prog 62 [za8 a, za8 b] (.int .i64 (zcz a b)) := by
 refine Con.of_body Tryz.func62 rfl Tryz.ntmps62 rfl rfl ?_
 refine zb ?_
 refine dq (zaL rfl rfl) ?_
 refine dq (zaL rfl rfl) ?_
 refine das rfl ?_
 refine dn ?_
 refine zb ?_
 refine dq (zg zaz rfl ty9 (by decide) rfl) ?_
 refine dq (zi ty9 rfl rfl rfl) ?_
 refine dq (zg zaz rfl ty9 (by decide) rfl) ?_
 refine dq (zi ty9 rfl rfl rfl) ?_
 refine dq (zw znM rfl (WeakL.refl _) zcQ) ?_
 refine das rfl ?_
 refine dn ?_
 refine zo ?_
 refine zC rfl ?_
 rfl

set_option maxHeartbeats 1000000 in
/-- benchwarmer/benchref1.MostTraded -/
theorem zgq [Tracks] {o : List OwnerS} {w : List WantS} (ho : o.length ≤ 1000000) (hw : w.length ≤ 12) (hf : ∀ x ∈ w, x.For.length ≤ 100) (hbl : ∃ bl, zc3 w [] none = some bl ∧ zdk w bl) : zaa Tryz.prog 20 [zbd o, za1 w] (zgD (zji o w)) := by
 obtain ⟨bl, hbl, hpk⟩ := hbl
 have hpl := hpk.1
 refine Con.of_body Tryz.func20 rfl Tryz.ntmps20 rfl rfl ?_
 refine zb ?_
 refine dq (zaL rfl rfl) ?_
 refine das rfl ?_
 refine dn ?_
 refine zb ?_
 refine de rfl (zab zaX rfl fun b5 => ?_)
 refine dn ?_
 refine zb ?_
 refine de rfl (zab ze2 rfl fun b6 => ?_)
 refine dn ?_
 refine zb ?_
 refine dq (zcr rfl rfl) ?_
 first
 | refine de0 (zt (i := 0) ze2 rfl rfl rfl rfl rfl (Nat.le_of_ble_eq_true rfl) ?_)
 | refine de0 (zt (i := 1) ze2 rfl rfl rfl rfl rfl (Nat.le_of_ble_eq_true rfl) ?_)
 | refine de0 (zt (i := 2) ze2 rfl rfl rfl rfl rfl (Nat.le_of_ble_eq_true rfl) ?_)
 | refine de0 (zt (i := 3) ze2 rfl rfl rfl rfl rfl (Nat.le_of_ble_eq_true rfl) ?_)
 refine dn ?_
 refine zb ?_
 first
 | refine de rfl (zG (i := 0) ze2 rfl rfl (.inl ⟨rfl, rfl⟩) ?_)
 | refine de rfl (zG (i := 1) ze2 rfl rfl (.inl ⟨rfl, rfl⟩) ?_)
 | refine de rfl (zG (i := 2) ze2 rfl rfl (.inl ⟨rfl, rfl⟩) ?_)
 | refine de rfl (zG (i := 3) ze2 rfl rfl (.inl ⟨rfl, rfl⟩) ?_)
 refine de rfl (EOp.fzi (N := [.cells b6 [.fn (.func 59) [] [.vptr [za1 w] 0, .raw (.pointer (some ⟨b6, 0, none⟩)), .raw (.pointer (some ⟨b5, 0, none⟩))]], .cells b5 [zcO none]]) (sz := 1) (es := []) 0 (zib zaX ty3 fun v13 => ⟨v13, rfl, rfl, rfl⟩) ?_)
 refine de rfl (EOp.mono ?_ (zdI (M := [.cells b6 [.fn (.func 59) [] [.vptr [za1 w] 0, .raw (.pointer (some ⟨b6, 0, none⟩)), .raw (.pointer (some ⟨b5, 0, none⟩))]], .cells b5 [zcO none]]) ca59 rfl rfl (WeakL.refl _) (zk1 (by omega) hf w.length [] none (by simp) zmp (by simp) (by simp))))
 rintro _ _ ⟨rfl, rfl⟩
 refine dn ?_
 rw [show zc3 w [] none = some bl from hbl]
 simp only [zcO]
 refine zb ?_
 refine das rfl ?_
 refine dn ?_
 refine zO (Ghost.arr_nil 3) ?_
 refine zf ?_
 refine zb ?_
 first
 | refine de rfl (zG (i := 0) zaX rfl rfl (.inl ⟨rfl, rfl⟩) ?_)
 | refine de rfl (zG (i := 1) zaX rfl rfl (.inl ⟨rfl, rfl⟩) ?_)
 | refine de rfl (zG (i := 2) zaX rfl rfl (.inl ⟨rfl, rfl⟩) ?_)
 | refine de rfl (zG (i := 3) zaX rfl rfl (.inl ⟨rfl, rfl⟩) ?_)
 refine dq (zB (f := HVal.int .i64) (l := bl) zaX rfl) ?_
 refine dmv rfl ?_
 refine dn ?_
 refine zm ?_
 refine zbf [7, 8, 9, 10, 17, 18, 19, 20, 21, 22, 23, 24, 25, 26, 27, 28, 29, 30, 31, 32, 33, 34, 35, 36, 37, 38, 39, 40, 41, 42, 43, 44, 45, 46, 47] (fun (i : Nat) (gv : Value) => [(17, .int .i64 i), (7, .raw gv)]) (fun (i : Nat) (gv : Value) => [.arr gv 3 ((gvR o w (bl.take i)).map za8), .cells b6 [.fn (.func 59) [] [.vptr [za1 w] 0, .raw (.pointer (some ⟨b6, 0, none⟩)), .raw (.pointer (some ⟨b5, 0, none⟩))]], .cells b5 [.slice 1 (bl.map (HVal.int .i64))]]) (fun (i : Nat) (gv : Value) => i ≤ bl.length ∧ (True)) (fun (i : Nat) (gv : Value) => bl.length - i) (0) (.slice none 0 0) ?_ ?_ ?_ ?_
 ·exact ⟨Nat.zero_le _, trivial⟩
 ·exact ⟨rfl, rfl, trivial⟩
 ·exact zT (by rw [List.take_zero, znr]; rfl)
 ·intro i gv hinv
  obtain ⟨hi, -⟩ := hinv
  refine zb ?_
  refine dq (zJ rfl rfl) ?_
  refine dn ?_
  refine zf ?_
  refine zj rfl (fun h1 => ?_) (fun h2 => ?_)
  ·try simp at h1
   obtain ⟨z, hz⟩ : ∃ z, bl[i]? = some z := ⟨_, List.getElem?_eq_getElem h1⟩
   have hdz := zK hz
   obtain ⟨x, hx⟩ : ∃ x, w[i]? = some x := ⟨_, List.getElem?_eq_getElem (by omega)⟩
   have hzb := hpk.2 i z hz
   rw [List.getD_eq_getElem?_getD, hx] at hzb
   replace hzb : -1 ≤ z ∧ z < (x.For.length : Int) := hzb
   have hfx := hf x (List.mem_of_getElem? hx)
   have hg1 := zj4 (o := o) (w := w) (p := bl.take i)
   rw [List.length_take] at hg1
   refine zk ?_
   refine ze ?_
   refine zf ?_
   refine zm ?_
   refine zb ?_
   refine dmv rfl ?_
   refine dq (zH zaX ty3 rfl rfl rfl (by first | assumption | simp_all)) ?_
   refine dq (zi ty3 rfl rfl rfl) ?_
   refine das rfl ?_
   refine das rfl ?_
   refine dn ?_
   refine zb ?_
   refine dmv rfl ?_
   refine dq (zbw rfl rfl) ?_
   refine dn ?_
   refine zj rfl (fun h3 => ?_) (fun h4 => ?_)
   ·try simp at h3
    refine zb ?_
    refine dq (zi zaP rfl rfl rfl) ?_
    refine dmv rfl ?_
    refine dq (zH zaP zU rfl rfl rfl (by first | assumption | simp_all)) ?_
    refine dq ((by first | exact zg zU rfl zF (by decide) rfl | exact zn zU rfl zF (by decide) rfl)) ?_
    refine dq (zi zF rfl rfl rfl) ?_
    refine dmv rfl ?_
    refine dq (zH (j := z.toNat) (a := x.For.getD z.toNat []) zF ty9 rfl rfl (by omega) (getD_some (by omega))) ?_
    refine dq (zi ty9 rfl rfl rfl) ?_
    refine das rfl ?_
    refine dn ?_
    refine zb0 (fun _ => True) [] mixed ?_
    refine ahp 0 rfl rfl (by kernel_rfl) (by kernel_rfl) (zd rfl) ?_
    refine ahp 1 rfl rfl (by kernel_rfl) (by kernel_rfl) (zd rfl) ?_
    refine ahp 2 rfl rfl (by kernel_rfl) (by kernel_rfl) (zd rfl) ?_
    refine ahp 3 rfl rfl (by kernel_rfl) (by kernel_rfl) (zd rfl) ?_
    refine ahp 4 rfl rfl (by kernel_rfl) (by kernel_rfl) (zw zkq rfl (WeakL.refl _) (zbM ho)) ?_
    refine ahp 5 rfl rfl (by kernel_rfl) (by kernel_rfl) (zd rfl) ?_
    refine ahp 6 rfl rfl (by kernel_rfl) (by kernel_rfl) (zi zaP rfl rfl rfl) ?_
    refine ahp 7 rfl rfl (by kernel_rfl) (by kernel_rfl) (zd rfl) ?_
    refine ahp 8 rfl rfl (by kernel_rfl) (by kernel_rfl) (zH zaP zU rfl rfl rfl (by first | assumption | simp_all)) ?_
    refine ahp 9 rfl rfl (by kernel_rfl) (by kernel_rfl) ((by first | exact zg zU rfl ty9 (by decide) rfl | exact zn zU rfl ty9 (by decide) rfl)) ?_
    refine ahp 10 rfl rfl (by kernel_rfl) (by kernel_rfl) (zi ty9 rfl rfl rfl) ?_
    refine ahp 11 rfl rfl (by kernel_rfl) (by kernel_rfl) (zw zkq rfl (WeakL.refl _) (zbM ho)) ?_
    refine ahp 12 rfl rfl (by kernel_rfl) (by kernel_rfl) (zaU (cs := [_, _, _]) zaz zqf rfl) ?_
    refine ahp 13 rfl rfl (by kernel_rfl) (by kernel_rfl) (zM (hs := [_]) zbg zaz rfl rfl (by decide) (by decide) rfl) ?_
    refine ahe 14 rfl (by kernel_rfl) ?_
    refine zA rfl (zah (i := 0) zbg zaz rfl rfl rfl rfl rfl (by simp [zaD, zl]) (by simp; omega) fun v46 => ?_)
    refine ⟨fun _ => .inl trivial, ?_⟩
    refine ahp 15 rfl rfl (by kernel_rfl) (by kernel_rfl) (zaK rfl) ?_
    refine ahz (by kernel_rfl) ?_
    refine zz ?_
    refine ze ?_
    refine zy ?_
    refine dq (zv rfl rfl (by omega) (by omega)) ?_
    refine dmv rfl ?_
    refine dn ?_
    have hz0 : 0 ≤ z := by first | assumption | omega
    exact ⟨i + 1, v46, ⟨by omega, trivial⟩, by dsimp only; omega, ⟨rfl, rfl, trivial⟩, (by repeat (first | exact zp | refine zu rfl ?_ | refine zq rfl rfl ?_)), zT (by dsimp only; rw [ziV hx hz, if_pos hz0, List.map_append]; rfl)⟩
   ·try simp at h4
    refine zk ?_
    refine zz ?_
    refine ze ?_
    refine zy ?_
    refine dq (zv rfl rfl (by omega) (by omega)) ?_
    refine dmv rfl ?_
    refine dn ?_
    have hz0 : ¬ 0 ≤ z := by first | assumption | omega
    exact ⟨i + 1, gv, ⟨by omega, trivial⟩, by dsimp only; omega, ⟨rfl, rfl, trivial⟩, (by repeat (first | exact zp | refine zu rfl ?_ | refine zq rfl rfl ?_)), zT (by dsimp only; rw [ziV hx hz, if_neg hz0, List.append_nil])⟩
  ·try simp at h2
   have hni : bl.length ≤ i := by omega
   obtain rfl : i = bl.length := by omega
   refine zN ?_
   refine zS ?_
   refine zbr ?_
   refine zE ?_
   refine ze ?_
   rw [List.take_length]
   refine zb ?_
   refine dmv rfl ?_
   refine de rfl (zh (i := 0) ca53 rfl (WeakL.refl _) rfl (zb6 (l := gvR o w bl) (c := zcz) ca62 (fun _ _ => zfT) (by have := zj4 (o := o) (w := w) (p := bl); omega)) ?_)
   rintro _ _ ⟨rfl, rfl⟩
   refine dn ?_
   refine zO (Ghost.fa 7 (i := 0) rfl rfl) ?_
   refine zb ?_
   refine dmv rfl ?_
   refine das rfl ?_
   refine dn ?_
   refine zo ?_
   refine zbO Ghost.clear rfl ⟨?_, rfl⟩
   rw [zji, hbl]
   rfl
end
end Go.Proofs.YtcihcbnjfclkbaaGreatDoor
namespace Go.HL
section

end
section
def ziJ (a b : Of2) : Int := orI [za2 a.1 b.1, za2 a.2 b.2]
theorem zra (a b : Of2) : ziJ a b = if za2 a.1 b.1 ≠ 0 then za2 a.1 b.1 else za2 a.2 b.2 := by unfold ziJ; rw [zpJ]
theorem zpj (a b : Of2) : ziJ a b = -ziJ b a := by
 unfold ziJ
 rw [zdB a.1, zdB a.2, zpI]
theorem zpW : Cmp ziJ (fun _ => True) where
 flip x y _ _ := by rw [zpj x y]; omega
 trans x y z _ _ _ h1 h2 := by
  rw [zra] at *
  have k1 : za2 x.1 y.1 ≤ 0 := by split at h1 <;> omega
  have k2 : za2 y.1 z.1 ≤ 0 := by split at h2 <;> omega
  have k3 := zgZ k1 k2
  split
  ·exact k3
  ·rename_i hz
   have hz' : za2 x.1 z.1 = 0 := by simpa using hz
   obtain ⟨e1, e2⟩ := zlv k1 k2 hz'
   rw [if_neg (by simp [e1])] at h1
   rw [if_neg (by simp [e2])] at h2
   exact zgZ h1 h2
def OLt (a b : Of2) : Prop := ziJ a b < 0
end
section
theorem zg1 {α : Type} {s : Str} {v : α} : ∀ {G : List (Str × α)}, (zaC s v G).map (·.1) = zc9 s (G.map (·.1))
 | [] => by simp [zaC, zc9]
 | p :: r => by
   have ih := zg1 (s := s) (v := v) (G := r)
   simp only [zaC]
   by_cases h : s = p.1
   ·rw [if_pos h]
    unfold zc9
    rw [if_pos (by simp [h])]
    simp [h]
   ·rw [if_neg h, List.map_cons, ih]
    unfold zc9
    by_cases hc : (r.map (·.1)).contains s = true
    ·rw [if_pos hc, if_pos (by simp at hc ⊢; exact .inr hc)]; rfl
    ·rw [if_neg hc, if_neg (by simp at hc ⊢; exact ⟨h, hc⟩)]; rfl
theorem zhY {α : Type} {s : Str} {v : α} {p : Str × α} : ∀ {G : List (Str × α)}, ANodup G → p ∈ zaC s v G → p = (s, v) ∨ (p ∈ G ∧ p.1 ≠ s)
 | [], _, h => by simp [zaC] at h; exact .inl h
 | q :: r, hn, h => by
   have h1 := List.nodup_cons.1 hn
   simp only [zaC] at h
   by_cases hs : s = q.1
   ·rw [if_pos hs] at h
    rcases List.mem_cons.1 h with h | h
    ·exact .inl h
    ·refine .inr ⟨List.mem_cons_of_mem _ h, fun e => h1.1 ?_⟩
     show q.1 ∈ r.map (·.1)
     rw [← hs, ← e]; exact List.mem_map_of_mem h
   ·rw [if_neg hs] at h
    rcases List.mem_cons.1 h with h | h
    ·subst h; exact .inr ⟨by simp, fun e => hs e.symm⟩
    ·rcases zhY h1.2 h with e | e
     ·exact .inl e
     ·exact .inr ⟨List.mem_cons_of_mem _ e.1, e.2⟩
section
variable {κ : Type}
/-- The maps of maps hold the zaD sums. -/
structure GrOk (S : List Str) (c : List ((Str × κ) × Int)) (G : GrM κ) : Prop where
 keys : G.map (·.1) = S
 nodup : S.Nodup
 val : ∀ p ∈ G, p.2.2 = zcA c p.1
 inS : ∀ e ∈ c, e.1.1 ∈ S
theorem GrOk.anodup {S : List Str} {c : List ((Str × κ) × Int)} {G : GrM κ} (h : GrOk S c G) : ANodup G := by unfold ANodup; rw [h.keys]; exact h.nodup
theorem GrOk.nil : GrOk ([] : List Str) ([] : List ((Str × κ) × Int)) [] := ⟨rfl, List.nodup_nil, (fun p h => by cases h), (fun e h => by cases h)⟩
theorem GrOk.get {S : List Str} {c : List ((Str × κ) × Int)} {G : GrM κ} (h : GrOk S c G) {s : Str} {b : Nat} {L : List (κ × Int)} (hq : alk s G = some (b, L)) : L = zcA c s := h.val _ (zcH hq)
theorem GrOk.none {S : List Str} {c : List ((Str × κ) × Int)} {G : GrM κ} (h : GrOk S c G) {s : Str} : alk s G = none ↔ s ∉ S := by rw [ziX, h.keys]
theorem zpo {S : List Str} {c : List ((Str × κ) × Int)} {s : Str} (h : ∀ e ∈ c, e.1.1 ∈ S) (hs : s ∉ S) : zcA c s = [] := by
 unfold zcA
 rw [List.map_eq_nil_iff, List.filter_eq_nil_iff]
 intro e he hq
 exact hs ((eq_of_beq hq) ▸ h e he)
theorem GrOk.add {S : List Str} {c : List ((Str × κ) × Int)} {G : GrM κ} (h : GrOk S c G) {s : Str} (b : Nat) (hs : alk s G = Option.none) : GrOk (zc9 s S) c (zaC s (b, []) G) := by
 have hn := h.none.1 hs
 refine ⟨by rw [zg1, h.keys], zgN h.nodup, fun p hp => ?_, fun e he => zjb.2 (.inr (h.inS e he))⟩
 rcases zhY h.anodup hp with rfl | ⟨hp, _⟩
 ·exact (zpo h.inS hn).symm
 ·exact h.val p hp
variable [DecidableEq κ]
theorem GrOk.put {S : List Str} {c : List ((Str × κ) × Int)} {G : GrM κ} (h : GrOk S c G) {s : Str} {b : Nat} {L : List (κ × Int)} (hq : alk s G = some (b, L)) (k : κ) (v : Int) : GrOk S (zaC (s, k) v c) (zaC s (b, zaC k v L) G) := by
 have hs : s ∈ S := by
  refine Decidable.not_not.1 fun hn => ?_
  have := h.none.2 hn
  rw [this] at hq; cases hq
 refine ⟨?_, h.nodup, fun p hp => ?_, fun e he => ?_⟩
 ·rw [zg1, h.keys]
  unfold zc9
  rw [if_pos (by simpa using hs)]
 ·rw [zlh]
  rcases zhY h.anodup hp with rfl | ⟨hp, hne⟩
  ·rw [if_pos rfl, ← h.get hq]
  ·rw [if_neg hne]; exact h.val p hp
 ·rcases zdz he with rfl | he
  ·exact hs
  ·exact h.inS e he
end
end
section

end
section
theorem OLt.trans {a b c : Of2} (h1 : OLt a b) (h2 : OLt b c) : OLt a c := zpW.lt_trans trivial trivial trivial h1 h2
end
section
/-- The plays of the sources that count. -/
def zrB (l : List Play) (trust : List Str) (n : Int) (x : Play) : Bool := decide (zrR l trust n x.Match = some x.Source)
def kept (l : List Play) (trust : List Str) (n : Int) : List Play := l.filter (zrB l trust n)
end
section
structure ChkIs (q : ChkS) (l : List Play) : Prop where
 sn : q.S.Nodup
 s : ∀ s, s ∈ q.S ↔ ∃ x ∈ l, x.Source = s
 wn : ANodup q.W
 w : ∀ m, m ∈ q.W.map (·.1) ↔ ∃ x ∈ l, x.Match = m
 wv : ∀ m v, alk m q.W = some v → ∃ x ∈ l, x.Match = m ∧ x.Week = v
 c : q.c = false ↔ ∀ x ∈ l, ∀ y ∈ l, x.Match = y.Match → x.Week = y.Week
theorem ChkIs.step {q : ChkS} {l : List Play} (h : ChkIs q l) (p : Play) : ChkIs (zqF q p) (l ++ [p]) where
 sn := zgN h.sn
 s s := by
  show s ∈ zc9 p.Source q.S ↔ _
  rw [zjb, h.s]
  constructor
  ·rintro (rfl | ⟨x, hx, e⟩)
   ·exact ⟨p, by simp, rfl⟩
   ·exact ⟨x, List.mem_append_left _ hx, e⟩
  ·rintro ⟨x, hx, e⟩
   rcases List.mem_append.1 hx with hx | hx
   ·exact .inr ⟨x, hx, e⟩
   ·rw [List.mem_singleton.1 hx] at e; exact .inl e.symm
 wn := h.wn.put
 w m := by
  show m ∈ (zaC p.Match p.Week q.W).map (·.1) ↔ _
  rw [zhT, h.w]
  constructor
  ·rintro (rfl | ⟨x, hx, e⟩)
   ·exact ⟨p, by simp, rfl⟩
   ·exact ⟨x, List.mem_append_left _ hx, e⟩
  ·rintro ⟨x, hx, e⟩
   rcases List.mem_append.1 hx with hx | hx
   ·exact .inr ⟨x, hx, e⟩
   ·rw [List.mem_singleton.1 hx] at e; exact .inl e.symm
 wv m v hv := by
  have hv' : alk m (zaC p.Match p.Week q.W) = some v := hv
  rw [zkc] at hv'
  by_cases e : m = p.Match
  ·rw [if_pos e] at hv'; cases hv'
   exact ⟨p, by simp, e.symm, rfl⟩
  ·rw [if_neg e] at hv'
   obtain ⟨x, hx, e1⟩ := h.wv m v hv'
   exact ⟨x, List.mem_append_left _ hx, e1⟩
 c := by
  show (q.c || ((alk p.Match q.W).isSome && ((alk p.Match q.W).getD 0 != p.Week))) = false ↔ _
  rw [Bool.or_eq_false_iff, h.c]
  constructor
  ·rintro ⟨h1, h2⟩
   have hp : ∀ x ∈ l, x.Match = p.Match → x.Week = p.Week := fun x hx e => by
    have hk : p.Match ∈ q.W.map (·.1) := (h.w _).2 ⟨x, hx, e⟩
    have hne : ¬ alk p.Match q.W = none := by rw [ziX]; exact fun z => z hk
    obtain ⟨v, hv⟩ := Option.ne_none_iff_exists'.1 hne
    rw [hv] at h2
    simp at h2
    obtain ⟨y, hy, e1, e2⟩ := h.wv _ _ hv
    rw [h1 x hx y hy (by rw [e, e1]), e2, h2]
   intro x hx y hy e
   rcases List.mem_append.1 hx with hx | hx <;> rcases List.mem_append.1 hy with hy | hy
   ·exact h1 x hx y hy e
   ·rw [List.mem_singleton.1 hy] at e ⊢; exact hp x hx e
   ·rw [List.mem_singleton.1 hx] at e ⊢; exact (hp y hy e.symm).symm
   ·rw [List.mem_singleton.1 hx, List.mem_singleton.1 hy]
  ·intro hall
   refine ⟨fun x hx y hy e => hall x (List.mem_append_left _ hx) y (List.mem_append_left _ hy) e, ?_⟩
   cases hv : alk p.Match q.W with
   | none => rfl
   | some v =>
     obtain ⟨y, hy, e1, e2⟩ := h.wv _ _ hv
     have := hall y (List.mem_append_left _ hy) p (by simp) e1
     simp
     rw [← e2, this]
end
section

end
section

end
section
section
variable {κ : Type}
end
end
section
section
variable {κ : Type} [DecidableEq κ] {β : Type}
end
section
variable {P : Program} {e : Env} {κ : Type} [DecidableEq κ] {β : Type} {eb : β → HVal}
end
end
section
/-! lines by their places, with mends -/
abbrev GrS := List (Plc × List StatS)
def znS (x : MendS) (l : List StatS) : List StatS := l.filter fun s => !(s.Name == x.Stat)
def zf7 (x : MendS) (l : List StatS) : List StatS := znS x l ++ if x.Count ≠ 0 then [⟨x.Stat, x.Count⟩] else []
def ze8 (n : Int) (G : GrS) (x : MendS) : GrS := if n < x.At then G else zaC (x.Player, x.Week) (zf7 x ((alk (x.Player, x.Week) G).getD [])) G
def GLen (b : Nat) (G : GrS) : Prop := ∀ q ∈ G, q.2.length ≤ b
theorem GLen.put {b : Nat} {G : GrS} {p : Plc} {l : List StatS} (h : GLen b G) (hl : l.length ≤ b) : GLen b (zaC p l G) := fun q hq => by
 rcases zdz hq with rfl | hq
 ·exact hl
 ·exact h q hq
theorem GLen.get {b : Nat} {G : GrS} (h : GLen b G) (p : Plc) : ((alk p G).getD []).length ≤ b := by
 cases hq : alk p G with
 | none => simp
 | some l => exact h _ (zcH hq)
theorem GLen.up {b c : Nat} {G : GrS} (h : GLen b G) (hb : b ≤ c) : GLen c G := fun q hq => Nat.le_trans (h q hq) hb
theorem zoJ (x : MendS) (l : List StatS) : (znS x l).length ≤ l.length := List.length_filter_le _ _
theorem zot (x : MendS) (l : List StatS) : (zf7 x l).length ≤ l.length + 1 := by
 have := zoJ x l
 unfold zf7; rw [List.length_append]; split
 ·simp only [List.length_cons, List.length_nil]; omega
 ·simp only [List.length_nil]; omega
theorem GLen.step {b : Nat} {n : Int} {G : GrS} {x : MendS} (h : GLen b G) : GLen (b + 1) (ze8 n G x) := by
 unfold ze8; split
 ·exact h.up (by omega)
 ·refine (h.up (by omega)).put ?_
  have h1 := zot x ((alk (x.Player, x.Week) G).getD [])
  have h2 := h.get (x.Player, x.Week)
  omega
def GNm (G : GrS) : Prop := ∀ q ∈ G, (q.2.map (·.Name)).Nodup
theorem GNm.put {G : GrS} {p : Plc} {l : List StatS} (h : GNm G) (hl : (l.map (·.Name)).Nodup) : GNm (zaC p l G) := fun q hq => by
 rcases zdz hq with rfl | hq
 ·exact hl
 ·exact h q hq
theorem GNm.get {G : GrS} (h : GNm G) (p : Plc) : (((alk p G).getD []).map (·.Name)).Nodup := by
 cases hq : alk p G with
 | none => exact List.nodup_nil
 | some l => exact h _ (zcH hq)
theorem ziB {x : MendS} {l : List StatS} (h : (l.map (·.Name)).Nodup) : ((zf7 x l).map (·.Name)).Nodup := by
 have h1 : ((znS x l).map (·.Name)).Nodup := h.sublist ((List.filter_sublist).map _)
 unfold zf7
 split
 ·rw [List.map_append]
  refine List.nodup_append.2 ⟨h1, by simp, fun a ha b hb => ?_⟩
  simp at hb; subst hb
  obtain ⟨s, hs, rfl⟩ := List.mem_map.1 ha
  have := (List.mem_filter.1 hs).2
  simpa using this
 ·rw [List.append_nil]; exact h1
theorem GNm.step {n : Int} {G : GrS} {x : MendS} (h : GNm G) : GNm (ze8 n G x) := by
 unfold ze8; split
 ·exact h
 ·exact h.put (ziB (h.get _))
end
section

end
section
/-! one list of statistics by name -/
abbrev stA (l : List StatS) : List (Str × Int) := l.map fun s => (s.Name, s.Count)
def sv (l : List StatS) (s : Str) : Int := (alk s (stA l)).getD 0
structure StOk (l : List StatS) : Prop where
 nd : (l.map (·.Name)).Nodup
 nz : ∀ x ∈ l, x.Count ≠ 0
theorem StOk.nodup {l : List StatS} (h : StOk l) : l.Nodup := (List.pairwise_map.1 h.nd).imp fun h e => h (congrArg _ e)
theorem StOk.put {x : MendS} {l : List StatS} (h : StOk l) : StOk (zf7 x l) where
 nd := ziB h.nd
 nz y hy := by
  unfold zf7 at hy
  rcases List.mem_append.1 hy with hy | hy
  ·exact h.nz y (List.mem_filter.1 hy).1
  ·split at hy
   ·rename_i hc; rw [List.mem_singleton.1 hy]; exact hc
   ·cases hy
theorem StOk.nil : StOk [] := ⟨List.nodup_nil, fun x h => by cases h⟩
/-! all lists by place -/
structure GSOk (G : GrS) : Prop where
 nd : ANodup G
 ok : ∀ q ∈ G, StOk q.2
def gv (G : GrS) (p : Plc) (s : Str) : Int := sv ((alk p G).getD []) s
theorem GSOk.get {G : GrS} (h : GSOk G) (p : Plc) : StOk ((alk p G).getD []) := by
 cases hq : alk p G with
 | none => exact StOk.nil
 | some l => exact h.ok _ (zcH hq)
theorem GSOk.step {n : Int} {G : GrS} {x : MendS} (h : GSOk G) : GSOk (ze8 n G x) := by
 unfold ze8; split
 ·exact h
 ·refine ⟨h.nd.put, fun q hq => ?_⟩
  rcases zdz hq with rfl | hq
  ·exact (h.get _).put
  ·exact h.ok q hq
structure GVal (G : GrS) : Prop where
 pl : ∀ q ∈ G, key q.1.1 = true ∧ zjz q.1.2 = true
 st : ∀ q ∈ G, ∀ s ∈ q.2, key s.Name = true ∧ (-100000 ≤ s.Count ∧ s.Count ≤ 100000)
theorem GVal.step {n : Int} {G : GrS} {x : MendS} (h : GVal G) (hx : zhJ x = 0) : GVal (ze8 n G x) := by
 obtain ⟨k1, k2, k3, k4, _⟩ := zme hx
 unfold ze8; split
 ·exact h
 ·refine ⟨fun q hq => ?_, fun q hq s hs => ?_⟩
  ·rcases zdz hq with rfl | hq
   ·exact ⟨k1, k3⟩
   ·exact h.pl q hq
  ·rcases zdz hq with rfl | hq
   ·unfold zf7 at hs
    rcases List.mem_append.1 hs with hs | hs
    ·have h1 := (List.mem_filter.1 hs).1
     cases ha : alk (x.Player, x.Week) G with
     | none => rw [ha] at h1; cases h1
     | some l => rw [ha] at h1; exact h.st _ (zcH ha) s h1
    ·split at hs
     ·rw [List.mem_singleton.1 hs]; exact ⟨k2, k4⟩
     ·cases hs
   ·exact h.st q hq s hs
end
section
/-! mends as they are made up -/
end
section
theorem zmf : ∀ a b : Str, Op.bytesLess a b = decide (a < b)
 | [], [] => by simp [Op.bytesLess]
 | _ :: _, [] => by simp [Op.bytesLess]
 | [], _ :: _ => by simp [Op.bytesLess]
 | a :: x, b :: y => by
   have ih := zmf x y
   rw [Bool.eq_iff_iff, decide_eq_true_iff, List.cons_lt_cons_iff]
   unfold Op.bytesLess
   rw [ih]
   simp
structure Half (a b l : List Play) : Prop where
 sa : a.Sublist l
 sb : b.Sublist l
 all : ∀ x ∈ l, x ∈ a ∨ x ∈ b
theorem Half.nil : Half [] [] [] := ⟨List.Sublist.refl _, List.Sublist.refl _, fun x h => by cases h⟩
theorem Half.left {a b l : List Play} (h : Half a b l) (x : Play) : Half (a ++ [x]) b (l ++ [x]) :=
 ⟨h.sa.append (List.Sublist.refl _), h.sb.trans (List.sublist_append_left _ _), fun y hy => by
  rcases List.mem_append.1 hy with hy | hy
  ·rcases h.all y hy with q | q
   ·exact .inl (List.mem_append_left _ q)
   ·exact .inr q
  ·exact .inl (List.mem_append_right _ hy)⟩
theorem Half.right {a b l : List Play} (h : Half a b l) (x : Play) : Half a (b ++ [x]) (l ++ [x]) :=
 ⟨h.sa.trans (List.sublist_append_left _ _), h.sb.append (List.Sublist.refl _), fun y hy => by
  rcases List.mem_append.1 hy with hy | hy
  ·rcases h.all y hy with q | q
   ·exact .inl q
   ·exact .inr (List.mem_append_left _ q)
  ·exact .inr (List.mem_append_right _ hy)⟩
end
section
open Op
/-- What one chose, and whom one gets. -/
def zgo (w : List WantS) (i : Nat) (k : Int) (c : Nat) : Prop := (k = -1 ∧ c = i) ∨ (0 ≤ k ∧ c ≠ i ∧ c < w.length ∧ ∃ x, w[i]? = some x ∧ x.For[k.toNat]? = some (zbz w c))
structure PickWay (w : List WantS) (p : List Int) (q : List Nat) : Prop where
 lp : p.length = w.length
 lq : q.length = w.length
 at' : ∀ (i : Nat) (k : Int) (c : Nat), p[i]? = some k → q[i]? = some c → zgo w i k c
theorem zcu {w : List WantS} {i : Nat} {x : WantS} (h : w[i]? = some x) : zbz w i = x.Player := by unfold zbz; rw [List.getD_eq_getElem?_getD, h]; rfl
theorem zhz {w : List WantS} (hs : SortedS (w.map (·.Player))) {a b : Nat} (ha : a < w.length) (hb : b < w.length) (h : zbz w a = zbz w b) : a = b := by
 obtain ⟨x, hx⟩ : ∃ x, w[a]? = some x := ⟨_, List.getElem?_eq_getElem ha⟩
 obtain ⟨y, hy⟩ : ∃ x, w[b]? = some x := ⟨_, List.getElem?_eq_getElem hb⟩
 rw [zcu hx, zcu hy] at h
 have h1 := (zcG hs (s := x.Player)).2 ⟨x, hx, rfl⟩
 have h2 := (zcG hs (s := x.Player)).2 ⟨y, hy, h.symm⟩
 omega
theorem zej {α : Type} : ∀ {l : List α} {i j : Nat} {a : α}, l.Nodup → l[i]? = some a → l[j]? = some a → i = j
 | [], _, _, _, _, h, _ => by simp at h
 | x :: t, 0, 0, _, _, _, _ => rfl
 | x :: t, 0, j + 1, a, hn, h1, h2 => by
   simp at h1 h2; subst h1
   exact absurd (List.mem_of_getElem? h2) (List.nodup_cons.1 hn).1
 | x :: t, i + 1, 0, a, hn, h1, h2 => by
   simp at h1 h2; subst h2
   exact absurd (List.mem_of_getElem? h1) (List.nodup_cons.1 hn).1
 | x :: t, i + 1, j + 1, a, hn, h1, h2 => by
   rw [zej (List.nodup_cons.1 hn).2 (show t[i]? = some a by simpa using h1) (by simpa using h2)]
theorem zfB {w : List WantS} {i : Nat} {k : Int} {c : Nat} (h : zgo w i k c) : k < 0 ↔ c = i := by
 rcases h with ⟨h1, h2⟩ | ⟨h1, h2, _⟩
 ·constructor
  ·intro _; exact h2
  ·intro _; omega
 ·constructor
  ·intro q; omega
  ·intro q; exact absurd q h2
theorem zqx {o : List OwnerS} {w : List WantS} (hw : WantsOk o w) {i : Nat} {k k' : Int} {c : Nat} (h : zgo w i k c) (h' : zgo w i k' c) : k = k' := by
 rcases h with ⟨h1, h2⟩ | ⟨h1, h2, _, x, hx, hk⟩
 ·rcases h' with ⟨g1, _⟩ | ⟨_, g2, _⟩
  ·rw [h1, g1]
  ·exact absurd h2 g2
 ·rcases h' with ⟨_, g2⟩ | ⟨g1, _, _, y, hy, hk'⟩
  ·exact absurd g2 h2
  ·rw [hx] at hy; cases hy
   have := zej (hw.nd x (List.mem_of_getElem? hx)) hk hk'
   omega
theorem zqR {o : List OwnerS} {w : List WantS} (hw : WantsOk o w) {p p' : List Int} {q : List Nat} (h : PickWay w p q) (h' : PickWay w p' q) : p = p' := by
 refine List.ext_getElem? fun i => ?_
 rcases Nat.lt_or_ge i w.length with hi | hi
 ·have e1 : p[i]? = some (p[i]'(by rw [h.lp]; exact hi)) := List.getElem?_eq_getElem _
  have e2 : p'[i]? = some (p'[i]'(by rw [h'.lp]; exact hi)) := List.getElem?_eq_getElem _
  have e3 : q[i]? = some (q[i]'(by rw [h.lq]; exact hi)) := List.getElem?_eq_getElem _
  rw [e1, e2, zqx hw (h.at' i _ _ e1 e3) (h'.at' i _ _ e2 e3)]
 ·rw [List.getElem?_eq_none (by rw [h.lp]; exact hi), List.getElem?_eq_none (by rw [h'.lp]; exact hi)]
def zcE : Nat → List Nat → List (Nat × Nat)
 | _, [] => []
 | fr, c :: q => if c = fr then zcE (fr + 1) q else (fr, c) :: zcE (fr + 1) q
theorem zcj : ∀ {q : List Nat} {fr i c : Nat}, (i, c) ∈ zcE fr q ↔ ∃ j, i = fr + j ∧ q[j]? = some c ∧ c ≠ i
 | [], fr, i, c => by simp [zcE]
 | d :: q, fr, i, c => by
   have ih := zcj (q := q) (fr := fr + 1) (i := i) (c := c)
   rw [zcE]
   constructor
   ·intro h
    split at h
    ·obtain ⟨j, h1, h2, h3⟩ := ih.1 h
     exact ⟨j + 1, by omega, by simpa using h2, h3⟩
    ·rcases List.mem_cons.1 h with e | h
     ·cases e; rename_i hd; exact ⟨0, by omega, by simp, hd⟩
     ·obtain ⟨j, h1, h2, h3⟩ := ih.1 h
      exact ⟨j + 1, by omega, by simpa using h2, h3⟩
   ·rintro ⟨j, h1, h2, h3⟩
    cases j with
    | zero =>
      simp at h2
      subst h2
      rw [if_neg (by omega), h1]
      simp
    | succ j =>
      have := ih.2 ⟨j, by omega, by simpa using h2, h3⟩
      split
      ·exact this
      ·exact List.mem_cons_of_mem _ this
theorem zkh : ∀ {q : List Nat} {fr : Nat}, ((zcE fr q).map (·.1)).Pairwise (· < ·) ∧ ∀ i ∈ (zcE fr q).map (·.1), fr ≤ i
 | [], fr => by simp [zcE]
 | d :: q, fr => by
   obtain ⟨h1, h2⟩ := zkh (q := q) (fr := fr + 1)
   rw [zcE]
   split
   ·exact ⟨h1, fun i hi => by have := h2 i hi; omega⟩
   ·rw [List.map_cons]
    refine ⟨List.pairwise_cons.2 ⟨fun i hi => by have := h2 i hi; dsimp only; omega, h1⟩, fun i hi => ?_⟩
    rcases List.mem_cons.1 hi with e | hi
    ·rw [e]; exact Nat.le_refl _
    ·have := h2 i hi; omega
theorem zk0 {o : List OwnerS} {w : List WantS} : ∀ {v : List WantS} {p : List Int} {q : List Nat} {fr : Nat}, w.drop fr = v → p.length = v.length → q.length = v.length → (∀ (i : Nat) (k : Int) (c : Nat), p[i]? = some k → q[i]? = some c → zgo w (fr + i) k c) →
 zbx v p = (zcE fr q).map (fun z => zbz w z.1) ∧ zbL v p = (zcE fr q).map (fun z => zbz w z.2) ∧ gvR o v p = zc7 o w fr q
 | [], p, q, fr, _, hp, hq, _ => by
   rw [List.length_eq_zero_iff.1 hp, List.length_eq_zero_iff.1 hq]; exact ⟨rfl, rfl, rfl⟩
 | x :: v, [], q, fr, _, hp, _, _ => by simp at hp
 | x :: v, k :: p, [], fr, _, _, hq, _ => by simp at hq
 | x :: v, k :: p, c :: q, fr, hd, hp, hq, h => by
   have hx : w[fr]? = some x := by have := congrArg (fun l : List WantS => l[0]?) hd; simpa using this
   obtain ⟨h1, h2, h3⟩ := zk0 (o := o) (w := w) (v := v) (p := p) (q := q) (fr := fr + 1) (by rw [← List.drop_drop (i := 1), hd]; rfl) (by simpa using hp) (by simpa using hq) fun i k c hk hc => by
    have := h (i + 1) k c (by simpa using hk) (by simpa using hc)
    rwa [show fr + 1 + i = fr + (i + 1) by omega]
   have h0 := h 0 k c rfl rfl
   rw [Nat.add_zero] at h0
   rw [zbx, zbL, gvR, zcE, zc7, h1, h2, h3]
   rcases h0 with ⟨a1, a2⟩ | ⟨a1, a2, a3, y, hy, hk⟩
   ·have hk : ¬ 0 ≤ k := by omega
    simp only [if_neg hk, if_pos a2, if_pos a2.symm]
    exact ⟨trivial, trivial, trivial⟩
   ·rw [hx] at hy; cases hy
    have e : x.For.getD k.toNat [] = zbz w c := by rw [List.getD_eq_getElem?_getD, hk]; rfl
    have a2' : ¬ fr = c := fun e => a2 e.symm
    simp only [if_pos a1, if_neg a2, if_neg a2', e, zcu hx, List.map_cons]
    exact ⟨trivial, trivial, trivial⟩
theorem zoC {o : List OwnerS} {w : List WantS} {p : List Int} {q : List Nat} (h : PickWay w p q) : zbx w p = (zcE 0 q).map (fun z => zbz w z.1) ∧ zbL w p = (zcE 0 q).map (fun z => zbz w z.2) ∧ gvR o w p = zc7 o w 0 q :=
 zk0 (fr := 0) rfl h.lp h.lq fun i k c hk hc => by rw [Nat.zero_add]; exact h.at' i k c hk hc
theorem zpT {a b : Str} (h : bytesLess a b = true) : SLt a b := by
 rw [zmf, decide_eq_true_iff] at h
 exact ⟨List.le_of_lt h, fun e => by rw [e] at h; exact List.lt_irrefl _ h⟩
theorem znH {w : List WantS} (hs : SortedS (w.map (·.Player))) {q : List Nat} (hq : q.length = w.length) : ((zcE 0 q).map fun z => zbz w z.1).Pairwise SLt := by
 have h := (zkh (q := q) (fr := 0)).1
 rw [List.pairwise_map] at h ⊢
 refine h.imp_of_mem fun {a b} ha hb hab => zpT ?_
 obtain ⟨i, h1, h2, _⟩ := zcj.1 (show (a.1, a.2) ∈ zcE 0 q from ha)
 obtain ⟨j, g1, g2, _⟩ := zcj.1 (show (b.1, b.2) ∈ zcE 0 q from hb)
 have hi := zD h2
 have hj := zD g2
 obtain ⟨x, hx⟩ : ∃ x, w[a.1]? = some x := ⟨_, List.getElem?_eq_getElem (by omega)⟩
 obtain ⟨y, hy⟩ : ∃ x, w[b.1]? = some x := ⟨_, List.getElem?_eq_getElem (by omega)⟩
 rw [zcu hx, zcu hy]
 exact hs.get hab (by rw [List.getElem?_map, hx]; rfl) (by rw [List.getElem?_map, hy]; rfl)
theorem zoz {l : List Str} (h : l.Pairwise SLt) : l.Nodup := h.imp fun {a b} hab => hab.2
/-- A choice holds just where nobody is got by two. -/
theorem ziv {w : List WantS} (hs : SortedS (w.map (·.Player))) {p : List Int} {q : List Nat} (h : PickWay w p q) (hlt : ∀ c ∈ q, c < w.length) : zbx w p = zbR (zbL w p) ↔ q.Nodup := by
 obtain ⟨e1, e2, _⟩ := zoC (o := []) h
 have hsd := znH hs h.lq
 constructor
 ·intro hv
  have hper : (zbL w p).Perm (zbx w p) := by rw [hv]; exact (List.mergeSort_perm _ _).symm
  have hgn : (zbL w p).Nodup := hper.nodup_iff.2 (by rw [e1]; exact zoz hsd)
  have key : ∀ (i j : Nat) (c : Nat), q[i]? = some c → q[j]? = some c → i = j := by
   intro i j c hi hj
   have hcl := hlt c (List.mem_of_getElem? hi)
   have hil : i < w.length := by have := zD hi; rw [h.lq] at this; exact this
   have hjl : j < w.length := by have := zD hj; rw [h.lq] at this; exact this
   have one : ∀ (a b : Nat), a < w.length → q[a]? = some a → q[b]? = some a → a = b := by
    intro a b ha hqa hqb
    refine Classical.byContradiction fun hab => ?_
    have hm : zbz w a ∈ zbL w p := by rw [e2]; exact List.mem_map.2 ⟨(b, a), zcj.2 ⟨b, by omega, hqb, hab⟩, rfl⟩
    rw [hper.mem_iff, e1] at hm
    obtain ⟨⟨i', c'⟩, hz, he⟩ := List.mem_map.1 hm
    obtain ⟨j', g1, g2, g3⟩ := zcj.1 hz
    have hil' := zD g2
    rw [h.lq] at hil'
    have := zhz hs (show i' < w.length by omega) ha he
    subst this
    have : j' = i' := by omega
    subst this
    rw [hqa] at g2
    cases g2
    exact g3 rfl
   by_cases hci : c = i
   ·subst hci; exact one c j hil hi hj
   by_cases hcj : c = j
   ·subst hcj; exact (one c i hjl hj hi).symm
   refine Classical.byContradiction fun hij => ?_
   have m1 : (i, c) ∈ zcE 0 q := zcj.2 ⟨i, by omega, hi, hci⟩
   have m2 : (j, c) ∈ zcE 0 q := zcj.2 ⟨j, by omega, hj, hcj⟩
   obtain ⟨a, ha⟩ := List.getElem?_of_mem m1
   obtain ⟨b, hb⟩ := List.getElem?_of_mem m2
   rw [e2] at hgn
   have := zej hgn (a := zbz w c) (by rw [List.getElem?_map, ha]; rfl) (show _ = _ by rw [List.getElem?_map, hb]; rfl)
   subst this
   rw [ha] at hb
   cases hb
   exact hij rfl
  refine List.pairwise_iff_getElem.2 fun i j hi hj hij e => ?_
  have := key i j q[i] (List.getElem?_eq_getElem hi) (by rw [e]; exact List.getElem?_eq_getElem hj)
  omega
 ·intro hq
  have all : ∀ i, i < w.length → i ∈ q := by
   intro i hi
   refine Classical.byContradiction fun hn => ?_
   have := zgI (l := i :: q) (m := List.range w.length) (List.nodup_cons.2 ⟨hn, hq⟩) fun x hx => by
    rcases List.mem_cons.1 hx with e | hx
    ·rw [e]; exact List.mem_range.2 hi
    ·exact List.mem_range.2 (hlt x hx)
   rw [List.length_cons, List.length_range, h.lq] at this
   omega
  have hn2 : ((zcE 0 q).map fun z => zbz w z.2).Nodup := by
   have h0 := (zkh (q := q) (fr := 0)).1
   rw [List.pairwise_map] at h0
   refine List.pairwise_map.2 (h0.imp_of_mem fun {a b} ha hb hab he => ?_)
   obtain ⟨i, h1, h2, _⟩ := zcj.1 (show (a.1, a.2) ∈ zcE 0 q from ha)
   obtain ⟨j, g1, g2, _⟩ := zcj.1 (show (b.1, b.2) ∈ zcE 0 q from hb)
   have := zhz hs (hlt _ (List.mem_of_getElem? h2)) (hlt _ (List.mem_of_getElem? g2)) he
   rw [this] at h2
   have := zej hq h2 g2
   omega
  rw [e1]
  refine znD hsd (zlQ (by rw [e2]; exact hn2)) fun s => ?_
  rw [show zbR (zbL w p) = (zbL w p).mergeSort fun x y => decide (x ≤ y) from rfl, (List.mergeSort_perm _ _).mem_iff, e2, List.mem_map, List.mem_map]
  constructor
  ·rintro ⟨⟨i, c⟩, hz, rfl⟩
   obtain ⟨j, h1, h2, h3⟩ := zcj.1 hz
   have hil := zD h2
   rw [h.lq] at hil
   obtain ⟨b, hb⟩ := List.getElem?_of_mem (all i (by omega))
   refine ⟨(b, i), zcj.2 ⟨b, by omega, hb, fun e => ?_⟩, rfl⟩
   have e' : i = b := e
   rw [← e', show i = j by omega, h2] at hb
   simp at hb
   omega
  ·rintro ⟨⟨i, c⟩, hz, rfl⟩
   obtain ⟨j, h1, h2, h3⟩ := zcj.1 hz
   have hcl := hlt c (List.mem_of_getElem? h2)
   obtain ⟨d, hd⟩ : ∃ d, q[c]? = some d := ⟨_, List.getElem?_eq_getElem (by rw [h.lq]; exact hcl)⟩
   refine ⟨(c, d), zcj.2 ⟨c, by omega, hd, fun e => ?_⟩, rfl⟩
   have e' : d = c := e
   rw [e'] at hd
   have := zej hq h2 hd
   omega
end
section
open Op
theorem zpg : ∀ {w : List WantS} {p : List Int} {i : Nat} {x : WantS} {k : Int}, w[i]? = some x → p[i]? = some k → 0 ≤ k → x.For.getD k.toNat [] ∈ zbL w p
 | [], _, _, _, _, h, _, _ => by simp at h
 | _ :: _, [], _, _, _, _, h, _ => by simp at h
 | y :: w, a :: p, 0, x, k, h1, h2, h => by
   simp at h1 h2; subst h1 h2
   rw [zbL, if_pos h]; exact List.mem_cons_self
 | y :: w, a :: p, i + 1, x, k, h1, h2, h => by
   have := zpg (w := w) (p := p) (i := i) (by simpa using h1) (by simpa using h2) h
   rw [zbL]
   split
   ·exact List.mem_cons_of_mem _ this
   ·exact this
theorem zhL : ∀ {w : List WantS} {p : List Int} {s : Str}, s ∈ zbx w p → s ∈ w.map (·.Player)
 | [], _, _, h => by simp [zbx] at h
 | _ :: _, [], _, h => by simp [zbx] at h
 | x :: w, k :: p, s, h => by
   rw [zbx] at h
   split at h
   ·rcases List.mem_cons.1 h with e | h
    ·rw [e]; simp
    ·exact List.mem_cons_of_mem _ (zhL h)
   ·exact List.mem_cons_of_mem _ (zhL h)
theorem zkm {α : Type} {P : Nat → α → Prop} : ∀ n : Nat, (∀ i, i < n → ∃ c, P i c) → ∃ q : List α, q.length = n ∧ ∀ (i : Nat) (c : α), q[i]? = some c → P i c
 | 0, _ => ⟨[], rfl, fun i c h => by simp at h⟩
 | n + 1, h => by
   obtain ⟨q, h1, h2⟩ := zkm n fun i hi => h i (by omega)
   obtain ⟨c, hc⟩ := h n (by omega)
   refine ⟨q ++ [c], by simp [h1], fun i d hd => ?_⟩
   rcases Nat.lt_or_ge i q.length with hi | hi
   ·rw [List.getElem?_append_left hi] at hd; exact h2 i d hd
   ·rw [List.getElem?_append_right hi] at hd
    have := zD hd
    simp at this
    have e : i = n := by omega
    subst e
    rw [show i - q.length = 0 by omega] at hd
    simp at hd
    rw [← hd]; exact hc
theorem zoY {can : List (List Nat)} : ∀ {q : List Nat} {fr : Nat} {g : List Nat}, (∀ (i c : Nat), q[i]? = some c → c ∈ (fr + i) :: can.getD (fr + i) []) → (g ++ q).Nodup → zbU (fun _ _ => true) can fr g q
 | [], _, _, _, _ => trivial
 | d :: q, fr, g, h, hn => by
   refine ⟨by simpa using h 0 d rfl, rfl, fun hd => ?_, zoY (fun i c hc => ?_) (by simpa using hn)⟩
   ·exact (List.nodup_append.1 hn).2.2 d hd d (by simp) rfl
   ·have := h (i + 1) c (by simpa using hc)
    rwa [show fr + 1 + i = fr + (i + 1) by omega]
theorem zqN {o : List OwnerS} {w : List WantS} (hw : WantsOk o w) {i : Nat} {k : Int} {c : Nat} (hi : i < w.length) (h : zgo w i k c) : c ∈ i :: (zbu w).getD i [] := by
 rcases h with ⟨_, h⟩ | ⟨_, _, hc, x, hx, hk⟩
 ·rw [h]; simp
 ·refine List.mem_cons_of_mem _ ?_
  rw [zfW hx, zem hw.srt]
  obtain ⟨y, hy⟩ : ∃ x, w[c]? = some x := ⟨_, List.getElem?_eq_getElem hc⟩
  exact ⟨_, List.mem_of_getElem? hk, y, hy, (zcu hy).symm⟩
theorem zq5 {o : List OwnerS} {w : List WantS} (hw : WantsOk o w) {i : Nat} {x : WantS} (hx : w[i]? = some x) : x.Player ∉ x.For := fun h => (hw.ftm x (List.mem_of_getElem? hx) _ h).2 rfl
theorem zmY {o : List OwnerS} {w : List WantS} (hw : WantsOk o w) {p : List Int} (hp : zdk w p) (hl : p.length = w.length) (hv : zbx w p = zbR (zbL w p)) : ∃ q, PickWay w p q ∧ zdo (zbu w) q := by
 obtain ⟨q, h1, h2⟩ := zkm (P := fun i c => i < w.length ∧ c < w.length ∧ ∀ k, p[i]? = some k → zgo w i k c) w.length fun i hi => by
  obtain ⟨x, hx⟩ : ∃ x, w[i]? = some x := ⟨_, List.getElem?_eq_getElem hi⟩
  obtain ⟨k, hk⟩ : ∃ k, p[i]? = some k := ⟨_, List.getElem?_eq_getElem (by omega)⟩
  have hkb := hp.2 i k hk
  rw [List.getD_eq_getElem?_getD, hx] at hkb
  replace hkb : -1 ≤ k ∧ k < (x.For.length : Int) := hkb
  by_cases h0 : 0 ≤ k
  ·have hin := zpg hx hk h0
   have hn : x.For.getD k.toNat [] ∈ w.map (·.Player) := by
    refine zhL (p := p) ?_
    rw [hv]; exact (List.mergeSort_perm _ _).mem_iff.2 hin
   obtain ⟨y, hy, he⟩ := List.mem_map.1 hn
   obtain ⟨c, hc⟩ := List.getElem?_of_mem hy
   have hFk : x.For[k.toNat]? = some (x.For.getD k.toNat []) := getD_some (by omega)
   refine ⟨c, hi, zD hc, fun k' hk' => ?_⟩
   rw [hk] at hk'; cases hk'
   refine .inr ⟨h0, fun e => ?_, zD hc, x, hx, ?_⟩
   ·subst e
    rw [hx] at hc; cases hc
    exact zq5 hw hx (by rw [he]; exact List.mem_of_getElem? hFk)
   ·rw [hFk, zcu hc, he]
  ·refine ⟨i, hi, hi, fun k' hk' => ?_⟩
   rw [hk] at hk'; cases hk'
   exact .inl ⟨by omega, rfl⟩
 have hpw : PickWay w p q := ⟨hl, h1, fun i k c hk hc => (h2 i c hc).2.2 k hk⟩
 refine ⟨q, hpw, zoY (fun i c hc => ?_) ?_, by rw [h1, zdq]⟩
 ·rw [Nat.zero_add]
  have := h2 i c hc
  obtain ⟨k, hk⟩ : ∃ k, p[i]? = some k := ⟨_, List.getElem?_eq_getElem (by omega)⟩
  exact zqN hw this.1 (this.2.2 k hk)
 ·rw [List.nil_append]
  refine (ziv hw.srt hpw fun c hc => ?_).1 hv
  obtain ⟨i, hi⟩ := List.getElem?_of_mem hc
  exact (h2 i c hi).2.1
theorem zm1 {o : List OwnerS} {w : List WantS} (hw : WantsOk o w) (hl : w.length ≤ 14) {q : List Nat} (hq : zdo (zbu w) q) : ∃ p, PickWay w p q ∧ zdk w p ∧ zbx w p = zbR (zbL w p) := by
 have hlq : q.length = w.length := by rw [hq.2, zdq]
 have hlt : ∀ c ∈ q, c < w.length := fun c hc => by
  have := zil (zfH hw hl) hq.1 (by rw [hq.2]; omega) c hc
  rwa [zdq] at this
 have hnd : q.Nodup := by simpa using zjr (g := []) (by simp) hq.1
 obtain ⟨p, h1, h2⟩ := zkm (P := fun i k => (∀ c, q[i]? = some c → zgo w i k c) ∧ -1 ≤ k ∧ k < ((w.getD i zbQ).For.length : Int)) w.length fun i hi => by
  obtain ⟨x, hx⟩ : ∃ x, w[i]? = some x := ⟨_, List.getElem?_eq_getElem hi⟩
  obtain ⟨c, hc⟩ : ∃ c, q[i]? = some c := ⟨_, List.getElem?_eq_getElem (by omega)⟩
  have hxd : w.getD i zbQ = x := by rw [List.getD_eq_getElem?_getD, hx]; rfl
  rw [hxd]
  by_cases e : c = i
  ·refine ⟨-1, fun c' hc' => ?_, by omega, by omega⟩
   rw [hc] at hc'; cases hc'
   exact .inl ⟨rfl, e⟩
  ·have hm := (zgx hq.1 i c hc).2
   rw [Nat.zero_add] at hm
   rcases List.mem_cons.1 hm with e' | hm
   ·exact absurd e' e
   rw [zfW hx, zem hw.srt] at hm
   obtain ⟨s, hs, y, hy, he⟩ := hm
   obtain ⟨j, hj⟩ := List.getElem?_of_mem hs
   have hjl := zD hj
   refine ⟨(j : Int), fun c' hc' => ?_, by omega, by omega⟩
   rw [hc] at hc'; cases hc'
   refine .inr ⟨by omega, e, zD hy, x, hx, ?_⟩
   rw [Int.toNat_natCast, hj, zcu hy, he]
 have hpw : PickWay w p q := ⟨h1, hlq, fun i k c hk hc => (h2 i k hk).1 c hc⟩
 exact ⟨p, hpw, ⟨by omega, fun i k hk => (h2 i k hk).2⟩, (ziv hw.srt hpw hlt).2 hnd⟩
/-! which one is better -/
theorem ziP : ∀ {p : List Int} {q : List Nat} {fr : Nat}, p.length = q.length → (∀ (i : Nat) (k : Int) (c : Nat), p[i]? = some k → q[i]? = some c → (k < 0 ↔ c = fr + i)) → zbe fr q = (p.length : Int) - (zcB p : Nat)
 | [], [], _, _, _ => rfl
 | [], _ :: _, _, h, _ => by simp at h
 | _ :: _, [], _, h, _ => by simp at h
 | k :: p, c :: q, fr, hl, h => by
   have ih := ziP (p := p) (q := q) (fr := fr + 1) (by simpa using hl) fun i k c hk hc => by
    have := h (i + 1) k c (by simpa using hk) (by simpa using hc)
    rwa [show fr + 1 + i = fr + (i + 1) by omega]
   have h0 := h 0 k c rfl rfl
   rw [Nat.add_zero] at h0
   rw [zbe, ih]
   unfold zcB
   rw [List.countP_cons, List.length_cons]
   by_cases e : c = fr
   ·rw [if_pos e, if_pos (by simpa using h0.2 e)]; omega
   ·rw [if_neg e, if_neg (by simpa using fun q => e (h0.1 q))]; omega
theorem ziT : ∀ {a b : List Int}, (∀ (i : Nat) (x y : Int), a[i]? = some x → b[i]? = some y → (x < 0 ↔ y < 0)) → zgv a b = none
 | [], _, _ => rfl
 | _ :: _, [], _ => rfl
 | x :: a, y :: b, h => by
   have h0 := h 0 x y rfl rfl
   rw [zgv, if_neg (by simp [h0])]
   exact ziT fun i x y h1 h2 => h (i + 1) x y (by simpa using h1) (by simpa using h2)
theorem zlW : ∀ {a b : List Int} {i : Nat} {x y : Int}, a[i]? = some x → b[i]? = some y → ¬ (x < 0 ↔ y < 0) → (∀ (j : Nat) (x y : Int), j < i → a[j]? = some x → b[j]? = some y → (x < 0 ↔ y < 0)) → zgv a b = some (decide (x < 0))
 | [], _, _, _, _, h, _, _, _ => by simp at h
 | _ :: _, [], _, _, _, _, h, _, _ => by simp at h
 | x' :: a, y' :: b, 0, x, y, h1, h2, hn, _ => by
   simp at h1 h2; subst h1 h2
   rw [zgv, if_pos (by simpa using hn)]
 | x' :: a, y' :: b, i + 1, x, y, h1, h2, hn, hj => by
   have h0 := hj 0 x' y' (by omega) rfl rfl
   rw [zgv, if_neg (by simp [h0])]
   exact zlW (by simpa using h1) (by simpa using h2) hn fun j x y hji q1 q2 => hj (j + 1) x y (by omega) (by simpa using q1) (by simpa using q2)
theorem zmh : ∀ {a b : List Int} {i : Nat} {x y : Int}, a.take i = b.take i → a[i]? = some x → b[i]? = some y → x ≠ y → zeK a b = zgs x y
 | [], _, _, _, _, _, h, _, _ => by simp at h
 | _ :: _, [], _, _, _, _, _, h, _ => by simp at h
 | x' :: a, y' :: b, 0, x, y, _, h1, h2, hn => by
   simp at h1 h2; subst h1 h2
   rw [zeK, if_pos]
   unfold zgs
   split
   ·decide
   ·split
    ·decide
    ·exfalso; omega
 | x' :: a, y' :: b, i + 1, x, y, ht, h1, h2, hn => by
   simp only [List.take_succ_cons, List.cons.injEq] at ht
   obtain ⟨e, ht⟩ := ht
   subst e
   rw [zeK, if_neg (by simp [zgs])]
   exact zmh ht (by simpa using h1) (by simpa using h2) hn
theorem zkV {a : Nat} : ∀ {L1 pre post L2 : List Nat}, pre ++ a :: post = L1 ++ a :: L2 → a ∉ L1 → ∀ b ∈ L1, b ∈ pre
 | [], _, _, _, _, _, b, hb => by cases hb
 | c :: L1, [], post, L2, h, hn, b, hb => by
   simp at h
   exact absurd (by rw [h.1]; simp) hn
 | c :: L1, d :: pre, post, L2, h, hn, b, hb => by
   simp only [List.cons_append, List.cons.injEq] at h
   obtain ⟨e, h⟩ := h
   rcases List.mem_cons.1 hb with q | hb
   ·rw [q, e]; simp
   ·exact List.mem_cons_of_mem _ (zkV h (fun q => hn (List.mem_cons_of_mem _ q)) b hb)
theorem znE {o : List OwnerS} {w : List WantS} (hw : WantsOk o w) (hl : w.length ≤ 14) {p P : List Int} {q : List Nat} (hP : PickWay w P (zaO (zbu w))) (hp : PickWay w p q) (hq : zdo (zbu w) q) (hne : p ≠ P) : zcm P p = true ∧ zcm p P = false := by
 have hqr : q ≠ zaO (zbu w) := fun e => hne (zqR hw hp (by rw [e]; exact hP))
 have hcP : zbe 0 (zaO (zbu w)) = (P.length : Int) - (zcB P : Nat) := ziP (by rw [hP.lp, hP.lq]) fun i k c h1 h2 => by rw [Nat.zero_add]; exact zfB (hP.at' i k c h1 h2)
 have hcp : zbe 0 q = (p.length : Int) - (zcB p : Nat) := ziP (by rw [hp.lp, hp.lq]) fun i k c h1 h2 => by rw [Nat.zero_add]; exact zfB (hp.at' i k c h1 h2)
 have lpP : p.length = P.length := by rw [hp.lp, hP.lp]
 have at1 : ∀ (i : Nat) (k : Int), P[i]? = some k → ∃ c, (zaO (zbu w))[i]? = some c ∧ zgo w i k c := fun i k hk => by
  obtain ⟨c, hc⟩ : ∃ c, (zaO (zbu w))[i]? = some c := ⟨_, List.getElem?_eq_getElem (by have := zD hk; rw [hP.lp] at this; rw [hP.lq]; exact this)⟩
  exact ⟨c, hc, hP.at' i k c hk hc⟩
 have at2 : ∀ (i : Nat) (k : Int), p[i]? = some k → ∃ c, q[i]? = some c ∧ zgo w i k c := fun i k hk => by
  obtain ⟨c, hc⟩ : ∃ c, q[i]? = some c := ⟨_, List.getElem?_eq_getElem (by have := zD hk; rw [hp.lp] at this; rw [hp.lq]; exact this)⟩
  exact ⟨c, hc, hp.at' i k c hk hc⟩
 have sg : ∀ (j : Nat) (x y : Int), ((zaO (zbu w))[j]? = some j ↔ q[j]? = some j) → P[j]? = some x → p[j]? = some y → (x < 0 ↔ y < 0) := fun j x y hj hx hy => by
  obtain ⟨c, c1, c2⟩ := at1 j x hx
  obtain ⟨d, d1, d2⟩ := at2 j y hy
  rw [zfB c2, zfB d2]
  rw [c1, d1] at hj
  simpa using hj
 rcases (zjq (zfH hw hl)).2 q hq hqr with h | ⟨he, h⟩
 ·have hs : zcB P < zcB p := by omega
  unfold zcm
  rw [if_pos (by omega), if_pos (by omega), decide_eq_true_iff, decide_eq_false_iff_not]
  omega
 have hs : zcB P = zcB p := by omega
 unfold zcm
 rw [if_neg (by omega), if_neg (by omega)]
 rcases h with ⟨i, i1, i2, i3, i4⟩ | ⟨hall, j, a, b, j1, j2, j3, j4, j5, pre, post, j6, j7⟩
 ·rw [zdq] at i3
  obtain ⟨x, hx⟩ : ∃ x, P[i]? = some x := ⟨_, List.getElem?_eq_getElem (by rw [hP.lp]; exact i3)⟩
  obtain ⟨y, hy⟩ : ∃ x, p[i]? = some x := ⟨_, List.getElem?_eq_getElem (by rw [hp.lp]; exact i3)⟩
  obtain ⟨c, c1, c2⟩ := at1 i x hx
  obtain ⟨d, d1, d2⟩ := at2 i y hy
  have hx0 : x < 0 := (zfB c2).2 (by rw [i1] at c1; simpa using c1.symm)
  have hy0 : ¬ y < 0 := fun e => i2 (by rw [d1, (zfB d2).1 e])
  rw [zlW hx hy (by simp [hx0, hy0]) fun j x y hj h1 h2 => sg j x y (i4 j hj) h1 h2, zlW hy hx (by simp [hx0, hy0]) fun j x y hj h1 h2 => (sg j y x (i4 j hj) h2 h1).symm]
  simp [hx0, hy0]
 ·rw [ziT fun i x y h1 h2 => sg i x y (hall i) h1 h2, ziT fun i x y h1 h2 => (sg i y x (hall i) h2 h1).symm]
  have hjl := zD j2
  rw [hP.lq] at hjl
  obtain ⟨x, hx⟩ : ∃ x, P[j]? = some x := ⟨_, List.getElem?_eq_getElem (by rw [hP.lp]; exact hjl)⟩
  obtain ⟨y, hy⟩ : ∃ x, p[j]? = some x := ⟨_, List.getElem?_eq_getElem (by rw [hp.lp]; exact hjl)⟩
  have rx := hP.at' j x a hx j2
  have ry := hp.at' j y b hy j3
  have hb : b ≠ j := fun e => j5 (by
   have := (hall j).2 (by rw [j3, e])
   rw [j2] at this; simpa using this)
  rcases rx with ⟨_, e⟩ | ⟨x0, _, hal, z, hz, hFx⟩
  ·exact absurd e j5
  rcases ry with ⟨_, e⟩ | ⟨y0, _, hbl, z', hz', hFy⟩
  ·exact absurd e hb
  rw [hz] at hz'; cases hz'
  have hxy : x < y := by
   rcases Int.lt_trichotomy x y with h | h | h
   ·exact h
   ·subst h
    rw [hFx] at hFy
    exact absurd (zhz hw.srt hal hbl (by simpa using hFy)) j4
   ·exfalso
    rw [zfW hz] at j6
    have hxl := zD hFx
    obtain ⟨wa, hwa⟩ : ∃ x, w[a]? = some x := ⟨_, List.getElem?_eq_getElem hal⟩
    obtain ⟨wb, hwb⟩ : ∃ x, w[b]? = some x := ⟨_, List.getElem?_eq_getElem hbl⟩
    have e : zdg w z.For = zdg w (z.For.take x.toNat) ++ a :: zdg w (z.For.drop (x.toNat + 1)) := by
     have e0 : z.For = z.For.take x.toNat ++ zbz w a :: z.For.drop (x.toNat + 1) := by rw [← zK hFx, List.take_append_drop]
     have hfa := (zcG hw.srt (s := zbz w a)).2 ⟨wa, hwa, (zcu hwa).symm⟩
     conv => lhs; rw [e0]
     unfold zdg
     rw [List.filterMap_append, List.filterMap_cons, if_pos (by omega), hfa]
     rfl
    rw [e] at j6
    refine j7 (zkV j6.symm (fun ha => ?_) b ?_)
    ·obtain ⟨s, hs, x', hx', he⟩ := (zem hw.srt).1 ha
     rw [hwa] at hx'; cases hx'
     obtain ⟨m, hm⟩ := List.getElem?_of_mem hs
     have hml := zD hm
     rw [List.length_take] at hml
     rw [List.getElem?_take_of_lt (by omega)] at hm
     rw [zcu hwa, he] at hFx
     have := zej (hw.nd z (List.mem_of_getElem? hz)) hm hFx
     omega
    ·refine (zem hw.srt).2 ⟨zbz w b, ?_, wb, hwb, (zcu hwb).symm⟩
     refine List.mem_of_getElem? (i := y.toNat) ?_
     rw [List.getElem?_take_of_lt (by omega)]
     exact hFy
  have ht : P.take j = p.take j := by
   refine List.ext_getElem? fun i => ?_
   rcases Nat.lt_or_ge i j with hi | hi
   ·rw [List.getElem?_take_of_lt hi, List.getElem?_take_of_lt hi]
    obtain ⟨u, hu⟩ : ∃ x, P[i]? = some x := ⟨_, List.getElem?_eq_getElem (by rw [hP.lp]; omega)⟩
    obtain ⟨v, hv⟩ : ∃ x, p[i]? = some x := ⟨_, List.getElem?_eq_getElem (by rw [hp.lp]; omega)⟩
    obtain ⟨c, c1, c2⟩ := at1 i u hu
    obtain ⟨d, d1, d2⟩ := at2 i v hv
    have hcd := congrArg (fun l : List Nat => l[i]?) j1
    simp only [List.getElem?_take_of_lt hi, c1, d1, Option.some.injEq] at hcd
    rw [hu, hv, zqx hw c2 (by rw [← hcd]; exact d2)]
   ·rw [List.getElem?_take_eq_none hi, List.getElem?_take_eq_none hi]
  rw [zmh ht hx hy (by omega), zmh ht.symm hy hx (by omega)]
  unfold zgs
  rw [if_pos hxy, if_neg (by omega), if_pos hxy]
  exact ⟨rfl, rfl⟩
/-! the best of all -/
theorem zf3 {w : List WantS} {P : List Int} (hv : zbx w P = zbR (zbL w P)) : ∀ {cs : List (List Int)} {best : Option (List Int)}, (∀ q ∈ cs, zbx w q = zbR (zbL w q) → q ≠ P → zcm P q = true ∧ zcm q P = false) → (best = none ∨ best = some P ∨ ∃ q, best = some q ∧ zcm P q = true) → (P ∈ cs ∨ best = some P) → cs.foldl (zdN w) best = some P
 | [], best, _, _, h => by
   rcases h with h | h
   ·cases h
   ·exact h
 | c :: cs, best, hc, hb, h => by
   rw [List.foldl_cons]
   by_cases e : c = P
   ·subst e
    refine zf3 hv (fun q hq => hc q (List.mem_cons_of_mem _ hq)) (.inr (.inl ?_)) (.inr ?_) <;>
    ·rcases hb with rfl | rfl | ⟨q, rfl, hq⟩
     ·exact zeU ⟨hv, rfl⟩
     ·unfold zdN; split <;> rfl
     ·exact zeU ⟨hv, hq⟩
   ·by_cases hbP : best = some P
    ·have hst : zdN w best c = some P := by
      rw [zgw, hbP]
      rintro ⟨h1, h2⟩
      have := (hc c (by simp) h1 e).2
      rw [hbP] at h2
      rw [show zcF c (some P) = zcm c P from rfl, this] at h2
      cases h2
     exact zf3 hv (fun q hq => hc q (List.mem_cons_of_mem _ hq)) (.inr (.inl hst)) (.inr hst)
    ·refine zf3 hv (fun q hq => hc q (List.mem_cons_of_mem _ hq)) ?_ ?_
     ·by_cases h1 : zbx w c = zbR (zbL w c) ∧ zcF c best = true
      ·rw [zeU h1]; exact .inr (.inr ⟨c, rfl, (hc c (by simp) h1.1 e).1⟩)
      ·rw [zgw h1]; exact hb
     ·rcases h with h | h
      ·rcases List.mem_cons.1 h with q | q
       ·exact absurd q.symm e
       ·exact .inl q
      ·exact absurd h hbP
theorem zfm : ∀ {w : List WantS} {p : List Int}, p ∈ zcb w ↔ p.length = w.length ∧ zdk w p
 | [], p => by
   rw [zcb, List.mem_singleton]
   constructor
   ·rintro rfl; exact ⟨rfl, zmp⟩
   ·rintro ⟨h, _⟩; exact List.length_eq_zero_iff.1 h
 | x :: t, p => by
   rw [zcb, List.mem_flatMap]
   constructor
   ·rintro ⟨j, hj, h⟩
    obtain ⟨c, hc, rfl⟩ := List.mem_map.1 h
    obtain ⟨h1, h2⟩ := zfm.1 hc
    have hj := List.mem_range.1 hj
    refine ⟨by simp [h1], by simp [h1], fun i k hk => ?_⟩
    cases i with
    | zero =>
      simp at hk; subst hk
      show _ ∧ _ < (x.For.length : Int)
      omega
    | succ i => exact h2.2 i k (by simpa using hk)
   ·rintro ⟨h1, h2⟩
    cases p with
    | nil => simp at h1
    | cons k c =>
      have h0 := h2.2 0 k rfl
      replace h0 : -1 ≤ k ∧ k < (x.For.length : Int) := h0
      refine ⟨(k + 1).toNat, List.mem_range.2 (by omega), List.mem_map.2 ⟨c, zfm.2 ⟨by simpa using h1, by simp at h1; omega, fun i k' hk' => h2.2 (i + 1) k' (by simpa using hk')⟩, ?_⟩⟩
      show ((((k + 1).toNat : Nat) : Int) - 1) :: c = k :: c
      rw [show (((k + 1).toNat : Nat) : Int) - 1 = k by omega]
theorem zmM {o : List OwnerS} {w : List WantS} (hw : WantsOk o w) (hl : w.length ≤ 14) : ∃ P, zc3 w [] none = some P ∧ zdk w P ∧ gvR o w P = zc7 o w 0 (zaO (zbu w)) := by
 obtain ⟨hf, _⟩ := zjq (zfH hw hl)
 obtain ⟨P, hP, hok, hv⟩ := zm1 hw hl hf
 refine ⟨P, ?_, hok, (zoC hP).2.2⟩
 have e : zc3 w [] none = (zcb w).foldl (zdN w) none := by
  unfold zc3
  rw [List.length_nil, List.drop_zero]
  congr 1
  simp
 rw [e]
 refine zf3 hv (fun q hq hqv hne => ?_) (.inl rfl) (.inl (zfm.2 ⟨hP.lp, hok⟩))
 obtain ⟨h1, h2⟩ := zfm.1 hq
 obtain ⟨r, r1, r2⟩ := zmY hw h2 h1 hqv
 exact znE hw hl hP r1 r2 hne
theorem zo4 {m : MarketS} {o : List OwnerS} {w : List WantS} (h : zaj m o w = 0) (hl : w.length ≤ 14) : zji o w = zeA m o w := by
 obtain ⟨_, hw⟩ := zep h
 obtain ⟨P, h1, _, h2⟩ := zmM hw hl
 rw [zji, zeA, if_pos h, h1, ← h2]
 rfl
end
section
theorem zqM {m : MarketS} (h : zae m = 0) (o : List OwnerS) (z : DealS) : zcd m [z] = zcc m [z] ∧ orI [zbm m o, zcc m [z]] = zct m o z := by
 have h1 : ¬ zae m ≠ 0 := by simp [h]
 exact ⟨by rw [zcc, if_neg h1], rfl⟩
def zcX : MarketS := ⟨[[97], [98]], 1, 0, 345686400000, 0, 2⟩
def zcR : DealS := ⟨[111], [97], 0, 1, [⟨[112], [97], [98]⟩]⟩
theorem zrY : zbR [[97], [98]] = [[97], [98]] := by
 unfold zbR; exact List.mergeSort_of_pairwise (by simp; decide)
theorem zrN : zfn [⟨[112], [97], [98]⟩] = [[97], [98]] := by
 show Lib.compact (zbR [[97], [98]]) = _
 rw [zrY, zhx]; rfl
theorem zoU : zbv zcX zcR = 0 := by
 have h1 : zbc zcX zcR.Gives = 0 := by kernel_rfl
 have h2 : (zfn zcR.Gives).contains zcR.By = true := by show (zfn [⟨[112], [97], [98]⟩]).contains [97] = true; rw [zrN]; rfl
 have h3 : key zcR.Id = true := by kernel_rfl
 have h4 : zcX.Teams.contains zcR.By = true := by kernel_rfl
 have h5 : (out zcR.To 1 345686400000 || out zcR.From 0 (zcR.To - 1)) = false := by kernel_rfl
 unfold zbv
 rw [h1, h2, h3, h4, h5]
 rfl
theorem znP : zae zcX = 0 := by kernel_rfl
theorem zln : zct zcX [⟨[112], [97]⟩] zcR = 0 := by
 have h1 : zbm zcX [⟨[112], [97]⟩] = 0 := by kernel_rfl
 have h2 : zcc zcX [zcR] = 0 := by rw [← (zqM znP [] zcR).1, znU, zoU]
 rw [zct, h1, h2]; rfl
theorem zpp : zgi zcX [⟨[112], [97]⟩] zcR.Gives = true := by kernel_rfl
theorem zre : zhZ zcX [⟨[112], [97]⟩] zcR = [⟨[112], [98]⟩] := by
 rw [(zfG zln zpp).1]; kernel_rfl
theorem zrq : zho zcX [⟨[112], [97]⟩] zcR = 0 := (zfG zln zpp).2
end
section
open Op
/-- A market in which a team may have as zfe as it will. -/
def zdc (m : MarketS) : MarketS := ⟨m.Teams, m.Vetoes, m.Wait, m.Deadline, 0, 60⟩
theorem zoF {m : MarketS} (h : GoodM m) : GoodM (zdc m) := ⟨h.pos, h.len, h.sh⟩
theorem zlP : ∀ {o : List OwnerS} {s : Str}, zaA o s ≠ [] → ∃ x ∈ o, x.Player = s
 | [], s, h => absurd rfl h
 | x :: t, s, h => by
   rw [zaA] at h
   split at h
   ·rename_i e; exact ⟨x, by simp, e⟩
   ·obtain ⟨y, h1, h2⟩ := zlP h
    exact ⟨y, List.mem_cons_of_mem _ h1, h2⟩
theorem znX {m : MarketS} {o : List OwnerS} {w : List WantS} (h : zaj m o w = 0) : ∀ x ∈ w, x.Player ≠ [] := fun x hx e => by
 obtain ⟨h1, hok⟩ := zep h
 obtain ⟨y, hy, he⟩ := zlP (hok.tm x hx)
 unfold zbm at h1
 split at h1
 ·contradiction
 ·have := (zjA h1).2.1 y hy
  rw [zaI, he, e] at this
  have hk : key ([] : Str) = false := by decide
  rw [hk] at this
  simp at this
theorem zpH {m : MarketS} (h : zae m = 0) (o : List OwnerS) (w : List WantS) : orI [zbT m o, zX o w] = zaj m o w := by
 have h1 : ¬ zae m ≠ 0 := by simp [h]
 rw [zaj, zbm, if_neg h1, zpJ]
theorem zpe {m : MarketS} (h : zae m ≠ 0) (o : List OwnerS) (w : List WantS) : zae m = zaj m o w := by
 rw [zaj, zbm, if_pos h, if_pos h]
theorem zp4 {w : List WantS} (hs : SortedS (w.map (·.Player))) {g : List Bool} {out : List (List Str)} (h : RingsR w g out) : g.length = w.length → out.length ≤ zaR g ∧ ∀ x ∈ out, x.length ≤ w.length := by
 induction h with
 | done h h2 => intro _; exact ⟨Nat.zero_le _, by simp⟩
 | more h h2 h3 ih =>
   intro hl
   obtain ⟨i1, i2⟩ := ih (by rw [zeW]; exact h.len)
   have h4 := zig h.len h2
   have h5 := zi1 (by rw [hl, h.len]) h.sub
   refine ⟨by rw [List.length_cons]; omega, fun x hx => ?_⟩
   rcases List.mem_cons.1 hx with e | hx
   ·rw [e]
    have := zml (zc5 hs h)
    rw [zbq] at this
    unfold zdx
    rw [List.length_map]; exact this
   ·exact i2 x hx
theorem zpb {w : List WantS} (hs : SortedS (w.map (·.Player))) : (zd1 w).length ≤ w.length ∧ ∀ x ∈ zd1 w, x.length ≤ w.length := by
 have := zp4 hs (znc w) (by simp)
 rwa [zje] at this
theorem zpc {o : List OwnerS} {w : List WantS} {m : MarketS} (h : zaj m o w = 0) (hl : w.length ≤ 14) : (zeA m o w).length ≤ w.length := by
 obtain ⟨_, hw⟩ := zep h
 rw [zeA, if_pos h, zfc]
 have := zg3 (o := o) (w := w) (l := zaO (zbu w)) (i := 0)
 rw [zno hw hl] at this
 exact this
end
section

end
section

end
section
open Go
/-- The pieces of a string between the places where a byte stands. -/
def spl (c : UInt8) : Str → List Str
 | [] => [[]]
 | b :: l => if b = c then [] :: spl c l else match spl c l with
   | [] => [[b]]
   | x :: r => (b :: x) :: r
theorem zrg (c : UInt8) (s : Str) : spl c s ≠ [] := by
 cases s with
 | nil => simp [spl]
 | cons b l =>
   simp only [spl]
   split
   ·simp
   ·split <;> simp
theorem zp8 {c : UInt8} (s : Str) : ∃ x r, spl c s = x :: r := by
 cases h : spl c s with
 | nil => exact absurd h (zrg c s)
 | cons x r => exact ⟨x, r, rfl⟩
theorem zrj (c : UInt8) (l : Str) : spl c (c :: l) = [] :: spl c l := by simp [spl]
theorem zpm {b c : UInt8} (h : b ≠ c) {l x : Str} {r : List Str} (hl : spl c l = x :: r) : spl c (b :: l) = (b :: x) :: r := by
 simp only [spl, h, if_false, hl]
theorem ziz (c : UInt8) : ∀ (s : Str), ∀ x ∈ spl c s, x.length ≤ s.length
 | [], x, hx => by simp [spl] at hx; subst hx; simp
 | b :: l, x, hx => by
   have ih := ziz c l
   by_cases hb : b = c
   ·subst hb
    rw [zrj] at hx
    rcases List.mem_cons.1 hx with rfl | hx
    ·simp
    ·have := ih x hx; simp only [List.length_cons]; omega
   ·obtain ⟨y, r, hy⟩ := zp8 (c := c) l
    rw [zpm hb hy] at hx
    rcases List.mem_cons.1 hx with rfl | hx
    ·have := ih y (by rw [hy]; simp); simp only [List.length_cons]; omega
    ·have := ih x (by rw [hy]; simp [hx]); simp only [List.length_cons]; omega
end
section

end
section

end
section
theorem zh2 {line : Str} (j : Nat) : ((spl 32 line).getD j []).length ≤ line.length := by
 rw [List.getD_eq_getElem?_getD]
 cases h : (spl 32 line)[j]? with
 | none => simp
 | some x => exact ziz 32 line x (List.mem_of_getElem? h)
end
section

end
section

end
section

end
section

end
section
section
variable {α : Type} (rB : Str → Bool) (rP : Str → α) (F : List α → Int) (W : α → List Str) (enc : α → HVal) (sz : Nat)
end
end
section
/-! what the next line is -/
def zrx : Str := [111, 102, 102, 101, 114]
def givS : Str := [103, 105, 118, 101]
def zoN (line : Str) : Bool := (spl 32 line).all fun w => !w.isEmpty
def odB (line : Str) : Bool := zoN line && ((spl 32 line).getD 0 [] == zrx) && ((((spl 32 line).length : Nat) : Int) == 5) && ((spl 32 line).drop 3).all (numB · 15)
def gvB (line : Str) : Bool := zoN line && ((spl 32 line).getD 0 [] == givS) && ((((spl 32 line).length : Nat) : Int) == 4)
def odP (line : Str) : DealS := ⟨(spl 32 line).getD 1 [], (spl 32 line).getD 2 [], znL ((spl 32 line).getD 3 []) 15, znL ((spl 32 line).getD 4 []) 15, []⟩
def gvP (line : Str) : GiveS := ⟨(spl 32 line).getD 1 [], (spl 32 line).getD 2 [], (spl 32 line).getD 3 []⟩
def addG (d : DealS) (g : GiveS) : DealS := { d with Gives := d.Gives ++ [g] }
def zns (ds : List DealS) (g : GiveS) : List DealS := ds.set (ds.length - 1) (addG (ds.getD (ds.length - 1) zcf) g)
def zqi (ds : List DealS) (line : Str) : List DealS := if odB line then ds ++ [odP line] else if gvB line then zns ds (gvP line) else ds
end
section

end
section

end
section

end
section

end
section
structure GdN (n k : Nat) (ds : List DealS) : Prop where
 len : ds.length ≤ k
 all : ∀ x ∈ ds, x.Id.length ≤ n ∧ x.Gives.length ≤ k ∧ ∀ g ∈ x.Gives, g.Player.length ≤ n
theorem GdN.step {n k : Nat} {ds : List DealS} {s : Str} (h : GdN n k ds) (hs : s.length ≤ n) : GdN n (k + 1) (zqi ds s) := by
 obtain ⟨h1, h2⟩ := h
 have h2' : ∀ x ∈ ds, x.Id.length ≤ n ∧ x.Gives.length ≤ k + 1 ∧ ∀ g ∈ x.Gives, g.Player.length ≤ n := fun x hx => ⟨(h2 x hx).1, by have := (h2 x hx).2.1; omega, (h2 x hx).2.2⟩
 unfold zqi
 split
 ·refine ⟨by simp; omega, fun x hx => ?_⟩
  rcases List.mem_append.1 hx with hx | hx
  ·exact h2' x hx
  ·rw [List.mem_singleton.1 hx]
   exact ⟨Nat.le_trans (zh2 1) hs, Nat.zero_le _, fun g hg => by cases hg⟩
 split
 ·unfold zns
  refine ⟨by simp; omega, fun x hx => ?_⟩
  rcases List.mem_or_eq_of_mem_set hx with hx | hx
  ·exact h2' x hx
  ·subst hx
   have hy : (ds.getD (ds.length - 1) zcf).Id.length ≤ n ∧ (ds.getD (ds.length - 1) zcf).Gives.length ≤ k ∧ ∀ g ∈ (ds.getD (ds.length - 1) zcf).Gives, g.Player.length ≤ n := by
    rw [List.getD_eq_getElem?_getD]
    cases hq : ds[ds.length - 1]? with
    | none => exact ⟨Nat.zero_le _, Nat.zero_le _, fun g hg => by cases hg⟩
    | some y => exact h2 y (List.mem_of_getElem? hq)
   refine ⟨hy.1, by show ((_ : List GiveS) ++ [_]).length ≤ _; rw [List.length_append]; have := hy.2.1; simp only [List.length_cons, List.length_nil]; omega, fun g hg => ?_⟩
   rcases List.mem_append.1 hg with hg | hg
   ·exact hy.2.2 g hg
   ·rw [List.mem_singleton.1 hg]; exact Nat.le_trans (zh2 1) hs
 ·exact ⟨by omega, h2'⟩
end
end Go.HL
section
namespace Go.HL
theorem zfF : ∀ l : List GiveS, zcg za8 l l = true
 | [] => rfl
 | a :: r => by simp [zcg, zgu, zfF r, zl, zgg, eqH]
end Go.HL
namespace Go.HL
end Go.HL
namespace Go.HL
end Go.HL
end
namespace Go.Proofs.YtcihcbnjfclkbaaGreatDoor
set_option maxRecDepth 100000
set_option linter.unusedVariables false
set_option linter.unusedSimpArgs false
section
open Go.HL
set_option linter.unusedSimpArgs false
end
section
open Go.HL

end
section
open Go.HL
set_option linter.unusedSimpArgs false
end
section
open Go.HL
set_option linter.unusedSimpArgs false
end
section
open Go.HL
/-- slices.Equal[[]benchwarmer/api.Owner,benchwarmer/api.Owner] -/
theorem zdV [Tracks] {l m : List OwnerS} (hl : l.length ≤ 1000000) : zaa Tryz.prog 57 [zbd l, zbd m] (.bool (zcg zas l m)) := by
 refine Con.of_body Tryz.func57 rfl Tryz.ntmps57 rfl rfl ?_
 refine zb ?_
 refine das rfl ?_
 refine dn ?_
 refine zf ?_
 refine zb ?_
 refine dmv rfl ?_
 refine dq (zB zat rfl) ?_
 refine dmv rfl ?_
 refine dq (zB zat rfl) ?_
 refine dq (za6 rfl rfl) ?_
 refine dn ?_
 refine zj rfl (fun h1 => ?_) (fun h2 => ?_)
 ·try simp at h1
  refine zb ?_
  refine das rfl ?_
  refine dn ?_
  refine zo ?_
  refine zC rfl ?_
  show HVal.bool _ = _
  first | (congr 1; symm; exact zdJ (by omega)) | (rw [hg.2, zcg, show zgu zas x y = false from h5]; rfl) | (rw [hg.2, z6 (Nat.le_of_eq hg.1.symm)]; rfl)
 ·try simp at h2
  refine zk ?_
  refine ze ?_
  refine zf ?_
  refine zb ?_
  refine dmv rfl ?_
  refine dq (zB zat rfl) ?_
  refine dmv rfl ?_
  refine dn ?_
  refine zm ?_
  refine z8 [4, 5, 13, 14, 15, 16, 17, 18, 19, 20, 21, 22, 23, 24, 25] (fun (k : Nat) => [(13, .int .i64 k)]) (fun (k : Nat) => []) (fun (k : Nat) => k ≤ l.length ∧ (l.length = m.length ∧ zcg zas l m = zcg zas (l.drop k) (m.drop k))) (fun (k : Nat) => l.length - k) (0) ?_ ?_ ?_ ?_
  ·refine ⟨Nat.zero_le _, ?_, rfl⟩
   omega
  ·exact ⟨rfl, trivial⟩
  ·exact List.Perm.refl _
  ·intro k hinv
   obtain ⟨hk, hg⟩ := hinv
   refine zb ?_
   refine dq (zJ rfl rfl) ?_
   refine dn ?_
   refine zf ?_
   refine zj rfl (fun h3 => ?_) (fun h4 => ?_)
   ·try simp at h3
    obtain ⟨x, hx⟩ : ∃ x, l[k]? = some x := ⟨_, List.getElem?_eq_getElem h3⟩
    have hdx := zK hx
    obtain ⟨y, hy⟩ : ∃ y, m[k]? = some y := ⟨_, List.getElem?_eq_getElem (by omega)⟩
    rw [hdx, zK hy] at hg
    refine zk ?_
    refine ze ?_
    refine zf ?_
    refine zm ?_
    refine zb ?_
    refine dmv rfl ?_
    refine das rfl ?_
    refine dn ?_
    refine za7 (fun _ => True) [] mixed ?_
    refine ahp 0 rfl rfl (by kernel_rfl) (by kernel_rfl) (zd rfl) ?_
    refine ahp 1 rfl rfl (by kernel_rfl) (by kernel_rfl) (zd rfl) ?_
    refine ahp 2 rfl rfl (by kernel_rfl) (by kernel_rfl) (zH zat zZ rfl rfl rfl (by first | assumption | simp_all)) ?_
    refine ahp 3 rfl rfl (by kernel_rfl) (by kernel_rfl) (zY zZ rfl rfl rfl rfl) ?_
    refine ahp 4 rfl rfl (by kernel_rfl) (by kernel_rfl) (zd rfl) ?_
    refine ahp 5 rfl rfl (by kernel_rfl) (by kernel_rfl) (zd rfl) ?_
    refine ahp 6 rfl rfl (by kernel_rfl) (by kernel_rfl) (zH zat zZ rfl rfl rfl (by first | assumption | simp_all)) ?_
    refine ahp 7 rfl rfl (by kernel_rfl) (by kernel_rfl) (zY zZ rfl rfl rfl rfl) ?_
    refine ahp 8 rfl rfl (by kernel_rfl) (by kernel_rfl) (zkU zZ eq65 rfl rfl ⟨rfl, ⟨_, _, _, _, ty9, rfl⟩, ⟨rfl, ⟨_, _, _, _, ty9, rfl⟩, trivial⟩⟩) ?_
    refine ahz (by kernel_rfl) ?_
    refine zj rfl (fun h5 => ?_) (fun h6 => ?_)
    ·try simp at h5
     refine zb ?_
     refine das rfl ?_
     refine dn ?_
     refine zo ?_
     refine zC rfl ?_
     show HVal.bool _ = _
     first | (congr 1; symm; exact zdJ (by omega)) | (rw [hg.2, zcg, show zgu zas x y = false from h5]; rfl) | (rw [hg.2, z6 (Nat.le_of_eq hg.1.symm)]; rfl)
    ·try simp at h6
     refine zk ?_
     refine zz ?_
     refine ze ?_
     refine zy ?_
     refine dq (zv rfl rfl (by omega) (by omega)) ?_
     refine dmv rfl ?_
     refine dn ?_
     refine ⟨k + 1, ?_, ?_, ⟨rfl, trivial⟩, (by repeat (first | exact zp | refine zu rfl ?_ | refine zq rfl rfl ?_)), List.Perm.refl _⟩
     ·refine ⟨by omega, hg.1, ?_⟩
      rw [hg.2, zcg, show zgu zas x y = true from h6]; rfl
     ·dsimp only; omega
   ·try simp at h4
    have hnk : l.length ≤ k := by omega
    obtain rfl : k = l.length := by omega
    rw [z6 (Nat.le_refl _)] at hg
    refine zN ?_
    refine zS ?_
    refine zag ?_
    refine zE ?_
    refine ze ?_
    refine zb ?_
    refine das rfl ?_
    refine dn ?_
    refine zo ?_
    refine zC rfl ?_
    show HVal.bool _ = _
    first | (congr 1; symm; exact zdJ (by omega)) | (rw [hg.2, zcg, show zgu zas x y = false from h5]; rfl) | (rw [hg.2, z6 (Nat.le_of_eq hg.1.symm)]; rfl)

/-- slices.Equal[[]benchwarmer/api.Give,benchwarmer/api.Give] -/
theorem zec [Tracks] {l m : List GiveS} (hl : l.length ≤ 1000000) : zaa Tryz.prog 19 [zgD l, zgD m] (.bool (zcg za8 l m)) := by
 refine Con.of_body Tryz.func19 rfl Tryz.ntmps19 rfl rfl ?_
 refine zb ?_
 refine das rfl ?_
 refine dn ?_
 refine zf ?_
 refine zb ?_
 refine dmv rfl ?_
 refine dq (zB zbg rfl) ?_
 refine dmv rfl ?_
 refine dq (zB zbg rfl) ?_
 refine dq (za6 rfl rfl) ?_
 refine dn ?_
 refine zj rfl (fun h1 => ?_) (fun h2 => ?_)
 ·try simp at h1
  refine zb ?_
  refine das rfl ?_
  refine dn ?_
  refine zo ?_
  refine zC rfl ?_
  show HVal.bool _ = _
  first | (congr 1; symm; exact zdJ (by omega)) | (rw [hg.2, zcg, show zgu za8 x y = false from h5]; rfl) | (rw [hg.2, z6 (Nat.le_of_eq hg.1.symm)]; rfl)
 ·try simp at h2
  refine zk ?_
  refine ze ?_
  refine zf ?_
  refine zb ?_
  refine dmv rfl ?_
  refine dq (zB zbg rfl) ?_
  refine dmv rfl ?_
  refine dn ?_
  refine zm ?_
  refine z8 [4, 5, 13, 14, 15, 16, 17, 18, 19, 20, 21, 22, 23, 24, 25] (fun (k : Nat) => [(13, .int .i64 k)]) (fun (k : Nat) => []) (fun (k : Nat) => k ≤ l.length ∧ (l.length = m.length ∧ zcg za8 l m = zcg za8 (l.drop k) (m.drop k))) (fun (k : Nat) => l.length - k) (0) ?_ ?_ ?_ ?_
  ·refine ⟨Nat.zero_le _, ?_, rfl⟩
   omega
  ·exact ⟨rfl, trivial⟩
  ·exact List.Perm.refl _
  ·intro k hinv
   obtain ⟨hk, hg⟩ := hinv
   refine zb ?_
   refine dq (zJ rfl rfl) ?_
   refine dn ?_
   refine zf ?_
   refine zj rfl (fun h3 => ?_) (fun h4 => ?_)
   ·try simp at h3
    obtain ⟨x, hx⟩ : ∃ x, l[k]? = some x := ⟨_, List.getElem?_eq_getElem h3⟩
    have hdx := zK hx
    obtain ⟨y, hy⟩ : ∃ y, m[k]? = some y := ⟨_, List.getElem?_eq_getElem (by omega)⟩
    rw [hdx, zK hy] at hg
    refine zk ?_
    refine ze ?_
    refine zf ?_
    refine zm ?_
    refine zb ?_
    refine dmv rfl ?_
    refine das rfl ?_
    refine dn ?_
    refine za7 (fun _ => True) [] mixed ?_
    refine ahp 0 rfl rfl (by kernel_rfl) (by kernel_rfl) (zd rfl) ?_
    refine ahp 1 rfl rfl (by kernel_rfl) (by kernel_rfl) (zd rfl) ?_
    refine ahp 2 rfl rfl (by kernel_rfl) (by kernel_rfl) (zH zbg zaz rfl rfl rfl (by first | assumption | simp_all)) ?_
    refine ahp 3 rfl rfl (by kernel_rfl) (by kernel_rfl) (zY zaz rfl rfl rfl rfl) ?_
    refine ahp 4 rfl rfl (by kernel_rfl) (by kernel_rfl) (zd rfl) ?_
    refine ahp 5 rfl rfl (by kernel_rfl) (by kernel_rfl) (zd rfl) ?_
    refine ahp 6 rfl rfl (by kernel_rfl) (by kernel_rfl) (zH zbg zaz rfl rfl rfl (by first | assumption | simp_all)) ?_
    refine ahp 7 rfl rfl (by kernel_rfl) (by kernel_rfl) (zY zaz rfl rfl rfl rfl) ?_
    refine ahp 8 rfl rfl (by kernel_rfl) (by kernel_rfl) (zkU zaz eq52 rfl rfl ⟨rfl, ⟨_, _, _, _, ty9, rfl⟩, ⟨rfl, ⟨_, _, _, _, ty9, rfl⟩, ⟨rfl, ⟨_, _, _, _, ty9, rfl⟩, trivial⟩⟩⟩) ?_
    refine ahz (by kernel_rfl) ?_
    refine zj rfl (fun h5 => ?_) (fun h6 => ?_)
    ·try simp at h5
     refine zb ?_
     refine das rfl ?_
     refine dn ?_
     refine zo ?_
     refine zC rfl ?_
     show HVal.bool _ = _
     first | (congr 1; symm; exact zdJ (by omega)) | (rw [hg.2, zcg, show zgu za8 x y = false from h5]; rfl) | (rw [hg.2, z6 (Nat.le_of_eq hg.1.symm)]; rfl)
    ·try simp at h6
     refine zk ?_
     refine zz ?_
     refine ze ?_
     refine zy ?_
     refine dq (zv rfl rfl (by omega) (by omega)) ?_
     refine dmv rfl ?_
     refine dn ?_
     refine ⟨k + 1, ?_, ?_, ⟨rfl, trivial⟩, (by repeat (first | exact zp | refine zu rfl ?_ | refine zq rfl rfl ?_)), List.Perm.refl _⟩
     ·refine ⟨by omega, hg.1, ?_⟩
      rw [hg.2, zcg, show zgu za8 x y = true from h6]; rfl
     ·dsimp only; omega
   ·try simp at h4
    have hnk : l.length ≤ k := by omega
    obtain rfl : k = l.length := by omega
    rw [z6 (Nat.le_refl _)] at hg
    refine zN ?_
    refine zS ?_
    refine zag ?_
    refine zE ?_
    refine ze ?_
    refine zb ?_
    refine das rfl ?_
    refine dn ?_
    refine zo ?_
    refine zC rfl ?_
    show HVal.bool _ = _
    first | (congr 1; symm; exact zdJ (by omega)) | (rw [hg.2, zcg, show zgu za8 x y = false from h5]; rfl) | (rw [hg.2, z6 (Nat.le_of_eq hg.1.symm)]; rfl)

/-- benchwarmer/benchlaw1.traded -/
theorem ze9 [Tracks]   : zaa Tryz.prog 15 [] (.bool true) := by
 refine Con.of_body Tryz.func15 rfl Tryz.ntmps15 rfl rfl ?_
 refine zb ?_
 refine das rfl ?_
 refine dn ?_
 refine zb ?_
 refine dq (zM (hs := [_, _]) zF ty9 rfl rfl (by decide) (by decide) rfl) ?_
 refine dq (zaU (cs := [_, _, _, _, _, _]) zW zhn rfl) ?_
 refine de rfl (zab zW rfl fun b1 => ?_)
 refine de0 (zao zW rfl rfl rfl rfl rfl ?_)
 refine dn ?_
 refine zO (Ghost.fc0 1 rfl) ?_
 refine zb ?_
 refine dq (zY zW rfl rfl rfl rfl) ?_
 refine dq (zaU (cs := [_, _]) zZ znF rfl) ?_
 refine dq (zM (hs := [_]) zat zZ rfl rfl (by decide) (by decide) rfl) ?_
 refine dq (zaU (cs := [_, _]) zhP pl99 rfl) ?_
 refine dq (zaU (cs := [_, _, _]) zaz zqf rfl) ?_
 refine dq (zM (hs := [_]) zbg zaz rfl rfl (by decide) (by decide) rfl) ?_
 refine dq (zaU (cs := [_, _, _, _, _]) zbI zr4 rfl) ?_
 refine dq (zw ca56 rfl (WeakL.refl _) (zm3 (m := zcX) (o := [⟨[112], [97]⟩]) (x := zcR) (by decide) (by decide) (by decide) (by decide))) ?_
 refine dmv rfl ?_
 refine dq (zan rfl rfl) ?_
 refine dq (zan rfl rfl) ?_
 refine das rfl ?_
 refine das rfl ?_
 refine dn ?_
 rw [zre, zrq]
 refine zb ?_
 refine dmv rfl ?_
 refine dq (zaJ rfl rfl) ?_
 refine dmv rfl ?_
 refine dg rfl rfl (fun hc => ⟨_, OpenTo.refl _, zd rfl⟩) ?_
 refine dg rfl rfl (fun hc => ⟨_, OpenTo.refl _, zaU (cs := [_, _]) zZ znF rfl⟩) ?_
 refine dg rfl rfl (fun hc => ⟨_, OpenTo.upd (t := 21) rfl (by first | exact hc | simp_all) (OpenTo.refl _), zM (hs := [_]) zat zZ rfl rfl (by decide) (by decide) rfl⟩) ?_
 refine dg rfl rfl (fun hc => ⟨_, OpenTo.upd (t := 22) rfl (by first | exact hc | simp_all) (OpenTo.upd (t := 20) rfl (by first | exact hc | simp_all) (OpenTo.refl _)), zw ca57 rfl (WeakL.refl _) (zdV (l := [⟨[112], [98]⟩]) (m := [⟨[112], [98]⟩]) (by decide))⟩) ?_
 refine dq (zL rfl (.inr ⟨_, rfl, fun h => by simp_all⟩) (.inl rfl)) ?_
 refine das rfl ?_
 refine dn ?_
 refine zo ?_
 refine zC rfl ?_
 rfl

/-- slices.EqualFunc[[][]string,[][]string,[]string,[]string] -/
theorem zj3 [Tracks] {l : List (List Str)} (hl : l.length ≤ 1000000) (hf : ∀ x ∈ l, x.length ≤ 1000000) : zaa Tryz.prog 16 [znV l, znV l, .fn (.func 18) [] []] (.bool true) := by
 refine Con.of_body Tryz.func16 rfl Tryz.ntmps16 rfl rfl ?_
 refine zb ?_
 refine das rfl ?_
 refine dn ?_
 refine zf ?_
 refine zb ?_
 refine dmv rfl ?_
 refine dq (zB zgh rfl) ?_
 refine dmv rfl ?_
 refine dq (zB zgh rfl) ?_
 refine dq (za6 rfl rfl) ?_
 refine dn ?_
 refine zj rfl (fun h1 => ?_) (fun h1 => ?_)
 ·exfalso
  try simp at h1
  done
 ·try simp at h1
  refine zk ?_
  refine ze ?_
  refine zf ?_
  refine zb ?_
  refine dmv rfl ?_
  refine dq (zB zgh rfl) ?_
  refine dmv rfl ?_
  refine dn ?_
  refine zm ?_
  refine z8 [6, 7, 8, 9, 17, 18, 19, 20, 21, 22, 23, 24, 25, 26, 27, 28, 29, 30, 31] (fun (k : Nat) => [(17, .int .i64 k)]) (fun (k : Nat) => []) (fun (k : Nat) => k ≤ l.length ∧ (True)) (fun (k : Nat) => l.length - k) (0) ?_ ?_ ?_ ?_
  ·exact ⟨Nat.zero_le _, trivial⟩
  ·exact ⟨rfl, trivial⟩
  ·exact List.Perm.refl _
  ·intro k hinv
   obtain ⟨hk, -⟩ := hinv
   refine zb ?_
   refine dq (zJ rfl rfl) ?_
   refine dn ?_
   refine zf ?_
   refine zj rfl (fun h2 => ?_) (fun h3 => ?_)
   ·try simp at h2
    obtain ⟨x, hx⟩ : ∃ x, l[k]? = some x := ⟨_, List.getElem?_eq_getElem h2⟩
    have hdx := zK hx
    refine zk ?_
    refine ze ?_
    refine zf ?_
    refine zm ?_
    refine zb ?_
    refine dmv rfl ?_
    refine dq (zH zgh zF rfl rfl rfl (by first | assumption | simp_all)) ?_
    refine dq (zi zF rfl rfl rfl) ?_
    refine das rfl ?_
    refine das rfl ?_
    refine dn ?_
    refine zb ?_
    refine dmv rfl ?_
    refine dmv rfl ?_
    refine dq (zH zgh zF rfl rfl rfl (by first | assumption | simp_all)) ?_
    refine dq (zi zF rfl rfl rfl) ?_
    refine das rfl ?_
    refine dn ?_
    refine zb ?_
    refine dmv rfl ?_
    refine dmv rfl ?_
    refine dmv rfl ?_
    refine dq (zci ca18 rfl rfl (WeakL.refl _) (zc2 (l := x) (m := x) (hf x (List.mem_of_getElem? hx)))) ?_
    refine dq (zaw rfl) ?_
    refine dn ?_
    refine zj rfl (fun h4 => ?_) (fun h4 => ?_)
    ·exfalso
     try simp at h4
     done
    ·try simp at h4
     refine zk ?_
     refine zz ?_
     refine ze ?_
     refine zy ?_
     refine dq (zv rfl rfl (by omega) (by omega)) ?_
     refine dmv rfl ?_
     refine dn ?_
     refine ⟨k + 1, ?_, ?_, ⟨rfl, trivial⟩, (by repeat (first | exact zp | refine zu rfl ?_ | refine zq rfl rfl ?_)), List.Perm.refl _⟩
     ·exact ⟨by omega, trivial⟩
     ·dsimp only; omega
   ·try simp at h3
    have hnk : l.length ≤ k := by omega
    obtain rfl : k = l.length := by omega
    refine zN ?_
    refine zS ?_
    refine zag ?_
    refine zE ?_
    refine ze ?_
    refine zb ?_
    refine das rfl ?_
    refine dn ?_
    refine zo ?_
    refine zC rfl ?_
    rfl

set_option maxHeartbeats 4000000 in
/-- benchwarmer/benchlaw1.RingsFound -/
theorem zdZ [Tracks] {l : List Int}  : zaa Tryz.prog 3 [.slice 1 (l.map (.int .i64))] (.bool true) := by
 refine Con.of_body Tryz.func3 rfl Tryz.ntmps3 rfl rfl ?_
 refine zb ?_
 refine das rfl ?_
 refine dn ?_
 refine zb ?_
 refine dmv rfl ?_
 refine dq (zaU (cs := [_, _]) zgf pl25 rfl) ?_
 refine de rfl (zm6 rfl rfl fun b => ?_)
 refine zoQ (M' := [St b l 0]) rfl ?_
 refine das rfl ?_
 refine dn ?_
 refine zb ?_
 refine dmv rfl ?_
 first
 | refine de rfl (zh (i := 0) ca5 rfl (WeakL.refl _) rfl (zbE (by first | assumption | omega | (simp; omega) | simp_all)) ?_)
 | refine de rfl (zh (i := 1) ca5 rfl (WeakL.refl _) rfl (zbE (by first | assumption | omega | (simp; omega) | simp_all)) ?_)
 | refine de rfl (zh (i := 2) ca5 rfl (WeakL.refl _) rfl (zbE (by first | assumption | omega | (simp; omega) | simp_all)) ?_)
 | refine de rfl (zh (i := 3) ca5 rfl (WeakL.refl _) rfl (zbE (by first | assumption | omega | (simp; omega) | simp_all)) ?_)
 rintro _ _ ⟨m16, a16, rfl, hm16, ha16, rfl⟩
 refine de rfl (zab zW rfl fun b4 => ?_)
 first
 | refine de0 (zt (i := 0) zW rfl rfl rfl rfl rfl (Nat.le_of_ble_eq_true rfl) ?_)
 | refine de0 (zt (i := 1) zW rfl rfl rfl rfl rfl (Nat.le_of_ble_eq_true rfl) ?_)
 | refine de0 (zt (i := 2) zW rfl rfl rfl rfl rfl (Nat.le_of_ble_eq_true rfl) ?_)
 | refine de0 (zt (i := 3) zW rfl rfl rfl rfl rfl (Nat.le_of_ble_eq_true rfl) ?_)
 refine dn ?_
 refine zb ?_
 refine dq (zn zW rfl ty3 (by decide) rfl) ?_
 first
 | refine de0 (zt (i := 0) ty3 rfl rfl rfl rfl rfl (Nat.le_of_ble_eq_true rfl) ?_)
 | refine de0 (zt (i := 1) ty3 rfl rfl rfl rfl rfl (Nat.le_of_ble_eq_true rfl) ?_)
 | refine de0 (zt (i := 2) ty3 rfl rfl rfl rfl rfl (Nat.le_of_ble_eq_true rfl) ?_)
 | refine de0 (zt (i := 3) ty3 rfl rfl rfl rfl rfl (Nat.le_of_ble_eq_true rfl) ?_)
 refine dq (zn zW rfl ty3 (by decide) rfl) ?_
 first
 | refine de0 (zt (i := 0) ty3 rfl rfl rfl rfl rfl (Nat.le_of_ble_eq_true rfl) ?_)
 | refine de0 (zt (i := 1) ty3 rfl rfl rfl rfl rfl (Nat.le_of_ble_eq_true rfl) ?_)
 | refine de0 (zt (i := 2) ty3 rfl rfl rfl rfl rfl (Nat.le_of_ble_eq_true rfl) ?_)
 | refine de0 (zt (i := 3) ty3 rfl rfl rfl rfl rfl (Nat.le_of_ble_eq_true rfl) ?_)
 refine dn ?_
 refine zO (Ghost.of_eq (M' := [.cells b4 (zl (zaS (zdc m16))), St b l a16]) rfl) ?_
 refine zO (Ghost.fc 4 (i := 0) rfl rfl) ?_
 have hmf := zoF hm16
 have hm5 := hmf.len
 have hm0 := hmf.pos
 refine zb ?_
 refine dmv rfl ?_
 refine dq (zY zW rfl rfl rfl rfl) ?_
 first
 | refine de rfl (zh (i := 0) ca6 rfl (WeakL.refl _) rfl (zby (by first | assumption | omega | (simp; omega) | simp_all) (by first | assumption | omega | (simp; omega) | simp_all)) ?_)
 | refine de rfl (zh (i := 1) ca6 rfl (WeakL.refl _) rfl (zby (by first | assumption | omega | (simp; omega) | simp_all) (by first | assumption | omega | (simp; omega) | simp_all)) ?_)
 | refine de rfl (zh (i := 2) ca6 rfl (WeakL.refl _) rfl (zby (by first | assumption | omega | (simp; omega) | simp_all) (by first | assumption | omega | (simp; omega) | simp_all)) ?_)
 | refine de rfl (zh (i := 3) ca6 rfl (WeakL.refl _) rfl (zby (by first | assumption | omega | (simp; omega) | simp_all) (by first | assumption | omega | (simp; omega) | simp_all)) ?_)
 rintro _ _ ⟨o21, a21, rfl, ho21, ha21, rfl⟩
 refine das rfl ?_
 refine dn ?_
 refine zb ?_
 refine dmv rfl ?_
 refine dmv rfl ?_
 first
 | refine de rfl (zh (i := 0) ca7 rfl (WeakL.refl _) rfl (zbB (by first | assumption | omega | (simp; omega) | simp_all) (by first | assumption | omega | (simp; omega) | simp_all)) ?_)
 | refine de rfl (zh (i := 1) ca7 rfl (WeakL.refl _) rfl (zbB (by first | assumption | omega | (simp; omega) | simp_all) (by first | assumption | omega | (simp; omega) | simp_all)) ?_)
 | refine de rfl (zh (i := 2) ca7 rfl (WeakL.refl _) rfl (zbB (by first | assumption | omega | (simp; omega) | simp_all) (by first | assumption | omega | (simp; omega) | simp_all)) ?_)
 | refine de rfl (zh (i := 3) ca7 rfl (WeakL.refl _) rfl (zbB (by first | assumption | omega | (simp; omega) | simp_all) (by first | assumption | omega | (simp; omega) | simp_all)) ?_)
 rintro _ _ ⟨w24, a24, rfl, hw24, ha24, rfl⟩
 refine das rfl ?_
 refine dn ?_
 have hol := ho21.len
 have hwl := hw24.len
 have hf1 : ∀ x ∈ w24, x.For.length ≤ 100 := fun x hx => Nat.le_trans (hw24.all x hx).2.1 (by decide)
 have hff : ∀ x ∈ w24, x.For.length ≤ 1000000 := fun x hx => Nat.le_trans (hw24.all x hx).2.1 (by decide)
 refine zb ?_
 refine dq (zY zW rfl rfl rfl rfl) ?_
 refine dq (zw ca8 rfl (WeakL.refl _) (zf2 (m := (zdc m16)) (by omega) (fun s hs => Nat.le_trans (hmf.sh s hs) (by decide)))) ?_
 refine das rfl ?_
 refine dn ?_
 refine zfx [7, 27, 28, 29, 30, 31, 32, 33, 34, 35, 36] (fun (z0 : Unit) => [(7, .int .i64 ((zaj (zdc m16) o21 w24)))]) (fun (z0 : Unit) => [St b l a24]) (fun (z0 : Unit) => True) ?_ ?_
 ·skip
  refine zb ?_
  refine dmv rfl ?_
  refine dq (zaJ rfl rfl) ?_
  refine dn ?_
  refine zj rfl (fun h1 => ?_) (fun h2 => ?_)
  ·try simp at h1
   refine zy ?_
   refine dq (zY zW rfl rfl rfl rfl) ?_
   refine dmv rfl ?_
   refine dq (zw ca10 rfl (WeakL.refl _) (zf1 (m := (zdc m16)) (o := o21) (by omega) (by omega) (fun x hx => (ho21.all x hx).1))) ?_
   refine dmv rfl ?_
   refine dmv rfl ?_
   refine dq (zw ca11 rfl (WeakL.refl _) (zgt (o := o21) (w := w24) (by omega) (by omega) hff)) ?_
   refine dq (zM (hs := [_, _]) zkI zkF rfl rfl (by decide) (by decide) rfl) ?_
   refine dq (zw ca9 rfl (WeakL.refl _) (zhC (l := [zbT (zdc m16) o21, zX o21 w24]) (by simp))) ?_
   refine das rfl ?_
   refine dn ?_
   exact ⟨(), trivial, ⟨congrArg (fun q => some (HVal.int .i64 q)) (zpH (by assumption) _ _), trivial⟩, (by repeat (first | exact zp | refine zu rfl ?_ | refine zq rfl rfl ?_)), List.Perm.refl _⟩
  ·try simp at h2
   refine zk ?_
   exact ⟨(), trivial, ⟨congrArg (fun q => some (HVal.int .i64 q)) (zpe (by assumption) _ _), trivial⟩, (by repeat (first | exact zp | refine zu rfl ?_ | refine zq rfl rfl ?_)), List.Perm.refl _⟩
 ·intro z0 _
  refine zf ?_
  refine zb ?_
  refine dq (zY zW rfl rfl rfl rfl) ?_
  refine dmv rfl ?_
  refine dmv rfl ?_
  refine dq (zw zpY rfl (WeakL.refl _) (zdr (m := (zdc m16)) (o := o21) (w := w24) (by omega) (by omega) (by omega) hff)) ?_
  refine dmv rfl ?_
  refine dq (za6 rfl rfl) ?_
  refine dn ?_
  refine zj rfl (fun h3 => ?_) (fun h3 => ?_)
  ·exfalso
   try simp at h3
   done
  ·try simp at h3
   refine zk ?_
   refine ze ?_
   refine zb ?_
   refine dq (zY zW rfl rfl rfl rfl) ?_
   refine dmv rfl ?_
   refine dmv rfl ?_
   refine dq (zw ca13 rfl (WeakL.refl _) (zlz (m := (zdc m16)) (o := o21) (w := w24) (by omega) (by omega) (by omega) hff)) ?_
   refine dmv rfl ?_
   refine dq (zan rfl rfl) ?_
   refine dq (zan rfl rfl) ?_
   refine das rfl ?_
   refine das rfl ?_
   refine dn ?_
   refine zb ?_
   refine dq (zY zW rfl rfl rfl rfl) ?_
   refine dmv rfl ?_
   refine dmv rfl ?_
   refine dq (zw ca14 rfl (WeakL.refl _) (zmw (m := (zdc m16)) (o := o21) (w := w24) (by omega) (by omega) (by omega) hff)) ?_
   refine dmv rfl ?_
   refine dq (zan rfl rfl) ?_
   refine dq (zan rfl rfl) ?_
   refine das rfl ?_
   refine das rfl ?_
   refine dn ?_
   refine zf ?_
   refine zb ?_
   refine dmv rfl ?_
   refine dq (za6 rfl rfl) ?_
   refine dn ?_
   refine zj rfl (fun h4 => ?_) (fun h5 => ?_)
   ·try simp at h4
    have hz : ¬ (zaj (zdc m16) o21 w24) = 0 := by first | assumption | simp_all
    have er : (zfN (zdc m16) o21 w24) = [] := if_neg hz
    have em : (zeA (zdc m16) o21 w24) = [] := if_neg hz
    rw [er, em]
    refine zb ?_
    refine dmv rfl ?_
    refine dmv rfl ?_
    refine dq (zaJ rfl rfl) ?_
    refine dmv rfl ?_
    refine dg rfl rfl (fun hc => ⟨_, OpenTo.refl _, zd rfl⟩) ?_
    refine dg rfl rfl (fun hc => ⟨_, OpenTo.refl _, zd rfl⟩) ?_
    refine dg rfl rfl (fun hc => ⟨_, OpenTo.upd (t := 64) rfl (by first | exact hc | simp_all) (OpenTo.upd (t := 63) rfl (by first | exact hc | simp_all) (OpenTo.refl _)), zaJ rfl rfl⟩) ?_
    refine dq (zL rfl (.inr ⟨_, rfl, fun h => by simp_all⟩) (.inl rfl)) ?_
    refine dmv rfl ?_
    refine dg rfl rfl (fun hc => ⟨_, OpenTo.refl _, zd rfl⟩) ?_
    refine dg rfl rfl (fun hc => ⟨_, OpenTo.upd (t := 68) rfl (by first | exact hc | simp_all) (OpenTo.refl _), zB (f := eSs) (l := ([] : List (List Str))) zgh rfl⟩) ?_
    refine dg rfl rfl (fun hc => ⟨_, OpenTo.refl _, zd rfl⟩) ?_
    refine dg rfl rfl (fun hc => ⟨_, OpenTo.upd (t := 70) rfl (by first | exact hc | simp_all) (OpenTo.refl _), zB (f := za8) (l := ([] : List GiveS)) zbg rfl⟩) ?_
    refine dg rfl rfl (fun hc => by have hq := hc; (try simp at hq); exact ⟨_, OpenTo.upd (t := 71) rfl (by first | exact hc | simp_all) (OpenTo.upd (t := 69) rfl (by first | exact hc | simp_all) (OpenTo.refl _)), zv rfl rfl (by simp only [List.length_nil]; omega) (by simp only [List.length_nil]; omega)⟩) ?_
    refine dg rfl rfl (fun hc => ⟨_, OpenTo.upd (t := 72) rfl (by first | exact hc | simp_all) (OpenTo.refl _), zaJ rfl rfl⟩) ?_
    refine dq (zL rfl (.inr ⟨_, rfl, fun h => by simp_all⟩) (.inl rfl)) ?_
    refine dmv rfl ?_
    refine dg rfl rfl (fun hc => ⟨_, OpenTo.refl _, zw ca15 rfl (WeakL.refl _) ze9⟩) ?_
    refine dq (zL rfl (.inr ⟨_, rfl, fun h => by simp_all⟩) (.inl rfl)) ?_
    refine das rfl ?_
    refine dn ?_
    refine zo ?_
    first
    | exact zbO Ghost.clear rfl ⟨rfl, rfl⟩
    | (refine zbO Ghost.clear rfl ⟨?_, rfl⟩
       show HVal.bool _ = _
       simp [zfF, hz, em])
   ·try simp at h5
    refine zk ?_
    refine ze ?_
    have hz : (zaj (zdc m16) o21 w24) = 0 := by first | assumption | simp_all
    have er : (zfN (zdc m16) o21 w24) = zd1 w24 := if_pos hz
    have hwk := (zep hz).2
    have hnm := znX hz
    have hrb := zpb hwk.srt
    have hml := zpc hz (by omega)
    obtain ⟨P, hP1, hP2, _⟩ := zmM hwk (by omega)
    have hbl : ∃ bl, zc3 w24 [] none = some bl ∧ zdk w24 bl := ⟨P, hP1, hP2⟩
    have em := zo4 hz (by omega)
    rw [er]
    refine zb ?_
    refine dmv rfl ?_
    refine dq (zaJ rfl rfl) ?_
    refine dmv rfl ?_
    refine dg rfl rfl (fun hc => ⟨_, OpenTo.refl _, zd rfl⟩) ?_
    refine dg rfl rfl (fun hc => ⟨_, OpenTo.refl _, zd rfl⟩) ?_
    refine dg rfl rfl (fun hc => by have hq := hc; (try simp at hq); exact ⟨_, OpenTo.upd (t := 82) rfl (by first | exact hc | simp_all) (OpenTo.refl _), zw ca17 rfl (WeakL.refl _) (zhh (w := w24) (by omega) hwk.srt hff hnm)⟩) ?_
    refine dg rfl rfl (fun hc => by have hq := hc; (try simp at hq); exact ⟨_, OpenTo.upd (t := 83) rfl (by first | exact hc | simp_all) (OpenTo.upd (t := 81) rfl (by first | exact hc | simp_all) (OpenTo.refl _)), zw ca16 rfl (WeakL.refl _) (zj3 (l := zd1 w24) (by omega) (fun x hx => by have := hrb.2 x hx; omega))⟩) ?_
    refine dq (zL rfl (.inr ⟨_, rfl, fun h => by simp_all⟩) (.inl rfl)) ?_
    refine dmv rfl ?_
    refine dg rfl rfl (fun hc => ⟨_, OpenTo.refl _, zd rfl⟩) ?_
    refine dg rfl rfl (fun hc => ⟨_, OpenTo.upd (t := 87) rfl (by first | exact hc | simp_all) (OpenTo.refl _), zaJ rfl rfl⟩) ?_
    refine dq (zL rfl (.inr ⟨_, rfl, fun h => by simp_all⟩) (.inl rfl)) ?_
    refine dmv rfl ?_
    refine dg rfl rfl (fun hc => ⟨_, OpenTo.refl _, zd rfl⟩) ?_
    refine dg rfl rfl (fun hc => ⟨_, OpenTo.refl _, zd rfl⟩) ?_
    refine dg rfl rfl (fun hc => ⟨_, OpenTo.refl _, zd rfl⟩) ?_
    refine dg rfl rfl (fun hc => by have hq := hc; (try simp at hq); exact ⟨_, OpenTo.upd (t := 93) rfl (by first | exact hc | simp_all) (OpenTo.upd (t := 92) rfl (by first | exact hc | simp_all) (OpenTo.refl _)), zw ca20 rfl (WeakL.refl _) (zgq (o := o21) (w := w24) (by omega) (by omega) hf1 hbl)⟩) ?_
    refine dg rfl rfl (fun hc => by have hq := hc; (try simp at hq); exact ⟨_, OpenTo.upd (t := 94) rfl (by first | exact hc | simp_all) (OpenTo.upd (t := 91) rfl (by first | exact hc | simp_all) (OpenTo.refl _)), zw ca19 rfl (WeakL.refl _) (zec (l := zeA (zdc m16) o21 w24) (m := zji o21 w24) (by omega))⟩) ?_
    refine dq (zL rfl (.inr ⟨_, rfl, fun h => by simp_all⟩) (.inl rfl)) ?_
    refine dmv rfl ?_
    refine dg rfl rfl (fun hc => ⟨_, OpenTo.refl _, zw ca15 rfl (WeakL.refl _) ze9⟩) ?_
    refine dq (zL rfl (.inr ⟨_, rfl, fun h => by simp_all⟩) (.inl rfl)) ?_
    refine das rfl ?_
    refine dn ?_
    refine zo ?_
    first
    | exact zbO Ghost.clear rfl ⟨rfl, rfl⟩
    | (refine zbO Ghost.clear rfl ⟨?_, rfl⟩
       show HVal.bool _ = _
       simp [zfF, hz, em])
end
end Go.Proofs.YtcihcbnjfclkbaaGreatDoor
namespace Go.HL
section
open Go
theorem zly {H : Type} {enc : TypeId × Value → H} {a : Assume} {C : Checked} {os : Os} {f : FuncId} {fn : Func} {s : ChangeSpec} {conds : List PathCond} {apart fresh handsOn again : Bool} {X : World → Array Value → Prop}
 (hX : ∀ (w w' : World) (args : Array Value), w.heap = w'.heap → X w args → X w' args)
 (own : ownKnob C.prog.godebug = none) (started : os.Started) (noInit : C.prog.inits.idxOf? f = none) (hfn : C.prog.funcs[f]? = some fn)
 (witness : ∃ (w : World) (tape : Tape) (i : Input), w.os = os ∧ (w.forCall tape i).Shaped C.prog ∧ i.vars = [] ∧ Input.okWide C.prog (w.forCall tape i) .any w.heap.size f i ∧
   ((s.pre enc C.prog fn conds apart (w.forCall tape i).memory i.args ∧ X (w.forCall tape i).memory i.args) ∧ sizedMet enc C.prog fn (OpenSpec.ofChange s) apart (w.forCall tape i).memory i.args) ∧ a.holds C.prog (lone (Frame.enter C.prog f i.args .normal) [] (w.forCall tape i)))
 (contract : ∀ (W : World) (base : Nat) (args : Array Value) (ds gs : List (DataW H)) (before : List MemPlace),
   (∀ (j : Nat) t v, fn.params[j]? = some t → args[j]? = some v → Value.okWide C.prog W .any base t v) → DataW.Whole enc C.prog fn.params.toList s.vars apart W args.toList ds gs before →
   X W args → W.ShapedOpen C.prog → Calls C.prog f args W fun e W' => ∃ v, e = .returned v ∧ s.post enc C.prog fn apart fresh handsOn again W args v W') :
 ReturnsInHanded a C os f .any (fun w args => (s.pre enc C.prog fn conds apart w args ∧ X w args) ∧ sizedMet enc C.prog fn (OpenSpec.ofChange s) apart w args) (s.post enc C.prog fn apart fresh handsOn again) := by
 refine returnsInHanded_of_calls own started noInit witness fun w tape i _ hsh _ hok hpre _ => ?_
 obtain ⟨_, _, _, fn', hfn', _, _, _, _, hval⟩ := hok
 obtain rfl : fn' = fn := Option.some.inj (hfn'.symm.trans hfn)
 obtain ⟨⟨⟨ds, gs, before, hw, _⟩, hx⟩, _⟩ := hpre
 refine (contract (w.forCall tape i) w.heap.size i.args ds gs before hval (DataW.Whole.of_heap (w' := w.forCall tape i) (by rfl) hw) (hX _ _ _ (by rfl) hx) hsh).mono fun e W' ⟨v, he, hp⟩ => ?_
 subst he
 exact ChangeSpec.post_blind hp
end
end Go.HL
namespace Go.Proofs.YtcihcbnjfclkbaaGreatDoor
section
open Go.ChangeShapes Go.WideShapes Go.ChangeAt Go.RowKit Go.HL
theorem zlu : ownKnob Tryz.prog.godebug = none := by kernel_rfl
theorem zfh : laidOutB Tryz.prog = true := by kernel_rfl
theorem zjD : Tryz.prog.cellsOf 3 = 1 := by kernel_rfl
theorem zlA {W : World} (h : laidMetH Tryz.prog Rows.ringsFoundRow.laid W) (hsh : W.ShapedOpen Tryz.prog) : TabI Tryz.prog (zbV W) := by
 rw [MakeChecks.laidMetH_plain _ _ _ (by kernel_rfl)] at h
 letI : Tracks := ⟨false⟩
 exact zmv (i := 2) (g := 1) (t := 262) h (by kernel_rfl) (by kernel_rfl) (by kernel_rfl) Tryz.underlying262 Tryz.underlying179 (by kernel_rfl) (by kernel_rfl) (fun g hg => by
  obtain rfl : 0 = g := Option.some.inj ((show Tryz.prog.globalNamed "internal/bytealg.MaxLen" = some 0 by kernel_rfl).symm.trans hg)
  exact Go.Proofs.cell_of_shapedOpen_int (zero := #[.int .i64 0]) (t := 3) hsh (of_decide_eq_true (by kernel_rfl)) (by kernel_rfl) rfl (by kernel_rfl) (by kernel_rfl) Tryz.underlying3)
theorem zjT {W : World} (ht : TabI Tryz.prog (zbV W)) {a : Option Addr} {len cap : Nat} {H : Type} {enc : TypeId × Value → H} {d0 : DataW H} {p : List MemPlace} (h : DataW.Trod enc Tryz.prog W 0 (fun _ => true) true 22 (.slice a len cap) d0 p) :
 Calls Tryz.prog 3 #[.slice a len cap] W fun e W' => e = .returned (.bool true) ∧ Below W.heap.size W W' := by
 obtain ⟨fuel, hf⟩ := h
 rcases open_ints Tryz.underlying22 Tryz.underlying3 zjD hf with ⟨hcs, hx⟩ | ⟨a', len', cap', zs, hcs, _, hl, hm, hz, hx, hcell, hwz⟩
 ·simp [Value.cells] at hcs
  obtain ⟨rfl, rfl, rfl⟩ := hcs
  letI : Tracks := ⟨false⟩
  exact zmA (l := []) (zdZ) ht (.slice0 _ _ _)
 ·simp [Value.cells] at hcs
  obtain ⟨rfl, rfl, rfl⟩ := hcs
  simp only [if_true] at hz
  letI : Tracks := ⟨false⟩
  exact zmA (l := zs.take len) (zdZ) ht (zru hcell (by omega) hl)
set_option maxRecDepth 100000 in
theorem ziH (os : Os) (started : os.Started) (H : Type) (enc : TypeId × Value → H) :
 ReturnsInHanded {} Tryz.checked os 3 .any (fun w args => (Rows.ringsFoundSpec.pre enc Tryz.prog Tryz.f3 Rows.ringsFoundRow.domain false w args ∧ laidMetH Tryz.prog Rows.ringsFoundRow.laid w) ∧ sizedMet enc Tryz.prog Tryz.f3 (OpenSpec.ofChange Rows.ringsFoundSpec) false w args)
  (Rows.ringsFoundSpec.post enc Tryz.prog Tryz.f3 false true false false) := by
 refine zly (C := Tryz.checked) (X := fun w _ => laidMetH Tryz.prog Rows.ringsFoundRow.laid w) (fun _ _ _ hh h => h.of_heap hh) zlu started (by kernel_rfl) Tryz.func3
  (ChangeSpec.witness_shaped (enc := enc) (C := Tryz.checked) (os := os) (X := fun w _ => laidMetH Tryz.prog Rows.ringsFoundRow.laid w) false (World.laidAll Tryz.prog os Rows.ringsFoundRow.laid) #[.slice none 0 0] 8 (World.laidAll_os _ _ _)
    (World.shaped_of_ZipB (by kernel_rfl) (by kernel_rfl)) (by kernel_rfl) (by kernel_rfl) (by kernel_rfl)
    (by rw [MakeChecks.laidMetH_plain _ _ _ (by kernel_rfl)]; exact laidMet_laidAll _ (by kernel_rfl) (by kernel_rfl))) ?_
 intro W base args ds gs before hval0 hW hL hsh
 have hval : ∀ (j : Nat) t v, Tryz.f3.params[j]? = some t → args[j]? = some v → Value.okWide Tryz.prog W .any base t v := hval0
 have hW' := hW
 obtain ⟨p, q, hA0, hV, rfl, _, _⟩ := hW
 have hA : DataW.TrodAll enc Tryz.prog W 0 (fun _ => true) true Tryz.f3.params.toList args.toList ds p := hA0
 rw [Tryz.params3] at hA hval
 obtain ⟨v0, d0, rfl, rfl, h0⟩ := trodAll_one hA
 obtain ⟨rfl, rfl⟩ := trodVars_none hV
 obtain ⟨a0, len, cap, rfl⟩ := okWide_slice Tryz.underlying22 (hval 0 22 v0 rfl rfl)
 simp only [List.append_nil] at hW'
 have hlt : ∀ x ∈ p, x.block < W.heap.size := fun x hx => by simpa using hW'.lt x hx
 refine (zjT (zlA hL hsh) h0).mono fun e W' ⟨he, hb⟩ => ?_
 subst he
 have hargs : DataW.Trod enc Tryz.prog W' 0 (fun b => decide (b < W.heap.size)) true 22 (.slice a0 len cap) d0 p :=
  Below.trod zfh (by kernel_rfl) (of_decide_eq_true (by kernel_rfl)) h0 hb hlt
 exact ⟨_, rfl, _, _, _, [], p, [], hW', trodAll_mk1 (shut_bool Tryz.underlying4 _), trodAll_mk1 hargs, rfl, hb.frame _, fun h => by cases h⟩
theorem zkC : mapsRowed Tryz.prog = true := by kernel_rfl
theorem zkw : (Rows.ringsFoundRow.inPlace == Tryz.prog.inPlace 3) = true := by kernel_rfl
theorem zkt : (Rows.ringsFoundRow.unfollowed == Tryz.prog.unfollowed 3) = true := by kernel_rfl
theorem zkH : (Rows.ringsFoundRow.recurses == Tryz.prog.recurses 3) = true := by kernel_rfl
theorem zkD : (Rows.ringsFoundRow.named == Tryz.prog.varsNamed 3) = true := by kernel_rfl
theorem zj0 : joinedFacts Tryz.prog 3 Tryz.f3 Rows.ringsFoundSpec Rows.ringsFoundRow = true := by
 simp only [joinedFacts, Bool.and_eq_true]
 repeat' apply And.intro
 all_goals first
  | with_reducible exact zfh
  | with_reducible exact zkC
  | with_reducible exact zkw
  | with_reducible exact zkt
  | with_reducible exact zkH
  | with_reducible exact zkD
  | kernel_rfl
theorem zkE : false = Tryz.prog.looks [] := by kernel_rfl
theorem zkv : false = Rows.ringsFoundRow.goesBy Tryz.prog := by kernel_rfl
theorem zkJ : Rows.ringsFoundRow.wfByText (OpenSpec.ofChange Rows.ringsFoundSpec) = true := by kernel_rfl
theorem zkL : Tryz.prog.mainIs = some ("1bb75e56fcbe5a8f100c5ca37cd5719690cb5fdf68a0e51e68a0ed26666dc345" |> fun h => (true, h.toList)) := by kernel_rfl
theorem zkd : ([22].all fun u => !Tryz.prog.wantsStandIn u) = true := by kernel_rfl
theorem zgy : Tryz.prog.funcNamed Rows.ringsFoundRow.func = some 3 := by kernel_rfl
theorem zjE : Rows.RingsFoundSaid :=
 OpenClaim.holds_of_wide 3 Tryz.f3 rfl rfl rfl rfl rfl rfl rfl ⟨rfl, rfl, rfl, rfl, rfl⟩ rfl rfl rfl rfl rfl zgy Tryz.func3 zj0
  (of_decide_eq_true (by kernel_rfl)) (by unfold Func.isWrapper; first | (rw [if_pos (by decide +kernel)]; kernel_rfl) | (rw [if_neg (by decide +kernel)]; exact ⟨rfl, rfl⟩))
  (fun os started H enc _ => ziH os started H enc)
theorem cardRingsFound : Rows.RingsFoundCardSaid :=
 Claim7.holds_tied_plain_at .later [] [.data, .data, .data, .data, .pinned] true (true, "1bb75e56fcbe5a8f100c5ca37cd5719690cb5fdf68a0e51e68a0ed26666dc345") false zjE (fun _ h => by cases h) zkJ (fun _ h => by cases h) ringsFound_row_tie rfl ⟨rfl, rfl⟩ zkL rfl
  (fun f fn hf hfn => by
    obtain rfl : f = 3 := Option.some.inj (zgy.symm.trans hf) |>.symm
    obtain rfl : fn = Tryz.f3 := (Option.some.inj (Tryz.func3.symm.trans hfn)).symm
    exact ⟨zkE, fun j t ht => by
     rw [Tryz.params3] at ht
     have hm : t ∈ [22] := by simpa using Array.mem_of_getElem? ht
     have hall := zkd
     exact (show Tryz.prog.wantsStandIn t = false by simpa using List.all_eq_true.1 hall t hm)⟩)
  zkv
end
end Go.Proofs.YtcihcbnjfclkbaaGreatDoor
