/- Part 5 of the proof: a program logic, contracts of functions and plain facts; no conditions. -/
import Derived.Test.YtjecenjmphpmfaaGreatDoorQCountsTurned4
import Derived.Ground.Names2Prog
import Derived.Laws.Cover4
import Derived.Lib.AppendStr
import Derived.Lib.UnsafeStr
import Derived.Shelf.Lay
import Derived.Shelf.LaySoft
import Derived.Shelf.Slices.CompactS
import Derived.Shelf.Slices.Delete
import Derived.Shelf.Small.Wraps
import Derived.Shelf.Sort.Plain
import Derived.Shelf.Strconv.Atoi
import Derived.Shelf.Strconv.Itoa3
import Derived.Shelf.Strings.Builder1
import Derived.Shelf.Strings.Count
import Derived.Shelf.Strings.Cut
import Derived.Shelf.Strings.OnBuilder
import Derived.Shelf.Strings.Prefix
import Derived.Shelf.Strings.Shaped
import Derived.Shelf.Strings.Split
import Derived.Test.YtjecenjmphpmfaaGreatDoorProg
set_option linter.unusedVariables false
set_option linter.unusedSimpArgs false
namespace Go.HL
section
def zbg (w : List Str) (m : Int) : Bool := w.all (zcE · m)
def zdB (w : List Str) (m : Int) : List Int := if zbg w m then w.map (zT · m) else []
theorem zrZ (s : Str) (w : List Str) (m : Int) : zbg (s :: w) m = (zcE s m && zbg w m) := rfl
theorem zty [Tracks] {w : List Str} {m : Int} (h : zbg w m = false) : Weak (.tup [.raw (.slice none 0 0), .bool false]) (.tup [.slice 1 ((zdB w m).map (.int .i64)), .bool (zbg w m)]) := by
 rw [zdB, h]; exact zah (zal 1) (Weak.refl _)
theorem eqNs {w : List Str} {m : Int} (h : zbg w m = true) : HVal.tup [.slice 1 ((w.map (zT · m)).map (.int .i64)), .bool true] = .tup [.slice 1 ((zdB w m).map (.int .i64)), .bool (zbg w m)] := by
 rw [zdB, h]; rfl
theorem zqY {x : Str} {w w' : List Str} {m : Int} (hg : zbg w m = (zcE x m && zbg w' m)) (h : zcE x m = false) : zbg w m = false := by rw [hg, h]; rfl
theorem zne {w : List Str} {m : Int} (h : zbg w m = true) : zdB w m = w.map (zT · m) := by unfold zdB; rw [if_pos h]
theorem zop (w : List Str) (m : Int) : zdz w m = zbg w m ∧ ziZ w m = zdB w m := by
 have hb : zdz w m = zbg w m := by
  unfold zdz zbg
  congr 1
  funext s; exact ((zrd s m).1).symm
 refine ⟨hb, ?_⟩
 unfold ziZ zdB
 rw [hb]
 split
 ·rename_i h
  refine List.map_congr_left fun s hs => ?_
  have := List.all_eq_true.1 h s hs
  have h2 := (zrd s m).2 this
  rw [h2.1, h2.2]
 ·rfl
def plK (line : Str) : Bool := plC line && zbg (plN line) 15 && zbg (plD line) 15
theorem zmw (line : Str) : plB line = (plK line && (!((((spl 32 line).length : Nat) : Int) == 9) || decide (0 < zT ((spl 32 line).getD 8 []) 15))) := rfl
/-- What the line's reader gives back, right or not. -/
def plQ (line : Str) : Play := if plK line then plP line else zdc
theorem zxJ {line : Str} (h : plB line = true) : plQ line = plP line := by
 rw [zmw, Bool.and_eq_true] at h
 unfold plQ; rw [if_pos h.1]
theorem zdh {line : Str} (h : plK line = false) : plB line = false ∧ plQ line = zdc := by
 refine ⟨by rw [zmw, h]; rfl, by unfold plQ; rw [h]; rfl⟩
theorem zw8 {line : Str} (h : zcn line ((line.count 32 : Nat) + 1 : Int) = true ∧ out ((zeE line ((line.count 32 : Nat) + 1 : Int)).length : Int) 8 9 = false) :
 zeE line ((line.count 32 : Nat) + 1 : Int) = spl 32 line ∧ zcn line ((line.count 32 : Nat) + 1 : Int) = true ∧ plC line = true ∧ 8 ≤ (spl 32 line).length ∧ (spl 32 line).length ≤ 9 := by
 obtain ⟨h1, h2⟩ := h
 have hw : zeE line ((line.count 32 : Nat) + 1 : Int) = spl 32 line := by unfold zeE; rw [if_pos h1]
 rw [hw] at h2
 have ho := zdw h2
 refine ⟨hw, h1, ?_, by omega, by omega⟩
 unfold plC
 rw [← zql, h1, h2]; rfl
theorem zhX {line : Str} (h : zcn line ((line.count 32 : Nat) + 1 : Int) = true → out ((zeE line ((line.count 32 : Nat) + 1 : Int)).length : Int) 8 9 = true) : plK line = false := by
 have : plC line = false := by
  unfold plC
  rw [← zql]
  cases h1 : zcn line ((line.count 32 : Nat) + 1 : Int) with
  | false => rfl
  | true =>
    have h2 := h h1
    unfold zeE at h2
    rw [if_pos h1] at h2
    rw [h2]; rfl
 unfold plK; rw [this]; rfl
/-- The numbers of a line that has as many words as a play. -/
structure PlNs (line : Str) : Prop where
 n : (plN line).map (zT · 15) = [zT ((spl 32 line).getD 1 []) 15, zT ((spl 32 line).getD 2 []) 15, zT ((spl 32 line).getD 3 []) 15]
 m0 : ((plD line).map (zT · 15))[0]? = some (zT ((spl 32 line).getD 7 []) 15)
 m1 : (spl 32 line).length = 9 → ((plD line).map (zT · 15))[1]? = some (zT ((spl 32 line).getD 8 []) 15)
 l : (((plD line).map (zT · 15)).length : Int) = ((spl 32 line).length : Int) - 7
 all : (plN line ++ plD line).map (zT · 15) = zT ((spl 32 line).getD 1 []) 15 :: zT ((spl 32 line).getD 2 []) 15 :: zT ((spl 32 line).getD 3 []) 15 :: (plD line).map (zT · 15)
theorem zvb {line : Str} (h : 8 ≤ (spl 32 line).length ∧ (spl 32 line).length ≤ 9) : PlNs line := by
 have h1 : (plN line).map (zT · 15) = [zT ((spl 32 line).getD 1 []) 15, zT ((spl 32 line).getD 2 []) 15, zT ((spl 32 line).getD 3 []) 15] := by
  unfold plN
  generalize spl 32 line = ws at *
  match ws, h with
  | w0 :: w1 :: w2 :: w3 :: r, _ => rfl
  | [], h => simp at h
  | [_], h => simp at h
  | [_, _], h => simp at h
  | [_, _, _], h => simp at h
 refine ⟨h1, ?_, fun h9 => ?_, ?_, ?_⟩
 ·unfold plD
  rw [List.getElem?_map, List.getElem?_drop, List.getElem?_eq_getElem (by omega), List.getD_eq_getElem?_getD, List.getElem?_eq_getElem (by omega)]; rfl
 ·unfold plD
  rw [List.getElem?_map, List.getElem?_drop, List.getElem?_eq_getElem (by omega), List.getD_eq_getElem?_getD, List.getElem?_eq_getElem (by omega)]; rfl
 ·unfold plD; simp; omega
 ·rw [List.map_append, h1]; rfl
theorem zkN {line : Str} : (plN line).length ≤ 3 := by unfold plN; simp; omega
theorem znF {line : Str} (h : (spl 32 line).length ≤ 9) : (plD line).length ≤ 2 := by unfold plD; simp; omega
theorem zrx {line : Str} : ∀ s ∈ plN line, s.length ≤ line.length := fun s hs => zgg 32 line s (List.mem_of_mem_take (List.mem_of_mem_drop hs))
theorem zrb {line : Str} : ∀ s ∈ plD line, s.length ≤ line.length := fun s hs => zgg 32 line s (List.mem_of_mem_drop hs)
theorem zx9 {line : Str} (h1 : plC line = true) (h2 : zbg (plN line) 15 = true) (h3 : zbg (plD line) 15 = true) : plK line = true ∧ plQ line = plP line := by
 have : plK line = true := by unfold plK; rw [h1, h2, h3]; rfl
 exact ⟨this, by unfold plQ; rw [if_pos this]⟩
theorem zhA {line : Str} (h : zbg (plN line) 15 = true → zbg (plD line) 15 = false) : plK line = false := by
 unfold plK
 cases h2 : zbg (plN line) 15 with
 | false => simp
 | true => rw [h h2]; simp
theorem zhI {line : Str} (h : ((plD line).map (zT · 15)).length = 1) (hp : PlNs line) : plP line = ⟨(spl 32 line).getD 0 [], zT ((spl 32 line).getD 1 []) 15, zT ((spl 32 line).getD 2 []) 15, zT ((spl 32 line).getD 3 []) 15, (spl 32 line).getD 4 [], (spl 32 line).getD 5 [], (spl 32 line).getD 6 [], zT ((spl 32 line).getD 7 []) 15, 0⟩ := by
 have := hp.l
 unfold plP; rw [if_neg (by omega)]
theorem zhQ {line : Str} (h : (spl 32 line).length = 9) : plP line = ⟨(spl 32 line).getD 0 [], zT ((spl 32 line).getD 1 []) 15, zT ((spl 32 line).getD 2 []) 15, zT ((spl 32 line).getD 3 []) 15, (spl 32 line).getD 4 [], (spl 32 line).getD 5 [], (spl 32 line).getD 6 [], zT ((spl 32 line).getD 7 []) 15, zT ((spl 32 line).getD 8 []) 15⟩ := by
 unfold plP; rw [if_pos (by omega)]
theorem zhZ {line : Str} (h : plK line = true) (h9 : ((plD line).map (zT · 15)).length ≠ 2) (hp : PlNs line) : plB line = true := by
 have := hp.l
 rw [zmw, h, show (((((spl 32 line).length : Nat) : Int)) == 9) = false by rw [beq_eq_false_iff_ne]; omega]; rfl
theorem zhB {line : Str} (h : plK line = true) (h9 : (spl 32 line).length = 9) : plB line = decide (0 < zT ((spl 32 line).getD 8 []) 15) := by
 rw [zmw, h, show (((((spl 32 line).length : Nat) : Int)) == 9) = true by rw [beq_iff_eq]; omega]; rfl
theorem zpJ {line : Str} (hp : PlNs line) (h4 : 8 ≤ (spl 32 line).length) (h5 : (spl 32 line).length ≤ 9) (h : ¬ (((plD line).length : Int) = 2)) : ((plD line).map (zT · 15)).length = 1 := by
 have := hp.l
 simp only [List.length_map] at this ⊢
 omega
theorem zo6 {line : Str} (hp : PlNs line) (h4 : 8 ≤ (spl 32 line).length) (h5 : (spl 32 line).length ≤ 9) (h : ¬ (((plD line).length : Int) = 2)) : ((plD line).map (zT · 15)).length ≠ 2 := by
 have := zpJ hp h4 h5 h
 omega
end
section
theorem zpD : ∀ a b : Str, Op.bytesLess a b = decide (a < b)
 | [], [] => by simp [Op.bytesLess]
 | _ :: _, [] => by simp [Op.bytesLess]
 | [], _ :: _ => by simp [Op.bytesLess]
 | a :: x, b :: y => by
   have ih := zpD x y
   rw [Bool.eq_iff_iff, decide_eq_true_iff, List.cons_lt_cons_iff]
   unfold Op.bytesLess
   rw [ih]
   simp
theorem zwh {a b : Str} (h : SLt a b) : zaX a b < 0 := by
 have h1 : zaX a b ≤ 0 := by
  rw [zrp, zpD, decide_eq_false_iff_not]
  exact List.not_lt.2 h.1
 have h2 : zaX a b ≠ 0 := fun e => h.2 (zbH.1 e)
 omega
/-! the lines of right plays are right -/
structure LnKey (q : LnS) : Prop where
 S : ∀ s ∈ q.S, key s = true
 c : ∀ e ∈ q.c, key e.1.2 = true
theorem zpV {l : List Play} {t : List Str} {week n : Int} : ∀ (m : List Play) (q : LnS), LnKey q → (∀ x ∈ m, playFault x = 0) → LnKey (m.foldl (zdi l t week n) q)
 | [], _, h, _ => h
 | x :: m, q, h, hm => by
   rw [List.foldl_cons]
   refine zpV m _ ?_ fun y hy => hm y (List.mem_cons_of_mem _ hy)
   obtain ⟨_, _, _, _, ⟨_, k2, k3⟩, _, _⟩ := zcG (hm x List.mem_cons_self)
   unfold zdi
   split
   ·refine ⟨fun s hs => ?_, fun e he => ?_⟩
    ·rcases zfc.1 hs with rfl | hs
     ·exact k2
     ·exact h.S s hs
    ·rcases zce he with rfl | he
     ·exact k3
     ·exact h.c e he
   ·exact h
theorem zld {l : List Play} {t : List Str} {week n : Int} (hok : ∀ x ∈ l, playFault x = 0) (hl : l.length ≤ 15) (hw : zb3 week = true) (h0 : zaS l t week n = 0) : zbm (zcx l t week n) = 0 := by
 have h := zja (l := l) (m := l) (trust := t) (week := week) (n := n) hok
 have hk : LnKey (zaB l t week n l) := zpV (l := l) (t := t) (week := week) (n := n) l ⟨[], []⟩ ⟨(fun s h => by cases h), (fun e h => by cases h)⟩ hok
 obtain ⟨hsl, hsn⟩ := zf6 (t := t) (week := week) (n := n) hok hl
 have hf : zdS (zaB l t week n l).c (zaB l t week n l).S = false := by
  unfold zaS zfo at h0
  cases hq : zdS (zaB l t week n l).c (zaB l t week n l).S with
  | false => rfl
  | true => rw [hq] at h0; simp at h0
 have e : zcx l t week n = (zaQ (zaB l t week n l).S).map fun s => ⟨s, week, zbx (zaB l t week n l).c s⟩ := by
  unfold zcx zeO; rw [hf]; rfl
 unfold zdS at hf
 rw [Bool.or_eq_false_iff] at hf
 obtain ⟨f1, f2⟩ := hf
 refine zm1 (by omega) (fun y hy => ?_) ?_
 ·obtain ⟨y1, y2, y3⟩ := hsn y hy
  rw [e] at hy
  obtain ⟨s, hs, rfl⟩ := List.mem_map.1 hy
  have hsS : s ∈ (zaB l t week n l).S := (zfI _).mem_iff.1 hs
  have hnm : ((zaW (zaB l t week n l).c s).map (·.Name)).Nodup := by
   have := zjE h.c s
   unfold zbx at this
   exact ((zbo za9 _).map _).nodup_iff.1 this
  refine zdD.2 ⟨hk.S s hsS, hw, zof (Nat.le_trans y1 (by decide)) (fun z hz => ?_) (zlk hnm)⟩
  have hz' : z ∈ zaW (zaB l t week n l).c s := (zdk _).1 hz
  obtain ⟨p, hp, rfl⟩ := List.mem_map.1 hz'
  obtain ⟨p1, p2⟩ := List.mem_filter.1 hp
  have p3 : p.2 ≠ 0 := by
   simp only [Bool.and_eq_true, bne_iff_ne, ne_eq] at p2
   exact p2.2
  have p4 : out p.2 (-100000) 100000 = false := by
   have := List.any_eq_false.1 f1 p p1
   simpa using this
  refine zfL.2 ⟨hk.c p p1, ?_, p3⟩
  unfold out at p4
  simp only [Bool.or_eq_false_iff, decide_eq_false_iff_not] at p4
  dsimp only
  omega
 ·rw [e]
  refine List.pairwise_map.2 ((zhn h.S).imp fun {a b} hab => ?_)
  have h1 := zwh hab
  show orI [zaX a b, zcj week week] < 0
  rw [zh6, if_pos (by omega)]; exact h1
/-! parts that make the whole -/
structure Half (a b l : List Play) : Prop where
 sa : a.Sublist l
 sb : b.Sublist l
 all : ∀ x ∈ l, x ∈ a ∨ x ∈ b
theorem Half.nil : Half [] [] [] := ⟨List.Sublist.refl _, List.Sublist.refl _, fun x h => by cases h⟩
theorem Half.left {a b l : List Play} (h : Half a b l) (x : Play) : Half (a ++ [x]) b (l ++ [x]) :=
 ⟨h.sa.append (List.Sublist.refl _), h.sb.trans (List.sublist_append_left _ _), fun y hy => by
  rcases List.mem_append.1 hy with hy | hy
  ·rcases h.all y hy with q | q
   ·exact .inl (List.mem_append_left _ q)
   ·exact .inr q
  ·exact .inl (List.mem_append_right _ hy)⟩
theorem Half.right {a b l : List Play} (h : Half a b l) (x : Play) : Half a (b ++ [x]) (l ++ [x]) :=
 ⟨h.sa.trans (List.sublist_append_left _ _), h.sb.append (List.Sublist.refl _), fun y hy => by
  rcases List.mem_append.1 hy with hy | hy
  ·rcases h.all y hy with q | q
   ·exact .inl q
   ·exact .inr (List.mem_append_left _ q)
  ·exact .inr (List.mem_append_right _ hy)⟩
end
section
theorem ziP : ∀ l : List TurnedS, zbG zaH l l = true
 | [] => rfl
 | a :: r => by simp [zbG, zdt, ziP r, zh, zbX, eqH]
end
section
theorem zsZ {m : List MendS} {week : Int} (h : zaz m = 0) : zaz (zco m week) = 0 := by
 obtain ⟨h1, h2, h3⟩ := zoq h
 have hl := zho m week
 unfold zaz
 rw [if_neg (by omega)]
 exact zml zbU (fun x hx => h2 x (List.mem_filter.1 hx).1) (h3.filter _) _ 0 rfl
theorem zpY {l : List Play} {t : List Str} {m : List MendS} {week n : Int} (hok : ∀ x ∈ l, playFault x = 0) (hl : l.length ≤ 15) (hm : m.length ≤ 24) (hw : zb3 week = true) (hm0 : zaz m = 0) : zbm (knL l t m week n) = 0 ∧ (knL l t m week n).length ≤ 40 ∧ ∀ y ∈ knL l t m week n, y.Stats.length ≤ 40 := by
 unfold knL
 split
 ·exact ⟨rfl, by simp, fun y hy => by cases hy⟩
 ·rename_i h0
  have h0' : zaS l t week n = 0 := by simpa using h0
  have h40 := zl8 (t := t) (week := week) (n := n) hok hl hm
  have h1 := ziW (zcx l t week n) m n
  have h2 := (zf6 (t := t) (week := week) (n := n) hok hl).1
  refine ⟨zs9 (zld hok hl hw h0') hm0 h40 (by omega), by unfold mdL; rw [zcZ, List.length_map]; omega, fun y hy => ?_⟩
  unfold mdL at hy
  rw [zdk] at hy
  obtain ⟨q, hq, rfl⟩ := List.mem_map.1 hy
  have := h40 q hq
  show (zaV za9 q.2).length ≤ 40
  rw [zcZ]; omega
theorem zrO (m : List MendS) (week : Int) : (m.filter fun x => !(!(x.Week == week))) = zco m week := by
 unfold zco; simp
/-- The fault of what is asked. -/
def zeC (l : List Play) (t : List Str) (m : List MendS) (week f g : Int) : Int := orI [zz l, zbw t, zaz m, if zb3 week then 0 else 1, if zba f then 0 else 1, if zba g then 0 else 1, if decide (g < f) then 1 else 0]
def znn (l : List Play) (t : List Str) (m : List MendS) (week f g : Int) : Int := if zeC l t m week f g ≠ 0 then zeC l t m week f g else zcs l t week f g
def zji (l : List Play) (t : List Str) (m : List MendS) (week f g : Int) : List TurnedS := if zeC l t m week f g ≠ 0 then [] else zcc l t m week f g
theorem zeo {l : List Play} {t : List Str} {m : List MendS} {week f g : Int} (h : orI [zz l, zbw t, zaz m] ≠ 0) : zeC l t m week f g = orI [zz l, zbw t, zaz m] := by
 unfold zeC
 by_cases h1 : zz l = 0
 ·by_cases h2 : zbw t = 0
  ·by_cases h3 : zaz m = 0
   ·exact absurd (by simp [orI, h1, h2, h3]) h
   ·simp [orI, h1, h2, h3]
  ·simp [orI, h1, h2]
 ·simp [orI, h1]
theorem ziM {l : List Play} {t : List Str} {m : List MendS} {week f g : Int} (h1 : zz l = 0) (h2 : zbw t = 0) (h3 : zaz m = 0) (h : ¬ (zb3 week = true ∧ zba f = true ∧ zba g = true ∧ f ≤ g)) : zeC l t m week f g = 1 := by
 unfold zeC
 by_cases h4 : zb3 week = true
 ·by_cases h5 : zba f = true
  ·by_cases h6 : zba g = true
   ·have : g < f := by
     rcases Int.lt_or_le g f with q | q
     ·exact q
     ·exact absurd ⟨h4, h5, h6, q⟩ h
    simp [orI, h1, h2, h3, h4, h5, h6, this]
   ·simp [orI, h1, h2, h3, h4, h5, h6]
  ·simp [orI, h1, h2, h3, h4, h5]
 ·simp [orI, h1, h2, h3, h4]
theorem ztW {l : List Play} {t : List Str} {m : List MendS} {week f g : Int} (h1 : zz l = 0) (h2 : zbw t = 0) (h3 : zaz m = 0) (h4 : zb3 week = true) (h5 : zba f = true) (h6 : zba g = true) (h7 : f ≤ g) : zeC l t m week f g = 0 := by
 unfold zeC
 have : ¬ g < f := by omega
 simp [orI, h1, h2, h3, h4, h5, h6, this]
theorem zsY {l : List Play} {t : List Str} {m : List MendS} {week f g : Int} (h : zeC l t m week f g = 0) : zz l = 0 ∧ zbw t = 0 ∧ zaz m = 0 ∧ zb3 week = true ∧ zba f = true ∧ zba g = true ∧ f ≤ g := by
 by_cases h0 : orI [zz l, zbw t, zaz m] = 0
 ·obtain ⟨h1, h2, h3⟩ := orI3 h0
  refine ⟨h1, h2, h3, ?_⟩
  by_cases hq : zb3 week = true ∧ zba f = true ∧ zba g = true ∧ f ≤ g
  ·exact hq
  ·rw [ziM h1 h2 h3 hq] at h; cases h
 ·rw [zeo h0] at h; exact absurd h h0
theorem zd8 {l : List Play} {t : List Str} {m : List MendS} {week f g : Int} (h : zeC l t m week f g ≠ 0) : znn l t m week f g = zeC l t m week f g ∧ zji l t m week f g = [] := by
 unfold znn zji; rw [if_pos h, if_pos h]; exact ⟨rfl, rfl⟩
theorem zqb {l : List Play} {t : List Str} {m : List MendS} {week f g : Int} (h : zeC l t m week f g = 0) : znn l t m week f g = zcs l t week f g ∧ zji l t m week f g = zcc l t m week f g := by
 unfold znn zji; rw [if_neg (by simp [h]), if_neg (by simp [h])]; exact ⟨rfl, rfl⟩
theorem zun {l : List Play} {t : List Str} {m : List MendS} {week f g : Int} (hl : l.length ≤ 15) (hm : m.length ≤ 24) : (zji l t m week f g).length ≤ 1000000 := by
 by_cases h : zeC l t m week f g = 0
 ·obtain ⟨h1, _⟩ := zsY h
  rw [(zqb h).2]
  exact zvM (zea h1) hl hm
 ·rw [(zd8 h).2]; simp
/-- The text of few plays is told or refused for the plays' own fault. -/
theorem zuv {l : List Play} (hl : l.length ≤ 15) : ze5 zz zbb l = zz l ∧ zgl zz zbb l = if zz l = 0 then txT zbb l else [] := by
 by_cases h : zz l = 0
 ·have h1 := zgE (zkZ h).2
  have h2 := zrg zz zbb h (by omega)
  exact ⟨by rw [h2, h], by unfold zgl; rw [if_pos h2, if_pos h]⟩
 ·have h2 := zrm zz zbb h
  exact ⟨h2, by unfold zgl; rw [if_neg (by rw [h2]; exact h), if_neg h]⟩
end
section
section
variable {r : Room} {k : List Keep} {s : List Swap} {l : List Pick} {w : List Wish} {n : Int}
end
end
section
section
variable {r : Room} {k : List Keep} {s : List Swap} {l : List Pick}
def zkR (A : List Pick) (p : Pick) : List Pick := A.set p.No.toNat p
def NoInc (A : List Pick) : Prop := ∀ (i : Nat) (p : Pick), A[i]? = some p → p.No = (i : Int)
theorem zlg : ∀ (t : List Turn) (i j : Nat) (p : Pick), (zgc r k i t)[j]? = some p → p.No = ((i + j : Nat) : Int)
 | [], i, j, p, h => by simp [zgc] at h
 | x :: t, i, 0, p, h => by
   simp only [zgc, List.getElem?_cons_zero, Option.some.injEq] at h
   subst h; rw [(zna r x k _).1]; rfl
 | x :: t, i, j + 1, p, h => by
   simp only [zgc, List.getElem?_cons_succ] at h
   rw [zlg t (i + 1) j p h]; congr 1; omega
theorem zq3 : NoInc (zkL r k s) := fun i p h => by
 have := zlg _ 0 i p h
 rw [this]; congr 1; omega
theorem NoInc.pw {A : List Pick} (h : NoInc A) : A.Pairwise fun a b => a.No < b.No :=
 List.pairwise_iff_getElem.2 fun i j hi hj hij => by
  rw [h i _ (List.getElem?_eq_getElem hi), h j _ (List.getElem?_eq_getElem hj)]; omega
theorem NoInc.put {A : List Pick} (h : NoInc A) {p : Pick} (hp : 0 ≤ p.No) : NoInc (zkR A p) := fun i x hx => by
 unfold zkR at hx
 by_cases e : p.No.toNat = i
 ·subst e
  have hlt := zK hx
  rw [List.length_set] at hlt
  rw [List.getElem?_set_self hlt] at hx; cases hx; omega
 ·rw [List.getElem?_set_ne e] at hx; exact h i x hx
theorem zmu {α : Type} (q : α → Bool) {x y : α} (hx : q x = true) (hy : q y = false) : ∀ {A : List α} {j : Nat}, A[j]? = some y → ((A.set j x).filter q).Perm (A.filter q ++ [x])
 | [], j, h => by simp at h
 | a :: A, 0, h => by
   simp at h; subst h
   simp only [List.set_cons_zero, List.filter_cons, hx, hy, if_true, Bool.false_eq_true, if_false]
   exact (List.perm_append_comm (l₁ := [x]))
 | a :: A, j + 1, h => by
   simp only [List.getElem?_cons_succ] at h
   have := zmu q hx hy h
   simp only [List.set_cons_succ, List.filter_cons]
   split
   ·exact this.cons a
   ·exact this
def isP (p : Pick) : Bool := !(p.Player == [])
structure AllOk (r : Room) (k : List Keep) (s : List Swap) (l : List Pick) (i : Nat) (A : List Pick) : Prop where
 inc : NoInc A
 len : A.length = (zkL r k s).length
 free : ∀ (j : Nat) (p : Pick), i ≤ j → (zgh r k s)[j]? = some p → A[p.No.toNat]? = some p
 perm : (A.filter isP).Perm ((zkL r k s).filter isP ++ l.take i)
theorem zpN {j : Nat} {p : Pick} (h : (zgh r k s)[j]? = some p) : p ∈ zkL r k s ∧ p.Player = [] := by
 have := List.mem_filter.1 (List.mem_of_getElem? h)
 exact ⟨this.1, by simpa using this.2⟩
theorem zvA {j : Nat} {p : Pick} (h : (zgh r k s)[j]? = some p) : 0 ≤ p.No ∧ (zkL r k s)[p.No.toNat]? = some p := by
 obtain ⟨m, hm⟩ := List.getElem?_of_mem (zpN h).1
 have := zq3 m p hm
 exact ⟨by omega, by rw [this]; simpa using hm⟩
theorem zwk (h : zme r k s l = 0) {i : Nat} {x : Pick} (hx : l[i]? = some x) : ∃ p, (zgh r k s)[i]? = some p ∧ x.No = p.No ∧ x.Player ≠ [] := by
 obtain ⟨h1, h2, h3⟩ := zs5 h
 have hi := zK hx
 obtain ⟨_, a2, _, a4, _⟩ := zwG (zpZ l 0 rfl h3 i x (Nat.zero_le _) hx)
 have hg := getD_some (d := zmV) (show i < (zgh r k s).length by omega)
 refine ⟨_, hg, ?_, (zwf (zp1 h1).1).ne _ a4⟩
 rw [a2]; congr 2; simp; omega
theorem AllOk.step (h : zme r k s l = 0) {i : Nat} {x : Pick} (hx : l[i]? = some x) {A : List Pick} (ok : AllOk r k s l i A) : AllOk r k s l (i + 1) (zkR A x) ∧ 0 ≤ x.No ∧ x.No.toNat < A.length ∧ ∃ y, A[x.No.toNat]? = some y := by
 obtain ⟨p, hp, hn, hpl⟩ := zwk h hx
 obtain ⟨n0, _⟩ := zvA hp
 have hA := ok.free i p (Nat.le_refl _) hp
 have hlt := zK hA
 refine ⟨⟨ok.inc.put (by omega), by unfold zkR; rw [List.length_set]; exact ok.len, fun j q hj hq => ?_, ?_⟩, by omega, by rw [hn]; exact hlt, p, by rw [hn]; exact hA⟩
 ·have hq1 := ok.free j q (by omega) hq
  have hne : p.No < q.No := by
   have hpw : (zgh r k s).Pairwise fun a b => a.No < b.No := (zq3 (r := r) (k := k) (s := s)).pw.sublist List.filter_sublist
   obtain ⟨hi', e1⟩ := List.getElem?_eq_some_iff.1 hp
   obtain ⟨hj', e2⟩ := List.getElem?_eq_some_iff.1 hq
   have := List.pairwise_iff_getElem.1 hpw i j hi' hj' (by omega)
   rw [e1, e2] at this; exact this
  unfold zkR
  rw [List.getElem?_set_ne (by omega)]; exact hq1
 ·have hf := zmu isP (x := x) (y := p) (by unfold isP; simpa using hpl) (by unfold isP; simp [(zpN hp).2]) hA
  unfold zkR
  rw [hn, zad hx, ← List.append_assoc]
  exact hf.trans (ok.perm.append_right _)
end
end
end Go.HL
namespace Go.Proofs.YtjecenjmphpmfaaGreatDoor
set_option maxRecDepth 100000
set_option linter.unusedVariables false
set_option linter.unusedSimpArgs false
section
open Go.HL

end
end Go.Proofs.YtjecenjmphpmfaaGreatDoor
namespace Go.HL
section
variable {P : Program}
section
variable {e : Env} {dst : Option Tmp} {ty : TypeId} {pos : String} {af : Array Edge} {g : Option (Nat × Bool)} {M : List MObj} {K : HVal → List MObj → Prop}
end
end
section
open Go.Proofs Go.Shelf
variable {P : Program}
/-- A string's bytes as cells. -/
def bvs (s : List UInt8) : List Value := s.map fun c => .int .u8 c.toNat
theorem zro {s : List UInt8} {i : Nat} {c : UInt8} (h : s[i]? = some c) : (bvs s)[i]? = some (.int .u8 c.toNat) := by simp [bvs, h]
theorem zix (s : List UInt8) : (bvs s).length = s.length := by simp [bvs]
theorem zvR (s : List UInt8) : Lib.strCells ⟨s.toArray⟩ = bvs s := by simp [Lib.strCells, bvs]
/-- A slice's data pointer. -/
def zi0 : Value → Value
 | .slice a _ _ => .pointer a
 | _ => .pointer none
theorem MSat.bld_one {I : Imm} {w : World} {b : Nat} {T el : TypeId} {h v : Value} {s : List UInt8} (hm : MSat I w (.bld b T el h v s)) : v.oneCell' = true := by
 rcases hm.2 with ⟨rfl, _⟩ | ⟨g, cap, rc, rfl, _⟩ <;> rfl
theorem MSat.bld_len {I : Imm} {w : World} {b : Nat} {T el : TypeId} {h v : Value} {s : List UInt8} (hm : MSat I w (.bld b T el h v s)) : ∃ a cap, v = .slice a s.length cap := by
 rcases hm.2 with ⟨rfl, rfl⟩ | ⟨g, cap, rc, rfl, _⟩
 ·exact ⟨none, 0, rfl⟩
 ·exact ⟨_, _, rfl⟩
theorem ztg {u : Value} (h : u.oneCell' = true) : u.cells.toList = [u] := by cases u <;> first | rfl | simp [Value.oneCell'] at h
theorem Sat.bld_nodup [Tracks] {I : Imm} {M : List MObj} {w : World} {b : Nat} {T el : TypeId} {h v : Value} {s : List UInt8} (hs : Sat P I (.bld b T el h v s :: M) w) : (b :: zeR v).Nodup ∧ (∀ k ∈ b :: zeR v, k ∉ blocks M) ∧ ∀ k ∈ b :: zeR v, I.heap k = none := by
 have h1 := hs.nodup
 simp only [blocks, List.flatMap_cons] at h1
 have h2 := List.nodup_append.1 h1
 exact ⟨h2.1, fun k hk hk' => h2.2.2 k hk k hk' rfl, fun k hk => hs.apart k (by simp only [blocks, List.flatMap_cons]; exact List.mem_append_left _ hk)⟩
section
variable {e : Env} {dst : Option Tmp} {ty : TypeId} {pos : String} {af : Array Edge} {g : Option (Nat × Bool)} {M : List MObj} {K : HVal → List MObj → Prop}

theorem zm4 [Tracks] {t : TypeId} (el : TypeId) {d : TD} {size bytes : Nat} {zero : Value} (hf : Fits P t d size bytes zero) (hz : zero.cells = #[.pointer none, .slice none 0 0])
 (hk : ∀ b, K (.raw (.pointer (some ⟨b, 0, none⟩))) (.bld b t el (.slice none 0 0) (.slice none 0 0) [] :: M)) : EOp P e M ⟨dst, .alloc t, ty, pos, af, g⟩ K :=
 EOp.of_run fun I F a w ho hs => by
  refine ⟨.pointer (some ⟨w.heap.size, 0, none⟩), _, _, push w (.cells zero.cells t (0, 0)), I, ?_, .refl I, hk w.heap.size, .raw _ rfl, ?_⟩
  ·simp [execOp, Instr.alloc, hf.run_zero, newVar, newRow]
  ·exact hs.new_own _ _ rfl ⟨⟨rfl, _, .inl rfl, by simp [push, hz]⟩, .inl ⟨rfl, rfl⟩⟩

theorem zhN [Tracks] {x : Operand} {t T el tel : TypeId} {size bytes : Nat} {zero : Value} {i b : Nat} {h v : Value} {s : List UInt8} (hf : Fits P t (.slice tel) size bytes zero)
 (hx : zA e x = some (.raw (.pointer (some ⟨b, 1, none⟩)))) (hm : M[i]? = some (.bld b T el h v s)) (hk : K (.raw h) M) : EOp P e M ⟨dst, .load t x, ty, pos, af, g⟩ K :=
 EOp.of_run fun I F a w ho hs => by
  have h1 := (ho.one (x := x) (by simp [Op.operands]) hx).raw_inv
  obtain ⟨⟨h0, p, hp, h2⟩, h3⟩ := hs.obj _ (List.mem_append_left _ (List.mem_of_getElem? hm))
  have hV : ∀ (j : Nat) (c : HVal) (u : Value), [HVal.junk, .raw h][j]? = some c → (#[p, h] : Array Value)[0 + j]? = some u → V I c u := by
   intro j c u a1 a2
   match j, a1, a2 with
   | 0, a1, a2 => simp at a1; subst a1; exact .junk _
   | 1, a1, a2 => simp at a1 a2; subst a1; subst a2; exact .raw _ h0
   | j + 2, a1, _ => simp at a1
  obtain ⟨u, h5, h6⟩ := zec (I := I) (o := 1) (cs := [.junk, .raw h]) (off := 1) (base := 0) hf h2 rfl (by simp) hV (.inl ⟨rfl, rfl⟩)
  exact ⟨u, .raw h, M, w, I, by simp [execOp, h1, Instr.loadAt, Instr.sureAddr, h5], .refl I, hk, h6, hs⟩

theorem zrV [Tracks] {x y : Operand} {t T el tel : TypeId} {bytes : Nat} {zero : Value} {i b : Nat} {h v : Value} {s : List UInt8} (hf : Fits P t (.slice tel) 1 bytes zero)
 (hx : zA e x = some (.raw (.pointer (some ⟨b, 1, none⟩)))) (hy : zA e y = some (.raw v)) (hm : M[i]? = some (.bld b T el h v s))
 (hk : K .junk (M.set i (.bld b T el v v s))) : EOp P e M ⟨dst, .store t x y, ty, pos, af, g⟩ K :=
 EOp.of_skip fun I F a w hop hs => by
  have h1 := (hop.one (x := x) (by simp [Op.operands]) hx).raw_inv
  have hye := (hop.one (x := y) (by simp [Op.operands]) hy).raw_inv
  have hp := hs.pull hm
  have hobj := hp.obj _ List.mem_cons_self
  have hu1 := hobj.bld_one
  obtain ⟨hnd, _, _⟩ := hp.bld_nodup
  obtain ⟨⟨h0, p, hpp, h2⟩, h3⟩ := hobj
  have hc1 := ztg hu1
  obtain ⟨w', rc', g1, g2, g3, g4, g5, g6, g7, g8, g9⟩ := zcu (P := P) b T (0, 0) 1 [v] 0 w #[p, h] h2 (Free.zero _) (by simpa using hu1) (by simp)
  have hrc : rc' = #[p, v] := by
   apply Array.ext_getElem?
   intro x
   rw [g4 x]
   match x with
   | 0 => simp
   | 1 => simp
   | x + 2 => simp
  subst hrc
  refine ⟨_, w', I, ?_, .refl I, hk, ?_⟩
  ·simp only [execOp, h1, hye, Instr.storeAt, Instr.sureAddr, Sem.run_bind, Sem.run_pure, Result.andThen_ok, storeVar, hf.run_sizeOf]
   rw [if_neg (by rw [← Array.length_toList, hc1]; simp)]
   simp only [Sem.run_pure, Result.andThen_ok, hc1, g1]
  ·refine Sat.unpull hm (hp.change (m' := .bld b T el v v s) (fun k hk hnk => g5 k (fun e => hnk (e ▸ List.mem_cons_self))) (fun k hk => .inl hk) hnd ?_ g7 g8 g9.1 (fun _ => Nat.le_of_eq g9.2.symm))
   refine ⟨⟨hu1, p, hpp, g2⟩, ?_⟩
   rcases h3 with h3 | ⟨g, cap, rc, rfl, h4, h5, h6⟩
   ·exact .inl h3
   ·refine .inr ⟨g, cap, rc, rfl, ?_, h5, h6⟩
    rw [g5 g (fun e => by subst e; simp [zeR] at hnd)]; exact h4

theorem zqG [Tracks] {x y : Operand} {t el u T : TypeId} {size bytes b2 su bu : Nat} {zero z2 zu : Value} {d : TD} {i b : Nat} {h v : Value} {s r : List UInt8}
 (hf : Fits P t (.slice el) size bytes zero) (hu : Fits P u .str su bu zu) (hel : Fits P el d 1 b2 z2) (hz : z2.cells.size = 1) (hby : Nat.ble b2 100000 = true)
 (hx : zA e x = some (.raw v)) (hy : zA e y = some (.str r)) (hm : M[i]? = some (.bld b T el h v s)) (hlen : s.length + r.length ≤ 1000000000)
 (hk : ∀ v', K (.raw v') (M.set i (.bld b T el h v' (s ++ r)))) : EOp P e M ⟨dst, .call ⟨.builtin .append, #[x, y], #[t, u]⟩, ty, pos, af, g⟩ K :=
 EOp.of_run fun I F a w ho hs => by
  have h1 := (ho.one (x := x) (by simp [Op.operands, Call.operands]) hx).raw_inv
  have hyv := ho.one (x := y) (by simp [Op.operands, Call.operands]) hy
  have hye : a.eval y = .string ⟨r.toArray⟩ := hyv.str_inv
  have hp := hs.pull hm
  have hobj := hp.obj _ List.mem_cons_self
  have hu1 := hobj.bld_one
  obtain ⟨hnd, _, _⟩ := hp.bld_nodup
  obtain ⟨⟨h0, p, hpp, h2⟩, h3⟩ := hobj
  have hbl : b < w.heap.size := by
   rcases Nat.lt_or_ge b w.heap.size with h' | h'
   ·exact h'
   ·simp [Array.getElem?_eq_none h'] at h2
  have hsize : (⟨r.toArray⟩ : ByteArray).size = r.length := by simp [ByteArray.size]
  have hnv : ∀ w1 : World, (Builtin.firstCells 1 r.length (a.eval y)).run P w1 = .ok (bvs r).toArray w1 := fun w1 => by
   rw [hye, ← zvR, ← hsize]; exact Lib.run_firstCells_string w1 1 _
  have hov : ∀ w1 : World, w1.heap = w.heap → (Builtin.firstCells 1 s.length v).run P w1 = .ok (bvs s).toArray w1 := fun w1 hw1 => by
   rcases h3 with ⟨rfl, rfl⟩ | ⟨g, cap, rc, rfl, h4, h5, h6⟩
   ·simp [Builtin.firstCells, bvs]
   ·have h3' : w1.heap[g]? = some (.cells rc el (0, 0)) := by rw [hw1]; exact h4
    have := run_loadCells_list (P := P) w1 ⟨g, 0, none⟩ (bvs s) fun j c hj => by
     rw [zcb, zcH h3']
     rw [bvs, List.getElem?_map] at hj
     cases hq : s[j]? with
     | none => rw [hq] at hj; cases hj
     | some c' => rw [hq] at hj; simp at hj; subst hj; simpa using h6 j c' hq
    rw [zix] at this
    simp only [Builtin.firstCells, Nat.mul_one]
    exact this
  have hboth : ∀ (i : Nat) (c : UInt8), (s ++ r)[i]? = some c → ((bvs s).toArray ++ (bvs r).toArray)[i]? = some (.int .u8 c.toNat) := fun i c hc => by
   have : bvs s ++ bvs r = bvs (s ++ r) := by simp [bvs]
   rw [List.append_toArray, this, List.getElem?_toArray]; exact zro hc
  have done : (∃ v' w', (execOp a.eval ⟨dst, .call ⟨.builtin .append, #[x, y], #[t, u]⟩, ty, pos, af, g⟩).run P w = .ok (.value v') w' ∧ Sat P I (.bld b T el h v' (s ++ r) :: (M.eraseIdx i ++ F)) w') →
   ∃ v h M' w' J, (execOp a.eval ⟨dst, .call ⟨.builtin .append, #[x, y], #[t, u]⟩, ty, pos, af, g⟩).run P w = .ok (.value v) w' ∧ Le I J ∧ K h M' ∧ V J h v ∧ Sat P J (M' ++ F) w' := by
   rintro ⟨v', w', r1, r2⟩
   exact ⟨v', .raw v', _, w', I, r1, .refl I, hk v', .raw _ (r2.obj _ List.mem_cons_self).bld_one, Sat.unpull hm r2⟩
  apply done
  have hlenof : ∀ w1 : World, (Builtin.lenOf (a.eval y)).run P w1 = .ok r.length w1 := fun w1 => by rw [hye, ← hsize]; simp [Builtin.lenOf]
  -- the new block
  have grows : ∀ (base : Option Addr) (cap : Nat), v = .slice base s.length cap → cap < s.length + r.length →
   ∃ v' w', (execOp a.eval ⟨dst, .call ⟨.builtin .append, #[x, y], #[t, u]⟩, ty, pos, af, g⟩).run P w = .ok (.value v') w' ∧ Sat P I (.bld b T el h v' (s ++ r) :: (M.eraseIdx i ++ F)) w' := by
   intro base cap hv hcap
   let nc := (Question.appendCap (s.length + r.length) cap el).cut (w.tape w.drawn (.appendCap (s.length + r.length) cap el))
   have hnc : s.length + r.length ≤ nc := by simp only [nc, Question.cut]; omega
   have hnm : nc ≤ 9223372036854775807 := by
    simp only [nc, Question.cut]
    have := Nat.mod_lt (w.tape w.drawn (.appendCap (s.length + r.length) cap el)) (show 0 < 2 ^ 63 - (s.length + r.length) by omega)
    omega
   let cells : Array Value := (bvs s).toArray ++ (bvs r).toArray ++ Builtin.zeroCells z2.cells (nc - (s.length + r.length))
   refine ⟨.slice (some ⟨w.heap.size, 0, none⟩) (s.length + r.length) nc, { w with heap := w.heap.push (.cells cells el (0, 0)), drawn := w.drawn + 1 }, ?_, ?_⟩
   ·rw [zdR]
    have hb1 : ¬ s.length + r.length ≤ cap := by omega
    have hb2 : ¬ ((((s.length + r.length : Nat) : Int) > IntKind.i64.max) ∧ (False ∨ b2 = 0)) := by
     have : IntKind.i64.max = 9223372036854775807 := by decide
     rw [this]; omega
    have hb3 : ¬ Builtin.nextslicecap (s.length + r.length) cap * b2 > 2 ^ 48 := by
     have e1 := zfx hcap
     have e2 : b2 ≤ 100000 := Nat.le_of_ble_eq_true hby
     have : Builtin.nextslicecap (s.length + r.length) cap * b2 ≤ (2 * 1000000000 + 192) * 100000 := Nat.mul_le_mul (by omega) e2
     omega
    obtain ⟨ti, t1, t2, t3, t4⟩ := hel.typeInfo
    have hti : ∀ w1, (Go.typeInfo el).run P w1 = .ok ti w1 := fun w1 => by simp [Go.typeInfo, t1]
    simp only [List.map_toArray, List.map_cons, List.map_nil, h1, Builtin.append_, List.getElem?_toArray, List.getElem?_cons_zero, List.getElem?_cons_succ, hv, Sem.run_bind, run_underlying hf.slice, run_underlying hu.strD, Result.andThen_ok,
     hel.run_sizeOf, Sem.run_pure, Bool.false_eq_true, if_false, hlenof, hb1, hti, t3]
    rw [if_neg (by simpa using hb2)]
    simp only [Sem.run_bind, Sem.run_pure, Result.andThen_ok, hti, t3]
    rw [if_neg hb3]
    have hch : (choose (.appendCap (s.length + r.length) cap el)).run P w = .ok nc { w with drawn := w.drawn + 1 } := by
     simp [Question.forced, nc]
    simp only [Sem.run_pure, Sem.run_bind, Result.andThen_ok, hch, run_askRoom, hti]
    rw [← hv]
    have hov' := hov { w with drawn := w.drawn + 1 } rfl
    have hnv' := hnv { w with drawn := w.drawn + 1 }
    simp only [hov', Bool.not_false, if_true, hnv', Result.andThen_ok, hel.run_zero, newRow, Sem.run_bind, Sem.run_pure, run_newObj]
    rfl
   ·refine hp.change (m' := .bld b T el h (.slice (some ⟨w.heap.size, 0, none⟩) (s.length + r.length) nc) (s ++ r)) (fun k hk hnk => ?_) ?_ ?_ ?_ rfl rfl rfl
    ·simp [Array.getElem?_push, Nat.ne_of_lt hk]
    ·intro k hk
     simp [MObj.blocks, zeR] at hk
     rcases hk with rfl | rfl
     ·exact .inl List.mem_cons_self
     ·exact .inr (Nat.le_refl _)
    ·simp [MObj.blocks, zeR]; omega
    ·refine ⟨⟨h0, p, hpp, ?_⟩, .inr ⟨w.heap.size, nc, cells, by simp, by simp, ⟨by omega, by simpa using hnc, hnm, ?_⟩, fun j c hc => ?_⟩⟩
     ·simp [Array.getElem?_push, Nat.ne_of_lt hbl]; exact h2
     ·simp [cells, zdG, hz, zix]; omega
     ·have hj := zK hc
      simp only [List.length_append] at hj
      simp only [cells]
      rw [Array.getElem?_append_left (by simp [zix]; omega)]
      exact hboth j c hc
  rcases h3 with ⟨hv, hs0⟩ | ⟨gb, cap, rc, hv, h4, ⟨h5a, h5b, h5c, h5d⟩, h6⟩
  ·by_cases hr0 : r = []
   ·subst hr0
    refine ⟨v, w, ?_, by rw [List.append_nil]; exact hp⟩
    subst hs0
    have hnv' := hnv w
    have hl0 := hlenof w
    simp only [List.length_nil] at hnv' hl0
    rw [zdR]
    simp only [List.map_toArray, List.map_cons, List.map_nil, h1, Builtin.append_, List.getElem?_toArray, List.getElem?_cons_zero, List.getElem?_cons_succ, hv, Sem.run_bind, run_underlying hf.slice, run_underlying hu.strD, Result.andThen_ok,
     hel.run_sizeOf, Sem.run_pure, Bool.false_eq_true, if_false, hl0, Nat.le_refl, if_true, Bool.not_false, hnv', Nat.add_zero]
   ·have hpos : 0 < r.length := by cases r with | nil => exact absurd rfl hr0 | cons _ _ => simp
    exact grows none 0 (by rw [hv, hs0]; rfl) (by omega)
  ·by_cases hfit : s.length + r.length ≤ cap
   ·obtain ⟨w', rc', g1, g2, g3, g4, g5, g6, g7, g8, g9⟩ := zcu (P := P) gb el (0, 0) s.length (bvs r) 0 w rc h4 (Free.zero _) (fun c hc => by simp only [bvs, List.mem_map] at hc; obtain ⟨c', _, rfl⟩ := hc; rfl) (by rw [zix]; omega)
    refine ⟨.slice (some ⟨gb, 0, none⟩) (s.length + r.length) cap, w', ?_, ?_⟩
    ·rw [zdR]
     have hnv' := hnv w
     have hl0 := hlenof w
     simp only [List.map_toArray, List.map_cons, List.map_nil, h1, Builtin.append_, List.getElem?_toArray, List.getElem?_cons_zero, List.getElem?_cons_succ, hv, Sem.run_bind, run_underlying hf.slice, run_underlying hu.strD, Result.andThen_ok,
      hel.run_sizeOf, Sem.run_pure, Bool.false_eq_true, if_false, hl0, hfit, if_true, Bool.not_false, hnv', zcb, Nat.mul_one, Nat.zero_add, g1]
    ·have hne : b ≠ gb := fun e => by subst e; rw [hv] at hnd; simp [zeR] at hnd
     refine hp.change (m' := .bld b T el h (.slice (some ⟨gb, 0, none⟩) (s.length + r.length) cap) (s ++ r)) (fun k hk hnk => g5 k ?_) ?_ ?_ ?_ g7 g8 g9.1 (fun _ => Nat.le_of_eq g9.2.symm)
     ·rintro rfl; exact hnk (by rw [hv]; simp [MObj.blocks, zeR])
     ·intro k hk; left; rw [hv]; exact hk
     ·simp [MObj.blocks, zeR]; exact hne
     ·refine ⟨⟨h0, p, hpp, by rw [g5 b hne]; exact h2⟩, .inr ⟨gb, cap, rc', by simp, g2, ⟨h5a, by simpa using hfit, h5c, by rw [g3]; exact h5d⟩, fun j c hc => ?_⟩⟩
      have hj := zK hc
      simp only [List.length_append] at hj
      rw [g4]
      by_cases hi : j < s.length
      ·rw [List.getElem?_append_left hi] at hc
       rw [if_neg (by omega)]
       exact h6 j c hc
      ·rw [List.getElem?_append_right (by omega)] at hc
       rw [if_pos (by rw [zix]; omega)]
       have := zro hc
       simpa using this
   ·exact grows (some ⟨gb, 0, none⟩) cap hv (by omega)

theorem zus [Tracks] {x : Operand} {t tel : TypeId} {size bytes : Nat} {zero : Value} {i b : Nat} {T el : TypeId} {h v : Value} {s : List UInt8} (hf : Fits P t (.slice tel) size bytes zero) (hx : zA e x = some (.raw v))
 (hm : M[i]? = some (.bld b T el h v s)) (hk : K (.int .i64 s.length) M) : EOp P e M ⟨dst, .call ⟨.builtin .len, #[x], #[t]⟩, ty, pos, af, g⟩ K :=
 EOp.of_run fun I F a w ho hs => by
  have h1 := (ho.one (x := x) (by simp [Op.operands, Call.operands]) hx).raw_inv
  obtain ⟨b, cap, h2⟩ := (hs.obj _ (List.mem_append_left _ (List.mem_of_getElem? hm))).bld_len
  exact ⟨.int .i64 s.length, _, M, w, I, by rw [zfZ (ats := #[])]; simp [h1, h2, Builtin.len_, run_underlying hf.slice, goInt], .refl I, hk, .int _ _, hs⟩

end

/-- What every writing method calls first. -/
theorem zoW [Tracks] {ρ : Ren} (L : Lays.n240 P ρ) (X : Builder.X72 P ρ) {b : Nat} {el : TypeId} {h v : Value} {s : List UInt8} :
 Con P (ρ.f 240) [.raw (.pointer (some ⟨b, 0, none⟩))] [.bld b (ρ.t 72) el h v s] fun x M' => x = .tup [] ∧ M' = [.bld b (ρ.t 72) el h v s] := by
 intro I F w args ha hs
 obtain ⟨u, rfl, hu⟩ := ha.one
 obtain rfl := hu.raw_inv
 obtain ⟨hnd, _, _⟩ := Sat.bld_nodup (M := F) hs
 obtain ⟨⟨h0, p, hpp, h2⟩, h3⟩ := hs.obj (.bld b (ρ.t 72) el h v s) (by simp)
 have ht : V I (.tup []) (.tuple #[]) := .tup rfl fun j c v h _ => by simp at h
 rcases hpp with rfl | rfl
 ·refine (Any.Builder_copyCheck_fresh L X b w (by rw [zcH h2]; rfl) (by simp [World.shape?, h2]) (by simp [World.frozen?, h2])).mono ?_
  rintro _ w' ⟨rfl, rfl⟩
  refine ⟨_, _, _, I, rfl, .refl I, ⟨rfl, rfl⟩, ht, ?_⟩
  have hk : ∀ k, k ≠ b → (w.setCell ⟨b, 0, none⟩ (.pointer (some ⟨b, 0, none⟩))).heap[k]? = w.heap[k]? := fun k hk => by
   simp only [World.setCell, Array.getElem?_modify]
   rw [if_neg (fun e => hk e.symm)]
  refine Sat.change (m' := .bld b (ρ.t 72) el h v s) (M := F) hs (fun k _ hnk => hk k (fun e => hnk (e ▸ List.mem_cons_self))) (fun k hk => .inl hk) hnd ⟨⟨h0, _, .inr rfl, ?_⟩, ?_⟩ rfl rfl rfl
  ·simp [World.setCell, Array.getElem?_modify, h2]
  ·rcases h3 with h3 | ⟨g, cap, rc, rfl, h4, h5, h6⟩
   ·exact .inl h3
   ·exact .inr ⟨g, cap, rc, rfl, by rw [hk g (fun e => by subst e; simp [zeR] at hnd)]; exact h4, h5, h6⟩
 ·refine (Any.Builder_copyCheck_used L X b w (by rw [zcH h2]; rfl)).mono ?_
  rintro _ w' ⟨rfl, rfl⟩
  exact ⟨_, _, _, I, rfl, .refl I, ⟨rfl, rfl⟩, ht, hs⟩
end
section
open Go.Proofs Go.Shelf Go.RowKit
variable {P : Program}
theorem VL.two {I : Imm} {c d : HVal} {vs : List Value} (h : VL I [c, d] vs) : ∃ u v, vs = [u, v] ∧ V I c u ∧ V I d v := by
 match vs, h with
 | [u, v], h => exact ⟨u, v, rfl, h.head, h.tail.head⟩
 | [], h => have := h.1; simp at this
 | [_], h => have := h.1; simp at this
 | _ :: _ :: _ :: _, h => have := h.1; simp at this
theorem bsz (s : Str) : (⟨s.toArray⟩ : ByteArray).size = s.length := by simp [ByteArray.size]
/-- A row of strings that the call laid. -/
theorem zwu [Tracks] {I : Imm} {b : Nat} {l : List Str} {t : TypeId} {fr : Nat × Nat} {xs : List ByteArray} (hx : xs.map (·.data.toList) = l) (hI : I.heap b = some (.cells (xs.map Value.string).toArray t fr)) (n : Nat) (hn : n = l.length) :
 V I (.slice 1 (l.map .str)) (.slice (some ⟨b, 0, none⟩) n n) := by
 have hl : n = (l.map HVal.str).length := by rw [hn, List.length_map]
 rw [hl]
 have hxl : xs.length = l.length := by rw [← hx, List.length_map]
 refine V.slice hI (fun e he => ?_) (Nat.le_refl _) (by simp [hxl]) (fun i j e c v h1 h2 h3 => ?_)
 ·obtain ⟨s, _, rfl⟩ := List.mem_map.1 he; rfl
 ·rw [List.getElem?_map] at h1
  cases hq : l[i]? with
  | none => rw [hq] at h1; cases h1
  | some s =>
    rw [hq] at h1
    simp at h1
    subst h1
    have hj : j = 0 := by
     have := zK h2
     simp [zh] at this; omega
    subst hj
    simp [zh] at h2
    subst h2
    simp only [Nat.zero_add, Nat.mul_one, Nat.add_zero, List.getElem?_toArray, List.getElem?_map] at h3
    rw [← hx, List.getElem?_map] at hq
    cases hr : xs[i]? with
    | none => rw [hr] at hq; cases hq
    | some y =>
      rw [hr] at hq h3
      simp at hq h3
      subst h3
      rw [← hq]
      exact .str _
theorem zsD [Tracks] {ρ : Ren} (L : Lays.n146 P ρ) (hi9 : (P.info? (ρ.t 9)).map (fun i => (i.zero, i.size, i.bytes)) = some (some (.string ByteArray.empty), 1, 16)) (hg : P.globalNamed "internal/bytealg.MaxLen" = some (ρ.g 1)) {s : Str} {c : UInt8} (hs : s.length < 4294967281) :
 ConP P (ρ.f 146) [.str s, .str [c]] (.slice 1 ((spl c s).map .str)) := by
 intro I F w args ha hs0
 obtain ⟨u, v, rfl, hu, hv⟩ := ha.two
 obtain rfl := hu.str_inv
 obtain rfl := hv.str_inv
 obtain ⟨m, hm⟩ := hs0.maxLen hg
 refine (Any.strings_Split L hi9 ⟨s.toArray⟩ ⟨[c].toArray⟩ m w (by rw [bsz]; exact hs) hm (by rw [bsz]; simp)).mono ?_
 rintro _ w' ⟨rfl, rfl⟩
 obtain ⟨hle, hsat⟩ := Sat.new_imm hs0 (.cells ((Lib.splitB ⟨[c].toArray⟩ 0 (Lib.countB ⟨s.toArray⟩ ⟨[c].toArray⟩) ⟨s.toArray⟩).map Value.string).toArray (ρ.t 9))
 refine ⟨_, _, [], _, rfl, hle, ⟨rfl, rfl⟩, zwu (zs8 s c) Imm.add_self _ ?_, hsat⟩
 have : Lib.countB ⟨s.toArray⟩ ⟨[c].toArray⟩ = s.count c := Lib.count_one c s
 rw [this, zeM]
theorem zrX [Tracks] {ρ : Ren} (L : Lays.n138 P ρ) {s : Str} {c : UInt8} : ConP P (ρ.f 138) [.str s, .str [c]] (.int .i64 ((s.count c : Nat) : Int)) :=
 ze4 fun I w args ha => by
  obtain ⟨u, v, rfl, hu, hv⟩ := ha.two
  obtain rfl := hu.str_inv
  obtain rfl := hv.str_inv
  exact ⟨_, .int _ _, Any.strings_Count_one L ⟨s.toArray⟩ c w⟩
theorem znA [Tracks] {ρ : Ren} (L : Lays.n104 P ρ) {s p : Str} (hs : s.length ≤ 4294967281) : ConP P (ρ.f 104) [.str s, .str p] (.tup [.str (Lib.trimSuffix s p), .bool (Lib.hasSuffix s p)]) :=
 ze4 fun I w args ha => by
  obtain ⟨u, v, rfl, hu, hv⟩ := ha.two
  obtain rfl := hu.str_inv
  obtain rfl := hv.str_inv
  refine ⟨_, ?_, Any.strings_CutSuffix L ⟨s.toArray⟩ ⟨p.toArray⟩ w (by rw [bsz]; omega)⟩
  have hV := VL.cons (V.str (I := I) (Lib.trimSuffix s p)) (VL.cons (V.bool (Lib.hasSuffix s p)) VL.nil)
  exact .tup hV.1 (by simpa using hV.2)
theorem zuV [Tracks] {ρ : Ren} (L : Lays.n145 P ρ) (hg : P.globalNamed "internal/bytealg.MaxLen" = some (ρ.g 1)) {s : Str} {c : UInt8} (hs : s.length < 4294967281) :
 ConP P (ρ.f 145) [.str s, .str [c]] (.tup [.str (za3 c s).1, .str (za3 c s).2.1, .bool (za3 c s).2.2]) := by
 intro I F w args ha hs0
 obtain ⟨u, v, rfl, hu, hv⟩ := ha.two
 obtain rfl := hu.str_inv
 obtain rfl := hv.str_inv
 obtain ⟨m, hm⟩ := hs0.maxLen hg
 refine (Any.strings_Cut L ⟨s.toArray⟩ ⟨[c].toArray⟩ m w (by rw [bsz]; exact hs) hm).mono ?_
 rintro _ w' ⟨rfl, n, rfl⟩
 refine ⟨_, _, [], I, rfl, .refl I, ⟨rfl, rfl⟩, ?_, hs0.of_same (fun _ _ => rfl) (fun _ _ => rfl) rfl rfl rfl (fun _ => by simp [World.drewN])⟩
 simp only [show ((⟨s.toArray⟩ : ByteArray).data.toList : Str) = s from rfl, show ((⟨[c].toArray⟩ : ByteArray).data.toList : Str) = [c] from rfl, zp0]
 have hV := VL.cons (V.str (I := I) (za3 c s).1) (VL.cons (V.str (za3 c s).2.1) (VL.cons (V.bool (za3 c s).2.2) VL.nil))
 exact .tup hV.1 (by simpa using hV.2)
theorem zs2 [Tracks] {ρ : Ren} (hT : Tracks.on = false) (L : Lays.n156 P ρ) (X : Builder.Extra P ρ) {l : List Str} {c : UInt8} (hl : (jn c l).length ≤ 1000000000) (hn : l.length ≤ 1000000000) : ConP P (ρ.f 156) [.slice 1 (l.map .str), .str [c]] (.str (jn c l)) := by
 intro I F w args ha hs0
 obtain ⟨u, v, rfl, hu, hv⟩ := ha.two
 obtain rfl := hv.str_inv
 rcases hu.slice_inv with ⟨h0, a, cap, rfl⟩ | ⟨b, off, cap, rc, el, fr, rfl, h3, h4, h5, h6, h7⟩
 ·have : l = [] := by simpa using h0
  subst this
  refine (Any.strings_Join_none L X a cap ⟨[c].toArray⟩ w).mono ?_
  rintro _ w' ⟨rfl, rfl⟩
  exact ⟨_, _, [], I, rfl, .refl I, ⟨rfl, rfl⟩, .str [], hs0⟩
 ·have hb := hs0.imm _ _ h3
  let xs : List ByteArray := l.map fun s => ⟨s.toArray⟩
  have hx : xs.map (·.data.toList) = l := by simp [xs, List.map_map, Function.comp_def]
  have hxl : xs.length = l.length := by simp [xs]
  have hlt : b < w.heap.size := by
   rcases Nat.lt_or_ge b w.heap.size with h' | h'
   ·exact h'
   ·simp [Array.getElem?_eq_none h'] at hb
  have hsz : (l.map HVal.str).length = xs.length := by simp [xs]
  rw [hsz] at h5 h6 ⊢
  refine (Any.strings_Join L X b off cap xs ⟨[c].toArray⟩ w (fun j x hj => ?_) hlt (by omega) h5 (by rw [hx]; show (Lib.join l [c]).length ≤ _; rw [znj]; omega)).mono ?_
  ·have hq : l[j]? = some x.data.toList := by rw [← hx, List.getElem?_map, hj]; rfl
   have hj' := zK hj
   have hr : off + j < rc.size := by omega
   have h8 := h7 j 0 (.str x.data.toList) (.str x.data.toList) rc[off + j] (by rw [List.getElem?_map, hq]; rfl) rfl (by rw [Nat.mul_one, Nat.add_zero]; exact Array.getElem?_eq_getElem hr)
   rw [zcH hb, Array.getElem?_eq_getElem hr, h8.str_inv]
  ·rintro _ w' ⟨rfl, hbw⟩
   refine ⟨_, _, [], I, rfl, .refl I, ⟨rfl, rfl⟩, ?_, ?_⟩
   ·rw [hx, show ((⟨[c].toArray⟩ : ByteArray).data.toList : Str) = [c] from rfl, znj]; exact .str _
   ·obtain ⟨h1, h2⟩ := hs0.lt
    exact hs0.of_same (fun k hk => hbw.block k (h1 k hk)) (fun k hk => hbw.block k (h2 k hk)) hbw.os hbw.output hbw.tape (fun h => by rw [hT] at h; cases h)
end
section
variable {P : Program}
def zsh (s : List UInt8) (v : Value) : Prop := (v = .slice none 0 0 ∧ s = []) ∨ ∃ g cap, 0 < cap ∧ v = .slice (some ⟨g, 0, none⟩) s.length cap
theorem MSat.bufV {I : Imm} {w : World} {b : Nat} {T el : TypeId} {h v : Value} {s : List UInt8} (hm : MSat I w (.bld b T el h v s)) : zsh s v := by
 rcases hm.2 with h | ⟨g, cap, rc, h, _, h5, _⟩
 ·exact .inl h
 ·exact .inr ⟨g, cap, h5.1, h⟩
theorem zvV [Tracks] {n : Nat} {c : Code} {e : Env} {M : List MObj} {Q : Exit → Env → List MObj → Prop} {i b : Nat} {T el : TypeId} {h v : Value} {s : List UInt8} (hm : M[i]? = some (.bld b T el h v s)) (k : zsh s v → HWp P n c e M Q) : HWp P n c e M Q :=
 fun I F a w h1 h2 h3 h4 => k (h4.obj _ (List.mem_append_left _ (List.mem_of_getElem? hm))).bufV I F a w h1 h2 h3 h4
section
variable {e : Env} {dst : Option Tmp} {ty : TypeId} {pos : String} {af : Array Edge} {g : Option (Nat × Bool)} {M : List MObj} {K : HVal → List MObj → Prop}
theorem ztG [Tracks] {x : Operand} {ats : Array TypeId} {v : Value} {s : List UInt8} (hb : zsh s v) (hx : zA e x = some (.raw v)) : POp P e ⟨dst, .call ⟨.builtin .unsafeSliceData, #[x], ats⟩, ty, pos, af, g⟩ (.raw (zi0 v)) :=
 POp.of_run fun I F a w ho hs => by
  have h1 := (ho.one (x := x) (by simp [Op.operands, Call.operands]) hx).raw_inv
  have hr : ∀ r : Sem Value, Builtin.unsafeSliceData_ ats ty #[v] = r → (execOp a.eval ⟨dst, .call ⟨.builtin .unsafeSliceData, #[x], ats⟩, ty, pos, af, g⟩).run P w = (r.run P w).andThen (fun v w => .ok (.value v) w) := by
   rintro r rfl
   simp [execOp, resolve, invoke, builtin, h1]
  refine ⟨zi0 v, _, I, ?_, .refl I, .raw _ ?_, hs⟩
  ·rw [hr _ rfl]
   rcases hb with ⟨rfl, _⟩ | ⟨g, cap, h5, rfl⟩
   ·rfl
   ·rw [Lib.run_unsafeSliceData_row w _ _ _ _ _ (by omega)]; rfl
  ·rcases hb with ⟨rfl, _⟩ | ⟨g, cap, h5, rfl⟩ <;> rfl
theorem zuj [Tracks] {x : Operand} {t tel : TypeId} {size bytes : Nat} {zero : Value} {v : Value} {s : List UInt8} (hf : Fits P t (.slice tel) size bytes zero) (hb : zsh s v) (hx : zA e x = some (.raw v)) : POp P e ⟨dst, .call ⟨.builtin .len, #[x], #[t]⟩, ty, pos, af, g⟩ (.int .i64 s.length) :=
 POp.of_run fun I F a w ho hs => by
  have h1 := (ho.one (x := x) (by simp [Op.operands, Call.operands]) hx).raw_inv
  obtain ⟨a', cap, h2⟩ : ∃ a' cap, v = .slice a' s.length cap := by
   rcases hb with ⟨rfl, rfl⟩ | ⟨g, cap, _, rfl⟩
   ·exact ⟨_, _, rfl⟩
   ·exact ⟨_, _, rfl⟩
  exact ⟨.int .i64 s.length, w, I, by rw [zfZ (ats := #[])]; simp [h1, h2, Builtin.len_, run_underlying hf.slice, goInt], .refl I, .int _ _, hs⟩
/-- The builder's bytes as a string; its header stays. -/
theorem zuA [Tracks] {x y : Operand} {pt it : TypeId} {i b : Nat} {T el : TypeId} {h v : Value} {s : List UInt8} (hpt : P.underlying pt = some (.pointer el)) (hc : P.cellsOf el = 1)
 (hx : zA e x = some (.raw (zi0 v))) (hy : zA e y = some (.int .i64 s.length)) (hm : M[i]? = some (.bld b T el h v s))
 (hk : K (.str s) (M.set i (.cells b [.junk, .raw h]))) : EOp P e M ⟨dst, .call ⟨.builtin .unsafeString, #[x, y], #[pt, it]⟩, ty, pos, af, g⟩ K :=
 EOp.of_run fun I F a w ho hs => by
  have h1 := (ho.one (x := x) (by simp [Op.operands, Call.operands]) hx).raw_inv
  have h2 := (ho.one (x := y) (by simp [Op.operands, Call.operands]) hy).int_inv
  have hp := hs.pull hm
  obtain ⟨hnd, hap, him⟩ := hp.bld_nodup
  obtain ⟨⟨h0, p, hpp, hhd⟩, h3⟩ := hp.obj _ List.mem_cons_self
  have hr : ∀ r : Sem Value, Builtin.unsafeString_ #[pt, it] ty #[zi0 v, .int .i64 s.length] = r → (execOp a.eval ⟨dst, .call ⟨.builtin .unsafeString, #[x, y], #[pt, it]⟩, ty, pos, af, g⟩).run P w = (r.run P w).andThen (fun v w => .ok (.value v) w) := by
   rintro r rfl
   simp [execOp, resolve, invoke, builtin, h1, h2]
  have key : ∀ w' : World, (∀ k, k ∉ zeR v → w'.heap[k]? = w.heap[k]?) → w'.os = w.os ∧ w'.output = w.output ∧ w'.tape = w.tape ∧ w'.drawn = w.drawn → Sat P I ((M.set i (.cells b [.junk, .raw h])) ++ F) w' := fun w' hk hfo => by
   refine Sat.unpull hm (hp.change (m' := .cells b [.junk, .raw h]) (fun k _ hnk => hk k fun hk' => hnk (by simp only [MObj.blocks]; exact List.mem_cons_of_mem _ hk')) (fun k hk => .inl ?_) (by simp [MObj.blocks]) ?_ hfo.1 hfo.2.1 hfo.2.2.1 (fun _ => Nat.le_of_eq hfo.2.2.2.symm))
   ·simp [MObj.blocks] at hk ⊢; exact .inl hk
   ·refine ⟨#[p, h], T, (0, 0), ?_, Free.zero _, ?_⟩
    ·rw [hk b (List.nodup_cons.1 hnd).1]; exact hhd
    ·exact VL.cons (.junk _) (VL.cons (.raw _ h0) VL.nil)
  by_cases hs0 : s = []
  ·subst hs0
   refine ⟨.string .empty, _, _, w, I, ?_, .refl I, hk, .str [], key w (fun _ _ => rfl) ⟨rfl, rfl, rfl, rfl⟩⟩
   rw [hr _ rfl]
   rcases h3 with ⟨rfl, _⟩ | ⟨g, cap, rc, rfl, h4, h5, h6⟩
   ·simp only [zi0, List.length_nil, Int.ofNat_zero]; erw [Lib.run_unsafeString_none w]; rfl
   ·simp only [zi0, List.length_nil, Int.ofNat_zero]; erw [Lib.run_unsafeString_none w]; rfl
  ·rcases h3 with ⟨rfl, h0⟩ | ⟨g, cap, rc, rfl, h4, h5, h6⟩
   ·exact absurd h0 hs0
   ·refine ⟨.string ⟨s.toArray⟩, _, _, w.freeze ⟨g, 0, none⟩ s.length, I, ?_, .refl I, hk, .str s, ?_⟩
    ·rw [hr _ rfl]
     simp only [zi0]
     rw [Lib.run_unsafeString_row w pt it ty el hpt hc g rc.size (by simp [World.shape?, h4]) s hs0 (by omega) (by omega) (fun j c hj => by rw [zcb, zcH h4]; simpa using h6 j c hj)]
     rfl
    ·refine key _ (fun k hk => ?_) ?_
     ·have hkg : k ≠ g := fun e => hk (by simp [zeR, e])
      unfold World.freeze
      split
      ·rfl
      ·simp only [Array.getElem?_modify]
       rw [if_neg (fun e => hkg e.symm)]
     ·unfold World.freeze; split <;> exact ⟨rfl, rfl, rfl, rfl⟩
end
end
end Go.HL
namespace Go.Proofs
section
open Go.Shelf
def Tryz.lays138_ren : Go.Shelf.Ren := ⟨fun | 138 => 81 | 195 => 129 | 218 => 130 | 143 => 131 | 219 => 181 | 217 => 150 | 225 => 241 | 224 => 242 | 267 => 243 | 266 => 192 | 314 => 281 | n => n, fun | 9 => 9 | 3 => 3 | 4 => 4 | 5 => 5 | 0 => 0 | 46 => 212 | 146 => 302 | 51 => 252 | n => n, fun | 1 => 0 | n => n⟩
theorem Tryz.lays138 : Go.Proofs.Lays.n138 Tryz.prog Tryz.lays138_ren := {
 mixed := by kernel_rfl
 f138 := Tryz.func81.trans (congrArg some (by kernel_rfl))
 f143 := Tryz.func131.trans (congrArg some (by kernel_rfl))
 f195 := Tryz.func129.trans (congrArg some (by kernel_rfl))
 f217 := Tryz.func150.trans (congrArg some (by kernel_rfl))
 f218 := Tryz.func130.trans (congrArg some (by kernel_rfl))
 f219 := Tryz.func181.trans (congrArg some (by kernel_rfl))
 f224 := Tryz.func242.trans (congrArg some (by kernel_rfl))
 f225 := Tryz.func241.trans (congrArg some (by kernel_rfl))
 f266 := Tryz.func192.trans (congrArg some (by kernel_rfl))
 f267 := Tryz.func243.trans (congrArg some (by kernel_rfl))
 f314 := Tryz.func281.trans (congrArg some (by kernel_rfl))
 t0 := Tryz.underlying0
 a0 := Tryz.isAgg0
 z0 := Tryz.sizeOf0
 v0 := Tryz.zeroValue0
 t3 := Tryz.underlying3
 a3 := Tryz.isAgg3
 z3 := Tryz.sizeOf3
 v3 := Tryz.zeroValue3
 t4 := Tryz.underlying4
 a4 := Tryz.isAgg4
 z4 := Tryz.sizeOf4
 v4 := Tryz.zeroValue4
 t5 := Tryz.underlying5
 a5 := Tryz.isAgg5
 z5 := Tryz.sizeOf5
 v5 := Tryz.zeroValue5
 t9 := Tryz.underlying9
 a9 := Tryz.isAgg9
 z9 := Tryz.sizeOf9
 v9 := Tryz.zeroValue9
 t46 := Tryz.underlying212
 a46 := Tryz.isAgg212
 z46 := Tryz.sizeOf212
 v46 := Tryz.zeroValue212
 t51 := Tryz.underlying252
 a51 := Tryz.isAgg252
 z51 := Tryz.sizeOf252
 v51 := Tryz.zeroValue252
 t146 := Tryz.underlying302
 a146 := Tryz.isAgg302
 z146 := Tryz.sizeOf302
 v146 := Tryz.zeroValue302
 g1 := by kernel_rfl }
def Tryz.lays145_ren : Go.Shelf.Ren := ⟨fun | 145 => 120 | 220 => 171 | 219 => 181 | 217 => 150 | 225 => 241 | 224 => 242 | 267 => 243 | 266 => 192 | 314 => 281 | n => n, fun | 9 => 9 | 4 => 4 | 59 => 176 | 3 => 3 | 5 => 5 | 46 => 212 | 146 => 302 | 51 => 252 | n => n, fun | 1 => 0 | n => n⟩
theorem Tryz.lays145 : Go.Proofs.Lays.n145 Tryz.prog Tryz.lays145_ren := {
 mixed := by kernel_rfl
 f145 := Tryz.func120.trans (congrArg some (by kernel_rfl))
 f217 := Tryz.func150.trans (congrArg some (by kernel_rfl))
 f219 := Tryz.func181.trans (congrArg some (by kernel_rfl))
 f220 := Tryz.func171.trans (congrArg some (by kernel_rfl))
 f224 := Tryz.func242.trans (congrArg some (by kernel_rfl))
 f225 := Tryz.func241.trans (congrArg some (by kernel_rfl))
 f266 := Tryz.func192.trans (congrArg some (by kernel_rfl))
 f267 := Tryz.func243.trans (congrArg some (by kernel_rfl))
 f314 := Tryz.func281.trans (congrArg some (by kernel_rfl))
 t3 := Tryz.underlying3
 a3 := Tryz.isAgg3
 z3 := Tryz.sizeOf3
 v3 := Tryz.zeroValue3
 t4 := Tryz.underlying4
 a4 := Tryz.isAgg4
 z4 := Tryz.sizeOf4
 v4 := Tryz.zeroValue4
 t5 := Tryz.underlying5
 a5 := Tryz.isAgg5
 z5 := Tryz.sizeOf5
 v5 := Tryz.zeroValue5
 t9 := Tryz.underlying9
 a9 := Tryz.isAgg9
 z9 := Tryz.sizeOf9
 v9 := Tryz.zeroValue9
 t46 := Tryz.underlying212
 a46 := Tryz.isAgg212
 z46 := Tryz.sizeOf212
 v46 := Tryz.zeroValue212
 t51 := Tryz.underlying252
 a51 := Tryz.isAgg252
 z51 := Tryz.sizeOf252
 v51 := Tryz.zeroValue252
 t59 := Tryz.underlying176
 a59 := Tryz.isAgg176
 z59 := Tryz.sizeOf176
 v59 := Tryz.zeroValue176
 t146 := Tryz.underlying302
 a146 := Tryz.isAgg302
 z146 := Tryz.sizeOf302
 v146 := Tryz.zeroValue302
 g1 := by kernel_rfl }
def Tryz.lays146_ren : Go.Shelf.Ren := ⟨fun | 146 => 71 | 221 => 121 | 268 => 172 | 138 => 81 | 143 => 131 | 195 => 129 | 197 => 189 | 218 => 130 | 219 => 181 | 260 => 255 | 217 => 150 | 225 => 241 | 224 => 242 | 267 => 243 | 266 => 192 | 314 => 281 | n => n, fun | 9 => 9 | 31 => 39 | 3 => 3 | 4 => 4 | 0 => 0 | 105 => 241 | 21 => 21 | 5 => 5 | 46 => 212 | 119 => 311 | 139 => 314 | 138 => 313 | 146 => 302 | 51 => 252 | n => n, fun | 1 => 0 | 3 => 2 | 4 => 3 | n => n⟩
theorem Tryz.lays146 : Go.Proofs.Lays.n146 Tryz.prog Tryz.lays146_ren := {
 mixed := by kernel_rfl
 f138 := Tryz.func81.trans (congrArg some (by kernel_rfl))
 f143 := Tryz.func131.trans (congrArg some (by kernel_rfl))
 f146 := Tryz.func71.trans (congrArg some (by kernel_rfl))
 f195 := Tryz.func129.trans (congrArg some (by kernel_rfl))
 f197 := Tryz.func189.trans (congrArg some (by kernel_rfl))
 f217 := Tryz.func150.trans (congrArg some (by kernel_rfl))
 f218 := Tryz.func130.trans (congrArg some (by kernel_rfl))
 f219 := Tryz.func181.trans (congrArg some (by kernel_rfl))
 f221 := Tryz.func121.trans (congrArg some (by kernel_rfl))
 f224 := Tryz.func242.trans (congrArg some (by kernel_rfl))
 f225 := Tryz.func241.trans (congrArg some (by kernel_rfl))
 f260 := Tryz.func255.trans (congrArg some (by kernel_rfl))
 f266 := Tryz.func192.trans (congrArg some (by kernel_rfl))
 f267 := Tryz.func243.trans (congrArg some (by kernel_rfl))
 f268 := Tryz.func172.trans (congrArg some (by kernel_rfl))
 f314 := Tryz.func281.trans (congrArg some (by kernel_rfl))
 t0 := Tryz.underlying0
 a0 := Tryz.isAgg0
 z0 := Tryz.sizeOf0
 v0 := Tryz.zeroValue0
 t3 := Tryz.underlying3
 a3 := Tryz.isAgg3
 z3 := Tryz.sizeOf3
 v3 := Tryz.zeroValue3
 t4 := Tryz.underlying4
 a4 := Tryz.isAgg4
 z4 := Tryz.sizeOf4
 v4 := Tryz.zeroValue4
 t5 := Tryz.underlying5
 a5 := Tryz.isAgg5
 z5 := Tryz.sizeOf5
 v5 := Tryz.zeroValue5
 t9 := Tryz.underlying9
 a9 := Tryz.isAgg9
 z9 := Tryz.sizeOf9
 v9 := Tryz.zeroValue9
 t21 := Tryz.underlying21
 a21 := Tryz.isAgg21
 z21 := Tryz.sizeOf21
 v21 := Tryz.zeroValue21
 t31 := Tryz.underlying39
 a31 := Tryz.isAgg39
 z31 := Tryz.sizeOf39
 v31 := Tryz.zeroValue39
 t46 := Tryz.underlying212
 a46 := Tryz.isAgg212
 z46 := Tryz.sizeOf212
 v46 := Tryz.zeroValue212
 t51 := Tryz.underlying252
 a51 := Tryz.isAgg252
 z51 := Tryz.sizeOf252
 v51 := Tryz.zeroValue252
 t105 := Tryz.underlying241
 a105 := Tryz.isAgg241
 z105 := Tryz.sizeOf241
 v105 := Tryz.zeroValue241
 t119 := Tryz.underlying311
 a119 := Tryz.isAgg311
 z119 := Tryz.sizeOf311
 t138 := Tryz.underlying313
 a138 := Tryz.isAgg313
 z138 := Tryz.sizeOf313
 v138 := Tryz.zeroValue313
 t139 := Tryz.underlying314
 a139 := Tryz.isAgg314
 z139 := Tryz.sizeOf314
 v139 := Tryz.zeroValue314
 t146 := Tryz.underlying302
 a146 := Tryz.isAgg302
 z146 := Tryz.sizeOf302
 v146 := Tryz.zeroValue302
 g1 := by kernel_rfl
 g3 := by kernel_rfl
 g4 := by kernel_rfl }
def Tryz.lays104_ren : Go.Shelf.Ren := ⟨fun | 104 => 128 | 211 => 180 | 207 => 240 | n => n, fun | 9 => 9 | 4 => 4 | 24 => 184 | 3 => 3 | n => n, fun | n => n⟩
theorem Tryz.lays104 : Go.Proofs.Lays.n104 Tryz.prog Tryz.lays104_ren := {
 mixed := by kernel_rfl
 f104 := Tryz.func128.trans (congrArg some (by kernel_rfl))
 f207 := Tryz.func240.trans (congrArg some (by kernel_rfl))
 f211 := Tryz.func180.trans (congrArg some (by kernel_rfl))
 t3 := Tryz.underlying3
 a3 := Tryz.isAgg3
 z3 := Tryz.sizeOf3
 v3 := Tryz.zeroValue3
 t4 := Tryz.underlying4
 a4 := Tryz.isAgg4
 z4 := Tryz.sizeOf4
 v4 := Tryz.zeroValue4
 t9 := Tryz.underlying9
 a9 := Tryz.isAgg9
 z9 := Tryz.sizeOf9
 v9 := Tryz.zeroValue9
 t24 := Tryz.underlying184
 a24 := Tryz.isAgg184
 z24 := Tryz.sizeOf184
 v24 := Tryz.zeroValue184 }
def Tryz.lays156_ren : Go.Shelf.Ren := ⟨fun | 156 => 32 | 165 => 78 | 166 => 31 | 169 => 34 | 240 => 77 | 241 => 127 | 276 => 126 | 277 => 179 | n => n, fun | 31 => 39 | 9 => 9 | 3 => 3 | 4 => 4 | 0 => 0 | 20 => 20 | 72 => 61 | 76 => 65 | 70 => 58 | 37 => 59 | 75 => 64 | 127 => 125 | 164 => 182 | 5 => 5 | 80 => 36 | n => n, fun | n => n⟩
theorem Tryz.lays156 : Go.Proofs.Lays.n156 Tryz.prog Tryz.lays156_ren := {
 mixed := by kernel_rfl
 f156 := Tryz.func32.trans (congrArg some (by kernel_rfl))
 f165 := Tryz.func78.trans (congrArg some (by kernel_rfl))
 f166 := Tryz.func31.trans (congrArg some (by kernel_rfl))
 f169 := Tryz.func34.trans (congrArg some (by kernel_rfl))
 f240 := Tryz.func77.trans (congrArg some (by kernel_rfl))
 f241 := Tryz.func127.trans (congrArg some (by kernel_rfl))
 f276 := Tryz.func126.trans (congrArg some (by kernel_rfl))
 f277 := Tryz.func179.trans (congrArg some (by kernel_rfl))
 t0 := Tryz.underlying0
 a0 := Tryz.isAgg0
 z0 := Tryz.sizeOf0
 v0 := Tryz.zeroValue0
 t3 := Tryz.underlying3
 a3 := Tryz.isAgg3
 z3 := Tryz.sizeOf3
 v3 := Tryz.zeroValue3
 t4 := Tryz.underlying4
 a4 := Tryz.isAgg4
 z4 := Tryz.sizeOf4
 v4 := Tryz.zeroValue4
 t9 := Tryz.underlying9
 a9 := Tryz.isAgg9
 z9 := Tryz.sizeOf9
 v9 := Tryz.zeroValue9
 t20 := Tryz.underlying20
 a20 := Tryz.isAgg20
 z20 := Tryz.sizeOf20
 v20 := Tryz.zeroValue20
 t31 := Tryz.underlying39
 a31 := Tryz.isAgg39
 z31 := Tryz.sizeOf39
 v31 := Tryz.zeroValue39
 t37 := Tryz.underlying59
 a37 := Tryz.isAgg59
 z37 := Tryz.sizeOf59
 v37 := Tryz.zeroValue59
 t70 := Tryz.underlying58
 a70 := Tryz.isAgg58
 z70 := Tryz.sizeOf58
 v70 := Tryz.zeroValue58
 t72 := Tryz.underlying61
 a72 := Tryz.isAgg61
 z72 := Tryz.sizeOf61
 v72 := Tryz.zeroValue61
 t75 := Tryz.underlying64
 a75 := Tryz.isAgg64
 z75 := Tryz.sizeOf64
 v75 := Tryz.zeroValue64
 t76 := Tryz.underlying65
 a76 := Tryz.isAgg65
 z76 := Tryz.sizeOf65
 v76 := Tryz.zeroValue65
 t127 := Tryz.underlying125
 a127 := Tryz.isAgg125
 z127 := Tryz.sizeOf125
 v127 := Tryz.zeroValue125
 t164 := Tryz.underlying182
 a164 := Tryz.isAgg182
 z164 := Tryz.sizeOf182
 v164 := Tryz.zeroValue182 }
end
section
open Go.Shelf
def Tryz.lays240_ren : Go.Shelf.Ren := ⟨fun | 240 => 77 | 276 => 126 | n => n, fun | 0 => 0 | 4 => 4 | 9 => 9 | 20 => 20 | 70 => 58 | 72 => 61 | 164 => 182 | 37 => 59 | n => n, fun n => n⟩
theorem Tryz.lays240 : Go.Proofs.Lays.n240 Tryz.prog Tryz.lays240_ren := {
 mixed := by kernel_rfl
 f240 := Tryz.func77.trans (congrArg some (by kernel_rfl))
 f276 := Tryz.func126.trans (congrArg some (by kernel_rfl))
 t0 := Tryz.underlying0
 a0 := Tryz.isAgg0
 z0 := Tryz.sizeOf0
 v0 := Tryz.zeroValue0
 t4 := Tryz.underlying4
 a4 := Tryz.isAgg4
 z4 := Tryz.sizeOf4
 v4 := Tryz.zeroValue4
 t9 := Tryz.underlying9
 a9 := Tryz.isAgg9
 z9 := Tryz.sizeOf9
 v9 := Tryz.zeroValue9
 t20 := Tryz.underlying20
 a20 := Tryz.isAgg20
 z20 := Tryz.sizeOf20
 v20 := Tryz.zeroValue20
 t70 := Tryz.underlying58
 a70 := Tryz.isAgg58
 z70 := Tryz.sizeOf58
 v70 := Tryz.zeroValue58
 t72 := Tryz.underlying61
 a72 := Tryz.isAgg61
 z72 := Tryz.sizeOf61
 v72 := Tryz.zeroValue61
 t164 := Tryz.underlying182
 a164 := Tryz.isAgg182
 z164 := Tryz.sizeOf182
 v164 := Tryz.zeroValue182
}
end
end Go.Proofs
namespace Go.HL
section

end
section

end
section

end
end Go.HL
namespace Go.Proofs.YtjecenjmphpmfaaGreatDoor
set_option maxRecDepth 100000
set_option linter.unusedVariables false
set_option linter.unusedSimpArgs false
section
open Go.HL
/-- what every writing method of a builder calls first -/
theorem zgB [Tracks] {b : Nat} {h v : Value} {s : Str} : Con Tryz.prog 77 [.raw (.pointer (some ⟨b, 0, none⟩))] [.bld b 61 5 h v s] (fun x M' => x = .tup [] ∧ M' = [.bld b 61 5 h v s]) :=
 zoW (ρ := Tryz.lays240_ren) (el := 5) Tryz.lays240 ⟨by kernel_rfl, by kernel_rfl⟩

theorem zt1 [Tracks] : Tryz.prog.globalNamed "internal/bytealg.MaxLen" = some (Tryz.lays146_ren.g 1) := by kernel_rfl

theorem zfQ [Tracks] {s : Str} {c : UInt8} (hs : s.length < 4294967281) : ConP Tryz.prog 71 [.str s, .str [c]] (.slice 1 ((spl c s).map .str)) :=
 zsD Tryz.lays146 (by kernel_rfl) zt1 hs

theorem zmE [Tracks] {s : Str} {c : UInt8} : ConP Tryz.prog 81 [.str s, .str [c]] (.int .i64 ((s.count c : Nat) : Int)) := zrX Tryz.lays138

theorem zjM [Tracks] {s p : Str} (hs : s.length ≤ 4294967281) : ConP Tryz.prog 128 [.str s, .str p] (.tup [.str (Lib.trimSuffix s p), .bool (Lib.hasSuffix s p)]) := znA Tryz.lays104 hs

theorem zoV [Tracks] {s : Str} {c : UInt8} (hs : s.length < 4294967281) : ConP Tryz.prog 120 [.str s, .str [c]] (.tup [.str (za3 c s).1, .str (za3 c s).2.1, .bool (za3 c s).2.2]) :=
 zuV Tryz.lays145 (by kernel_rfl) hs

theorem ziA [Tracks] (hT : Tracks.on = false) {l : List Str} {c : UInt8} (hl : (jn c l).length ≤ 1000000000) (hn : l.length ≤ 1000000000) : ConP Tryz.prog 32 [.slice 1 (l.map .str), .str [c]] (.str (jn c l)) :=
 zs2 hT Tryz.lays156 { t5 := Tryz.underlying5, a5 := fun w => by kernel_rfl, z5 := fun w => by kernel_rfl, v5 := fun w => by kernel_rfl, infoByte := by kernel_rfl, cellsByte := by kernel_rfl, sizeByte := by kernel_rfl, neB5 := by decide, sizeBuilder := by kernel_rfl, liesBuilder := by kernel_rfl } hl hn

/-- (*strings.Builder).WriteString -/
theorem zdu [Tracks] {b : Nat} {v : Value} {s : Str} {t : Str}  (hl : s.length + t.length ≤ 1000000000) : Con Tryz.prog 31 [pAt b, .str t] [.bld b 61 5 v v s] (fun x M' => ∃ v', x = .tup [.int .i64 (t.length : Int), .raw .nilIface] ∧ M' = [.bld b 61 5 v' v' (s ++ t)]) := by
 refine Con.of_body Tryz.func31 rfl Tryz.ntmps31 rfl rfl ?_
 refine za ?_
 refine das rfl ?_
 refine das rfl ?_
 refine dn ?_
 refine za ?_
 refine dmv rfl ?_
 refine de rfl (zo (i := 0) ca77 rfl (WeakL.refl _) rfl zgB ?_)
 rintro _ _ ⟨rfl, rfl⟩
 refine dn ?_
 refine za ?_
 refine dmv rfl ?_
 refine dmv rfl ?_
 refine dq ((by first | exact za8 rfl | exact zM rfl)) ?_
 refine dq (zg zl3 rfl ze7 (by decide) rfl) ?_
 refine de rfl (zhN (i := 0) ze7 rfl rfl ?_)
 refine dmv rfl ?_
 refine de rfl (zqG (i := 0) ze7 ty9 ty5 rfl rfl rfl rfl rfl hl fun v14 => ?_)
 refine dq ((by first | exact za8 rfl | exact zM rfl)) ?_
 refine dq (zg zl3 rfl ze7 (by decide) rfl) ?_
 refine de0 (zrV (i := 0) ze7 rfl rfl rfl ?_)
 refine dn ?_
 refine za ?_
 refine dmv rfl ?_
 refine dq (zbk ty9 rfl) ?_
 refine das rfl ?_
 refine das rfl ?_
 refine dn ?_
 refine zk ?_
 exact zaO rfl ⟨v14, rfl, rfl⟩

/-- (*strings.Builder).Len -/
theorem ziO [Tracks] {b : Nat} {v : Value} {s : Str}   : Con Tryz.prog 33 [pAt b] [.bld b 61 5 v v s] (fun x M' => x = .int .i64 (s.length : Int) ∧ M' = [.bld b 61 5 v v s]) := by
 refine Con.of_body Tryz.func33 rfl Tryz.ntmps33 rfl rfl ?_
 refine za ?_
 refine das rfl ?_
 refine dn ?_
 refine za ?_
 refine dmv rfl ?_
 refine dq ((by first | exact za8 rfl | exact zM rfl)) ?_
 refine dq (zg zl3 rfl ze7 (by decide) rfl) ?_
 refine de rfl (zhN (i := 0) ze7 rfl rfl ?_)
 refine de rfl (zus (i := 0) ze7 rfl rfl ?_)
 refine das rfl ?_
 refine dn ?_
 refine zk ?_
 exact zaO rfl ⟨rfl, rfl⟩

/-- (*strings.Builder).String -/
theorem zen [Tracks] {b : Nat} {v : Value} {s : Str}   : Con Tryz.prog 34 [pAt b] [.bld b 61 5 v v s] (fun x M' => x = .str s ∧ M' = []) := by
 refine Con.of_body Tryz.func34 rfl Tryz.ntmps34 rfl rfl ?_
 refine za ?_
 refine das rfl ?_
 refine dn ?_
 refine zvV (i := 0) rfl fun hbv => ?_
 refine zaM (fun M => ∃ i : Nat, (M[i]? = some (.bld b 61 5 v v s)) ∨ ∃ p, M[i]? = some (.cells b [p, .raw v])) [3, 8] mixed ?_
 refine ahp 0 rfl rfl (by kernel_rfl) (by kernel_rfl) (zd rfl) ?_
 refine ahp 1 rfl rfl (by kernel_rfl) (by kernel_rfl) ((by first | exact za8 rfl | exact zM rfl)) ?_
 refine ahp 2 rfl rfl (by kernel_rfl) (by kernel_rfl) (zg zl3 rfl ze7 (by decide) rfl) ?_
 refine ahl 3 rfl rfl (by kernel_rfl) (by kernel_rfl) (by simp) ⟨0, .inl rfl⟩ (fun M hM => by obtain ⟨i, hi | ⟨p, hi⟩⟩ := hM; exact zhN (i := i) ze7 rfl hi ⟨rfl, rfl⟩; exact zbr (i := i) ze7 rfl hi (.inl ⟨rfl, rfl⟩) ⟨rfl, rfl⟩) ?_
 refine ahp 4 rfl rfl (by kernel_rfl) (by kernel_rfl) (ztG hbv rfl) ?_
 refine ahp 5 rfl rfl (by kernel_rfl) (by kernel_rfl) (zd rfl) ?_
 refine ahp 6 rfl rfl (by kernel_rfl) (by kernel_rfl) ((by first | exact za8 rfl | exact zM rfl)) ?_
 refine ahp 7 rfl rfl (by kernel_rfl) (by kernel_rfl) (zg zl3 rfl ze7 (by decide) rfl) ?_
 refine ahl 8 rfl rfl (by kernel_rfl) (by kernel_rfl) (by simp) ⟨0, .inl rfl⟩ (fun M hM => by obtain ⟨i, hi | ⟨p, hi⟩⟩ := hM; exact zhN (i := i) ze7 rfl hi ⟨rfl, rfl⟩; exact zbr (i := i) ze7 rfl hi (.inl ⟨rfl, rfl⟩) ⟨rfl, rfl⟩) ?_
 refine ahp 9 rfl rfl (by kernel_rfl) (by kernel_rfl) (zuj ze7 hbv rfl) ?_
 refine ahe 10 rfl (by kernel_rfl) ?_
 refine zau rfl (zuA (i := 0) (by kernel_rfl) (by kernel_rfl) rfl rfl rfl ?_)
 refine ⟨fun _ => .inl ⟨0, .inr ⟨_, rfl⟩⟩, ?_⟩
 refine ahp 11 rfl rfl (by kernel_rfl) (by kernel_rfl) (zaA rfl) ?_
 refine ahz (by kernel_rfl) ?_
 refine zk ?_
 refine zat Ghost.drop rfl ⟨rfl, rfl⟩
end
section
open Go.HL
theorem zwA [Tracks] {I : Imm} {c d : HVal} {vs : List Value} (h : VL I [c, d] vs) : ∃ u v, vs = [u, v] ∧ V I c u ∧ V I d v := by
 have h1 := h.1
 rcases vs with _ | ⟨u, _ | ⟨v, _ | ⟨w, r⟩⟩⟩
 ·simp at h1
 ·simp at h1
 ·exact ⟨u, v, rfl, h.head, h.tail.head⟩
 ·simp at h1
theorem ztl [Tracks] (s : Str) : Lib.trimPrefix s [45] = zZ s := by
 unfold Lib.trimPrefix Lib.hasPrefix
 cases s with
 | nil => rfl
 | cons c r =>
   by_cases h : c = 45
   ·subst h; simp [zZ]
   ·have h' : ¬ (45 : UInt8) = c := fun e => h e.symm
    simp only [List.isPrefixOf, beq_iff_eq, h', Bool.and_eq_true, false_and, if_false]
    unfold zZ
    split
    ·rename_i heq; simp at heq; exact absurd heq.1 h
    ·rfl
/-- strings.TrimPrefix of a minus -/
theorem zfJ [Tracks] {s : Str} : ConP Tryz.prog 173 [.str s, .str [45]] (.str (zZ s)) :=
 ze4 fun I w args ha => by
  obtain ⟨u, v, rfl, hu, hv⟩ := zwA ha
  obtain rfl := hu.str_inv
  obtain rfl := hv.str_inv
  refine ⟨_, .str _, ?_⟩
  have := Any.strings_TrimPrefix Tryz.lays101 ⟨s.toArray⟩ ⟨[45].toArray⟩ w
  rw [show (⟨s.toArray⟩ : ByteArray).data.toList = s by simp, show (⟨[45].toArray⟩ : ByteArray).data.toList = [45] by simp, ztl] at this
  exact this
/-- strconv.Atoi of a short numeral -/
theorem ziU [Tracks] {s : Str} (hl : s.length ≤ 18) (h : (Lib.atoi s).isSome = true) : ConP Tryz.prog 174 [.str s] (.tup [.int .i64 (zdr s), .raw .nilIface]) :=
 ztu fun w => Any.strconv_Atoi Tryz.lays172 ⟨s.toArray⟩ (zdr s) (by simpa [ByteArray.size] using hl) (by
  obtain ⟨n, hn⟩ := Option.isSome_iff_exists.1 h
  simp [zdr, hn]) w

/-- benchwarmer/base.Words -/
theorem zqu [Tracks] {line : Str} {many : Int} (hl : line.length ≤ 1000000) : ConP Tryz.prog 80 [.str line, .int .i64 many] (.tup [eSs (zeE line many), .bool (zcn line many)]) := by
 have hsl := zeM 32 line
 have hsc := List.count_le_length (a := (32 : UInt8)) (l := line)
 refine Con.of_body Tryz.func80 rfl Tryz.ntmps80 rfl rfl ?_
 refine za ?_
 refine das rfl ?_
 refine das rfl ?_
 refine dn ?_
 refine za ?_
 refine dmv rfl ?_
 refine dq (zj zux rfl (WeakL.refl _) (zfQ (c := 32) (by omega))) ?_
 refine das rfl ?_
 refine dn ?_
 refine zf ?_
 refine za ?_
 refine dmv rfl ?_
 refine dq (zL zaj rfl) ?_
 refine dmv rfl ?_
 refine dq (zai rfl rfl) ?_
 refine dn ?_
 refine zi rfl (fun h1 => ?_) (fun h2 => ?_)
 ·try simp at h1
  refine za ?_
  refine das rfl ?_
  refine das rfl ?_
  refine dn ?_
  refine zk ?_
  first
  | exact zav rfl (zkT (zlY h1))
  | exact zav rfl (zkT (zmc (hg.trans (zlL h5))))
  | exact zF rfl (eqW (zma h2 hg))
 ·try simp at h2
  refine zl ?_
  refine ze ?_
  refine zf ?_
  refine za ?_
  refine dmv rfl ?_
  refine dq (zL zaj rfl) ?_
  refine dmv rfl ?_
  refine dn ?_
  refine zn ?_
  refine zak [4, 5, 8, 17, 18, 19, 20, 21, 22, 23] (fun (k : Nat) => [(17, .int .i64 k)]) (fun (k : Nat) => []) (fun (k : Nat) => k ≤ (spl 32 line).length ∧ ((spl 32 line).all (fun w => !w.isEmpty) = ((spl 32 line).drop k).all (fun w => !w.isEmpty))) (fun (k : Nat) => (spl 32 line).length - k) (0) ?_ ?_ ?_ ?_
  ·exact ⟨Nat.zero_le _, rfl⟩
  ·exact ⟨rfl, trivial⟩
  ·exact List.Perm.refl _
  ·intro k hinv
   obtain ⟨hk, hg⟩ := hinv
   refine za ?_
   refine dq (zW rfl rfl) ?_
   refine dn ?_
   refine zf ?_
   refine zi rfl (fun h3 => ?_) (fun h4 => ?_)
   ·try simp at h3
    obtain ⟨x, hx⟩ : ∃ x, (spl 32 line)[k]? = some x := ⟨_, List.getElem?_eq_getElem h3⟩
    have hdx := zX hx
    rw [hdx] at hg
    refine zl ?_
    refine ze ?_
    refine zf ?_
    refine zn ?_
    refine za ?_
    refine dq (zP zaj ty9 rfl rfl rfl (by first | assumption | simp_all)) ?_
    refine dq (zc ty9 rfl rfl rfl) ?_
    refine das rfl ?_
    refine dn ?_
    refine za ?_
    refine dmv rfl ?_
    refine dq (zaY rfl rfl) ?_
    refine dn ?_
    refine zi rfl (fun h5 => ?_) (fun h6 => ?_)
    ·try simp at h5
     refine za ?_
     refine das rfl ?_
     refine das rfl ?_
     refine dn ?_
     refine zk ?_
     first
     | exact zav rfl (zkT (zlY h1))
     | exact zav rfl (zkT (zmc (hg.trans (zlL h5))))
     | exact zF rfl (eqW (zma h2 hg))
    ·try simp at h6
     refine zl ?_
     refine zG ?_
     refine ze ?_
     refine zB ?_
     refine dq (zC rfl rfl (by omega) (by omega)) ?_
     refine dmv rfl ?_
     refine dn ?_
     refine ⟨k + 1, ?_, ?_, ⟨rfl, trivial⟩, (by repeat (first | exact zp | refine zt rfl ?_ | refine zq rfl rfl ?_)), List.Perm.refl _⟩
     ·refine ⟨by omega, ?_⟩
      rw [hg]; simp_all
     ·dsimp only; omega
   ·try simp at h4
    have hnk : (spl 32 line).length ≤ k := by omega
    obtain rfl : k = (spl 32 line).length := by omega
    rw [zap (Nat.le_refl _)] at hg
    refine zU ?_
    refine z6 ?_
    refine zas ?_
    refine zJ ?_
    refine ze ?_
    refine za ?_
    refine dmv rfl ?_
    refine das rfl ?_
    refine das rfl ?_
    refine dn ?_
    refine zk ?_
    first
    | exact zav rfl (zkT (zlY h1))
    | exact zav rfl (zkT (zmc (hg.trans (zlL h5))))
    | exact zF rfl (eqW (zma h2 hg))

/-- benchwarmer/base.Lines -/
theorem zpQ [Tracks] {text : Str} (ht : text.length ≤ 1000000) : ConP Tryz.prog 79 [.str text] (.tup [eSs (zbJ text), .bool (zeg text)]) := by
 have htl : (Lib.trimSuffix text [10]).length ≤ text.length := by unfold Lib.trimSuffix; split <;> simp
 refine Con.of_body Tryz.func79 rfl Tryz.ntmps79 rfl rfl ?_
 refine za ?_
 refine das rfl ?_
 refine das rfl ?_
 refine dn ?_
 refine zf ?_
 refine za ?_
 refine dmv rfl ?_
 refine dq (zaY rfl rfl) ?_
 refine dn ?_
 refine zi rfl (fun h1 => ?_) (fun h2 => ?_)
 ·try simp at h1
  refine za ?_
  refine das rfl ?_
  refine das rfl ?_
  refine dn ?_
  refine zk ?_
  first
  | exact zav rfl (ztT h1)
  | exact zF rfl (eqLn h2)
 ·try simp at h2
  refine zl ?_
  refine ze ?_
  refine za ?_
  refine dmv rfl ?_
  refine dq (zj zw9 rfl (WeakL.refl _) (zjM (p := [10]) (by omega))) ?_
  refine dmv rfl ?_
  refine dq (zx rfl rfl) ?_
  refine dq (zx rfl rfl) ?_
  refine das rfl ?_
  refine das rfl ?_
  refine dn ?_
  refine za ?_
  refine dmv rfl ?_
  refine dq (zj zux rfl (WeakL.refl _) (zfQ (c := 10) (by omega))) ?_
  refine dmv rfl ?_
  refine das rfl ?_
  refine das rfl ?_
  refine dn ?_
  refine zk ?_
  first
  | exact zav rfl (ztT h1)
  | exact zF rfl (eqLn h2)

/-- benchwarmer/base.Number -/
theorem zmd [Tracks] {s : Str} {m : Int} (hs : s.length ≤ 1000000) (hm : m ≤ 17) : ConP Tryz.prog 132 [.str s, .int .i64 m] (.tup [.int .i64 (zT s m), .bool (zcE s m)]) := by
 have hcl := zkk s
 refine Con.of_body Tryz.func132 rfl Tryz.ntmps132 rfl rfl ?_
 refine za ?_
 refine das rfl ?_
 refine das rfl ?_
 refine dn ?_
 refine za ?_
 refine dmv rfl ?_
 refine dq (zj zu8 rfl (WeakL.refl _) zfJ) ?_
 refine das rfl ?_
 refine dn ?_
 refine zf ?_
 refine za ?_
 refine dmv rfl ?_
 refine dq (zaY rfl rfl) ?_
 refine dmv rfl ?_
 refine dg rfl rfl (fun hc => ⟨_, OpenTo.refl _, zd rfl⟩) ?_
 refine dg rfl rfl (fun hc => ⟨_, OpenTo.upd (t := 15) rfl (by first | exact hc | simp_all) (OpenTo.refl _), zbk ty9 rfl⟩) ?_
 refine dg rfl rfl (fun hc => ⟨_, OpenTo.refl _, zd rfl⟩) ?_
 refine dg rfl rfl (fun hc => ⟨_, OpenTo.upd (t := 17) rfl (by first | exact hc | simp_all) (OpenTo.upd (t := 16) rfl (by first | exact hc | simp_all) (OpenTo.refl _)), zaf rfl rfl⟩) ?_
 refine dq (zv rfl (.inl rfl) (.inr ⟨_, rfl, fun h => by simp_all⟩)) ?_
 refine dmv rfl ?_
 refine dg rfl rfl (fun hc => ⟨_, OpenTo.refl _, zd rfl⟩) ?_
 refine dg rfl rfl (fun hc => ⟨_, OpenTo.upd (t := 21) rfl (by first | exact hc | simp_all) (OpenTo.refl _), zbA (j := 0) (b := (zZ s).headD 0) ty9 rfl rfl rfl (hd0 (by simp_all))⟩) ?_
 refine dg rfl rfl (fun hc => ⟨_, OpenTo.upd (t := 22) rfl (by first | exact hc | simp_all) (OpenTo.refl _), zaJ rfl rfl⟩) ?_
 refine dg rfl rfl (fun hc => ⟨_, OpenTo.upd (t := 23) rfl (by first | exact hc | simp_all) (OpenTo.refl _), zd rfl⟩) ?_
 refine dg rfl rfl (fun hc => ⟨_, OpenTo.refl _, zd rfl⟩) ?_
 refine dg rfl rfl (fun hc => ⟨_, OpenTo.upd (t := 25) rfl (by first | exact hc | simp_all) (OpenTo.refl _), zbk ty9 rfl⟩) ?_
 refine dg rfl rfl (fun hc => ⟨_, OpenTo.upd (t := 26) rfl (by first | exact hc | simp_all) (OpenTo.refl _), zaf rfl rfl⟩) ?_
 refine dg rfl rfl (fun hc => ⟨_, OpenTo.upd (t := 27) rfl (by first | exact hc | simp_all) (OpenTo.refl _), zd rfl⟩) ?_
 refine dg rfl rfl (fun hc => ⟨_, OpenTo.refl _, zd rfl⟩) ?_
 refine dg rfl rfl (fun hc => ⟨_, OpenTo.upd (t := 29) rfl (by first | exact hc | simp_all) (OpenTo.refl _), zbk ty9 rfl⟩) ?_
 refine dg rfl rfl (fun hc => ⟨_, OpenTo.refl _, zd rfl⟩) ?_
 refine dg rfl rfl (fun hc => ⟨_, OpenTo.upd (t := 31) rfl (by first | exact hc | simp_all) (OpenTo.refl _), zbk ty9 rfl⟩) ?_
 refine dg rfl rfl (fun hc => ⟨_, OpenTo.upd (t := 32) rfl (by first | exact hc | simp_all) (OpenTo.upd (t := 30) rfl (by first | exact hc | simp_all) (OpenTo.refl _)), zaf rfl rfl⟩) ?_
 refine dg rfl rfl (fun hc => ⟨_, OpenTo.upd (t := 28) rfl (by first | exact hc | simp_all) (OpenTo.refl _), zv rfl (.inl rfl) (.inr ⟨_, rfl, fun h => by simp_all⟩)⟩) ?_
 refine dg rfl rfl (fun hc => ⟨_, OpenTo.upd (t := 24) rfl (by first | exact hc | simp_all) (OpenTo.refl _), zv rfl (.inr ⟨_, rfl, fun h => by simp_all⟩) (.inl rfl)⟩) ?_
 refine dq (zv rfl (.inl rfl) (.inr ⟨_, rfl, fun h => by simp_all⟩)) ?_
 refine dn ?_
 refine zi rfl (fun h1 => ?_) (fun h2 => ?_)
 ·try simp at h1
  refine za ?_
  refine das rfl ?_
  refine das rfl ?_
  refine dn ?_
  refine zk ?_
  refine zF rfl ?_
  show HVal.tup _ = _
  first | (rw [zT, zni h1]; rfl) | (rw [zT, show zcE s m = false by rw [zcE, hg, List.all_cons, zsf h5]; simp]; rfl) | (rw [zT, hnb]; rfl)
 ·try simp at h2
  refine zl ?_
  refine ze ?_
  refine zf ?_
  refine za ?_
  refine dmv rfl ?_
  refine dq (zbk ty9 rfl) ?_
  refine dmv rfl ?_
  refine dn ?_
  refine zn ?_
  refine zak [4, 5, 7, 39, 40, 41, 42, 43, 44, 45, 46, 47, 48, 49, 50, 51, 52] (fun (k : Nat) => [(39, .int .i64 k)]) (fun (k : Nat) => []) (fun (k : Nat) => k ≤ (zZ s).length ∧ (zZ s).all dig = ((zZ s).drop k).all dig) (fun (k : Nat) => (zZ s).length - k) (0) ?_ ?_ ?_ ?_
  ·exact ⟨Nat.zero_le _, rfl⟩
  ·exact ⟨rfl, trivial⟩
  ·exact List.Perm.refl _
  ·intro k hinv
   obtain ⟨hk, hg⟩ := hinv
   refine za ?_
   refine dq (zW rfl rfl) ?_
   refine dn ?_
   refine zf ?_
   refine zi rfl (fun h3 => ?_) (fun h4 => ?_)
   ·try simp at h3
    obtain ⟨x, hx⟩ : ∃ x, (zZ s)[k]? = some x := ⟨_, List.getElem?_eq_getElem h3⟩
    have hd := zX hx
    rw [hd] at hg
    refine zl ?_
    refine ze ?_
    refine zf ?_
    refine zn ?_
    refine za ?_
    refine dmv rfl ?_
    refine das rfl ?_
    refine dn ?_
    refine za ?_
    refine dmv rfl ?_
    refine dmv rfl ?_
    refine dq (zbA ty9 rfl rfl rfl (by first | assumption | simp_all)) ?_
    refine dq (zW rfl rfl) ?_
    refine dmv rfl ?_
    refine dg rfl rfl (fun hc => ⟨_, OpenTo.refl _, zd rfl⟩) ?_
    refine dg rfl rfl (fun hc => ⟨_, OpenTo.refl _, zd rfl⟩) ?_
    refine dg rfl rfl (fun hc => ⟨_, OpenTo.upd (t := 48) rfl (by first | exact hc | simp_all) (OpenTo.upd (t := 47) rfl (by first | exact hc | simp_all) (OpenTo.refl _)), zbA ty9 rfl rfl rfl (by first | assumption | simp_all)⟩) ?_
    refine dg rfl rfl (fun hc => ⟨_, OpenTo.upd (t := 49) rfl (by first | exact hc | simp_all) (OpenTo.refl _), zaf rfl rfl⟩) ?_
    refine dq (zv rfl (.inl rfl) (.inr ⟨_, rfl, fun h => by simp_all⟩)) ?_
    refine dn ?_
    refine zi rfl (fun h5 => ?_) (fun h6 => ?_)
    ·try simp at h5
     refine za ?_
     refine das rfl ?_
     refine das rfl ?_
     refine dn ?_
     refine zk ?_
     refine zF rfl ?_
     show HVal.tup _ = _
     first | (rw [zT, zni h1]; rfl) | (rw [zT, show zcE s m = false by rw [zcE, hg, List.all_cons, zsf h5]; simp]; rfl) | (rw [zT, hnb]; rfl)
    ·try simp at h6
     refine zl ?_
     refine zG ?_
     refine ze ?_
     refine zB ?_
     refine dq (zC rfl rfl (by omega) (by omega)) ?_
     refine dmv rfl ?_
     refine dn ?_
     refine ⟨k + 1, ?_, ?_, ⟨rfl, trivial⟩, (by repeat (first | exact zp | refine zt rfl ?_ | refine zq rfl rfl ?_)), List.Perm.refl _⟩
     ·refine ⟨by omega, ?_⟩
      rw [hg, List.all_cons, zwX h6]; rfl
     ·dsimp only; omega
   ·try simp at h4
    rw [zap (by omega)] at hg
    refine zU ?_
    refine z6 ?_
    refine zas ?_
    refine zJ ?_
    refine ze ?_
    refine za ?_
    refine dmv rfl ?_
    have hnb : zcE s m = true := by simp [zcE, zwo h2, hg]
    obtain ⟨hvat, hv18, _, _⟩ := zpd hm (zsM hnb)
    refine dq (zj zvu rfl (WeakL.refl _) (ziU hv18 hvat)) ?_
    refine dmv rfl ?_
    refine dq (zx rfl rfl) ?_
    refine dq (zx rfl rfl) ?_
    refine das rfl ?_
    refine das rfl ?_
    refine dn ?_
    refine zaM (fun _ => True) [] mixed ?_
    refine ahp 0 rfl rfl (by kernel_rfl) (by kernel_rfl) (zd rfl) ?_
    refine ahp 1 rfl rfl (by kernel_rfl) (by kernel_rfl) (zd rfl) ?_
    refine ahp 2 rfl rfl (by kernel_rfl) (by kernel_rfl) (zmI Tryz.underlying64 rfl) ?_
    refine ahp 3 rfl rfl (by kernel_rfl) (by kernel_rfl) (zaA rfl) ?_
    refine ahp 4 rfl rfl (by kernel_rfl) (by kernel_rfl) (zaA rfl) ?_
    refine ahz (by kernel_rfl) ?_
    refine zk ?_
    refine zF rfl ?_
    show HVal.tup _ = _
    first | (rw [zT, zni h1]; rfl) | (rw [zT, show zcE s m = false by rw [zcE, hg, List.all_cons, zsf h5]; simp]; rfl) | (rw [zT, hnb]; rfl)

/-- benchwarmer/benchref1.Int -/
theorem zk8 [Tracks] {s : Str} {m : Int} (hs : s.length ≤ 1000000) (hm : m ≤ 17) : ConP Tryz.prog 122 [.str s, .int .i64 m] (.tup [.int .i64 (zh3 s m), .bool (zfK s m)]) := by
 have hcl := zkk s
 refine Con.of_body Tryz.func122 rfl Tryz.ntmps122 rfl rfl ?_
 refine za ?_
 refine das rfl ?_
 refine das rfl ?_
 refine dn ?_
 refine za ?_
 refine dmv rfl ?_
 refine dq (zj zu8 rfl (WeakL.refl _) zfJ) ?_
 refine das rfl ?_
 refine dn ?_
 refine zf ?_
 refine za ?_
 refine dmv rfl ?_
 refine dq (zbk ty9 rfl) ?_
 refine dmv rfl ?_
 refine dq (zj zf9 rfl (WeakL.refl _) za7) ?_
 refine dq (zaa rfl) ?_
 refine dmv rfl ?_
 refine dg rfl rfl (fun hc => ⟨_, OpenTo.refl _, zd rfl⟩) ?_
 refine dg rfl rfl (fun hc => by have hq := hc; (try simp at hq); exact ⟨_, OpenTo.upd (t := 17) rfl (by first | exact hc | simp_all) (OpenTo.refl _), zj zuy rfl (WeakL.refl _) (zfX (l := zeP) (by omega) (by decide) (by decide) (by decide))⟩) ?_
 refine dg rfl rfl (fun hc => ⟨_, OpenTo.upd (t := 18) rfl (by first | exact hc | simp_all) (OpenTo.refl _), zf8 rfl rfl⟩) ?_
 refine dq (zv rfl (.inl rfl) (.inr ⟨_, rfl, fun h => by simp_all⟩)) ?_
 refine dn ?_
 refine zi rfl (fun h1 => ?_) (fun h2 => ?_)
 ·try simp at h1
  refine za ?_
  refine das rfl ?_
  refine das rfl ?_
  refine dn ?_
  refine zk ?_
  refine zF rfl ?_
  show HVal.tup _ = _
  first | (simp [zh3, zfK, hic]; done) | (have hic : zfb s m = true := (by simpa [zfb, zhm] using h1); simp [zh3, zfK, hic, zbh, zcf]; done)
 ·try simp at h2
  refine zl ?_
  refine ze ?_
  refine za ?_
  refine dmv rfl ?_
  have hic : zfb s m = false := by simpa [zfb, zhm] using h2
  obtain ⟨hvat, hv18, hvb1, hvb2⟩ := zpd hm hic
  refine dq (zj zvu rfl (WeakL.refl _) (ziU hv18 hvat)) ?_
  refine dmv rfl ?_
  refine dq (zx rfl rfl) ?_
  refine dq (zx rfl rfl) ?_
  refine das rfl ?_
  refine das rfl ?_
  refine dn ?_
  refine za ?_
  refine dmv rfl ?_
  refine dmv rfl ?_
  refine dq (zmI Tryz.underlying64 rfl) ?_
  refine dmv rfl ?_
  refine dg rfl rfl (fun hc => ⟨_, OpenTo.refl _, zd rfl⟩) ?_
  refine dg rfl rfl (fun hc => by have hq := hc; (try simp at hq); exact ⟨_, OpenTo.upd (t := 30) rfl (by first | exact hc | simp_all) (OpenTo.refl _), zj zha rfl (WeakL.refl _) (zeq (n := zdr s) (by omega) (by omega))⟩) ?_
  refine dg rfl rfl (fun hc => ⟨_, OpenTo.refl _, zd rfl⟩) ?_
  refine dg rfl rfl (fun hc => ⟨_, OpenTo.upd (t := 32) rfl (by first | exact hc | simp_all) (OpenTo.upd (t := 31) rfl (by first | exact hc | simp_all) (OpenTo.refl _)), zaY rfl rfl⟩) ?_
  refine dq (zv rfl (.inr ⟨_, rfl, fun h => by simp_all⟩) (.inl rfl)) ?_
  refine das rfl ?_
  refine das rfl ?_
  refine dn ?_
  refine zk ?_
  refine zF rfl ?_
  show HVal.tup _ = _
  first | (simp [zh3, zfK, hic]; done) | (have hic : zfb s m = true := (by simpa [zfb, zhm] using h1); simp [zh3, zfK, hic, zbh, zcf]; done)

/-- benchwarmer/benchref1.Ints -/
theorem zlU [Tracks] {w : List Str} {m : Int} (hw : w.length ≤ 1000000) (hs : ∀ s ∈ w, s.length ≤ 1000000) (hm : m ≤ 17) : ConP Tryz.prog 72 [eSs w, .int .i64 m] (.tup [.slice 1 ((ziZ w m).map (.int .i64)), .bool (zdz w m)]) := by
 refine Con.of_body Tryz.func72 rfl Tryz.ntmps72 rfl rfl ?_
 refine za ?_
 refine das rfl ?_
 refine das rfl ?_
 refine dn ?_
 refine za ?_
 refine das rfl ?_
 refine dn ?_
 refine zH (Ghost.arr_nil 1) ?_
 refine zf ?_
 refine za ?_
 refine dmv rfl ?_
 refine dq (zL zaj rfl) ?_
 refine dmv rfl ?_
 refine dn ?_
 refine zn ?_
 refine zaI [4, 5, 6, 8, 9, 10, 13, 14, 15, 16, 17, 18, 19, 20, 21, 22, 23, 24, 25, 26, 27, 28, 29] (fun (k : Nat) (u : Value) => [(13, .int .i64 k), (6, .raw u)]) (fun (k : Nat) (u : Value) => [.arr u 1 (((w.take k).map (zh3 · m)).map (.int .i64))]) (fun (k : Nat) (u : Value) => k ≤ w.length ∧ (zdz w m = zdz (w.drop k) m ∧ (w.take k).all (zfK · m) = true)) (fun (k : Nat) (u : Value) => w.length - k) (0) (.slice none 0 0) ?_ ?_ ?_ ?_
 ·exact ⟨Nat.zero_le _, rfl, rfl⟩
 ·exact ⟨rfl, rfl, trivial⟩
 ·exact zS (by simp)
 ·intro k u hinv
  obtain ⟨hk, ⟨hg, hq⟩⟩ := hinv
  refine za ?_
  refine dq (zW rfl rfl) ?_
  refine dn ?_
  refine zf ?_
  refine zi rfl (fun h1 => ?_) (fun h2 => ?_)
  ·try simp at h1
   obtain ⟨x, hx⟩ : ∃ x, w[k]? = some x := ⟨_, List.getElem?_eq_getElem h1⟩
   have hdx := zX hx
   rw [hdx, zrE] at hg
   refine zl ?_
   refine ze ?_
   refine zf ?_
   refine zn ?_
   refine za ?_
   refine dq (zP zaj ty9 rfl rfl rfl (by first | assumption | simp_all)) ?_
   refine dq (zc ty9 rfl rfl rfl) ?_
   refine das rfl ?_
   refine dn ?_
   refine za ?_
   refine dmv rfl ?_
   refine dmv rfl ?_
   refine dq (zj zxS rfl (WeakL.refl _) (zk8 (hs x (List.mem_of_getElem? hx)) hm)) ?_
   refine dmv rfl ?_
   refine dq (zx rfl rfl) ?_
   refine dq (zx rfl rfl) ?_
   refine das rfl ?_
   refine das rfl ?_
   refine dn ?_
   refine zf ?_
   refine za ?_
   refine dmv rfl ?_
   refine dq (zaa rfl) ?_
   refine dn ?_
   refine zi rfl (fun h3 => ?_) (fun h4 => ?_)
   ·try simp at h3
    refine za ?_
    refine das rfl ?_
    refine das rfl ?_
    refine dn ?_
    refine zk ?_
    first
    | exact zd3 Ghost.drop rfl (zvk (zrz hg h3)) ⟨rfl, rfl⟩
    | exact zat (Ghost.fa 4 (i := 0) rfl rfl) rfl ⟨eqI hg, rfl⟩
   ·try simp at h4
    refine zl ?_
    refine ze ?_
    refine zB ?_
    refine dmv rfl ?_
    refine dmv rfl ?_
    refine dq (zw (hs := [_]) zaq ty3 rfl rfl (by decide) (by decide) rfl) ?_
    refine de rfl (zan (i := 0) zaq ty3 rfl rfl rfl rfl rfl (by simp [za5, zh]) (by simp; omega) fun v28 => ?_)
    refine das rfl ?_
    refine dn ?_
    refine zG ?_
    refine ze ?_
    refine zB ?_
    refine dq (zC rfl rfl (by omega) (by omega)) ?_
    refine dmv rfl ?_
    refine dn ?_
    exact ⟨k + 1, v28, ⟨by omega, by rw [hg, h4]; rfl, by rw [zad hx, List.all_append, hq]; simp [h4]⟩, by dsimp only; omega, ⟨rfl, rfl, trivial⟩, (by repeat (first | exact zp | refine zt rfl ?_ | refine zq rfl rfl ?_)), zS (by dsimp only; rw [zad hx]; simp)⟩
  ·try simp at h2
   have hnk : w.length ≤ k := by omega
   obtain rfl : k = w.length := by omega
   rw [zap (Nat.le_refl _)] at hg
   rw [List.take_length]
   rw [List.take_length] at hq
   refine zU ?_
   refine z6 ?_
   refine zaR ?_
   refine zJ ?_
   refine ze ?_
   refine za ?_
   refine dmv rfl ?_
   refine das rfl ?_
   refine das rfl ?_
   refine dn ?_
   refine zk ?_
   first
   | exact zd3 Ghost.drop rfl (zvk (zrz hg h3)) ⟨rfl, rfl⟩
   | exact zat (Ghost.fa 4 (i := 0) rfl rfl) rfl ⟨eqI hg, rfl⟩
end
section
open Go.HL
/-- benchwarmer/base.Each -/
theorem zqU [Tracks] {σ : Type} {S : σ → List MObj} {Inv : List Str → σ → Prop} {ok : Str → Bool} {fid : FuncId} {caps : List HVal} {st0 : σ} {text : Str}  (hca : Callable Tryz.prog fid) (hp : ∀ (done : List Str) (s : Str) (st : σ), done.length ≤ 1000000 → s.length ≤ 1000000 → Inv done st → Con Tryz.prog fid ([.str s] ++ caps) (S st) fun x M' => ∃ st', x = .bool (ok s) ∧ M' = S st' ∧ (ok s = true → Inv (done ++ [s]) st')) (h0 : Inv [] st0) (ht : text.length ≤ 1000000) : Con Tryz.prog 35 [.str text, .fn (.func fid) [] caps] (S st0) (fun x M' => ∃ st', x = .tup [.int .i64 (goL ok 0 (spl 10 text)).1, .bool (goL ok 0 (spl 10 text)).2] ∧ M' = S st' ∧ ((goL ok 0 (spl 10 text)).2 = true → Inv (lns text) st')) := by
 have hll := ztO text
 refine Con.of_body Tryz.func35 rfl Tryz.ntmps35 rfl rfl ?_
 refine za ?_
 refine das rfl ?_
 refine das rfl ?_
 refine dn ?_
 refine za ?_
 refine dmv rfl ?_
 refine dq (zj ca79 rfl (WeakL.refl _) (zpQ (by first | assumption | omega | (simp; omega) | simp_all))) ?_
 refine dmv rfl ?_
 refine dq (zx rfl rfl) ?_
 refine dq (zx rfl rfl) ?_
 refine das rfl ?_
 refine das rfl ?_
 refine dn ?_
 refine zf ?_
 refine za ?_
 refine dmv rfl ?_
 refine dq (zL zaj rfl) ?_
 refine dmv rfl ?_
 refine dn ?_
 refine zn ?_
 refine zaI [4, 5, 8, 9, 17, 18, 19, 20, 21, 22, 23, 24, 25, 26, 27, 28, 29, 30, 31, 32, 33, 34, 35, 36, 37, 38] (fun (k : Nat) (st : σ) => [(17, .int .i64 k)]) (fun (k : Nat) (st : σ) => (S st)) (fun (k : Nat) (st : σ) => k ≤ (zbJ text).length ∧ (Inv ((zbJ text).take k) st ∧ goL ok 0 (spl 10 text) = zei ok (zeg text) (zbJ text).length k ((zbJ text).drop k))) (fun (k : Nat) (st : σ) => (zbJ text).length - k) (0) (st0) ?_ ?_ ?_ ?_
 ·exact ⟨Nat.zero_le _, h0, (zn6 ok text).symm⟩
 ·exact ⟨rfl, trivial⟩
 ·exact zS rfl
 ·intro k st hinv
  obtain ⟨hk, ⟨hq, hg⟩⟩ := hinv
  refine za ?_
  refine dq (zW rfl rfl) ?_
  refine dn ?_
  refine zf ?_
  refine zi rfl (fun h1 => ?_) (fun h2 => ?_)
  ·try simp at h1
   obtain ⟨x, hx⟩ : ∃ x, (zbJ text)[k]? = some x := ⟨_, List.getElem?_eq_getElem h1⟩
   have hdx := zX hx
   rw [hdx, zr1] at hg
   refine zl ?_
   refine ze ?_
   refine zf ?_
   refine zn ?_
   refine za ?_
   refine dmv rfl ?_
   refine dq (zP zaj ty9 rfl rfl rfl (by first | assumption | simp_all)) ?_
   refine dq (zc ty9 rfl rfl rfl) ?_
   refine das rfl ?_
   refine das rfl ?_
   refine dn ?_
   refine za ?_
   refine dmv rfl ?_
   refine dq (zaa rfl) ?_
   refine dmv rfl ?_
   refine dg rfl rfl (fun hc => ⟨_, OpenTo.refl _, zd rfl⟩) ?_
   refine dg rfl rfl (fun hc => ⟨_, OpenTo.refl _, zd rfl⟩) ?_
   refine dg rfl rfl (fun hc => ⟨_, OpenTo.upd (t := 26) rfl (by first | exact hc | simp_all) (OpenTo.refl _), zL zaj rfl⟩) ?_
   refine dg rfl rfl (fun hc => by have hq := hc; (try simp at hq); exact ⟨_, OpenTo.upd (t := 27) rfl (by first | exact hc | simp_all) (OpenTo.refl _), zbd rfl rfl (by omega) (by omega)⟩) ?_
   refine dg rfl rfl (fun hc => ⟨_, OpenTo.upd (t := 28) rfl (by first | exact hc | simp_all) (OpenTo.upd (t := 25) rfl (by first | exact hc | simp_all) (OpenTo.refl _)), zaJ rfl rfl⟩) ?_
   refine dq (zv rfl (.inr ⟨_, rfl, fun h => by simp_all⟩) (.inl rfl)) ?_
   refine dmv rfl ?_
   refine dg rfl rfl (fun hc => ⟨_, OpenTo.refl _, zd rfl⟩) ?_
   refine dg rfl rfl (fun hc => ⟨_, OpenTo.refl _, zd rfl⟩) ?_
   refine dgx (fun xq M' => ∃ st', xq = .bool (ok x) ∧ M' = S st' ∧ ((!(zeg text) && decide ((k : Int) = ((zbJ text).length : Int) - 1)) = false → ok x = true → Inv ((zbJ text).take k ++ [x]) st')) rfl rfl (fun hc => ⟨_, st, rfl, rfl, fun h => (by simp_all)⟩) (fun hc => ⟨_, OpenTo.upd (t := 33) rfl (by first | exact hc | simp_all) (OpenTo.upd (t := 32) rfl (by first | exact hc | simp_all) (OpenTo.refl _)), EOp.mono (fun _ _ ⟨st', h1, h2, h3⟩ => ⟨st', h1, h2, fun _ => h3⟩) (zj5 hca rfl rfl (WeakL.refl _) (hp ((zbJ text).take k) x st (by rw [List.length_take]; omega) (Nat.le_trans (zua x (List.mem_of_getElem? hx)) ht) hq))⟩) ?_
   rintro _ _ ⟨st2, rfl, rfl, hst2⟩
   refine dg rfl rfl (fun hc => ⟨_, OpenTo.upd (t := 34) rfl (by first | exact hc | simp_all) (OpenTo.refl _), zaa rfl⟩) ?_
   refine dq (zv rfl (.inl rfl) (.inr ⟨_, rfl, fun h => by simp_all⟩)) ?_
   refine dn ?_
   refine zi rfl (fun h3 => ?_) (fun h4 => ?_)
   ·try simp at h3
    refine za ?_
    refine dmv rfl ?_
    refine das rfl ?_
    refine das rfl ?_
    refine dn ?_
    refine zk ?_
    first
    | (have hgf : goL ok 0 (spl 10 text) = ((k : Int), false) := hg.trans (if_pos (by simp; simpa using h3))
       exact zaO rfl ⟨st2, by rw [hgf]; rfl, rfl, fun h => by rw [hgf] at h; cases h⟩)
    | (refine zaO rfl ⟨st, ?_, rfl, fun h => ?_⟩
       ·rw [hg]; rfl
       ·rw [zmi h]; exact hq)
   ·try simp at h4
    refine zl ?_
    refine zG ?_
    refine ze ?_
    refine zB ?_
    refine dq (zC rfl rfl (by omega) (by omega)) ?_
    refine dmv rfl ?_
    refine dn ?_
    exact ⟨k + 1, st2, ⟨by omega, (by simp_all [zad hx]), (by simp_all)⟩, by dsimp only; omega, ⟨rfl, trivial⟩, (by repeat (first | exact zp | refine zt rfl ?_ | refine zq rfl rfl ?_)), zS rfl⟩
  ·try simp at h2
   have hnk : (zbJ text).length ≤ k := by omega
   obtain rfl : k = (zbJ text).length := by omega
   rw [zap (Nat.le_refl _)] at hg
   rw [List.take_length] at hq
   refine zU ?_
   refine z6 ?_
   refine zaR ?_
   refine zJ ?_
   refine ze ?_
   refine za ?_
   refine das rfl ?_
   refine das rfl ?_
   refine dn ?_
   refine zk ?_
   first
   | (have hgf : goL ok 0 (spl 10 text) = ((k : Int), false) := hg.trans (if_pos (by simp; simpa using h3))
      exact zaO rfl ⟨st2, by rw [hgf]; rfl, rfl, fun h => by rw [hgf] at h; cases h⟩)
   | (refine zaO rfl ⟨st, ?_, rfl, fun h => ?_⟩
      ·rw [hg]; rfl
      ·rw [zmi h]; exact hq)

/-- benchwarmer/benchref1.Lines -/
theorem zk4 [Tracks] {σ : Type} {S : σ → List MObj} {Inv : List Str → σ → Prop} {ok : Str → Bool} {fid : FuncId} {caps : List HVal} {st0 : σ} {text : Str}  (hca : Callable Tryz.prog fid) (hp : ∀ (done : List Str) (s : Str) (st : σ), done.length ≤ 1000000 → s.length ≤ 1000000 → Inv done st → Con Tryz.prog fid ([.str s] ++ caps) (S st) fun x M' => ∃ st', x = .bool (ok s) ∧ M' = S st' ∧ (ok s = true → Inv (done ++ [s]) st')) (h0 : Inv [] st0) (ht : text.length ≤ 1000000) : Con Tryz.prog 69 [.str text, .fn (.func fid) [] caps] (S st0) (fun x M' => ∃ st', x = .tup [.int .i64 (goL ok 0 (spl 10 text)).1, .bool (goL ok 0 (spl 10 text)).2] ∧ M' = S st' ∧ ((goL ok 0 (spl 10 text)).2 = true → Inv (lns text) st')) := by
 refine Con.of_body Tryz.func69 rfl Tryz.ntmps69 rfl rfl ?_
 refine za ?_
 refine das rfl ?_
 refine das rfl ?_
 refine dn ?_
 refine zf ?_
 refine za ?_
 refine das rfl ?_
 refine dn ?_
 refine zn ?_
 refine zoy [0, 4, 5, 6, 7, 8, 9, 10, 11, 12, 13, 14, 15, 16, 17, 18, 19, 20, 21, 22, 23, 24, 25, 26, 27, 28, 29] (fun (k : Nat) (t : Str) (st : σ) (done : List Str) => [(6, .int .i64 (k : Int)), (0, .str t)]) (fun (k : Nat) (t : Str) (st : σ) (done : List Str) => (S st)) (fun (k : Nat) (t : Str) (st : σ) (done : List Str) => goL ok 0 (spl 10 text) = goL ok k (spl 10 t) ∧ lns text = done ++ lns t ∧ Inv done st ∧ done.length = k ∧ k + t.length ≤ text.length) (fun (k : Nat) (t : Str) (st : σ) (done : List Str) => t.length) (0) (text) (st0) ([]) ?_ ?_ ?_ ?_
 ·exact ⟨rfl, rfl, h0, rfl, by omega⟩
 ·exact ⟨rfl, rfl, trivial⟩
 ·exact zS rfl
 ·intro k t st done hinv
  obtain ⟨hg, hl, hq, hk, hlen⟩ := hinv
  refine zf ?_
  refine za ?_
  refine dmv rfl ?_
  refine dq (zf8 rfl rfl) ?_
  refine dn ?_
  refine zi rfl (fun h1 => ?_) (fun h2 => ?_)
  ·try simp at h1
   obtain ⟨hc1, hc2, hc3⟩ := zpU 10 t
   refine zl ?_
   refine ze ?_
   refine zf ?_
   refine zn ?_
   refine za ?_
   refine dmv rfl ?_
   refine dq (zj zxu rfl (WeakL.refl _) (zoV (c := 10) (by omega))) ?_
   refine dmv rfl ?_
   refine dq (zx rfl rfl) ?_
   refine dq (zx rfl rfl) ?_
   refine dq (zx rfl rfl) ?_
   refine das rfl ?_
   refine das rfl ?_
   refine das rfl ?_
   refine dn ?_
   refine zf ?_
   refine za ?_
   refine dmv rfl ?_
   refine dq (zaa rfl) ?_
   refine dmv rfl ?_
   refine dg rfl rfl (fun hc => ⟨_, OpenTo.refl _, zd rfl⟩) ?_
   refine dg rfl rfl (fun hc => ⟨_, OpenTo.refl _, zd rfl⟩) ?_
   refine dgx (fun xq M' => ∃ st', xq = .bool (ok (za3 10 t).1) ∧ M' = S st' ∧ ((za3 10 t).2.2 = true → ok (za3 10 t).1 = true → Inv (done ++ [(za3 10 t).1]) st')) rfl rfl (fun hc => ⟨_, st, rfl, rfl, fun h => (by simp_all)⟩) (fun hc => ⟨_, OpenTo.upd (t := 24) rfl (by first | exact hc | simp_all) (OpenTo.upd (t := 23) rfl (by first | exact hc | simp_all) (OpenTo.refl _)), EOp.mono (fun _ _ ⟨st', h1, h2, h3⟩ => ⟨st', h1, h2, fun _ => h3⟩) (zj5 hca rfl rfl (WeakL.refl _) (hp done (za3 10 t).1 st (by omega) (by omega) hq))⟩) ?_
   rintro _ _ ⟨st2, rfl, rfl, hst2⟩
   refine dg rfl rfl (fun hc => ⟨_, OpenTo.upd (t := 25) rfl (by first | exact hc | simp_all) (OpenTo.refl _), zaa rfl⟩) ?_
   refine dq (zv rfl (.inl rfl) (.inr ⟨_, rfl, fun h => by simp_all⟩)) ?_
   refine dn ?_
   refine zi rfl (fun h3 => ?_) (fun h4 => ?_)
   ·try simp at h3
    refine za ?_
    refine dmv rfl ?_
    refine das rfl ?_
    refine das rfl ?_
    refine dn ?_
    refine zk ?_
    first
    | (have hgf : goL ok 0 (spl 10 text) = ((k : Int), false) := hg.trans (zva h1 (fun hh => by simpa [hh] using h3))
       exact zaO rfl ⟨st2, by rw [hgf]; rfl, rfl, fun h => by rw [hgf] at h; cases h⟩)
    | (subst h2
       exact zaO rfl ⟨st, by rw [hg]; rfl, rfl, fun h => by rw [hl]; simpa [lns, spl] using hq⟩)
   ·try simp at h4
    refine zl ?_
    refine ze ?_
    refine zB ?_
    refine dmv rfl ?_
    refine das rfl ?_
    refine dn ?_
    refine zG ?_
    refine ze ?_
    refine zB ?_
    refine dmv rfl ?_
    refine dq (zC rfl rfl (by omega) (by omega)) ?_
    refine das rfl ?_
    refine dn ?_
    obtain ⟨h4a, h4b⟩ := h4
    have hc4 := hc3 h4a
    exact ⟨k + 1, (za3 10 t).2.1, st2, done ++ [(za3 10 t).1], ⟨hg.trans ((zrk h1 h4a).trans (if_pos h4b)), by rw [hl, zwr h4a]; simp, hst2 h4a h4b, by simp [hk], by omega⟩, by dsimp only; omega, ⟨rfl, rfl, trivial⟩, (by repeat (first | exact zp | refine zt rfl ?_ | refine zq rfl rfl ?_)), zS rfl⟩
  ·try simp at h2
   refine zU ?_
   refine z6 ?_
   refine zpI ?_
   refine zJ ?_
   refine ze ?_
   refine za ?_
   refine das rfl ?_
   refine das rfl ?_
   refine dn ?_
   refine zk ?_
   first
   | (have hgf : goL ok 0 (spl 10 text) = ((k : Int), false) := hg.trans (zva h1 (fun hh => by simpa [hh] using h3))
      exact zaO rfl ⟨st2, by rw [hgf]; rfl, rfl, fun h => by rw [hgf] at h; cases h⟩)
   | (subst h2
      exact zaO rfl ⟨st, by rw [hg]; rfl, rfl, fun h => by rw [hl]; simpa [lns, spl] using hq⟩)
end
end Go.Proofs.YtjecenjmphpmfaaGreatDoor
namespace Go.HL
section
variable {P : Program}
theorem zhY [Tracks] {e : Env} {dst : Option Tmp} {ty : TypeId} {pos : String} {af : Array Edge} {g : Option (Nat × Bool)} {M : List MObj} {K : HVal → List MObj → Prop} {t el : TypeId} {size bytes sz b2 n : Nat} {zero z2 : Value} {d : TD} {parts : Array (Nat × Operand)} {hs : List HVal}
 (hf : Fits P t (.slice el) size bytes zero) (hel : Fits P el d sz b2 z2) (hz : z2.cells.size = sz) (hn : parts.toList.length = n) (hsz : n * sz ≤ 16777216) (h0 : n * sz ≠ 0)
 (hr : zhe e sz 0 parts.toList = some hs) (hk : ∀ v, K (.raw v) (.arr v sz hs :: M)) : EOp P e M ⟨dst, .buildSlice t n parts, ty, pos, af, g⟩ K :=
 EOp.of_run fun I F a w ho hs' => by
  let zr : Array Value := (Array.range (n * sz)).map (z2.cells[· % z2.cells.size]!)
  obtain ⟨rc, h1, h2, h3, h4, h5, h6⟩ := zi8 (I := I) (f := a.eval) parts.toList 0 hs zr hr (fun x hx h hh => ho.one (by simpa [Op.operands] using hx) hh) (by simp [zr, hn])
  have hl : hs.length = n := by omega
  have hpos : 0 < sz := by
   rcases Nat.eq_zero_or_pos sz with h | h
   ·rw [h] at h0; simp at h0
   ·exact h
  have hnle : n ≤ n * sz := Nat.le_mul_of_pos_right n hpos
  refine ⟨.slice (some ⟨w.heap.size, 0, none⟩) n n, .raw (.slice (some ⟨w.heap.size, 0, none⟩) n n), _, push w (.cells rc el (0, 0)), I, ?_, .refl I, hk _, .raw _ rfl, ?_⟩
  ·have hp : (parts.map fun x => (x.1, a.eval x.2)).toList = parts.toList.map fun p => (p.1, a.eval p.2) := by simp
   have hle : ¬ n * sz > 2 ^ 24 := by omega
   simp only [execOp, Instr.buildSlice, Sem.run_bind, run_underlying hf.slice, Result.andThen_ok, hel.run_sizeOf]
   rw [if_neg hle]
   simp only [Sem.run_pure, Result.andThen_ok]
   rw [if_neg h0]
   simp only [Sem.run_bind, hel.run_zero, Result.andThen_ok, Sem.run_pure, hp]
   have h1' : Instr.fill (fun i => some (i * sz, sz)) ((Array.range (n * sz)).map fun x => z2.cells[x % z2.cells.size]!) (parts.toList.map fun p => (p.1, a.eval p.2)) = some rc := h1
   rw [h1']
   simp [newRow]
  ·have hrc : rc.size = n * sz := by rw [h2]; simp [zr]
   exact hs'.new_own (.cells rc el (0, 0)) (.arr (.slice (some ⟨w.heap.size, 0, none⟩) n n) sz hs) rfl (.inr ⟨w.heap.size, 0, n, rc, el, (0, 0), by rw [hl], by simp [push], Free.zero _, h5, ⟨by omega, by omega⟩, by omega, fun i j x c v b1 b2 b3 => h6 i j x c v b1 b2 (by simpa using b3)⟩)
end
end Go.HL
namespace Go.Proofs.YtjecenjmphpmfaaGreatDoor
set_option maxRecDepth 100000
set_option linter.unusedVariables false
set_option linter.unusedSimpArgs false
section
open Go.HL
/-- benchwarmer/benchref1.Key -/
theorem zdy [Tracks] {s : Str}  : ConP Tryz.prog 50 [.str s] (.bool (key s)) := by
 refine Con.of_body Tryz.func50 rfl Tryz.ntmps50 rfl rfl ?_
 refine za ?_
 refine das rfl ?_
 refine dn ?_
 refine za ?_
 refine dmv rfl ?_
 refine dq (zbk ty9 rfl) ?_
 refine dq (zj zf9 rfl (WeakL.refl _) za7) ?_
 refine dmv rfl ?_
 refine dg rfl rfl (fun hc => ⟨_, OpenTo.refl _, zd rfl⟩) ?_
 refine dg rfl rfl (fun hc => by
  have hs40 := zdw (n := (s.length : Int)) (lo := 1) (hi := 40) (by simpa using hc)
  exact ⟨_, OpenTo.upd (t := 7) rfl (by first | exact hc | simp_all) (OpenTo.refl _), zj zuy rfl (WeakL.refl _) (zfX (l := zg1) (by omega) (by decide) (by decide) (by decide))⟩) ?_
 refine dg rfl rfl (fun hc => ⟨_, OpenTo.upd (t := 8) rfl (by first | exact hc | simp_all) (OpenTo.refl _), zaY rfl rfl⟩) ?_
 refine dq (zv rfl (.inr ⟨_, rfl, fun h => by simp_all⟩) (.inl rfl)) ?_
 refine dmv rfl ?_
 refine dg rfl rfl (fun hc => ⟨_, OpenTo.refl _, zd rfl⟩) ?_
 refine dg rfl rfl (fun hc => ⟨_, OpenTo.upd (t := 12) rfl (by first | exact hc | simp_all) (OpenTo.refl _), zbA (j := 0) (b := s.headD 0) ty9 rfl rfl rfl (hd0 (by rintro rfl; simp [out] at hc))⟩) ?_
 refine dg rfl rfl (fun hc => ⟨_, OpenTo.upd (t := 13) rfl (by first | exact hc | simp_all) (OpenTo.refl _), zj ca94 rfl (WeakL.refl _) zfS⟩) ?_
 refine dg rfl rfl (fun hc => ⟨_, OpenTo.upd (t := 14) rfl (by first | exact hc | simp_all) (OpenTo.refl _), zbW rfl rfl⟩) ?_
 refine dq (zv rfl (.inr ⟨_, rfl, fun h => by simp_all⟩) (.inl rfl)) ?_
 refine das rfl ?_
 refine dn ?_
 refine zk ?_
 refine zF rfl ?_
 show HVal.bool _ = _
 rw [zrr]
 simp [zg1, ziH]
end
end Go.Proofs.YtjecenjmphpmfaaGreatDoor
namespace Go.HL
section
variable {P : Program}
/-- What a rune reads as. -/
def zmX (m : Int) : List UInt8 := (Utf8.encode m).data.toList
theorem ztR (m : Int) : (zmX m).length ≤ 4 := by
 show (Utf8.encode m).data.toList.length ≤ 4
 rw [Array.length_toList]; exact encode_size_le m
theorem znZ [Tracks] {e : Env} {dst : Option Tmp} {ty : TypeId} {pos : String} {af : Array Edge} {g : Option (Nat × Bool)} {x : Operand} {t d' : TypeId} {k : IntKind} {m : Int} {s1 s2 b1 b2 : Nat} {z1 z2 : Value} {ds : TD} (hs : Fits P t ds s1 b1 z1) (hf : Fits P d' .str s2 b2 z2) (hx : zA e x = some (.int k m)) :
 POp P e ⟨dst, .convert t d' x, ty, pos, af, g⟩ (.str (zmX m)) :=
 POp.of_val fun I a w ho => ⟨.string (Utf8.encode m), by
  have h1 := (ho.one (x := x) (by simp [Op.operands]) hx).int_inv
  obtain ⟨u, hu, _⟩ := hs.underlying
  simp only [execOp, h1, convert, Sem.run_bind, run_underlying hu, run_underlying hf.strD, Result.andThen_ok, Sem.run_pure, Conv.intToString], by
  have : Value.string (Utf8.encode m) = .string ⟨(zmX m).toArray⟩ := by simp [zmX]
  rw [this]; exact .str _⟩
end
end Go.HL
namespace Go.Proofs.YtjecenjmphpmfaaGreatDoor
set_option maxRecDepth 100000
set_option linter.unusedVariables false
set_option linter.unusedSimpArgs false
section
open Go.HL
/-- (*benchwarmer/benchmake.Stream).Changed -/
theorem zb0 [Tracks] {b : Nat} {l : List Int} {a : Nat} {t w : Str} (ha : a ≤ 900000) (ht : t.length ≤ 1000000) (hw : w.length ≤ 1000000) : Con Tryz.prog 38 [pAt b, .str t, .str w] [St b l a] (fun x M' => ∃ (y : Str) (a' : Nat), x = .str y ∧ y.length ≤ t.length + w.length + 4 ∧ a' ≤ a + 3 ∧ M' = [St b l a']) := by
 refine Con.of_body Tryz.func38 rfl Tryz.ntmps38 rfl rfl ?_
 refine za ?_
 refine das rfl ?_
 refine dn ?_
 refine zf ?_
 refine za ?_
 refine dmv rfl ?_
 refine dq (zaY rfl rfl) ?_
 refine dmv rfl ?_
 refine dg rfl rfl (fun hc => ⟨_, OpenTo.refl _, zd rfl⟩) ?_
 refine dg rfl rfl (fun hc => ⟨_, OpenTo.upd (t := 12) rfl (by first | exact hc | simp_all) (OpenTo.refl _), zaY rfl rfl⟩) ?_
 refine dq (zv rfl (.inl rfl) (.inr ⟨_, rfl, fun h => by simp_all⟩)) ?_
 refine dn ?_
 refine zi rfl (fun h1 => ?_) (fun h2 => ?_)
 ·try simp at h1
  refine za ?_
  refine dmv rfl ?_
  refine das rfl ?_
  refine dn ?_
  refine zk ?_
  first
  | exact zaO rfl ⟨_, a, rfl, by omega, by omega, rfl⟩
  | (refine zaO rfl ⟨_, a + 1 + 1 + 1, rfl, ?_, by omega, rfl⟩
     simp only [List.length_append, List.length_drop, List.length_take]
     (try simp only [List.getD_eq_getElem?_getD])
     omega)
 ·try simp at h2
  refine zl ?_
  refine ze ?_
  refine za ?_
  refine dmv rfl ?_
  refine dmv rfl ?_
  refine dq (zbk ty9 rfl) ?_
  first
  | refine de rfl (zo (i := 0) zcV rfl (WeakL.refl _) rfl (zV (by first | assumption | omega | (simp; omega) | simp_all) (by first | assumption | omega | (simp; omega) | simp_all)) ?_)
  | refine de rfl (zo (i := 1) zcV rfl (WeakL.refl _) rfl (zV (by first | assumption | omega | (simp; omega) | simp_all) (by first | assumption | omega | (simp; omega) | simp_all)) ?_)
  | refine de rfl (zo (i := 2) zcV rfl (WeakL.refl _) rfl (zV (by first | assumption | omega | (simp; omega) | simp_all) (by first | assumption | omega | (simp; omega) | simp_all)) ?_)
  | refine de rfl (zo (i := 3) zcV rfl (WeakL.refl _) rfl (zV (by first | assumption | omega | (simp; omega) | simp_all) (by first | assumption | omega | (simp; omega) | simp_all)) ?_)
  rintro _ _ ⟨y19, rfl, hy19, rfl⟩
  refine das rfl ?_
  refine dn ?_
  have hlt : y19 < t.length := by have := List.length_pos_iff.2 h2.1; omega
  have hwp := List.length_pos_iff.2 h2.2
  refine za ?_
  refine dmv rfl ?_
  refine dmv rfl ?_
  refine dmv rfl ?_
  refine dq (zbk ty9 rfl) ?_
  first
  | refine de rfl (zo (i := 0) zcV rfl (WeakL.refl _) rfl (zV (by first | assumption | omega | (simp; omega) | simp_all) (by first | assumption | omega | (simp; omega) | simp_all)) ?_)
  | refine de rfl (zo (i := 1) zcV rfl (WeakL.refl _) rfl (zV (by first | assumption | omega | (simp; omega) | simp_all) (by first | assumption | omega | (simp; omega) | simp_all)) ?_)
  | refine de rfl (zo (i := 2) zcV rfl (WeakL.refl _) rfl (zV (by first | assumption | omega | (simp; omega) | simp_all) (by first | assumption | omega | (simp; omega) | simp_all)) ?_)
  | refine de rfl (zo (i := 3) zcV rfl (WeakL.refl _) rfl (zV (by first | assumption | omega | (simp; omega) | simp_all) (by first | assumption | omega | (simp; omega) | simp_all)) ?_)
  rintro _ _ ⟨y24, rfl, hy24, rfl⟩
  refine dq (zbA (j := y24) (b := w.getD y24 0) ty9 rfl rfl rfl (getD_some (by omega))) ?_
  refine das rfl ?_
  refine dn ?_
  refine zf ?_
  have hru : (zmX (IntKind.i32.wrap (((w[y24]?.getD 0).toNat : Nat) : Int))).length ≤ 4 := ztR _
  refine za ?_
  refine dmv rfl ?_
  first
  | refine de rfl (zo (i := 0) zcV rfl (WeakL.refl _) rfl (zV (by first | assumption | omega | (simp; omega) | simp_all) (by first | assumption | omega | (simp; omega) | simp_all)) ?_)
  | refine de rfl (zo (i := 1) zcV rfl (WeakL.refl _) rfl (zV (by first | assumption | omega | (simp; omega) | simp_all) (by first | assumption | omega | (simp; omega) | simp_all)) ?_)
  | refine de rfl (zo (i := 2) zcV rfl (WeakL.refl _) rfl (zV (by first | assumption | omega | (simp; omega) | simp_all) (by first | assumption | omega | (simp; omega) | simp_all)) ?_)
  | refine de rfl (zo (i := 3) zcV rfl (WeakL.refl _) rfl (zV (by first | assumption | omega | (simp; omega) | simp_all) (by first | assumption | omega | (simp; omega) | simp_all)) ?_)
  rintro _ _ ⟨y27, rfl, hy27, rfl⟩
  refine dn ?_
  refine zn ?_
  refine za ?_
  refine dq (zaJ rfl rfl) ?_
  refine das rfl ?_
  refine dn ?_
  refine zi rfl (fun h3 => ?_) (fun h4 => ?_)
  ·try simp at h3
   refine zaM (fun _ => True) [] mixed ?_
   refine ahp 0 rfl rfl (by kernel_rfl) (by kernel_rfl) (zd rfl) ?_
   refine ahp 1 rfl rfl (by kernel_rfl) (by kernel_rfl) (zd rfl) ?_
   refine ahp 2 rfl rfl (by kernel_rfl) (by kernel_rfl) (zdl ty9 rfl rfl ⟨_, _, rfl, rfl⟩ (by omega) (by omega)) ?_
   refine ahp 3 rfl rfl (by kernel_rfl) (by kernel_rfl) (zd rfl) ?_
   refine ahp 4 rfl rfl (by kernel_rfl) (by kernel_rfl) (zg8 ty5 zsb rfl) ?_
   refine ahp 5 rfl rfl (by kernel_rfl) (by kernel_rfl) (znZ zsb ty9 rfl) ?_
   refine ahp 6 rfl rfl (by kernel_rfl) (by kernel_rfl) (zfe rfl rfl (by first | assumption | (simp; omega))) ?_
   refine ahp 7 rfl rfl (by kernel_rfl) (by kernel_rfl) (zd rfl) ?_
   refine ahp 8 rfl rfl (by kernel_rfl) (by kernel_rfl) (zd rfl) ?_
   refine ahp 9 rfl rfl (by kernel_rfl) (by kernel_rfl) (zC rfl rfl (by omega) (by omega)) ?_
   refine ahp 10 rfl rfl (by kernel_rfl) (by kernel_rfl) (zdl (l := y19 + 1) (h := t.length) ty9 rfl ⟨_, _, rfl, by omega⟩ rfl (by omega) (by omega)) ?_
   refine ahp 11 rfl rfl (by kernel_rfl) (by kernel_rfl) (zfe rfl rfl (by first | assumption | (simp; omega))) ?_
   refine ahp 12 rfl rfl (by kernel_rfl) (by kernel_rfl) (zaA rfl) ?_
   refine ahz (by kernel_rfl) ?_
   refine zk ?_
   first
   | exact zaO rfl ⟨_, a, rfl, by omega, by omega, rfl⟩
   | (refine zaO rfl ⟨_, a + 1 + 1 + 1, rfl, ?_, by omega, rfl⟩
      simp only [List.length_append, List.length_drop, List.length_take]
      (try simp only [List.getD_eq_getElem?_getD])
      omega)
  ·try simp at h4
   refine za ?_
   refine dq (zaJ rfl rfl) ?_
   refine das rfl ?_
   refine dn ?_
   refine zi rfl (fun h5 => ?_) (fun h6 => ?_)
   ·try simp at h5
    refine zaM (fun _ => True) [] mixed ?_
    refine ahp 0 rfl rfl (by kernel_rfl) (by kernel_rfl) (zd rfl) ?_
    refine ahp 1 rfl rfl (by kernel_rfl) (by kernel_rfl) (zd rfl) ?_
    refine ahp 2 rfl rfl (by kernel_rfl) (by kernel_rfl) (zdl ty9 rfl rfl ⟨_, _, rfl, rfl⟩ (by omega) (by omega)) ?_
    refine ahp 3 rfl rfl (by kernel_rfl) (by kernel_rfl) (zd rfl) ?_
    refine ahp 4 rfl rfl (by kernel_rfl) (by kernel_rfl) (zg8 ty5 zsb rfl) ?_
    refine ahp 5 rfl rfl (by kernel_rfl) (by kernel_rfl) (znZ zsb ty9 rfl) ?_
    refine ahp 6 rfl rfl (by kernel_rfl) (by kernel_rfl) (zfe rfl rfl (by first | assumption | (simp; omega))) ?_
    refine ahp 7 rfl rfl (by kernel_rfl) (by kernel_rfl) (zd rfl) ?_
    refine ahp 8 rfl rfl (by kernel_rfl) (by kernel_rfl) (zd rfl) ?_
    refine ahp 9 rfl rfl (by kernel_rfl) (by kernel_rfl) (zdl ty9 rfl ⟨_, _, rfl, rfl⟩ rfl (by omega) (by omega)) ?_
    refine ahp 10 rfl rfl (by kernel_rfl) (by kernel_rfl) (zfe rfl rfl (by first | assumption | (simp; omega))) ?_
    refine ahp 11 rfl rfl (by kernel_rfl) (by kernel_rfl) (zaA rfl) ?_
    refine ahz (by kernel_rfl) ?_
    refine zk ?_
    first
    | exact zaO rfl ⟨_, a, rfl, by omega, by omega, rfl⟩
    | (refine zaO rfl ⟨_, a + 1 + 1 + 1, rfl, ?_, by omega, rfl⟩
       simp only [List.length_append, List.length_drop, List.length_take]
       (try simp only [List.getD_eq_getElem?_getD])
       omega)
   ·try simp at h6
    refine zl ?_
    refine zG ?_
    refine ze ?_
    refine zaM (fun _ => True) [] mixed ?_
    refine ahp 0 rfl rfl (by kernel_rfl) (by kernel_rfl) (zd rfl) ?_
    refine ahp 1 rfl rfl (by kernel_rfl) (by kernel_rfl) (zd rfl) ?_
    refine ahp 2 rfl rfl (by kernel_rfl) (by kernel_rfl) (zdl ty9 rfl rfl ⟨_, _, rfl, rfl⟩ (by omega) (by omega)) ?_
    refine ahp 3 rfl rfl (by kernel_rfl) (by kernel_rfl) (zd rfl) ?_
    refine ahp 4 rfl rfl (by kernel_rfl) (by kernel_rfl) (zd rfl) ?_
    refine ahp 5 rfl rfl (by kernel_rfl) (by kernel_rfl) (zC rfl rfl (by omega) (by omega)) ?_
    refine ahp 6 rfl rfl (by kernel_rfl) (by kernel_rfl) (zdl (l := y19 + 1) (h := t.length) ty9 rfl ⟨_, _, rfl, by omega⟩ rfl (by omega) (by omega)) ?_
    refine ahp 7 rfl rfl (by kernel_rfl) (by kernel_rfl) (zfe rfl rfl (by first | assumption | (simp; omega))) ?_
    refine ahp 8 rfl rfl (by kernel_rfl) (by kernel_rfl) (zaA rfl) ?_
    refine ahz (by kernel_rfl) ?_
    refine zk ?_
    first
    | exact zaO rfl ⟨_, a, rfl, by omega, by omega, rfl⟩
    | (refine zaO rfl ⟨_, a + 1 + 1 + 1, rfl, ?_, by omega, rfl⟩
       simp only [List.length_append, List.length_drop, List.length_take]
       (try simp only [List.getD_eq_getElem?_getD])
       omega)
end
section
open Go.HL
/-- benchwarmer/base.Numbers -/
theorem zir [Tracks] {w : List Str} {m : Int} (hw : w.length ≤ 1000000) (hs : ∀ s ∈ w, s.length ≤ 1000000) (hm : m ≤ 17) : ConP Tryz.prog 83 [eSs w, .int .i64 m] (.tup [.slice 1 ((zdB w m).map (.int .i64)), .bool (zbg w m)]) := by
 refine Con.of_body Tryz.func83 rfl Tryz.ntmps83 rfl rfl ?_
 refine za ?_
 refine das rfl ?_
 refine das rfl ?_
 refine dn ?_
 refine za ?_
 refine das rfl ?_
 refine dn ?_
 refine zH (Ghost.arr_nil 1) ?_
 refine zf ?_
 refine za ?_
 refine dmv rfl ?_
 refine dq (zL zaj rfl) ?_
 refine dmv rfl ?_
 refine dn ?_
 refine zn ?_
 refine zaI [4, 5, 6, 8, 9, 10, 13, 14, 15, 16, 17, 18, 19, 20, 21, 22, 23, 24, 25, 26, 27, 28, 29] (fun (k : Nat) (u : Value) => [(13, .int .i64 k), (6, .raw u)]) (fun (k : Nat) (u : Value) => [.arr u 1 (((w.take k).map (zT · m)).map (.int .i64))]) (fun (k : Nat) (u : Value) => k ≤ w.length ∧ (zbg w m = zbg (w.drop k) m ∧ (w.take k).all (zcE · m) = true)) (fun (k : Nat) (u : Value) => w.length - k) (0) (.slice none 0 0) ?_ ?_ ?_ ?_
 ·exact ⟨Nat.zero_le _, rfl, rfl⟩
 ·exact ⟨rfl, rfl, trivial⟩
 ·exact zS (by simp)
 ·intro k u hinv
  obtain ⟨hk, ⟨hg, hq⟩⟩ := hinv
  refine za ?_
  refine dq (zW rfl rfl) ?_
  refine dn ?_
  refine zf ?_
  refine zi rfl (fun h1 => ?_) (fun h2 => ?_)
  ·try simp at h1
   obtain ⟨x, hx⟩ : ∃ x, w[k]? = some x := ⟨_, List.getElem?_eq_getElem h1⟩
   have hdx := zX hx
   rw [hdx, zrZ] at hg
   refine zl ?_
   refine ze ?_
   refine zf ?_
   refine zn ?_
   refine za ?_
   refine dq (zP zaj ty9 rfl rfl rfl (by first | assumption | simp_all)) ?_
   refine dq (zc ty9 rfl rfl rfl) ?_
   refine das rfl ?_
   refine dn ?_
   refine za ?_
   refine dmv rfl ?_
   refine dmv rfl ?_
   refine dq (zj zxp rfl (WeakL.refl _) (zmd (hs x (List.mem_of_getElem? hx)) hm)) ?_
   refine dmv rfl ?_
   refine dq (zx rfl rfl) ?_
   refine dq (zx rfl rfl) ?_
   refine das rfl ?_
   refine das rfl ?_
   refine dn ?_
   refine zf ?_
   refine za ?_
   refine dmv rfl ?_
   refine dq (zaa rfl) ?_
   refine dn ?_
   refine zi rfl (fun h3 => ?_) (fun h4 => ?_)
   ·try simp at h3
    refine za ?_
    refine das rfl ?_
    refine das rfl ?_
    refine dn ?_
    refine zk ?_
    first
    | exact zd3 Ghost.drop rfl (zty (zqY hg h3)) ⟨rfl, rfl⟩
    | exact zat (Ghost.fa 4 (i := 0) rfl rfl) rfl ⟨eqNs hg, rfl⟩
   ·try simp at h4
    refine zl ?_
    refine ze ?_
    refine zB ?_
    refine dmv rfl ?_
    refine dmv rfl ?_
    refine dq (zw (hs := [_]) zaq ty3 rfl rfl (by decide) (by decide) rfl) ?_
    refine de rfl (zan (i := 0) zaq ty3 rfl rfl rfl rfl rfl (by simp [za5, zh]) (by simp; omega) fun v28 => ?_)
    refine das rfl ?_
    refine dn ?_
    refine zG ?_
    refine ze ?_
    refine zB ?_
    refine dq (zC rfl rfl (by omega) (by omega)) ?_
    refine dmv rfl ?_
    refine dn ?_
    exact ⟨k + 1, v28, ⟨by omega, by rw [hg, h4]; rfl, by rw [zad hx, List.all_append, hq]; simp [h4]⟩, by dsimp only; omega, ⟨rfl, rfl, trivial⟩, (by repeat (first | exact zp | refine zt rfl ?_ | refine zq rfl rfl ?_)), zS (by dsimp only; rw [zad hx]; simp)⟩
  ·try simp at h2
   have hnk : w.length ≤ k := by omega
   obtain rfl : k = w.length := by omega
   rw [zap (Nat.le_refl _)] at hg
   rw [List.take_length]
   rw [List.take_length] at hq
   refine zU ?_
   refine z6 ?_
   refine zaR ?_
   refine zJ ?_
   refine ze ?_
   refine za ?_
   refine dmv rfl ?_
   refine das rfl ?_
   refine das rfl ?_
   refine dn ?_
   refine zk ?_
   first
   | exact zd3 Ghost.drop rfl (zty (zqY hg h3)) ⟨rfl, rfl⟩
   | exact zat (Ghost.fa 4 (i := 0) rfl rfl) rfl ⟨eqNs hg, rfl⟩

set_option maxHeartbeats 4000000 in
/-- benchwarmer/play.readPlay -/
theorem zm8 [Tracks] {line : Str} (hl : line.length ≤ 1000000) : ConP Tryz.prog 37 [.str line] (.tup [zR (plQ line), .bool (plB line)]) := by
 have hct : line.count 32 ≤ line.length := List.count_le_length
 have hsl := zeM 32 line
 refine Con.of_bodyc Tryz.func37 rfl Tryz.ntmps37 rfl rfl ?_
 refine za ?_
 refine de rfl (z8 zm rfl fun b2 => ?_)
 refine das rfl ?_
 refine dn ?_
 refine za ?_
 refine dmv rfl ?_
 refine dmv rfl ?_
 refine dq (zj ca81 rfl (WeakL.refl _) (zmE (s := line) (c := 32))) ?_
 refine dq (zC rfl rfl (by omega) (by omega)) ?_
 refine dq (zj ca80 rfl (WeakL.refl _) (zqu (many := ((line.count 32 : Nat) + 1 : Int)) hl)) ?_
 refine dmv rfl ?_
 refine dq (zx rfl rfl) ?_
 refine dq (zx rfl rfl) ?_
 refine das rfl ?_
 refine das rfl ?_
 refine dn ?_
 refine zf ?_
 refine za ?_
 refine dmv rfl ?_
 refine dq (zaa rfl) ?_
 refine dmv rfl ?_
 refine dg rfl rfl (fun hc => ⟨_, OpenTo.refl _, zd rfl⟩) ?_
 refine dg rfl rfl (fun hc => ⟨_, OpenTo.upd (t := 21) rfl (by first | exact hc | simp_all) (OpenTo.refl _), zL zaj rfl⟩) ?_
 refine dg rfl rfl (fun hc => ⟨_, OpenTo.upd (t := 22) rfl (by first | exact hc | simp_all) (OpenTo.refl _), zj zjc rfl (WeakL.refl _) zcU⟩) ?_
 refine dq (zv rfl (.inl rfl) (.inr ⟨_, rfl, fun h => by simp_all⟩)) ?_
 refine dn ?_
 refine zi rfl (fun h1 => ?_) (fun h2 => ?_)
 ·try simp at h1
  refine za ?_
  refine dq (zaw (cs := [_, _, _, _, _, _, _, _, _]) zm zi4 rfl) ?_
  first
  | refine de0 (z7 (i := 0) zm rfl rfl rfl rfl rfl (Nat.le_of_ble_eq_true rfl) ?_)
  | refine de0 (z7 (i := 1) zm rfl rfl rfl rfl rfl (Nat.le_of_ble_eq_true rfl) ?_)
  | refine de0 (z7 (i := 2) zm rfl rfl rfl rfl rfl (Nat.le_of_ble_eq_true rfl) ?_)
  | refine de0 (z7 (i := 3) zm rfl rfl rfl rfl rfl (Nat.le_of_ble_eq_true rfl) ?_)
  refine das rfl ?_
  refine dn ?_
  refine zk ?_
  first
  | (refine ⟨_, _, Ghost.fc0 2 rfl, [_, _], _, ⟨⟨_, _, _, _, _, rfl, zm, .inr ⟨rfl, rfl, rfl⟩⟩, ⟨rfl, trivial⟩⟩, Weak.refl _, ?_, rfl⟩
     show HVal.tup _ = _
     first
     | (rw [(zdh (zhX (fun hh => by simpa [hh] using h1))).1, (zdh (zhX (fun hh => by simpa [hh] using h1))).2]; rfl)
     | (rw [(zdh (zhA (fun hh => by simpa [hh] using h3))).1, (zdh (zhA (fun hh => by simpa [hh] using h3))).2]; rfl))
  | (refine ⟨_, _, (Ghost.drop).trans (Ghost.fc0 2 rfl), [_, _], _, ⟨⟨_, _, _, _, _, rfl, zm, .inr ⟨rfl, rfl, rfl⟩⟩, ⟨rfl, trivial⟩⟩, Weak.refl _, ?_, rfl⟩
     show HVal.tup _ = _
     first
     | (rw [hk4, zhQ h9, zhB hk3 h9]; simp [zO, zh, zbh, zcf]; done)
     | (rw [hk4, zhI (zpJ hns hw4 hw5 h6) hns, zhZ hk3 (zo6 hns hw4 hw5 h6) hns]; simp [zO, zh, zbh, zcf]; done))
 ·try simp at h2
  refine zl ?_
  refine ze ?_
  obtain ⟨hw1, hw2, hw3, hw4, hw5⟩ := zw8 h2
  simp only [hw1, hw2]
  have hns := zvb ⟨hw4, hw5⟩
  refine za ?_
  refine dmv rfl ?_
  refine dq (zeN (l := 1) (h := 4) zaj ty9 rfl ⟨_, _, rfl, rfl⟩ ⟨_, _, rfl, rfl⟩ (by omega) (by omega)) ?_
  refine dq (zj ca83 rfl (WeakL.refl _) (zir (w := plN line) (by have := @zkN line; omega) (fun s hs => Nat.le_trans (zrx s hs) hl) (by omega))) ?_
  refine dmv rfl ?_
  refine dq (zx rfl rfl) ?_
  refine dq (zx rfl rfl) ?_
  refine das rfl ?_
  refine das rfl ?_
  refine dn ?_
  refine za ?_
  refine dmv rfl ?_
  refine dq (ziI (zeN (l := 7) (h := (spl 32 line).length) zaj ty9 rfl ⟨_, _, rfl, rfl⟩ rfl (by omega) (Nat.le_refl _)) (by rw [List.take_length])) ?_
  refine dq (zj ca83 rfl (WeakL.refl _) (zir (w := plD line) (by have := znF hw5; omega) (fun s hs => Nat.le_trans (zrb s hs) hl) (by omega))) ?_
  refine dmv rfl ?_
  refine dq (zx rfl rfl) ?_
  refine dq (zx rfl rfl) ?_
  refine das rfl ?_
  refine das rfl ?_
  refine dn ?_
  refine zf ?_
  refine za ?_
  refine dmv rfl ?_
  refine dq (zaa rfl) ?_
  refine dmv rfl ?_
  refine dg rfl rfl (fun hc => ⟨_, OpenTo.refl _, zd rfl⟩) ?_
  refine dg rfl rfl (fun hc => ⟨_, OpenTo.upd (t := 41) rfl (by first | exact hc | simp_all) (OpenTo.refl _), zaa rfl⟩) ?_
  refine dq (zv rfl (.inl rfl) (.inr ⟨_, rfl, fun h => by simp_all⟩)) ?_
  refine dn ?_
  refine zi rfl (fun h3 => ?_) (fun h4 => ?_)
  ·try simp at h3
   refine za ?_
   refine dq (zaw (cs := [_, _, _, _, _, _, _, _, _]) zm zi4 rfl) ?_
   first
   | refine de0 (z7 (i := 0) zm rfl rfl rfl rfl rfl (Nat.le_of_ble_eq_true rfl) ?_)
   | refine de0 (z7 (i := 1) zm rfl rfl rfl rfl rfl (Nat.le_of_ble_eq_true rfl) ?_)
   | refine de0 (z7 (i := 2) zm rfl rfl rfl rfl rfl (Nat.le_of_ble_eq_true rfl) ?_)
   | refine de0 (z7 (i := 3) zm rfl rfl rfl rfl rfl (Nat.le_of_ble_eq_true rfl) ?_)
   refine das rfl ?_
   refine dn ?_
   refine zk ?_
   first
   | (refine ⟨_, _, Ghost.fc0 2 rfl, [_, _], _, ⟨⟨_, _, _, _, _, rfl, zm, .inr ⟨rfl, rfl, rfl⟩⟩, ⟨rfl, trivial⟩⟩, Weak.refl _, ?_, rfl⟩
      show HVal.tup _ = _
      first
      | (rw [(zdh (zhX (fun hh => by simpa [hh] using h1))).1, (zdh (zhX (fun hh => by simpa [hh] using h1))).2]; rfl)
      | (rw [(zdh (zhA (fun hh => by simpa [hh] using h3))).1, (zdh (zhA (fun hh => by simpa [hh] using h3))).2]; rfl))
   | (refine ⟨_, _, (Ghost.drop).trans (Ghost.fc0 2 rfl), [_, _], _, ⟨⟨_, _, _, _, _, rfl, zm, .inr ⟨rfl, rfl, rfl⟩⟩, ⟨rfl, trivial⟩⟩, Weak.refl _, ?_, rfl⟩
      show HVal.tup _ = _
      first
      | (rw [hk4, zhQ h9, zhB hk3 h9]; simp [zO, zh, zbh, zcf]; done)
      | (rw [hk4, zhI (zpJ hns hw4 hw5 h6) hns, zhZ hk3 (zo6 hns hw4 hw5 h6) hns]; simp [zO, zh, zbh, zcf]; done))
  ·try simp at h4
   refine zl ?_
   refine ze ?_
   obtain ⟨hk1, hk2⟩ := h4
   obtain ⟨hk3, hk4⟩ := zx9 hw3 hk1 hk2
   simp only [zne hk1, zne hk2, hns.n]
   refine zaM (fun _ => True) [] mixed ?_
   refine ahp 0 rfl rfl (by kernel_rfl) (by kernel_rfl) (zd rfl) ?_
   refine ahp 1 rfl rfl (by kernel_rfl) (by kernel_rfl) (zP (j := 0) (a := (spl 32 line).getD 0 []) zaj ty9 rfl rfl (by omega) (getD_some (by omega))) ?_
   refine ahp 2 rfl rfl (by kernel_rfl) (by kernel_rfl) (zc ty9 rfl rfl rfl) ?_
   refine ahp 3 rfl rfl (by kernel_rfl) (by kernel_rfl) (zd rfl) ?_
   refine ahp 4 rfl rfl (by kernel_rfl) (by kernel_rfl) (zP (j := 0) (a := zT ((spl 32 line).getD 1 []) 15) zaq ty3 rfl rfl rfl rfl) ?_
   refine ahp 5 rfl rfl (by kernel_rfl) (by kernel_rfl) (zc ty3 rfl rfl rfl) ?_
   refine ahp 6 rfl rfl (by kernel_rfl) (by kernel_rfl) (zd rfl) ?_
   refine ahp 7 rfl rfl (by kernel_rfl) (by kernel_rfl) (zP (j := 1) (a := zT ((spl 32 line).getD 2 []) 15) zaq ty3 rfl rfl rfl rfl) ?_
   refine ahp 8 rfl rfl (by kernel_rfl) (by kernel_rfl) (zc ty3 rfl rfl rfl) ?_
   refine ahp 9 rfl rfl (by kernel_rfl) (by kernel_rfl) (zd rfl) ?_
   refine ahp 10 rfl rfl (by kernel_rfl) (by kernel_rfl) (zP (j := 2) (a := zT ((spl 32 line).getD 3 []) 15) zaq ty3 rfl rfl rfl rfl) ?_
   refine ahp 11 rfl rfl (by kernel_rfl) (by kernel_rfl) (zc ty3 rfl rfl rfl) ?_
   refine ahp 12 rfl rfl (by kernel_rfl) (by kernel_rfl) (zd rfl) ?_
   refine ahp 13 rfl rfl (by kernel_rfl) (by kernel_rfl) (zP (j := 4) (a := (spl 32 line).getD 4 []) zaj ty9 rfl rfl (by omega) (getD_some (by omega))) ?_
   refine ahp 14 rfl rfl (by kernel_rfl) (by kernel_rfl) (zc ty9 rfl rfl rfl) ?_
   refine ahp 15 rfl rfl (by kernel_rfl) (by kernel_rfl) (zd rfl) ?_
   refine ahp 16 rfl rfl (by kernel_rfl) (by kernel_rfl) (zP (j := 5) (a := (spl 32 line).getD 5 []) zaj ty9 rfl rfl (by omega) (getD_some (by omega))) ?_
   refine ahp 17 rfl rfl (by kernel_rfl) (by kernel_rfl) (zc ty9 rfl rfl rfl) ?_
   refine ahp 18 rfl rfl (by kernel_rfl) (by kernel_rfl) (zd rfl) ?_
   refine ahp 19 rfl rfl (by kernel_rfl) (by kernel_rfl) (zP (j := 6) (a := (spl 32 line).getD 6 []) zaj ty9 rfl rfl (by omega) (getD_some (by omega))) ?_
   refine ahp 20 rfl rfl (by kernel_rfl) (by kernel_rfl) (zc ty9 rfl rfl rfl) ?_
   refine ahp 21 rfl rfl (by kernel_rfl) (by kernel_rfl) (zd rfl) ?_
   refine ahp 22 rfl rfl (by kernel_rfl) (by kernel_rfl) (zP (j := 0) (a := zT ((spl 32 line).getD 7 []) 15) zaq ty3 rfl rfl rfl hns.m0) ?_
   refine ahp 23 rfl rfl (by kernel_rfl) (by kernel_rfl) (zc ty3 rfl rfl rfl) ?_
   refine ahp 24 rfl rfl (by kernel_rfl) (by kernel_rfl) (zaw (cs := [_, _, _, _, _, _, _, _, _]) zm zi4 rfl) ?_
   refine ahe 25 rfl (by kernel_rfl) ?_
   refine zau rfl (z8 zm rfl fun b9 => ?_)
   refine ⟨fun _ => .inl trivial, ?_⟩
   refine ahe 26 rfl (by kernel_rfl) ?_
   first
   | refine zaL (z7 (i := 0) zm rfl rfl rfl rfl rfl (Nat.le_of_ble_eq_true rfl) ?_)
   | refine zaL (z7 (i := 1) zm rfl rfl rfl rfl rfl (Nat.le_of_ble_eq_true rfl) ?_)
   | refine zaL (z7 (i := 2) zm rfl rfl rfl rfl rfl (Nat.le_of_ble_eq_true rfl) ?_)
   | refine zaL (z7 (i := 3) zm rfl rfl rfl rfl rfl (Nat.le_of_ble_eq_true rfl) ?_)
   refine ⟨fun _ => .inl trivial, ?_⟩
   refine ahz (by kernel_rfl) ?_
   refine zf ?_
   refine za ?_
   refine dmv rfl ?_
   refine dq (zL zaq rfl) ?_
   refine dq (zaJ rfl rfl) ?_
   refine dn ?_
   refine zi rfl (fun h5 => ?_) (fun h6 => ?_)
   ·try simp at h5
    have h9 : (spl 32 line).length = 9 := by have := hns.l; simp only [List.length_map] at this h5; omega
    refine za ?_
    refine dmv rfl ?_
    refine dq (zP (j := 1) (a := zT ((spl 32 line).getD 8 []) 15) zaq ty3 rfl rfl rfl (hns.m1 h9)) ?_
    refine dq (zc ty3 rfl rfl rfl) ?_
    refine dq (zg zm rfl ty3 (by decide) rfl) ?_
    first
    | refine de0 (z7 (i := 0) ty3 rfl rfl rfl rfl rfl (Nat.le_of_ble_eq_true rfl) ?_)
    | refine de0 (z7 (i := 1) ty3 rfl rfl rfl rfl rfl (Nat.le_of_ble_eq_true rfl) ?_)
    | refine de0 (z7 (i := 2) ty3 rfl rfl rfl rfl rfl (Nat.le_of_ble_eq_true rfl) ?_)
    | refine de0 (z7 (i := 3) ty3 rfl rfl rfl rfl rfl (Nat.le_of_ble_eq_true rfl) ?_)
    refine dn ?_
    refine zaM (fun M => ∃ i : Nat, M[i]? = some (.cells b9 [.str ((spl 32 line).getD 0 []), .int .i64 (zT ((spl 32 line).getD 1 []) 15), .int .i64 (zT ((spl 32 line).getD 2 []) 15), .int .i64 (zT ((spl 32 line).getD 3 []) 15), .str ((spl 32 line).getD 4 []), .str ((spl 32 line).getD 5 []), .str ((spl 32 line).getD 6 []), .int .i64 (zT ((spl 32 line).getD 7 []) 15), .int .i64 (zT ((spl 32 line).getD 8 []) 15)])) [0, 2] mixed ?_
    refine ahl 0 rfl rfl (by kernel_rfl) (by kernel_rfl) (by simp) (by first | exact ⟨0, rfl⟩ | exact ⟨1, rfl⟩) (fun M hM => by obtain ⟨i, hi⟩ := hM; exact zdJ (h := .agg [.str ((spl 32 line).getD 0 []), .int .i64 (zT ((spl 32 line).getD 1 []) 15), .int .i64 (zT ((spl 32 line).getD 2 []) 15), .int .i64 (zT ((spl 32 line).getD 3 []) 15), .str ((spl 32 line).getD 4 []), .str ((spl 32 line).getD 5 []), .str ((spl 32 line).getD 6 []), .int .i64 (zT ((spl 32 line).getD 7 []) 15), .int .i64 (zT ((spl 32 line).getD 8 []) 15)]) (i := i) zm rfl hi rfl rfl rfl ⟨rfl, rfl⟩) ?_
    refine ahp 1 rfl rfl (by kernel_rfl) (by kernel_rfl) (zg zm rfl ty3 (by decide) rfl) ?_
    refine ahl 2 rfl rfl (by kernel_rfl) (by kernel_rfl) (by simp) (by first | exact ⟨0, rfl⟩ | exact ⟨1, rfl⟩ | exact ⟨2, rfl⟩) (fun M hM => by obtain ⟨i, hi⟩ := hM; exact zbr (i := i) ty3 rfl hi (.inl ⟨rfl, rfl⟩) ⟨rfl, rfl⟩) ?_
    refine ahp 3 rfl rfl (by kernel_rfl) (by kernel_rfl) (zaf rfl rfl) ?_
    refine ahe 4 rfl (by kernel_rfl) ?_
    first
    | refine zaL (z7 (i := 0) zm rfl rfl rfl rfl rfl (Nat.le_of_ble_eq_true rfl) ?_)
    | refine zaL (z7 (i := 1) zm rfl rfl rfl rfl rfl (Nat.le_of_ble_eq_true rfl) ?_)
    | refine zaL (z7 (i := 2) zm rfl rfl rfl rfl rfl (Nat.le_of_ble_eq_true rfl) ?_)
    | refine zaL (z7 (i := 3) zm rfl rfl rfl rfl rfl (Nat.le_of_ble_eq_true rfl) ?_)
    refine ⟨fun _ => by first | exact .inl ⟨0, rfl⟩ | exact .inl ⟨1, rfl⟩ | exact .inl ⟨2, rfl⟩ | exact .inr (by simp [zaT, Region.binds]), ?_⟩
    refine ahp 5 rfl rfl (by kernel_rfl) (by kernel_rfl) (zaA rfl) ?_
    refine ahz (by kernel_rfl) ?_
    refine zk ?_
    first
    | (refine ⟨_, _, Ghost.fc0 2 rfl, [_, _], _, ⟨⟨_, _, _, _, _, rfl, zm, .inr ⟨rfl, rfl, rfl⟩⟩, ⟨rfl, trivial⟩⟩, Weak.refl _, ?_, rfl⟩
       show HVal.tup _ = _
       first
       | (rw [(zdh (zhX (fun hh => by simpa [hh] using h1))).1, (zdh (zhX (fun hh => by simpa [hh] using h1))).2]; rfl)
       | (rw [(zdh (zhA (fun hh => by simpa [hh] using h3))).1, (zdh (zhA (fun hh => by simpa [hh] using h3))).2]; rfl))
    | (refine ⟨_, _, (Ghost.drop).trans (Ghost.fc0 2 rfl), [_, _], _, ⟨⟨_, _, _, _, _, rfl, zm, .inr ⟨rfl, rfl, rfl⟩⟩, ⟨rfl, trivial⟩⟩, Weak.refl _, ?_, rfl⟩
       show HVal.tup _ = _
       first
       | (rw [hk4, zhQ h9, zhB hk3 h9]; simp [zO, zh, zbh, zcf]; done)
       | (rw [hk4, zhI (zpJ hns hw4 hw5 h6) hns, zhZ hk3 (zo6 hns hw4 hw5 h6) hns]; simp [zO, zh, zbh, zcf]; done))
   ·try simp at h6
    refine zl ?_
    refine ze ?_
    refine za ?_
    first
    | refine de rfl (zdJ (h := .agg [.str ((spl 32 line).getD 0 []), .int .i64 (zT ((spl 32 line).getD 1 []) 15), .int .i64 (zT ((spl 32 line).getD 2 []) 15), .int .i64 (zT ((spl 32 line).getD 3 []) 15), .str ((spl 32 line).getD 4 []), .str ((spl 32 line).getD 5 []), .str ((spl 32 line).getD 6 []), .int .i64 (zT ((spl 32 line).getD 7 []) 15), .int .i64 0]) (i := 0) zm rfl rfl rfl rfl rfl ?_)
    | refine de rfl (zdJ (h := .agg [.str ((spl 32 line).getD 0 []), .int .i64 (zT ((spl 32 line).getD 1 []) 15), .int .i64 (zT ((spl 32 line).getD 2 []) 15), .int .i64 (zT ((spl 32 line).getD 3 []) 15), .str ((spl 32 line).getD 4 []), .str ((spl 32 line).getD 5 []), .str ((spl 32 line).getD 6 []), .int .i64 (zT ((spl 32 line).getD 7 []) 15), .int .i64 0]) (i := 1) zm rfl rfl rfl rfl rfl ?_)
    first
    | refine de0 (z7 (i := 0) zm rfl rfl rfl rfl rfl (Nat.le_of_ble_eq_true rfl) ?_)
    | refine de0 (z7 (i := 1) zm rfl rfl rfl rfl rfl (Nat.le_of_ble_eq_true rfl) ?_)
    | refine de0 (z7 (i := 2) zm rfl rfl rfl rfl rfl (Nat.le_of_ble_eq_true rfl) ?_)
    | refine de0 (z7 (i := 3) zm rfl rfl rfl rfl rfl (Nat.le_of_ble_eq_true rfl) ?_)
    refine das rfl ?_
    refine dn ?_
    refine zk ?_
    first
    | (refine ⟨_, _, Ghost.fc0 2 rfl, [_, _], _, ⟨⟨_, _, _, _, _, rfl, zm, .inr ⟨rfl, rfl, rfl⟩⟩, ⟨rfl, trivial⟩⟩, Weak.refl _, ?_, rfl⟩
       show HVal.tup _ = _
       first
       | (rw [(zdh (zhX (fun hh => by simpa [hh] using h1))).1, (zdh (zhX (fun hh => by simpa [hh] using h1))).2]; rfl)
       | (rw [(zdh (zhA (fun hh => by simpa [hh] using h3))).1, (zdh (zhA (fun hh => by simpa [hh] using h3))).2]; rfl))
    | (refine ⟨_, _, (Ghost.drop).trans (Ghost.fc0 2 rfl), [_, _], _, ⟨⟨_, _, _, _, _, rfl, zm, .inr ⟨rfl, rfl, rfl⟩⟩, ⟨rfl, trivial⟩⟩, Weak.refl _, ?_, rfl⟩
       show HVal.tup _ = _
       first
       | (rw [hk4, zhQ h9, zhB hk3 h9]; simp [zO, zh, zbh, zcf]; done)
       | (rw [hk4, zhI (zpJ hns hw4 hw5 h6) hns, zhZ hk3 (zo6 hns hw4 hw5 h6) hns]; simp [zO, zh, zbh, zcf]; done))

/-- benchwarmer/play.Read$1 -/
theorem zoJ [Tracks] {line : Str} {bo : Nat} {v : Value} {ps : List Play}  (hl : line.length ≤ 1000000) (hps : ps.length ≤ 1000000) : Con Tryz.prog 36 [.str line, pAt bo] [.cells bo [.raw v], .arr v 9 (ps.map zR)] (fun x M' => ∃ v', x = .bool (plB line) ∧ M' = [.cells bo [.raw v'], .arr v' 9 ((ps ++ [plQ line]).map zR)]) := by
 refine Con.of_body Tryz.func36 rfl Tryz.ntmps36 rfl rfl ?_
 refine za ?_
 refine das rfl ?_
 refine dn ?_
 refine za ?_
 refine dmv rfl ?_
 refine dq (zj ca37 rfl (WeakL.refl _) (zm8 (by first | assumption | omega | (simp; omega) | simp_all))) ?_
 refine dmv rfl ?_
 refine dq (zx rfl rfl) ?_
 refine dq (zx rfl rfl) ?_
 refine de rfl (z8 zm rfl fun b4 => ?_)
 refine de0 (zae zm rfl rfl rfl rfl rfl ?_)
 refine das rfl ?_
 refine dn ?_
 refine zH (Ghost.fc0 4 rfl) ?_
 refine za ?_
 refine de rfl (zbr (i := 0) zaC rfl rfl (.inl ⟨rfl, rfl⟩) ?_)
 refine dq (zN zm rfl rfl rfl rfl) ?_
 refine dq (zw (hs := [_]) zaC zm rfl rfl (by decide) (by decide) rfl) ?_
 refine de rfl (zan (i := 1) zaC zm rfl rfl rfl rfl rfl (by simp [za5, zh]) (by simp; omega) fun v14 => ?_)
 refine de0 (z7 (i := 0) zaC rfl rfl rfl rfl rfl (by simp) ?_)
 refine dn ?_
 refine za ?_
 refine dmv rfl ?_
 refine das rfl ?_
 refine dn ?_
 refine zk ?_
 exact zaO rfl ⟨v14, rfl, by simp [zO, zh]⟩

theorem znk [Tracks] {line : Str} {bo : Nat} {v : Value} {ps : List Play} (hl : line.length ≤ 1000000) (hps : ps.length ≤ 1000000) : Con Tryz.prog 36 [.str line, pAt bo] [.cells bo [.raw v], .arr v 9 (ps.map zR)] fun x M' => ∃ v' ps', x = .bool (plB line) ∧ M' = [.cells bo [.raw v'], .arr v' 9 (ps'.map zR)] ∧ (plB line = true → ps' = ps ++ [plP line]) :=
 (zoJ hl hps).mono fun x M' ⟨v', hx, hM⟩ => ⟨v', ps ++ [plQ line], hx, hM, fun h => by rw [zxJ h]⟩

theorem zuR [Tracks] {bo : Nat} : ∀ (done : List Str) (s : Str) (st : Value × List Play), done.length ≤ 1000000 → s.length ≤ 1000000 → st.2 = done.map plP → Con Tryz.prog 36 ([.str s] ++ [pAt bo]) (STx zR 9 bo st) fun x M' => ∃ st', x = .bool (plB s) ∧ M' = STx zR 9 bo st' ∧ (plB s = true → st'.2 = (done ++ [s]).map plP) :=
 fun done s st h1 h2 h3 => (znk h2 (by rw [h3, List.length_map]; exact h1)).mono fun x M' ⟨v', ps', hx, hM, hp⟩ => ⟨(v', ps'), hx, hM, fun h => by rw [hp h, h3]; simp⟩

/-- benchwarmer/play.Read -/
theorem zqy [Tracks] {text : Str} (ht : text.length ≤ 1000000) : ConP Tryz.prog 7 [.str text] (.tup [.slice 9 ((txP plB plP zz text).map zR), .int .i64 (txI plB text), .int .i64 (txE plB plP zz text)]) := by
 have hpl := zno plP text
 refine Con.of_body Tryz.func7 rfl Tryz.ntmps7 rfl rfl ?_
 refine za ?_
 refine das rfl ?_
 refine das rfl ?_
 refine das rfl ?_
 refine dn ?_
 refine zf ?_
 refine za ?_
 refine dmv rfl ?_
 refine dq (zbk ty9 rfl) ?_
 refine dq (zaf rfl rfl) ?_
 refine dn ?_
 refine zi rfl (fun h1 => ?_) (fun h2 => ?_)
 ·try simp at h1
  refine za ?_
  refine das rfl ?_
  refine das rfl ?_
  refine das rfl ?_
  refine dn ?_
  refine zk ?_
  first
  | exact zav rfl (zbB plB plP zz zR 9 (zeT plB plP zz h1).1 (by decide) (zeT plB plP zz h1).2)
  | exact zd3 Ghost.clear rfl (zbB plB plP zz zR 9 (zeU plB plP zz (by omega) h3).1 (by decide) (zeU plB plP zz (by omega) h3).2) ⟨rfl, rfl⟩
  | exact zav rfl (zbB plB plP zz zR 9 (zbY plB plP zz (by omega) h4).1 h5 (zbY plB plP zz (by omega) h4).2)
  | exact zF rfl (zkq plB plP zz zR 9 ((zbY plB plP zz (by omega) h4).1.trans h6) (zbY plB plP zz (by omega) h4).2)
 ·try simp at h2
  refine zl ?_
  refine ze ?_
  refine za ?_
  refine de rfl (z8 zaC rfl fun b5 => ?_)
  refine dn ?_
  refine zH (Ghost.arr_nil 9) ?_
  refine za ?_
  refine dmv rfl ?_
  refine dq (zcF rfl rfl) ?_
  refine de rfl (za0 (M1 := STx zR 9 b5 (.slice none 0 0, [])) (R := []) ca35 rfl (WeakL.refl _) (List.Perm.swap _ _ _) (zqU (S := STx zR 9 b5) (Inv := fun done st => st.2 = done.map plP) (ok := plB) (caps := [pAt b5]) (st0 := (.slice none 0 0, [])) ca36 zuR rfl ht) ?_)
  rintro _ _ ⟨st2, rfl, rfl, hst2⟩
  refine dmv rfl ?_
  refine dq (zx rfl rfl) ?_
  refine dq (zx rfl rfl) ?_
  refine das rfl ?_
  refine das rfl ?_
  refine dn ?_
  refine zf ?_
  refine za ?_
  refine dmv rfl ?_
  refine dq (zaa rfl) ?_
  refine dn ?_
  refine zi rfl (fun h3 => ?_) (fun h4 => ?_)
  ·try simp at h3
   refine za ?_
   refine dmv rfl ?_
   refine das rfl ?_
   refine das rfl ?_
   refine das rfl ?_
   refine dn ?_
   refine zk ?_
   first
   | exact zav rfl (zbB plB plP zz zR 9 (zeT plB plP zz h1).1 (by decide) (zeT plB plP zz h1).2)
   | exact zd3 Ghost.clear rfl (zbB plB plP zz zR 9 (zeU plB plP zz (by omega) h3).1 (by decide) (zeU plB plP zz (by omega) h3).2) ⟨rfl, rfl⟩
   | exact zav rfl (zbB plB plP zz zR 9 (zbY plB plP zz (by omega) h4).1 h5 (zbY plB plP zz (by omega) h4).2)
   | exact zF rfl (zkq plB plP zz zR 9 ((zbY plB plP zz (by omega) h4).1.trans h6) (zbY plB plP zz (by omega) h4).2)
  ·try simp at h4
   refine zl ?_
   refine ze ?_
   refine zf ?_
   obtain ⟨v2, ps2⟩ := st2
   obtain rfl : ps2 = txL plP text := hst2 h4
   refine zH (Ghost.of_eq (M' := [.cells b5 [.raw v2], .arr v2 9 ((txL plP text).map zR)]) rfl) ?_
   refine zH (Ghost.fcell (i := 1) (k := 0) (j := 0) rfl rfl rfl) ?_
   refine zH (Ghost.of_eq (M' := [.cells b5 [zbD (txL plP text)]]) rfl) ?_
   refine zH (Ghost.fc 5 (i := 0) rfl rfl) ?_
   refine za ?_
   refine dq (zc zaC rfl rfl rfl) ?_
   refine dq (zj zrF rfl (WeakL.refl _) (zdv (l := txL plP text) (by omega))) ?_
   refine das rfl ?_
   refine dn ?_
   refine za ?_
   refine dmv rfl ?_
   refine dq (zai rfl rfl) ?_
   refine dn ?_
   refine zi rfl (fun h5 => ?_) (fun h6 => ?_)
   ·try simp at h5
    refine za ?_
    refine dmv rfl ?_
    refine das rfl ?_
    refine das rfl ?_
    refine das rfl ?_
    refine dn ?_
    refine zk ?_
    first
    | exact zav rfl (zbB plB plP zz zR 9 (zeT plB plP zz h1).1 (by decide) (zeT plB plP zz h1).2)
    | exact zd3 Ghost.clear rfl (zbB plB plP zz zR 9 (zeU plB plP zz (by omega) h3).1 (by decide) (zeU plB plP zz (by omega) h3).2) ⟨rfl, rfl⟩
    | exact zav rfl (zbB plB plP zz zR 9 (zbY plB plP zz (by omega) h4).1 h5 (zbY plB plP zz (by omega) h4).2)
    | exact zF rfl (zkq plB plP zz zR 9 ((zbY plB plP zz (by omega) h4).1.trans h6) (zbY plB plP zz (by omega) h4).2)
   ·try simp at h6
    refine zl ?_
    refine ze ?_
    refine za ?_
    refine dq (zc zaC rfl rfl rfl) ?_
    refine das rfl ?_
    refine das rfl ?_
    refine das rfl ?_
    refine dn ?_
    refine zk ?_
    first
    | exact zav rfl (zbB plB plP zz zR 9 (zeT plB plP zz h1).1 (by decide) (zeT plB plP zz h1).2)
    | exact zd3 Ghost.clear rfl (zbB plB plP zz zR 9 (zeU plB plP zz (by omega) h3).1 (by decide) (zeU plB plP zz (by omega) h3).2) ⟨rfl, rfl⟩
    | exact zav rfl (zbB plB plP zz zR 9 (zbY plB plP zz (by omega) h4).1 h5 (zbY plB plP zz (by omega) h4).2)
    | exact zF rfl (zkq plB plP zz zR 9 ((zbY plB plP zz (by omega) h4).1.trans h6) (zbY plB plP zz (by omega) h4).2)

/-- benchwarmer/play.Text -/
theorem zqw [Tracks] {l : List Play} (hT : Tracks.on = false) (hl : l.length ≤ 1000000) : ConP Tryz.prog 6 [zbD l] (.tup [.str (zgl zz zbb l), .int .i64 (ze5 zz zbb l)]) := by
 refine Con.of_body Tryz.func6 rfl Tryz.ntmps6 rfl rfl ?_
 refine za ?_
 refine das rfl ?_
 refine das rfl ?_
 refine dn ?_
 refine zf ?_
 refine za ?_
 refine dmv rfl ?_
 refine dq (zj zrF rfl (WeakL.refl _) (zdv (by first | assumption | omega | (simp; omega) | simp_all))) ?_
 refine das rfl ?_
 refine dn ?_
 refine za ?_
 refine dmv rfl ?_
 refine dq (zai rfl rfl) ?_
 refine dn ?_
 refine zi rfl (fun h1 => ?_) (fun h2 => ?_)
 ·try simp at h1
  refine za ?_
  refine dmv rfl ?_
  refine das rfl ?_
  refine das rfl ?_
  refine dn ?_
  refine zk ?_
  first
  | exact zF rfl (zp3 zz zbb h1)
  | (refine zat Ghost.clear rfl ⟨zp4 zz zbb h2 ?_, rfl⟩; omega)
  | (refine zF rfl (zp8 zz zbb h2 ?_); omega)
 ·try simp at h2
  refine zl ?_
  refine ze ?_
  obtain ⟨hl6, hz⟩ := zkZ h2
  refine za ?_
  refine de rfl (zm4 5 zl3 rfl fun b5 => ?_)
  refine dn ?_
  refine zf ?_
  refine za ?_
  refine dmv rfl ?_
  refine dq (zL zaC rfl) ?_
  refine dmv rfl ?_
  refine dn ?_
  refine zn ?_
  refine zaI [7, 8, 16, 17, 18, 19, 20, 21, 22, 23, 24, 25, 26, 27, 28, 29, 30, 31, 32, 33, 34, 35, 36, 37, 38, 39, 40, 41, 42, 43, 44, 45, 46, 47, 48, 49, 50, 51, 52, 53, 54] (fun (k : Nat) (v : Value) => [(16, .int .i64 k)]) (fun (k : Nat) (v : Value) => [.bld b5 61 5 v v (txT zbb (l.take k))]) (fun (k : Nat) (v : Value) => k ≤ l.length ∧ (True)) (fun (k : Nat) (v : Value) => l.length - k) (0) (.slice none 0 0) ?_ ?_ ?_ ?_
  ·exact ⟨Nat.zero_le _, trivial⟩
  ·exact ⟨rfl, trivial⟩
  ·exact zS (by simp [txT])
  ·intro k v hinv
   obtain ⟨hk, -⟩ := hinv
   refine za ?_
   refine dq (zW rfl rfl) ?_
   refine dn ?_
   refine zf ?_
   refine zi rfl (fun h3 => ?_) (fun h4 => ?_)
   ·try simp at h3
    obtain ⟨x, hx⟩ : ∃ x, l[k]? = some x := ⟨_, List.getElem?_eq_getElem h3⟩
    have hdx := zX hx
    obtain ⟨hx1, hx2, hx3, hx4, ⟨hx5, hx6, hx7⟩, hx8, hx9⟩ := zid (hz x (List.mem_of_getElem? hx))
    have hWl := zj1 (hz x (List.mem_of_getElem? hx))
    have hTk := zgE (l := l.take k) (fun p hp => hz p (List.mem_of_mem_take hp))
    have hT2 : (l.take k).length ≤ 3000 := by rw [List.length_take]; omega
    refine zl ?_
    refine ze ?_
    refine zf ?_
    refine zn ?_
    refine za ?_
    refine dq (zP zaC zm rfl rfl rfl (by first | assumption | simp_all)) ?_
    refine dq (zN zm rfl rfl rfl rfl) ?_
    refine de rfl (z8 zm rfl fun b7 => ?_)
    refine de0 (zae zm rfl rfl rfl rfl rfl ?_)
    refine dn ?_
    refine zH (Ghost.fc0 7 rfl) ?_
    refine zaM (fun _ => True) [] mixed ?_
    refine ahp 0 rfl rfl (by kernel_rfl) (by kernel_rfl) ((by first | exact zb zm rfl ty9 (by decide) rfl | exact zg zm rfl ty9 (by decide) rfl)) ?_
    refine ahp 1 rfl rfl (by kernel_rfl) (by kernel_rfl) (zc ty9 rfl rfl rfl) ?_
    refine ahp 2 rfl rfl (by kernel_rfl) (by kernel_rfl) ((by first | exact zb zm rfl ty3 (by decide) rfl | exact zg zm rfl ty3 (by decide) rfl)) ?_
    refine ahp 3 rfl rfl (by kernel_rfl) (by kernel_rfl) (zc ty3 rfl rfl rfl) ?_
    refine ahp 4 rfl rfl (by kernel_rfl) (by kernel_rfl) (zj zha rfl (WeakL.refl _) (zeq (by omega) (by omega))) ?_
    refine ahp 5 rfl rfl (by kernel_rfl) (by kernel_rfl) ((by first | exact zb zm rfl ty3 (by decide) rfl | exact zg zm rfl ty3 (by decide) rfl)) ?_
    refine ahp 6 rfl rfl (by kernel_rfl) (by kernel_rfl) (zc ty3 rfl rfl rfl) ?_
    refine ahp 7 rfl rfl (by kernel_rfl) (by kernel_rfl) (zj zha rfl (WeakL.refl _) (zeq (by omega) (by omega))) ?_
    refine ahp 8 rfl rfl (by kernel_rfl) (by kernel_rfl) ((by first | exact zb zm rfl ty3 (by decide) rfl | exact zg zm rfl ty3 (by decide) rfl)) ?_
    refine ahp 9 rfl rfl (by kernel_rfl) (by kernel_rfl) (zc ty3 rfl rfl rfl) ?_
    refine ahp 10 rfl rfl (by kernel_rfl) (by kernel_rfl) (zj zha rfl (WeakL.refl _) (zeq (by omega) (by omega))) ?_
    refine ahp 11 rfl rfl (by kernel_rfl) (by kernel_rfl) ((by first | exact zb zm rfl ty9 (by decide) rfl | exact zg zm rfl ty9 (by decide) rfl)) ?_
    refine ahp 12 rfl rfl (by kernel_rfl) (by kernel_rfl) (zc ty9 rfl rfl rfl) ?_
    refine ahp 13 rfl rfl (by kernel_rfl) (by kernel_rfl) ((by first | exact zb zm rfl ty9 (by decide) rfl | exact zg zm rfl ty9 (by decide) rfl)) ?_
    refine ahp 14 rfl rfl (by kernel_rfl) (by kernel_rfl) (zc ty9 rfl rfl rfl) ?_
    refine ahp 15 rfl rfl (by kernel_rfl) (by kernel_rfl) ((by first | exact zb zm rfl ty9 (by decide) rfl | exact zg zm rfl ty9 (by decide) rfl)) ?_
    refine ahp 16 rfl rfl (by kernel_rfl) (by kernel_rfl) (zc ty9 rfl rfl rfl) ?_
    refine ahp 17 rfl rfl (by kernel_rfl) (by kernel_rfl) ((by first | exact zb zm rfl ty3 (by decide) rfl | exact zg zm rfl ty3 (by decide) rfl)) ?_
    refine ahp 18 rfl rfl (by kernel_rfl) (by kernel_rfl) (zc ty3 rfl rfl rfl) ?_
    refine ahp 19 rfl rfl (by kernel_rfl) (by kernel_rfl) (zj zha rfl (WeakL.refl _) (zeq (by omega) (by omega))) ?_
    refine ahe 20 rfl (by kernel_rfl) ?_
    refine zau rfl (zhY (hs := [_, _, _, _, _, _, _, _]) zaj ty9 rfl rfl (by decide) (by decide) rfl fun v40 => ?_)
    refine ⟨fun _ => .inl trivial, ?_⟩
    refine ahp 21 rfl rfl (by kernel_rfl) (by kernel_rfl) (zaA rfl) ?_
    refine ahz (by kernel_rfl) ?_
    refine zeb [8, 41, 42, 43, 44, 45, 46, 47, 48, 49] (fun (q : Value × List Str) => [(8, .raw q.1)]) (fun (q : Value × List Str) => [.arr q.1 1 (q.2.map .str), .bld b5 61 5 v v (txT zbb (l.take k))]) (fun (q : Value × List Str) => q.2 = zbb x) ?_ ?_
    ·skip
     refine za ?_
     refine dq ((by first | exact zb zm rfl ty3 (by decide) rfl | exact zg zm rfl ty3 (by decide) rfl)) ?_
     refine dq (zc ty3 rfl rfl rfl) ?_
     refine dq (zaf rfl rfl) ?_
     refine dn ?_
     refine zi rfl (fun h5 => ?_) (fun h6 => ?_)
     ·try simp at h5
      refine zB ?_
      refine dmv rfl ?_
      refine dq ((by first | exact zb zm rfl ty3 (by decide) rfl | exact zg zm rfl ty3 (by decide) rfl)) ?_
      refine dq (zc ty3 rfl rfl rfl) ?_
      refine dq (zj zha rfl (WeakL.refl _) (zeq (by omega) (by omega))) ?_
      refine dq (zw (hs := [_]) zaj ty9 rfl rfl (by decide) (by decide) rfl) ?_
      refine de rfl (zan (i := 0) zaj ty9 rfl rfl rfl rfl rfl (by simp [za5, zh, zbh, zcf]) (by simp) fun v49 => ?_)
      refine das rfl ?_
      refine dn ?_
      exact ⟨(v49, [x.Source, Lib.itoa x.No, Lib.itoa x.At, Lib.itoa x.Week, x.Match, x.Player, x.Stat, Lib.itoa x.Count] ++ [Lib.itoa x.Undo]), by dsimp only; rw [zbb, if_pos h5], ⟨rfl, trivial⟩, (by repeat (first | exact zp | refine zt rfl ?_ | refine zq rfl rfl ?_)), zS rfl⟩
     ·try simp at h6
      refine zl ?_
      exact ⟨(v40, [x.Source, Lib.itoa x.No, Lib.itoa x.At, Lib.itoa x.Week, x.Match, x.Player, x.Stat, Lib.itoa x.Count]), by dsimp only; rw [zbb, if_neg (by omega)]; rfl, ⟨rfl, trivial⟩, (by repeat (first | exact zp | refine zt rfl ?_ | refine zq rfl rfl ?_)), zS rfl⟩
    ·intro q hq
     obtain ⟨u, ws⟩ := q
     dsimp only at hq
     subst hq
     refine zH (Ghost.fa 8 (i := 0) rfl rfl) ?_
     refine zH (Ghost.of_eq (M' := [.bld b5 61 5 v v (txT zbb (l.take k))]) rfl) ?_
     refine zB ?_
     refine dmv rfl ?_
     refine dq (zj ca32 rfl (WeakL.refl _) (ziA hT (l := zbb x) (c := 32) (by omega) (by have := zmU x; omega))) ?_
     refine dq (zfe rfl rfl (by simp; omega)) ?_
     refine de rfl (zo (i := 0) ca31 rfl (WeakL.refl _) rfl (zdu (by simp; omega)) ?_)
     rintro _ _ ⟨v53, rfl, rfl⟩
     refine dn ?_
     refine zG ?_
     refine ze ?_
     refine zB ?_
     refine dq (zC rfl rfl (by omega) (by omega)) ?_
     refine dmv rfl ?_
     refine dn ?_
     exact ⟨k + 1, v53, ⟨by omega, trivial⟩, by dsimp only; omega, ⟨rfl, trivial⟩, (by repeat (first | exact zp | refine zt rfl ?_ | refine zq rfl rfl ?_)), zS (by dsimp only; rw [zad hx, zpu]; rfl)⟩
   ·try simp at h4
    have hnk : l.length ≤ k := by omega
    obtain rfl : k = l.length := by omega
    rw [List.take_length]
    have hTl := zgE (l := l) hz
    refine zU ?_
    refine z6 ?_
    refine zaR ?_
    refine zJ ?_
    refine ze ?_
    refine zf ?_
    refine za ?_
    refine de rfl (zo (i := 0) ca33 rfl (WeakL.refl _) rfl ziO ?_)
    rintro _ _ ⟨rfl, rfl⟩
    refine dq (zaf rfl rfl) ?_
    refine dn ?_
    refine zi rfl (fun h7 => ?_) (fun h8 => ?_)
    ·try simp at h7
     refine za ?_
     refine das rfl ?_
     refine das rfl ?_
     refine dn ?_
     refine zk ?_
     first
     | exact zF rfl (zp3 zz zbb h1)
     | (refine zat Ghost.clear rfl ⟨zp4 zz zbb h2 ?_, rfl⟩; omega)
     | (refine zF rfl (zp8 zz zbb h2 ?_); omega)
    ·try simp at h8
     refine zl ?_
     refine ze ?_
     refine za ?_
     refine de rfl (zo (i := 0) ca34 rfl (WeakL.refl _) rfl zen ?_)
     rintro _ _ ⟨rfl, rfl⟩
     refine das rfl ?_
     refine das rfl ?_
     refine dn ?_
     refine zk ?_
     first
     | exact zF rfl (zp3 zz zbb h1)
     | (refine zat Ghost.clear rfl ⟨zp4 zz zbb h2 ?_, rfl⟩; omega)
     | (refine zF rfl (zp8 zz zbb h2 ?_); omega)

/-- benchwarmer/benchref1.PlayLines -/
theorem zfk [Tracks] {l : List Play} (hT : Tracks.on = false) (hz0 : zz l = 0) : ConP Tryz.prog 26 [zbD l] (.str (txT zbb l)) := by
 obtain ⟨hl6, hz⟩ := zkZ hz0
 refine Con.of_body Tryz.func26 rfl Tryz.ntmps26 rfl rfl ?_
 refine za ?_
 refine das rfl ?_
 refine dn ?_
 refine za ?_
 refine de rfl (zm4 5 zl3 rfl fun b3 => ?_)
 refine dn ?_
 refine za ?_
 refine das rfl ?_
 refine dn ?_
 refine zf ?_
 refine za ?_
 refine dmv rfl ?_
 refine dq (zL zaC rfl) ?_
 refine dmv rfl ?_
 refine dn ?_
 refine zn ?_
 refine zaI [6, 7, 10, 11, 12, 13, 14, 15, 16, 17, 18, 19, 20, 21, 22, 23, 24, 25, 26, 27, 28, 29, 30, 31, 32, 33, 34, 35, 36, 37, 38, 39, 40, 41, 42, 43, 44, 45, 46, 47, 48, 49, 50, 51, 52, 53] (fun (k : Nat) (v : Value) => [(10, .int .i64 k)]) (fun (k : Nat) (v : Value) => [.bld b3 61 5 v v (txT zbb (l.take k))]) (fun (k : Nat) (v : Value) => k ≤ l.length ∧ (True)) (fun (k : Nat) (v : Value) => l.length - k) (0) (.slice none 0 0) ?_ ?_ ?_ ?_
 ·exact ⟨Nat.zero_le _, trivial⟩
 ·exact ⟨rfl, trivial⟩
 ·exact zS (by simp [txT])
 ·intro k v hinv
  obtain ⟨hk, -⟩ := hinv
  refine za ?_
  refine dq (zW rfl rfl) ?_
  refine dn ?_
  refine zf ?_
  refine zi rfl (fun h1 => ?_) (fun h2 => ?_)
  ·try simp at h1
   obtain ⟨x, hx⟩ : ∃ x, l[k]? = some x := ⟨_, List.getElem?_eq_getElem h1⟩
   have hdx := zX hx
   obtain ⟨hx1, hx2, hx3, hx4, ⟨hx5, hx6, hx7⟩, hx8, hx9⟩ := zid (hz x (List.mem_of_getElem? hx))
   have hWl := zj1 (hz x (List.mem_of_getElem? hx))
   have hTk := zgE (l := l.take k) (fun p hp => hz p (List.mem_of_mem_take hp))
   have hT2 : (l.take k).length ≤ 3000 := by rw [List.length_take]; omega
   refine zl ?_
   refine ze ?_
   refine zf ?_
   refine zn ?_
   refine za ?_
   refine dq (zP zaC zm rfl rfl rfl (by first | assumption | simp_all)) ?_
   refine dq (zN zm rfl rfl rfl rfl) ?_
   refine de rfl (z8 zm rfl fun b6 => ?_)
   refine de0 (zae zm rfl rfl rfl rfl rfl ?_)
   refine dn ?_
   refine zH (Ghost.fc0 6 rfl) ?_
   refine zaM (fun _ => True) [] mixed ?_
   refine ahp 0 rfl rfl (by kernel_rfl) (by kernel_rfl) ((by first | exact zb zm rfl ty9 (by decide) rfl | exact zg zm rfl ty9 (by decide) rfl)) ?_
   refine ahp 1 rfl rfl (by kernel_rfl) (by kernel_rfl) (zc ty9 rfl rfl rfl) ?_
   refine ahp 2 rfl rfl (by kernel_rfl) (by kernel_rfl) (zd rfl) ?_
   refine ahp 3 rfl rfl (by kernel_rfl) (by kernel_rfl) ((by first | exact zb zm rfl ty3 (by decide) rfl | exact zg zm rfl ty3 (by decide) rfl)) ?_
   refine ahp 4 rfl rfl (by kernel_rfl) (by kernel_rfl) (zc ty3 rfl rfl rfl) ?_
   refine ahp 5 rfl rfl (by kernel_rfl) (by kernel_rfl) (zb4 zha rfl rfl (WeakL.refl _) (zeq (by omega) (by omega))) ?_
   refine ahp 6 rfl rfl (by kernel_rfl) (by kernel_rfl) (zd rfl) ?_
   refine ahp 7 rfl rfl (by kernel_rfl) (by kernel_rfl) ((by first | exact zb zm rfl ty3 (by decide) rfl | exact zg zm rfl ty3 (by decide) rfl)) ?_
   refine ahp 8 rfl rfl (by kernel_rfl) (by kernel_rfl) (zc ty3 rfl rfl rfl) ?_
   refine ahp 9 rfl rfl (by kernel_rfl) (by kernel_rfl) (zb4 zha rfl rfl (WeakL.refl _) (zeq (by omega) (by omega))) ?_
   refine ahp 10 rfl rfl (by kernel_rfl) (by kernel_rfl) (zd rfl) ?_
   refine ahp 11 rfl rfl (by kernel_rfl) (by kernel_rfl) ((by first | exact zb zm rfl ty3 (by decide) rfl | exact zg zm rfl ty3 (by decide) rfl)) ?_
   refine ahp 12 rfl rfl (by kernel_rfl) (by kernel_rfl) (zc ty3 rfl rfl rfl) ?_
   refine ahp 13 rfl rfl (by kernel_rfl) (by kernel_rfl) (zb4 zha rfl rfl (WeakL.refl _) (zeq (by omega) (by omega))) ?_
   refine ahp 14 rfl rfl (by kernel_rfl) (by kernel_rfl) ((by first | exact zb zm rfl ty9 (by decide) rfl | exact zg zm rfl ty9 (by decide) rfl)) ?_
   refine ahp 15 rfl rfl (by kernel_rfl) (by kernel_rfl) (zc ty9 rfl rfl rfl) ?_
   refine ahp 16 rfl rfl (by kernel_rfl) (by kernel_rfl) ((by first | exact zb zm rfl ty9 (by decide) rfl | exact zg zm rfl ty9 (by decide) rfl)) ?_
   refine ahp 17 rfl rfl (by kernel_rfl) (by kernel_rfl) (zc ty9 rfl rfl rfl) ?_
   refine ahp 18 rfl rfl (by kernel_rfl) (by kernel_rfl) ((by first | exact zb zm rfl ty9 (by decide) rfl | exact zg zm rfl ty9 (by decide) rfl)) ?_
   refine ahp 19 rfl rfl (by kernel_rfl) (by kernel_rfl) (zc ty9 rfl rfl rfl) ?_
   refine ahp 20 rfl rfl (by kernel_rfl) (by kernel_rfl) (zd rfl) ?_
   refine ahp 21 rfl rfl (by kernel_rfl) (by kernel_rfl) ((by first | exact zb zm rfl ty3 (by decide) rfl | exact zg zm rfl ty3 (by decide) rfl)) ?_
   refine ahp 22 rfl rfl (by kernel_rfl) (by kernel_rfl) (zc ty3 rfl rfl rfl) ?_
   refine ahp 23 rfl rfl (by kernel_rfl) (by kernel_rfl) (zb4 zha rfl rfl (WeakL.refl _) (zeq (by omega) (by omega))) ?_
   refine ahe 24 rfl (by kernel_rfl) ?_
   refine zau rfl (zhY (hs := [_, _, _, _, _, _, _, _]) zaj ty9 rfl rfl (by decide) (by decide) rfl fun v38 => ?_)
   refine ⟨fun _ => .inl trivial, ?_⟩
   refine ahp 25 rfl rfl (by kernel_rfl) (by kernel_rfl) (zaA rfl) ?_
   refine ahz (by kernel_rfl) ?_
   refine zeb [7, 39, 40, 41, 42, 43, 44, 45, 46, 47, 48] (fun (q : Value × List Str) => [(7, .raw q.1)]) (fun (q : Value × List Str) => [.arr q.1 1 (q.2.map .str), .bld b3 61 5 v v (txT zbb (l.take k))]) (fun (q : Value × List Str) => q.2 = zbb x) ?_ ?_
   ·skip
    refine za ?_
    refine dq ((by first | exact zb zm rfl ty3 (by decide) rfl | exact zg zm rfl ty3 (by decide) rfl)) ?_
    refine dq (zc ty3 rfl rfl rfl) ?_
    refine dq (zaf rfl rfl) ?_
    refine dn ?_
    refine zi rfl (fun h3 => ?_) (fun h4 => ?_)
    ·try simp at h3
     refine zB ?_
     refine dmv rfl ?_
     refine dmv rfl ?_
     refine dq ((by first | exact zb zm rfl ty3 (by decide) rfl | exact zg zm rfl ty3 (by decide) rfl)) ?_
     refine dq (zc ty3 rfl rfl rfl) ?_
     refine dq (zb4 zha rfl rfl (WeakL.refl _) (zeq (by omega) (by omega))) ?_
     refine dq (zw (hs := [_]) zaj ty9 rfl rfl (by decide) (by decide) rfl) ?_
     refine de rfl (zan (i := 0) zaj ty9 rfl rfl rfl rfl rfl (by simp [za5, zh, zbh, zcf]) (by simp) fun v48 => ?_)
     refine das rfl ?_
     refine dn ?_
     exact ⟨(v48, [x.Source, Lib.itoa x.No, Lib.itoa x.At, Lib.itoa x.Week, x.Match, x.Player, x.Stat, Lib.itoa x.Count] ++ [Lib.itoa x.Undo]), by dsimp only; rw [zbb, if_pos h3], ⟨rfl, trivial⟩, (by repeat (first | exact zp | refine zt rfl ?_ | refine zq rfl rfl ?_)), zS rfl⟩
    ·try simp at h4
     refine zl ?_
     exact ⟨(v38, [x.Source, Lib.itoa x.No, Lib.itoa x.At, Lib.itoa x.Week, x.Match, x.Player, x.Stat, Lib.itoa x.Count]), by dsimp only; rw [zbb, if_neg (by omega)]; rfl, ⟨rfl, trivial⟩, (by repeat (first | exact zp | refine zt rfl ?_ | refine zq rfl rfl ?_)), zS rfl⟩
   ·intro q hq
    obtain ⟨u, ws⟩ := q
    dsimp only at hq
    subst hq
    refine zH (Ghost.fa 7 (i := 0) rfl rfl) ?_
    refine zH (Ghost.of_eq (M' := [.bld b3 61 5 v v (txT zbb (l.take k))]) rfl) ?_
    refine zB ?_
    refine dmv rfl ?_
    refine dq (zj ca32 rfl (WeakL.refl _) (ziA hT (l := zbb x) (c := 32) (by omega) (by have := zmU x; omega))) ?_
    refine dq (zfe rfl rfl (by simp; omega)) ?_
    refine de rfl (zo (i := 0) ca31 rfl (WeakL.refl _) rfl (zdu (by simp; omega)) ?_)
    rintro _ _ ⟨v52, rfl, rfl⟩
    refine dn ?_
    refine zG ?_
    refine ze ?_
    refine zB ?_
    refine dq (zC rfl rfl (by omega) (by omega)) ?_
    refine dmv rfl ?_
    refine dn ?_
    exact ⟨k + 1, v52, ⟨by omega, trivial⟩, by dsimp only; omega, ⟨rfl, trivial⟩, (by repeat (first | exact zp | refine zt rfl ?_ | refine zq rfl rfl ?_)), zS (by dsimp only; rw [zad hx, zpu]; rfl)⟩
  ·try simp at h2
   have hnk : l.length ≤ k := by omega
   obtain rfl : k = l.length := by omega
   rw [List.take_length]
   refine zU ?_
   refine z6 ?_
   refine zaR ?_
   refine zJ ?_
   refine ze ?_
   refine za ?_
   refine de rfl (zo (i := 0) ca34 rfl (WeakL.refl _) rfl zen ?_)
   rintro _ _ ⟨rfl, rfl⟩
   refine das rfl ?_
   refine dn ?_
   refine zk ?_
   refine zF rfl ?_
   rfl
end
end Go.Proofs.YtjecenjmphpmfaaGreatDoor
namespace Go.HL
section
theorem zhP {line : Str} (h : [] ∈ spl 32 line ∨ ¬((spl 32 line).length : Int) = 8 ∧ ¬((spl 32 line).length : Int) = 9) : plB line = false := by
 refine (zdh ?_).1
 have : plC line = false := by
  unfold plC
  rcases h with h | h
  ·have hc : (spl 32 line).contains [] = true := List.contains_iff_mem.2 h
   rw [contains_nil, Bool.not_eq_true'] at hc
   rw [hc]; rfl
  ·have : out ((spl 32 line).length : Int) 8 9 = true := by unfold out; simp; omega
   rw [this]; simp
 unfold plK; rw [this]; rfl
theorem zxa {line : Str} (h : ¬[] ∈ spl 32 line ∧ (¬((spl 32 line).length : Int) = 8 → ((spl 32 line).length : Int) = 9)) : plC line = true ∧ 8 ≤ (spl 32 line).length ∧ (spl 32 line).length ≤ 9 := by
 obtain ⟨h1, h2⟩ := h
 have hl : 8 ≤ (spl 32 line).length ∧ (spl 32 line).length ≤ 9 := by
  by_cases h8 : ((spl 32 line).length : Int) = 8
  ·omega
  ·have := h2 h8; omega
 have hall : (spl 32 line).all (fun w => !w.isEmpty) = true := by
  cases hc : (spl 32 line).contains [] with
  | false => rw [contains_nil, Bool.not_eq_false'] at hc; exact hc
  | true => exact absurd (List.contains_iff_mem.1 hc) h1
 have ho : out ((spl 32 line).length : Int) 8 9 = false := by unfold out; simp; omega
 exact ⟨by unfold plC; rw [hall, ho]; rfl, hl⟩
def zcO (line : Str) : List Str := plN line ++ plD line
theorem zu5 (line : Str) : zbg (zcO line) 15 = (zbg (plN line) 15 && zbg (plD line) 15) := by unfold zcO zbg; rw [List.all_append]
theorem zt2 {line : Str} (h : (spl 32 line).length ≤ 9) : (zcO line).length ≤ 5 := by
 have h1 := @zkN line
 have h2 := znF h
 unfold zcO; rw [List.length_append]; omega
theorem zvL {line : Str} : ∀ s ∈ zcO line, s.length ≤ line.length := fun s hs => (List.mem_append.1 hs).elim (zrx s) (zrb s)
/-- The numbers, where all are numbers. -/
theorem zl5 {line : Str} (hp : PlNs line) (h : zbg (zcO line) 15 = true) : zdB (zcO line) 15 = zT ((spl 32 line).getD 1 []) 15 :: zT ((spl 32 line).getD 2 []) 15 :: zT ((spl 32 line).getD 3 []) 15 :: (plD line).map (zT · 15) := by
 rw [zne h]; exact hp.all
theorem zi5 {line : Str} (hp : PlNs line) (h : zbg (zcO line) 15 = true) (h5 : ((zdB (zcO line) 15).length : Int) = 5) : (spl 32 line).length = 9 ∧ (zdB (zcO line) 15)[4]? = some (zT ((spl 32 line).getD 8 []) 15) := by
 have hl := hp.l
 rw [zl5 hp h] at h5 ⊢
 simp only [List.length_cons, List.length_map] at h5 hl
 have h9 : (spl 32 line).length = 9 := by omega
 exact ⟨h9, hp.m1 h9⟩
theorem zxR {line : Str} (hc : plC line = true) (hp : PlNs line) (h : zbg (zcO line) 15 = true → ((zdB (zcO line) 15).length : Int) = 5 ∧ zT ((spl 32 line).getD 8 []) 15 < 1) : plB line = false := by
 rw [zmw]
 cases hn : zbg (zcO line) 15 with
 | false =>
   have : plK line = false := by unfold plK; rw [Bool.and_assoc, ← zu5, hn]; simp
   rw [this]; rfl
 | true =>
   obtain ⟨h1, h2⟩ := h hn
   have h9 := (zi5 hp hn h1).1
   rw [show (((((spl 32 line).length : Nat) : Int)) == 9) = true by rw [beq_iff_eq]; omega, decide_eq_false (by omega)]
   simp
theorem zgv {line : Str} (hc : plC line = true) (hp : PlNs line) (h : zbg (zcO line) 15 = false ∨ ((zdB (zcO line) 15).length : Int) = 5 ∧ zT ((spl 32 line)[8]?.getD []) 15 < 1) : plB line = false := by
 refine zxR hc hp fun hb => ?_
 rcases h with h | h
 ·rw [hb] at h; cases h
 ·exact ⟨h.1, by rw [List.getD_eq_getElem?_getD]; exact h.2⟩
theorem zkV {line : Str} (hp : PlNs line) (hb : zbg (zcO line) 15 = true) (h : ((plD line).length : Int) + 1 + 1 + 1 = 5) : ((zdB (zcO line) 15).length : Int) = 5 := by
 rw [zl5 hp hb]; simp only [List.length_cons, List.length_map]; omega
theorem zo7 {line : Str} (hp : PlNs line) (hb : zbg (zcO line) 15 = true) (h : ((plD line).length : Int) + 1 + 1 + 1 = 5) (hk : ((zdB (zcO line) 15).length : Int) = 5 → 1 ≤ zT ((spl 32 line)[8]?.getD []) 15) : 0 < zT ((spl 32 line).getD 8 []) 15 := by
 have := hk (zkV hp hb h)
 rw [List.getD_eq_getElem?_getD]; omega
theorem zo4 {line : Str} (hp : PlNs line) (hl : 8 ≤ (spl 32 line).length ∧ (spl 32 line).length ≤ 9) (h : ¬ ((plD line).length : Int) + 1 + 1 + 1 = 5) : (plD line).length = 1 := by
 have := hp.l
 simp only [List.length_map] at this
 omega
theorem zwL {line : Str} (hc : plC line = true) (h : zbg (zcO line) 15 = true) : plK line = true := by
 rw [zu5, Bool.and_eq_true] at h
 unfold plK; rw [hc, h.1, h.2]; rfl
end
end Go.HL
namespace Go.Proofs.YtjecenjmphpmfaaGreatDoor
set_option maxRecDepth 100000
set_option linter.unusedVariables false
set_option linter.unusedSimpArgs false
section
open Go.HL
/-- benchwarmer/benchref1.PlayFault -/
theorem zhw [Tracks] {p : Play}  : ConP Tryz.prog 48 [zR p] (.int .i64 (playFault p)) := by
 refine Con.of_body Tryz.func48 rfl Tryz.ntmps48 rfl rfl ?_
 refine za ?_
 refine dq (zao rfl rfl) ?_
 refine das rfl ?_
 refine dn ?_
 refine zf ?_
 refine zn ?_
 refine za ?_
 refine dq (zb zm rfl ty9 (by decide) rfl) ?_
 refine dq (zc ty9 rfl rfl rfl) ?_
 refine dq (zj zgH rfl (WeakL.refl _) zdy) ?_
 refine dq (zaa rfl) ?_
 refine das rfl ?_
 refine dn ?_
 refine zi rfl (fun h1 => ?_) (fun h2 => ?_)
 ·try simp at h1
  refine za ?_
  refine das rfl ?_
  refine dn ?_
  refine zk ?_
  refine zF rfl ?_
  show HVal.int .i64 _ = _
  simp_all [playFault]
 ·try simp at h2
  refine za ?_
  refine dq (zb zm rfl ty3 (by decide) rfl) ?_
  refine dq (zc ty3 rfl rfl rfl) ?_
  refine dq (zj zf9 rfl (WeakL.refl _) za7) ?_
  refine dq (zaa rfl) ?_
  refine dmv rfl ?_
  refine dg rfl rfl (fun hc => ⟨_, OpenTo.refl _, zb zm rfl ty3 (by decide) rfl⟩) ?_
  refine dg rfl rfl (fun hc => ⟨_, OpenTo.upd (t := 14) rfl (by first | exact hc | simp_all) (OpenTo.refl _), zc ty3 rfl rfl rfl⟩) ?_
  refine dg rfl rfl (fun hc => ⟨_, OpenTo.upd (t := 15) rfl (by first | exact hc | simp_all) (OpenTo.refl _), zj zpo rfl (WeakL.refl _) zbP⟩) ?_
  refine dg rfl rfl (fun hc => ⟨_, OpenTo.upd (t := 16) rfl (by first | exact hc | simp_all) (OpenTo.refl _), zai rfl rfl⟩) ?_
  refine dq (zv rfl (.inl rfl) (.inr ⟨_, rfl, fun h => by simp_all⟩)) ?_
  refine dmv rfl ?_
  refine dg rfl rfl (fun hc => ⟨_, OpenTo.refl _, zb zm rfl ty3 (by decide) rfl⟩) ?_
  refine dg rfl rfl (fun hc => ⟨_, OpenTo.upd (t := 20) rfl (by first | exact hc | simp_all) (OpenTo.refl _), zc ty3 rfl rfl rfl⟩) ?_
  refine dg rfl rfl (fun hc => ⟨_, OpenTo.upd (t := 21) rfl (by first | exact hc | simp_all) (OpenTo.refl _), zj zrQ rfl (WeakL.refl _) zcI⟩) ?_
  refine dg rfl rfl (fun hc => ⟨_, OpenTo.upd (t := 22) rfl (by first | exact hc | simp_all) (OpenTo.refl _), zai rfl rfl⟩) ?_
  refine dq (zv rfl (.inl rfl) (.inr ⟨_, rfl, fun h => by simp_all⟩)) ?_
  refine das rfl ?_
  refine dn ?_
  refine zi rfl (fun h3 => ?_) (fun h4 => ?_)
  ·try simp at h3
   refine za ?_
   refine das rfl ?_
   refine dn ?_
   refine zk ?_
   refine zF rfl ?_
   show HVal.int .i64 _ = _
   simp_all [playFault]
  ·try simp at h4
   refine za ?_
   refine dq (zb zm rfl ty9 (by decide) rfl) ?_
   refine dq (zc ty9 rfl rfl rfl) ?_
   refine dq (zj zgH rfl (WeakL.refl _) zdy) ?_
   refine dq (zaa rfl) ?_
   refine dmv rfl ?_
   refine dg rfl rfl (fun hc => ⟨_, OpenTo.refl _, zb zm rfl ty9 (by decide) rfl⟩) ?_
   refine dg rfl rfl (fun hc => ⟨_, OpenTo.upd (t := 31) rfl (by first | exact hc | simp_all) (OpenTo.refl _), zc ty9 rfl rfl rfl⟩) ?_
   refine dg rfl rfl (fun hc => ⟨_, OpenTo.upd (t := 32) rfl (by first | exact hc | simp_all) (OpenTo.refl _), zj zgH rfl (WeakL.refl _) zdy⟩) ?_
   refine dg rfl rfl (fun hc => ⟨_, OpenTo.upd (t := 33) rfl (by first | exact hc | simp_all) (OpenTo.refl _), zaa rfl⟩) ?_
   refine dq (zv rfl (.inl rfl) (.inr ⟨_, rfl, fun h => by simp_all⟩)) ?_
   refine dmv rfl ?_
   refine dg rfl rfl (fun hc => ⟨_, OpenTo.refl _, zb zm rfl ty9 (by decide) rfl⟩) ?_
   refine dg rfl rfl (fun hc => ⟨_, OpenTo.upd (t := 37) rfl (by first | exact hc | simp_all) (OpenTo.refl _), zc ty9 rfl rfl rfl⟩) ?_
   refine dg rfl rfl (fun hc => ⟨_, OpenTo.upd (t := 38) rfl (by first | exact hc | simp_all) (OpenTo.refl _), zj zgH rfl (WeakL.refl _) zdy⟩) ?_
   refine dg rfl rfl (fun hc => ⟨_, OpenTo.upd (t := 39) rfl (by first | exact hc | simp_all) (OpenTo.refl _), zaa rfl⟩) ?_
   refine dq (zv rfl (.inl rfl) (.inr ⟨_, rfl, fun h => by simp_all⟩)) ?_
   refine das rfl ?_
   refine dn ?_
   refine zi rfl (fun h5 => ?_) (fun h6 => ?_)
   ·try simp at h5
    refine za ?_
    refine das rfl ?_
    refine dn ?_
    refine zk ?_
    refine zF rfl ?_
    show HVal.int .i64 _ = _
    simp_all [playFault]
   ·try simp at h6
    refine za ?_
    refine dq (zb zm rfl ty3 (by decide) rfl) ?_
    refine dq (zc ty3 rfl rfl rfl) ?_
    refine dq (zj zf9 rfl (WeakL.refl _) za7) ?_
    refine dq (zaa rfl) ?_
    refine dmv rfl ?_
    refine dg rfl rfl (fun hc => ⟨_, OpenTo.refl _, zb zm rfl ty3 (by decide) rfl⟩) ?_
    refine dg rfl rfl (fun hc => ⟨_, OpenTo.upd (t := 48) rfl (by first | exact hc | simp_all) (OpenTo.refl _), zc ty3 rfl rfl rfl⟩) ?_
    refine dg rfl rfl (fun hc => ⟨_, OpenTo.refl _, zb zm rfl ty3 (by decide) rfl⟩) ?_
    refine dg rfl rfl (fun hc => ⟨_, OpenTo.upd (t := 50) rfl (by first | exact hc | simp_all) (OpenTo.refl _), zc ty3 rfl rfl rfl⟩) ?_
    have hN := zdw (n := p.No) (lo := 1) (hi := 3000) (by simp_all)
    refine dg rfl rfl (fun hc => by have hq := hc; (try simp at hq); exact ⟨_, OpenTo.upd (t := 51) rfl (by first | exact hc | simp_all) (OpenTo.refl _), zbd rfl rfl (by omega) (by omega)⟩) ?_
    refine dg rfl rfl (fun hc => ⟨_, OpenTo.upd (t := 52) rfl (by first | exact hc | simp_all) (OpenTo.upd (t := 49) rfl (by first | exact hc | simp_all) (OpenTo.refl _)), zj zf9 rfl (WeakL.refl _) za7⟩) ?_
    refine dg rfl rfl (fun hc => ⟨_, OpenTo.upd (t := 53) rfl (by first | exact hc | simp_all) (OpenTo.refl _), zaa rfl⟩) ?_
    refine dq (zv rfl (.inl rfl) (.inr ⟨_, rfl, fun h => by simp_all⟩)) ?_
    refine das rfl ?_
    refine dn ?_
    refine zi rfl (fun h7 => ?_) (fun h8 => ?_)
    ·try simp at h7
     refine za ?_
     refine das rfl ?_
     refine dn ?_
     refine zk ?_
     refine zF rfl ?_
     show HVal.int .i64 _ = _
     simp_all [playFault]
    ·try simp at h8
     refine za ?_
     refine dq (zb zm rfl ty3 (by decide) rfl) ?_
     refine dq (zc ty3 rfl rfl rfl) ?_
     refine dq (zaf rfl rfl) ?_
     refine dmv rfl ?_
     refine dg rfl rfl (fun hc => ⟨_, OpenTo.refl _, zb zm rfl ty3 (by decide) rfl⟩) ?_
     refine dg rfl rfl (fun hc => ⟨_, OpenTo.upd (t := 61) rfl (by first | exact hc | simp_all) (OpenTo.refl _), zc ty3 rfl rfl rfl⟩) ?_
     refine dg rfl rfl (fun hc => ⟨_, OpenTo.upd (t := 62) rfl (by first | exact hc | simp_all) (OpenTo.refl _), zai rfl rfl⟩) ?_
     refine dq (zv rfl (.inr ⟨_, rfl, fun h => by simp_all⟩) (.inl rfl)) ?_
     refine das rfl ?_
     refine dn ?_
     refine zi rfl (fun h9 => ?_) (fun h10 => ?_)
     ·try simp at h9
      refine za ?_
      refine das rfl ?_
      refine dn ?_
      refine zk ?_
      refine zF rfl ?_
      show HVal.int .i64 _ = _
      simp_all [playFault]
     ·try simp at h10
      refine zl ?_
      refine zG ?_
      refine ze ?_
      refine za ?_
      refine das rfl ?_
      refine dn ?_
      refine zk ?_
      refine zF rfl ?_
      show HVal.int .i64 _ = _
      simp_all [playFault]

/-- benchwarmer/benchref1.PlaysFault -/
theorem zeu [Tracks] {l : List Play} (hl : l.length ≤ 1000000) : ConP Tryz.prog 16 [zbD l] (.int .i64 (zz l)) := by
 refine Con.of_body Tryz.func16 rfl Tryz.ntmps16 rfl rfl ?_
 refine za ?_
 refine das rfl ?_
 refine dn ?_
 refine zf ?_
 refine za ?_
 refine dmv rfl ?_
 refine dq (zL zaC rfl) ?_
 refine dq (zaf rfl rfl) ?_
 refine dn ?_
 refine zi rfl (fun h1 => ?_) (fun h2 => ?_)
 ·try simp at h1
  refine za ?_
  refine das rfl ?_
  refine dn ?_
  refine zk ?_
  refine zat Ghost.clear rfl ⟨?_, rfl⟩
  show HVal.int .i64 _ = _
  first
  | (rw [zz, if_pos (by omega)]; done)
  | (rw [zbz (by omega) (by rw [hg, zaG, if_pos (by simpa using h5)]) (by simpa using h5)]; done)
  | (rw [zbz (c := 7) (by omega) (by rw [hg, zaG, if_neg (by simpa using h6), if_pos (by obtain ⟨qa, qb⟩ := h7; have qb' : 0 ≤ byNo (l.getD (k - 1) zdc) x := (by simpa using qb); rw [zch]; exact ⟨by omega, by omega⟩)]) (by decide)]; done)
  | (rw [zay (by omega) hg, zaN, if_pos (by omega)]; done)
  | (rw [zay (by omega) hg, zaN, if_neg (by omega), if_pos (by assumption)]; done)
  | (rw [zay (by omega) hg, zaN, if_neg (by omega), if_neg (by simp_all)]; done)
 ·try simp at h2
  refine zl ?_
  refine ze ?_
  refine za ?_
  refine de rfl (za1 fun m12 => ?_)
  refine de rfl (za1 fun m13 => ?_)
  refine das rfl ?_
  refine das rfl ?_
  refine dn ?_
  refine za ?_
  refine das rfl ?_
  refine dn ?_
  refine zf ?_
  refine za ?_
  refine dmv rfl ?_
  refine dq (zL zaC rfl) ?_
  refine dmv rfl ?_
  refine dn ?_
  refine zn ?_
  refine zak [2, 5, 6, 7, 8, 16, 17, 18, 19, 20, 21, 22, 23, 24, 25, 26, 27, 28, 29, 30, 31, 32, 33, 34, 35, 36, 37, 38, 39, 40, 41, 42, 43, 44, 45, 46, 47, 48, 49, 50, 51, 52, 53, 54, 55, 56, 57, 58, 59, 60, 61, 62, 63] (fun (k : Nat) => [(16, .int .i64 k), (5, .bool (za4 (l.take k)).c)]) (fun (k : Nat) => [.map m13 (sk (em (.int .i64) (za4 (l.take k)).W)), .map m12 (sk (zbv (za4 (l.take k)).S))]) (fun (k : Nat) => k ≤ l.length ∧ (zaG l 0 l = zaG l k (l.drop k) ∧ ∀ y ∈ l.take k, playFault y = 0)) (fun (k : Nat) => l.length - k) (0) ?_ ?_ ?_ ?_
  ·exact ⟨Nat.zero_le _, rfl, by simp⟩
  ·exact ⟨rfl, rfl, trivial⟩
  ·exact List.Perm.refl _
  ·intro k hinv
   obtain ⟨hk, hg, hok⟩ := hinv
   refine za ?_
   refine dq (zW rfl rfl) ?_
   refine dn ?_
   refine zf ?_
   refine zi rfl (fun h3 => ?_) (fun h4 => ?_)
   ·try simp at h3
    obtain ⟨x, hx⟩ : ∃ x, l[k]? = some x := ⟨_, List.getElem?_eq_getElem h3⟩
    have hdx := zX hx
    rw [hdx] at hg
    refine zl ?_
    refine ze ?_
    refine zf ?_
    refine zn ?_
    refine za ?_
    refine dmv rfl ?_
    refine dq (zP zaC zm rfl rfl rfl (by first | assumption | simp_all)) ?_
    refine dq (zN zm rfl rfl rfl rfl) ?_
    refine de rfl (z8 zm rfl fun b7 => ?_)
    refine das rfl ?_
    refine de0 (zae zm rfl rfl rfl rfl rfl ?_)
    refine dn ?_
    refine zH (Ghost.fc0 7 rfl) ?_
    refine zf ?_
    refine za ?_
    refine dq (zN zm rfl rfl rfl rfl) ?_
    refine dq (zj ca48 rfl (WeakL.refl _) zhw) ?_
    refine das rfl ?_
    refine dn ?_
    refine za ?_
    refine dmv rfl ?_
    refine dq (zai rfl rfl) ?_
    refine dn ?_
    refine zi rfl (fun h5 => ?_) (fun h6 => ?_)
    ·try simp at h5
     refine za ?_
     refine dmv rfl ?_
     refine das rfl ?_
     refine dn ?_
     refine zk ?_
     refine zat Ghost.clear rfl ⟨?_, rfl⟩
     show HVal.int .i64 _ = _
     first
     | (rw [zz, if_pos (by omega)]; done)
     | (rw [zbz (by omega) (by rw [hg, zaG, if_pos (by simpa using h5)]) (by simpa using h5)]; done)
     | (rw [zbz (c := 7) (by omega) (by rw [hg, zaG, if_neg (by simpa using h6), if_pos (by obtain ⟨qa, qb⟩ := h7; have qb' : 0 ≤ byNo (l.getD (k - 1) zdc) x := (by simpa using qb); rw [zch]; exact ⟨by omega, by omega⟩)]) (by decide)]; done)
     | (rw [zay (by omega) hg, zaN, if_pos (by omega)]; done)
     | (rw [zay (by omega) hg, zaN, if_neg (by omega), if_pos (by assumption)]; done)
     | (rw [zay (by omega) hg, zaN, if_neg (by omega), if_neg (by simp_all)]; done)
    ·try simp at h6
     refine zl ?_
     refine ze ?_
     refine zf ?_
     refine zaM (fun _ => True) [] mixed ?_
     refine ahp 0 rfl rfl (by kernel_rfl) (by kernel_rfl) (zd rfl) ?_
     refine ahp 1 rfl rfl (by kernel_rfl) (by kernel_rfl) (zaf rfl rfl) ?_
     refine ahp 2 rfl rfl (by kernel_rfl) (by kernel_rfl) (zd rfl) ?_
     refine ahg 3 rfl rfl (by kernel_rfl) (by kernel_rfl) rfl (fun hc => ⟨_, OpenTo.refl _, zd rfl⟩) ?_
     refine ahg 4 rfl rfl (by kernel_rfl) (by kernel_rfl) rfl (fun hc => ⟨_, OpenTo.refl _, zd rfl⟩) ?_
     refine ahg 5 rfl rfl (by kernel_rfl) (by kernel_rfl) rfl (fun hc => by have hq := hc; (try simp at hq); exact ⟨_, OpenTo.upd (t := 30) rfl (by first | exact hc | simp_all) (OpenTo.refl _), zbd rfl rfl (by omega) (by omega)⟩) ?_
     refine ahg 6 rfl rfl (by kernel_rfl) (by kernel_rfl) rfl (fun hc => by have hq := hc; (try simp at hq); exact ⟨_, OpenTo.upd (t := 31) rfl (by first | exact hc | simp_all) (OpenTo.upd (t := 29) rfl (by first | exact hc | simp_all) (OpenTo.refl _)), zP (j := k - 1) (a := l.getD (k - 1) zdc) zaC zm rfl rfl (by omega) (getD_some (by omega))⟩) ?_
     refine ahg 7 rfl rfl (by kernel_rfl) (by kernel_rfl) rfl (fun hc => ⟨_, OpenTo.upd (t := 32) rfl (by first | exact hc | simp_all) (OpenTo.refl _), zN zm rfl rfl rfl rfl⟩) ?_
     refine ahg 8 rfl rfl (by kernel_rfl) (by kernel_rfl) rfl (fun hc => ⟨_, OpenTo.refl _, zN zm rfl rfl rfl rfl⟩) ?_
     refine ahg 9 rfl rfl (by kernel_rfl) (by kernel_rfl) rfl (fun hc => ⟨_, OpenTo.upd (t := 34) rfl (by first | exact hc | simp_all) (OpenTo.upd (t := 33) rfl (by first | exact hc | simp_all) (OpenTo.refl _)), zj ca49 rfl (WeakL.refl _) zgw⟩) ?_
     refine ahg 10 rfl rfl (by kernel_rfl) (by kernel_rfl) rfl (fun hc => ⟨_, OpenTo.upd (t := 35) rfl (by first | exact hc | simp_all) (OpenTo.refl _), zbW rfl rfl⟩) ?_
     refine ahp 11 rfl rfl (by kernel_rfl) (by kernel_rfl) (zv rfl (.inr ⟨_, rfl, fun h => by simp_all⟩) (.inl rfl)) ?_
     refine ahz (by kernel_rfl) ?_
     refine zi rfl (fun h7 => ?_) (fun h8 => ?_)
     ·try simp at h7
      refine za ?_
      refine das rfl ?_
      refine dn ?_
      refine zk ?_
      refine zat Ghost.clear rfl ⟨?_, rfl⟩
      show HVal.int .i64 _ = _
      first
      | (rw [zz, if_pos (by omega)]; done)
      | (rw [zbz (by omega) (by rw [hg, zaG, if_pos (by simpa using h5)]) (by simpa using h5)]; done)
      | (rw [zbz (c := 7) (by omega) (by rw [hg, zaG, if_neg (by simpa using h6), if_pos (by obtain ⟨qa, qb⟩ := h7; have qb' : 0 ≤ byNo (l.getD (k - 1) zdc) x := (by simpa using qb); rw [zch]; exact ⟨by omega, by omega⟩)]) (by decide)]; done)
      | (rw [zay (by omega) hg, zaN, if_pos (by omega)]; done)
      | (rw [zay (by omega) hg, zaN, if_neg (by omega), if_pos (by assumption)]; done)
      | (rw [zay (by omega) hg, zaN, if_neg (by omega), if_neg (by simp_all)]; done)
     ·try simp at h8
      refine zl ?_
      refine ze ?_
      refine za ?_
      refine dmv rfl ?_
      refine dq (zb zm rfl ty9 (by decide) rfl) ?_
      refine dq (zc ty9 rfl rfl rfl) ?_
      first
      | refine de0 (zcv (i := 0) zgi ty9 rfl rfl rfl rfl ?_)
      | refine de0 (zcv (i := 1) zgi ty9 rfl rfl rfl rfl ?_)
      | refine de0 (zcv (i := 2) zgi ty9 rfl rfl rfl rfl ?_)
      | refine de0 (zcv (i := 3) zgi ty9 rfl rfl rfl rfl ?_)
      refine dn ?_
      refine za ?_
      refine dmv rfl ?_
      refine dmv rfl ?_
      refine dg rfl rfl (fun hc => ⟨_, OpenTo.refl _, zd rfl⟩) ?_
      refine dg rfl rfl (fun hc => ⟨_, OpenTo.refl _, zb zm rfl ty9 (by decide) rfl⟩) ?_
      refine dg rfl rfl (fun hc => ⟨_, OpenTo.upd (t := 44) rfl (by first | exact hc | simp_all) (OpenTo.refl _), zc ty9 rfl rfl rfl⟩) ?_
      refine dgl rfl rfl (fun hc => ⟨_, OpenTo.upd (t := 45) rfl (by first | exact hc | simp_all) (OpenTo.upd (t := 43) rfl (by first | exact hc | simp_all) (OpenTo.refl _)), zbZ (i := 0) (z0 := (0 : Int)) zbM ty9 ty3 rfl rfl rfl rfl ⟨rfl, rfl⟩⟩) ?_
      refine dg rfl rfl (fun hc => ⟨_, OpenTo.upd (t := 46) rfl (by first | exact hc | simp_all) (OpenTo.refl _), zai rfl rfl⟩) ?_
      refine dg rfl rfl (fun hc => ⟨_, OpenTo.upd (t := 47) rfl (by first | exact hc | simp_all) (OpenTo.refl _), zd rfl⟩) ?_
      refine dg rfl rfl (fun hc => ⟨_, OpenTo.refl _, zd rfl⟩) ?_
      refine dg rfl rfl (fun hc => ⟨_, OpenTo.refl _, zb zm rfl ty9 (by decide) rfl⟩) ?_
      refine dg rfl rfl (fun hc => ⟨_, OpenTo.upd (t := 50) rfl (by first | exact hc | simp_all) (OpenTo.refl _), zc ty9 rfl rfl rfl⟩) ?_
      refine dgl rfl rfl (fun hc => ⟨_, OpenTo.upd (t := 51) rfl (by first | exact hc | simp_all) (OpenTo.upd (t := 49) rfl (by first | exact hc | simp_all) (OpenTo.refl _)), zbZ (i := 0) (z0 := (0 : Int)) zbM ty9 ty3 rfl rfl rfl rfl ⟨rfl, rfl⟩⟩) ?_
      refine dg rfl rfl (fun hc => ⟨_, OpenTo.refl _, zb zm rfl ty3 (by decide) rfl⟩) ?_
      refine dg rfl rfl (fun hc => ⟨_, OpenTo.upd (t := 53) rfl (by first | exact hc | simp_all) (OpenTo.refl _), zc ty3 rfl rfl rfl⟩) ?_
      refine dg rfl rfl (fun hc => ⟨_, OpenTo.upd (t := 54) rfl (by first | exact hc | simp_all) (OpenTo.upd (t := 52) rfl (by first | exact hc | simp_all) (OpenTo.refl _)), zai rfl rfl⟩) ?_
      refine dg rfl rfl (fun hc => ⟨_, OpenTo.upd (t := 48) rfl (by first | exact hc | simp_all) (OpenTo.refl _), zv rfl (.inr ⟨_, rfl, fun h => by simp_all⟩) (.inl rfl)⟩) ?_
      refine dq (zv rfl (.inl rfl) (.inr ⟨_, rfl, fun h => by simp_all⟩)) ?_
      refine das rfl ?_
      refine dn ?_
      refine zB ?_
      refine dmv rfl ?_
      refine dq (zb zm rfl ty9 (by decide) rfl) ?_
      refine dq (zc ty9 rfl rfl rfl) ?_
      refine dq (zb zm rfl ty3 (by decide) rfl) ?_
      refine dq (zc ty3 rfl rfl rfl) ?_
      first
      | refine de0 (zbu (i := 0) zbM ty9 rfl rfl rfl rfl ?_)
      | refine de0 (zbu (i := 1) zbM ty9 rfl rfl rfl rfl ?_)
      | refine de0 (zbu (i := 2) zbM ty9 rfl rfl rfl rfl ?_)
      | refine de0 (zbu (i := 3) zbM ty9 rfl rfl rfl rfl ?_)
      refine dn ?_
      refine zG ?_
      refine ze ?_
      refine zB ?_
      refine dq (zC rfl rfl (by omega) (by omega)) ?_
      refine dmv rfl ?_
      refine dn ?_
      refine ⟨k + 1, ⟨by omega, ?_, ?_⟩, by dsimp only; omega, ⟨rfl, ?_, trivial⟩, (by repeat (first | exact zp | refine zt rfl ?_ | refine zq rfl rfl ?_)), ?_⟩
      ·rw [hg, zgR (by simpa using h6) (fun hk0 => by have hz := h8; rw [zch] at hz; simp_all; try omega)]
      ·intro y hy
       rw [zad hx] at hy
       rcases List.mem_append.1 hy with hy | hy
       ·exact hok y hy
       ·rw [List.mem_singleton.1 hy]; simpa using h6
      ·rw [zcW hx, ← zrv hok]; exact congrArg (fun b => some (HVal.bool b)) (by cases (za4 (l.take k)).c <;> simp)
      ·exact zS (by dsimp only; rw [zcW hx]; rfl)
   ·try simp at h4
    have hnk : l.length ≤ k := by omega
    obtain rfl : k = l.length := by omega
    rw [zap (Nat.le_refl _)] at hg
    rw [List.take_length]
    refine zU ?_
    refine z6 ?_
    refine zas ?_
    refine zJ ?_
    refine ze ?_
    refine zf ?_
    refine zn ?_
    have e1 : (sk (zbv (za4 l).S)).length = (za4 l).S.length := by simp [sk, zbv]
    have e2 : (sk (em (HVal.int .i64) (za4 l).W)).length = (za4 l).W.length := by simp [sk]
    refine za ?_
    refine dmv rfl ?_
    refine de rfl (zcw (i := 1) zgi rfl rfl ?_)
    refine dq (zaf rfl rfl) ?_
    refine dmv rfl ?_
    refine dg rfl rfl (fun hc => ⟨_, OpenTo.refl _, zd rfl⟩) ?_
    refine dgl rfl rfl (fun hc => ⟨_, OpenTo.upd (t := 69) rfl (by first | exact hc | simp_all) (OpenTo.refl _), zcw (i := 0) zbM rfl rfl ⟨rfl, rfl⟩⟩) ?_
    refine dg rfl rfl (fun hc => ⟨_, OpenTo.upd (t := 70) rfl (by first | exact hc | simp_all) (OpenTo.refl _), zaf rfl rfl⟩) ?_
    refine dq (zv rfl (.inl rfl) (.inr ⟨_, rfl, fun h => by simp_all⟩)) ?_
    refine das rfl ?_
    refine dn ?_
    refine zi rfl (fun h9 => ?_) (fun h10 => ?_)
    ·try simp at h9
     refine za ?_
     refine das rfl ?_
     refine dn ?_
     refine zk ?_
     refine zat Ghost.clear rfl ⟨?_, rfl⟩
     show HVal.int .i64 _ = _
     first
     | (rw [zz, if_pos (by omega)]; done)
     | (rw [zbz (by omega) (by rw [hg, zaG, if_pos (by simpa using h5)]) (by simpa using h5)]; done)
     | (rw [zbz (c := 7) (by omega) (by rw [hg, zaG, if_neg (by simpa using h6), if_pos (by obtain ⟨qa, qb⟩ := h7; have qb' : 0 ≤ byNo (l.getD (k - 1) zdc) x := (by simpa using qb); rw [zch]; exact ⟨by omega, by omega⟩)]) (by decide)]; done)
     | (rw [zay (by omega) hg, zaN, if_pos (by omega)]; done)
     | (rw [zay (by omega) hg, zaN, if_neg (by omega), if_pos (by assumption)]; done)
     | (rw [zay (by omega) hg, zaN, if_neg (by omega), if_neg (by simp_all)]; done)
    ·try simp at h10
     refine za ?_
     refine dmv rfl ?_
     refine das rfl ?_
     refine dn ?_
     refine zi rfl (fun h11 => ?_) (fun h12 => ?_)
     ·try simp at h11
      refine za ?_
      refine das rfl ?_
      refine dn ?_
      refine zk ?_
      refine zat Ghost.clear rfl ⟨?_, rfl⟩
      show HVal.int .i64 _ = _
      first
      | (rw [zz, if_pos (by omega)]; done)
      | (rw [zbz (by omega) (by rw [hg, zaG, if_pos (by simpa using h5)]) (by simpa using h5)]; done)
      | (rw [zbz (c := 7) (by omega) (by rw [hg, zaG, if_neg (by simpa using h6), if_pos (by obtain ⟨qa, qb⟩ := h7; have qb' : 0 ≤ byNo (l.getD (k - 1) zdc) x := (by simpa using qb); rw [zch]; exact ⟨by omega, by omega⟩)]) (by decide)]; done)
      | (rw [zay (by omega) hg, zaN, if_pos (by omega)]; done)
      | (rw [zay (by omega) hg, zaN, if_neg (by omega), if_pos (by assumption)]; done)
      | (rw [zay (by omega) hg, zaN, if_neg (by omega), if_neg (by simp_all)]; done)
     ·try simp at h12
      refine zl ?_
      refine zG ?_
      refine ze ?_
      refine za ?_
      refine das rfl ?_
      refine dn ?_
      refine zk ?_
      refine zat Ghost.clear rfl ⟨?_, rfl⟩
      show HVal.int .i64 _ = _
      first
      | (rw [zz, if_pos (by omega)]; done)
      | (rw [zbz (by omega) (by rw [hg, zaG, if_pos (by simpa using h5)]) (by simpa using h5)]; done)
      | (rw [zbz (c := 7) (by omega) (by rw [hg, zaG, if_neg (by simpa using h6), if_pos (by obtain ⟨qa, qb⟩ := h7; have qb' : 0 ≤ byNo (l.getD (k - 1) zdc) x := (by simpa using qb); rw [zch]; exact ⟨by omega, by omega⟩)]) (by decide)]; done)
      | (rw [zay (by omega) hg, zaN, if_pos (by omega)]; done)
      | (rw [zay (by omega) hg, zaN, if_neg (by omega), if_pos (by assumption)]; done)
      | (rw [zay (by omega) hg, zaN, if_neg (by omega), if_neg (by simp_all)]; done)

set_option maxHeartbeats 4000000 in
/-- benchwarmer/benchref1.PlaysRead$1 -/
theorem zhy [Tracks] {line : Str} {bo : Nat} {v : Value} {ps : List Play}  (hl : line.length ≤ 1000000) (hps : ps.length ≤ 1000000) : Con Tryz.prog 70 [.str line, pAt bo] [.cells bo [.raw v], .arr v 9 (ps.map zR)] (fun x M' => ∃ v' ps', x = .bool (plB line) ∧ M' = [.cells bo [.raw v'], .arr v' 9 (ps'.map zR)] ∧ (plB line = true → ps' = ps ++ [plP line])) := by
 have hct : line.count 32 ≤ line.length := List.count_le_length
 have hsl := zeM 32 line
 refine Con.of_body Tryz.func70 rfl Tryz.ntmps70 rfl rfl ?_
 refine za ?_
 refine das rfl ?_
 refine dn ?_
 refine za ?_
 refine dmv rfl ?_
 refine dq (zj zux rfl (WeakL.refl _) (zfQ (c := 32) (by omega))) ?_
 refine das rfl ?_
 refine dn ?_
 refine zf ?_
 refine za ?_
 refine dmv rfl ?_
 refine dq (zj zuu rfl (WeakL.refl _) (zb9 (l := spl 32 line) (by omega))) ?_
 refine dmv rfl ?_
 refine dg rfl rfl (fun hc => ⟨_, OpenTo.refl _, zd rfl⟩) ?_
 refine dg rfl rfl (fun hc => ⟨_, OpenTo.upd (t := 13) rfl (by first | exact hc | simp_all) (OpenTo.refl _), zL zaj rfl⟩) ?_
 refine dg rfl rfl (fun hc => ⟨_, OpenTo.upd (t := 14) rfl (by first | exact hc | simp_all) (OpenTo.refl _), zai rfl rfl⟩) ?_
 refine dg rfl rfl (fun hc => ⟨_, OpenTo.upd (t := 15) rfl (by first | exact hc | simp_all) (OpenTo.refl _), zd rfl⟩) ?_
 refine dg rfl rfl (fun hc => ⟨_, OpenTo.refl _, zd rfl⟩) ?_
 refine dg rfl rfl (fun hc => ⟨_, OpenTo.upd (t := 17) rfl (by first | exact hc | simp_all) (OpenTo.refl _), zL zaj rfl⟩) ?_
 refine dg rfl rfl (fun hc => ⟨_, OpenTo.upd (t := 18) rfl (by first | exact hc | simp_all) (OpenTo.refl _), zai rfl rfl⟩) ?_
 refine dg rfl rfl (fun hc => ⟨_, OpenTo.upd (t := 16) rfl (by first | exact hc | simp_all) (OpenTo.refl _), zv rfl (.inr ⟨_, rfl, fun h => by simp_all⟩) (.inl rfl)⟩) ?_
 refine dq (zv rfl (.inl rfl) (.inr ⟨_, rfl, fun h => by simp_all⟩)) ?_
 refine dn ?_
 refine zi rfl (fun h1 => ?_) (fun h2 => ?_)
 ·try simp at h1
  refine za ?_
  refine das rfl ?_
  refine dn ?_
  refine zk ?_
  first
  | exact zaO rfl ⟨v, ps, by rw [zhP h1]; rfl, rfl, fun h => by rw [zhP h1] at h; cases h⟩
  | exact zaO rfl ⟨v, ps, by rw [zgv hw3 hns h3]; rfl, rfl, fun h => by rw [zgv hw3 hns h3] at h; cases h⟩
  | (have h9 := (zi5 hns hk1 (zkV hns hk1 h5)).1
     refine zat Ghost.drop rfl ⟨v81, ps ++ [⟨(spl 32 line).getD 0 [], zT ((spl 32 line).getD 1 []) 15, zT ((spl 32 line).getD 2 []) 15, zT ((spl 32 line).getD 3 []) 15, (spl 32 line).getD 4 [], (spl 32 line).getD 5 [], (spl 32 line).getD 6 [], zT ((spl 32 line).getD 7 []) 15, zT ((spl 32 line).getD 8 []) 15⟩], ?_, by simp [zO, zh], fun _ => by rw [zhQ h9]⟩
     rw [zhB hk3 h9, decide_eq_true (zo7 hns hk1 h5 hk2)]
     rfl)
  | (have h8 := zo4 hns ⟨hw4, hw5⟩ h6
     refine zat Ghost.drop rfl ⟨v81, ps ++ [⟨(spl 32 line).getD 0 [], zT ((spl 32 line).getD 1 []) 15, zT ((spl 32 line).getD 2 []) 15, zT ((spl 32 line).getD 3 []) 15, (spl 32 line).getD 4 [], (spl 32 line).getD 5 [], (spl 32 line).getD 6 [], zT ((spl 32 line).getD 7 []) 15, 0⟩], ?_, by simp [zO, zh], fun _ => by rw [zhI (by rw [List.length_map]; exact h8) hns]⟩
     rw [zhZ hk3 (by rw [List.length_map]; omega) hns]
     rfl)
 ·try simp at h2
  refine zl ?_
  refine ze ?_
  obtain ⟨hw3, hw4, hw5⟩ := zxa h2
  have hns := zvb ⟨hw4, hw5⟩
  refine zaM (fun _ => True) [] mixed ?_
  refine ahp 1 rfl rfl (by kernel_rfl) (by kernel_rfl) (zd rfl) ?_
  refine ahp 2 rfl rfl (by kernel_rfl) (by kernel_rfl) (zeN (l := 1) (h := 4) zaj ty9 rfl ⟨_, _, rfl, rfl⟩ ⟨_, _, rfl, rfl⟩ (by omega) (by omega)) ?_
  refine ahp 4 rfl rfl (by kernel_rfl) (by kernel_rfl) (zd rfl) ?_
  refine ahp 5 rfl rfl (by kernel_rfl) (by kernel_rfl) (ziI (zeN (l := 7) (h := (spl 32 line).length) zaj ty9 rfl ⟨_, _, rfl, rfl⟩ rfl (by omega) (Nat.le_refl _)) (by rw [List.take_length])) ?_
  refine ahe 0 rfl (by kernel_rfl) ?_
  refine zau rfl (ziv zaj ty9 fun v23 => ?_)
  refine ⟨fun _ => .inl trivial, ?_⟩
  refine ahe 3 rfl (by kernel_rfl) ?_
  refine zau rfl (zan (i := 0) zaj ty9 rfl rfl rfl rfl rfl (fun y hy => by obtain ⟨s, _, rfl⟩ := List.mem_map.1 hy; rfl) (by have h9 := @zkN line; unfold plN at h9; simp only [List.length_nil, List.length_map]; omega) fun v26 => ?_)
  refine ⟨fun _ => .inl trivial, ?_⟩
  refine ahe 6 rfl (by kernel_rfl) ?_
  refine zau rfl (zan (i := 0) zaj ty9 rfl rfl rfl rfl rfl (fun y hy => by obtain ⟨s, _, rfl⟩ := List.mem_map.1 hy; rfl) (by have h9 := @zkN line; have h8 := znF hw5; unfold plN at h9; unfold plD at h8; simp only [List.length_append, List.length_nil, List.length_map]; omega) fun v29 => ?_)
  refine ⟨fun _ => .inl trivial, ?_⟩
  refine ahe 7 rfl (by kernel_rfl) ?_
  refine zau rfl (zo (i := 0) ca72 rfl (WeakL.refl _) rfl (zwp (es := ([] ++ (plN line).map HVal.str) ++ (plD line).map HVal.str) (by
   have h := zlU (w := zcO line) (m := 15) (by have := zt2 hw5; omega) (fun s hs => Nat.le_trans (zvL s hs) hl) (by omega)
   rw [(zop (zcO line) 15).1, (zop (zcO line) 15).2, show eSs (zcO line) = .slice 1 (([] ++ (plN line).map HVal.str) ++ (plD line).map HVal.str) by simp [zcO]] at h
   exact h)) ?_)
  rintro _ _ ⟨rfl, rfl⟩
  refine ⟨fun _ => .inl trivial, ?_⟩
  refine ahp 8 rfl rfl (by kernel_rfl) (by kernel_rfl) (zd rfl) ?_
  refine ahp 9 rfl rfl (by kernel_rfl) (by kernel_rfl) (zx rfl rfl) ?_
  refine ahp 10 rfl rfl (by kernel_rfl) (by kernel_rfl) (zx rfl rfl) ?_
  refine ahp 11 rfl rfl (by kernel_rfl) (by kernel_rfl) (zaA rfl) ?_
  refine ahp 12 rfl rfl (by kernel_rfl) (by kernel_rfl) (zaA rfl) ?_
  refine ahz (by kernel_rfl) ?_
  refine zf ?_
  refine za ?_
  refine dmv rfl ?_
  refine dq (zaa rfl) ?_
  refine dmv rfl ?_
  refine dg rfl rfl (fun hc => ⟨_, OpenTo.refl _, zd rfl⟩) ?_
  refine dg rfl rfl (fun hc => ⟨_, OpenTo.upd (t := 36) rfl (by first | exact hc | simp_all) (OpenTo.refl _), zL zaq rfl⟩) ?_
  refine dg rfl rfl (fun hc => ⟨_, OpenTo.upd (t := 37) rfl (by first | exact hc | simp_all) (OpenTo.refl _), zaJ rfl rfl⟩) ?_
  refine dg rfl rfl (fun hc => ⟨_, OpenTo.upd (t := 38) rfl (by first | exact hc | simp_all) (OpenTo.refl _), zd rfl⟩) ?_
  refine dg rfl rfl (fun hc => ⟨_, OpenTo.refl _, zd rfl⟩) ?_
  refine dg rfl rfl (fun hc => by
   have h9 := hc
   simp at h9
   exact ⟨_, OpenTo.upd (t := 40) rfl (by first | exact hc | simp_all) (OpenTo.refl _), zP (j := 4) (a := zT ((spl 32 line).getD 8 []) 15) zaq ty3 rfl rfl rfl (zi5 hns h9.1 h9.2).2⟩) ?_
  refine dg rfl rfl (fun hc => ⟨_, OpenTo.upd (t := 41) rfl (by first | exact hc | simp_all) (OpenTo.refl _), zc ty3 rfl rfl rfl⟩) ?_
  refine dg rfl rfl (fun hc => ⟨_, OpenTo.upd (t := 42) rfl (by first | exact hc | simp_all) (OpenTo.refl _), zW rfl rfl⟩) ?_
  refine dg rfl rfl (fun hc => ⟨_, OpenTo.upd (t := 39) rfl (by first | exact hc | simp_all) (OpenTo.refl _), zv rfl (.inr ⟨_, rfl, fun h => by simp_all⟩) (.inl rfl)⟩) ?_
  refine dq (zv rfl (.inl rfl) (.inr ⟨_, rfl, fun h => by simp_all⟩)) ?_
  refine dn ?_
  refine zi rfl (fun h3 => ?_) (fun h4 => ?_)
  ·try simp at h3
   refine za ?_
   refine das rfl ?_
   refine dn ?_
   refine zk ?_
   first
   | exact zaO rfl ⟨v, ps, by rw [zhP h1]; rfl, rfl, fun h => by rw [zhP h1] at h; cases h⟩
   | exact zaO rfl ⟨v, ps, by rw [zgv hw3 hns h3]; rfl, rfl, fun h => by rw [zgv hw3 hns h3] at h; cases h⟩
   | (have h9 := (zi5 hns hk1 (zkV hns hk1 h5)).1
      refine zat Ghost.drop rfl ⟨v81, ps ++ [⟨(spl 32 line).getD 0 [], zT ((spl 32 line).getD 1 []) 15, zT ((spl 32 line).getD 2 []) 15, zT ((spl 32 line).getD 3 []) 15, (spl 32 line).getD 4 [], (spl 32 line).getD 5 [], (spl 32 line).getD 6 [], zT ((spl 32 line).getD 7 []) 15, zT ((spl 32 line).getD 8 []) 15⟩], ?_, by simp [zO, zh], fun _ => by rw [zhQ h9]⟩
      rw [zhB hk3 h9, decide_eq_true (zo7 hns hk1 h5 hk2)]
      rfl)
   | (have h8 := zo4 hns ⟨hw4, hw5⟩ h6
      refine zat Ghost.drop rfl ⟨v81, ps ++ [⟨(spl 32 line).getD 0 [], zT ((spl 32 line).getD 1 []) 15, zT ((spl 32 line).getD 2 []) 15, zT ((spl 32 line).getD 3 []) 15, (spl 32 line).getD 4 [], (spl 32 line).getD 5 [], (spl 32 line).getD 6 [], zT ((spl 32 line).getD 7 []) 15, 0⟩], ?_, by simp [zO, zh], fun _ => by rw [zhI (by rw [List.length_map]; exact h8) hns]⟩
      rw [zhZ hk3 (by rw [List.length_map]; omega) hns]
      rfl)
  ·try simp at h4
   refine zl ?_
   refine ze ?_
   obtain ⟨hk1, hk2⟩ := h4
   have hk3 := zwL hw3 hk1
   have hkn := zl5 hns hk1
   simp only [hkn]
   refine zaM (fun _ => True) [] mixed ?_
   refine ahp 0 rfl rfl (by kernel_rfl) (by kernel_rfl) (zd rfl) ?_
   refine ahp 1 rfl rfl (by kernel_rfl) (by kernel_rfl) (zP (j := 0) (a := (spl 32 line).getD 0 []) zaj ty9 rfl rfl (by omega) (getD_some (by omega))) ?_
   refine ahp 2 rfl rfl (by kernel_rfl) (by kernel_rfl) (zc ty9 rfl rfl rfl) ?_
   refine ahp 3 rfl rfl (by kernel_rfl) (by kernel_rfl) (zd rfl) ?_
   refine ahp 4 rfl rfl (by kernel_rfl) (by kernel_rfl) (zP (j := 0) (a := zT ((spl 32 line).getD 1 []) 15) zaq ty3 rfl rfl rfl rfl) ?_
   refine ahp 5 rfl rfl (by kernel_rfl) (by kernel_rfl) (zc ty3 rfl rfl rfl) ?_
   refine ahp 6 rfl rfl (by kernel_rfl) (by kernel_rfl) (zd rfl) ?_
   refine ahp 7 rfl rfl (by kernel_rfl) (by kernel_rfl) (zP (j := 1) (a := zT ((spl 32 line).getD 2 []) 15) zaq ty3 rfl rfl rfl rfl) ?_
   refine ahp 8 rfl rfl (by kernel_rfl) (by kernel_rfl) (zc ty3 rfl rfl rfl) ?_
   refine ahp 9 rfl rfl (by kernel_rfl) (by kernel_rfl) (zd rfl) ?_
   refine ahp 10 rfl rfl (by kernel_rfl) (by kernel_rfl) (zP (j := 2) (a := zT ((spl 32 line).getD 3 []) 15) zaq ty3 rfl rfl rfl rfl) ?_
   refine ahp 11 rfl rfl (by kernel_rfl) (by kernel_rfl) (zc ty3 rfl rfl rfl) ?_
   refine ahp 12 rfl rfl (by kernel_rfl) (by kernel_rfl) (zd rfl) ?_
   refine ahp 13 rfl rfl (by kernel_rfl) (by kernel_rfl) (zP (j := 4) (a := (spl 32 line).getD 4 []) zaj ty9 rfl rfl (by omega) (getD_some (by omega))) ?_
   refine ahp 14 rfl rfl (by kernel_rfl) (by kernel_rfl) (zc ty9 rfl rfl rfl) ?_
   refine ahp 15 rfl rfl (by kernel_rfl) (by kernel_rfl) (zd rfl) ?_
   refine ahp 16 rfl rfl (by kernel_rfl) (by kernel_rfl) (zP (j := 5) (a := (spl 32 line).getD 5 []) zaj ty9 rfl rfl (by omega) (getD_some (by omega))) ?_
   refine ahp 17 rfl rfl (by kernel_rfl) (by kernel_rfl) (zc ty9 rfl rfl rfl) ?_
   refine ahp 18 rfl rfl (by kernel_rfl) (by kernel_rfl) (zd rfl) ?_
   refine ahp 19 rfl rfl (by kernel_rfl) (by kernel_rfl) (zP (j := 6) (a := (spl 32 line).getD 6 []) zaj ty9 rfl rfl (by omega) (getD_some (by omega))) ?_
   refine ahp 20 rfl rfl (by kernel_rfl) (by kernel_rfl) (zc ty9 rfl rfl rfl) ?_
   refine ahp 21 rfl rfl (by kernel_rfl) (by kernel_rfl) (zd rfl) ?_
   refine ahp 22 rfl rfl (by kernel_rfl) (by kernel_rfl) (zP (j := 3) (a := zT ((spl 32 line).getD 7 []) 15) zaq ty3 rfl rfl rfl hns.m0) ?_
   refine ahp 23 rfl rfl (by kernel_rfl) (by kernel_rfl) (zc ty3 rfl rfl rfl) ?_
   refine ahp 24 rfl rfl (by kernel_rfl) (by kernel_rfl) (zaw (cs := [_, _, _, _, _, _, _, _, _]) zm zi4 rfl) ?_
   refine ahe 25 rfl (by kernel_rfl) ?_
   refine zau rfl (z8 zm rfl fun b7 => ?_)
   refine ⟨fun _ => .inl trivial, ?_⟩
   refine ahe 26 rfl (by kernel_rfl) ?_
   first
   | refine zaL (z7 (i := 0) zm rfl rfl rfl rfl rfl (Nat.le_of_ble_eq_true rfl) ?_)
   | refine zaL (z7 (i := 1) zm rfl rfl rfl rfl rfl (Nat.le_of_ble_eq_true rfl) ?_)
   | refine zaL (z7 (i := 2) zm rfl rfl rfl rfl rfl (Nat.le_of_ble_eq_true rfl) ?_)
   | refine zaL (z7 (i := 3) zm rfl rfl rfl rfl rfl (Nat.le_of_ble_eq_true rfl) ?_)
   refine ⟨fun _ => .inl trivial, ?_⟩
   refine ahz (by kernel_rfl) ?_
   refine zf ?_
   refine za ?_
   refine dmv rfl ?_
   refine dq (zL zaq rfl) ?_
   refine dq (zaJ rfl rfl) ?_
   refine dn ?_
   refine zi rfl (fun h5 => ?_) (fun h6 => ?_)
   ·try simp at h5
    refine zB ?_
    refine dmv rfl ?_
    refine dq (zP (j := 4) (a := zT ((spl 32 line).getD 8 []) 15) zaq ty3 rfl rfl rfl (by rw [← hkn]; exact (zi5 hns hk1 (zkV hns hk1 h5)).2)) ?_
    refine dq (zc ty3 rfl rfl rfl) ?_
    refine dq (zg zm rfl ty3 (by decide) rfl) ?_
    first
    | refine de0 (z7 (i := 0) ty3 rfl rfl rfl rfl rfl (Nat.le_of_ble_eq_true rfl) ?_)
    | refine de0 (z7 (i := 1) ty3 rfl rfl rfl rfl rfl (Nat.le_of_ble_eq_true rfl) ?_)
    | refine de0 (z7 (i := 2) ty3 rfl rfl rfl rfl rfl (Nat.le_of_ble_eq_true rfl) ?_)
    | refine de0 (z7 (i := 3) ty3 rfl rfl rfl rfl rfl (Nat.le_of_ble_eq_true rfl) ?_)
    refine dn ?_
    refine ze ?_
    refine za ?_
    refine de rfl (zbr (i := 1) zaC rfl rfl (.inl ⟨rfl, rfl⟩) ?_)
    first
    | refine de rfl (zdJ (h := .agg [.str ((spl 32 line).getD 0 []), .int .i64 (zT ((spl 32 line).getD 1 []) 15), .int .i64 (zT ((spl 32 line).getD 2 []) 15), .int .i64 (zT ((spl 32 line).getD 3 []) 15), .str ((spl 32 line).getD 4 []), .str ((spl 32 line).getD 5 []), .str ((spl 32 line).getD 6 []), .int .i64 (zT ((spl 32 line).getD 7 []) 15), .int .i64 (zT ((spl 32 line).getD 8 []) 15)]) (i := 0) zm rfl rfl rfl rfl rfl ?_)
    | refine de rfl (zdJ (h := .agg [.str ((spl 32 line).getD 0 []), .int .i64 (zT ((spl 32 line).getD 1 []) 15), .int .i64 (zT ((spl 32 line).getD 2 []) 15), .int .i64 (zT ((spl 32 line).getD 3 []) 15), .str ((spl 32 line).getD 4 []), .str ((spl 32 line).getD 5 []), .str ((spl 32 line).getD 6 []), .int .i64 (zT ((spl 32 line).getD 7 []) 15), .int .i64 0]) (i := 0) zm rfl rfl rfl rfl rfl ?_)
    refine dq (zw (hs := [_]) zaC zm rfl rfl (by decide) (by decide) rfl) ?_
    refine de rfl (zan (i := 2) zaC zm rfl rfl rfl rfl rfl (by simp [za5, zh]) (by simp; omega) fun v81 => ?_)
    refine de0 (z7 (i := 1) zaC rfl rfl rfl rfl rfl (by simp) ?_)
    refine dn ?_
    refine za ?_
    refine das rfl ?_
    refine dn ?_
    refine zk ?_
    first
    | exact zaO rfl ⟨v, ps, by rw [zhP h1]; rfl, rfl, fun h => by rw [zhP h1] at h; cases h⟩
    | exact zaO rfl ⟨v, ps, by rw [zgv hw3 hns h3]; rfl, rfl, fun h => by rw [zgv hw3 hns h3] at h; cases h⟩
    | (have h9 := (zi5 hns hk1 (zkV hns hk1 h5)).1
       refine zat Ghost.drop rfl ⟨v81, ps ++ [⟨(spl 32 line).getD 0 [], zT ((spl 32 line).getD 1 []) 15, zT ((spl 32 line).getD 2 []) 15, zT ((spl 32 line).getD 3 []) 15, (spl 32 line).getD 4 [], (spl 32 line).getD 5 [], (spl 32 line).getD 6 [], zT ((spl 32 line).getD 7 []) 15, zT ((spl 32 line).getD 8 []) 15⟩], ?_, by simp [zO, zh], fun _ => by rw [zhQ h9]⟩
       rw [zhB hk3 h9, decide_eq_true (zo7 hns hk1 h5 hk2)]
       rfl)
    | (have h8 := zo4 hns ⟨hw4, hw5⟩ h6
       refine zat Ghost.drop rfl ⟨v81, ps ++ [⟨(spl 32 line).getD 0 [], zT ((spl 32 line).getD 1 []) 15, zT ((spl 32 line).getD 2 []) 15, zT ((spl 32 line).getD 3 []) 15, (spl 32 line).getD 4 [], (spl 32 line).getD 5 [], (spl 32 line).getD 6 [], zT ((spl 32 line).getD 7 []) 15, 0⟩], ?_, by simp [zO, zh], fun _ => by rw [zhI (by rw [List.length_map]; exact h8) hns]⟩
       rw [zhZ hk3 (by rw [List.length_map]; omega) hns]
       rfl)
   ·try simp at h6
    refine zl ?_
    refine ze ?_
    refine za ?_
    refine de rfl (zbr (i := 1) zaC rfl rfl (.inl ⟨rfl, rfl⟩) ?_)
    first
    | refine de rfl (zdJ (h := .agg [.str ((spl 32 line).getD 0 []), .int .i64 (zT ((spl 32 line).getD 1 []) 15), .int .i64 (zT ((spl 32 line).getD 2 []) 15), .int .i64 (zT ((spl 32 line).getD 3 []) 15), .str ((spl 32 line).getD 4 []), .str ((spl 32 line).getD 5 []), .str ((spl 32 line).getD 6 []), .int .i64 (zT ((spl 32 line).getD 7 []) 15), .int .i64 (zT ((spl 32 line).getD 8 []) 15)]) (i := 0) zm rfl rfl rfl rfl rfl ?_)
    | refine de rfl (zdJ (h := .agg [.str ((spl 32 line).getD 0 []), .int .i64 (zT ((spl 32 line).getD 1 []) 15), .int .i64 (zT ((spl 32 line).getD 2 []) 15), .int .i64 (zT ((spl 32 line).getD 3 []) 15), .str ((spl 32 line).getD 4 []), .str ((spl 32 line).getD 5 []), .str ((spl 32 line).getD 6 []), .int .i64 (zT ((spl 32 line).getD 7 []) 15), .int .i64 0]) (i := 0) zm rfl rfl rfl rfl rfl ?_)
    refine dq (zw (hs := [_]) zaC zm rfl rfl (by decide) (by decide) rfl) ?_
    refine de rfl (zan (i := 2) zaC zm rfl rfl rfl rfl rfl (by simp [za5, zh]) (by simp; omega) fun v81 => ?_)
    refine de0 (z7 (i := 1) zaC rfl rfl rfl rfl rfl (by simp) ?_)
    refine dn ?_
    refine za ?_
    refine das rfl ?_
    refine dn ?_
    refine zk ?_
    first
    | exact zaO rfl ⟨v, ps, by rw [zhP h1]; rfl, rfl, fun h => by rw [zhP h1] at h; cases h⟩
    | exact zaO rfl ⟨v, ps, by rw [zgv hw3 hns h3]; rfl, rfl, fun h => by rw [zgv hw3 hns h3] at h; cases h⟩
    | (have h9 := (zi5 hns hk1 (zkV hns hk1 h5)).1
       refine zat Ghost.drop rfl ⟨v81, ps ++ [⟨(spl 32 line).getD 0 [], zT ((spl 32 line).getD 1 []) 15, zT ((spl 32 line).getD 2 []) 15, zT ((spl 32 line).getD 3 []) 15, (spl 32 line).getD 4 [], (spl 32 line).getD 5 [], (spl 32 line).getD 6 [], zT ((spl 32 line).getD 7 []) 15, zT ((spl 32 line).getD 8 []) 15⟩], ?_, by simp [zO, zh], fun _ => by rw [zhQ h9]⟩
       rw [zhB hk3 h9, decide_eq_true (zo7 hns hk1 h5 hk2)]
       rfl)
    | (have h8 := zo4 hns ⟨hw4, hw5⟩ h6
       refine zat Ghost.drop rfl ⟨v81, ps ++ [⟨(spl 32 line).getD 0 [], zT ((spl 32 line).getD 1 []) 15, zT ((spl 32 line).getD 2 []) 15, zT ((spl 32 line).getD 3 []) 15, (spl 32 line).getD 4 [], (spl 32 line).getD 5 [], (spl 32 line).getD 6 [], zT ((spl 32 line).getD 7 []) 15, 0⟩], ?_, by simp [zO, zh], fun _ => by rw [zhI (by rw [List.length_map]; exact h8) hns]⟩
       rw [zhZ hk3 (by rw [List.length_map]; omega) hns]
       rfl)

theorem zoO [Tracks] {bo : Nat} : ∀ (done : List Str) (s : Str) (st : Value × List Play), done.length ≤ 1000000 → s.length ≤ 1000000 → st.2 = done.map plP → Con Tryz.prog 70 ([.str s] ++ [pAt bo]) (STx zR 9 bo st) fun x M' => ∃ st', x = .bool (plB s) ∧ M' = STx zR 9 bo st' ∧ (plB s = true → st'.2 = (done ++ [s]).map plP) :=
 fun done s st h1 h2 h3 => (zhy h2 (by rw [h3, List.length_map]; exact h1)).mono fun x M' ⟨v', ps', hx, hM, hp⟩ => ⟨(v', ps'), hx, hM, fun h => by rw [hp h, h3]; simp⟩

/-- benchwarmer/benchref1.PlaysRead -/
theorem ziS [Tracks] {text : Str} (ht : text.length ≤ 1000000) : ConP Tryz.prog 27 [.str text] (.tup [.slice 9 ((txP plB plP zz text).map zR), .int .i64 (txI plB text), .int .i64 (txE plB plP zz text)]) := by
 have hpl := zno plP text
 refine Con.of_body Tryz.func27 rfl Tryz.ntmps27 rfl rfl ?_
 refine za ?_
 refine das rfl ?_
 refine das rfl ?_
 refine das rfl ?_
 refine dn ?_
 refine zf ?_
 refine za ?_
 refine dmv rfl ?_
 refine dq (zbk ty9 rfl) ?_
 refine dq (zaf rfl rfl) ?_
 refine dn ?_
 refine zi rfl (fun h1 => ?_) (fun h2 => ?_)
 ·try simp at h1
  refine za ?_
  refine das rfl ?_
  refine das rfl ?_
  refine das rfl ?_
  refine dn ?_
  refine zk ?_
  first
  | exact zav rfl (zbB plB plP zz zR 9 (zeT plB plP zz h1).1 (by decide) (zeT plB plP zz h1).2)
  | exact zd3 Ghost.clear rfl (zbB plB plP zz zR 9 (zeU plB plP zz (by omega) h3).1 (by decide) (zeU plB plP zz (by omega) h3).2) ⟨rfl, rfl⟩
  | exact zav rfl (zbB plB plP zz zR 9 (zbY plB plP zz (by omega) h4).1 h5 (zbY plB plP zz (by omega) h4).2)
  | exact zF rfl (zkq plB plP zz zR 9 ((zbY plB plP zz (by omega) h4).1.trans h6) (zbY plB plP zz (by omega) h4).2)
 ·try simp at h2
  refine zl ?_
  refine ze ?_
  refine za ?_
  refine de rfl (z8 zaC rfl fun b5 => ?_)
  refine dn ?_
  refine zH (Ghost.arr_nil 9) ?_
  refine za ?_
  refine dmv rfl ?_
  refine dq (zcF rfl rfl) ?_
  refine de rfl (za0 (M1 := STx zR 9 b5 (.slice none 0 0, [])) (R := []) ca69 rfl (WeakL.refl _) (List.Perm.swap _ _ _) (zk4 (S := STx zR 9 b5) (Inv := fun done st => st.2 = done.map plP) (ok := plB) (caps := [pAt b5]) (st0 := (.slice none 0 0, [])) ca70 zoO rfl ht) ?_)
  rintro _ _ ⟨st2, rfl, rfl, hst2⟩
  refine dmv rfl ?_
  refine dq (zx rfl rfl) ?_
  refine dq (zx rfl rfl) ?_
  refine das rfl ?_
  refine das rfl ?_
  refine dn ?_
  refine zf ?_
  refine za ?_
  refine dmv rfl ?_
  refine dq (zaa rfl) ?_
  refine dn ?_
  refine zi rfl (fun h3 => ?_) (fun h4 => ?_)
  ·try simp at h3
   refine za ?_
   refine dmv rfl ?_
   refine das rfl ?_
   refine das rfl ?_
   refine das rfl ?_
   refine dn ?_
   refine zk ?_
   first
   | exact zav rfl (zbB plB plP zz zR 9 (zeT plB plP zz h1).1 (by decide) (zeT plB plP zz h1).2)
   | exact zd3 Ghost.clear rfl (zbB plB plP zz zR 9 (zeU plB plP zz (by omega) h3).1 (by decide) (zeU plB plP zz (by omega) h3).2) ⟨rfl, rfl⟩
   | exact zav rfl (zbB plB plP zz zR 9 (zbY plB plP zz (by omega) h4).1 h5 (zbY plB plP zz (by omega) h4).2)
   | exact zF rfl (zkq plB plP zz zR 9 ((zbY plB plP zz (by omega) h4).1.trans h6) (zbY plB plP zz (by omega) h4).2)
  ·try simp at h4
   refine zl ?_
   refine ze ?_
   refine zf ?_
   obtain ⟨v2, ps2⟩ := st2
   obtain rfl : ps2 = txL plP text := hst2 h4
   refine zH (Ghost.of_eq (M' := [.cells b5 [.raw v2], .arr v2 9 ((txL plP text).map zR)]) rfl) ?_
   refine zH (Ghost.fcell (i := 1) (k := 0) (j := 0) rfl rfl rfl) ?_
   refine zH (Ghost.of_eq (M' := [.cells b5 [zbD (txL plP text)]]) rfl) ?_
   refine zH (Ghost.fc 5 (i := 0) rfl rfl) ?_
   refine za ?_
   refine dq (zc zaC rfl rfl rfl) ?_
   refine dq (zj zuq rfl (WeakL.refl _) (zeu (l := txL plP text) (by omega))) ?_
   refine das rfl ?_
   refine dn ?_
   refine za ?_
   refine dmv rfl ?_
   refine dq (zai rfl rfl) ?_
   refine dn ?_
   refine zi rfl (fun h5 => ?_) (fun h6 => ?_)
   ·try simp at h5
    refine za ?_
    refine dmv rfl ?_
    refine das rfl ?_
    refine das rfl ?_
    refine das rfl ?_
    refine dn ?_
    refine zk ?_
    first
    | exact zav rfl (zbB plB plP zz zR 9 (zeT plB plP zz h1).1 (by decide) (zeT plB plP zz h1).2)
    | exact zd3 Ghost.clear rfl (zbB plB plP zz zR 9 (zeU plB plP zz (by omega) h3).1 (by decide) (zeU plB plP zz (by omega) h3).2) ⟨rfl, rfl⟩
    | exact zav rfl (zbB plB plP zz zR 9 (zbY plB plP zz (by omega) h4).1 h5 (zbY plB plP zz (by omega) h4).2)
    | exact zF rfl (zkq plB plP zz zR 9 ((zbY plB plP zz (by omega) h4).1.trans h6) (zbY plB plP zz (by omega) h4).2)
   ·try simp at h6
    refine zl ?_
    refine ze ?_
    refine za ?_
    refine dq (zc zaC rfl rfl rfl) ?_
    refine das rfl ?_
    refine das rfl ?_
    refine das rfl ?_
    refine dn ?_
    refine zk ?_
    first
    | exact zav rfl (zbB plB plP zz zR 9 (zeT plB plP zz h1).1 (by decide) (zeT plB plP zz h1).2)
    | exact zd3 Ghost.clear rfl (zbB plB plP zz zR 9 (zeU plB plP zz (by omega) h3).1 (by decide) (zeU plB plP zz (by omega) h3).2) ⟨rfl, rfl⟩
    | exact zav rfl (zbB plB plP zz zR 9 (zbY plB plP zz (by omega) h4).1 h5 (zbY plB plP zz (by omega) h4).2)
    | exact zF rfl (zkq plB plP zz zR 9 ((zbY plB plP zz (by omega) h4).1.trans h6) (zbY plB plP zz (by omega) h4).2)
end
section
open Go.HL
/-- slices.DeleteFunc[[]benchwarmer/api.Mend,benchwarmer/api.Mend] -/
theorem zel [Tracks] {l : List MendS} {fid : FuncId} {caps : List HVal} {p : MendS → Bool} {v : Value} (hca : Callable Tryz.prog fid) (hp : ∀ x, ConP Tryz.prog fid ([zbi x] ++ caps) (.bool (p x))) (hl : l.length ≤ 1000000) : Con Tryz.prog 64 [.raw v, .fn (.func fid) [] caps] [.arr v 7 (l.map zbi)] (fun x M' => ∃ u, x = .raw u ∧ M' = [.arr u 7 ((l.filter (fun x => !p x)).map zbi)]) := by
 refine Con.of_body Tryz.func64 rfl Tryz.ntmps64 rfl rfl ?_
 refine za ?_
 refine das rfl ?_
 refine dn ?_
 refine za ?_
 refine dmv rfl ?_
 refine dmv rfl ?_
 refine de rfl (zgn (hs' := [.slice 7 (l.map zbi), .fn (.func fid) [] caps]) zxq rfl ⟨.arr (i := 0) rfl, .weak (Weak.refl _), trivial⟩ (zew (p := p) hca hp hl) rfl ?_)
 refine das rfl ?_
 refine dn ?_
 refine zf ?_
 refine za ?_
 refine dmv rfl ?_
 refine dq (zaJ rfl rfl) ?_
 refine dn ?_
 refine zi rfl (fun h1 => ?_) (fun h2 => ?_)
 ·try simp at h1
  refine za ?_
  refine dmv rfl ?_
  refine das rfl ?_
  refine dn ?_
  refine zk ?_
  first
  | (refine zaO rfl ⟨_, rfl, ?_⟩
     rw [zgy p l 0 (by omega) h1]
     done)
  | (refine zaO rfl ⟨_, rfl, ?_⟩
     rw [List.take_length, ← List.map_take, hend]; rfl)
 ·try simp at h2
  refine zl ?_
  refine ze ?_
  refine zf ?_
  obtain ⟨i0, hi0, hil, ⟨x0, hx0, hp0⟩, hb0⟩ := zgS p l 0 (by omega) h2
  rw [Int.zero_add] at hi0
  obtain ⟨hD0, hn0⟩ := DelInv.start (p := p) hil hx0 hp0 hb0
  refine zfu (i := 0) rfl (fun h0 he => ?_) (fun b off cap hv hcap => ?_)
  ·exfalso; have := congrArg List.length he; simp at this; subst this; simp at hil
  rw [List.length_map] at hv hcap
  subst hv
  refine za ?_
  refine dmv rfl ?_
  refine dq (ziI (zC rfl rfl (by rw [hi0]; omega) (by rw [hi0]; omega)) (congrArg _ (by rw [hi0]))) ?_
  refine das rfl ?_
  refine dn ?_
  refine zn ?_
  refine zaI [5, 6, 7, 16, 17, 18, 19, 20, 21, 22, 23, 24, 25, 26, 27, 28, 29, 30, 31, 32, 33, 34, 35] (fun (j : Nat) (D : List MendS) => [(6, .int .i64 (j : Int)), (5, .int .i64 (((l.take j).filter (fun x => !p x)).length : Int))]) (fun (j : Nat) (D : List MendS) => [.arr (.slice (some ⟨b, off, none⟩) l.length cap) 7 (D.map zbi)]) (fun (j : Nat) (D : List MendS) => DelInv p l j D) (fun (j : Nat) (D : List MendS) => l.length - j) (i0 + 1) (l) ?_ ?_ ?_ ?_
  ·exact hD0
  ·exact ⟨rfl, zbp (by rw [hn0, hi0]), trivial⟩
  ·exact List.Perm.refl _
  ·intro j D hD
   have hlt0 := hD.lt
   have hle0 := hD.len
   refine zf ?_
   refine za ?_
   refine dmv rfl ?_
   refine dmv rfl ?_
   first
   | refine de rfl (zbj (i := 0) za2 rfl rfl ?_)
   | refine de rfl (zbj (i := 1) za2 rfl rfl ?_)
   | refine de rfl (zbj (i := 2) za2 rfl rfl ?_)
   | refine de rfl (zbj (i := 3) za2 rfl rfl ?_)
   refine dq (zW rfl rfl) ?_
   refine dn ?_
   refine zi rfl (fun h3 => ?_) (fun h4 => ?_)
   ·try simp at h3
    obtain ⟨x, hx⟩ : ∃ x, l[j]? = some x := ⟨_, List.getElem?_eq_getElem (by omega)⟩
    refine zl ?_
    refine ze ?_
    refine zf ?_
    refine zn ?_
    refine za ?_
    refine dmv rfl ?_
    refine dmv rfl ?_
    refine dq (zbL (j := j) za2 zQ rfl rfl rfl (by omega)) ?_
    refine de rfl (zg5 (i := 0) (j := j) zQ rfl rfl rfl (hD.get hx) rfl rfl rfl ?_)
    refine de rfl (z8 zQ rfl fun b7 => ?_)
    refine de0 (zae zQ rfl rfl rfl rfl rfl ?_)
    refine dn ?_
    refine zH (Ghost.fc0 7 rfl) ?_
    refine za ?_
    refine dmv rfl ?_
    refine dq (zN zQ rfl rfl rfl rfl) ?_
    refine dq (zb4 hca rfl rfl (WeakL.refl _) (hp _)) ?_
    refine dq (zaa rfl) ?_
    refine dn ?_
    refine zi rfl (fun h5 => ?_) (fun h6 => ?_)
    ·try simp at h5
     refine za ?_
     refine dmv rfl ?_
     refine dmv rfl ?_
     refine dq (zN zQ rfl rfl rfl rfl) ?_
     refine dq (zbL (j := ((l.take j).filter (fun x => !p x)).length) za2 zQ rfl rfl rfl (by have := hD.lt; omega)) ?_
     refine de0 (ze2 (i := 0) (j := ((l.take j).filter (fun x => !p x)).length) (y := D[((l.take j).filter (fun x => !p x)).length]'(by have := hD.lt; have := hD.len; omega)) (y' := x) zQ rfl rfl rfl rfl (List.getElem?_eq_getElem _) rfl rfl rfl ?_)
     refine dn ?_
     refine zB ?_
     refine dmv rfl ?_
     refine dq (zC rfl rfl (by omega) (by have := hD.lt; omega)) ?_
     refine das rfl ?_
     refine dn ?_
     refine zG ?_
     refine ze ?_
     refine zB ?_
     refine dmv rfl ?_
     refine dq (zC rfl rfl (by omega) (by omega)) ?_
     refine das rfl ?_
     refine dn ?_
     first
     | exact ⟨j + 1, _, (hD.keep hx (by simp_all)).1, by dsimp only; omega, ⟨rfl, zbp (by rw [(hD.keep hx (by simp_all)).2]; rfl), trivial⟩, (by repeat (first | exact zp | refine zt rfl ?_ | refine zq rfl rfl ?_)), List.Perm.refl _⟩
     | exact ⟨j + 1, _, (hD.skip hx (by simp_all)).1, by dsimp only; omega, ⟨rfl, zbp (by rw [(hD.skip hx (by simp_all)).2]), trivial⟩, (by repeat (first | exact zp | refine zt rfl ?_ | refine zq rfl rfl ?_)), List.Perm.refl _⟩
    ·try simp at h6
     refine zl ?_
     refine zG ?_
     refine ze ?_
     refine zB ?_
     refine dmv rfl ?_
     refine dq (zC rfl rfl (by omega) (by omega)) ?_
     refine das rfl ?_
     refine dn ?_
     first
     | exact ⟨j + 1, _, (hD.keep hx (by simp_all)).1, by dsimp only; omega, ⟨rfl, zbp (by rw [(hD.keep hx (by simp_all)).2]; rfl), trivial⟩, (by repeat (first | exact zp | refine zt rfl ?_ | refine zq rfl rfl ?_)), List.Perm.refl _⟩
     | exact ⟨j + 1, _, (hD.skip hx (by simp_all)).1, by dsimp only; omega, ⟨rfl, zbp (by rw [(hD.skip hx (by simp_all)).2]), trivial⟩, (by repeat (first | exact zp | refine zt rfl ?_ | refine zq rfl rfl ?_)), List.Perm.refl _⟩
   ·try simp at h4
    obtain rfl : j = l.length := by have := hD.jle; omega
    have hend := hD.done
    refine zU ?_
    refine z6 ?_
    refine zaR ?_
    refine zJ ?_
    refine ze ?_
    refine za ?_
    refine dmv rfl ?_
    refine dmv rfl ?_
    refine dq (zor (l := ((l.take l.length).filter (fun x => !p x)).length) za2 zQ rfl ⟨_, _, rfl, rfl⟩ rfl (by omega) (by omega) hcap) ?_
    refine de0 (zkC (i := 0) (m := ((l.take l.length).filter (fun x => !p x)).length) (((l.take l.length).filter (fun x => !p x)).length) za2 zQ rfl rfl rfl (zpO (by omega) hcap) rfl (by omega) (Nat.le_refl _) (by rw [List.length_map, hD.len]; omega) ?_)
    refine dn ?_
    refine za ?_
    refine dmv rfl ?_
    refine dmv rfl ?_
    refine dq (zi3 (h := ((l.take l.length).filter (fun x => !p x)).length) za2 zQ rfl ⟨_, _, rfl, rfl⟩ (by omega)) ?_
    refine das rfl ?_
    refine dn ?_
    refine zk ?_
    first
    | (refine zaO rfl ⟨_, rfl, ?_⟩
       rw [zgy p l 0 (by omega) h1]
       done)
    | (refine zaO rfl ⟨_, rfl, ?_⟩
       rw [List.take_length, ← List.map_take, hend]; rfl)

set_option maxHeartbeats 1000000 in
/-- benchwarmer/benchref1.MendedOf -/
theorem zii [Tracks] {l : List LineS} {m : List MendS} {n : Int} (hl : l.length ≤ 15) (hs : ∀ x ∈ l, x.Stats.length ≤ 15) (hm : m.length ≤ 24) (h0 : zbm l = 0) : ConP Tryz.prog 115 [zcm l, zfH m, .int .i64 n] (.tup [zcm (mdL l m n), .int .i64 0]) := by
 refine Con.of_body Tryz.func115 rfl Tryz.ntmps115 rfl rfl ?_
 refine za ?_
 refine das rfl ?_
 refine das rfl ?_
 refine dn ?_
 refine za ?_
 refine dmv rfl ?_
 refine de rfl (zfs zwW rfl (WeakL.refl _) (ze9 (l := l) (by omega)) fun v12 => ?_)
 refine das rfl ?_
 refine dn ?_
 refine zf ?_
 refine za ?_
 refine dmv rfl ?_
 refine dq (zL za2 rfl) ?_
 refine dmv rfl ?_
 refine dn ?_
 refine zn ?_
 refine zaI [8, 10, 15, 16, 17, 18, 19, 20, 21, 22, 23, 24, 25, 26, 27, 28, 29, 30, 31, 32, 33] (fun (k : Nat) (u : Value) => [(15, .int .i64 k), (8, .raw u)]) (fun (k : Nat) (u : Value) => [.arr u 3 ((zcX l (m.take k) n).map zaK)]) (fun (k : Nat) (u : Value) => k ≤ m.length ∧ (True)) (fun (k : Nat) (u : Value) => m.length - k) (0) (v12) ?_ ?_ ?_ ?_
 ·exact ⟨Nat.zero_le _, trivial⟩
 ·exact ⟨rfl, rfl, trivial⟩
 ·exact zS rfl
 ·intro k u hinv
  obtain ⟨hk, -⟩ := hinv
  have hrl := zuQ (m.take k) n l
  have hrs := zrH (m.take k) n l hs
  rw [List.length_take] at hrl hrs
  refine za ?_
  refine dq (zW rfl rfl) ?_
  refine dn ?_
  refine zf ?_
  refine zi rfl (fun h1 => ?_) (fun h2 => ?_)
  ·try simp at h1
   obtain ⟨x, hx⟩ : ∃ x, m[k]? = some x := ⟨_, List.getElem?_eq_getElem h1⟩
   have hdx := zX hx
   refine zl ?_
   refine ze ?_
   refine zf ?_
   refine zn ?_
   refine za ?_
   refine dq (zP za2 zQ rfl rfl rfl (by first | assumption | simp_all)) ?_
   refine dq (zN zQ rfl rfl rfl rfl) ?_
   refine de rfl (z8 zQ rfl fun b10 => ?_)
   refine de0 (zae zQ rfl rfl rfl rfl rfl ?_)
   refine dn ?_
   refine zH (Ghost.fc0 10 rfl) ?_
   refine za ?_
   refine dq ((by first | exact zb zQ rfl ty3 (by decide) rfl | exact zg zQ rfl ty3 (by decide) rfl)) ?_
   refine dq (zc ty3 rfl rfl rfl) ?_
   refine dmv rfl ?_
   refine dq (zc1 rfl rfl) ?_
   refine dn ?_
   refine zi rfl (fun h3 => ?_) (fun h4 => ?_)
   ·try simp at h3
    refine zB ?_
    refine dmv rfl ?_
    refine dq ((by first | exact zb zQ rfl ty9 (by decide) rfl | exact zg zQ rfl ty9 (by decide) rfl)) ?_
    refine dq (zc ty9 rfl rfl rfl) ?_
    refine dq ((by first | exact zb zQ rfl ty3 (by decide) rfl | exact zg zQ rfl ty3 (by decide) rfl)) ?_
    refine dq (zc ty3 rfl rfl rfl) ?_
    refine dq ((by first | exact zb zQ rfl ty9 (by decide) rfl | exact zg zQ rfl ty9 (by decide) rfl)) ?_
    refine dq (zc ty9 rfl rfl rfl) ?_
    refine dq ((by first | exact zb zQ rfl ty3 (by decide) rfl | exact zg zQ rfl ty3 (by decide) rfl)) ?_
    refine dq (zc ty3 rfl rfl rfl) ?_
    refine de rfl (zo (i := 0) zxi rfl (WeakL.refl _) rfl (zmK (l := zcX l (m.take k) n) (by omega) (fun y hy => by have := hrs y hy; omega)) ?_)
    rintro _ _ ⟨u32, rfl, rfl⟩
    refine das rfl ?_
    refine dn ?_
    refine zG ?_
    refine ze ?_
    refine zB ?_
    refine dq (zC rfl rfl (by omega) (by omega)) ?_
    refine dmv rfl ?_
    refine dn ?_
    exact ⟨k + 1, u32, ⟨by omega, trivial⟩, by dsimp only; omega, ⟨rfl, rfl, trivial⟩, (by repeat (first | exact zp | refine zt rfl ?_ | refine zq rfl rfl ?_)), zS (by dsimp only; rw [zoj hx, zc9, if_pos (by assumption)]; rfl)⟩
   ·try simp at h4
    refine zl ?_
    refine zG ?_
    refine ze ?_
    refine zB ?_
    refine dq (zC rfl rfl (by omega) (by omega)) ?_
    refine dmv rfl ?_
    refine dn ?_
    exact ⟨k + 1, u, ⟨by omega, trivial⟩, by dsimp only; omega, ⟨rfl, rfl, trivial⟩, (by repeat (first | exact zp | refine zt rfl ?_ | refine zq rfl rfl ?_)), zS (by dsimp only; rw [zoj hx, zc9, if_neg (by omega)])⟩
  ·try simp at h2
   have hnk : m.length ≤ k := by omega
   obtain rfl : k = m.length := by omega
   rw [List.take_length] at hrl hrs ⊢
   refine zU ?_
   refine z6 ?_
   refine zaR ?_
   refine zJ ?_
   refine ze ?_
   refine zf ?_
   refine za ?_
   refine dmv rfl ?_
   refine de rfl (zbj (i := 0) (es := zcX l m n) zbl rfl rfl ?_)
   refine dq (zaf rfl rfl) ?_
   refine dmv rfl ?_
   refine dg rfl rfl (fun hc => ⟨_, OpenTo.refl _, zd rfl⟩) ?_
   refine dgx (fun x M' => x = .bool ((zcX l m n).any fun x => decide (40 < x.Stats.length)) ∧ M' = [.arr u 3 ((zcX l m n).map zaK)]) rfl rfl (fun hc => ⟨_, rfl, rfl⟩) (fun hc => ⟨_, OpenTo.upd (t := 38) rfl (by first | exact hc | simp_all) (OpenTo.refl _), zgn (hs' := [zcm (zcX l m n), .fn (.func 168) [] []]) zxe rfl ⟨.arr (i := 0) rfl, .weak (Weak.refl _), trivial⟩ (zd7 (l := zcX l m n) (p := fun x => decide (40 < x.Stats.length)) zx2 (fun _ => zil) (by omega)) rfl ⟨rfl, rfl⟩⟩) ?_
   rintro _ _ ⟨rfl, rfl⟩
   refine dq (zv rfl (.inl rfl) (.inr ⟨_, rfl, fun h => by simp_all⟩)) ?_
   refine dn ?_
   refine zi rfl (fun h5 => ?_) (fun h5 => ?_)
   ·exfalso
    try simp at h5
    rcases h5 with q | ⟨y, hy, q⟩
    ·omega
    ·have := hrs y hy; omega
   ·try simp at h5
    refine zl ?_
    refine ze ?_
    refine za ?_
    refine dmv rfl ?_
    refine de rfl (zo (i := 0) zvh rfl (WeakL.refl _) rfl (zln (c := zcS) (zga zey) zvj (fun _ _ => @zgt zdg _ _) (l := zcX l m n) (by omega)) ?_)
    rintro _ _ ⟨l', rfl, hp', hw', rfl⟩
    obtain rfl := zsP h0 hp' hw'
    refine dn ?_
    refine za ?_
    refine dmv rfl ?_
    refine das rfl ?_
    refine das rfl ?_
    refine dn ?_
    refine zk ?_
    exact zkr (M := []) 6 rfl rfl rfl

set_option maxHeartbeats 2000000 in
/-- benchwarmer/benchref1.DifferOf -/
theorem zig [Tracks] {a b : List LineS} (hla : a.length ≤ 40) (hlb : b.length ≤ 40) (hsa : ∀ x ∈ a, x.Stats.length ≤ 40) (hsb : ∀ x ∈ b, x.Stats.length ≤ 40) (ha : zbm a = 0) (hb : zbm b = 0) : ConP Tryz.prog 68 [zcm a, zcm b] (zcN (dfL a b)) := by
 obtain ⟨L, hL⟩ : ∃ L : List LineS, L = ([a, b] : List (List LineS)).flatten := ⟨_, rfl⟩
 have hLL : L = a ++ b := by rw [hL]; simp
 have hLs : ∀ x ∈ L, x.Stats.length ≤ 40 := fun x hx => by
  rw [hLL] at hx
  rcases List.mem_append.1 hx with hx | hx
  ·exact hsa x hx
  ·exact hsb x hx
 have hLn : L.length ≤ 80 := by rw [hLL, List.length_append]; omega
 refine Con.of_body Tryz.func68 rfl Tryz.ntmps68 rfl rfl ?_
 refine za ?_
 refine das rfl ?_
 refine dn ?_
 refine za ?_
 refine das rfl ?_
 refine dn ?_
 refine zH (Ghost.arr_nil 5) ?_
 refine zf ?_
 refine za ?_
 refine dmv rfl ?_
 refine dmv rfl ?_
 refine dq (zw (hs := [_, _]) zmL zbl rfl rfl (by decide) (by decide) rfl) ?_
 refine de rfl (EOp.fz (zfs zxW rfl (WeakL.refl _) (zoI (LL := [a, b]) (by simp) (by rw [← hL]; omega)) fun v => ⟨v, rfl, rfl⟩) ?_)
 rw [← hL]
 refine dq (zL (f := zaK) (l := L) zbl rfl) ?_
 refine dmv rfl ?_
 refine dn ?_
 refine zn ?_
 refine zaI [5, 7, 9, 10, 16, 17, 18, 19, 20, 21, 22, 23, 24, 25, 26, 27, 28, 29, 30, 31, 32, 33, 34, 35, 36, 37, 38, 39, 40, 41, 42, 43, 44, 45, 46, 47, 48, 49, 50, 51, 52, 53, 54, 55, 56, 57, 58, 59, 60, 61, 62, 63, 64, 65, 66] (fun (k : Nat) (u : Value) => [(16, .int .i64 k), (5, .raw u)]) (fun (k : Nat) (u : Value) => [.arr u 5 ((zds a b ((flA (L.take k)).map (·.1))).map zaH)]) (fun (k : Nat) (u : Value) => k ≤ L.length ∧ (True)) (fun (k : Nat) (u : Value) => L.length - k) (0) (.slice none 0 0) ?_ ?_ ?_ ?_
 ·exact ⟨Nat.zero_le _, trivial⟩
 ·exact ⟨rfl, rfl, trivial⟩
 ·exact zS rfl
 ·intro k u hinv
  obtain ⟨hk, -⟩ := hinv
  refine za ?_
  refine dq (zW rfl rfl) ?_
  refine dn ?_
  refine zf ?_
  refine zi rfl (fun h1 => ?_) (fun h2 => ?_)
  ·try simp at h1
   obtain ⟨x, hx⟩ : ∃ x, L[k]? = some x := ⟨_, List.getElem?_eq_getElem h1⟩
   have hdx := zX hx
   have hx4 := hLs x (List.mem_of_getElem? hx)
   have hfl := zpr (l := (L.take k)) (fun y hy => hLs y (List.mem_of_mem_take hy))
   rw [List.length_take] at hfl
   refine zl ?_
   refine ze ?_
   refine zf ?_
   refine zn ?_
   refine za ?_
   refine dq (zP (f := zaK) (l := L) (j := k) (a := x) zbl zag rfl rfl rfl hx) ?_
   refine dq (zN zag rfl rfl rfl rfl) ?_
   refine de rfl (z8 zag rfl fun b7 => ?_)
   refine de0 (zae zag rfl rfl rfl rfl rfl ?_)
   refine dn ?_
   refine zH (Ghost.fc0 7 rfl) ?_
   refine za ?_
   refine dq ((by first | exact zb zag rfl zax (by decide) rfl | exact zg zag rfl zax (by decide) rfl)) ?_
   refine dq (zc zax rfl rfl rfl) ?_
   refine dq (zL zax rfl) ?_
   refine dmv rfl ?_
   refine dn ?_
   refine zn ?_
   refine zaI [5, 9, 10, 23, 24, 25, 26, 27, 28, 29, 30, 31, 32, 33, 34, 35, 36, 37, 38, 39, 40, 41, 42, 43, 44, 45, 46, 47, 48, 49, 50, 51, 52, 53, 54, 55, 56, 57, 58, 59, 60, 61, 62, 63, 64, 65] (fun (j : Nat) (v : Value) => [(23, .int .i64 j), (5, .raw v)]) (fun (j : Nat) (v : Value) => [.arr v 5 ((zds a b (((flA (L.take k)).map (·.1)) ++ (flR x (x.Stats.take j)).map (·.1))).map zaH)]) (fun (j : Nat) (v : Value) => j ≤ x.Stats.length ∧ (True)) (fun (j : Nat) (v : Value) => x.Stats.length - j) (0) (u) ?_ ?_ ?_ ?_
   ·exact ⟨Nat.zero_le _, trivial⟩
   ·exact ⟨rfl, rfl, trivial⟩
   ·exact zS (by simp [flR])
   ·intro j v hinv
    obtain ⟨hj, -⟩ := hinv
    refine za ?_
    refine dq (zW rfl rfl) ?_
    refine dn ?_
    refine zf ?_
    refine zi rfl (fun h3 => ?_) (fun h4 => ?_)
    ·try simp at h3
     obtain ⟨z, hz⟩ : ∃ z, x.Stats[j]? = some z := ⟨_, List.getElem?_eq_getElem h3⟩
     have hdz := zX hz
     have hol := zpx a b (((flA (L.take k)).map (·.1)) ++ (flR x (x.Stats.take j)).map (·.1))
     rw [List.length_append, List.length_map, List.length_map] at hol
     have hfr : (flR x (x.Stats.take j)).length ≤ 40 := by unfold flR; rw [List.length_map, List.length_take]; omega
     refine zl ?_
     refine ze ?_
     refine zf ?_
     refine zn ?_
     refine za ?_
     refine dq (zP zax zam rfl rfl rfl (by first | assumption | simp_all)) ?_
     refine dq (zN zam rfl rfl rfl rfl) ?_
     refine de rfl (z8 zam rfl fun b9 => ?_)
     refine de0 (zae zam rfl rfl rfl rfl rfl ?_)
     refine dn ?_
     refine zH (Ghost.fc0 9 rfl) ?_
     refine zaM (fun _ => True) [] mixed ?_
     refine ahp 0 rfl rfl (by kernel_rfl) (by kernel_rfl) ((by first | exact zb zag rfl ty9 (by decide) rfl | exact zg zag rfl ty9 (by decide) rfl)) ?_
     refine ahp 1 rfl rfl (by kernel_rfl) (by kernel_rfl) (zc ty9 rfl rfl rfl) ?_
     refine ahp 2 rfl rfl (by kernel_rfl) (by kernel_rfl) ((by first | exact zb zag rfl ty3 (by decide) rfl | exact zg zag rfl ty3 (by decide) rfl)) ?_
     refine ahp 3 rfl rfl (by kernel_rfl) (by kernel_rfl) (zc ty3 rfl rfl rfl) ?_
     refine ahp 4 rfl rfl (by kernel_rfl) (by kernel_rfl) ((by first | exact zb zam rfl ty9 (by decide) rfl | exact zg zam rfl ty9 (by decide) rfl)) ?_
     refine ahp 5 rfl rfl (by kernel_rfl) (by kernel_rfl) (zc ty9 rfl rfl rfl) ?_
     refine ahp 6 rfl rfl (by kernel_rfl) (by kernel_rfl) (zd rfl) ?_
     refine ahp 7 rfl rfl (by kernel_rfl) (by kernel_rfl) ((by first | exact zb zag rfl ty9 (by decide) rfl | exact zg zag rfl ty9 (by decide) rfl)) ?_
     refine ahp 8 rfl rfl (by kernel_rfl) (by kernel_rfl) (zc ty9 rfl rfl rfl) ?_
     refine ahp 9 rfl rfl (by kernel_rfl) (by kernel_rfl) ((by first | exact zb zag rfl ty3 (by decide) rfl | exact zg zag rfl ty3 (by decide) rfl)) ?_
     refine ahp 10 rfl rfl (by kernel_rfl) (by kernel_rfl) (zc ty3 rfl rfl rfl) ?_
     refine ahp 11 rfl rfl (by kernel_rfl) (by kernel_rfl) ((by first | exact zb zam rfl ty9 (by decide) rfl | exact zg zam rfl ty9 (by decide) rfl)) ?_
     refine ahp 12 rfl rfl (by kernel_rfl) (by kernel_rfl) (zc ty9 rfl rfl rfl) ?_
     refine ahp 13 rfl rfl (by kernel_rfl) (by kernel_rfl) (zj zvd rfl (WeakL.refl _) (zfT (l := a) (by omega) (fun y hy => Nat.le_trans (hsa y hy) (by decide)))) ?_
     refine ahp 14 rfl rfl (by kernel_rfl) (by kernel_rfl) (zd rfl) ?_
     refine ahp 15 rfl rfl (by kernel_rfl) (by kernel_rfl) ((by first | exact zb zag rfl ty9 (by decide) rfl | exact zg zag rfl ty9 (by decide) rfl)) ?_
     refine ahp 16 rfl rfl (by kernel_rfl) (by kernel_rfl) (zc ty9 rfl rfl rfl) ?_
     refine ahp 17 rfl rfl (by kernel_rfl) (by kernel_rfl) ((by first | exact zb zag rfl ty3 (by decide) rfl | exact zg zag rfl ty3 (by decide) rfl)) ?_
     refine ahp 18 rfl rfl (by kernel_rfl) (by kernel_rfl) (zc ty3 rfl rfl rfl) ?_
     refine ahp 19 rfl rfl (by kernel_rfl) (by kernel_rfl) ((by first | exact zb zam rfl ty9 (by decide) rfl | exact zg zam rfl ty9 (by decide) rfl)) ?_
     refine ahp 20 rfl rfl (by kernel_rfl) (by kernel_rfl) (zc ty9 rfl rfl rfl) ?_
     refine ahp 21 rfl rfl (by kernel_rfl) (by kernel_rfl) (zj zvd rfl (WeakL.refl _) (zfT (l := b) (by omega) (fun y hy => Nat.le_trans (hsb y hy) (by decide)))) ?_
     refine ahp 22 rfl rfl (by kernel_rfl) (by kernel_rfl) (zaw (cs := [_, _, _, _, _]) zbE pl56 rfl) ?_
     refine ahe 23 rfl (by kernel_rfl) ?_
     refine zau rfl (z8 zbE rfl fun b10 => ?_)
     refine ⟨fun _ => .inl trivial, ?_⟩
     refine ahe 24 rfl (by kernel_rfl) ?_
     refine zaL (zae zbE rfl rfl rfl rfl rfl ?_)
     refine ⟨fun _ => .inl trivial, ?_⟩
     refine ahz (by kernel_rfl) ?_
     refine zH (Ghost.fc0 10 rfl) ?_
     refine za ?_
     refine dq ((by first | exact zb zbE rfl ty3 (by decide) rfl | exact zg zbE rfl ty3 (by decide) rfl)) ?_
     refine dq (zc ty3 rfl rfl rfl) ?_
     refine dq ((by first | exact zb zbE rfl ty3 (by decide) rfl | exact zg zbE rfl ty3 (by decide) rfl)) ?_
     refine dq (zc ty3 rfl rfl rfl) ?_
     refine dq (zai rfl rfl) ?_
     refine dmv rfl ?_
     refine dg rfl rfl (fun hc => ⟨_, OpenTo.refl _, zd rfl⟩) ?_
     refine dg rfl rfl (fun hc => ⟨_, OpenTo.refl _, zN zbE rfl rfl rfl rfl⟩) ?_
     refine dgx (fun xq M' => xq = .bool (decide ((tuR a b (x.Player, x.Week, z.Name)) ∈ (zds a b (((flA (L.take k)).map (·.1)) ++ (flR x (x.Stats.take j)).map (·.1))))) ∧ M' = [.arr v 5 ((zds a b (((flA (L.take k)).map (·.1)) ++ (flR x (x.Stats.take j)).map (·.1))).map zaH)]) rfl rfl (fun hc => ⟨_, rfl, rfl⟩) (fun hc => ⟨_, OpenTo.upd (t := 57) rfl (by first | exact hc | simp_all) (OpenTo.upd (t := 56) rfl (by first | exact hc | simp_all) (OpenTo.refl _)), zgn (hs' := [zcN (zds a b (((flA (L.take k)).map (·.1)) ++ (flR x (x.Stats.take j)).map (·.1))), zaH (tuR a b (x.Player, x.Week, z.Name))]) zyh rfl ⟨.arr (i := 0) rfl, .weak (Weak.refl _), trivial⟩ (zd4 (l := (zds a b (((flA (L.take k)).map (·.1)) ++ (flR x (x.Stats.take j)).map (·.1)))) (y := (tuR a b (x.Player, x.Week, z.Name))) (by omega)) rfl ⟨rfl, rfl⟩⟩) ?_
     rintro _ _ ⟨rfl, rfl⟩
     refine dg rfl rfl (fun hc => ⟨_, OpenTo.upd (t := 58) rfl (by first | exact hc | simp_all) (OpenTo.refl _), zaa rfl⟩) ?_
     refine dq (zv rfl (.inr ⟨_, rfl, fun h => by simp_all⟩) (.inl rfl)) ?_
     refine dn ?_
     refine zi rfl (fun h5 => ?_) (fun h6 => ?_)
     ·try simp at h5
      refine zB ?_
      refine dmv rfl ?_
      refine dq (zN zbE rfl rfl rfl rfl) ?_
      refine dq (zw (hs := [_]) zhh zbE rfl rfl (by decide) (by decide) rfl) ?_
      refine de rfl (zan (i := 0) zhh zbE rfl rfl rfl rfl rfl (by simp [za5, zh]) (by simp only [List.length_map, List.length_cons, List.length_nil]; omega) fun v64 => ?_)
      refine das rfl ?_
      refine dn ?_
      refine zG ?_
      refine ze ?_
      refine zB ?_
      refine dq (zC rfl rfl (by omega) (by omega)) ?_
      refine dmv rfl ?_
      refine dn ?_
      exact ⟨j + 1, v64, ⟨by omega, trivial⟩, by dsimp only; omega, ⟨rfl, rfl, trivial⟩, (by repeat (first | exact zp | refine zt rfl ?_ | refine zq rfl rfl ?_)), zS (by dsimp only; rw [zpK hz, List.map_append, ← List.append_assoc, List.map_singleton, zut (by simp_all), List.map_append]; rfl)⟩
     ·try simp at h6
      refine zl ?_
      refine zG ?_
      refine ze ?_
      refine zB ?_
      refine dq (zC rfl rfl (by omega) (by omega)) ?_
      refine dmv rfl ?_
      refine dn ?_
      exact ⟨j + 1, v, ⟨by omega, trivial⟩, by dsimp only; omega, ⟨rfl, rfl, trivial⟩, (by repeat (first | exact zp | refine zt rfl ?_ | refine zq rfl rfl ?_)), zS (by dsimp only; rw [zpK hz, List.map_append, ← List.append_assoc, List.map_singleton, zwq (by simp_all)])⟩
    ·try simp at h4
     have hnj : x.Stats.length ≤ j := by omega
     obtain rfl : j = x.Stats.length := by omega
     rw [List.take_length]
     refine zU ?_
     refine z6 ?_
     refine zaR ?_
     refine zJ ?_
     refine zG ?_
     refine ze ?_
     refine zB ?_
     refine dq (zC rfl rfl (by omega) (by omega)) ?_
     refine dmv rfl ?_
     refine dn ?_
     exact ⟨k + 1, v, ⟨by omega, trivial⟩, by dsimp only; omega, ⟨rfl, rfl, trivial⟩, (by repeat (first | exact zp | refine zt rfl ?_ | refine zq rfl rfl ?_)), zS (by dsimp only; rw [zuI hx, List.map_append])⟩
  ·try simp at h2
   have hnk : L.length ≤ k := by omega
   obtain rfl : k = L.length := by omega
   refine zU ?_
   refine z6 ?_
   refine zaR ?_
   refine zJ ?_
   refine ze ?_
   rw [List.take_length]
   have hdl := zpx a b ((flA L).map (·.1))
   have hfl := zpr hLs
   rw [List.length_map] at hdl
   refine za ?_
   refine dmv rfl ?_
   refine de rfl (zo (i := 0) zvs rfl (WeakL.refl _) rfl (zjK (c := zgF) (zga zlC) zye (fun _ _ => @zio zdg _ _) (l := zds a b ((flA L).map (·.1))) (by omega)) ?_)
   rintro _ _ ⟨l', rfl, hp', hw', rfl⟩
   rw [hLL] at hp'
   obtain rfl := zwa ha hb hp' hw'
   refine dn ?_
   refine za ?_
   refine dmv rfl ?_
   refine das rfl ?_
   refine dn ?_
   refine zk ?_
   exact zkr (M := []) 4 rfl rfl rfl

/-- benchwarmer/play.Since -/
theorem znC [Tracks] {l : List Play} {trust : List Str} {m : List MendS} {week f g : Int} (hT : Tracks.on = false) (hl : l.length ≤ 15) (ht : trust.length ≤ 1000000) (hm : m.length ≤ 24) : ConP Tryz.prog 23 [zbD l, eSs trust, zfH m, .int .i64 week, .int .i64 f, .int .i64 g] (.tup [zcN (zji l trust m week f g), .int .i64 (znn l trust m week f g)]) := by
 refine Con.of_body Tryz.func23 rfl Tryz.ntmps23 rfl rfl ?_
 refine za ?_
 refine dq (zao rfl rfl) ?_
 refine dq (zao rfl rfl) ?_
 refine dq (zao rfl rfl) ?_
 refine das rfl ?_
 refine das rfl ?_
 refine dn ?_
 refine zf ?_
 refine zaM (fun _ => True) [] mixed ?_
 refine ahp 0 rfl rfl (by kernel_rfl) (by kernel_rfl) (zc zaC rfl rfl rfl) ?_
 refine ahp 1 rfl rfl (by kernel_rfl) (by kernel_rfl) (zj zrF rfl (WeakL.refl _) (zdv (l := l) (by omega))) ?_
 refine ahp 2 rfl rfl (by kernel_rfl) (by kernel_rfl) (zc zaj rfl rfl rfl) ?_
 refine ahp 3 rfl rfl (by kernel_rfl) (by kernel_rfl) (zj ca56 rfl (WeakL.refl _) (zgK (l := trust) ht)) ?_
 refine ahp 4 rfl rfl (by kernel_rfl) (by kernel_rfl) (zd rfl) ?_
 refine ahp 5 rfl rfl (by kernel_rfl) (by kernel_rfl) (zj ca57 rfl (WeakL.refl _) (zlb (m := m) (by omega))) ?_
 refine ahp 6 rfl rfl (by kernel_rfl) (by kernel_rfl) (zw (hs := [_, _, _]) ziY zlV rfl rfl (by decide) (by decide) rfl) ?_
 refine ahp 7 rfl rfl (by kernel_rfl) (by kernel_rfl) (zj ca55 rfl (WeakL.refl _) (zkE (l := [_, _, _]) (by simp))) ?_
 refine ahp 8 rfl rfl (by kernel_rfl) (by kernel_rfl) (zaA rfl) ?_
 refine ahz (by kernel_rfl) ?_
 refine za ?_
 refine dmv rfl ?_
 refine dq (zai rfl rfl) ?_
 refine dn ?_
 refine zi rfl (fun h1 => ?_) (fun h2 => ?_)
 ·try simp at h1
  refine za ?_
  refine dmv rfl ?_
  refine das rfl ?_
  refine das rfl ?_
  refine dn ?_
  refine zk ?_
  first
  | (obtain ⟨q1, q2⟩ := zd8 (week := week) (f := f) (g := g) (by rw [zeo (l := l) (t := trust) (m := m) (by simpa using h1)]; simpa using h1)
     refine zav rfl ?_
     rw [q1, q2, zeo (by simpa using h1)]
     exact zah (zal 5) (Weak.refl _))
  | (have q0 := ziM (week := week) (f := f) (g := g) hp0 ht0 hm0 (fun q => by simp_all; omega)
     obtain ⟨q1, q2⟩ := zd8 (l := l) (t := trust) (m := m) (week := week) (f := f) (g := g) (by rw [q0]; decide)
     refine zav rfl ?_
     rw [q1, q2, q0]
     exact zah (zal 5) (Weak.refl _))
  | exact zav rfl (zah (by rw [zcc, if_pos (by assumption)]; exact zal 5) (by rw [zcs, if_pos (by assumption)]; exact Weak.refl _))
  | exact zav rfl (zah (by rw [zcc, if_neg (by simp_all), if_pos (by assumption)]; exact zal 5) (by rw [zcs, if_neg (by simp_all)]; exact Weak.refl _))
  | (refine zF rfl ?_
     have hz1 : zaS l trust week f = 0 := by simp_all
     have hz2 : zaS l trust week g = 0 := by simp_all
     rw [zcc, zcs, if_neg (by simp [hz1]), if_neg (by simp [hz2]), if_neg (by simp [hz1]), hz2]; rfl)
 ·try simp at h2
  refine zl ?_
  refine ze ?_
  refine zf ?_
  obtain ⟨hp0, ht0, hm0⟩ := orI3 (a := zz l) (b := zbw trust) (c := zaz m) (by simpa using h2)
  refine za ?_
  refine dq (zc ty3 rfl rfl rfl) ?_
  refine dq (zj zsg rfl (WeakL.refl _) zgd) ?_
  refine dq (zaa rfl) ?_
  refine dmv rfl ?_
  refine dg rfl rfl (fun hc => ⟨_, OpenTo.refl _, zd rfl⟩) ?_
  refine dg rfl rfl (fun hc => ⟨_, OpenTo.upd (t := 37) rfl (by first | exact hc | simp_all) (OpenTo.refl _), zj zpC rfl (WeakL.refl _) zd9⟩) ?_
  refine dg rfl rfl (fun hc => ⟨_, OpenTo.upd (t := 38) rfl (by first | exact hc | simp_all) (OpenTo.refl _), zaa rfl⟩) ?_
  refine dq (zv rfl (.inl rfl) (.inr ⟨_, rfl, fun h => by simp_all⟩)) ?_
  refine dmv rfl ?_
  refine dg rfl rfl (fun hc => ⟨_, OpenTo.refl _, zd rfl⟩) ?_
  refine dg rfl rfl (fun hc => ⟨_, OpenTo.upd (t := 42) rfl (by first | exact hc | simp_all) (OpenTo.refl _), zj zpC rfl (WeakL.refl _) zd9⟩) ?_
  refine dg rfl rfl (fun hc => ⟨_, OpenTo.upd (t := 43) rfl (by first | exact hc | simp_all) (OpenTo.refl _), zaa rfl⟩) ?_
  refine dq (zv rfl (.inl rfl) (.inr ⟨_, rfl, fun h => by simp_all⟩)) ?_
  refine dmv rfl ?_
  refine dg rfl rfl (fun hc => ⟨_, OpenTo.refl _, zd rfl⟩) ?_
  refine dg rfl rfl (fun hc => ⟨_, OpenTo.refl _, zd rfl⟩) ?_
  refine dg rfl rfl (fun hc => ⟨_, OpenTo.upd (t := 48) rfl (by first | exact hc | simp_all) (OpenTo.upd (t := 47) rfl (by first | exact hc | simp_all) (OpenTo.refl _)), zW rfl rfl⟩) ?_
  refine dq (zv rfl (.inl rfl) (.inr ⟨_, rfl, fun h => by simp_all⟩)) ?_
  refine dn ?_
  refine zi rfl (fun h3 => ?_) (fun h4 => ?_)
  ·try simp at h3
   refine za ?_
   refine das rfl ?_
   refine das rfl ?_
   refine dn ?_
   refine zk ?_
   first
   | (obtain ⟨q1, q2⟩ := zd8 (week := week) (f := f) (g := g) (by rw [zeo (l := l) (t := trust) (m := m) (by simpa using h1)]; simpa using h1)
      refine zav rfl ?_
      rw [q1, q2, zeo (by simpa using h1)]
      exact zah (zal 5) (Weak.refl _))
   | (have q0 := ziM (week := week) (f := f) (g := g) hp0 ht0 hm0 (fun q => by simp_all; omega)
      obtain ⟨q1, q2⟩ := zd8 (l := l) (t := trust) (m := m) (week := week) (f := f) (g := g) (by rw [q0]; decide)
      refine zav rfl ?_
      rw [q1, q2, q0]
      exact zah (zal 5) (Weak.refl _))
   | exact zav rfl (zah (by rw [zcc, if_pos (by assumption)]; exact zal 5) (by rw [zcs, if_pos (by assumption)]; exact Weak.refl _))
   | exact zav rfl (zah (by rw [zcc, if_neg (by simp_all), if_pos (by assumption)]; exact zal 5) (by rw [zcs, if_neg (by simp_all)]; exact Weak.refl _))
   | (refine zF rfl ?_
      have hz1 : zaS l trust week f = 0 := by simp_all
      have hz2 : zaS l trust week g = 0 := by simp_all
      rw [zcc, zcs, if_neg (by simp [hz1]), if_neg (by simp [hz2]), if_neg (by simp [hz1]), hz2]; rfl)
  ·try simp at h4
   refine zl ?_
   refine ze ?_
   have hok := zea hp0
   have hol := zho m week
   obtain ⟨hkf, hkf2⟩ := zpa (t := trust) (m := zco m week) (week := week) (n := f) hok hl (by omega)
   obtain ⟨hkg, hkg2⟩ := zpa (t := trust) (m := zco m week) (week := week) (n := g) hok hl (by omega)
   have hq4 : zb3 week = true ∧ zba f = true ∧ zba g = true ∧ f ≤ g := by simpa [and_assoc] using h4
   obtain ⟨hw0, hf0, hg0, hfg⟩ := hq4
   obtain ⟨hs1, hs2⟩ := zqb (ztW hp0 ht0 hm0 hw0 hf0 hg0 hfg)
   rw [hs1, hs2]
   refine za ?_
   refine de rfl (z8 za2 rfl fun b15 => ?_)
   refine dn ?_
   refine zH (Ghost.arr_nil 7) ?_
   refine zf ?_
   refine za ?_
   refine dmv rfl ?_
   refine dq (zL za2 rfl) ?_
   refine dmv rfl ?_
   refine dn ?_
   refine zn ?_
   refine zaI [17, 53, 54, 55, 56, 57, 58, 59, 60, 61, 62, 63, 64, 65] (fun (k : Nat) (u : Value) => [(53, .int .i64 k)]) (fun (k : Nat) (u : Value) => [.arr u 7 ((zco (m.take k) week).map zbi), .cells b15 [.raw u]]) (fun (k : Nat) (u : Value) => k ≤ m.length ∧ (True)) (fun (k : Nat) (u : Value) => m.length - k) (0) (.slice none 0 0) ?_ ?_ ?_ ?_
   ·exact ⟨Nat.zero_le _, trivial⟩
   ·exact ⟨rfl, trivial⟩
   ·exact zS rfl
   ·intro k u hinv
    obtain ⟨hk, -⟩ := hinv
    refine za ?_
    refine dq (zW rfl rfl) ?_
    refine dn ?_
    refine zf ?_
    refine zi rfl (fun h5 => ?_) (fun h6 => ?_)
    ·try simp at h5
     obtain ⟨x, hx⟩ : ∃ x, m[k]? = some x := ⟨_, List.getElem?_eq_getElem h5⟩
     have hdx := zX hx
     refine zl ?_
     refine ze ?_
     refine zf ?_
     refine zn ?_
     refine za ?_
     refine dq (zP za2 zQ rfl rfl rfl (by first | assumption | simp_all)) ?_
     refine dq (zN zQ rfl rfl rfl rfl) ?_
     refine de rfl (z8 zQ rfl fun b17 => ?_)
     refine de0 (zae zQ rfl rfl rfl rfl rfl ?_)
     refine dn ?_
     refine zH (Ghost.fc0 17 rfl) ?_
     refine za ?_
     refine dq ((by first | exact zb zQ rfl ty3 (by decide) rfl | exact zg zQ rfl ty3 (by decide) rfl)) ?_
     refine dq (zc ty3 rfl rfl rfl) ?_
     refine dq (zc ty3 rfl rfl rfl) ?_
     refine dq (zaJ rfl rfl) ?_
     refine dn ?_
     refine zi rfl (fun h7 => ?_) (fun h8 => ?_)
     ·try simp at h7
      refine zB ?_
      first
      | refine de rfl (zbr (i := 0) za2 rfl rfl (.inl ⟨rfl, rfl⟩) ?_)
      | refine de rfl (zbr (i := 1) za2 rfl rfl (.inl ⟨rfl, rfl⟩) ?_)
      | refine de rfl (zbr (i := 2) za2 rfl rfl (.inl ⟨rfl, rfl⟩) ?_)
      | refine de rfl (zbr (i := 3) za2 rfl rfl (.inl ⟨rfl, rfl⟩) ?_)
      refine dq (zN zQ rfl rfl rfl rfl) ?_
      refine dq (zw (hs := [_]) za2 zQ rfl rfl (by decide) (by decide) rfl) ?_
      refine de rfl (zan (i := 0) za2 zQ rfl rfl rfl rfl rfl (by simp [za5, zh]) (by have := zoM m week k; simp only [List.length_map, List.length_cons, List.length_nil]; omega) fun v64 => ?_)
      first
      | refine de0 (z7 (i := 0) za2 rfl rfl rfl rfl rfl (Nat.le_of_ble_eq_true rfl) ?_)
      | refine de0 (z7 (i := 1) za2 rfl rfl rfl rfl rfl (Nat.le_of_ble_eq_true rfl) ?_)
      | refine de0 (z7 (i := 2) za2 rfl rfl rfl rfl rfl (Nat.le_of_ble_eq_true rfl) ?_)
      | refine de0 (z7 (i := 3) za2 rfl rfl rfl rfl rfl (Nat.le_of_ble_eq_true rfl) ?_)
      refine dn ?_
      refine zG ?_
      refine ze ?_
      refine zB ?_
      refine dq (zC rfl rfl (by omega) (by omega)) ?_
      refine dmv rfl ?_
      refine dn ?_
      exact ⟨k + 1, v64, ⟨by omega, trivial⟩, by dsimp only; omega, ⟨rfl, trivial⟩, (by repeat (first | exact zp | refine zt rfl ?_ | refine zq rfl rfl ?_)), zS (by dsimp only; rw [zuB hx (by assumption), List.map_append]; rfl)⟩
     ·try simp at h8
      refine zl ?_
      refine zG ?_
      refine ze ?_
      refine zB ?_
      refine dq (zC rfl rfl (by omega) (by omega)) ?_
      refine dmv rfl ?_
      refine dn ?_
      exact ⟨k + 1, u, ⟨by omega, trivial⟩, by dsimp only; omega, ⟨rfl, trivial⟩, (by repeat (first | exact zp | refine zt rfl ?_ | refine zq rfl rfl ?_)), zS (by dsimp only; rw [zwc hx (by assumption)])⟩
    ·try simp at h6
     have hnk : m.length ≤ k := by omega
     obtain rfl : k = m.length := by omega
     refine zU ?_
     refine z6 ?_
     refine zaR ?_
     refine zJ ?_
     refine ze ?_
     rw [List.take_length]
     refine zH (Ghost.fcell (i := 0) (k := 0) (j := 0) rfl rfl rfl) ?_
     refine zH (Ghost.fc 15 (i := 0) rfl rfl) ?_
     refine za ?_
     refine dq (zcF rfl rfl) ?_
     refine das rfl ?_
     refine dn ?_
     refine za ?_
     refine dmv rfl ?_
     refine dmv rfl ?_
     refine dq (zb4 ca60 rfl rfl (WeakL.refl _) (ziR (m := zco m week) (n := f) hT hok hl ht (by omega))) ?_
     refine dmv rfl ?_
     refine dq (zx rfl rfl) ?_
     refine dq (zx rfl rfl) ?_
     refine das rfl ?_
     refine das rfl ?_
     refine dn ?_
     refine zf ?_
     refine za ?_
     refine dmv rfl ?_
     refine dq (zai rfl rfl) ?_
     refine dn ?_
     refine zi rfl (fun h9 => ?_) (fun h10 => ?_)
     ·try simp at h9
      refine za ?_
      refine dmv rfl ?_
      refine das rfl ?_
      refine das rfl ?_
      refine dn ?_
      refine zk ?_
      first
      | (obtain ⟨q1, q2⟩ := zd8 (week := week) (f := f) (g := g) (by rw [zeo (l := l) (t := trust) (m := m) (by simpa using h1)]; simpa using h1)
         refine zav rfl ?_
         rw [q1, q2, zeo (by simpa using h1)]
         exact zah (zal 5) (Weak.refl _))
      | (have q0 := ziM (week := week) (f := f) (g := g) hp0 ht0 hm0 (fun q => by simp_all; omega)
         obtain ⟨q1, q2⟩ := zd8 (l := l) (t := trust) (m := m) (week := week) (f := f) (g := g) (by rw [q0]; decide)
         refine zav rfl ?_
         rw [q1, q2, q0]
         exact zah (zal 5) (Weak.refl _))
      | exact zav rfl (zah (by rw [zcc, if_pos (by assumption)]; exact zal 5) (by rw [zcs, if_pos (by assumption)]; exact Weak.refl _))
      | exact zav rfl (zah (by rw [zcc, if_neg (by simp_all), if_pos (by assumption)]; exact zal 5) (by rw [zcs, if_neg (by simp_all)]; exact Weak.refl _))
      | (refine zF rfl ?_
         have hz1 : zaS l trust week f = 0 := by simp_all
         have hz2 : zaS l trust week g = 0 := by simp_all
         rw [zcc, zcs, if_neg (by simp [hz1]), if_neg (by simp [hz2]), if_neg (by simp [hz1]), hz2]; rfl)
     ·try simp at h10
      refine zl ?_
      refine ze ?_
      refine za ?_
      refine dmv rfl ?_
      refine dmv rfl ?_
      refine dq (zb4 ca60 rfl rfl (WeakL.refl _) (ziR (m := zco m week) (n := g) hT hok hl ht (by omega))) ?_
      refine dmv rfl ?_
      refine dq (zx rfl rfl) ?_
      refine dq (zx rfl rfl) ?_
      refine das rfl ?_
      refine das rfl ?_
      refine dn ?_
      refine zf ?_
      refine za ?_
      refine dmv rfl ?_
      refine dq (zai rfl rfl) ?_
      refine dn ?_
      refine zi rfl (fun h11 => ?_) (fun h12 => ?_)
      ·try simp at h11
       refine za ?_
       refine dmv rfl ?_
       refine das rfl ?_
       refine das rfl ?_
       refine dn ?_
       refine zk ?_
       first
       | (obtain ⟨q1, q2⟩ := zd8 (week := week) (f := f) (g := g) (by rw [zeo (l := l) (t := trust) (m := m) (by simpa using h1)]; simpa using h1)
          refine zav rfl ?_
          rw [q1, q2, zeo (by simpa using h1)]
          exact zah (zal 5) (Weak.refl _))
       | (have q0 := ziM (week := week) (f := f) (g := g) hp0 ht0 hm0 (fun q => by simp_all; omega)
          obtain ⟨q1, q2⟩ := zd8 (l := l) (t := trust) (m := m) (week := week) (f := f) (g := g) (by rw [q0]; decide)
          refine zav rfl ?_
          rw [q1, q2, q0]
          exact zah (zal 5) (Weak.refl _))
       | exact zav rfl (zah (by rw [zcc, if_pos (by assumption)]; exact zal 5) (by rw [zcs, if_pos (by assumption)]; exact Weak.refl _))
       | exact zav rfl (zah (by rw [zcc, if_neg (by simp_all), if_pos (by assumption)]; exact zal 5) (by rw [zcs, if_neg (by simp_all)]; exact Weak.refl _))
       | (refine zF rfl ?_
          have hz1 : zaS l trust week f = 0 := by simp_all
          have hz2 : zaS l trust week g = 0 := by simp_all
          rw [zcc, zcs, if_neg (by simp [hz1]), if_neg (by simp [hz2]), if_neg (by simp [hz1]), hz2]; rfl)
      ·try simp at h12
       refine zl ?_
       refine ze ?_
       refine za ?_
       refine dmv rfl ?_
       refine dmv rfl ?_
       refine dq (zj ca63 rfl (WeakL.refl _) (zoZ hkf hkf2 hkg hkg2)) ?_
       refine das rfl ?_
       refine das rfl ?_
       refine dn ?_
       refine zk ?_
       first
       | (obtain ⟨q1, q2⟩ := zd8 (week := week) (f := f) (g := g) (by rw [zeo (l := l) (t := trust) (m := m) (by simpa using h1)]; simpa using h1)
          refine zav rfl ?_
          rw [q1, q2, zeo (by simpa using h1)]
          exact zah (zal 5) (Weak.refl _))
       | (have q0 := ziM (week := week) (f := f) (g := g) hp0 ht0 hm0 (fun q => by simp_all; omega)
          obtain ⟨q1, q2⟩ := zd8 (l := l) (t := trust) (m := m) (week := week) (f := f) (g := g) (by rw [q0]; decide)
          refine zav rfl ?_
          rw [q1, q2, q0]
          exact zah (zal 5) (Weak.refl _))
       | exact zav rfl (zah (by rw [zcc, if_pos (by assumption)]; exact zal 5) (by rw [zcs, if_pos (by assumption)]; exact Weak.refl _))
       | exact zav rfl (zah (by rw [zcc, if_neg (by simp_all), if_pos (by assumption)]; exact zal 5) (by rw [zcs, if_neg (by simp_all)]; exact Weak.refl _))
       | (refine zF rfl ?_
          have hz1 : zaS l trust week f = 0 := by simp_all
          have hz2 : zaS l trust week g = 0 := by simp_all
          rw [zcc, zcs, if_neg (by simp [hz1]), if_neg (by simp [hz2]), if_neg (by simp [hz1]), hz2]; rfl)

/-- benchwarmer/benchref1.SinceOf$1 -/
theorem ziD [Tracks] {x : MendS} {week : Int}  : ConP Tryz.prog 66 [zbi x, .vptr [.int .i64 week] 0] (.bool (!(x.Week == week))) := by
 refine Con.of_body Tryz.func66 rfl Tryz.ntmps66 rfl rfl ?_
 refine za ?_
 refine dq (zao rfl rfl) ?_
 refine das rfl ?_
 refine dn ?_
 refine za ?_
 refine dq (zb zQ rfl ty3 (by decide) rfl) ?_
 refine dq (zc ty3 rfl rfl rfl) ?_
 refine dq (zc ty3 rfl rfl rfl) ?_
 refine dq (zai rfl rfl) ?_
 refine das rfl ?_
 refine dn ?_
 refine zk ?_
 refine zF rfl ?_
 rfl

/-- benchwarmer/benchref1.known -/
theorem zgJ [Tracks] {l : List Play} {trust : List Str} {m : List MendS} {week n : Int} (hp0 : zz l = 0) (ht0 : zbw trust = 0) (hl : l.length ≤ 15) (ht : trust.length ≤ 1000000) (hm : m.length ≤ 24) (hw0 : zb3 week = true) (hmm : zaz m = 0) : ConP Tryz.prog 67 [zbD l, eSs trust, zfH m, .int .i64 week, .int .i64 n] (.tup [zcm (knL l trust m week n), .int .i64 (zaS l trust week n)]) := by
 have hok := zea hp0
 obtain ⟨hr1, hr2⟩ := zsU (trust := trust) (week := week) (n := n) hok
 obtain ⟨hsl, hsn⟩ := zf6 (t := trust) (week := week) (n := n) hok hl
 refine Con.of_body Tryz.func67 rfl Tryz.ntmps67 rfl rfl ?_
 refine za ?_
 refine das rfl ?_
 refine das rfl ?_
 refine dn ?_
 refine za ?_
 refine dmv rfl ?_
 refine dmv rfl ?_
 refine dmv rfl ?_
 refine dmv rfl ?_
 refine dq (zj zxr rfl (WeakL.refl _) (zjO hp0 ht)) ?_
 refine dmv rfl ?_
 refine dq (zx rfl rfl) ?_
 refine dq (zx rfl rfl) ?_
 refine das rfl ?_
 refine das rfl ?_
 refine dn ?_
 simp only [hr1, hr2]
 refine zf ?_
 refine za ?_
 refine dmv rfl ?_
 refine dq (zai rfl rfl) ?_
 refine dn ?_
 refine zi rfl (fun h1 => ?_) (fun h2 => ?_)
 ·try simp at h1
  refine za ?_
  refine dmv rfl ?_
  refine das rfl ?_
  refine das rfl ?_
  refine dn ?_
  refine zk ?_
  first
  | (refine zav rfl (zah ?_ (Weak.refl _))
     rw [knL, if_pos (by simpa using h1)]; exact zal 3)
  | (refine zF rfl ?_
     have hz : zaS l trust week n = 0 := by simpa using h2
     rw [knL, if_neg (by simpa using h2), hz])
 ·try simp at h2
  refine zl ?_
  refine ze ?_
  refine za ?_
  refine dmv rfl ?_
  refine dmv rfl ?_
  refine dmv rfl ?_
  refine dq (zj zx6 rfl (WeakL.refl _) (zii (l := zcx l trust week n) (m := m) (n := n) (by omega) (fun x hx => (hsn x hx).1) hm (zld hok hl hw0 h2))) ?_
  refine dq (zx rfl rfl) ?_
  refine dq (zx rfl rfl) ?_
  refine das rfl ?_
  refine das rfl ?_
  refine dn ?_
  refine zk ?_
  first
  | (refine zav rfl (zah ?_ (Weak.refl _))
     rw [knL, if_pos (by simpa using h1)]; exact zal 3)
  | (refine zF rfl ?_
     have hz : zaS l trust week n = 0 := by simpa using h2
     rw [knL, if_neg (by simpa using h2), hz])

set_option maxHeartbeats 1000000 in
/-- benchwarmer/benchref1.SinceOf -/
theorem zjP [Tracks] {l : List Play} {trust : List Str} {m : List MendS} {week f g : Int} (hp0 : zz l = 0) (ht0 : zbw trust = 0) (hl : l.length ≤ 15) (ht : trust.length ≤ 1000000) (hm : m.length ≤ 24) (hw0 : zb3 week = true) (hm0 : zaz m = 0) : ConP Tryz.prog 24 [zbD l, eSs trust, zfH m, .int .i64 week, .int .i64 f, .int .i64 g] (.tup [zcN (zcc l trust m week f g), .int .i64 (zcs l trust week f g)]) := by
 have hok := zea hp0
 have hol := zho m week
 have hom := zsZ (week := week) hm0
 obtain ⟨hkf, hkf2, hkf3⟩ := zpY (t := trust) (m := zco m week) (week := week) (n := f) hok hl (by omega) hw0 hom
 obtain ⟨hkg, hkg2, hkg3⟩ := zpY (t := trust) (m := zco m week) (week := week) (n := g) hok hl (by omega) hw0 hom
 refine Con.of_body Tryz.func24 rfl Tryz.ntmps24 rfl rfl ?_
 refine za ?_
 refine dq (zao rfl rfl) ?_
 refine das rfl ?_
 refine das rfl ?_
 refine dn ?_
 refine za ?_
 refine dmv rfl ?_
 refine de rfl (zfs ca65 rfl (WeakL.refl _) (zfi (l := m) (by omega)) fun v18 => ?_)
 refine dq (zcF rfl rfl) ?_
 refine de rfl (zo (i := 0) ca64 rfl (WeakL.refl _) rfl (zel (l := m) (p := fun x => !(x.Week == week)) ca66 (fun x => ziD) (by omega)) ?_)
 rintro _ _ ⟨u20, rfl, rfl⟩
 refine das rfl ?_
 refine dn ?_
 refine zH (Ghost.of_eq (M' := [.arr u20 7 ((zco m week).map zbi)]) (by rw [← zrO]; rfl)) ?_
 refine zH (Ghost.fa 2 (i := 0) rfl rfl) ?_
 refine za ?_
 refine dmv rfl ?_
 refine dmv rfl ?_
 refine dmv rfl ?_
 refine dq (zc ty3 rfl rfl rfl) ?_
 refine dmv rfl ?_
 refine dq (zj ca67 rfl (WeakL.refl _) (zgJ (m := zco m week) (n := f) hp0 ht0 hl ht (by omega) hw0 hom)) ?_
 refine dmv rfl ?_
 refine dq (zx rfl rfl) ?_
 refine dq (zx rfl rfl) ?_
 refine das rfl ?_
 refine das rfl ?_
 refine dn ?_
 refine zf ?_
 refine za ?_
 refine dmv rfl ?_
 refine dq (zai rfl rfl) ?_
 refine dn ?_
 refine zi rfl (fun h1 => ?_) (fun h2 => ?_)
 ·try simp at h1
  refine za ?_
  refine dmv rfl ?_
  refine das rfl ?_
  refine das rfl ?_
  refine dn ?_
  refine zk ?_
  first
  | exact zav rfl (zah (by rw [zcc, if_pos (by assumption)]; exact zal 5) (by rw [zcs, if_pos (by assumption)]; exact Weak.refl _))
  | exact zav rfl (zah (by rw [zcc, if_neg (by simp_all), if_pos (by assumption)]; exact zal 5) (by rw [zcs, if_neg (by simp_all)]; exact Weak.refl _))
  | (refine zF rfl ?_
     have hz1 : zaS l trust week f = 0 := by simp_all
     have hz2 : zaS l trust week g = 0 := by simp_all
     rw [zcc, zcs, if_neg (by simp [hz1]), if_neg (by simp [hz2]), if_neg (by simp [hz1]), hz2]; rfl)
 ·try simp at h2
  refine zl ?_
  refine ze ?_
  refine za ?_
  refine dmv rfl ?_
  refine dmv rfl ?_
  refine dmv rfl ?_
  refine dq (zc ty3 rfl rfl rfl) ?_
  refine dmv rfl ?_
  refine dq (zj ca67 rfl (WeakL.refl _) (zgJ (m := zco m week) (n := g) hp0 ht0 hl ht (by omega) hw0 hom)) ?_
  refine dmv rfl ?_
  refine dq (zx rfl rfl) ?_
  refine dq (zx rfl rfl) ?_
  refine das rfl ?_
  refine das rfl ?_
  refine dn ?_
  refine zf ?_
  refine za ?_
  refine dmv rfl ?_
  refine dq (zai rfl rfl) ?_
  refine dn ?_
  refine zi rfl (fun h3 => ?_) (fun h4 => ?_)
  ·try simp at h3
   refine za ?_
   refine dmv rfl ?_
   refine das rfl ?_
   refine das rfl ?_
   refine dn ?_
   refine zk ?_
   first
   | exact zav rfl (zah (by rw [zcc, if_pos (by assumption)]; exact zal 5) (by rw [zcs, if_pos (by assumption)]; exact Weak.refl _))
   | exact zav rfl (zah (by rw [zcc, if_neg (by simp_all), if_pos (by assumption)]; exact zal 5) (by rw [zcs, if_neg (by simp_all)]; exact Weak.refl _))
   | (refine zF rfl ?_
      have hz1 : zaS l trust week f = 0 := by simp_all
      have hz2 : zaS l trust week g = 0 := by simp_all
      rw [zcc, zcs, if_neg (by simp [hz1]), if_neg (by simp [hz2]), if_neg (by simp [hz1]), hz2]; rfl)
  ·try simp at h4
   refine zl ?_
   refine ze ?_
   refine za ?_
   refine dmv rfl ?_
   refine dmv rfl ?_
   refine dq (zj ca68 rfl (WeakL.refl _) (zig hkf2 hkg2 hkf3 hkg3 hkf hkg)) ?_
   refine das rfl ?_
   refine das rfl ?_
   refine dn ?_
   refine zk ?_
   first
   | exact zav rfl (zah (by rw [zcc, if_pos (by assumption)]; exact zal 5) (by rw [zcs, if_pos (by assumption)]; exact Weak.refl _))
   | exact zav rfl (zah (by rw [zcc, if_neg (by simp_all), if_pos (by assumption)]; exact zal 5) (by rw [zcs, if_neg (by simp_all)]; exact Weak.refl _))
   | (refine zF rfl ?_
      have hz1 : zaS l trust week f = 0 := by simp_all
      have hz2 : zaS l trust week g = 0 := by simp_all
      rw [zcc, zcs, if_neg (by simp [hz1]), if_neg (by simp [hz2]), if_neg (by simp [hz1]), hz2]; rfl)
end
end Go.Proofs.YtjecenjmphpmfaaGreatDoor
