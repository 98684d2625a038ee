/- The statement is proved: the card of the law, out of its function's contract; no conditions. -/
import Derived.Test.YtbihpphgoaflfaaGreatDoorPChancesAddUp3
import Derived.LaidMore
import Derived.Lay
import Derived.OpenShut
import Derived.ProofKit
import Derived.SevenTiedAt
import Derived.Shelf.SlIterI.Collect
import Derived.Shelf.SlIterI.Keys
import Derived.Shelf.SlIterI.Sorted
import Derived.Stop.Joined
import Derived.Test.YtbihpphgoaflfaaGreatDoorCards
import Derived.Test.YtbihpphgoaflfaaGreatDoorTie
set_option linter.unusedVariables false
set_option linter.unusedSimpArgs false
section
namespace Go.HL
theorem gcdI_dvd_r {a b : Int} (hb : 0 ≤ b) : gcdI a b ∣ b := by
 have h : ((Nat.gcd a.toNat b.toNat : Nat) : Int) ∣ (b.toNat : Int) := Int.ofNat_dvd.2 (Nat.gcd_dvd_right _ _)
 rw [Int.toNat_of_nonneg hb] at h
 exact h
theorem gcdI_dvd_l {a b : Int} (ha : 0 ≤ a) : gcdI a b ∣ a := by
 have h : ((Nat.gcd a.toNat b.toNat : Nat) : Int) ∣ (a.toNat : Int) := Int.ofNat_dvd.2 (Nat.gcd_dvd_left _ _)
 rw [Int.toNat_of_nonneg ha] at h
 exact h
/-- A fraction in lowest terms is what it was, by one divisor. -/
theorem lowF_mul {w T : Int} (hT : 0 < T) : ∃ g, 0 < g ∧ w = (lowF w T).Num * g ∧ T = (lowF w T).Den * g ∧ 0 < (lowF w T).Den := by
 have hg := gcd_pos (a := max w (-w)) hT
 have h1 : gcdI (max w (-w)) T ∣ T := gcdI_dvd_r (by omega)
 have h2 : gcdI (max w (-w)) T ∣ w := by
  have h := gcdI_dvd_l (a := max w (-w)) (b := T) (by omega)
  by_cases c : 0 ≤ w
  ·have e : max w (-w) = w := by omega
   rw [e] at h ⊢; exact h
  ·have e : max w (-w) = -w := by omega
   rw [e] at h ⊢; exact (Int.dvd_neg).1 h
 have e2 : T = (lowF w T).Den * gcdI (max w (-w)) T := (Int.tdiv_mul_cancel h1).symm
 refine ⟨_, hg, (Int.tdiv_mul_cancel h2).symm, e2, ?_⟩
 refine Decidable.not_not.1 fun hn => ?_
 have : (lowF w T).Den * gcdI (max w (-w)) T ≤ 0 := Int.mul_nonpos_of_nonpos_of_nonneg (by omega) (by omega)
 omega
theorem lowF_num {w T : Int} (hT : 0 < T) (hw : 0 ≤ w) : 0 ≤ (lowF w T).Num ∧ (lowF w T).Num ≤ w := by
 obtain ⟨g, hg, e, _, _⟩ := lowF_mul (w := w) hT
 have h0 : 0 ≤ (lowF w T).Num := by
  refine Decidable.not_not.1 fun hn => ?_
  have : (lowF w T).Num * g < 0 := Int.mul_neg_of_neg_of_pos (by omega) hg
  omega
 refine ⟨h0, ?_⟩
 have : (lowF w T).Num * 1 ≤ (lowF w T).Num * g := Int.mul_le_mul_of_nonneg_left (by omega) h0
 omega
theorem lowF_den {w T : Int} (hT : 0 < T) : 1 ≤ (lowF w T).Den ∧ (lowF w T).Den ≤ T := by
 obtain ⟨g, hg, _, e, h0⟩ := lowF_mul (w := w) hT
 have : (lowF w T).Den * 1 ≤ (lowF w T).Den * g := Int.mul_le_mul_of_nonneg_left (by omega) (by omega)
 omega
theorem mul_cancel_pos {a b c : Int} (hc : 0 < c) (h : a * c = b * c) : a = b := Int.eq_of_mul_eq_mul_right (by omega) h
theorem part_mul {w T all : Int} (hT : 0 < T) (h : all.tmod (lowF w T).Den = 0) : (lowF w T).Num * all.tdiv (lowF w T).Den * T = w * all := by
 obtain ⟨g, hg, e1, e2, _⟩ := lowF_mul (w := w) hT
 have e3 : all.tdiv (lowF w T).Den * (lowF w T).Den = all := Int.tdiv_mul_cancel_of_tmod_eq_zero h
 have e4 : (lowF w T).Num * all.tdiv (lowF w T).Den * ((lowF w T).Den * g) = (lowF w T).Num * g * (all.tdiv (lowF w T).Den * (lowF w T).Den) := by
  simp only [Int.mul_assoc, Int.mul_left_comm, Int.mul_comm]
 rw [e3, ← e1, ← e2] at e4
 exact e4
/-- The three parts are all. -/
theorem parts_all {u v w T all : Int} (hT : 0 < T) (hs : u + v + w = T) (h1 : all.tmod (lowF u T).Den = 0) (h2 : all.tmod (lowF v T).Den = 0) (h3 : all.tmod (lowF w T).Den = 0) :
 (lowF u T).Num * all.tdiv (lowF u T).Den + (lowF v T).Num * all.tdiv (lowF v T).Den + (lowF w T).Num * all.tdiv (lowF w T).Den = all := by
 refine mul_cancel_pos hT ?_
 rw [Int.add_mul, Int.add_mul, part_mul hT h1, part_mul hT h2, part_mul hT h3, ← Int.add_mul, ← Int.add_mul, hs, Int.mul_comm]
theorem low_thousand {w T : Int} (hT : 0 < T) : ((lowF w T).Num * 1000).tdiv (lowF w T).Den = (w * 1000).tdiv T := by
 obtain ⟨g, hg, e1, e2, _⟩ := lowF_mul (w := w) hT
 have e3 : w * 1000 = (lowF w T).Num * 1000 * g := by
  have : (lowF w T).Num * 1000 * g = (lowF w T).Num * g * 1000 := Int.mul_right_comm _ _ _
  rw [this, ← e1]
 have e4 : (w * 1000).tdiv T = ((lowF w T).Num * 1000 * g).tdiv ((lowF w T).Den * g) := by rw [← e3, ← e2]
 rw [e4, Int.mul_tdiv_mul_of_pos_left _ _ hg]
theorem thousand_le {u v T : Int} (hT : 0 < T) (h : u ≤ v) : ((lowF u T).Num * 1000).tdiv (lowF u T).Den ≤ ((lowF v T).Num * 1000).tdiv (lowF v T).Den := by
 rw [low_thousand hT, low_thousand hT]
 exact Int.tdiv_le_tdiv hT (by omega)
theorem lowF_low {w T : Int} (hT : 0 < T) (hw : 0 ≤ w) : lowF (lowF w T).Num (lowF w T).Den = lowF w T := by
 have hn := lowF_num hT hw
 have hd := lowF_den (w := w) hT
 have e0 : max w (-w) = w := by omega
 have e1 : max (lowF w T).Num (-(lowF w T).Num) = (lowF w T).Num := by omega
 have hg : gcdI (lowF w T).Num (lowF w T).Den = 1 := by
  have en : (lowF w T).Num = ((w.toNat / Nat.gcd w.toNat T.toNat : Nat) : Int) := by
   unfold lowF gcdI; dsimp only; rw [e0]
   have := Int.ofNat_tdiv w.toNat (Nat.gcd w.toNat T.toNat)
   rw [this, Int.toNat_of_nonneg hw]
  have ed : (lowF w T).Den = ((T.toNat / Nat.gcd w.toNat T.toNat : Nat) : Int) := by
   unfold lowF gcdI; dsimp only; rw [e0]
   have := Int.ofNat_tdiv T.toNat (Nat.gcd w.toNat T.toNat)
   rw [this, Int.toNat_of_nonneg (by omega)]
  unfold gcdI
  rw [en, ed, Int.toNat_natCast, Int.toNat_natCast]
  have hp : 0 < Nat.gcd w.toNat T.toNat := Nat.gcd_pos_of_pos_right _ (by omega)
  have := Nat.gcd_div (m := w.toNat) (n := T.toNat) (k := Nat.gcd w.toNat T.toNat) (Nat.gcd_dvd_left _ _) (Nat.gcd_dvd_right _ _)
  rw [this, Nat.div_self hp]; rfl
 have e2 : lowF (lowF w T).Num (lowF w T).Den = ⟨(lowF w T).Num.tdiv 1, (lowF w T).Den.tdiv 1⟩ := by
  have e3 : gcdI (max (lowF w T).Num (-(lowF w T).Num)) (lowF w T).Den = 1 := by rw [e1]; exact hg
  generalize (lowF w T).Num = a at e3 ⊢
  generalize (lowF w T).Den = b at e3 ⊢
  show (⟨a.tdiv (gcdI (max a (-a)) b), b.tdiv (gcdI (max a (-a)) b)⟩ : FracS) = _
  rw [e3]
 rw [e2, Int.tdiv_one, Int.tdiv_one]
def hiW (A : Int) : Int := A / 18446744073709551616
def loW (A : Int) : Int := A % 18446744073709551616
theorem hilo_most {A : Int} (h : 0 ≤ A) : (0 < hiW A ∨ most < loW A) ↔ most < A := by unfold hiW loW most; omega
/-! the order of hopes -/
end Go.HL
end
section
namespace Go.HL
end Go.HL
end
section
namespace Go.HL
theorem hopesGo_stop {h r : List HopeS} {k : Nat} {x : HopeS} {c : Int} (e : hopeF h k x = c) (hc : c ≠ 0) : hopesGo h k (x :: r) = c := by rw [hopesGo, if_pos (by rw [e]; exact hc), e]
theorem hopesGo_go {h r : List HopeS} {k : Nat} {x : HopeS} (e : hopeF h k x = 0) : hopesGo h k (x :: r) = hopesGo h (k + 1) r := by rw [hopesGo, if_neg (by rw [e]; simp)]
theorem hopeF_5 {h : List HopeS} {k : Nat} {x : HopeS} (a : key x.Player = false) : hopeF h k x = 5 := by rw [hopeF, if_pos (by rw [a]; rfl)]
theorem hopeF_7 {h : List HopeS} {k : Nat} {x : HopeS} (a : key x.Player = true) (b : 0 < k ∧ leS x.Player (h.getD (k - 1) hope0).Player = true) : hopeF h k x = 7 := by rw [hopeF, if_neg (by rw [a]; simp), if_pos b]
theorem hopeF_8 {h : List HopeS} {k : Nat} {x : HopeS} (a : key x.Player = true) (b : ¬ (0 < k ∧ leS x.Player (h.getD (k - 1) hope0).Player = true)) (c : x.Outs.length = 0) : hopeF h k x = 8 := by rw [hopeF, if_neg (by rw [a]; simp), if_neg b, if_pos c]
theorem hopeF_2 {h : List HopeS} {k : Nat} {x : HopeS} (a : key x.Player = true) (b : ¬ (0 < k ∧ leS x.Player (h.getD (k - 1) hope0).Player = true)) (c : x.Outs.length ≠ 0) (d : 8 < x.Outs.length) : hopeF h k x = 2 := by rw [hopeF, if_neg (by rw [a]; simp), if_neg b, if_neg c, if_pos d]
theorem hopeF_go {h : List HopeS} {k : Nat} {x : HopeS} (a : key x.Player = true) (b : ¬ (0 < k ∧ leS x.Player (h.getD (k - 1) hope0).Player = true)) (c : x.Outs.length ≠ 0) (d : ¬ 8 < x.Outs.length) : hopeF h k x = outsGo x.Outs 0 x.Outs := by rw [hopeF, if_neg (by rw [a]; simp), if_neg b, if_neg c, if_neg d]
theorem outsGo_1 {O r : List OutS} {k : Nat} {y : OutS} (e : outB y = true) : outsGo O k (y :: r) = 1 := by rw [outsGo, if_pos e]
theorem outsGo_7 {O r : List OutS} {k : Nat} {y : OutS} (e : outB y = false) (c : 0 < k ∧ y.Points ≤ (O.getD (k - 1) out0).Points) : outsGo O k (y :: r) = 7 := by rw [outsGo, if_neg (by rw [e]; simp), if_pos c]
theorem outsGo_go {O r : List OutS} {k : Nat} {y : OutS} (e : outB y = false) (c : ¬ (0 < k ∧ y.Points ≤ (O.getD (k - 1) out0).Points)) : outsGo O k (y :: r) = outsGo O (k + 1) r := by rw [outsGo, if_neg (by rw [e]; simp), if_neg c]
theorem HopeOk.bdw {x : HopeS} (h : HopeOk x) : ∀ y ∈ x.Outs, 1 ≤ y.Weight ∧ y.Weight ≤ 1000 := fun y hy => (h.bd y hy).2
theorem max_neg_ite {n : Int} : (if -n > n then -n else n) = max n (-n) := by split <;> omega
theorem take_ok {h : List HopeS} (ok : ∀ x ∈ h, HopeOk x) (k : Nat) : ∀ x ∈ h.take k, HopeOk x := fun x hx => ok x (List.mem_of_mem_take hx)
theorem prodT_append : ∀ a b : List HopeS, prodT (a ++ b) = prodT a * prodT b
 | [], b => by simp [prodT]
 | x :: a, b => by rw [List.cons_append, prodT, prodT, prodT_append a b, Int.mul_assoc]
theorem prodT_take {h : List HopeS} (ok : ∀ x ∈ h, HopeOk x) (k : Nat) : 1 ≤ prodT (h.take k) ∧ prodT (h.take k) ≤ prodT h := by
 have h1 := prodT_pos _ (take_ok ok k)
 have h2 := prodT_pos (h.drop k) fun x hx => ok x (List.mem_of_mem_drop hx)
 have h3 := prodT_append (h.take k) (h.drop k)
 rw [List.take_append_drop] at h3
 have h4 : prodT (h.take k) * 1 ≤ prodT (h.take k) * prodT (h.drop k) := Int.mul_le_mul_of_nonneg_left h2 (by omega)
 omega
theorem mul_room {n s : Int} (h0 : 1 ≤ n) (h1 : n ≤ most + 1) (s0 : 1 ≤ s) (s1 : s ≤ 8000) : 1 ≤ n * s ∧ n * s ≤ 8000000000008000 := by
 have a : 1 * 1 ≤ n * s := Int.mul_le_mul h0 s0 (by decide) (by omega)
 have b : n * s ≤ (most + 1) * 8000 := Int.mul_le_mul h1 s1 (by omega) (by decide)
 have c : (most + 1) * 8000 = 8000000000008000 := rfl
 rw [c] at b
 exact ⟨a, b⟩
theorem PosW.sub {L : NW} (h : PosW L) {E : NW} {vis : List Nat} (hv : VisOk L vis E) : PosW E := fun p hp => h p (hv.mem hp)
theorem VisOk.rest {L E : NW} {vis : List Nat} (hv : VisOk L vis E) : ∃ E' : NW, (E ++ E').Perm L := by
 let rest := (List.range L.length).filter fun j => decide (j ∉ vis)
 have hr : ∀ j, j ∈ rest ↔ j < L.length ∧ j ∉ vis := fun j => by simp [rest]
 refine ⟨rest.map fun j => L.getD j (0, 0), ?_⟩
 have nd : (vis ++ rest).Nodup := List.nodup_append.2 ⟨hv.nd, List.Pairwise.filter _ List.nodup_range, fun a ha b hb e => ((hr b).1 hb).2 (e ▸ ha)⟩
 have hall : VisOk L (vis ++ rest) (E ++ rest.map fun j => L.getD j (0, 0)) := by
  refine ⟨nd, fun j hj => ?_, ?_⟩
  ·rcases List.mem_append.1 hj with h | h
   ·exact hv.lt j h
   ·exact ((hr j).1 h).1
  ·rw [List.map_append, List.map_append, hv.eq, List.map_map]
   congr 1
   refine List.map_congr_left fun j hj => ?_
   have := ((hr j).1 hj).1
   show some (L.getD j (0, 0)) = L[j]?
   rw [List.getElem?_eq_getElem this]; simp [List.getD, List.getElem?_eq_getElem this]
 refine hall.done ?_
 have hp : (vis ++ rest).Perm (List.range L.length) := (List.perm_ext_iff_of_nodup nd List.nodup_range).2 fun a => by
  rw [List.mem_append, hr, List.mem_range]
  constructor
  ·rintro (h | h)
   ·exact hv.lt a h
   ·exact h.1
  ·intro h
   by_cases c : a ∈ vis
   ·exact .inl c
   ·exact .inr ⟨h, c⟩
 have := hp.length_eq
 rwa [List.length_range] at this
theorem tot_vis {L E : NW} {vis : List Nat} (h : PosW L) (hv : VisOk L vis E) : 0 ≤ tot E ∧ tot E ≤ tot L := by
 obtain ⟨E', hp⟩ := hv.rest
 have h1 : PosW E' := fun p hp' => h p (hp.mem_iff.1 (List.mem_append_right _ hp'))
 have h2 := h1.tot
 have h3 := tot_perm hp
 rw [tot_append] at h3
 have h4 := (h.sub hv).tot
 omega
/-- What is told in the midst of a walk is no more than what is told at its end. -/
theorem mid_bd {L E : NW} {vis : List Nat} {j : Nat} {q : Int × Int} {O : List OutS} (h : PosW L) (hO : ∀ y ∈ O, 1 ≤ y.Weight ∧ y.Weight ≤ 1000) (hv : VisOk L (vis ++ [j]) (E ++ [q])) {i : Nat} {y : OutS} (hy : O[i]? = some y) (k : Int) :
 0 ≤ (alk k (sumM (expand E O ++ one q (O.take i)))).getD 0 ∧ (1 ≤ q.2 * y.Weight) ∧ (alk k (sumM (expand E O ++ one q (O.take i)))).getD 0 + q.2 * y.Weight ≤ tot L * sumW O := by
 have hE := h.sub hv
 have hq : 1 ≤ q.2 := hE q (by simp)
 have hE' : PosW E := fun p hp => hE p (List.mem_append_left _ hp)
 have hyO := hO y (List.mem_of_getElem? hy)
 have hO1 : ∀ y ∈ O, 1 ≤ y.Weight := fun y hy => (hO y hy).1
 have hps : PosW (expand E O ++ one q (O.take i)) := fun p hp => by
  rcases List.mem_append.1 hp with hp | hp
  ·exact hE'.expand hO1 p hp
  ·exact PosW.one hq (fun y hy => hO1 y (List.mem_of_mem_take hy)) p hp
 have a := hps.sumM.alk k
 rw [tot_sumM, tot_append, tot_expand, tot_one] at a
 have b := (tot_vis h hv).2
 rw [tot_append] at b
 simp only [tot] at b
 have c : (tot E + q.2) * sumW O ≤ tot L * sumW O := Int.mul_le_mul_of_nonneg_right (by omega) (by
  have := sumW_bd O hO; omega)
 rw [Int.add_mul] at c
 have d := (sumW_take (l := O) hO (i + 1)).2
 rw [take_snoc' hy, sumW_append] at d
 simp only [sumW] at d
 have e : q.2 * (sumW (O.take i) + y.Weight) ≤ q.2 * sumW O := Int.mul_le_mul_of_nonneg_left (by omega) (by omega)
 rw [Int.mul_add] at e
 have f : 1 * 1 ≤ q.2 * y.Weight := Int.mul_le_mul hq hyO.1 (by decide) (by omega)
 omega
abbrev iM (L : NW) : List (HVal × HVal) := kk (HVal.int .i64) (em (HVal.int .i64) L)
/-- The map that is handed back, if there is one. -/
def mapO : Option Nat → NW → List MObj
 | none, _ => []
 | some b, L => [.map b (iM L)]
theorem iM_len (L : NW) : (iM L).length = L.length := by simp [iM, kk, em]
end Go.HL
end
section
namespace Go.HL
section
variable {P : Program} {e : Env} {dst : Option Tmp} {ty : TypeId} {pos : String} {af : Array Edge} {g : Option (Nat × Bool)}
end
section
variable {P : Program} {n : Nat} {e e' : Env} {M M' : List MObj} {Q Q' : Exit → Env → List MObj → Prop} {c c' : Code}
end
end Go.HL
end
section
namespace Go.HL
variable {P : Program}
theorem keyOk_int {kt : TypeId} {k : IntKind} {s1 b1 : Nat} {z1 : Value} (hf : Fits P kt (.int k) s1 b1 z1) : KeyOk P kt (fun x : Int => .int k x) := by
 haveI : Tracks := ⟨true⟩
 have hk : ∀ x y : Int, sameKind (.int k) (.int k x) (.int k y) = true := fun x y => by simp [sameKind]
 refine ⟨fun I x v b w hv => run_check_scalar hf (hk x x) hv b 9999 w, fun I x y u v w hu hv => ?_, fun I x v es w hv hes => ?_, fun I x u v hu hv => ?_⟩
 ·have := run_equal_scalar hf (hk x y) hu hv 9999 w
  show (Op.equalIn (9999 + 1) kt u v).run P w = _
  rw [this]
  show Result.ok (x == y) w = _
  congr 1
 ·obtain rfl := hv.int_inv
  have key : ∀ (es : List MapEntry) (i : Nat), (∀ m ∈ es, ∃ y, V I (.int k y) m.key) → ∃ r, Instr.findNow (.int k) (.int k x) es i = some r ∧ (Instr.findAsking kt (.int k x) es i).run P w = .ok r w := by
   intro es
   induction es with
   | nil => intro i _; exact ⟨none, rfl, by simp [Instr.findAsking]⟩
   | cons m es ih =>
     intro i h
     obtain ⟨y, hy⟩ := h m List.mem_cons_self
     have hq := run_equal_scalar hf (hk x y) (V.int k x) hy 9999 w
     have hq' : (Op.equal kt (.int k x) m.key).run P w = .ok (x == y) w := hq
     have hy' := hy.int_inv
     by_cases e : x = y
     ·have e1 : (x == y) = true := by simpa using e
      refine ⟨some (i, m.val), ?_, ?_⟩
      ·simp only [Instr.findNow, Instr.sameNow, hy', if_true, e1]
      ·simp only [Instr.findAsking, Sem.run_bind, hq', Result.andThen_ok, e1]
       simp
     ·obtain ⟨r, r1, r2⟩ := ih (i + 1) fun m' hm' => h m' (List.mem_cons_of_mem _ hm')
      refine ⟨r, ?_, ?_⟩
      ·have : (x == y) = false := by simpa using e
       simp only [Instr.findNow, Instr.sameNow, hy', if_true, this]
       exact r1
      ·have : (x == y) = false := by simpa using e
       simp only [Instr.findAsking, Sem.run_bind, hq', Result.andThen_ok, this]
       exact r2
  obtain ⟨r, r1, r2⟩ := key es 0 hes
  simp only [Instr.findKey, Sem.run_bind, run_underlying hf.intD, Result.andThen_ok, r1, Sem.run_pure, r2]
 ·obtain rfl := hu.int_inv
  obtain rfl := hv.int_inv
  show Instr.sameBits (9999 + 1) _ _ = true
  simp [Instr.sameBits]
end Go.HL
end
section
namespace Go.HL
open Go
theorem EOp.insert [Tracks] {P : Program} {e : Env} {M : List MObj} {dst : Option Tmp} {t ty : TypeId} {x y z : Operand} {pos : String} {af : Array Edge} {g : Option (Nat × Bool)} {K : HVal → List MObj → Prop}
 (h : EOp P e M ⟨dst, .mapUpdate t x y z, ty, pos, af, g⟩ K) : EOp P e M ⟨dst, .insert t x y z, ty, pos, af, g⟩ K := fun I F a w ho hs => h I F a w ho hs
theorem and32 {m : Int} (h0 : 0 ≤ m) (h1 : m < 18446744073709551616) : IntKind.u64.wrap (((m % 2 ^ IntKind.u64.bits).toNat &&& 4294967295 % 2 ^ IntKind.u64.bits : Nat) : Int) = m % 4294967296 := by
 have e1 : (4294967295 % 2 ^ IntKind.u64.bits : Nat) = 2 ^ 32 - 1 := rfl
 rw [e1, Nat.and_two_pow_sub_one_eq_mod]
 have e2 : m % 2 ^ IntKind.u64.bits = m := by
  simp [IntKind.bits]; omega
 rw [e2]
 simp [IntKind.wrap, IntKind.bits, IntKind.signed]; omega
section
variable {P : Program} {e : Env} {dst : Option Tmp} {ty : TypeId} {pos : String} {af : Array Edge} {g : Option (Nat × Bool)}
theorem pop_and32 [Tracks] {x y : Operand} {t t' : TypeId} {m : Int} (hx : evalO e x = some (.int .u64 m)) (hy : evalO e y = some (.int .u64 4294967295)) (h0 : 0 ≤ m) (h1 : m < 18446744073709551616) :
 POp P e ⟨dst, .binOp .and t x y t', ty, pos, af, g⟩ (.int .u64 (m % 4294967296)) :=
 POp.of_val fun I a w ho => ⟨.int .u64 (m % 4294967296), by
  have g1 := (ho.one (x := x) (by simp [Op.operands]) hx).int_inv
  have g2 := (ho.one (x := y) (by simp [Op.operands]) hy).int_inv
  have g3 := and32 h0 h1
  simp [execOp, g1, g2, eqGuard, binOp, Op.intBits]
  simpa using g3, .int _ _⟩
theorem wrapu {n : Int} (h1 : 0 ≤ n) (h2 : n < 18446744073709551616) : IntKind.wrap .u64 n = n := by
 simp [IntKind.wrap, IntKind.bits, IntKind.signed]; omega
theorem pop_addu [Tracks] {x y : Operand} {t t' : TypeId} {m n : Int} (hx : evalO e x = some (.int .u64 m)) (hy : evalO e y = some (.int .u64 n)) (h1 : 0 ≤ m + n) (h2 : m + n < 18446744073709551616) :
 POp P e ⟨dst, .binOp .add t x y t', ty, pos, af, g⟩ (.int .u64 (m + n)) := by
 have := pop_add (P := P) (dst := dst) (ty := ty) (pos := pos) (af := af) (g := g) (t := t) (t' := t') hx hy
 rwa [wrapu h1 h2] at this
theorem pop_mulu [Tracks] {x y : Operand} {t t' : TypeId} {m n : Int} (hx : evalO e x = some (.int .u64 m)) (hy : evalO e y = some (.int .u64 n)) (h1 : 0 ≤ m * n) (h2 : m * n < 18446744073709551616) :
 POp P e ⟨dst, .binOp .mul t x y t', ty, pos, af, g⟩ (.int .u64 (m * n)) := by
 have := pop_mul (P := P) (dst := dst) (ty := ty) (pos := pos) (af := af) (g := g) (t := t) (t' := t') hx hy
 rwa [wrapu h1 h2] at this
theorem pop_mullo [Tracks] {x y : Operand} {t t' : TypeId} {m n : Int} (hx : evalO e x = some (.int .u64 m)) (hy : evalO e y = some (.int .u64 n)) :
 POp P e ⟨dst, .binOp .mul t x y t', ty, pos, af, g⟩ (.int .u64 (loW (m * n))) := by
 have := pop_mul (P := P) (dst := dst) (ty := ty) (pos := pos) (af := af) (g := g) (t := t) (t' := t') hx hy
 have e : IntKind.wrap .u64 (m * n) = loW (m * n) := by unfold loW; simp [IntKind.wrap, IntKind.bits, IntKind.signed]
 rwa [e] at this
theorem pop_shr32 [Tracks] {x y : Operand} {t t' : TypeId} {m : Int} {k' : IntKind} (hx : evalO e x = some (.int .u64 m)) (hy : evalO e y = some (.int k' 32)) :
 POp P e ⟨dst, .binOp .shr t x y t', ty, pos, af, g⟩ (.int .u64 (m / 4294967296)) := by
 have := pop_shr (P := P) (dst := dst) (ty := ty) (pos := pos) (af := af) (g := g) (t := t) (t' := t') hx hy (by decide)
 have e : m.fdiv (2 ^ min (32 : Int).toNat IntKind.u64.bits) = m / 4294967296 := by
  show m.fdiv 4294967296 = _
  exact (Int.fdiv_eq_ediv_of_nonneg m (by decide))
 rwa [e] at this
end
/-- The halves of a product of two small numbers. -/
def half0 (m : Int) : Int := m % 4294967296
def half1 (m : Int) : Int := m / 4294967296
theorem m_bd {m : Int} (h0 : 0 ≤ m) (h1 : m < 1099511627776) : (0 ≤ half0 m ∧ half0 m < 4294967296) ∧ (0 ≤ half1 m ∧ half1 m < 256) ∧ m = half1 m * 4294967296 + half0 m := by unfold half0 half1; omega
theorem mul_bds {a b A B : Int} (ha : 0 ≤ a ∧ a < A) (hb : 0 ≤ b ∧ b < B) : 0 ≤ a * b ∧ a * b ≤ (A - 1) * (B - 1) := ⟨Int.mul_nonneg ha.1 hb.1, Int.mul_le_mul (by omega) (by omega) hb.1 (by omega)⟩
theorem mul64_split {m n : Int} (hm : m = half1 m * 4294967296 + half0 m) (hn : n = half1 n * 4294967296 + half0 n) : m * n = half1 m * half1 n * 18446744073709551616 + (half1 m * half0 n + half0 m * half1 n) * 4294967296 + half0 m * half0 n := by
 conv => lhs; rw [hm, hn]
 generalize half1 m = a; generalize half1 n = b; generalize half0 m = c; generalize half0 n = d
 simp only [Int.mul_add, Int.add_mul]
 have e1 : a * 4294967296 * (b * 4294967296) = a * b * 18446744073709551616 := by rw [Int.mul_assoc, Int.mul_left_comm 4294967296, Int.mul_assoc a b]; rfl
 have e2 : c * (b * 4294967296) = c * b * 4294967296 := (Int.mul_assoc _ _ _).symm
 have e3 : a * 4294967296 * d = a * d * 4294967296 := Int.mul_right_comm _ _ _
 rw [e1, e2, e3]; omega
theorem mul64_hi {m n : Int} (hm0 : 0 ≤ m) (hm : m < 1099511627776) (hn0 : 0 ≤ n) (hn : n < 1099511627776) :
 half1 m * half1 n + (half1 m * half0 n + half0 m * half0 n / 4294967296) / 4294967296 + ((half1 m * half0 n + half0 m * half0 n / 4294967296) % 4294967296 + half0 m * half1 n) / 4294967296 = hiW (m * n) := by
 have a := m_bd hm0 hm
 have b := m_bd hn0 hn
 have e := mul64_split a.2.2 b.2.2
 have h1 := mul_bds a.1 b.1
 have h2 := mul_bds a.1 b.2.1
 have h3 := mul_bds a.2.1 b.1
 unfold hiW
 rw [e]
 generalize half1 m * half1 n = p at *
 generalize half1 m * half0 n = q at *
 generalize half0 m * half1 n = r at *
 generalize half0 m * half0 n = s at *
 omega
end Go.HL
end
section
namespace Go.Proofs.YtbihpphgoaflfaaGreatDoor
open Go.HL
set_option maxRecDepth 100000
set_option linter.unusedVariables false
set_option linter.unusedSimpArgs false
set_option maxHeartbeats 1000000 in
/-- benchwarmer/value.CheckHopes -/
theorem c_value_CheckHopes [Tracks] {h : List HopeS} (hl : h.length ≤ 1000000) (ho : ∀ x ∈ h, x.Outs.length ≤ 1000000) : ConP Tryz.prog 11 [eHopes h] (.int .i64 (hopesE h)) := by
 refine Con.of_body Tryz.func11 rfl Tryz.ntmps11 rfl rfl ?_
 refine hw_reg ?_
 refine dp rfl (pop_assign rfl) ?_
 refine dn ?_
 refine hw_seq ?_
 refine hw_reg ?_
 refine dp rfl (pop_move rfl) ?_
 refine dp rfl (pop_lenm ty26 rfl) ?_
 refine dp rfl (pop_gtr rfl rfl) ?_
 refine dn ?_
 refine hw_cond rfl (fun h1 => ?_) (fun h2 => ?_)
 ·try simp at h1
  refine hw_reg ?_
  refine dp rfl (pop_assign rfl) ?_
  refine dn ?_
  refine hw_ret ?_
  refine ret_p rfl ?_
  show HVal.int .i64 _ = _
  first
  | (rw [hopesE, if_pos (by omega)]; done)
  | (show HVal.int .i64 5 = _; rw [hg, hopesGo_stop (hopeF_5 (by simp_all; done)) (by decide)]; done)
  | (show HVal.int .i64 8 = _; rw [hg, hopesGo_stop (hopeF_8 (by simp_all; done) (by simp_all [leS]; done) (by simp_all; done)) (by decide)]; done)
  | (show HVal.int .i64 2 = _; rw [hg, hopesGo_stop (hopeF_2 (by simp_all; done) (by simp_all [leS]; done) (by simp_all; done) (by omega)) (by decide)]; done)
  | (show HVal.int .i64 1 = _; rw [hg, hopesGo_stop (c := 1) (by rw [hgo, hi1, outsGo_1 (by simp_all [outB]; done)]) (by decide)]; done)
  | (show HVal.int .i64 7 = _; have q := hi1; rw [hg, hopesGo_stop (c := 7) (by rw [hgo, hi1, outsGo_7 (by simp_all [outB]; done) (by simp_all; done)]) (by decide)]; done)
  | (show HVal.int .i64 7 = _; rw [hg, hopesGo_stop (hopeF_7 (by simp_all; done) (by simp_all [leS]; done)) (by decide)]; done)
  | (rw [hg]; rfl)
 ·try simp at h2
  refine hw_skip ?_
  refine seqQ_n ?_
  refine hw_seq ?_
  refine hw_reg ?_
  refine dp rfl (pop_move rfl) ?_
  refine dp rfl (pop_lenm ty26 rfl) ?_
  refine dp rfl (pop_move rfl) ?_
  refine dn ?_
  refine hw_block ?_
  refine hw_loopw (2 :: 3 :: 4 :: 5 :: 6 :: 12 :: 13 :: 14 :: 15 :: 16 :: 17 :: 18 :: 19 :: 20 :: 21 :: 22 :: 23 :: 24 :: 25 :: 26 :: 27 :: 28 :: 29 :: 30 :: 31 :: 32 :: 33 :: 34 :: 35 :: 36 :: 37 :: 38 :: 39 :: 40 :: 41 :: 42 :: 43 :: 44 :: 45 :: 46 :: 47 :: 48 :: 49 :: 50 :: 51 :: 52 :: 53 :: 54 :: 55 :: 56 :: 57 :: 58 :: 59 :: 60 :: 61 :: 62 :: 63 :: 64 :: 65 :: 66 :: 67 :: 68 :: 69 :: 70 :: 71 :: 72 :: 73 :: 74 :: 75 :: 76 :: 77 :: []) (fun (k : Nat) => [(12, .int .i64 k)]) (fun (k : Nat) => []) (fun (k : Nat) => k ≤ h.length ∧ (hopesE h = hopesGo h k (h.drop k))) (fun (k : Nat) => h.length - k) (0) ?_ ?_ ?_ ?_
  ·refine ⟨Nat.zero_le _, ?_⟩
   rw [hopesE, if_neg (by omega)]; rfl
  ·exact ⟨rfl, trivial⟩
  ·exact List.Perm.refl _
  ·intro k hinv
   obtain ⟨hk, hg⟩ := hinv
   refine hw_reg ?_
   refine dp rfl (pop_lss rfl rfl) ?_
   refine dn ?_
   refine hw_seq ?_
   refine hw_cond rfl (fun h3 => ?_) (fun h4 => ?_)
   ·try simp at h3
    obtain ⟨x, hx⟩ : ∃ x, h[k]? = some x := ⟨_, List.getElem?_eq_getElem h3⟩
    have hdx := drop_cons hx
    rw [hdx] at hg
    have hox := ho x (List.mem_of_getElem? hx)
    refine hw_skip ?_
    refine seqQ_n ?_
    refine hw_seq ?_
    refine hw_block ?_
    refine hw_reg ?_
    refine dp rfl (pop_move rfl) ?_
    refine dp rfl (pop_idx ty26 ty49 rfl rfl rfl (by first | assumption | simp_all)) ?_
    refine dp rfl (pop_loadw ty49 rfl rfl rfl rfl) ?_
    refine de rfl (eop_alloc ty49 rfl fun b4 => ?_)
    refine dp rfl (pop_assign rfl) ?_
    refine de0 (eop_storew ty49 rfl rfl rfl rfl rfl ?_)
    refine dn ?_
    refine hw_ghost (Ghost.fc0 4 rfl) ?_
    refine hw_seq ?_
    refine hw_block ?_
    refine hw_reg ?_
    refine dp rfl (pop_fieldAddr ty49 rfl ty9 (by decide) rfl) ?_
    refine dp rfl (pop_load ty9 rfl rfl rfl) ?_
    refine dp rfl (pop_call ca37 rfl (WeakL.refl _) c_base_Key) ?_
    refine dp rfl (pop_not rfl) ?_
    refine dp rfl (pop_assign rfl) ?_
    refine dn ?_
    refine hw_cond rfl (fun h5 => ?_) (fun h6 => ?_)
    ·try simp at h5
     refine hw_reg ?_
     refine dp rfl (pop_assign rfl) ?_
     refine dn ?_
     refine hw_ret ?_
     refine ret_p rfl ?_
     show HVal.int .i64 _ = _
     first
     | (rw [hopesE, if_pos (by omega)]; done)
     | (show HVal.int .i64 5 = _; rw [hg, hopesGo_stop (hopeF_5 (by simp_all; done)) (by decide)]; done)
     | (show HVal.int .i64 8 = _; rw [hg, hopesGo_stop (hopeF_8 (by simp_all; done) (by simp_all [leS]; done) (by simp_all; done)) (by decide)]; done)
     | (show HVal.int .i64 2 = _; rw [hg, hopesGo_stop (hopeF_2 (by simp_all; done) (by simp_all [leS]; done) (by simp_all; done) (by omega)) (by decide)]; done)
     | (show HVal.int .i64 1 = _; rw [hg, hopesGo_stop (c := 1) (by rw [hgo, hi1, outsGo_1 (by simp_all [outB]; done)]) (by decide)]; done)
     | (show HVal.int .i64 7 = _; have q := hi1; rw [hg, hopesGo_stop (c := 7) (by rw [hgo, hi1, outsGo_7 (by simp_all [outB]; done) (by simp_all; done)]) (by decide)]; done)
     | (show HVal.int .i64 7 = _; rw [hg, hopesGo_stop (hopeF_7 (by simp_all; done) (by simp_all [leS]; done)) (by decide)]; done)
     | (rw [hg]; rfl)
    ·try simp at h6
     refine hw_draw (fun _ => True) [] mixed ?_
     refine ahp 0 rfl rfl (by kernel_rfl) (by kernel_rfl) (pop_move rfl) ?_
     refine ahp 1 rfl rfl (by kernel_rfl) (by kernel_rfl) (pop_gtr rfl rfl) ?_
     refine ahp 2 rfl rfl (by kernel_rfl) (by kernel_rfl) (pop_move rfl) ?_
     refine ahg 3 rfl rfl (by kernel_rfl) (by kernel_rfl) rfl (fun hc => ⟨_, OpenTo.refl _, pop_fieldAddr ty49 rfl ty9 (by decide) rfl⟩) ?_
     refine ahg 4 rfl rfl (by kernel_rfl) (by kernel_rfl) rfl (fun hc => ⟨_, OpenTo.upd (t := 26) rfl (by first | exact hc | simp_all) (OpenTo.refl _), pop_load ty9 rfl rfl rfl⟩) ?_
     refine ahg 5 rfl rfl (by kernel_rfl) (by kernel_rfl) rfl (fun hc => ⟨_, OpenTo.refl _, pop_move rfl⟩) ?_
     refine ahg 6 rfl rfl (by kernel_rfl) (by kernel_rfl) rfl (fun hc => ⟨_, OpenTo.refl _, pop_move rfl⟩) ?_
     refine ahg 7 rfl rfl (by kernel_rfl) (by kernel_rfl) rfl (fun hc => by have hq := hc; (try simp at hq); exact ⟨_, OpenTo.upd (t := 29) rfl (by first | exact hc | simp_all) (OpenTo.refl _), pop_sub64 rfl rfl (by omega) (by omega)⟩) ?_
     refine ahg 8 rfl rfl (by kernel_rfl) (by kernel_rfl) rfl (fun hc => by have hq := hc; (try simp at hq); exact ⟨_, OpenTo.upd (t := 30) rfl (by first | exact hc | simp_all) (OpenTo.upd (t := 28) rfl (by first | exact hc | simp_all) (OpenTo.refl _)), pop_idx (j := k - 1) (a := h.getD (k - 1) hope0) ty26 ty49 rfl rfl (by omega) (getD_some (by omega))⟩) ?_
     refine ahg 9 rfl rfl (by kernel_rfl) (by kernel_rfl) rfl (fun hc => ⟨_, OpenTo.upd (t := 31) rfl (by first | exact hc | simp_all) (OpenTo.refl _), pop_fieldAddr ty49 rfl ty9 (by decide) rfl⟩) ?_
     refine ahg 10 rfl rfl (by kernel_rfl) (by kernel_rfl) rfl (fun hc => ⟨_, OpenTo.upd (t := 32) rfl (by first | exact hc | simp_all) (OpenTo.refl _), pop_load ty9 rfl rfl rfl⟩) ?_
     refine ahg 11 rfl rfl (by kernel_rfl) (by kernel_rfl) rfl (fun hc => ⟨_, OpenTo.upd (t := 33) rfl (by first | exact hc | simp_all) (OpenTo.upd (t := 27) rfl (by first | exact hc | simp_all) (OpenTo.refl _)), pop_leqs rfl rfl⟩) ?_
     refine ahp 12 rfl rfl (by kernel_rfl) (by kernel_rfl) (pop_picko rfl (.inr ⟨_, rfl, fun h => by simp_all⟩) (.inl rfl)) ?_
     refine ahp 13 rfl rfl (by kernel_rfl) (by kernel_rfl) (pop_assign rfl) ?_
     refine ahz (by kernel_rfl) ?_
     refine hw_cond rfl (fun h7 => ?_) (fun h8 => ?_)
     ·try simp at h7
      refine hw_reg ?_
      refine dp rfl (pop_assign rfl) ?_
      refine dn ?_
      refine hw_ret ?_
      refine ret_p rfl ?_
      show HVal.int .i64 _ = _
      first
      | (rw [hopesE, if_pos (by omega)]; done)
      | (show HVal.int .i64 5 = _; rw [hg, hopesGo_stop (hopeF_5 (by simp_all; done)) (by decide)]; done)
      | (show HVal.int .i64 8 = _; rw [hg, hopesGo_stop (hopeF_8 (by simp_all; done) (by simp_all [leS]; done) (by simp_all; done)) (by decide)]; done)
      | (show HVal.int .i64 2 = _; rw [hg, hopesGo_stop (hopeF_2 (by simp_all; done) (by simp_all [leS]; done) (by simp_all; done) (by omega)) (by decide)]; done)
      | (show HVal.int .i64 1 = _; rw [hg, hopesGo_stop (c := 1) (by rw [hgo, hi1, outsGo_1 (by simp_all [outB]; done)]) (by decide)]; done)
      | (show HVal.int .i64 7 = _; have q := hi1; rw [hg, hopesGo_stop (c := 7) (by rw [hgo, hi1, outsGo_7 (by simp_all [outB]; done) (by simp_all; done)]) (by decide)]; done)
      | (show HVal.int .i64 7 = _; rw [hg, hopesGo_stop (hopeF_7 (by simp_all; done) (by simp_all [leS]; done)) (by decide)]; done)
      | (rw [hg]; rfl)
     ·try simp at h8
      refine hw_reg ?_
      refine dp rfl (pop_fieldAddr ty49 rfl ty37 (by decide) rfl) ?_
      refine dp rfl (pop_load ty37 rfl rfl rfl) ?_
      refine dp rfl (pop_lenm ty37 rfl) ?_
      refine dp rfl (pop_eql rfl rfl) ?_
      refine dp rfl (pop_assign rfl) ?_
      refine dn ?_
      refine hw_cond rfl (fun h9 => ?_) (fun h10 => ?_)
      ·try simp at h9
       refine hw_reg ?_
       refine dp rfl (pop_assign rfl) ?_
       refine dn ?_
       refine hw_ret ?_
       refine ret_p rfl ?_
       show HVal.int .i64 _ = _
       first
       | (rw [hopesE, if_pos (by omega)]; done)
       | (show HVal.int .i64 5 = _; rw [hg, hopesGo_stop (hopeF_5 (by simp_all; done)) (by decide)]; done)
       | (show HVal.int .i64 8 = _; rw [hg, hopesGo_stop (hopeF_8 (by simp_all; done) (by simp_all [leS]; done) (by simp_all; done)) (by decide)]; done)
       | (show HVal.int .i64 2 = _; rw [hg, hopesGo_stop (hopeF_2 (by simp_all; done) (by simp_all [leS]; done) (by simp_all; done) (by omega)) (by decide)]; done)
       | (show HVal.int .i64 1 = _; rw [hg, hopesGo_stop (c := 1) (by rw [hgo, hi1, outsGo_1 (by simp_all [outB]; done)]) (by decide)]; done)
       | (show HVal.int .i64 7 = _; have q := hi1; rw [hg, hopesGo_stop (c := 7) (by rw [hgo, hi1, outsGo_7 (by simp_all [outB]; done) (by simp_all; done)]) (by decide)]; done)
       | (show HVal.int .i64 7 = _; rw [hg, hopesGo_stop (hopeF_7 (by simp_all; done) (by simp_all [leS]; done)) (by decide)]; done)
       | (rw [hg]; rfl)
      ·try simp at h10
       refine hw_reg ?_
       refine dp rfl (pop_fieldAddr ty49 rfl ty37 (by decide) rfl) ?_
       refine dp rfl (pop_load ty37 rfl rfl rfl) ?_
       refine dp rfl (pop_lenm ty37 rfl) ?_
       refine dp rfl (pop_gtr rfl rfl) ?_
       refine dp rfl (pop_assign rfl) ?_
       refine dn ?_
       refine hw_cond rfl (fun h11 => ?_) (fun h12 => ?_)
       ·try simp at h11
        refine hw_reg ?_
        refine dp rfl (pop_assign rfl) ?_
        refine dn ?_
        refine hw_ret ?_
        refine ret_p rfl ?_
        show HVal.int .i64 _ = _
        first
        | (rw [hopesE, if_pos (by omega)]; done)
        | (show HVal.int .i64 5 = _; rw [hg, hopesGo_stop (hopeF_5 (by simp_all; done)) (by decide)]; done)
        | (show HVal.int .i64 8 = _; rw [hg, hopesGo_stop (hopeF_8 (by simp_all; done) (by simp_all [leS]; done) (by simp_all; done)) (by decide)]; done)
        | (show HVal.int .i64 2 = _; rw [hg, hopesGo_stop (hopeF_2 (by simp_all; done) (by simp_all [leS]; done) (by simp_all; done) (by omega)) (by decide)]; done)
        | (show HVal.int .i64 1 = _; rw [hg, hopesGo_stop (c := 1) (by rw [hgo, hi1, outsGo_1 (by simp_all [outB]; done)]) (by decide)]; done)
        | (show HVal.int .i64 7 = _; have q := hi1; rw [hg, hopesGo_stop (c := 7) (by rw [hgo, hi1, outsGo_7 (by simp_all [outB]; done) (by simp_all; done)]) (by decide)]; done)
        | (show HVal.int .i64 7 = _; rw [hg, hopesGo_stop (hopeF_7 (by simp_all; done) (by simp_all [leS]; done)) (by decide)]; done)
        | (rw [hg]; rfl)
       ·try simp at h12
        refine hw_skip ?_
        refine blockQ_n ?_
        refine seqQ_n ?_
        have hgo : hopeF h k x = outsGo x.Outs 0 x.Outs := hopeF_go (by simp_all) (by simp_all [leS]) (by simp_all) (by omega)
        refine hw_reg ?_
        refine dp rfl (pop_fieldAddr ty49 rfl ty37 (by decide) rfl) ?_
        refine dp rfl (pop_load ty37 rfl rfl rfl) ?_
        refine dp rfl (pop_lenm ty37 rfl) ?_
        refine dp rfl (pop_move rfl) ?_
        refine dn ?_
        refine hw_block ?_
        refine hw_loopw [2, 5, 6, 49, 50, 51, 52, 53, 54, 55, 56, 57, 58, 59, 60, 61, 62, 63, 64, 65, 66, 67, 68, 69, 70, 71, 72, 73, 74, 75, 76] (fun (i : Nat) => [(49, .int .i64 i)]) (fun (i : Nat) => []) (fun (i : Nat) => i ≤ x.Outs.length ∧ (outsGo x.Outs 0 x.Outs = outsGo x.Outs i (x.Outs.drop i))) (fun (i : Nat) => x.Outs.length - i) (0) ?_ ?_ ?_ ?_
        ·exact ⟨Nat.zero_le _, rfl⟩
        ·exact ⟨rfl, trivial⟩
        ·exact List.Perm.refl _
        ·intro i hinv
         obtain ⟨hi, hi1⟩ := hinv
         refine hw_reg ?_
         refine dp rfl (pop_lss rfl rfl) ?_
         refine dn ?_
         refine hw_seq ?_
         refine hw_cond rfl (fun h13 => ?_) (fun h14 => ?_)
         ·try simp at h13
          obtain ⟨y, hy⟩ : ∃ y, x.Outs[i]? = some y := ⟨_, List.getElem?_eq_getElem h13⟩
          have hdy := drop_cons hy
          rw [hdy] at hi1
          refine hw_skip ?_
          refine seqQ_n ?_
          refine hw_seq ?_
          refine hw_block ?_
          refine hw_reg ?_
          refine dp rfl (pop_move rfl) ?_
          refine dp rfl (pop_idx ty37 ty44 rfl rfl rfl (by first | assumption | simp_all)) ?_
          refine dp rfl (pop_loadw ty44 rfl rfl rfl rfl) ?_
          refine de rfl (eop_alloc ty44 rfl fun b6 => ?_)
          refine dp rfl (pop_assign rfl) ?_
          refine de0 (eop_storew ty44 rfl rfl rfl rfl rfl ?_)
          refine dn ?_
          refine hw_ghost (Ghost.fc0 6 rfl) ?_
          refine hw_seq ?_
          refine hw_reg ?_
          refine dp rfl (pop_fieldAddr ty44 rfl ty3 (by decide) rfl) ?_
          refine dp rfl (pop_load ty3 rfl rfl rfl) ?_
          refine dp rfl (pop_call ca38 rfl (WeakL.refl _) c_base_Out) ?_
          refine dp rfl (pop_move rfl) ?_
          refine dg rfl rfl (fun hc => ⟨_, OpenTo.refl _, pop_fieldAddr ty44 rfl ty3 (by decide) rfl⟩) ?_
          refine dg rfl rfl (fun hc => ⟨_, OpenTo.upd (t := 58) rfl (by first | exact hc | simp_all) (OpenTo.refl _), pop_load ty3 rfl rfl rfl⟩) ?_
          refine dg rfl rfl (fun hc => ⟨_, OpenTo.upd (t := 59) rfl (by first | exact hc | simp_all) (OpenTo.refl _), pop_call ca38 rfl (WeakL.refl _) c_base_Out⟩) ?_
          refine dp rfl (pop_picko rfl (.inl rfl) (.inr ⟨_, rfl, fun h => by simp_all⟩)) ?_
          refine dn ?_
          refine hw_cond rfl (fun h15 => ?_) (fun h16 => ?_)
          ·try simp at h15
           refine hw_reg ?_
           refine dp rfl (pop_assign rfl) ?_
           refine dn ?_
           refine hw_ret ?_
           refine ret_p rfl ?_
           show HVal.int .i64 _ = _
           first
           | (rw [hopesE, if_pos (by omega)]; done)
           | (show HVal.int .i64 5 = _; rw [hg, hopesGo_stop (hopeF_5 (by simp_all; done)) (by decide)]; done)
           | (show HVal.int .i64 8 = _; rw [hg, hopesGo_stop (hopeF_8 (by simp_all; done) (by simp_all [leS]; done) (by simp_all; done)) (by decide)]; done)
           | (show HVal.int .i64 2 = _; rw [hg, hopesGo_stop (hopeF_2 (by simp_all; done) (by simp_all [leS]; done) (by simp_all; done) (by omega)) (by decide)]; done)
           | (show HVal.int .i64 1 = _; rw [hg, hopesGo_stop (c := 1) (by rw [hgo, hi1, outsGo_1 (by simp_all [outB]; done)]) (by decide)]; done)
           | (show HVal.int .i64 7 = _; have q := hi1; rw [hg, hopesGo_stop (c := 7) (by rw [hgo, hi1, outsGo_7 (by simp_all [outB]; done) (by simp_all; done)]) (by decide)]; done)
           | (show HVal.int .i64 7 = _; rw [hg, hopesGo_stop (hopeF_7 (by simp_all; done) (by simp_all [leS]; done)) (by decide)]; done)
           | (rw [hg]; rfl)
          ·try simp at h16
           refine hw_skip ?_
           refine seqQ_n ?_
           refine hw_draw (fun _ => True) [] mixed ?_
           refine ahp 0 rfl rfl (by kernel_rfl) (by kernel_rfl) (pop_move rfl) ?_
           refine ahp 1 rfl rfl (by kernel_rfl) (by kernel_rfl) (pop_gtr rfl rfl) ?_
           refine ahp 2 rfl rfl (by kernel_rfl) (by kernel_rfl) (pop_move rfl) ?_
           refine ahg 3 rfl rfl (by kernel_rfl) (by kernel_rfl) rfl (fun hc => ⟨_, OpenTo.refl _, pop_fieldAddr ty44 rfl ty3 (by decide) rfl⟩) ?_
           refine ahg 4 rfl rfl (by kernel_rfl) (by kernel_rfl) rfl (fun hc => ⟨_, OpenTo.upd (t := 65) rfl (by first | exact hc | simp_all) (OpenTo.refl _), pop_load ty3 rfl rfl rfl⟩) ?_
           refine ahg 5 rfl rfl (by kernel_rfl) (by kernel_rfl) rfl (fun hc => ⟨_, OpenTo.refl _, pop_fieldAddr ty49 rfl ty37 (by decide) rfl⟩) ?_
           refine ahg 6 rfl rfl (by kernel_rfl) (by kernel_rfl) rfl (fun hc => ⟨_, OpenTo.upd (t := 67) rfl (by first | exact hc | simp_all) (OpenTo.refl _), pop_load ty37 rfl rfl rfl⟩) ?_
           refine ahg 7 rfl rfl (by kernel_rfl) (by kernel_rfl) rfl (fun hc => ⟨_, OpenTo.refl _, pop_move rfl⟩) ?_
           refine ahg 8 rfl rfl (by kernel_rfl) (by kernel_rfl) rfl (fun hc => by have hq := hc; (try simp at hq); exact ⟨_, OpenTo.upd (t := 69) rfl (by first | exact hc | simp_all) (OpenTo.refl _), pop_sub64 rfl rfl (by omega) (by omega)⟩) ?_
           refine ahg 9 rfl rfl (by kernel_rfl) (by kernel_rfl) rfl (fun hc => by have hq := hc; (try simp at hq); exact ⟨_, OpenTo.upd (t := 70) rfl (by first | exact hc | simp_all) (OpenTo.upd (t := 68) rfl (by first | exact hc | simp_all) (OpenTo.refl _)), pop_idx (j := i - 1) (a := x.Outs.getD (i - 1) out0) ty37 ty44 rfl rfl (by omega) (getD_some (by omega))⟩) ?_
           refine ahg 10 rfl rfl (by kernel_rfl) (by kernel_rfl) rfl (fun hc => ⟨_, OpenTo.upd (t := 71) rfl (by first | exact hc | simp_all) (OpenTo.refl _), pop_fieldAddr ty44 rfl ty3 (by decide) rfl⟩) ?_
           refine ahg 11 rfl rfl (by kernel_rfl) (by kernel_rfl) rfl (fun hc => ⟨_, OpenTo.upd (t := 72) rfl (by first | exact hc | simp_all) (OpenTo.refl _), pop_load ty3 rfl rfl rfl⟩) ?_
           refine ahg 12 rfl rfl (by kernel_rfl) (by kernel_rfl) rfl (fun hc => ⟨_, OpenTo.upd (t := 73) rfl (by first | exact hc | simp_all) (OpenTo.upd (t := 66) rfl (by first | exact hc | simp_all) (OpenTo.refl _)), pop_leq rfl rfl⟩) ?_
           refine ahp 13 rfl rfl (by kernel_rfl) (by kernel_rfl) (pop_picko rfl (.inr ⟨_, rfl, fun h => by simp_all⟩) (.inl rfl)) ?_
           refine ahz (by kernel_rfl) ?_
           refine hw_cond rfl (fun h17 => ?_) (fun h18 => ?_)
           ·try simp at h17
            refine hw_reg ?_
            refine dp rfl (pop_assign rfl) ?_
            refine dn ?_
            refine hw_ret ?_
            refine ret_p rfl ?_
            show HVal.int .i64 _ = _
            first
            | (rw [hopesE, if_pos (by omega)]; done)
            | (show HVal.int .i64 5 = _; rw [hg, hopesGo_stop (hopeF_5 (by simp_all; done)) (by decide)]; done)
            | (show HVal.int .i64 8 = _; rw [hg, hopesGo_stop (hopeF_8 (by simp_all; done) (by simp_all [leS]; done) (by simp_all; done)) (by decide)]; done)
            | (show HVal.int .i64 2 = _; rw [hg, hopesGo_stop (hopeF_2 (by simp_all; done) (by simp_all [leS]; done) (by simp_all; done) (by omega)) (by decide)]; done)
            | (show HVal.int .i64 1 = _; rw [hg, hopesGo_stop (c := 1) (by rw [hgo, hi1, outsGo_1 (by simp_all [outB]; done)]) (by decide)]; done)
            | (show HVal.int .i64 7 = _; have q := hi1; rw [hg, hopesGo_stop (c := 7) (by rw [hgo, hi1, outsGo_7 (by simp_all [outB]; done) (by simp_all; done)]) (by decide)]; done)
            | (show HVal.int .i64 7 = _; rw [hg, hopesGo_stop (hopeF_7 (by simp_all; done) (by simp_all [leS]; done)) (by decide)]; done)
            | (rw [hg]; rfl)
           ·try simp at h18
            refine hw_skip ?_
            refine blockQ_n ?_
            refine seqQ_n ?_
            refine hw_reg1 ?_
            refine dp rfl (pop_add64 rfl rfl (by omega) (by omega)) ?_
            refine dp rfl (pop_move rfl) ?_
            refine dn ?_
            refine ⟨i + 1, ?_, ?_, ⟨rfl, trivial⟩, (by repeat (first | exact keeps_refl | refine keeps_upd rfl ?_ | refine keeps_loop rfl rfl ?_)), List.Perm.refl _⟩
            ·refine ⟨by omega, ?_⟩
             rw [hi1, outsGo_go (by simp_all [outB]) (by simp_all)]
            ·dsimp only; omega
         ·try simp at h14
          have hni : x.Outs.length ≤ i := by omega
          obtain rfl : i = x.Outs.length := by omega
          rw [drop_all (Nat.le_refl _)] at hi1
          refine hw_exit ?_
          refine seqQ_x ?_
          refine loopQ_x ?_
          refine blockQ_eq ?_
          refine blockQ_n ?_
          refine seqQ_n ?_
          refine hw_reg1 ?_
          refine dp rfl (pop_add64 rfl rfl (by omega) (by omega)) ?_
          refine dp rfl (pop_move rfl) ?_
          refine dn ?_
          refine ⟨k + 1, ?_, ?_, ⟨rfl, trivial⟩, (by repeat (first | exact keeps_refl | refine keeps_upd rfl ?_ | refine keeps_loop rfl rfl ?_)), List.Perm.refl _⟩
          ·refine ⟨by omega, ?_⟩
           rw [hg, hopesGo_go (by rw [hgo, hi1]; rfl)]
          ·dsimp only; omega
   ·try simp at h4
    have hnk : h.length ≤ k := by omega
    obtain rfl : k = h.length := by omega
    rw [drop_all (Nat.le_refl _)] at hg
    refine hw_exit ?_
    refine seqQ_x ?_
    refine loopQ_x ?_
    refine blockQ_eq ?_
    refine seqQ_n ?_
    refine hw_reg ?_
    refine dp rfl (pop_assign rfl) ?_
    refine dn ?_
    refine hw_ret ?_
    refine ret_p rfl ?_
    show HVal.int .i64 _ = _
    first
    | (rw [hopesE, if_pos (by omega)]; done)
    | (show HVal.int .i64 5 = _; rw [hg, hopesGo_stop (hopeF_5 (by simp_all; done)) (by decide)]; done)
    | (show HVal.int .i64 8 = _; rw [hg, hopesGo_stop (hopeF_8 (by simp_all; done) (by simp_all [leS]; done) (by simp_all; done)) (by decide)]; done)
    | (show HVal.int .i64 2 = _; rw [hg, hopesGo_stop (hopeF_2 (by simp_all; done) (by simp_all [leS]; done) (by simp_all; done) (by omega)) (by decide)]; done)
    | (show HVal.int .i64 1 = _; rw [hg, hopesGo_stop (c := 1) (by rw [hgo, hi1, outsGo_1 (by simp_all [outB]; done)]) (by decide)]; done)
    | (show HVal.int .i64 7 = _; have q := hi1; rw [hg, hopesGo_stop (c := 7) (by rw [hgo, hi1, outsGo_7 (by simp_all [outB]; done) (by simp_all; done)]) (by decide)]; done)
    | (show HVal.int .i64 7 = _; rw [hg, hopesGo_stop (hopeF_7 (by simp_all; done) (by simp_all [leS]; done)) (by decide)]; done)
    | (rw [hg]; rfl)

set_option maxHeartbeats 1000000 in
/-- benchwarmer/benchref1.HopesFault -/
theorem c_benchref1_HopesFault [Tracks] {h : List HopeS} (hl : h.length ≤ 1000000) (ho : ∀ x ∈ h, x.Outs.length ≤ 1000000) (hs : ∀ x ∈ h, Sh x.Player) : ConP Tryz.prog 10 [eHopes h] (.int .i64 (hopesE h)) := by
 refine Con.of_body Tryz.func10 rfl Tryz.ntmps10 rfl rfl ?_
 refine hw_reg ?_
 refine dp rfl (pop_assign rfl) ?_
 refine dn ?_
 refine hw_seq ?_
 refine hw_reg ?_
 refine dp rfl (pop_move rfl) ?_
 refine dp rfl (pop_lenm ty26 rfl) ?_
 refine dp rfl (pop_gtr rfl rfl) ?_
 refine dn ?_
 refine hw_cond rfl (fun h1 => ?_) (fun h2 => ?_)
 ·try simp at h1
  refine hw_reg ?_
  refine dp rfl (pop_assign rfl) ?_
  refine dn ?_
  refine hw_ret ?_
  refine ret_p rfl ?_
  show HVal.int .i64 _ = _
  first
  | (rw [hopesE, if_pos (by omega)]; done)
  | (show HVal.int .i64 5 = _; rw [hg, hopesGo_stop (hopeF_5 (by simp_all; done)) (by decide)]; done)
  | (show HVal.int .i64 8 = _; rw [hg, hopesGo_stop (hopeF_8 (by simp_all; done) (by simp_all [leS]; done) (by simp_all; done)) (by decide)]; done)
  | (show HVal.int .i64 2 = _; rw [hg, hopesGo_stop (hopeF_2 (by simp_all; done) (by simp_all [leS]; done) (by simp_all; done) (by omega)) (by decide)]; done)
  | (show HVal.int .i64 1 = _; rw [hg, hopesGo_stop (c := 1) (by rw [hgo, hi1, outsGo_1 (by simp_all [outB]; done)]) (by decide)]; done)
  | (show HVal.int .i64 7 = _; have q := hi1; rw [hg, hopesGo_stop (c := 7) (by rw [hgo, hi1, outsGo_7 (by simp_all [outB]; done) (by simp_all; done)]) (by decide)]; done)
  | (show HVal.int .i64 7 = _; rw [hg, hopesGo_stop (hopeF_7 (by simp_all; done) (by simp_all [leS]; done)) (by decide)]; done)
  | (rw [hg]; rfl)
 ·try simp at h2
  refine hw_skip ?_
  refine seqQ_n ?_
  refine hw_seq ?_
  refine hw_reg ?_
  refine dp rfl (pop_move rfl) ?_
  refine dp rfl (pop_lenm ty26 rfl) ?_
  refine dp rfl (pop_move rfl) ?_
  refine dn ?_
  refine hw_block ?_
  refine hw_loopw (2 :: 3 :: 4 :: 5 :: 6 :: 12 :: 13 :: 14 :: 15 :: 16 :: 17 :: 18 :: 19 :: 20 :: 21 :: 22 :: 23 :: 24 :: 25 :: 26 :: 27 :: 28 :: 29 :: 30 :: 31 :: 32 :: 33 :: 34 :: 35 :: 36 :: 37 :: 38 :: 39 :: 40 :: 41 :: 42 :: 43 :: 44 :: 45 :: 46 :: 47 :: 48 :: 49 :: 50 :: 51 :: 52 :: 53 :: 54 :: 55 :: 56 :: 57 :: 58 :: 59 :: 60 :: 61 :: 62 :: 63 :: 64 :: 65 :: 66 :: 67 :: 68 :: 69 :: 70 :: 71 :: 72 :: 73 :: 74 :: 75 :: 76 :: 77 :: 78 :: 79 :: 80 :: 81 :: []) (fun (k : Nat) => [(12, .int .i64 k)]) (fun (k : Nat) => []) (fun (k : Nat) => k ≤ h.length ∧ (hopesE h = hopesGo h k (h.drop k))) (fun (k : Nat) => h.length - k) (0) ?_ ?_ ?_ ?_
  ·refine ⟨Nat.zero_le _, ?_⟩
   rw [hopesE, if_neg (by omega)]; rfl
  ·exact ⟨rfl, trivial⟩
  ·exact List.Perm.refl _
  ·intro k hinv
   obtain ⟨hk, hg⟩ := hinv
   refine hw_reg ?_
   refine dp rfl (pop_lss rfl rfl) ?_
   refine dn ?_
   refine hw_seq ?_
   refine hw_cond rfl (fun h3 => ?_) (fun h4 => ?_)
   ·try simp at h3
    obtain ⟨x, hx⟩ : ∃ x, h[k]? = some x := ⟨_, List.getElem?_eq_getElem h3⟩
    have hdx := drop_cons hx
    rw [hdx] at hg
    have hox := ho x (List.mem_of_getElem? hx)
    refine hw_skip ?_
    refine seqQ_n ?_
    refine hw_seq ?_
    refine hw_block ?_
    refine hw_reg ?_
    refine dp rfl (pop_move rfl) ?_
    refine dp rfl (pop_idx ty26 ty49 rfl rfl rfl (by first | assumption | simp_all)) ?_
    refine dp rfl (pop_loadw ty49 rfl rfl rfl rfl) ?_
    refine de rfl (eop_alloc ty49 rfl fun b4 => ?_)
    refine dp rfl (pop_assign rfl) ?_
    refine de0 (eop_storew ty49 rfl rfl rfl rfl rfl ?_)
    refine dn ?_
    refine hw_ghost (Ghost.fc0 4 rfl) ?_
    refine hw_seq ?_
    refine hw_block ?_
    refine hw_reg ?_
    refine dp rfl (pop_fieldAddr ty49 rfl ty9 (by decide) rfl) ?_
    refine dp rfl (pop_load ty9 rfl rfl rfl) ?_
    refine dp rfl (pop_call ca35 rfl (WeakL.refl _) (c_benchref1_Key (hs x (List.mem_of_getElem? hx)))) ?_
    refine dp rfl (pop_not rfl) ?_
    refine dp rfl (pop_assign rfl) ?_
    refine dn ?_
    refine hw_cond rfl (fun h5 => ?_) (fun h6 => ?_)
    ·try simp at h5
     refine hw_reg ?_
     refine dp rfl (pop_assign rfl) ?_
     refine dn ?_
     refine hw_ret ?_
     refine ret_p rfl ?_
     show HVal.int .i64 _ = _
     first
     | (rw [hopesE, if_pos (by omega)]; done)
     | (show HVal.int .i64 5 = _; rw [hg, hopesGo_stop (hopeF_5 (by simp_all; done)) (by decide)]; done)
     | (show HVal.int .i64 8 = _; rw [hg, hopesGo_stop (hopeF_8 (by simp_all; done) (by simp_all [leS]; done) (by simp_all; done)) (by decide)]; done)
     | (show HVal.int .i64 2 = _; rw [hg, hopesGo_stop (hopeF_2 (by simp_all; done) (by simp_all [leS]; done) (by simp_all; done) (by omega)) (by decide)]; done)
     | (show HVal.int .i64 1 = _; rw [hg, hopesGo_stop (c := 1) (by rw [hgo, hi1, outsGo_1 (by simp_all [outB]; done)]) (by decide)]; done)
     | (show HVal.int .i64 7 = _; have q := hi1; rw [hg, hopesGo_stop (c := 7) (by rw [hgo, hi1, outsGo_7 (by simp_all [outB]; done) (by simp_all; done)]) (by decide)]; done)
     | (show HVal.int .i64 7 = _; rw [hg, hopesGo_stop (hopeF_7 (by simp_all; done) (by simp_all [leS]; done)) (by decide)]; done)
     | (rw [hg]; rfl)
    ·try simp at h6
     refine hw_draw (fun _ => True) [] mixed ?_
     refine ahp 0 rfl rfl (by kernel_rfl) (by kernel_rfl) (pop_move rfl) ?_
     refine ahp 1 rfl rfl (by kernel_rfl) (by kernel_rfl) (pop_gtr rfl rfl) ?_
     refine ahp 2 rfl rfl (by kernel_rfl) (by kernel_rfl) (pop_move rfl) ?_
     refine ahg 3 rfl rfl (by kernel_rfl) (by kernel_rfl) rfl (fun hc => ⟨_, OpenTo.refl _, pop_fieldAddr ty49 rfl ty9 (by decide) rfl⟩) ?_
     refine ahg 4 rfl rfl (by kernel_rfl) (by kernel_rfl) rfl (fun hc => ⟨_, OpenTo.upd (t := 26) rfl (by first | exact hc | simp_all) (OpenTo.refl _), pop_load ty9 rfl rfl rfl⟩) ?_
     refine ahg 5 rfl rfl (by kernel_rfl) (by kernel_rfl) rfl (fun hc => ⟨_, OpenTo.refl _, pop_move rfl⟩) ?_
     refine ahg 6 rfl rfl (by kernel_rfl) (by kernel_rfl) rfl (fun hc => ⟨_, OpenTo.refl _, pop_move rfl⟩) ?_
     refine ahg 7 rfl rfl (by kernel_rfl) (by kernel_rfl) rfl (fun hc => by have hq := hc; (try simp at hq); exact ⟨_, OpenTo.upd (t := 29) rfl (by first | exact hc | simp_all) (OpenTo.refl _), pop_sub64 rfl rfl (by omega) (by omega)⟩) ?_
     refine ahg 8 rfl rfl (by kernel_rfl) (by kernel_rfl) rfl (fun hc => by have hq := hc; (try simp at hq); exact ⟨_, OpenTo.upd (t := 30) rfl (by first | exact hc | simp_all) (OpenTo.upd (t := 28) rfl (by first | exact hc | simp_all) (OpenTo.refl _)), pop_idx (j := k - 1) (a := h.getD (k - 1) hope0) ty26 ty49 rfl rfl (by omega) (getD_some (by omega))⟩) ?_
     refine ahg 9 rfl rfl (by kernel_rfl) (by kernel_rfl) rfl (fun hc => ⟨_, OpenTo.upd (t := 31) rfl (by first | exact hc | simp_all) (OpenTo.refl _), pop_fieldAddr ty49 rfl ty9 (by decide) rfl⟩) ?_
     refine ahg 10 rfl rfl (by kernel_rfl) (by kernel_rfl) rfl (fun hc => ⟨_, OpenTo.upd (t := 32) rfl (by first | exact hc | simp_all) (OpenTo.refl _), pop_load ty9 rfl rfl rfl⟩) ?_
     refine ahg 11 rfl rfl (by kernel_rfl) (by kernel_rfl) rfl (fun hc => ⟨_, OpenTo.upd (t := 33) rfl (by first | exact hc | simp_all) (OpenTo.upd (t := 27) rfl (by first | exact hc | simp_all) (OpenTo.refl _)), pop_leqs rfl rfl⟩) ?_
     refine ahp 12 rfl rfl (by kernel_rfl) (by kernel_rfl) (pop_picko rfl (.inr ⟨_, rfl, fun h => by simp_all⟩) (.inl rfl)) ?_
     refine ahp 13 rfl rfl (by kernel_rfl) (by kernel_rfl) (pop_assign rfl) ?_
     refine ahz (by kernel_rfl) ?_
     refine hw_cond rfl (fun h7 => ?_) (fun h8 => ?_)
     ·try simp at h7
      refine hw_reg ?_
      refine dp rfl (pop_assign rfl) ?_
      refine dn ?_
      refine hw_ret ?_
      refine ret_p rfl ?_
      show HVal.int .i64 _ = _
      first
      | (rw [hopesE, if_pos (by omega)]; done)
      | (show HVal.int .i64 5 = _; rw [hg, hopesGo_stop (hopeF_5 (by simp_all; done)) (by decide)]; done)
      | (show HVal.int .i64 8 = _; rw [hg, hopesGo_stop (hopeF_8 (by simp_all; done) (by simp_all [leS]; done) (by simp_all; done)) (by decide)]; done)
      | (show HVal.int .i64 2 = _; rw [hg, hopesGo_stop (hopeF_2 (by simp_all; done) (by simp_all [leS]; done) (by simp_all; done) (by omega)) (by decide)]; done)
      | (show HVal.int .i64 1 = _; rw [hg, hopesGo_stop (c := 1) (by rw [hgo, hi1, outsGo_1 (by simp_all [outB]; done)]) (by decide)]; done)
      | (show HVal.int .i64 7 = _; have q := hi1; rw [hg, hopesGo_stop (c := 7) (by rw [hgo, hi1, outsGo_7 (by simp_all [outB]; done) (by simp_all; done)]) (by decide)]; done)
      | (show HVal.int .i64 7 = _; rw [hg, hopesGo_stop (hopeF_7 (by simp_all; done) (by simp_all [leS]; done)) (by decide)]; done)
      | (rw [hg]; rfl)
     ·try simp at h8
      refine hw_reg ?_
      refine dp rfl (pop_fieldAddr ty49 rfl ty37 (by decide) rfl) ?_
      refine dp rfl (pop_load ty37 rfl rfl rfl) ?_
      refine dp rfl (pop_lenm ty37 rfl) ?_
      refine dp rfl (pop_eql rfl rfl) ?_
      refine dp rfl (pop_assign rfl) ?_
      refine dn ?_
      refine hw_cond rfl (fun h9 => ?_) (fun h10 => ?_)
      ·try simp at h9
       refine hw_reg ?_
       refine dp rfl (pop_assign rfl) ?_
       refine dn ?_
       refine hw_ret ?_
       refine ret_p rfl ?_
       show HVal.int .i64 _ = _
       first
       | (rw [hopesE, if_pos (by omega)]; done)
       | (show HVal.int .i64 5 = _; rw [hg, hopesGo_stop (hopeF_5 (by simp_all; done)) (by decide)]; done)
       | (show HVal.int .i64 8 = _; rw [hg, hopesGo_stop (hopeF_8 (by simp_all; done) (by simp_all [leS]; done) (by simp_all; done)) (by decide)]; done)
       | (show HVal.int .i64 2 = _; rw [hg, hopesGo_stop (hopeF_2 (by simp_all; done) (by simp_all [leS]; done) (by simp_all; done) (by omega)) (by decide)]; done)
       | (show HVal.int .i64 1 = _; rw [hg, hopesGo_stop (c := 1) (by rw [hgo, hi1, outsGo_1 (by simp_all [outB]; done)]) (by decide)]; done)
       | (show HVal.int .i64 7 = _; have q := hi1; rw [hg, hopesGo_stop (c := 7) (by rw [hgo, hi1, outsGo_7 (by simp_all [outB]; done) (by simp_all; done)]) (by decide)]; done)
       | (show HVal.int .i64 7 = _; rw [hg, hopesGo_stop (hopeF_7 (by simp_all; done) (by simp_all [leS]; done)) (by decide)]; done)
       | (rw [hg]; rfl)
      ·try simp at h10
       refine hw_reg ?_
       refine dp rfl (pop_fieldAddr ty49 rfl ty37 (by decide) rfl) ?_
       refine dp rfl (pop_load ty37 rfl rfl rfl) ?_
       refine dp rfl (pop_lenm ty37 rfl) ?_
       refine dp rfl (pop_gtr rfl rfl) ?_
       refine dp rfl (pop_assign rfl) ?_
       refine dn ?_
       refine hw_cond rfl (fun h11 => ?_) (fun h12 => ?_)
       ·try simp at h11
        refine hw_reg ?_
        refine dp rfl (pop_assign rfl) ?_
        refine dn ?_
        refine hw_ret ?_
        refine ret_p rfl ?_
        show HVal.int .i64 _ = _
        first
        | (rw [hopesE, if_pos (by omega)]; done)
        | (show HVal.int .i64 5 = _; rw [hg, hopesGo_stop (hopeF_5 (by simp_all; done)) (by decide)]; done)
        | (show HVal.int .i64 8 = _; rw [hg, hopesGo_stop (hopeF_8 (by simp_all; done) (by simp_all [leS]; done) (by simp_all; done)) (by decide)]; done)
        | (show HVal.int .i64 2 = _; rw [hg, hopesGo_stop (hopeF_2 (by simp_all; done) (by simp_all [leS]; done) (by simp_all; done) (by omega)) (by decide)]; done)
        | (show HVal.int .i64 1 = _; rw [hg, hopesGo_stop (c := 1) (by rw [hgo, hi1, outsGo_1 (by simp_all [outB]; done)]) (by decide)]; done)
        | (show HVal.int .i64 7 = _; have q := hi1; rw [hg, hopesGo_stop (c := 7) (by rw [hgo, hi1, outsGo_7 (by simp_all [outB]; done) (by simp_all; done)]) (by decide)]; done)
        | (show HVal.int .i64 7 = _; rw [hg, hopesGo_stop (hopeF_7 (by simp_all; done) (by simp_all [leS]; done)) (by decide)]; done)
        | (rw [hg]; rfl)
       ·try simp at h12
        refine hw_skip ?_
        refine blockQ_n ?_
        refine seqQ_n ?_
        have hgo : hopeF h k x = outsGo x.Outs 0 x.Outs := hopeF_go (by simp_all) (by simp_all [leS]) (by simp_all) (by omega)
        refine hw_reg ?_
        refine dp rfl (pop_fieldAddr ty49 rfl ty37 (by decide) rfl) ?_
        refine dp rfl (pop_load ty37 rfl rfl rfl) ?_
        refine dp rfl (pop_lenm ty37 rfl) ?_
        refine dp rfl (pop_move rfl) ?_
        refine dn ?_
        refine hw_block ?_
        refine hw_loopw [2, 5, 6, 49, 50, 51, 52, 53, 54, 55, 56, 57, 58, 59, 60, 61, 62, 63, 64, 65, 66, 67, 68, 69, 70, 71, 72, 73, 74, 75, 76, 77, 78, 79, 80] (fun (i : Nat) => [(49, .int .i64 i)]) (fun (i : Nat) => []) (fun (i : Nat) => i ≤ x.Outs.length ∧ (outsGo x.Outs 0 x.Outs = outsGo x.Outs i (x.Outs.drop i))) (fun (i : Nat) => x.Outs.length - i) (0) ?_ ?_ ?_ ?_
        ·exact ⟨Nat.zero_le _, rfl⟩
        ·exact ⟨rfl, trivial⟩
        ·exact List.Perm.refl _
        ·intro i hinv
         obtain ⟨hi, hi1⟩ := hinv
         refine hw_reg ?_
         refine dp rfl (pop_lss rfl rfl) ?_
         refine dn ?_
         refine hw_seq ?_
         refine hw_cond rfl (fun h13 => ?_) (fun h14 => ?_)
         ·try simp at h13
          obtain ⟨y, hy⟩ : ∃ y, x.Outs[i]? = some y := ⟨_, List.getElem?_eq_getElem h13⟩
          have hdy := drop_cons hy
          rw [hdy] at hi1
          refine hw_skip ?_
          refine seqQ_n ?_
          refine hw_seq ?_
          refine hw_block ?_
          refine hw_reg ?_
          refine dp rfl (pop_move rfl) ?_
          refine dp rfl (pop_idx ty37 ty44 rfl rfl rfl (by first | assumption | simp_all)) ?_
          refine dp rfl (pop_loadw ty44 rfl rfl rfl rfl) ?_
          refine de rfl (eop_alloc ty44 rfl fun b6 => ?_)
          refine dp rfl (pop_assign rfl) ?_
          refine de0 (eop_storew ty44 rfl rfl rfl rfl rfl ?_)
          refine dn ?_
          refine hw_ghost (Ghost.fc0 6 rfl) ?_
          refine hw_block ?_
          refine hw_reg ?_
          refine dp rfl (pop_fieldAddr ty44 rfl ty3 (by decide) rfl) ?_
          refine dp rfl (pop_load ty3 rfl rfl rfl) ?_
          refine dp rfl (pop_call ca36 rfl (WeakL.refl _) c_benchref1_in) ?_
          refine dp rfl (pop_not rfl) ?_
          refine dp rfl (pop_move rfl) ?_
          refine dg rfl rfl (fun hc => ⟨_, OpenTo.refl _, pop_fieldAddr ty44 rfl ty3 (by decide) rfl⟩) ?_
          refine dg rfl rfl (fun hc => ⟨_, OpenTo.upd (t := 60) rfl (by first | exact hc | simp_all) (OpenTo.refl _), pop_load ty3 rfl rfl rfl⟩) ?_
          refine dg rfl rfl (fun hc => ⟨_, OpenTo.upd (t := 61) rfl (by first | exact hc | simp_all) (OpenTo.refl _), pop_call ca36 rfl (WeakL.refl _) c_benchref1_in⟩) ?_
          refine dg rfl rfl (fun hc => ⟨_, OpenTo.upd (t := 62) rfl (by first | exact hc | simp_all) (OpenTo.refl _), pop_not rfl⟩) ?_
          refine dp rfl (pop_picko rfl (.inl rfl) (.inr ⟨_, rfl, fun h => by simp_all⟩)) ?_
          refine dp rfl (pop_assign rfl) ?_
          refine dn ?_
          refine hw_cond rfl (fun h15 => ?_) (fun h16 => ?_)
          ·try simp at h15
           refine hw_reg ?_
           refine dp rfl (pop_assign rfl) ?_
           refine dn ?_
           refine hw_ret ?_
           refine ret_p rfl ?_
           show HVal.int .i64 _ = _
           first
           | (rw [hopesE, if_pos (by omega)]; done)
           | (show HVal.int .i64 5 = _; rw [hg, hopesGo_stop (hopeF_5 (by simp_all; done)) (by decide)]; done)
           | (show HVal.int .i64 8 = _; rw [hg, hopesGo_stop (hopeF_8 (by simp_all; done) (by simp_all [leS]; done) (by simp_all; done)) (by decide)]; done)
           | (show HVal.int .i64 2 = _; rw [hg, hopesGo_stop (hopeF_2 (by simp_all; done) (by simp_all [leS]; done) (by simp_all; done) (by omega)) (by decide)]; done)
           | (show HVal.int .i64 1 = _; rw [hg, hopesGo_stop (c := 1) (by rw [hgo, hi1, outsGo_1 (by simp_all [outB]; done)]) (by decide)]; done)
           | (show HVal.int .i64 7 = _; have q := hi1; rw [hg, hopesGo_stop (c := 7) (by rw [hgo, hi1, outsGo_7 (by simp_all [outB]; done) (by simp_all; done)]) (by decide)]; done)
           | (show HVal.int .i64 7 = _; rw [hg, hopesGo_stop (hopeF_7 (by simp_all; done) (by simp_all [leS]; done)) (by decide)]; done)
           | (rw [hg]; rfl)
          ·try simp at h16
           refine hw_draw (fun _ => True) [] mixed ?_
           refine ahp 0 rfl rfl (by kernel_rfl) (by kernel_rfl) (pop_move rfl) ?_
           refine ahp 1 rfl rfl (by kernel_rfl) (by kernel_rfl) (pop_gtr rfl rfl) ?_
           refine ahp 2 rfl rfl (by kernel_rfl) (by kernel_rfl) (pop_move rfl) ?_
           refine ahg 3 rfl rfl (by kernel_rfl) (by kernel_rfl) rfl (fun hc => ⟨_, OpenTo.refl _, pop_fieldAddr ty44 rfl ty3 (by decide) rfl⟩) ?_
           refine ahg 4 rfl rfl (by kernel_rfl) (by kernel_rfl) rfl (fun hc => ⟨_, OpenTo.upd (t := 69) rfl (by first | exact hc | simp_all) (OpenTo.refl _), pop_load ty3 rfl rfl rfl⟩) ?_
           refine ahg 5 rfl rfl (by kernel_rfl) (by kernel_rfl) rfl (fun hc => ⟨_, OpenTo.refl _, pop_fieldAddr ty49 rfl ty37 (by decide) rfl⟩) ?_
           refine ahg 6 rfl rfl (by kernel_rfl) (by kernel_rfl) rfl (fun hc => ⟨_, OpenTo.upd (t := 71) rfl (by first | exact hc | simp_all) (OpenTo.refl _), pop_load ty37 rfl rfl rfl⟩) ?_
           refine ahg 7 rfl rfl (by kernel_rfl) (by kernel_rfl) rfl (fun hc => ⟨_, OpenTo.refl _, pop_move rfl⟩) ?_
           refine ahg 8 rfl rfl (by kernel_rfl) (by kernel_rfl) rfl (fun hc => by have hq := hc; (try simp at hq); exact ⟨_, OpenTo.upd (t := 73) rfl (by first | exact hc | simp_all) (OpenTo.refl _), pop_sub64 rfl rfl (by omega) (by omega)⟩) ?_
           refine ahg 9 rfl rfl (by kernel_rfl) (by kernel_rfl) rfl (fun hc => by have hq := hc; (try simp at hq); exact ⟨_, OpenTo.upd (t := 74) rfl (by first | exact hc | simp_all) (OpenTo.upd (t := 72) rfl (by first | exact hc | simp_all) (OpenTo.refl _)), pop_idx (j := i - 1) (a := x.Outs.getD (i - 1) out0) ty37 ty44 rfl rfl (by omega) (getD_some (by omega))⟩) ?_
           refine ahg 10 rfl rfl (by kernel_rfl) (by kernel_rfl) rfl (fun hc => ⟨_, OpenTo.upd (t := 75) rfl (by first | exact hc | simp_all) (OpenTo.refl _), pop_fieldAddr ty44 rfl ty3 (by decide) rfl⟩) ?_
           refine ahg 11 rfl rfl (by kernel_rfl) (by kernel_rfl) rfl (fun hc => ⟨_, OpenTo.upd (t := 76) rfl (by first | exact hc | simp_all) (OpenTo.refl _), pop_load ty3 rfl rfl rfl⟩) ?_
           refine ahg 12 rfl rfl (by kernel_rfl) (by kernel_rfl) rfl (fun hc => ⟨_, OpenTo.upd (t := 77) rfl (by first | exact hc | simp_all) (OpenTo.upd (t := 70) rfl (by first | exact hc | simp_all) (OpenTo.refl _)), pop_leq rfl rfl⟩) ?_
           refine ahp 13 rfl rfl (by kernel_rfl) (by kernel_rfl) (pop_picko rfl (.inr ⟨_, rfl, fun h => by simp_all⟩) (.inl rfl)) ?_
           refine ahp 14 rfl rfl (by kernel_rfl) (by kernel_rfl) (pop_assign rfl) ?_
           refine ahz (by kernel_rfl) ?_
           refine hw_cond rfl (fun h17 => ?_) (fun h18 => ?_)
           ·try simp at h17
            refine hw_reg ?_
            refine dp rfl (pop_assign rfl) ?_
            refine dn ?_
            refine hw_ret ?_
            refine ret_p rfl ?_
            show HVal.int .i64 _ = _
            first
            | (rw [hopesE, if_pos (by omega)]; done)
            | (show HVal.int .i64 5 = _; rw [hg, hopesGo_stop (hopeF_5 (by simp_all; done)) (by decide)]; done)
            | (show HVal.int .i64 8 = _; rw [hg, hopesGo_stop (hopeF_8 (by simp_all; done) (by simp_all [leS]; done) (by simp_all; done)) (by decide)]; done)
            | (show HVal.int .i64 2 = _; rw [hg, hopesGo_stop (hopeF_2 (by simp_all; done) (by simp_all [leS]; done) (by simp_all; done) (by omega)) (by decide)]; done)
            | (show HVal.int .i64 1 = _; rw [hg, hopesGo_stop (c := 1) (by rw [hgo, hi1, outsGo_1 (by simp_all [outB]; done)]) (by decide)]; done)
            | (show HVal.int .i64 7 = _; have q := hi1; rw [hg, hopesGo_stop (c := 7) (by rw [hgo, hi1, outsGo_7 (by simp_all [outB]; done) (by simp_all; done)]) (by decide)]; done)
            | (show HVal.int .i64 7 = _; rw [hg, hopesGo_stop (hopeF_7 (by simp_all; done) (by simp_all [leS]; done)) (by decide)]; done)
            | (rw [hg]; rfl)
           ·try simp at h18
            refine hw_skip ?_
            refine blockQ_n ?_
            refine blockQ_n ?_
            refine seqQ_n ?_
            refine hw_reg1 ?_
            refine dp rfl (pop_add64 rfl rfl (by omega) (by omega)) ?_
            refine dp rfl (pop_move rfl) ?_
            refine dn ?_
            refine ⟨i + 1, ?_, ?_, ⟨rfl, trivial⟩, (by repeat (first | exact keeps_refl | refine keeps_upd rfl ?_ | refine keeps_loop rfl rfl ?_)), List.Perm.refl _⟩
            ·refine ⟨by omega, ?_⟩
             rw [hi1, outsGo_go (by simp_all [outB]) (by simp_all)]
            ·dsimp only; omega
         ·try simp at h14
          have hni : x.Outs.length ≤ i := by omega
          obtain rfl : i = x.Outs.length := by omega
          rw [drop_all (Nat.le_refl _)] at hi1
          refine hw_exit ?_
          refine seqQ_x ?_
          refine loopQ_x ?_
          refine blockQ_eq ?_
          refine blockQ_n ?_
          refine seqQ_n ?_
          refine hw_reg1 ?_
          refine dp rfl (pop_add64 rfl rfl (by omega) (by omega)) ?_
          refine dp rfl (pop_move rfl) ?_
          refine dn ?_
          refine ⟨k + 1, ?_, ?_, ⟨rfl, trivial⟩, (by repeat (first | exact keeps_refl | refine keeps_upd rfl ?_ | refine keeps_loop rfl rfl ?_)), List.Perm.refl _⟩
          ·refine ⟨by omega, ?_⟩
           rw [hg, hopesGo_go (by rw [hgo, hi1]; rfl)]
          ·dsimp only; omega
   ·try simp at h4
    have hnk : h.length ≤ k := by omega
    obtain rfl : k = h.length := by omega
    rw [drop_all (Nat.le_refl _)] at hg
    refine hw_exit ?_
    refine seqQ_x ?_
    refine loopQ_x ?_
    refine blockQ_eq ?_
    refine seqQ_n ?_
    refine hw_reg ?_
    refine dp rfl (pop_assign rfl) ?_
    refine dn ?_
    refine hw_ret ?_
    refine ret_p rfl ?_
    show HVal.int .i64 _ = _
    first
    | (rw [hopesE, if_pos (by omega)]; done)
    | (show HVal.int .i64 5 = _; rw [hg, hopesGo_stop (hopeF_5 (by simp_all; done)) (by decide)]; done)
    | (show HVal.int .i64 8 = _; rw [hg, hopesGo_stop (hopeF_8 (by simp_all; done) (by simp_all [leS]; done) (by simp_all; done)) (by decide)]; done)
    | (show HVal.int .i64 2 = _; rw [hg, hopesGo_stop (hopeF_2 (by simp_all; done) (by simp_all [leS]; done) (by simp_all; done) (by omega)) (by decide)]; done)
    | (show HVal.int .i64 1 = _; rw [hg, hopesGo_stop (c := 1) (by rw [hgo, hi1, outsGo_1 (by simp_all [outB]; done)]) (by decide)]; done)
    | (show HVal.int .i64 7 = _; have q := hi1; rw [hg, hopesGo_stop (c := 7) (by rw [hgo, hi1, outsGo_7 (by simp_all [outB]; done) (by simp_all; done)]) (by decide)]; done)
    | (show HVal.int .i64 7 = _; rw [hg, hopesGo_stop (hopeF_7 (by simp_all; done) (by simp_all [leS]; done)) (by decide)]; done)
    | (rw [hg]; rfl)

/-- benchwarmer/base.Gcd -/
theorem c_base_Gcd [Tracks] {x y : Int} (hx : 0 ≤ x) (hy : 0 ≤ y) : ConP Tryz.prog 70 [.int .i64 x, .int .i64 y] (.int .i64 (gcdI x y)) := by
 refine Con.of_body Tryz.func70 rfl Tryz.ntmps70 rfl rfl ?_
 refine hw_reg ?_
 refine dp rfl (pop_assign rfl) ?_
 refine dn ?_
 refine hw_seq ?_
 refine hw_block ?_
 refine hw_loopw2 [0, 1, 5, 6, 7, 8, 9, 10] (fun (a : Int) (b : Int) => [(0, .int .i64 a), (1, .int .i64 b)]) (fun (a : Int) (b : Int) => []) (fun (a : Int) (b : Int) => 0 ≤ a ∧ 0 ≤ b ∧ gcdI a b = gcdI x y) (fun (a : Int) (b : Int) => b.toNat) (x) (y) ?_ ?_ ?_ ?_
 ·exact ⟨hx, hy, rfl⟩
 ·exact ⟨rfl, rfl, trivial⟩
 ·exact List.Perm.refl _
 ·intro a b hinv
  obtain ⟨ha, hb, hg⟩ := hinv
  refine hw_seq ?_
  refine hw_reg ?_
  refine dp rfl (pop_move rfl) ?_
  refine dp rfl (pop_neq rfl rfl) ?_
  refine dn ?_
  refine hw_cond rfl (fun h1 => ?_) (fun h2 => ?_)
  ·try simp at h1
   have hbn : b ≠ 0 := by simpa using h1
   have hb0 : 0 < b := by omega
   have hm0 := Int.tmod_nonneg b ha
   have hm1 := Int.tmod_lt_of_pos a hb0
   refine hw_skip ?_
   refine seqQ_n ?_
   refine hw_block ?_
   refine hw_draw1 (fun _ => True) [] mixed ?_
   refine ahp 0 rfl rfl (by kernel_rfl) (by kernel_rfl) (pop_move rfl) ?_
   refine ahp 1 rfl rfl (by kernel_rfl) (by kernel_rfl) (pop_move rfl) ?_
   refine ahp 2 rfl rfl (by kernel_rfl) (by kernel_rfl) (pop_move rfl) ?_
   refine ahp 3 rfl rfl (by kernel_rfl) (by kernel_rfl) (pop_rem rfl rfl (by omega)) ?_
   refine ahp 4 rfl rfl (by kernel_rfl) (by kernel_rfl) (pop_assign rfl) ?_
   refine ahp 5 rfl rfl (by kernel_rfl) (by kernel_rfl) (pop_assign rfl) ?_
   refine ahz (by kernel_rfl) ?_
   refine blockQ_n ?_
   refine ⟨b, a.tmod b, ?_, ?_, ⟨rfl, rfl, trivial⟩, (by repeat (first | exact keeps_refl | refine keeps_upd rfl ?_ | refine keeps_loop rfl rfl ?_)), List.Perm.refl _⟩
   ·exact ⟨hb, hm0, by rw [gcd_step ha hb0]; exact hg⟩
   ·dsimp only; omega
  ·try simp at h2
   have hb0 : b = 0 := by simpa using h2
   subst hb0
   rw [gcd_done ha] at hg
   refine hw_exit ?_
   refine seqQ_x ?_
   refine loopQ2_x ?_
   refine blockQ_eq ?_
   refine seqQ_n ?_
   refine hw_reg ?_
   refine dp rfl (pop_move rfl) ?_
   refine dp rfl (pop_assign rfl) ?_
   refine dn ?_
   refine hw_ret ?_
   refine ret_p rfl ?_
   show HVal.int .i64 _ = _
   rw [← hg]

/-- benchwarmer/benchref1.divisor -/
theorem c_benchref1_divisor [Tracks] {x y : Int} (hx : 0 ≤ x) (hy : 0 ≤ y) : ConP Tryz.prog 66 [.int .i64 x, .int .i64 y] (.int .i64 (gcdI x y)) := by
 refine Con.of_body Tryz.func66 rfl Tryz.ntmps66 rfl rfl ?_
 refine hw_reg ?_
 refine dp rfl (pop_assign rfl) ?_
 refine dn ?_
 refine hw_seq ?_
 refine hw_block ?_
 refine hw_loopw2 [0, 1, 5, 6, 7, 8, 9, 10] (fun (a : Int) (b : Int) => [(0, .int .i64 a), (1, .int .i64 b)]) (fun (a : Int) (b : Int) => []) (fun (a : Int) (b : Int) => 0 ≤ a ∧ 0 ≤ b ∧ gcdI a b = gcdI x y) (fun (a : Int) (b : Int) => b.toNat) (x) (y) ?_ ?_ ?_ ?_
 ·exact ⟨hx, hy, rfl⟩
 ·exact ⟨rfl, rfl, trivial⟩
 ·exact List.Perm.refl _
 ·intro a b hinv
  obtain ⟨ha, hb, hg⟩ := hinv
  refine hw_seq ?_
  refine hw_reg ?_
  refine dp rfl (pop_move rfl) ?_
  refine dp rfl (pop_neq rfl rfl) ?_
  refine dn ?_
  refine hw_cond rfl (fun h1 => ?_) (fun h2 => ?_)
  ·try simp at h1
   have hbn : b ≠ 0 := by simpa using h1
   have hb0 : 0 < b := by omega
   have hm0 := Int.tmod_nonneg b ha
   have hm1 := Int.tmod_lt_of_pos a hb0
   refine hw_skip ?_
   refine seqQ_n ?_
   refine hw_block ?_
   refine hw_draw1 (fun _ => True) [] mixed ?_
   refine ahp 0 rfl rfl (by kernel_rfl) (by kernel_rfl) (pop_move rfl) ?_
   refine ahp 1 rfl rfl (by kernel_rfl) (by kernel_rfl) (pop_move rfl) ?_
   refine ahp 2 rfl rfl (by kernel_rfl) (by kernel_rfl) (pop_move rfl) ?_
   refine ahp 3 rfl rfl (by kernel_rfl) (by kernel_rfl) (pop_rem rfl rfl (by omega)) ?_
   refine ahp 4 rfl rfl (by kernel_rfl) (by kernel_rfl) (pop_assign rfl) ?_
   refine ahp 5 rfl rfl (by kernel_rfl) (by kernel_rfl) (pop_assign rfl) ?_
   refine ahz (by kernel_rfl) ?_
   refine blockQ_n ?_
   refine ⟨b, a.tmod b, ?_, ?_, ⟨rfl, rfl, trivial⟩, (by repeat (first | exact keeps_refl | refine keeps_upd rfl ?_ | refine keeps_loop rfl rfl ?_)), List.Perm.refl _⟩
   ·exact ⟨hb, hm0, by rw [gcd_step ha hb0]; exact hg⟩
   ·dsimp only; omega
  ·try simp at h2
   have hb0 : b = 0 := by simpa using h2
   subst hb0
   rw [gcd_done ha] at hg
   refine hw_exit ?_
   refine seqQ_x ?_
   refine loopQ2_x ?_
   refine blockQ_eq ?_
   refine seqQ_n ?_
   refine hw_reg ?_
   refine dp rfl (pop_move rfl) ?_
   refine dp rfl (pop_assign rfl) ?_
   refine dn ?_
   refine hw_ret ?_
   refine ret_p rfl ?_
   show HVal.int .i64 _ = _
   rw [← hg]

/-- benchwarmer/base.Fraction -/
theorem c_base_Fraction [Tracks] {n d : Int} (hn : -9000000000000000000 ≤ n ∧ n ≤ 9000000000000000000) (hd : 0 < d ∧ d ≤ 9000000000000000000) : ConP Tryz.prog 40 [.int .i64 n, .int .i64 d] (eFrac (lowF n d)) := by
 refine Con.of_bodyc Tryz.func40 rfl Tryz.ntmps40 rfl rfl ?_
 refine hw_reg ?_
 refine de rfl (eop_alloc ty34 rfl fun b4 => ?_)
 refine dn ?_
 refine hw_reg ?_
 refine dp rfl (pop_move rfl) ?_
 refine dp rfl (pop_move rfl) ?_
 refine dp rfl (pop_neg64 rfl (by omega) (by omega)) ?_
 refine dp rfl (pop_eq (h' := .int .i64 (max n (-n))) (pop_max rfl rfl) (congrArg (HVal.int .i64) max_neg_ite)) ?_
 refine dp rfl (pop_move rfl) ?_
 refine dp rfl (pop_call ca70 rfl (WeakL.refl _) (c_base_Gcd (x := max n (-n)) (y := d) (by omega) (by omega))) ?_
 refine dp rfl (pop_assign rfl) ?_
 refine dn ?_
 have hgp := gcd_pos (a := max n (-n)) hd.1
 refine hw_draw (fun _ => True) [] mixed ?_
 refine ahp 0 rfl rfl (by kernel_rfl) (by kernel_rfl) (pop_move rfl) ?_
 refine ahp 1 rfl rfl (by kernel_rfl) (by kernel_rfl) (pop_move rfl) ?_
 refine ahp 2 rfl rfl (by kernel_rfl) (by kernel_rfl) (pop_quo64 rfl rfl (by omega) (by omega) (by omega)) ?_
 refine ahp 3 rfl rfl (by kernel_rfl) (by kernel_rfl) (pop_move rfl) ?_
 refine ahp 4 rfl rfl (by kernel_rfl) (by kernel_rfl) (pop_move rfl) ?_
 refine ahp 5 rfl rfl (by kernel_rfl) (by kernel_rfl) (pop_quo64 rfl rfl (by omega) (by omega) (by omega)) ?_
 refine ahp 6 rfl rfl (by kernel_rfl) (by kernel_rfl) (pop_build (cs := [_, _]) ty34 pl34 rfl) ?_
 refine ahe 7 rfl (by kernel_rfl) ?_
 refine hop_e0 (eop_storew ty34 rfl rfl rfl rfl rfl ?_)
 refine ⟨fun _ => .inl trivial, ?_⟩
 refine ahz (by kernel_rfl) ?_
 refine hw_ret ?_
 refine ⟨_, _, Ghost.fc0 4 rfl, [_], _, ⟨⟨_, _, _, _, _, rfl, ty34, .inr ⟨rfl, rfl, rfl⟩⟩, trivial⟩, Weak.refl _, ?_, rfl⟩
 rfl

/-- benchwarmer/benchref1.Lowest -/
theorem c_benchref1_Lowest [Tracks] {n d : Int} (hn : -9000000000000000000 ≤ n ∧ n ≤ 9000000000000000000) (hd : 0 < d ∧ d ≤ 9000000000000000000) : ConP Tryz.prog 32 [.int .i64 n, .int .i64 d] (eFrac (lowF n d)) := by
 refine Con.of_bodyc Tryz.func32 rfl Tryz.ntmps32 rfl rfl ?_
 refine hw_reg ?_
 refine de rfl (eop_alloc ty34 rfl fun b4 => ?_)
 refine dn ?_
 refine hw_reg ?_
 refine dp rfl (pop_move rfl) ?_
 refine dp rfl (pop_move rfl) ?_
 refine dp rfl (pop_neg64 rfl (by omega) (by omega)) ?_
 refine dp rfl (pop_eq (h' := .int .i64 (max n (-n))) (pop_max rfl rfl) (congrArg (HVal.int .i64) max_neg_ite)) ?_
 refine dp rfl (pop_move rfl) ?_
 refine dp rfl (pop_call ca66 rfl (WeakL.refl _) (c_benchref1_divisor (x := max n (-n)) (y := d) (by omega) (by omega))) ?_
 refine dp rfl (pop_assign rfl) ?_
 refine dn ?_
 have hgp := gcd_pos (a := max n (-n)) hd.1
 refine hw_draw (fun _ => True) [] mixed ?_
 refine ahp 0 rfl rfl (by kernel_rfl) (by kernel_rfl) (pop_move rfl) ?_
 refine ahp 1 rfl rfl (by kernel_rfl) (by kernel_rfl) (pop_move rfl) ?_
 refine ahp 2 rfl rfl (by kernel_rfl) (by kernel_rfl) (pop_quo64 rfl rfl (by omega) (by omega) (by omega)) ?_
 refine ahp 3 rfl rfl (by kernel_rfl) (by kernel_rfl) (pop_move rfl) ?_
 refine ahp 4 rfl rfl (by kernel_rfl) (by kernel_rfl) (pop_move rfl) ?_
 refine ahp 5 rfl rfl (by kernel_rfl) (by kernel_rfl) (pop_quo64 rfl rfl (by omega) (by omega) (by omega)) ?_
 refine ahp 6 rfl rfl (by kernel_rfl) (by kernel_rfl) (pop_build (cs := [_, _]) ty34 pl34 rfl) ?_
 refine ahe 7 rfl (by kernel_rfl) ?_
 refine hop_e0 (eop_storew ty34 rfl rfl rfl rfl rfl ?_)
 refine ⟨fun _ => .inl trivial, ?_⟩
 refine ahz (by kernel_rfl) ?_
 refine hw_ret ?_
 refine ⟨_, _, Ghost.fc0 4 rfl, [_], _, ⟨⟨_, _, _, _, _, rfl, ty34, .inr ⟨rfl, rfl, rfl⟩⟩, trivial⟩, Weak.refl _, ?_, rfl⟩
 rfl

/-- benchwarmer/value.product -/
theorem c_value_product [Tracks] {h : List HopeS} (hl : h.length ≤ 1000000) (ok : ∀ x ∈ h, HopeOk x) : ConP Tryz.prog 41 [eHopes h] (.int .i64 (prodP h 1)) := by
 refine Con.of_body Tryz.func41 rfl Tryz.ntmps41 rfl rfl ?_
 refine hw_reg ?_
 refine dp rfl (pop_assign rfl) ?_
 refine dn ?_
 refine hw_reg ?_
 refine dp rfl (pop_assign rfl) ?_
 refine dn ?_
 refine hw_seq ?_
 refine hw_reg ?_
 refine dp rfl (pop_move rfl) ?_
 refine dp rfl (pop_lenm ty26 rfl) ?_
 refine dp rfl (pop_move rfl) ?_
 refine dn ?_
 refine hw_block ?_
 refine hw_loopw2 [2, 3, 5, 6, 8, 11, 12, 13, 14, 15, 16, 17, 18, 19, 20, 21, 22, 23, 24, 25, 26, 27, 28, 29, 30, 31, 32] (fun (k : Nat) (n : Int) => [(11, .int .i64 k), (3, .int .i64 n)]) (fun (k : Nat) (n : Int) => []) (fun (k : Nat) (n : Int) => k ≤ h.length ∧ (1 ≤ n ∧ n ≤ most ∧ prodP h 1 = prodP (h.drop k) n)) (fun (k : Nat) (n : Int) => h.length - k) (0) (1) ?_ ?_ ?_ ?_
 ·exact ⟨Nat.zero_le _, by decide, by decide, rfl⟩
 ·exact ⟨rfl, rfl, trivial⟩
 ·exact List.Perm.refl _
 ·intro k n hinv
  obtain ⟨hk, hn0, hn1', hg⟩ := hinv
  refine hw_reg ?_
  refine dp rfl (pop_lss rfl rfl) ?_
  refine dn ?_
  refine hw_seq ?_
  refine hw_cond rfl (fun h1 => ?_) (fun h2 => ?_)
  ·try simp at h1
   obtain ⟨x, hx⟩ : ∃ x, h[k]? = some x := ⟨_, List.getElem?_eq_getElem h1⟩
   have hdx := drop_cons hx
   rw [hdx] at hg
   have hxo := ok x (List.mem_of_getElem? hx)
   have hxl := hxo.len
   have hxs := hxo.sum
   have hn1 : n ≤ most + 1 := by omega
   refine hw_skip ?_
   refine seqQ_n ?_
   refine hw_seq ?_
   refine hw_block ?_
   refine hw_reg ?_
   refine dp rfl (pop_idx ty26 ty49 rfl rfl rfl (by first | assumption | simp_all)) ?_
   refine dp rfl (pop_loadw ty49 rfl rfl rfl rfl) ?_
   refine de rfl (eop_alloc ty49 rfl fun b5 => ?_)
   refine de0 (eop_storew ty49 rfl rfl rfl rfl rfl ?_)
   refine dn ?_
   refine hw_ghost (Ghost.fc0 5 rfl) ?_
   refine hw_reg ?_
   refine dp rfl (pop_assign rfl) ?_
   refine dn ?_
   refine hw_seq ?_
   refine hw_reg ?_
   refine dp rfl (pop_fieldAddr ty49 rfl ty37 (by decide) rfl) ?_
   refine dp rfl (pop_load ty37 rfl rfl rfl) ?_
   refine dp rfl (pop_lenm ty37 rfl) ?_
   refine dp rfl (pop_move rfl) ?_
   refine dn ?_
   refine hw_block ?_
   refine hw_loopw [6, 8, 18, 19, 20, 21, 22, 23, 24, 25, 26] (fun (i : Nat) => [(18, .int .i64 i), (6, .int .i64 (sumW (x.Outs.take i)))]) (fun (i : Nat) => []) (fun (i : Nat) => i ≤ x.Outs.length ∧ (True)) (fun (i : Nat) => x.Outs.length - i) (0) ?_ ?_ ?_ ?_
   ·exact ⟨Nat.zero_le _, trivial⟩
   ·exact ⟨rfl, rfl, trivial⟩
   ·exact List.Perm.refl _
   ·intro i hinv
    obtain ⟨hi, -⟩ := hinv
    refine hw_reg ?_
    refine dp rfl (pop_lss rfl rfl) ?_
    refine dn ?_
    refine hw_seq ?_
    refine hw_cond rfl (fun h3 => ?_) (fun h4 => ?_)
    ·try simp at h3
     obtain ⟨y, hy⟩ : ∃ y, x.Outs[i]? = some y := ⟨_, List.getElem?_eq_getElem h3⟩
     have hdy := drop_cons hy
     have hsb := sumW_take hxo.bdw i
     have hsn : sumW (x.Outs.take (i + 1)) = sumW (x.Outs.take i) + y.Weight := by rw [take_snoc' hy, sumW_append]; simp [sumW]
     have hyb := (hxo.bd y (List.mem_of_getElem? hy)).2
     refine hw_skip ?_
     refine seqQ_n ?_
     refine hw_seq ?_
     refine hw_block ?_
     refine hw_reg ?_
     refine dp rfl (pop_idx ty37 ty44 rfl rfl rfl (by first | assumption | simp_all)) ?_
     refine dp rfl (pop_loadw ty44 rfl rfl rfl rfl) ?_
     refine de rfl (eop_alloc ty44 rfl fun b8 => ?_)
     refine de0 (eop_storew ty44 rfl rfl rfl rfl rfl ?_)
     refine dn ?_
     refine hw_ghost (Ghost.fc0 8 rfl) ?_
     refine hw_reg1 ?_
     refine dp rfl (pop_move rfl) ?_
     refine dp rfl (pop_fieldAddr ty44 rfl ty3 (by decide) rfl) ?_
     refine dp rfl (pop_load ty3 rfl rfl rfl) ?_
     refine dp rfl (pop_add64 rfl rfl (by omega) (by omega)) ?_
     refine dp rfl (pop_assign rfl) ?_
     refine dn ?_
     refine blockQ_n ?_
     refine seqQ_n ?_
     refine hw_reg1 ?_
     refine dp rfl (pop_add64 rfl rfl (by omega) (by omega)) ?_
     refine dp rfl (pop_move rfl) ?_
     refine dn ?_
     exact ⟨i + 1, ⟨by omega, trivial⟩, by dsimp only; omega, ⟨rfl, by rw [hsn]; rfl, trivial⟩, (by repeat (first | exact keeps_refl | refine keeps_upd rfl ?_ | refine keeps_loop rfl rfl ?_)), perm_eq rfl⟩
    ·try simp at h4
     have hni : x.Outs.length ≤ i := by omega
     obtain rfl : i = x.Outs.length := by omega
     rw [List.take_length]
     have hmr := mul_room hn0 hn1 hxs.1 hxs.2
     refine hw_exit ?_
     refine seqQ_x ?_
     refine loopQ_x ?_
     refine blockQ_eq ?_
     refine seqQ_n ?_
     refine hw_reg ?_
     refine dp rfl (pop_move rfl) ?_
     refine dp rfl (pop_move rfl) ?_
     refine dp rfl (pop_mul64 rfl rfl (by omega) (by omega)) ?_
     refine dp rfl (pop_assign rfl) ?_
     refine dn ?_
     refine hw_reg ?_
     refine dp rfl (pop_move rfl) ?_
     refine dp rfl (pop_gtr rfl rfl) ?_
     refine dn ?_
     refine hw_cond rfl (fun h5 => ?_) (fun h6 => ?_)
     ·try simp at h5
      refine hw_reg ?_
      refine dp rfl (pop_assign rfl) ?_
      refine dn ?_
      refine hw_ret ?_
      refine ret_p rfl ?_
      show HVal.int .i64 _ = _
      first
      | (rw [hg, prodP, if_pos (by simpa using h5)]; rfl)
      | (rw [hg]; rfl)
     ·try simp at h6
      refine hw_skip ?_
      refine blockQ_n ?_
      refine seqQ_n ?_
      refine hw_reg1 ?_
      refine dp rfl (pop_add64 rfl rfl (by omega) (by omega)) ?_
      refine dp rfl (pop_move rfl) ?_
      refine dn ?_
      refine ⟨k + 1, n * sumW x.Outs, ?_, ?_, ⟨rfl, rfl, trivial⟩, (by repeat (first | exact keeps_refl | refine keeps_upd rfl ?_ | refine keeps_loop rfl rfl ?_)), List.Perm.refl _⟩
      ·refine ⟨by omega, by omega, by simpa using h6, ?_⟩
       rw [hg, prodP, if_neg (by simpa using h6)]
      ·dsimp only; omega
  ·try simp at h2
   have hnk : h.length ≤ k := by omega
   obtain rfl : k = h.length := by omega
   rw [drop_all (Nat.le_refl _)] at hg
   refine hw_exit ?_
   refine seqQ_x ?_
   refine loopQ2_x ?_
   refine blockQ_eq ?_
   refine seqQ_n ?_
   refine hw_reg ?_
   refine dp rfl (pop_move rfl) ?_
   refine dp rfl (pop_assign rfl) ?_
   refine dn ?_
   refine hw_ret ?_
   refine ret_p rfl ?_
   show HVal.int .i64 _ = _
   first
   | (rw [hg, prodP, if_pos (by simpa using h5)]; rfl)
   | (rw [hg]; rfl)

/-- math/bits.Mul64 -/
theorem c_math_bits_Mul64 [Tracks] {m n : Int} (hm0 : 0 ≤ m) (hm1 : m < 1099511627776) (hn0 : 0 ≤ n) (hn1 : n < 1099511627776) : ConP Tryz.prog 53 [.int .u64 m, .int .u64 n] (.tup [.int .u64 (hiW (m * n)), .int .u64 (loW (m * n))]) := by
 have ma := m_bd hm0 hm1
 have na := m_bd hn0 hn1
 have h00 := mul_bds ma.1 na.1
 have h10 := mul_bds ma.2.1 na.1
 have h01 := mul_bds ma.1 na.2.1
 have h11 := mul_bds ma.2.1 na.2.1
 have hhi := mul64_hi hm0 hm1 hn0 hn1
 refine Con.of_body Tryz.func53 rfl Tryz.ntmps53 rfl rfl ?_
 refine hw_reg ?_
 refine dp rfl (pop_assign rfl) ?_
 refine dp rfl (pop_assign rfl) ?_
 refine dn ?_
 refine hw_reg ?_
 refine dp rfl (pop_move rfl) ?_
 refine dp rfl (pop_and32 rfl rfl (by omega) (by omega)) ?_
 refine dp rfl (pop_assign rfl) ?_
 refine dn ?_
 refine hw_reg ?_
 refine dp rfl (pop_move rfl) ?_
 refine dp rfl (pop_shr32 rfl rfl) ?_
 refine dp rfl (pop_assign rfl) ?_
 refine dn ?_
 refine hw_reg ?_
 refine dp rfl (pop_move rfl) ?_
 refine dp rfl (pop_and32 rfl rfl (by omega) (by omega)) ?_
 refine dp rfl (pop_assign rfl) ?_
 refine dn ?_
 refine hw_reg ?_
 refine dp rfl (pop_move rfl) ?_
 refine dp rfl (pop_shr32 rfl rfl) ?_
 refine dp rfl (pop_assign rfl) ?_
 refine dn ?_
 refine hw_reg ?_
 refine dp rfl (pop_move rfl) ?_
 refine dp rfl (pop_move rfl) ?_
 refine dp rfl (pop_mulu (m := half0 m) (n := half0 n) rfl rfl (by omega) (by omega)) ?_
 refine dp rfl (pop_assign rfl) ?_
 refine dn ?_
 refine hw_reg ?_
 refine dp rfl (pop_move rfl) ?_
 refine dp rfl (pop_move rfl) ?_
 refine dp rfl (pop_mulu (m := half1 m) (n := half0 n) rfl rfl (by omega) (by omega)) ?_
 refine dp rfl (pop_move rfl) ?_
 refine dp rfl (pop_shr32 (m := half0 m * half0 n) rfl rfl) ?_
 refine dp rfl (pop_addu (m := half1 m * half0 n) (n := half0 m * half0 n / 4294967296) rfl rfl (by omega) (by omega)) ?_
 refine dp rfl (pop_assign rfl) ?_
 refine dn ?_
 refine hw_reg ?_
 refine dp rfl (pop_move rfl) ?_
 refine dp rfl (pop_and32 (m := half1 m * half0 n + half0 m * half0 n / 4294967296) rfl rfl (by omega) (by omega)) ?_
 refine dp rfl (pop_assign rfl) ?_
 refine dn ?_
 refine hw_reg ?_
 refine dp rfl (pop_move rfl) ?_
 refine dp rfl (pop_shr32 (m := half1 m * half0 n + half0 m * half0 n / 4294967296) rfl rfl) ?_
 refine dp rfl (pop_assign rfl) ?_
 refine dn ?_
 refine hw_reg ?_
 refine dp rfl (pop_move rfl) ?_
 refine dp rfl (pop_move rfl) ?_
 refine dp rfl (pop_move rfl) ?_
 refine dp rfl (pop_mulu (m := half0 m) (n := half1 n) rfl rfl (by omega) (by omega)) ?_
 refine dp rfl (pop_addu (m := (half1 m * half0 n + half0 m * half0 n / 4294967296) % 4294967296) (n := half0 m * half1 n) rfl rfl (by omega) (by omega)) ?_
 refine dp rfl (pop_assign rfl) ?_
 refine dn ?_
 refine hw_reg ?_
 refine dp rfl (pop_move rfl) ?_
 refine dp rfl (pop_move rfl) ?_
 refine dp rfl (pop_mulu (m := half1 m) (n := half1 n) rfl rfl (by omega) (by omega)) ?_
 refine dp rfl (pop_move rfl) ?_
 refine dp rfl (pop_addu (m := half1 m * half1 n) (n := (half1 m * half0 n + half0 m * half0 n / 4294967296) / 4294967296) rfl rfl (by omega) (by omega)) ?_
 refine dp rfl (pop_move rfl) ?_
 refine dp rfl (pop_shr32 (m := (half1 m * half0 n + half0 m * half0 n / 4294967296) % 4294967296 + half0 m * half1 n) rfl rfl) ?_
 refine dp rfl (pop_addu (m := half1 m * half1 n + (half1 m * half0 n + half0 m * half0 n / 4294967296) / 4294967296) (n := ((half1 m * half0 n + half0 m * half0 n / 4294967296) % 4294967296 + half0 m * half1 n) / 4294967296) rfl rfl (by omega) (by omega)) ?_
 refine dp rfl (pop_assign rfl) ?_
 refine dn ?_
 refine hw_reg ?_
 refine dp rfl (pop_move rfl) ?_
 refine dp rfl (pop_move rfl) ?_
 refine dp rfl (pop_mullo (m := m) (n := n) rfl rfl) ?_
 refine dp rfl (pop_assign rfl) ?_
 refine dn ?_
 refine hw_ret ?_
 refine ret_p rfl ?_
 show HVal.tup [HVal.int .u64 _, HVal.int .u64 _] = _
 rw [hhi]
end Go.Proofs.YtbihpphgoaflfaaGreatDoor
end
section
namespace Go.Proofs.YtbihpphgoaflfaaGreatDoor
open Go.HL
set_option maxRecDepth 100000
set_option linter.unusedVariables false
set_option linter.unusedSimpArgs false
theorem ok3 [Tracks] : KeyOk Tryz.prog 3 (fun x : Int => HVal.int .i64 x) := keyOk_int ty3

set_option maxHeartbeats 1000000 in
/-- benchwarmer/value.spread -/
theorem c_value_spread [Tracks] {h : List HopeS} (hl : h.length ≤ 1000000) (ok : ∀ x ∈ h, HopeOk x) : Con Tryz.prog 39 [eHopes h] [] (fun x M' => ∃ (o : Option Nat) (L : NW), x = .tup [.raw (.map o), .int .i64 (spreadE h)] ∧ M' = mapO o L ∧ (spreadE h = 0 → ∃ b, o = some b ∧ L.Perm (cz h))) := by
 refine Con.of_body Tryz.func39 rfl Tryz.ntmps39 rfl rfl ?_
 refine hw_reg ?_
 refine dp rfl (pop_assign rfl) ?_
 refine dp rfl (pop_assign rfl) ?_
 refine dn ?_
 refine hw_seq ?_
 refine hw_reg ?_
 refine dp rfl (pop_move rfl) ?_
 refine dp rfl (pop_call ca41 rfl (WeakL.refl _) (c_value_product (by first | assumption | omega | (simp; omega) | simp_all) (by first | assumption | omega | (simp; omega) | simp_all))) ?_
 refine dp rfl (pop_gtr rfl rfl) ?_
 refine dn ?_
 refine hw_cond rfl (fun h1 => ?_) (fun h2 => ?_)
 ·try simp at h1
  refine hw_reg ?_
  refine dp rfl (pop_assign rfl) ?_
  refine dp rfl (pop_assign rfl) ?_
  refine dn ?_
  refine hw_ret ?_
  first
  | (have q : 1000000000000 < prodP h 1 := by simpa using h1
     have e : spreadE h = 12 := by rw [spreadE, if_pos q]
     exact ret_g Ghost.clear rfl ⟨none, [], by rw [e]; rfl, rfl, fun e0 => by omega⟩)
  | (have q : ¬ 1000000000000 < prodP h 1 := by omega
     have q2 : 20000 < (cz h).length := by
      have := hL.length_eq
      simp only [iM_len] at *
      omega
     have e : spreadE h = 12 := by rw [spreadE, if_neg q, if_pos q2]
     exact ret_g Ghost.clear rfl ⟨none, [], by rw [e]; rfl, rfl, fun e0 => by omega⟩)
  | (have q : ¬ 1000000000000 < prodP h 1 := by omega
     have q2 : ¬ 20000 < (cz h).length := by
      have := hL.length_eq
      simp only [iM_len] at *
      omega
     have e : spreadE h = 0 := by rw [spreadE, if_neg q, if_neg q2]
     exact ret_g (Ghost.perm (List.Perm.refl _)) rfl ⟨some b, L, by rw [e]; rfl, rfl, fun _ => ⟨b, rfl, hL⟩⟩)
 ·try simp at h2
  refine hw_skip ?_
  refine seqQ_n ?_
  have hpo := prodP_one ok
  have hpT : prodT h ≤ 1000000000000 := by
   have q : prodP h 1 ≤ 1000000000000 := by simpa using h2
   have := hpo.1 q
   omega
  refine hw_reg ?_
  refine de rfl (eop_makeMap fun m15 => ?_)
  refine de0 (EOp.insert (eop_updatekA (i := 0) (s := (0 : Int)) (v := (1 : Int)) (L := []) (ek := HVal.int .i64) (f := HVal.int .i64) ty68 ok3 rfl rfl rfl rfl ?_))
  refine dp rfl (pop_move rfl) ?_
  refine dp rfl (pop_assign rfl) ?_
  refine dn ?_
  refine hw_seq ?_
  refine hw_reg ?_
  refine dp rfl (pop_move rfl) ?_
  refine dp rfl (pop_lenm ty26 rfl) ?_
  refine dp rfl (pop_move rfl) ?_
  refine dn ?_
  refine hw_block ?_
  refine hw_loopw3 [4, 6, 7, 8, 9, 11, 19, 20, 21, 22, 23, 24, 25, 26, 27, 28, 29, 30, 31, 32, 33, 34, 35, 36, 37, 38, 39, 40, 41, 42, 43, 44, 45, 46, 47, 48, 49, 50, 51] (fun (k : Nat) (b : Nat) (L : NW) => [(19, .int .i64 k), (4, .raw (.map (some b)))]) (fun (k : Nat) (b : Nat) (L : NW) => [.map b (iM L)]) (fun (k : Nat) (b : Nat) (L : NW) => k ≤ h.length ∧ (L.Perm (cz (h.take k)))) (fun (k : Nat) (b : Nat) (L : NW) => h.length - k) (0) (m15) ([(0, 1)]) ?_ ?_ ?_ ?_
  ·exact ⟨Nat.zero_le _, List.Perm.refl _⟩
  ·exact ⟨rfl, rfl, trivial⟩
  ·exact List.Perm.refl _
  ·intro k b L hinv
   obtain ⟨hk, hL⟩ := hinv
   refine hw_reg ?_
   refine dp rfl (pop_lss rfl rfl) ?_
   refine dn ?_
   refine hw_seq ?_
   refine hw_cond rfl (fun h3 => ?_) (fun h4 => ?_)
   ·try simp at h3
    obtain ⟨x, hx⟩ : ∃ x, h[k]? = some x := ⟨_, List.getElem?_eq_getElem h3⟩
    have hdx := drop_cons hx
    have hxo := ok x (List.mem_of_getElem? hx)
    have hxl := hxo.len
    have hcz := cz_pos (take_ok ok k)
    have hLp : PosW L := fun p hp => hcz.1 p (hL.mem_iff.1 hp)
    have hLt : tot L = prodT (h.take k) := by rw [tot_perm hL, hcz.2]
    have hLb : BdP (100000 * (h.take k).length) L := fun p hp => cz_bd (take_ok ok k) p (hL.mem_iff.1 hp)
    have hkl : (h.take k).length ≤ 1000000 := by rw [List.length_take]; omega
    have hTk : tot L * sumW x.Outs ≤ 1000000000000 := by rw [hLt, ← prodT_snoc, ← take_snoc' hx]; have := (prodT_take ok (k + 1)).2; omega
    refine hw_skip ?_
    refine seqQ_n ?_
    refine hw_seq ?_
    refine hw_block ?_
    refine hw_reg ?_
    refine dp rfl (pop_idx ty26 ty49 rfl rfl rfl (by first | assumption | simp_all)) ?_
    refine dp rfl (pop_loadw ty49 rfl rfl rfl rfl) ?_
    refine de rfl (eop_alloc ty49 rfl fun b6 => ?_)
    refine de0 (eop_storew ty49 rfl rfl rfl rfl rfl ?_)
    refine dn ?_
    refine hw_ghost (Ghost.fc0 6 rfl) ?_
    refine hw_reg ?_
    refine de rfl (eop_makeMap fun m23 => ?_)
    refine dp rfl (pop_assign rfl) ?_
    refine dn ?_
    refine hw_seq ?_
    refine hw_reg ?_
    refine dp rfl (pop_move rfl) ?_
    refine de rfl (eop_range (i := 1) ty68 rfl rfl fun r => ?_)
    refine dn ?_
    refine hw_block ?_
    refine hw_loopw2 [8, 9, 11, 26, 27, 28, 29, 30, 31, 32, 33, 34, 35, 36, 37, 38, 39, 40, 41, 42, 43, 44, 45, 46, 47, 48, 49] (fun (vis : List Nat) (E : List (Int × Int)) => []) (fun (vis : List Nat) (E : List (Int × Int)) => [.map m23 (iM (sumM (expand E x.Outs))), .iter r b (iM L) vis]) (fun (vis : List Nat) (E : List (Int × Int)) => VisOk (L) vis E ∧ (True)) (fun (vis : List Nat) (E : List (Int × Int)) => (L).length - vis.length) ([]) ([]) ?_ ?_ ?_ ?_
    ·exact ⟨VisOk.nil _, trivial⟩
    ·exact trivial
    ·exact perm_eq rfl
    ·intro vis E hinv
     obtain ⟨hvis, -⟩ := hinv
     refine hw_reg ?_
     refine de rfl (eop_nextA (i := 1) (L := L) (enc := (fun p : Int × Int => (HVal.int .i64 p.1, HVal.int .i64 p.2))) rfl rfl (kk_em _ _ _) hvis.nd hvis.lt fun cb R vis' hnx => ?_)
     refine dp rfl (pop_extract rfl rfl) ?_
     refine dn ?_
     refine hw_seq ?_
     refine hw_cond rfl (fun h5 => ?_) (fun h6 => ?_)
     ·try simp at h5
      obtain ⟨j, q, hq, hj, rfl⟩ := hnx.t h5
      have hroom := hvis.room hq hj
      have hstep := hvis.step hq hj
      have hqm := List.mem_of_getElem? hq
      refine hw_skip ?_
      refine seqQ_n ?_
      refine hw_block ?_
      refine hw_reg ?_
      refine de rfl (eop_entryA (i := 1) (L := L) (enc := (fun p : Int × Int => (HVal.int .i64 p.1, HVal.int .i64 p.2))) rfl rfl (kk_em _ _ _) hq ?_)
      refine dp rfl (pop_extract rfl rfl) ?_
      refine dp rfl (pop_extract rfl rfl) ?_
      refine dp rfl (pop_assign rfl) ?_
      refine dp rfl (pop_assign rfl) ?_
      refine dn ?_
      refine hw_reg ?_
      refine dp rfl (pop_fieldAddr ty49 rfl ty37 (by decide) rfl) ?_
      refine dp rfl (pop_load ty37 rfl rfl rfl) ?_
      refine dp rfl (pop_lenm ty37 rfl) ?_
      refine dp rfl (pop_move rfl) ?_
      refine dn ?_
      refine hw_block ?_
      refine hw_loopw [11, 34, 35, 36, 37, 38, 39, 40, 41, 42, 43, 44, 45, 46, 47, 48, 49] (fun (i : Nat) => [(34, .int .i64 i)]) (fun (i : Nat) => [.map m23 (iM (sumM (expand E x.Outs ++ HL.one q (x.Outs.take i)))), .iter r b (iM L) (vis ++ [j])]) (fun (i : Nat) => i ≤ x.Outs.length ∧ (True)) (fun (i : Nat) => x.Outs.length - i) (0) ?_ ?_ ?_ ?_
      ·exact ⟨Nat.zero_le _, trivial⟩
      ·exact ⟨rfl, trivial⟩
      ·exact perm_eq (by simp [HL.one])
      ·intro i hinv
       obtain ⟨hi, -⟩ := hinv
       refine hw_reg ?_
       refine dp rfl (pop_lss rfl rfl) ?_
       refine dn ?_
       refine hw_seq ?_
       refine hw_cond rfl (fun h7 => ?_) (fun h8 => ?_)
       ·try simp at h7
        obtain ⟨y, hy⟩ : ∃ y, x.Outs[i]? = some y := ⟨_, List.getElem?_eq_getElem h7⟩
        have hdy := drop_cons hy
        have hmb := mid_bd hLp hxo.bdw hstep hy (q.1 + y.Points)
        have hqb := hLb q hqm
        have hyb := hxo.bd y (List.mem_of_getElem? hy)
        refine hw_skip ?_
        refine seqQ_n ?_
        refine hw_seq ?_
        refine hw_block ?_
        refine hw_reg ?_
        refine dp rfl (pop_idx ty37 ty44 rfl rfl rfl (by first | assumption | simp_all)) ?_
        refine dp rfl (pop_loadw ty44 rfl rfl rfl rfl) ?_
        refine de rfl (eop_alloc ty44 rfl fun b11 => ?_)
        refine de0 (eop_storew ty44 rfl rfl rfl rfl rfl ?_)
        refine dn ?_
        refine hw_ghost (Ghost.fc0 11 rfl) ?_
        refine hw_reg1 ?_
        refine dp rfl (pop_move rfl) ?_
        refine dp rfl (pop_move rfl) ?_
        refine dp rfl (pop_fieldAddr ty44 rfl ty3 (by decide) rfl) ?_
        refine dp rfl (pop_load ty3 rfl rfl rfl) ?_
        refine dp rfl (pop_add64 rfl rfl (by omega) (by omega)) ?_
        refine de rfl (eop_lookupkA (i := 0) (s := q.1 + y.Points) (z0 := (0 : Int)) (f := HVal.int .i64) (L := sumM (expand E x.Outs ++ HL.one q (x.Outs.take i))) ty68 ok3 ty3 rfl rfl rfl rfl ?_)
        refine dp rfl (pop_move rfl) ?_
        refine dp rfl (pop_fieldAddr ty44 rfl ty3 (by decide) rfl) ?_
        refine dp rfl (pop_load ty3 rfl rfl rfl) ?_
        refine dp rfl (pop_mul64 rfl rfl (by omega) (by omega)) ?_
        refine dp rfl (pop_add64 rfl rfl (by omega) (by omega)) ?_
        refine de0 (eop_updatekA (i := 0) (s := q.1 + y.Points) (v := (alk (q.1 + y.Points) (sumM (expand E x.Outs ++ HL.one q (x.Outs.take i)))).getD 0 + q.2 * y.Weight) (f := HVal.int .i64) (L := sumM (expand E x.Outs ++ HL.one q (x.Outs.take i))) ty68 ok3 rfl rfl rfl rfl ?_)
        refine dn ?_
        refine blockQ_n ?_
        refine seqQ_n ?_
        refine hw_reg1 ?_
        refine dp rfl (pop_add64 rfl rfl (by omega) (by omega)) ?_
        refine dp rfl (pop_move rfl) ?_
        refine dn ?_
        exact ⟨i + 1, ⟨by omega, trivial⟩, by dsimp only; omega, ⟨rfl, trivial⟩, (by repeat (first | exact keeps_refl | refine keeps_upd rfl ?_ | refine keeps_loop rfl rfl ?_)), perm_eq (by dsimp only; rw [one_snoc q hy, ← List.append_assoc, sumM_snoc]; rfl)⟩
       ·try simp at h8
        have hni : x.Outs.length ≤ i := by omega
        obtain rfl : i = x.Outs.length := by omega
        rw [List.take_length]
        refine hw_exit ?_
        refine seqQ_x ?_
        refine loopQ_x ?_
        refine blockQ_eq ?_
        refine blockQ_n ?_
        exact ⟨_, E ++ [q], ⟨hstep, trivial⟩, by dsimp only; rw [List.length_append]; simp only [List.length_cons, List.length_nil]; omega, trivial, (by repeat (first | exact keeps_refl | refine keeps_upd rfl ?_ | refine keeps_loop rfl rfl ?_)), perm_eq (by dsimp only; rw [expand_snoc])⟩
     ·try simp at h6
      obtain ⟨rfl, hlen⟩ := hnx.f h6
      have hEp := hvis.done hlen
      refine hw_exit ?_
      refine seqQ_x ?_
      refine loopQ2_x ?_
      refine blockQ_eq ?_
      refine seqQ_n ?_
      refine hw_ghost (Ghost.iterOver (i := 1) rfl) ?_
      refine hw_ghost (Ghost.of_eq (M' := [.map m23 (iM (sumM (expand E x.Outs))), .map b (iM L)]) rfl) ?_
      refine hw_ghost (Ghost.trans (Ghost.perm (List.Perm.swap _ _ _)) Ghost.drop) ?_
      refine hw_reg1 ?_
      refine dp rfl (pop_move rfl) ?_
      refine dp rfl (pop_assign rfl) ?_
      refine dn ?_
      refine blockQ_n ?_
      refine seqQ_n ?_
      refine hw_reg1 ?_
      refine dp rfl (pop_add64 rfl rfl (by omega) (by omega)) ?_
      refine dp rfl (pop_move rfl) ?_
      refine dn ?_
      exact ⟨k + 1, m23, sumM (expand E x.Outs), ⟨by omega, by rw [cz_snoc hx]; exact sumM_perm (expand_perm (hEp.trans hL) _)⟩, by dsimp only; omega, ⟨rfl, rfl, trivial⟩, (by repeat (first | exact keeps_refl | refine keeps_upd rfl ?_ | refine keeps_loop rfl rfl ?_)), perm_eq rfl⟩
   ·try simp at h4
    have hnk : h.length ≤ k := by omega
    obtain rfl : k = h.length := by omega
    rw [List.take_length] at hL
    refine hw_exit ?_
    refine seqQ_x ?_
    refine loopQ3_x ?_
    refine blockQ_eq ?_
    refine seqQ_n ?_
    refine hw_seq ?_
    refine hw_reg ?_
    refine dp rfl (pop_move rfl) ?_
    first
    | refine de rfl (eop_maplen (i := 0) ty68 rfl rfl ?_)
    | refine de rfl (eop_maplen (i := 1) ty68 rfl rfl ?_)
    | refine de rfl (eop_maplen (i := 2) ty68 rfl rfl ?_)
    | refine de rfl (eop_maplen (i := 3) ty68 rfl rfl ?_)
    refine dp rfl (pop_gtr rfl rfl) ?_
    refine dn ?_
    refine hw_cond rfl (fun h9 => ?_) (fun h10 => ?_)
    ·try simp at h9
     refine hw_reg ?_
     refine dp rfl (pop_assign rfl) ?_
     refine dp rfl (pop_assign rfl) ?_
     refine dn ?_
     refine hw_ret ?_
     first
     | (have q : 1000000000000 < prodP h 1 := by simpa using h1
        have e : spreadE h = 12 := by rw [spreadE, if_pos q]
        exact ret_g Ghost.clear rfl ⟨none, [], by rw [e]; rfl, rfl, fun e0 => by omega⟩)
     | (have q : ¬ 1000000000000 < prodP h 1 := by omega
        have q2 : 20000 < (cz h).length := by
         have := hL.length_eq
         simp only [iM_len] at *
         omega
        have e : spreadE h = 12 := by rw [spreadE, if_neg q, if_pos q2]
        exact ret_g Ghost.clear rfl ⟨none, [], by rw [e]; rfl, rfl, fun e0 => by omega⟩)
     | (have q : ¬ 1000000000000 < prodP h 1 := by omega
        have q2 : ¬ 20000 < (cz h).length := by
         have := hL.length_eq
         simp only [iM_len] at *
         omega
        have e : spreadE h = 0 := by rw [spreadE, if_neg q, if_neg q2]
        exact ret_g (Ghost.perm (List.Perm.refl _)) rfl ⟨some b, L, by rw [e]; rfl, rfl, fun _ => ⟨b, rfl, hL⟩⟩)
    ·try simp at h10
     refine hw_skip ?_
     refine seqQ_n ?_
     refine hw_reg ?_
     refine dp rfl (pop_move rfl) ?_
     refine dp rfl (pop_assign rfl) ?_
     refine dp rfl (pop_assign rfl) ?_
     refine dn ?_
     refine hw_ret ?_
     first
     | (have q : 1000000000000 < prodP h 1 := by simpa using h1
        have e : spreadE h = 12 := by rw [spreadE, if_pos q]
        exact ret_g Ghost.clear rfl ⟨none, [], by rw [e]; rfl, rfl, fun e0 => by omega⟩)
     | (have q : ¬ 1000000000000 < prodP h 1 := by omega
        have q2 : 20000 < (cz h).length := by
         have := hL.length_eq
         simp only [iM_len] at *
         omega
        have e : spreadE h = 12 := by rw [spreadE, if_neg q, if_pos q2]
        exact ret_g Ghost.clear rfl ⟨none, [], by rw [e]; rfl, rfl, fun e0 => by omega⟩)
     | (have q : ¬ 1000000000000 < prodP h 1 := by omega
        have q2 : ¬ 20000 < (cz h).length := by
         have := hL.length_eq
         simp only [iM_len] at *
         omega
        have e : spreadE h = 0 := by rw [spreadE, if_neg q, if_neg q2]
        exact ret_g (Ghost.perm (List.Perm.refl _)) rfl ⟨some b, L, by rw [e]; rfl, rfl, fun _ => ⟨b, rfl, hL⟩⟩)
end Go.Proofs.YtbihpphgoaflfaaGreatDoor
end
section
namespace Go.HL
def hE (h : List HopeS) : Int := if hopesE h ≠ 0 then hopesE h else spreadE h
theorem hE_bad {h : List HopeS} (e : hopesE h ≠ 0) : hE h = hopesE h := by rw [hE, if_pos e]
theorem hE_spread {h : List HopeS} (e : hopesE h = 0) : hE h = spreadE h := by rw [hE, if_neg (by rw [e]; simp)]
/-- Points that can be asked for. -/
def ptE (n : Int) : Int := if out n (-12000000) 12000000 then 1 else 0
def aboveE (h : List HopeS) (n : Int) : Int := if hE h ≠ 0 then hE h else ptE n
def aboveF (h : List HopeS) (n : Int) : FracS := if aboveE h n ≠ 0 then frac0 else lowF (aboveW n (cz h)) (prodP h 1)
theorem aboveE_bad {h : List HopeS} {n : Int} (e : hE h ≠ 0) : aboveE h n = hE h := by rw [aboveE, if_pos e]
theorem aboveE_pt {h : List HopeS} {n : Int} (e : hE h = 0) : aboveE h n = ptE n := by rw [aboveE, if_neg (by rw [e]; simp)]
theorem aboveF_bad {h : List HopeS} {n : Int} (e : aboveE h n ≠ 0) : aboveF h n = frac0 := by rw [aboveF, if_pos e]
theorem aboveF_ok {h : List HopeS} {n : Int} (e : aboveE h n = 0) : aboveF h n = lowF (aboveW n (cz h)) (prodP h 1) := by rw [aboveF, if_neg (by rw [e]; simp)]
theorem BdP.smallO {h : List HopeS} {L : NW} (hl : h.length ≤ 12) (ok : ∀ x ∈ h, HopeOk x) (hL : L.Perm (cz h)) : BdP 1200000 L := fun p hp => by
 have := cz_bd ok p (hL.mem_iff.1 hp)
 omega
theorem above_snoc (n : Int) (E : NW) (q : Int × Int) : aboveW n (E ++ [q]) = aboveW n E + if n ≤ q.1 then q.2 else 0 := by rw [aboveW_append]; simp [aboveW]
theorem above_mid {h : List HopeS} {L E : NW} {vis : List Nat} (n : Int) (h0 : hopesE h = 0) (h1 : spreadE h = 0) (hL : L.Perm (cz h)) (hv : VisOk L vis E) : 0 ≤ aboveW n E ∧ aboveW n E ≤ 1000000000000 ∧ ∀ p ∈ L, 1 ≤ p.2 ∧ p.2 ≤ 1000000000000 := by
 obtain ⟨hl, ok⟩ := hopes_ok h0
 have hp := spreadE_prod ok h1
 have hc := cz_pos ok
 have hP : PosW L := fun p hp => hc.1 p (hL.mem_iff.1 hp)
 have ht : tot L ≤ 1000000000000 := by rw [tot_perm hL, hc.2]; exact hp.2.2.1
 have a := aboveW_bd n (hP.sub hv)
 have a2 := (tot_vis hP hv).2
 exact ⟨a.1, by omega, fun p hp => ⟨hP p hp, by have := hP.le hp; omega⟩⟩
end Go.HL
end
section
namespace Go.Proofs.YtbihpphgoaflfaaGreatDoor
open Go.HL
set_option maxRecDepth 100000
set_option linter.unusedVariables false
set_option linter.unusedSimpArgs false
/-- benchwarmer/value.Above -/
theorem c_value_Above [Tracks] {h : List HopeS} {n : Int} (hl : h.length ≤ 1000000) (ho : ∀ x ∈ h, x.Outs.length ≤ 1000000) : ConP Tryz.prog 14 [eHopes h, .int .i64 n] (.tup [eFrac (aboveF h n), .int .i64 (aboveE h n)]) := by
 refine Con.of_bodyc Tryz.func14 rfl Tryz.ntmps14 rfl rfl ?_
 refine hw_reg ?_
 refine de rfl (eop_alloc ty34 rfl fun b4 => ?_)
 refine dp rfl (pop_assign rfl) ?_
 refine dn ?_
 refine hw_seq ?_
 refine hw_reg ?_
 refine dp rfl (pop_move rfl) ?_
 refine dp rfl (pop_call ca11 rfl (WeakL.refl _) (c_value_CheckHopes (by first | assumption | omega | (simp; omega) | simp_all) (by first | assumption | omega | (simp; omega) | simp_all))) ?_
 refine dp rfl (pop_assign rfl) ?_
 refine dn ?_
 refine hw_reg ?_
 refine dp rfl (pop_move rfl) ?_
 refine dp rfl (pop_neq rfl rfl) ?_
 refine dn ?_
 refine hw_cond rfl (fun h1 => ?_) (fun h2 => ?_)
 ·try simp at h1
  refine hw_reg ?_
  refine dp rfl (pop_build (cs := [_, _]) ty34 pl34 rfl) ?_
  refine dp rfl (pop_move rfl) ?_
  first
  | refine de0 (eop_store (i := 0) ty34 rfl rfl rfl rfl rfl (Nat.le_of_ble_eq_true rfl) ?_)
  | refine de0 (eop_store (i := 1) ty34 rfl rfl rfl rfl rfl (Nat.le_of_ble_eq_true rfl) ?_)
  | refine de0 (eop_store (i := 2) ty34 rfl rfl rfl rfl rfl (Nat.le_of_ble_eq_true rfl) ?_)
  | refine de0 (eop_store (i := 3) ty34 rfl rfl rfl rfl rfl (Nat.le_of_ble_eq_true rfl) ?_)
  refine dp rfl (pop_assign rfl) ?_
  refine dn ?_
  refine hw_ret ?_
  refine ⟨_, _, Ghost.fc0 4 rfl, [_, _], _, ⟨⟨_, _, _, _, _, rfl, ty34, .inr ⟨rfl, rfl, rfl⟩⟩, ⟨rfl, trivial⟩⟩, Weak.refl _, ?_, rfl⟩
  first
  | (have q := hmE; rw [aboveF_ok (by rw [aboveE_pt he0, hp0]), aboveE_pt he0, hp0, ← hmE]; rfl)
  | (have q := hpt; rw [aboveF_bad (by rw [aboveE_pt he0, hpt]; decide), aboveE_pt he0, hpt]; rfl)
  | (have q := hse
     have qq : hE h ≠ 0 := by rw [hE_spread h0]; exact hse
     rw [aboveF_bad (by rw [aboveE_bad qq]; exact qq), aboveE_bad qq, hE_spread h0]; rfl)
  | (have q : hopesE h ≠ 0 := by simpa using h1
     have qq : hE h ≠ 0 := by rw [hE_bad q]; exact q
     rw [aboveF_bad (by rw [aboveE_bad qq]; exact qq), aboveE_bad qq, hE_bad q]; rfl)
 ·try simp at h2
  refine hw_skip ?_
  refine seqQ_n ?_
  have h0 : hopesE h = 0 := by simpa using h2
  obtain ⟨hl12, ok⟩ := hopes_ok h0
  refine hw_reg ?_
  refine dp rfl (pop_move rfl) ?_
  refine de rfl (eop_callf (M1 := []) (R := _) ca39 rfl (WeakL.refl _) (List.Perm.refl _) (c_value_spread (h := h) hl ok) ?_)
  rintro _ _ ⟨o, L, rfl, rfl, hoL⟩
  refine dp rfl (pop_move rfl) ?_
  refine dp rfl (pop_extract rfl rfl) ?_
  refine dp rfl (pop_extract rfl rfl) ?_
  refine dp rfl (pop_assign rfl) ?_
  refine dp rfl (pop_assign rfl) ?_
  refine dn ?_
  refine hw_seq ?_
  refine hw_reg ?_
  refine dp rfl (pop_move rfl) ?_
  refine dp rfl (pop_neq rfl rfl) ?_
  refine dn ?_
  refine hw_cond rfl (fun h3 => ?_) (fun h4 => ?_)
  ·try simp at h3
   have hse : spreadE h ≠ 0 := by simpa using h3
   refine hw_ghost (Ghost.last (R := mapO o L)) ?_
   refine hw_reg ?_
   refine dp rfl (pop_build (cs := [_, _]) ty34 pl34 rfl) ?_
   refine dp rfl (pop_move rfl) ?_
   first
   | refine de0 (eop_store (i := 0) ty34 rfl rfl rfl rfl rfl (Nat.le_of_ble_eq_true rfl) ?_)
   | refine de0 (eop_store (i := 1) ty34 rfl rfl rfl rfl rfl (Nat.le_of_ble_eq_true rfl) ?_)
   | refine de0 (eop_store (i := 2) ty34 rfl rfl rfl rfl rfl (Nat.le_of_ble_eq_true rfl) ?_)
   | refine de0 (eop_store (i := 3) ty34 rfl rfl rfl rfl rfl (Nat.le_of_ble_eq_true rfl) ?_)
   refine dp rfl (pop_assign rfl) ?_
   refine dn ?_
   refine hw_ret ?_
   refine ⟨_, _, Ghost.fc0 4 rfl, [_, _], _, ⟨⟨_, _, _, _, _, rfl, ty34, .inr ⟨rfl, rfl, rfl⟩⟩, ⟨rfl, trivial⟩⟩, Weak.refl _, ?_, rfl⟩
   first
   | (have q := hmE; rw [aboveF_ok (by rw [aboveE_pt he0, hp0]), aboveE_pt he0, hp0, ← hmE]; rfl)
   | (have q := hpt; rw [aboveF_bad (by rw [aboveE_pt he0, hpt]; decide), aboveE_pt he0, hpt]; rfl)
   | (have q := hse
      have qq : hE h ≠ 0 := by rw [hE_spread h0]; exact hse
      rw [aboveF_bad (by rw [aboveE_bad qq]; exact qq), aboveE_bad qq, hE_spread h0]; rfl)
   | (have q : hopesE h ≠ 0 := by simpa using h1
      have qq : hE h ≠ 0 := by rw [hE_bad q]; exact q
      rw [aboveF_bad (by rw [aboveE_bad qq]; exact qq), aboveE_bad qq, hE_bad q]; rfl)
  ·try simp at h4
   refine hw_skip ?_
   refine seqQ_n ?_
   refine hw_seq ?_
   have hs0 : spreadE h = 0 := by simpa using h4
   obtain ⟨b, rfl, hL⟩ := hoL hs0
   have hpp := spreadE_prod ok hs0
   have hpl : prodT h ≤ 1000000000000 := hpp.2.2.1
   refine hw_ghost (Ghost.of_eq (M' := [.map b (iM L), .cells b4 [.int .i64 0, .int .i64 0]]) rfl) ?_
   refine hw_reg ?_
   refine dp rfl (pop_assign rfl) ?_
   refine dn ?_
   have he0 : hE h = 0 := by rw [hE_spread h0, hs0]
   refine hw_reg ?_
   refine dp rfl (pop_move rfl) ?_
   refine dp rfl (pop_move rfl) ?_
   refine dp rfl (pop_neg64 rfl (by omega) (by omega)) ?_
   refine dp rfl (pop_move rfl) ?_
   refine dp rfl (pop_call ca38 rfl (WeakL.refl _) c_base_Out) ?_
   refine dn ?_
   refine hw_cond rfl (fun h5 => ?_) (fun h6 => ?_)
   ·try simp at h5
    have hpt : ptE n = 1 := by rw [ptE, if_pos (by simpa using h5)]
    refine hw_ghost Ghost.drop ?_
    refine hw_reg ?_
    refine dp rfl (pop_build (cs := [_, _]) ty34 pl34 rfl) ?_
    first
    | refine de0 (eop_store (i := 0) ty34 rfl rfl rfl rfl rfl (Nat.le_of_ble_eq_true rfl) ?_)
    | refine de0 (eop_store (i := 1) ty34 rfl rfl rfl rfl rfl (Nat.le_of_ble_eq_true rfl) ?_)
    | refine de0 (eop_store (i := 2) ty34 rfl rfl rfl rfl rfl (Nat.le_of_ble_eq_true rfl) ?_)
    | refine de0 (eop_store (i := 3) ty34 rfl rfl rfl rfl rfl (Nat.le_of_ble_eq_true rfl) ?_)
    refine dp rfl (pop_assign rfl) ?_
    refine dn ?_
    refine hw_ret ?_
    refine ⟨_, _, Ghost.fc0 4 rfl, [_, _], _, ⟨⟨_, _, _, _, _, rfl, ty34, .inr ⟨rfl, rfl, rfl⟩⟩, ⟨rfl, trivial⟩⟩, Weak.refl _, ?_, rfl⟩
    first
    | (have q := hmE; rw [aboveF_ok (by rw [aboveE_pt he0, hp0]), aboveE_pt he0, hp0, ← hmE]; rfl)
    | (have q := hpt; rw [aboveF_bad (by rw [aboveE_pt he0, hpt]; decide), aboveE_pt he0, hpt]; rfl)
    | (have q := hse
       have qq : hE h ≠ 0 := by rw [hE_spread h0]; exact hse
       rw [aboveF_bad (by rw [aboveE_bad qq]; exact qq), aboveE_bad qq, hE_spread h0]; rfl)
    | (have q : hopesE h ≠ 0 := by simpa using h1
       have qq : hE h ≠ 0 := by rw [hE_bad q]; exact q
       rw [aboveF_bad (by rw [aboveE_bad qq]; exact qq), aboveE_bad qq, hE_bad q]; rfl)
   ·try simp at h6
    refine hw_skip ?_
    refine seqQ_n ?_
    have hp0 : ptE n = 0 := by rw [ptE, if_neg (by simpa using h6)]
    refine hw_reg ?_
    refine dp rfl (pop_assign rfl) ?_
    refine dn ?_
    refine hw_seq ?_
    refine hw_reg ?_
    refine dp rfl (pop_move rfl) ?_
    refine de rfl (eop_range (i := 0) ty68 rfl rfl fun r => ?_)
    refine dn ?_
    refine hw_block ?_
    refine hw_loopw2 [10, 11, 12, 36, 37, 38, 39, 40, 41, 42, 43, 44, 45, 46] (fun (vis : List Nat) (E : List (Int × Int)) => [(10, .int .i64 (aboveW n E))]) (fun (vis : List Nat) (E : List (Int × Int)) => [.iter r b (iM L) vis, .cells b4 [.int .i64 0, .int .i64 0]]) (fun (vis : List Nat) (E : List (Int × Int)) => VisOk (L) vis E ∧ (True)) (fun (vis : List Nat) (E : List (Int × Int)) => (L).length - vis.length) ([]) ([]) ?_ ?_ ?_ ?_
    ·exact ⟨VisOk.nil _, trivial⟩
    ·exact ⟨rfl, trivial⟩
    ·exact perm_eq rfl
    ·intro vis E hinv
     obtain ⟨hvis, -⟩ := hinv
     refine hw_reg ?_
     refine de rfl (eop_nextA (i := 0) (L := L) (enc := (fun p : Int × Int => (HVal.int .i64 p.1, HVal.int .i64 p.2))) rfl rfl (kk_em _ _ _) hvis.nd hvis.lt fun cb R vis' hnx => ?_)
     refine dp rfl (pop_extract rfl rfl) ?_
     refine dn ?_
     refine hw_seq ?_
     refine hw_cond rfl (fun h7 => ?_) (fun h8 => ?_)
     ·try simp at h7
      obtain ⟨j, q, hq, hj, rfl⟩ := hnx.t h7
      have hroom := hvis.room hq hj
      have hstep := hvis.step hq hj
      have hqm := List.mem_of_getElem? hq
      have hmm := above_mid n h0 hs0 hL hvis
      have hqq := hmm.2.2 q hqm
      refine hw_skip ?_
      refine seqQ_n ?_
      refine hw_block ?_
      refine hw_reg ?_
      refine de rfl (eop_entryA (i := 0) (L := L) (enc := (fun p : Int × Int => (HVal.int .i64 p.1, HVal.int .i64 p.2))) rfl rfl (kk_em _ _ _) hq ?_)
      refine dp rfl (pop_extract rfl rfl) ?_
      refine dp rfl (pop_extract rfl rfl) ?_
      refine dp rfl (pop_assign rfl) ?_
      refine dp rfl (pop_assign rfl) ?_
      refine dn ?_
      refine hw_reg ?_
      refine dp rfl (pop_move rfl) ?_
      refine dp rfl (pop_move rfl) ?_
      refine dp rfl (pop_geq rfl rfl) ?_
      refine dn ?_
      refine hw_cond rfl (fun h9 => ?_) (fun h10 => ?_)
      ·try simp at h9
       refine hw_reg1 ?_
       refine dp rfl (pop_move rfl) ?_
       refine dp rfl (pop_move rfl) ?_
       refine dp rfl (pop_add64 rfl rfl (by omega) (by omega)) ?_
       refine dp rfl (pop_assign rfl) ?_
       refine dn ?_
       refine blockQ_n ?_
       exact ⟨_, E ++ [q], ⟨hstep, trivial⟩, by dsimp only; rw [List.length_append]; simp only [List.length_cons, List.length_nil]; omega, ⟨by rw [above_snoc, if_pos (by simpa using h9)]; rfl, trivial⟩, (by repeat (first | exact keeps_refl | refine keeps_upd rfl ?_ | refine keeps_loop rfl rfl ?_)), perm_eq rfl⟩
      ·try simp at h10
       refine hw_skip ?_
       refine blockQ_n ?_
       exact ⟨_, E ++ [q], ⟨hstep, trivial⟩, by dsimp only; rw [List.length_append]; simp only [List.length_cons, List.length_nil]; omega, ⟨by rw [above_snoc, if_neg (by omega), Int.add_zero]; rfl, trivial⟩, (by repeat (first | exact keeps_refl | refine keeps_upd rfl ?_ | refine keeps_loop rfl rfl ?_)), perm_eq rfl⟩
     ·try simp at h8
      obtain ⟨rfl, hlen⟩ := hnx.f h8
      have hEp := hvis.done hlen
      refine hw_exit ?_
      refine seqQ_x ?_
      refine loopQ2_x ?_
      refine blockQ_eq ?_
      refine seqQ_n ?_
      refine hw_ghost (Ghost.iterOver (i := 0) rfl) ?_
      refine hw_ghost (Ghost.of_eq (M' := [.map b (iM L), .cells b4 [.int .i64 0, .int .i64 0]]) rfl) ?_
      refine hw_ghost Ghost.drop ?_
      have hmE : aboveW n E = aboveW n (cz h) := aboveW_perm (hEp.trans hL)
      have hma := above_mid n h0 hs0 hL hvis
      refine hw_reg ?_
      refine dp rfl (pop_move rfl) ?_
      refine dp rfl (pop_move rfl) ?_
      refine dp rfl (pop_call ca41 rfl (WeakL.refl _) (c_value_product (by first | assumption | omega | (simp; omega) | simp_all) (by first | assumption | omega | (simp; omega) | simp_all))) ?_
      refine dp rfl (pop_call ca40 rfl (WeakL.refl _) (c_base_Fraction (n := (aboveW n E)) (d := prodP h 1) (by omega) (by omega))) ?_
      first
      | refine de0 (eop_store (i := 0) ty34 rfl rfl rfl rfl rfl (Nat.le_of_ble_eq_true rfl) ?_)
      | refine de0 (eop_store (i := 1) ty34 rfl rfl rfl rfl rfl (Nat.le_of_ble_eq_true rfl) ?_)
      | refine de0 (eop_store (i := 2) ty34 rfl rfl rfl rfl rfl (Nat.le_of_ble_eq_true rfl) ?_)
      | refine de0 (eop_store (i := 3) ty34 rfl rfl rfl rfl rfl (Nat.le_of_ble_eq_true rfl) ?_)
      refine dp rfl (pop_assign rfl) ?_
      refine dn ?_
      refine hw_ret ?_
      refine ⟨_, _, Ghost.fc0 4 rfl, [_, _], _, ⟨⟨_, _, _, _, _, rfl, ty34, .inr ⟨rfl, rfl, rfl⟩⟩, ⟨rfl, trivial⟩⟩, Weak.refl _, ?_, rfl⟩
      first
      | (have q := hmE; rw [aboveF_ok (by rw [aboveE_pt he0, hp0]), aboveE_pt he0, hp0, ← hmE]; rfl)
      | (have q := hpt; rw [aboveF_bad (by rw [aboveE_pt he0, hpt]; decide), aboveE_pt he0, hpt]; rfl)
      | (have q := hse
         have qq : hE h ≠ 0 := by rw [hE_spread h0]; exact hse
         rw [aboveF_bad (by rw [aboveE_bad qq]; exact qq), aboveE_bad qq, hE_spread h0]; rfl)
      | (have q : hopesE h ≠ 0 := by simpa using h1
         have qq : hE h ≠ 0 := by rw [hE_bad q]; exact q
         rw [aboveF_bad (by rw [aboveE_bad qq]; exact qq), aboveE_bad qq, hE_bad q]; rfl)
end Go.Proofs.YtbihpphgoaflfaaGreatDoor
end
section
namespace Go.HL
open Go.Proofs Go.RowKit Go.Maps Go.Sort Go.Shelf
section
variable {P : Program}
theorem map_keysI {I : Imm} {w : World} {b : Nat} {α : Type} {f : α → HVal} {L : List (Int × α)} (hm : MSat I w (.map b (kk (HVal.int .i64) (em f L)))) :
 ∃ es clk, w.heap[b]? = some (.map es clk) ∧ BornOk es clk ∧ es.size = L.length ∧ es.toList.map (·.key) = L.map fun p => encZ p.1 := by
 obtain ⟨es, clk, h1, ⟨h2, h4⟩, h3⟩ := hm
 have hl : es.size = L.length := by rw [h2]; simp [kk]
 refine ⟨es, clk, h1, h4, hl, List.ext_getElem? fun i => ?_⟩
 rw [List.getElem?_map, List.getElem?_map]
 rcases Nat.lt_or_ge i L.length with h | h
 ·have a1 : L[i]? = some L[i] := List.getElem?_eq_getElem h
  have a2 : es[i]? = some es[i] := Array.getElem?_eq_getElem (by omega)
  have a3 : (kk (HVal.int .i64) (em f L))[i]? = some (.int .i64 L[i].1, f L[i].2) := by simp [kk, a1]
  have a4 := (h3 i _ _ a3 a2).1.int_inv
  rw [a1, Array.getElem?_toList, a2]
  simp only [Option.map_some, Option.some.injEq]
  rw [a4]
  try rfl
 ·rw [List.getElem?_eq_none h, List.getElem?_eq_none (by rw [Array.length_toList]; omega)]; rfl
theorem owns_of_mapI {I : Imm} {w : World} {b : Nat} {α : Type} {f : α → HVal} {L : List (Int × α)} {k : TypeId} (hk : P.underlying k = some (.int .i64)) (hm : MSat I w (.map b (kk (HVal.int .i64) (em f L)))) (hn : ANodup L)
 (hl : ∀ p ∈ L, (-4611686018427387904 ≤ p.1 ∧ p.1 ≤ 4611686018427387904)) (hs : L.length ≤ 1000000) : ∃ D : DataW Unit, w.ownsMap P k (anyR Unit) b L.length D ∧ (intKeys D).Perm (L.map (·.1)) ∧ Maps.size D = L.length := by
 obtain ⟨es, clk, h1, h2, h3, h4⟩ := map_keysI hm
 have hx : ∀ x ∈ es.toList, ∃ p ∈ L, x.key = encZ p.1 := fun x hx => by
  have := List.mem_map_of_mem (f := (·.key)) hx
  rw [h4] at this
  obtain ⟨p, hp, e⟩ := List.mem_map.1 this
  exact ⟨p, hp, e.symm⟩
 have hrd : ∀ x ∈ es.toList, ∀ p ∈ L, x.key = encZ p.1 → WideElems.rd P k (anyR Unit) x = some (.int .i64 p.1, .nil) := fun x _ p hp e => by
  have := hl p hp
  have hw : (Lit.int .i64 p.1).wf = true := by
   show (decide (IntKind.i64.min ≤ p.1) && decide (p.1 ≤ IntKind.i64.max)) = true
   rw [Bool.and_eq_true, decide_eq_true_eq, decide_eq_true_eq]
   have h1 : IntKind.i64.min = -9223372036854775808 := rfl
   have h2 : IntKind.i64.max = 9223372036854775807 := rfl
   omega
  have := keyOf_int_mk (P := P) (k := k) hk (a := p.1) hw
  simp [WideElems.rd, e, anyR, this]
 have hkeys : es.toList.map (fun x => intOf (WideElems.rg P k (anyR Unit) x).1) = L.map (·.1) := by
  have e2 : es.toList.map (fun x => intOf (WideElems.rg P k (anyR Unit) x).1) = (es.toList.map (·.key)).map fun v => match v with | .int _ z => z | _ => 0 := by
   rw [List.map_map]
   refine List.map_congr_left fun x hx' => ?_
   obtain ⟨p, hp, e⟩ := hx x hx'
   rw [WideElems.rg_of (hrd x hx' p hp e)]
   simp [e, encZ, intOf]
  rw [e2, h4, List.map_map]
  refine List.map_congr_left fun p _ => ?_
  simp [encZ]
 have hml : maxLen = 9223372036854775807 := by rfl
 refine ⟨_, ⟨es, clk, h1, ⟨by omega, ⟨fun x hx' => ?_, nodup_born h2, ?_⟩, fun x hx' => ?_⟩, by omega, rfl⟩, ?_, ?_⟩
 ·obtain ⟨i, hi⟩ := List.getElem?_of_mem hx'
  exact h2.1 i x (by simpa using hi)
 ·rw [h4]
  have : (L.map fun p => encZ p.1) = (L.map (·.1)).map encZ := by rw [List.map_map]; rfl
  rw [this]
  exact List.Pairwise.map encZ (fun a b hab e => hab (encZ_inj e)) hn
 ·obtain ⟨p, hp, e⟩ := hx x hx'
  exact ⟨_, hrd x hx' p hp e⟩
 ·show ((List.foldr DataW.insert [] _).map fun p => intOf p.1).Perm _
  rw [← hkeys]
  have := (WideShapes.sorted_perm (es.toList.map (WideElems.rg P k (anyR Unit)))).map fun p => intOf p.1
  rw [List.map_map] at this
  exact this
 ·show (List.foldr DataW.insert [] _).length = _
  rw [(WideShapes.sorted_perm _).length_eq, List.length_map, Array.length_toList, h3]
theorem con_keysI [Tracks] {ρ : Ren} (L : SlLaysZI.n7 P ρ) {b : Nat} : Con P (ρ.f 7) [.raw (.map (some b))] [] fun x M' => ∃ bx, x = .fn (.func (ρ.f 10)) [] [.raw (.pointer (some ⟨bx, 0, none⟩))] ∧ M' = [.cells bx [.raw (.map (some b))]] := by
 intro I F w args ha hs
 obtain ⟨u, rfl, hu⟩ := ha.one
 obtain rfl := hu.raw_inv
 refine ((callsIn_wide (n := 1)).1 (AnyZI.keys_in L Fence.wide 1 trivial rfl (some b) w)).mono ?_
 rintro _ w' ⟨rfl, rfl⟩
 refine ⟨_, _, _, I, rfl, .refl I, ⟨w.heap.size, rfl, rfl⟩, .fn rfl rfl (fun j c v h _ => by simp at h) (fun j c v h1 h2 => ?_), ?_⟩
 ·exact (VL.cons (.raw _ rfl) VL.nil : VL I [.raw (.pointer (some ⟨w.heap.size, 0, none⟩))] [.pointer (some ⟨w.heap.size, 0, none⟩)]).2 j c v h1 (by simpa using h2)
 ·exact hs.new_own _ _ rfl ⟨#[.map (some b)], ρ.t 23, (0, 0), by simp, Free.zero _, VL.cons (.raw _ rfl) VL.nil⟩
theorem con_sortedI [Tracks] (hT : Tracks.on = false) {ρ ρk : Ren} (L : SlLaysZI.n6 P ρ) (Lk : SlLaysZI.n7 P ρk) (hsort : ∀ m, AnyZI.SortsIn P ρ Fence.wide m)
 (e9 : ∀ args w, (callFunc (ρ.f 9) args).run P w = .ok (.enter (ρ.f 9) args) w) (eg : ∀ args w, (callFunc (ρk.f 10) args).run P w = .ok (.enter (ρk.f 10) args) w)
 {α : Type} {f : α → HVal} {l : List (Int × α)} (hn : ANodup l) (hl : ∀ p ∈ l, (-4611686018427387904 ≤ p.1 ∧ p.1 ≤ 4611686018427387904)) (hs : l.length ≤ 1000000) {b bx : Nat} :
 Con P (ρ.f 6) [.fn (.func (ρk.f 10)) [] [.raw (.pointer (some ⟨bx, 0, none⟩))]] [.cells bx [.raw (.map (some b))], .map b (kk (HVal.int .i64) (em f l))] fun x M' => ∃ v, x = .raw v ∧ M' = [.arr v 1 ((sortI (l.map (·.1))).map (.int .i64)), .map b (kk (HVal.int .i64) (em f l))] := by
 intro I F w args ha hsat
 obtain ⟨u, rfl, hu⟩ := ha.one
 obtain ⟨v1, v2, rfl, hv1, hv2, hc⟩ : ∃ v1 v2, u = .func (.func (ρk.f 10)) v1 v2 ∧ v1 = #[] ∧ v2.size = 1 ∧ ∀ (j : Nat) (c : HVal) (v : Value), [HVal.raw (.pointer (some ⟨bx, 0, none⟩))][j]? = some c → v2[j]? = some v → V I c v := by
  cases hu with
  | fn h1 h2 h3 h4 => exact ⟨_, _, rfl, Array.eq_empty_of_size_eq_zero (by simpa using h1), by simpa using h2, h4⟩
 subst hv1
 obtain rfl : v2 = #[.pointer (some ⟨bx, 0, none⟩)] := by
  match v2, hv2 with
  | ⟨[y]⟩, _ => have := (hc 0 _ y rfl rfl).raw_inv; rw [this]
 obtain ⟨rc, el, fr, c1, c2, c3⟩ := hsat.obj (.cells bx [.raw (.map (some b))]) (by simp)
 have hmap := hsat.obj (.map b (kk (HVal.int .i64) (em f l))) (by simp)
 obtain ⟨D, d1, d2, d3⟩ := owns_of_mapI (k := ρk.t 26) (by exact Lk.t26) hmap hn hl hs
 have hbx : bx < w.heap.size := (Array.getElem?_eq_some_iff.1 c1).1
 have hcell : w.cell? ⟨bx, 0, none⟩ = some (.map (some b)) := by
  have := c3.1
  match rc, this, c1, c3 with
  | ⟨[y]⟩, _, c1, c3 =>
    have hy := c3.head.raw_inv
    subst hy
    simp [World.cell?, c1]
 have hseq := AnyZI.keys_gives (ρ := ρk) { Lk with } Fence.wide 2 trivial rfl (by omega) bx b l.length D w hbx hcell d1
 have cS := AnyZI.sorted_in L Fence.wide 5 trivial trivial trivial trivial rfl (by omega) (hsort _) e9 (ρk.f 10) #[.pointer (some ⟨bx, 0, none⟩)] trivial eg _ _ (by rw [d3]; exact Nat.le_trans hs (by decide)) (by rw [d3]; omega) w hseq
 refine ((callsIn_wide (n := 5)).1 cS).mono ?_
 rintro e w' ⟨v, ss, rfl, hS, hrow, hnil, hb⟩
 have hss : (ss.mergeSort fun x y => decide (x ≤ y)) = sortI (l.map (·.1)) := mergeSort_of_perm_i (hS.trans d2)
 rw [hss] at hrow
 have hlen : ss.length = (sortI (l.map (·.1))).length := by rw [sortI_len, (hS.trans d2).length_eq]
 have hmem : MSat I w' (.arr v 1 ((sortI (l.map (·.1))).map (.int .i64))) := by
  rcases hrow.2 with ⟨rfl, hz⟩ | ⟨gb, cap, cur, rfl, hbase, hgb, r1, r2, r3, r4⟩
  ·refine .inl ⟨rfl, ?_⟩
   have : sortI (l.map (·.1)) = [] := List.length_eq_zero_iff.1 (by omega)
   rw [this]; rfl
  ·refine .inr ⟨gb, 0, cap, cur, _, _, by rw [List.length_map, ← hlen], hgb, Free.zero _, fun e he => ?_, ⟨by rw [List.length_map]; omega, Nat.le_trans r2 (by decide)⟩, by omega, fun i j e c y h1 h2 h3 => ?_⟩
   ·obtain ⟨s, _, rfl⟩ := List.mem_map.1 he; rfl
   ·rw [List.getElem?_map] at h1
    cases hq : (sortI (l.map (·.1)))[i]? with
    | none => rw [hq] at h1; cases h1
    | some s =>
      rw [hq] at h1
      simp only [Option.map_some, Option.some.injEq] at h1
      subst h1
      have hj : j = 0 := by
       cases j with
       | zero => rfl
       | succ j => simp [hcells] at h2
      subst hj
      simp only [hcells, List.getElem?_cons_zero, Option.some.injEq] at h2
      subst h2
      have hi := lt_of_get hq
      have h4 : (cur.toList.take (ss.length * 1))[i]? = some (encZ s) := by rw [r4, List.getElem?_map, hq]; rfl
      rw [List.getElem?_take_of_lt (by omega), Array.getElem?_toList] at h4
      have e0 : 0 + i * 1 + 0 = i := by omega
      rw [e0, h4] at h3
      cases h3
      exact .int _ s
 have hown : ∀ k, v.ownBlock = some k → w.heap.size ≤ k ∧ k < w'.heap.size := hrow.lt
 refine ⟨v, .raw v, _, I, rfl, .refl I, ⟨v, rfl, rfl⟩, ?_, ?_⟩
 ·rcases hrow.2 with ⟨rfl, _⟩ | ⟨gb, cap, cur, rfl, _⟩
  ·exact .raw _ rfl
  ·exact .raw _ rfl
 ·refine hsat.change (m' := .arr v 1 _) (fun k hk _ => hb.block k hk) (fun k hk => .inr ?_) ?_ hmem hb.os hb.output hb.tape (fun ht => by rw [hT] at ht; cases ht)
  ·rcases hrow.2 with ⟨rfl, _⟩ | ⟨gb, cap, cur, rfl, hbase, _⟩
   ·simp [MObj.blocks] at hk
   ·simp [MObj.blocks] at hk; omega
  ·rcases hrow.2 with ⟨rfl, _⟩ | ⟨gb, cap, cur, rfl, hbase, _⟩ <;> simp [MObj.blocks]
end
end Go.HL
end
section
namespace Go.Proofs.YtbihpphgoaflfaaGreatDoor
open Go.HL
set_option maxRecDepth 100000
set_option linter.unusedVariables false
set_option linter.unusedSimpArgs false
theorem sortsInI [Tracks] (m : Nat) : Go.Proofs.AnyZI.SortsIn Tryz.prog Tryz.g42_ren Fence.wide m :=
 ⟨fun blk off cap ss W hH hblk hsz => callsIn_wide.2 (Any.slices_Sort_int Tryz.lays189 blk off cap ss W hH hblk hsz), fun p cap W => callsIn_wide.2 (Any.slices_Sort_int_none Tryz.lays189 p cap W)⟩
theorem c_keysI [Tracks] {b : Nat} : Con Tryz.prog 43 [.raw (.map (some b))] [] fun x M' => ∃ bx, x = .fn (.func 73) [] [.raw (.pointer (some ⟨bx, 0, none⟩))] ∧ M' = [.cells bx [.raw (.map (some b))]] :=
 con_keysI (ρ := Tryz.g43_ren) Tryz.g43
theorem c_sortedI [Tracks] (hT : Tracks.on = false) {α : Type} {f : α → HVal} {l : List (Int × α)} (hn : ANodup l) (hl : ∀ p ∈ l, (-4611686018427387904 ≤ p.1 ∧ p.1 ≤ 4611686018427387904)) (hs : l.length ≤ 1000000) {b bx : Nat} :
 Con Tryz.prog 42 [.fn (.func 73) [] [.raw (.pointer (some ⟨bx, 0, none⟩))]] [.cells bx [.raw (.map (some b))], .map b (kk (HVal.int .i64) (em f l))] fun x M' => ∃ v, x = .raw v ∧ M' = [.arr v 1 ((sortI (l.map (·.1))).map (.int .i64)), .map b (kk (HVal.int .i64) (em f l))] :=
 con_sortedI hT (ρ := Tryz.g42_ren) (ρk := Tryz.g43_ren) Tryz.g42 Tryz.g43 sortsInI (enters_of Tryz.func72 (by kernel_rfl) rfl) (enters_of Tryz.func73 (by kernel_rfl) rfl) hn hl hs

end Go.Proofs.YtbihpphgoaflfaaGreatDoor
end
section
namespace Go.Proofs.YtbihpphgoaflfaaGreatDoor
open Go.HL
set_option maxRecDepth 100000
set_option linter.unusedVariables false
set_option linter.unusedSimpArgs false
end Go.Proofs.YtbihpphgoaflfaaGreatDoor
end
section
namespace Go.HL
def preL (h : List HopeS) (k : Nat) : NW := ((spreadL h).take k).map ofOut
theorem preL_all (h : List HopeS) : (preL h (spreadL h).length).Perm (cz h) := by
 unfold preL; rw [List.take_length]; exact spreadL_perm h
theorem preL_pos {h : List HopeS} (ok : ∀ x ∈ h, HopeOk x) (k : Nat) : PosW (preL h k) := fun p hp => by
 obtain ⟨o, ho, rfl⟩ := List.mem_map.1 hp
 exact (cz_pos ok).1 _ (spreadL_mem (List.mem_of_mem_take ho))
theorem preL_tot {h : List HopeS} (ok : ∀ x ∈ h, HopeOk x) (k : Nat) : tot (preL h k) ≤ prodT h := by
 have := (sumW_takeO (spreadL_pos ok) k).2
 rw [spreadL_sum ok, sumW_tot] at this
 exact this
theorem above_pre {h : List HopeS} (h0 : hopesE h = 0) (h1 : spreadE h = 0) (n : Int) (k : Nat) : 0 ≤ aboveW n (preL h k) ∧ aboveW n (preL h k) ≤ 1000000000000 := by
 obtain ⟨hl, ok⟩ := hopes_ok h0
 have hp := spreadE_prod ok h1
 have a := aboveW_bd n (preL_pos ok k)
 have b := preL_tot ok k
 have c : prodT h ≤ 1000000000000 := hp.2.2.1
 omega
end Go.HL
end
section
namespace Go.Proofs.YtbihpphgoaflfaaGreatDoor
open Go.HL
set_option maxRecDepth 100000
set_option linter.unusedVariables false
set_option linter.unusedSimpArgs false
end Go.Proofs.YtbihpphgoaflfaaGreatDoor
end
section
namespace Go.HL
theorem cmpE_a {a b : List HopeS} (e : spreadE a ≠ 0) : cmpE a b = spreadE a := by rw [cmpE, if_pos e]
theorem cmpE_b {a b : List HopeS} (e0 : spreadE a = 0) (e : spreadE b ≠ 0) : cmpE a b = spreadE b := by rw [cmpE, if_neg (by rw [e0]; simp), if_pos e]
theorem cmpE_f {a b : List HopeS} (e0 : spreadE a = 0) (e1 : spreadE b = 0) (f : most < prodP a 1 * prodP b 1) : cmpE a b = 12 := by rw [cmpE, if_neg (by rw [e0]; simp), if_neg (by rw [e1]; simp), if_pos f]
theorem cmpE_0 {a b : List HopeS} (e0 : spreadE a = 0) (e1 : spreadE b = 0) (f : ¬ most < prodP a 1 * prodP b 1) : cmpE a b = 0 := by rw [cmpE, if_neg (by rw [e0]; simp), if_neg (by rw [e1]; simp), if_neg f]
theorem PosO.le {Y : List OutS} (h : PosO Y) {q : OutS} (hq : q ∈ Y) : q.Weight ≤ sumW Y := by
 induction Y with
 | nil => cases hq
 | cons x Y ih =>
   have h1 := (three_pos 0 h.tail).2.2.2
   have h2 := h x List.mem_cons_self
   rcases List.mem_cons.1 hq with rfl | hq
   ·simp only [sumW]; omega
   ·have := ih h.tail hq; simp only [sumW]; omega
theorem sum_prod {a b : List HopeS} (oa : ∀ x ∈ a, HopeOk x) (ob : ∀ x ∈ b, HopeOk x) (e : cmpE a b = 0) : sumW (spreadL a) * sumW (spreadL b) = prodP a 1 * prodP b 1 := by
 obtain ⟨ea, eb, _⟩ := cmpE_ok e
 rw [spreadL_sum oa, spreadL_sum ob, ← (spreadE_prod oa ea).1, ← (spreadE_prod ob eb).1]
end Go.HL
end
section
namespace Go.Proofs.YtbihpphgoaflfaaGreatDoor
open Go.HL
set_option maxRecDepth 100000
set_option linter.unusedVariables false
set_option linter.unusedSimpArgs false
end Go.Proofs.YtbihpphgoaflfaaGreatDoor
end
section
namespace Go.Proofs.YtbihpphgoaflfaaGreatDoor
open Go.HL
set_option maxRecDepth 100000
set_option linter.unusedVariables false
set_option linter.unusedSimpArgs false
end Go.Proofs.YtbihpphgoaflfaaGreatDoor
end
section
namespace Go.HL
abbrev eEnd (x : EndS) : HVal := .agg [.int .i64 x.win, .int .i64 x.draw, .int .i64 x.lose]
theorem stop_at {Y : List OutS} (hI : IncO Y) {i : Nat} {n : Int} (h1 : ∀ z ∈ Y.take i, z.Points < n) (h2 : i < Y.length → ¬ (Y.getD i out0).Points < n) : belowW n Y = sumW (Y.take i) := by
 refine belowW_at h1 ?_
 by_cases c : i < Y.length
 ·have hq := List.getElem?_eq_getElem c
  have e : Y.getD i out0 = Y[i] := by simp [List.getD, hq]
  have h3 := h2 c
  rw [e] at h3
  exact hI.drop hq (by omega)
 ·intro q hq
  rw [List.drop_eq_nil_of_le (by omega)] at hq
  cases hq
theorem less_next {X Y : List OutS} (hI : IncO X) {k i : Nat} {p : OutS} (hp : X[k]? = some p) (h : ∀ q ∈ Y.take i, q.Points < p.Points) : ∀ q ∈ Y.take i, ∀ z ∈ X.drop (k + 1), q.Points < z.Points := fun q hq z hz => by
 have h1 := hI.drop hp (Int.le_refl _) z (by rw [drop_cons hp]; exact List.mem_cons_of_mem _ hz)
 have h2 := h q hq
 omega
theorem cmp_all {X Y : List OutS} (hX : PosO X) (hY : PosO Y) {B : Int} (hB : sumW X * sumW Y ≤ B) {p : OutS} {k : Nat} (hp : X[k]? = some p) (n : Int) :
 (0 ≤ p.Weight * belowW n Y ∧ p.Weight * belowW n Y ≤ B) ∧ (0 ≤ p.Weight * atW n Y ∧ p.Weight * atW n Y ≤ B) ∧ (0 ≤ p.Weight * overW n Y ∧ p.Weight * overW n Y ≤ B) := by
 have h1 := hX p (List.mem_of_getElem? hp)
 have h2 := hX.le (List.mem_of_getElem? hp)
 have h5 := three_pos n hY
 have h6 := three_W n Y
 have key : ∀ v : Int, 0 ≤ v → v ≤ sumW Y → 0 ≤ p.Weight * v ∧ p.Weight * v ≤ B := fun v v0 v1 =>
  ⟨Int.mul_nonneg (by omega) v0, Int.le_trans (Int.mul_le_mul h2 v1 v0 (by omega)) hB⟩
 exact ⟨key _ h5.1 (by omega), key _ h5.2.1 (by omega), key _ h5.2.2.1 (by omega)⟩
end Go.HL
end
section
namespace Go.Proofs.YtbihpphgoaflfaaGreatDoor
open Go.HL
set_option maxRecDepth 100000
set_option linter.unusedVariables false
set_option linter.unusedSimpArgs false
set_option maxHeartbeats 1000000 in
/-- benchwarmer/value.compare -/
theorem c_value_compare [Tracks] {a b : List HopeS} (hT : Tracks.on = false) (hla12 : a.length ≤ 12) (oka : ∀ x ∈ a, HopeOk x) (hlb12 : b.length ≤ 12) (okb : ∀ x ∈ b, HopeOk x) : ConP Tryz.prog 50 [eHopes a, eHopes b] (.tup [eEnd (if cmpE a b ≠ 0 then end0 else endsOf a b), .int .i64 (cmpE a b)]) := by
 have hla : a.length ≤ 1000000 := by omega
 have hlb : b.length ≤ 1000000 := by omega
 have hpa := (prodP_one oka).2.2
 have hpb := (prodP_one okb).2.2
 have hpa1 : prodP a 1 ≤ 1000000000001 := hpa.2
 have hpb1 : prodP b 1 ≤ 1000000000001 := hpb.2
 have hm0 : 0 ≤ prodP a 1 * prodP b 1 := Int.mul_nonneg (by omega) (by omega)
 have hm1 : 0 < prodP a 1 * prodP b 1 := Int.mul_pos (by omega) (by omega)
 refine Con.of_bodyc Tryz.func50 rfl Tryz.ntmps50 rfl rfl ?_
 refine hw_reg ?_
 refine de rfl (eop_alloc ty88 rfl fun b4 => ?_)
 refine dp rfl (pop_assign rfl) ?_
 refine dn ?_
 refine hw_reg ?_
 refine dp rfl (pop_move rfl) ?_
 refine de rfl (eop_callf (M1 := []) (R := _) ca39 rfl (WeakL.refl _) (List.Perm.refl _) (c_value_spread (h := a) hla oka) ?_)
 rintro _ _ ⟨o1, La, rfl, rfl, hoA⟩
 refine dp rfl (pop_move rfl) ?_
 refine dp rfl (pop_extract rfl rfl) ?_
 refine dp rfl (pop_extract rfl rfl) ?_
 refine dp rfl (pop_assign rfl) ?_
 refine dp rfl (pop_assign rfl) ?_
 refine dn ?_
 refine hw_seq ?_
 refine hw_reg ?_
 refine dp rfl (pop_move rfl) ?_
 refine dp rfl (pop_neq rfl rfl) ?_
 refine dn ?_
 refine hw_cond rfl (fun h1 => ?_) (fun h2 => ?_)
 ·try simp at h1
  have hsa : spreadE a ≠ 0 := by simpa using h1
  refine hw_ghost (Ghost.last (R := mapO o1 La)) ?_
  refine hw_reg ?_
  refine dp rfl (pop_build (cs := [_, _, _]) ty88 pl88 rfl) ?_
  refine dp rfl (pop_move rfl) ?_
  first
  | refine de0 (eop_store (i := 0) ty88 rfl rfl rfl rfl rfl (Nat.le_of_ble_eq_true rfl) ?_)
  | refine de0 (eop_store (i := 1) ty88 rfl rfl rfl rfl rfl (Nat.le_of_ble_eq_true rfl) ?_)
  | refine de0 (eop_store (i := 2) ty88 rfl rfl rfl rfl rfl (Nat.le_of_ble_eq_true rfl) ?_)
  | refine de0 (eop_store (i := 3) ty88 rfl rfl rfl rfl rfl (Nat.le_of_ble_eq_true rfl) ?_)
  refine dp rfl (pop_assign rfl) ?_
  refine dn ?_
  refine hw_ret ?_
  refine ⟨_, _, Ghost.fc0 4 rfl, [_, _], _, ⟨⟨_, _, _, _, _, rfl, ty88, .inr ⟨rfl, rfl, rfl⟩⟩, ⟨rfl, trivial⟩⟩, Weak.refl _, ?_, rfl⟩
  first
  | (have q := hc0; rw [if_neg (show ¬ (cmpE a b ≠ 0) from by rw [hc0]; simp), hc0]; rfl)
  | (have q := hfull
     have e := cmpE_f hsa0 hsb0 hfull
     rw [if_pos (show cmpE a b ≠ 0 from by rw [e]; decide), e]; rfl)
  | (have q := hsb
     have e := cmpE_b hsa0 hsb
     rw [if_pos (show cmpE a b ≠ 0 from by rw [e]; exact hsb), e]; rfl)
  | (have q := hsa
     have e := cmpE_a (b := b) hsa
     rw [if_pos (show cmpE a b ≠ 0 from by rw [e]; exact hsa), e]; rfl)
 ·try simp at h2
  refine hw_skip ?_
  refine seqQ_n ?_
  have hsa0 : spreadE a = 0 := by simpa using h2
  obtain ⟨ba, rfl, hLa⟩ := hoA hsa0
  have hLla : La.length ≤ 20000 := by rw [hLa.length_eq]; exact (spreadE_prod oka hsa0).2.2.2
  have hna : ANodup La := (cz_nodup a).perm hLa
  have hba : ∀ p ∈ La, (-4611686018427387904 ≤ p.1 ∧ p.1 ≤ 4611686018427387904) := fun p hp => by
   have := BdP.smallO hla12 oka hLa p hp
   omega
  refine hw_ghost (Ghost.of_eq (M' := [.map ba (iM La), .cells b4 [.int .i64 0, .int .i64 0, .int .i64 0]]) rfl) ?_
  refine hw_reg ?_
  refine dp rfl (pop_move rfl) ?_
  refine de rfl (eop_callf (M1 := []) (R := _) ca39 rfl (WeakL.refl _) (List.Perm.refl _) (c_value_spread (h := b) hlb okb) ?_)
  rintro _ _ ⟨o2, Lb, rfl, rfl, hoB⟩
  refine dp rfl (pop_move rfl) ?_
  refine dp rfl (pop_extract rfl rfl) ?_
  refine dp rfl (pop_extract rfl rfl) ?_
  refine dp rfl (pop_assign rfl) ?_
  refine dp rfl (pop_assign rfl) ?_
  refine dn ?_
  refine hw_seq ?_
  refine hw_reg ?_
  refine dp rfl (pop_move rfl) ?_
  refine dp rfl (pop_neq rfl rfl) ?_
  refine dn ?_
  refine hw_cond rfl (fun h3 => ?_) (fun h4 => ?_)
  ·try simp at h3
   have hsb : spreadE b ≠ 0 := by simpa using h3
   refine hw_ghost (Ghost.of_eq (M' := (mapO o2 Lb ++ [.map ba (iM La)]) ++ [.cells b4 [.int .i64 0, .int .i64 0, .int .i64 0]]) (by simp)) ?_
   refine hw_ghost Ghost.last ?_
   refine hw_reg ?_
   refine dp rfl (pop_build (cs := [_, _, _]) ty88 pl88 rfl) ?_
   refine dp rfl (pop_move rfl) ?_
   first
   | refine de0 (eop_store (i := 0) ty88 rfl rfl rfl rfl rfl (Nat.le_of_ble_eq_true rfl) ?_)
   | refine de0 (eop_store (i := 1) ty88 rfl rfl rfl rfl rfl (Nat.le_of_ble_eq_true rfl) ?_)
   | refine de0 (eop_store (i := 2) ty88 rfl rfl rfl rfl rfl (Nat.le_of_ble_eq_true rfl) ?_)
   | refine de0 (eop_store (i := 3) ty88 rfl rfl rfl rfl rfl (Nat.le_of_ble_eq_true rfl) ?_)
   refine dp rfl (pop_assign rfl) ?_
   refine dn ?_
   refine hw_ret ?_
   refine ⟨_, _, Ghost.fc0 4 rfl, [_, _], _, ⟨⟨_, _, _, _, _, rfl, ty88, .inr ⟨rfl, rfl, rfl⟩⟩, ⟨rfl, trivial⟩⟩, Weak.refl _, ?_, rfl⟩
   first
   | (have q := hc0; rw [if_neg (show ¬ (cmpE a b ≠ 0) from by rw [hc0]; simp), hc0]; rfl)
   | (have q := hfull
      have e := cmpE_f hsa0 hsb0 hfull
      rw [if_pos (show cmpE a b ≠ 0 from by rw [e]; decide), e]; rfl)
   | (have q := hsb
      have e := cmpE_b hsa0 hsb
      rw [if_pos (show cmpE a b ≠ 0 from by rw [e]; exact hsb), e]; rfl)
   | (have q := hsa
      have e := cmpE_a (b := b) hsa
      rw [if_pos (show cmpE a b ≠ 0 from by rw [e]; exact hsa), e]; rfl)
  ·try simp at h4
   refine hw_skip ?_
   refine seqQ_n ?_
   refine hw_seq ?_
   have hsb0 : spreadE b = 0 := by simpa using h4
   obtain ⟨bb, rfl, hLb⟩ := hoB hsb0
   have hLlb : Lb.length ≤ 20000 := by rw [hLb.length_eq]; exact (spreadE_prod okb hsb0).2.2.2
   have hnb : ANodup Lb := (cz_nodup b).perm hLb
   have hbb : ∀ p ∈ Lb, (-4611686018427387904 ≤ p.1 ∧ p.1 ≤ 4611686018427387904) := fun p hp => by
    have := BdP.smallO hlb12 okb hLb p hp
    omega
   refine hw_ghost (Ghost.of_eq (M' := [.map bb (iM Lb), .map ba (iM La), .cells b4 [.int .i64 0, .int .i64 0, .int .i64 0]]) rfl) ?_
   refine hw_reg ?_
   refine dp rfl (pop_move rfl) ?_
   refine dp rfl (pop_call ca41 rfl (WeakL.refl _) (c_value_product (h := a) hla oka)) ?_
   refine dp rfl (pop_eq (h' := .int .u64 (prodP a 1)) (pop_conv ty3 ty93 rfl) (congrArg (HVal.int .u64) (wrapu (by omega) (by omega)))) ?_
   refine dp rfl (pop_move rfl) ?_
   refine dp rfl (pop_call ca41 rfl (WeakL.refl _) (c_value_product (h := b) hlb okb)) ?_
   refine dp rfl (pop_eq (h' := .int .u64 (prodP b 1)) (pop_conv ty3 ty93 rfl) (congrArg (HVal.int .u64) (wrapu (by omega) (by omega)))) ?_
   refine dp rfl (pop_call ca53 rfl (WeakL.refl _) (c_math_bits_Mul64 (m := prodP a 1) (n := prodP b 1) (by omega) (by omega) (by omega) (by omega))) ?_
   refine dp rfl (pop_move rfl) ?_
   refine dp rfl (pop_extract rfl rfl) ?_
   refine dp rfl (pop_extract rfl rfl) ?_
   refine dp rfl (pop_assign rfl) ?_
   refine dp rfl (pop_assign rfl) ?_
   refine dn ?_
   refine hw_reg ?_
   refine dp rfl (pop_move rfl) ?_
   refine dp rfl (pop_gtr rfl rfl) ?_
   refine dp rfl (pop_move rfl) ?_
   refine dg rfl rfl (fun hc => ⟨_, OpenTo.refl _, pop_move rfl⟩) ?_
   refine dg rfl rfl (fun hc => ⟨_, OpenTo.upd (t := 50) rfl (by first | exact hc | simp_all) (OpenTo.refl _), pop_gtr rfl rfl⟩) ?_
   refine dp rfl (pop_picko rfl (.inl rfl) (.inr ⟨_, rfl, fun h => by simp_all⟩)) ?_
   refine dn ?_
   refine hw_cond rfl (fun h5 => ?_) (fun h6 => ?_)
   ·try simp at h5
    have hfull : most < prodP a 1 * prodP b 1 := (hilo_most (A := prodP a 1 * prodP b 1) hm0).1 (by simpa using h5)
    refine hw_ghost (Ghost.trans Ghost.drop Ghost.drop) ?_
    refine hw_reg ?_
    refine dp rfl (pop_build (cs := [_, _, _]) ty88 pl88 rfl) ?_
    first
    | refine de0 (eop_store (i := 0) ty88 rfl rfl rfl rfl rfl (Nat.le_of_ble_eq_true rfl) ?_)
    | refine de0 (eop_store (i := 1) ty88 rfl rfl rfl rfl rfl (Nat.le_of_ble_eq_true rfl) ?_)
    | refine de0 (eop_store (i := 2) ty88 rfl rfl rfl rfl rfl (Nat.le_of_ble_eq_true rfl) ?_)
    | refine de0 (eop_store (i := 3) ty88 rfl rfl rfl rfl rfl (Nat.le_of_ble_eq_true rfl) ?_)
    refine dp rfl (pop_assign rfl) ?_
    refine dn ?_
    refine hw_ret ?_
    refine ⟨_, _, Ghost.fc0 4 rfl, [_, _], _, ⟨⟨_, _, _, _, _, rfl, ty88, .inr ⟨rfl, rfl, rfl⟩⟩, ⟨rfl, trivial⟩⟩, Weak.refl _, ?_, rfl⟩
    first
    | (have q := hc0; rw [if_neg (show ¬ (cmpE a b ≠ 0) from by rw [hc0]; simp), hc0]; rfl)
    | (have q := hfull
       have e := cmpE_f hsa0 hsb0 hfull
       rw [if_pos (show cmpE a b ≠ 0 from by rw [e]; decide), e]; rfl)
    | (have q := hsb
       have e := cmpE_b hsa0 hsb
       rw [if_pos (show cmpE a b ≠ 0 from by rw [e]; exact hsb), e]; rfl)
    | (have q := hsa
       have e := cmpE_a (b := b) hsa
       rw [if_pos (show cmpE a b ≠ 0 from by rw [e]; exact hsa), e]; rfl)
   ·try simp at h6
    refine hw_skip ?_
    refine seqQ_n ?_
    have hnf : ¬ most < prodP a 1 * prodP b 1 := fun q => by
     have q2 := (hilo_most (A := prodP a 1 * prodP b 1) hm0).2 q
     simp only [most] at q2
     simp_all
     omega
    have hc0 := cmpE_0 hsa0 hsb0 hnf
    have hpl : prodP a 1 * prodP b 1 ≤ 1000000000000 := Int.not_lt.1 hnf
    have hX := spreadL_pos oka
    have hY := spreadL_pos okb
    have hsY : sumW (spreadL b) = prodP b 1 := by rw [spreadL_sum okb, (spreadE_prod okb hsb0).1]
    have hSP := sum_prod oka okb hc0
    have hB : sumW (spreadL a) * sumW (spreadL b) ≤ 1000000000000 := by rw [hSP]; exact hpl
    have hXl : (spreadL a).length = La.length := by rw [spreadL_len, hLa.length_eq]
    have hYl : (spreadL b).length = Lb.length := by rw [spreadL_len, hLb.length_eq]
    have hsA : (sortI (La.map (·.1))).length = La.length := by rw [sortI_len, List.length_map]
    have hsB : (sortI (Lb.map (·.1))).length = Lb.length := by rw [sortI_len, List.length_map]
    refine hw_reg ?_
    refine de rfl (eop_alloc ty88 rfl fun b11 => ?_)
    refine dn ?_
    refine hw_reg ?_
    refine dp rfl (pop_move rfl) ?_
    refine de rfl (eop_callf (M1 := []) (R := _) ca43 rfl (WeakL.refl _) (List.Perm.refl _) c_keysI ?_)
    rintro _ _ ⟨bx, rfl, rfl⟩
    refine de rfl (EOp.fzi (N := [.map ba (iM La), .cells b11 [.int .i64 0, .int .i64 0, .int .i64 0], .map bb (iM Lb), .cells b4 [.int .i64 0, .int .i64 0, .int .i64 0]]) (sz := 1) (es := (sortI (La.map (·.1))).map (.int .i64)) 0 (eop_callf (M1 := [.cells bx [.raw (.map (some ba))], .map ba (iM La)]) (R := [.cells b11 [.int .i64 0, .int .i64 0, .int .i64 0], .map bb (iM Lb), .cells b4 [.int .i64 0, .int .i64 0, .int .i64 0]]) ca42 rfl (WeakL.refl _) (List.Perm.cons _ (List.perm_middle (l₁ := ([.cells b11 [.int .i64 0, .int .i64 0, .int .i64 0], .map bb (iM Lb)] : List MObj)))) (c_sortedI hT hna hba (by omega)) (by rintro _ _ ⟨v, rfl, rfl⟩; exact ⟨v, rfl, rfl, rfl⟩)) ?_)
    refine dp rfl (pop_move rfl) ?_
    refine de rfl (eop_callf (M1 := []) (R := _) ca43 rfl (WeakL.refl _) (List.Perm.refl _) c_keysI ?_)
    rintro _ _ ⟨bz, rfl, rfl⟩
    refine de rfl (EOp.fzi (N := [.map bb (iM Lb), .map ba (iM La), .cells b11 [.int .i64 0, .int .i64 0, .int .i64 0], .cells b4 [.int .i64 0, .int .i64 0, .int .i64 0]]) (sz := 1) (es := (sortI (Lb.map (·.1))).map (.int .i64)) 0 (eop_callf (M1 := [.cells bz [.raw (.map (some bb))], .map bb (iM Lb)]) (R := [.map ba (iM La), .cells b11 [.int .i64 0, .int .i64 0, .int .i64 0], .cells b4 [.int .i64 0, .int .i64 0, .int .i64 0]]) ca42 rfl (WeakL.refl _) (List.Perm.cons _ (List.perm_middle (l₁ := ([.map ba (iM La), .cells b11 [.int .i64 0, .int .i64 0, .int .i64 0]] : List MObj)))) (c_sortedI hT hnb hbb (by omega)) (by rintro _ _ ⟨v, rfl, rfl⟩; exact ⟨v, rfl, rfl, rfl⟩)) ?_)
    refine dp rfl (pop_assign rfl) ?_
    refine dp rfl (pop_assign rfl) ?_
    refine dn ?_
    refine hw_reg ?_
    refine dp rfl (pop_move rfl) ?_
    refine dp rfl (pop_call ca41 rfl (WeakL.refl _) (c_value_product (h := b) hlb okb)) ?_
    refine dp rfl (pop_assign rfl) ?_
    refine dn ?_
    refine hw_reg ?_
    refine dp rfl (pop_assign rfl) ?_
    refine dp rfl (pop_assign rfl) ?_
    refine dn ?_
    refine hw_seq ?_
    refine hw_reg ?_
    refine dp rfl (pop_move rfl) ?_
    refine dp rfl (pop_lenm (f := HVal.int .i64) (l := (sortI (La.map (·.1)))) ty22 rfl) ?_
    refine dp rfl (pop_move rfl) ?_
    refine dn ?_
    refine hw_block ?_
    refine hw_loopw2 (15 :: 16 :: 18 :: 64 :: 65 :: 66 :: 67 :: 68 :: 69 :: 70 :: 71 :: 72 :: 73 :: 74 :: 75 :: 76 :: 77 :: 78 :: 79 :: 80 :: 81 :: 82 :: 83 :: 84 :: 85 :: 86 :: 87 :: 88 :: 89 :: 90 :: 91 :: 92 :: 93 :: 94 :: 95 :: 96 :: 97 :: 98 :: 99 :: 100 :: 101 :: 102 :: 103 :: 104 :: 105 :: 106 :: 107 :: 108 :: 109 :: 110 :: 111 :: 112 :: 113 :: 114 :: 115 :: 116 :: 117 :: 118 :: 119 :: 120 :: 121 :: 122 :: 123 :: 124 :: 125 :: []) (fun (k : Nat) (i : Nat) => [(64, .int .i64 k), (15, .int .i64 (sumW ((spreadL b).take i))), (16, .int .i64 (i : Int))]) (fun (k : Nat) (i : Nat) => [.map bb (iM Lb), .map ba (iM La), .cells b11 [.int .i64 (winS (spreadL b) ((spreadL a).take k)), .int .i64 (drawS (spreadL b) ((spreadL a).take k)), .int .i64 (loseS (spreadL b) ((spreadL a).take k))], .cells b4 [.int .i64 0, .int .i64 0, .int .i64 0]]) (fun (k : Nat) (i : Nat) => k ≤ (sortI (La.map (·.1))).length ∧ (i ≤ (spreadL b).length ∧ ∀ q ∈ (spreadL b).take i, ∀ p ∈ (spreadL a).drop k, q.Points < p.Points)) (fun (k : Nat) (i : Nat) => (sortI (La.map (·.1))).length - k) (0) (0) ?_ ?_ ?_ ?_
    ·exact ⟨Nat.zero_le _, Nat.zero_le _, fun q hq => by simp at hq⟩
    ·exact ⟨rfl, rfl, rfl, trivial⟩
    ·exact perm_eq rfl
    ·intro k i hinv
     obtain ⟨hk, hi, hlt⟩ := hinv
     refine hw_reg ?_
     refine dp rfl (pop_lss rfl rfl) ?_
     refine dn ?_
     refine hw_seq ?_
     refine hw_cond rfl (fun h7 => ?_) (fun h8 => ?_)
     ·try simp at h7
      obtain ⟨n, hn⟩ : ∃ n, (sortI (La.map (·.1)))[k]? = some n := ⟨_, List.getElem?_eq_getElem h7⟩
      have hdn := drop_cons hn
      obtain ⟨p, hp⟩ : ∃ p, (spreadL a)[k]? = some p := ⟨_, List.getElem?_eq_getElem (by omega)⟩
      obtain ⟨hpa, hpw⟩ := spread_at hLa hp
      rw [hn] at hpa
      obtain rfl := Option.some.inj hpa
      have hend := S_bd hX hY k
      have hlt0 : ∀ q ∈ (spreadL b).take i, q.Points < p.Points := fun q hq => hlt q hq p (by rw [drop_cons hp]; exact List.mem_cons_self)
      refine hw_skip ?_
      refine seqQ_n ?_
      refine hw_seq ?_
      refine hw_block ?_
      refine hw_reg ?_
      refine dp rfl (pop_idx (f := HVal.int .i64) (l := (sortI (La.map (·.1)))) (j := k) (a := p.Points) ty22 ty3 rfl rfl rfl hn) ?_
      refine dp rfl (pop_load ty3 rfl rfl rfl) ?_
      refine dp rfl (pop_assign rfl) ?_
      refine dn ?_
      refine hw_seq ?_
      refine hw_block ?_
      refine hw_loopw [15, 16, 68, 69, 70, 71, 72, 73, 74, 75, 76, 77, 78, 79, 80, 81, 82, 83, 84, 85, 86, 87, 88, 89] (fun (i2 : Nat) => [(15, .int .i64 (sumW ((spreadL b).take i2))), (16, .int .i64 (i2 : Int))]) (fun (i2 : Nat) => [.map bb (iM Lb), .map ba (iM La), .cells b11 [.int .i64 (winS (spreadL b) ((spreadL a).take k)), .int .i64 (drawS (spreadL b) ((spreadL a).take k)), .int .i64 (loseS (spreadL b) ((spreadL a).take k))], .cells b4 [.int .i64 0, .int .i64 0, .int .i64 0]]) (fun (i2 : Nat) => i2 ≤ (spreadL b).length ∧ ∀ q ∈ (spreadL b).take i2, q.Points < p.Points) (fun (i2 : Nat) => (spreadL b).length - i2) (i) ?_ ?_ ?_ ?_
      ·exact ⟨hi, hlt0⟩
      ·exact ⟨rfl, rfl, trivial⟩
      ·exact perm_eq rfl
      ·intro i2 hinv
       obtain ⟨hi2, hl2⟩ := hinv
       refine hw_seq ?_
       refine hw_reg ?_
       refine dp rfl (pop_move rfl) ?_
       refine dp rfl (pop_move rfl) ?_
       refine dp rfl (pop_lenm (f := HVal.int .i64) (l := (sortI (Lb.map (·.1)))) ty22 rfl) ?_
       refine dp rfl (pop_lss rfl rfl) ?_
       refine dp rfl (pop_move rfl) ?_
       refine dg rfl rfl (fun hc => ⟨_, OpenTo.refl _, pop_move rfl⟩) ?_
       refine dg rfl rfl (fun hc => ⟨_, OpenTo.refl _, pop_move rfl⟩) ?_
       refine dg rfl rfl (fun hc => by have hq := hc; (try simp at hq); exact ⟨_, OpenTo.upd (t := 74) rfl (by first | exact hc | simp_all) (OpenTo.upd (t := 73) rfl (by first | exact hc | simp_all) (OpenTo.refl _)), pop_idx (f := HVal.int .i64) (l := (sortI (Lb.map (·.1)))) (j := i2) (a := ((spreadL b).getD i2 out0).Points) ty22 ty3 rfl rfl rfl (spread_at hLb (getD_some (by omega))).1⟩) ?_
       refine dg rfl rfl (fun hc => ⟨_, OpenTo.upd (t := 75) rfl (by first | exact hc | simp_all) (OpenTo.refl _), pop_load ty3 rfl rfl rfl⟩) ?_
       refine dg rfl rfl (fun hc => ⟨_, OpenTo.refl _, pop_move rfl⟩) ?_
       refine dg rfl rfl (fun hc => ⟨_, OpenTo.upd (t := 77) rfl (by first | exact hc | simp_all) (OpenTo.upd (t := 76) rfl (by first | exact hc | simp_all) (OpenTo.refl _)), pop_lss rfl rfl⟩) ?_
       refine dp rfl (pop_picko rfl (.inr ⟨_, rfl, fun h => by simp_all⟩) (.inl rfl)) ?_
       refine dn ?_
       refine hw_cond rfl (fun h9 => ?_) (fun h10 => ?_)
       ·try simp at h9
        obtain ⟨hc1, hc2⟩ := h9
        obtain ⟨q, hq⟩ : ∃ q, (spreadL b)[i2]? = some q := ⟨_, List.getElem?_eq_getElem (by omega)⟩
        obtain ⟨hqa, hqw⟩ := spread_at hLb hq
        have hqd : ((spreadL b)[i2]?.getD out0) = q := by rw [hq]; rfl
        rw [hqd] at hc2
        have hsb := sumW_takeO hY (i2 + 1)
        have hsn : sumW ((spreadL b).take (i2 + 1)) = sumW ((spreadL b).take i2) + q.Weight := by rw [take_snoc' hq, sumW_append]; simp [sumW]
        refine hw_skip ?_
        refine seqQ_n ?_
        refine hw_block ?_
        refine hw_reg ?_
        refine dp rfl (pop_move rfl) ?_
        refine dp rfl (pop_move rfl) ?_
        refine dp rfl (pop_move rfl) ?_
        refine dp rfl (pop_move rfl) ?_
        refine dp rfl (pop_idx (f := HVal.int .i64) (l := (sortI (Lb.map (·.1)))) (j := i2) (a := q.Points) ty22 ty3 rfl rfl rfl hqa) ?_
        refine dp rfl (pop_load ty3 rfl rfl rfl) ?_
        refine de rfl (eop_lookupkA (i := 0) (s := q.Points) (z0 := (0 : Int)) (f := HVal.int .i64) (L := Lb) ty68 ok3 ty3 rfl rfl rfl rfl ?_)
        rw [hqw]
        refine dp rfl (pop_add64 rfl rfl (by omega) (by omega)) ?_
        refine dp rfl (pop_assign rfl) ?_
        refine dn ?_
        refine hw_reg1 ?_
        refine dp rfl (pop_move rfl) ?_
        refine dp rfl (pop_add64 rfl rfl (by omega) (by omega)) ?_
        refine dp rfl (pop_assign rfl) ?_
        refine dn ?_
        refine blockQ_n ?_
        exact ⟨i2 + 1, ⟨by omega, fun z hz => by
         rw [take_snoc' hq] at hz
         rcases List.mem_append.1 hz with hz | hz
         ·exact hl2 z hz
         ·rw [List.mem_singleton.1 hz]; exact hc2⟩, by dsimp only; omega, ⟨by rw [hsn]; rfl, rfl, trivial⟩, (by repeat (first | exact keeps_refl | refine keeps_upd rfl ?_ | refine keeps_loop rfl rfl ?_)), perm_eq rfl⟩
       ·try simp at h10
        have hbe : belowW p.Points (spreadL b) = sumW ((spreadL b).take i2) := stop_at (spreadL_inc b) hl2 (fun hc => by
         show ¬ (((spreadL b)[i2]?.getD out0).Points < p.Points)
         have hh := h10 (by omega)
         omega)
        rw [← hbe]
        have hcm := cmp_all hX hY hB hp p.Points
        have h3w := three_W p.Points (spreadL b)
        have h3p := three_pos p.Points hY
        have hov : prodP b 1 - belowW p.Points (spreadL b) - atW p.Points (spreadL b) = overW p.Points (spreadL b) := by omega
        refine hw_exit ?_
        refine seqQ_x ?_
        refine loopQ_x ?_
        refine blockQ_eq ?_
        refine seqQ_n ?_
        refine hw_reg ?_
        refine dp rfl (pop_fieldAddr_raw ty88 rfl ty3 (by decide) rfl) ?_
        first
        | refine de rfl (eop_load (i := 0) ty3 rfl rfl (.inl ⟨rfl, rfl⟩) ?_)
        | refine de rfl (eop_load (i := 1) ty3 rfl rfl (.inl ⟨rfl, rfl⟩) ?_)
        | refine de rfl (eop_load (i := 2) ty3 rfl rfl (.inl ⟨rfl, rfl⟩) ?_)
        | refine de rfl (eop_load (i := 3) ty3 rfl rfl (.inl ⟨rfl, rfl⟩) ?_)
        refine dp rfl (pop_move rfl) ?_
        refine dp rfl (pop_move rfl) ?_
        refine de rfl (eop_lookupkA (i := 1) (s := p.Points) (z0 := (0 : Int)) (f := HVal.int .i64) (L := La) ty68 ok3 ty3 rfl rfl rfl rfl ?_)
        rw [hpw]
        refine dp rfl (pop_move rfl) ?_
        refine dp rfl (pop_mul64 rfl rfl (by omega) (by omega)) ?_
        refine dp rfl (pop_add64 rfl rfl (by omega) (by omega)) ?_
        refine dp rfl (pop_fieldAddr_raw ty88 rfl ty3 (by decide) rfl) ?_
        first
        | refine de0 (eop_store (i := 0) ty3 rfl rfl rfl rfl rfl (Nat.le_of_ble_eq_true rfl) ?_)
        | refine de0 (eop_store (i := 1) ty3 rfl rfl rfl rfl rfl (Nat.le_of_ble_eq_true rfl) ?_)
        | refine de0 (eop_store (i := 2) ty3 rfl rfl rfl rfl rfl (Nat.le_of_ble_eq_true rfl) ?_)
        | refine de0 (eop_store (i := 3) ty3 rfl rfl rfl rfl rfl (Nat.le_of_ble_eq_true rfl) ?_)
        refine dn ?_
        refine hw_reg ?_
        refine dp rfl (pop_fieldAddr_raw ty88 rfl ty3 (by decide) rfl) ?_
        first
        | refine de rfl (eop_load (i := 0) ty3 rfl rfl (.inl ⟨rfl, rfl⟩) ?_)
        | refine de rfl (eop_load (i := 1) ty3 rfl rfl (.inl ⟨rfl, rfl⟩) ?_)
        | refine de rfl (eop_load (i := 2) ty3 rfl rfl (.inl ⟨rfl, rfl⟩) ?_)
        | refine de rfl (eop_load (i := 3) ty3 rfl rfl (.inl ⟨rfl, rfl⟩) ?_)
        refine dp rfl (pop_move rfl) ?_
        refine dp rfl (pop_move rfl) ?_
        refine de rfl (eop_lookupkA (i := 1) (s := p.Points) (z0 := (0 : Int)) (f := HVal.int .i64) (L := La) ty68 ok3 ty3 rfl rfl rfl rfl ?_)
        rw [hpw]
        refine dp rfl (pop_move rfl) ?_
        refine dp rfl (pop_move rfl) ?_
        refine de rfl (eop_lookupkA (i := 0) (s := p.Points) (z0 := (0 : Int)) (f := HVal.int .i64) (L := Lb) ty68 ok3 ty3 rfl rfl rfl rfl ?_)
        rw [at_alk hLb p.Points]
        refine dp rfl (pop_mul64 rfl rfl (by omega) (by omega)) ?_
        refine dp rfl (pop_add64 rfl rfl (by omega) (by omega)) ?_
        refine dp rfl (pop_fieldAddr_raw ty88 rfl ty3 (by decide) rfl) ?_
        first
        | refine de0 (eop_store (i := 0) ty3 rfl rfl rfl rfl rfl (Nat.le_of_ble_eq_true rfl) ?_)
        | refine de0 (eop_store (i := 1) ty3 rfl rfl rfl rfl rfl (Nat.le_of_ble_eq_true rfl) ?_)
        | refine de0 (eop_store (i := 2) ty3 rfl rfl rfl rfl rfl (Nat.le_of_ble_eq_true rfl) ?_)
        | refine de0 (eop_store (i := 3) ty3 rfl rfl rfl rfl rfl (Nat.le_of_ble_eq_true rfl) ?_)
        refine dn ?_
        refine hw_reg1 ?_
        refine dp rfl (pop_fieldAddr_raw ty88 rfl ty3 (by decide) rfl) ?_
        first
        | refine de rfl (eop_load (i := 0) ty3 rfl rfl (.inl ⟨rfl, rfl⟩) ?_)
        | refine de rfl (eop_load (i := 1) ty3 rfl rfl (.inl ⟨rfl, rfl⟩) ?_)
        | refine de rfl (eop_load (i := 2) ty3 rfl rfl (.inl ⟨rfl, rfl⟩) ?_)
        | refine de rfl (eop_load (i := 3) ty3 rfl rfl (.inl ⟨rfl, rfl⟩) ?_)
        refine dp rfl (pop_move rfl) ?_
        refine dp rfl (pop_move rfl) ?_
        refine de rfl (eop_lookupkA (i := 1) (s := p.Points) (z0 := (0 : Int)) (f := HVal.int .i64) (L := La) ty68 ok3 ty3 rfl rfl rfl rfl ?_)
        rw [hpw]
        refine dp rfl (pop_move rfl) ?_
        refine dp rfl (pop_move rfl) ?_
        refine dp rfl (pop_sub64 rfl rfl (by omega) (by omega)) ?_
        refine dp rfl (pop_move rfl) ?_
        refine dp rfl (pop_move rfl) ?_
        refine de rfl (eop_lookupkA (i := 0) (s := p.Points) (z0 := (0 : Int)) (f := HVal.int .i64) (L := Lb) ty68 ok3 ty3 rfl rfl rfl rfl ?_)
        rw [at_alk hLb p.Points]
        refine dp rfl (pop_eq (h' := .int .i64 (overW p.Points (spreadL b))) (pop_sub64 rfl rfl (by omega) (by omega)) (congrArg (HVal.int .i64) hov)) ?_
        refine dp rfl (pop_mul64 rfl rfl (by omega) (by omega)) ?_
        refine dp rfl (pop_add64 rfl rfl (by omega) (by omega)) ?_
        refine dp rfl (pop_fieldAddr_raw ty88 rfl ty3 (by decide) rfl) ?_
        first
        | refine de0 (eop_store (i := 0) ty3 rfl rfl rfl rfl rfl (Nat.le_of_ble_eq_true rfl) ?_)
        | refine de0 (eop_store (i := 1) ty3 rfl rfl rfl rfl rfl (Nat.le_of_ble_eq_true rfl) ?_)
        | refine de0 (eop_store (i := 2) ty3 rfl rfl rfl rfl rfl (Nat.le_of_ble_eq_true rfl) ?_)
        | refine de0 (eop_store (i := 3) ty3 rfl rfl rfl rfl rfl (Nat.le_of_ble_eq_true rfl) ?_)
        refine dn ?_
        refine blockQ_n ?_
        refine seqQ_n ?_
        refine hw_reg1 ?_
        refine dp rfl (pop_add64 rfl rfl (by omega) (by omega)) ?_
        refine dp rfl (pop_move rfl) ?_
        refine dn ?_
        exact ⟨k + 1, i2, ⟨by omega, hi2, less_next (spreadL_inc a) hp hl2⟩, by dsimp only; omega, ⟨rfl, by rw [← hbe]; rfl, rfl, trivial⟩, (by repeat (first | exact keeps_refl | refine keeps_upd rfl ?_ | refine keeps_loop rfl rfl ?_)), perm_eq (by dsimp only; rw [winS_take hp, drawS_take hp, loseS_take hp]; first | rfl | simp [setL, hcells])⟩
     ·try simp at h8
      have hnk : (sortI (La.map (·.1))).length ≤ k := by omega
      obtain rfl : k = (sortI (La.map (·.1))).length := by omega
      rw [show (sortI (La.map (·.1))).length = (spreadL a).length by omega, List.take_length]
      refine hw_exit ?_
      refine seqQ_x ?_
      refine loopQ2_x ?_
      refine blockQ_eq ?_
      refine seqQ_n ?_
      refine hw_reg ?_
      refine de rfl (eop_loadw (i := 2) (h := eEnd (endsOf a b)) ty88 rfl rfl rfl rfl rfl ?_)
      first
      | refine de0 (eop_store (i := 0) ty88 rfl rfl rfl rfl rfl (Nat.le_of_ble_eq_true rfl) ?_)
      | refine de0 (eop_store (i := 1) ty88 rfl rfl rfl rfl rfl (Nat.le_of_ble_eq_true rfl) ?_)
      | refine de0 (eop_store (i := 2) ty88 rfl rfl rfl rfl rfl (Nat.le_of_ble_eq_true rfl) ?_)
      | refine de0 (eop_store (i := 3) ty88 rfl rfl rfl rfl rfl (Nat.le_of_ble_eq_true rfl) ?_)
      refine dp rfl (pop_assign rfl) ?_
      refine dn ?_
      refine hw_ghost (Ghost.trans Ghost.drop (Ghost.trans Ghost.drop Ghost.drop)) ?_
      refine hw_ret ?_
      refine ⟨_, _, Ghost.fc0 4 rfl, [_, _], _, ⟨⟨_, _, _, _, _, rfl, ty88, .inr ⟨rfl, rfl, rfl⟩⟩, ⟨rfl, trivial⟩⟩, Weak.refl _, ?_, rfl⟩
      first
      | (have q := hc0; rw [if_neg (show ¬ (cmpE a b ≠ 0) from by rw [hc0]; simp), hc0]; rfl)
      | (have q := hfull
         have e := cmpE_f hsa0 hsb0 hfull
         rw [if_pos (show cmpE a b ≠ 0 from by rw [e]; decide), e]; rfl)
      | (have q := hsb
         have e := cmpE_b hsa0 hsb
         rw [if_pos (show cmpE a b ≠ 0 from by rw [e]; exact hsb), e]; rfl)
      | (have q := hsa
         have e := cmpE_a (b := b) hsa
         rw [if_pos (show cmpE a b ≠ 0 from by rw [e]; exact hsa), e]; rfl)
end Go.Proofs.YtbihpphgoaflfaaGreatDoor
end
section
namespace Go.HL
theorem or2 {x y : Int} (h : orI [x, y] = 0) : x = 0 ∧ y = 0 := by
 simp only [orI] at h
 split at h <;> (try split at h) <;> simp_all
def chE (a b : List HopeS) : Int := if orI [hopesE a, hopesE b] ≠ 0 then orI [hopesE a, hopesE b] else cmpE a b
theorem chE_bad {a b : List HopeS} (e : orI [hopesE a, hopesE b] ≠ 0) : chE a b = orI [hopesE a, hopesE b] := by rw [chE, if_pos e]
theorem chE_cmp {a b : List HopeS} (e : orI [hopesE a, hopesE b] = 0) : chE a b = cmpE a b := by rw [chE, if_neg (by rw [e]; simp)]
end Go.HL
end
section
namespace Go.Proofs.YtbihpphgoaflfaaGreatDoor
open Go.HL
set_option maxRecDepth 100000
set_option linter.unusedVariables false
set_option linter.unusedSimpArgs false
/-- benchwarmer/value.Chances -/
theorem c_value_Chances [Tracks] {a b : List HopeS} (hT : Tracks.on = false) (hla : a.length ≤ 1000000) (hoa : ∀ x ∈ a, x.Outs.length ≤ 1000000) (hlb : b.length ≤ 1000000) (hob : ∀ x ∈ b, x.Outs.length ≤ 1000000) : ConP Tryz.prog 23 [eHopes a, eHopes b] (.tup [eChance (if chE a b ≠ 0 then chance0 else chanceOf a b), .int .i64 (chE a b)]) := by
 refine Con.of_bodyc Tryz.func23 rfl Tryz.ntmps23 rfl rfl ?_
 refine hw_reg ?_
 refine de rfl (eop_alloc ty52 rfl fun b4 => ?_)
 refine dp rfl (pop_assign rfl) ?_
 refine dn ?_
 refine hw_seq ?_
 refine hw_reg ?_
 refine dp rfl (pop_move rfl) ?_
 refine dp rfl (pop_call ca11 rfl (WeakL.refl _) (c_value_CheckHopes (h := a) hla hoa)) ?_
 refine dp rfl (pop_move rfl) ?_
 refine dp rfl (pop_call ca11 rfl (WeakL.refl _) (c_value_CheckHopes (h := b) hlb hob)) ?_
 refine dp rfl (pop_buildSlice (hs := [_, _]) ty96 ty31 rfl rfl (by decide) (by decide) rfl) ?_
 refine dp rfl (pop_call ca49 rfl (WeakL.refl _) (c_base_First (l := [_, _]) (by simp))) ?_
 refine dp rfl (pop_assign rfl) ?_
 refine dn ?_
 refine hw_reg ?_
 refine dp rfl (pop_move rfl) ?_
 refine dp rfl (pop_neq rfl rfl) ?_
 refine dn ?_
 refine hw_cond rfl (fun h1 => ?_) (fun h2 => ?_)
 ·try simp at h1
  have hbad : orI [hopesE a, hopesE b] ≠ 0 := by simpa using h1
  refine hw_reg ?_
  refine dp rfl (pop_build (cs := [_, _, _, _, _, _]) ty52 pl52 rfl) ?_
  refine dp rfl (pop_move rfl) ?_
  refine de0 (eop_store (i := 0) ty52 rfl rfl rfl rfl rfl (Nat.le_of_ble_eq_true rfl) ?_)
  refine dp rfl (pop_assign rfl) ?_
  refine dn ?_
  refine hw_ret ?_
  refine ⟨_, _, Ghost.fc0 4 rfl, [_, _], _, ⟨⟨_, _, _, _, _, rfl, ty52, .inr ⟨rfl, rfl, rfl⟩⟩, ⟨rfl, trivial⟩⟩, Weak.refl _, ?_, rfl⟩
  first
  | (have q := hc0; rw [chE_cmp hz, hc0, if_neg (by simp)]; rfl)
  | (have q := hcb; rw [chE_cmp hz, if_pos hcb]; rfl)
  | (have q := hbad; rw [chE_bad hbad, if_pos hbad]; rfl)
 ·try simp at h2
  refine hw_skip ?_
  refine seqQ_n ?_
  have hz : orI [hopesE a, hopesE b] = 0 := by simpa using h2
  obtain ⟨h0a, h0b⟩ := or2 hz
  obtain ⟨hla12, oka⟩ := hopes_ok h0a
  obtain ⟨hlb12, okb⟩ := hopes_ok h0b
  have hpa := (prodP_one oka).2.2
  have hpb := (prodP_one okb).2.2
  have hpa1 : prodP a 1 ≤ 1000000000001 := hpa.2
  have hpb1 : prodP b 1 ≤ 1000000000001 := hpb.2
  have hm0 : 0 ≤ prodP a 1 * prodP b 1 := Int.mul_nonneg (by omega) (by omega)
  have hm1 : 0 < prodP a 1 * prodP b 1 := Int.mul_pos (by omega) (by omega)
  refine hw_reg ?_
  refine dp rfl (pop_move rfl) ?_
  refine dp rfl (pop_move rfl) ?_
  refine dp rfl (pop_call ca50 rfl (WeakL.refl _) (c_value_compare (a := a) (b := b) hT hla12 oka hlb12 okb)) ?_
  refine dp rfl (pop_move rfl) ?_
  refine dp rfl (pop_extract rfl rfl) ?_
  refine dp rfl (pop_extract rfl rfl) ?_
  refine de rfl (eop_alloc ty88 rfl fun b7 => ?_)
  refine de0 (eop_storew ty88 rfl rfl rfl rfl rfl ?_)
  refine dp rfl (pop_assign rfl) ?_
  refine dn ?_
  refine hw_ghost (Ghost.fc0 7 rfl) ?_
  refine hw_seq ?_
  refine hw_reg ?_
  refine dp rfl (pop_move rfl) ?_
  refine dp rfl (pop_neq rfl rfl) ?_
  refine dn ?_
  refine hw_cond rfl (fun h3 => ?_) (fun h4 => ?_)
  ·try simp at h3
   have hcb : cmpE a b ≠ 0 := by simpa using h3
   refine hw_reg ?_
   refine dp rfl (pop_build (cs := [_, _, _, _, _, _]) ty52 pl52 rfl) ?_
   refine dp rfl (pop_move rfl) ?_
   refine de0 (eop_store (i := 0) ty52 rfl rfl rfl rfl rfl (Nat.le_of_ble_eq_true rfl) ?_)
   refine dp rfl (pop_assign rfl) ?_
   refine dn ?_
   refine hw_ret ?_
   refine ⟨_, _, Ghost.fc0 4 rfl, [_, _], _, ⟨⟨_, _, _, _, _, rfl, ty52, .inr ⟨rfl, rfl, rfl⟩⟩, ⟨rfl, trivial⟩⟩, Weak.refl _, ?_, rfl⟩
   first
   | (have q := hc0; rw [chE_cmp hz, hc0, if_neg (by simp)]; rfl)
   | (have q := hcb; rw [chE_cmp hz, if_pos hcb]; rfl)
   | (have q := hbad; rw [chE_bad hbad, if_pos hbad]; rfl)
  ·try simp at h4
   refine hw_skip ?_
   refine seqQ_n ?_
   have hc0 : cmpE a b = 0 := by simpa using h4
   rw [if_neg (show ¬ (cmpE a b ≠ 0) from by rw [hc0]; simp)]
   have hpl : prodP a 1 * prodP b 1 ≤ 1000000000000 := (cmpE_ok hc0).2.2
   have hSP := sum_prod oka okb hc0
   have hend := S_bd (spreadL_pos oka) (spreadL_pos okb) (spreadL a).length
   rw [List.take_length, hSP] at hend
   refine hw_reg ?_
   refine dp rfl (pop_move rfl) ?_
   refine dp rfl (pop_call ca41 rfl (WeakL.refl _) (c_value_product (h := a) hla oka)) ?_
   refine dp rfl (pop_move rfl) ?_
   refine dp rfl (pop_call ca41 rfl (WeakL.refl _) (c_value_product (h := b) hlb okb)) ?_
   refine dp rfl (pop_mul64 rfl rfl (by omega) (by omega)) ?_
   refine dp rfl (pop_assign rfl) ?_
   refine dn ?_
   refine hw_draw (fun _ => True) [] mixed ?_
   refine ahp 0 rfl rfl (by kernel_rfl) (by kernel_rfl) (pop_fieldAddr ty88 rfl ty3 (by decide) rfl) ?_
   refine ahp 1 rfl rfl (by kernel_rfl) (by kernel_rfl) (pop_load ty3 rfl rfl rfl) ?_
   refine ahp 2 rfl rfl (by kernel_rfl) (by kernel_rfl) (pop_move rfl) ?_
   refine ahp 3 rfl rfl (by kernel_rfl) (by kernel_rfl) (pop_call ca40 rfl (WeakL.refl _) (c_base_Fraction (n := (endsOf a b).win) (d := prodP a 1 * prodP b 1) (by simp only [endsOf]; omega) (by omega))) ?_
   refine ahp 4 rfl rfl (by kernel_rfl) (by kernel_rfl) (pop_fieldAddr ty88 rfl ty3 (by decide) rfl) ?_
   refine ahp 5 rfl rfl (by kernel_rfl) (by kernel_rfl) (pop_load ty3 rfl rfl rfl) ?_
   refine ahp 6 rfl rfl (by kernel_rfl) (by kernel_rfl) (pop_move rfl) ?_
   refine ahp 7 rfl rfl (by kernel_rfl) (by kernel_rfl) (pop_call ca40 rfl (WeakL.refl _) (c_base_Fraction (n := (endsOf a b).draw) (d := prodP a 1 * prodP b 1) (by simp only [endsOf]; omega) (by omega))) ?_
   refine ahp 8 rfl rfl (by kernel_rfl) (by kernel_rfl) (pop_fieldAddr ty88 rfl ty3 (by decide) rfl) ?_
   refine ahp 9 rfl rfl (by kernel_rfl) (by kernel_rfl) (pop_load ty3 rfl rfl rfl) ?_
   refine ahp 10 rfl rfl (by kernel_rfl) (by kernel_rfl) (pop_move rfl) ?_
   refine ahp 11 rfl rfl (by kernel_rfl) (by kernel_rfl) (pop_call ca40 rfl (WeakL.refl _) (c_base_Fraction (n := (endsOf a b).lose) (d := prodP a 1 * prodP b 1) (by simp only [endsOf]; omega) (by omega))) ?_
   refine ahp 12 rfl rfl (by kernel_rfl) (by kernel_rfl) (pop_build (cs := [_, _, _, _, _, _]) ty52 pl52 rfl) ?_
   refine ahe 13 rfl (by kernel_rfl) ?_
   refine hop_e0 (eop_storew ty52 rfl rfl rfl rfl rfl ?_)
   refine ⟨fun _ => .inl trivial, ?_⟩
   refine ahp 14 rfl rfl (by kernel_rfl) (by kernel_rfl) (pop_assign rfl) ?_
   refine ahz (by kernel_rfl) ?_
   refine hw_ret ?_
   refine ⟨_, _, Ghost.fc0 4 rfl, [_, _], _, ⟨⟨_, _, _, _, _, rfl, ty52, .inr ⟨rfl, rfl, rfl⟩⟩, ⟨rfl, trivial⟩⟩, Weak.refl _, ?_, rfl⟩
   first
   | (have q := hc0; rw [chE_cmp hz, hc0, if_neg (by simp)]; rfl)
   | (have q := hcb; rw [chE_cmp hz, if_pos hcb]; rfl)
   | (have q := hbad; rw [chE_bad hbad, if_pos hbad]; rfl)
end Go.Proofs.YtbihpphgoaflfaaGreatDoor
end
section
namespace Go.HL
def sameH (y z : HopeS) : Bool := y.Player == z.Player && eqSts eOut y.Outs z.Outs
end Go.HL
end
section
namespace Go.Proofs.YtbihpphgoaflfaaGreatDoor
open Go.HL
set_option maxRecDepth 100000
set_option linter.unusedVariables false
set_option linter.unusedSimpArgs false
end Go.Proofs.YtbihpphgoaflfaaGreatDoor
end
section
namespace Go.HL
end Go.HL
end
section
namespace Go.HL
theorem aput_lenI {k v : Int} : ∀ N : NW, (aput k v N).length ≤ N.length + 1
 | [] => by simp [aput]
 | p :: r => by
   have ih := aput_lenI (k := k) (v := v) r
   simp only [aput]
   split
   ·simp
   ·simp only [List.length_cons]; omega
theorem addM_len : ∀ (ps N : NW), (ps.foldl addM N).length ≤ N.length + ps.length
 | [], N => by simp
 | p :: ps, N => by
   have h1 := addM_len ps (addM N p)
   have h2 := aput_lenI (k := p.1) (v := (alk p.1 N).getD 0 + p.2) N
   rw [List.foldl_cons, List.length_cons]
   unfold addM at h1 ⊢
   omega
theorem expand_len (O : List OutS) : ∀ L : NW, (expand L O).length = L.length * O.length
 | [] => by simp [expand]
 | p :: L => by
   have ih := expand_len O L
   unfold expand at *
   rw [List.flatMap_cons, List.length_append, ih, List.length_cons, Nat.succ_mul]
   simp only [HL.one, List.length_map]
   omega
def prodN : List HopeS → Nat
 | [] => 1
 | x :: r => x.Outs.length * prodN r
theorem czGo_len : ∀ (h : List HopeS) (L : NW), (czGo L h).length ≤ L.length * prodN h
 | [], L => by simp [czGo, prodN]
 | x :: h, L => by
   have h1 := czGo_len h (sumM (expand L x.Outs))
   have h2 := addM_len (expand L x.Outs) []
   rw [expand_len] at h2
   have h3 : (sumM (expand L x.Outs)).length * prodN h ≤ L.length * x.Outs.length * prodN h := Nat.mul_le_mul_right _ (by unfold sumM; simpa using h2)
   have h4 : czGo L (x :: h) = czGo (sumM (expand L x.Outs)) h := rfl
   rw [h4, prodN, ← Nat.mul_assoc]
   omega
theorem cz_len (h : List HopeS) : (cz h).length ≤ prodN h := by
 have := czGo_len h [(0, 1)]
 simpa [cz] using this
theorem prodN_le {m : Nat} (hm : 1 ≤ m) : ∀ h : List HopeS, (∀ x ∈ h, x.Outs.length ≤ m) → prodN h ≤ m ^ h.length
 | [], _ => by simp [prodN]
 | x :: h, hx => by
   have ih := prodN_le hm h fun y hy => hx y (List.mem_cons_of_mem _ hy)
   rw [prodN, List.length_cons, Nat.pow_succ, Nat.mul_comm (m ^ h.length)]
   exact Nat.mul_le_mul (hx x List.mem_cons_self) ih
end Go.HL
end
section
namespace Go.HL
/-- A hope that is drawn: a short name, few outcomes. -/
def GoodH (x : HopeS) : Prop := Sh x.Player ∧ x.Outs.length ≤ 5
def GoodH4 (x : HopeS) : Prop := Sh x.Player ∧ x.Outs.length ≤ 4
theorem GoodH4.up {x : HopeS} (h : GoodH4 x) : GoodH x := ⟨h.1, Nat.le_succ_of_le h.2⟩
structure GoodHs (l : List HopeS) : Prop where
 len : l.length ≤ 4
 all : ∀ x ∈ l, GoodH x
/-- What the walks want of hopes. -/
structure HopeBd (l : List HopeS) : Prop where
 len : l.length ≤ 13
 all : ∀ x ∈ l, GoodH x
 cz : (cz l).length ≤ 1000000
theorem GoodHs.bd {l : List HopeS} (h : GoodHs l) : HopeBd l := by
 have hl := h.len
 refine ⟨by omega, h.all, ?_⟩
 have h1 := cz_len l
 have h2 := prodN_le (m := 5) (by omega) l fun x hx => (h.all x hx).2
 have h3 : 5 ^ l.length ≤ 5 ^ 4 := Nat.pow_le_pow_right (by omega) hl
 have h4 : (5 : Nat) ^ 4 = 625 := rfl
 omega
theorem HopeBd.hl {l : List HopeS} (h : HopeBd l) : l.length ≤ 1000000 := by have := h.len; omega
theorem HopeBd.ho {l : List HopeS} (h : HopeBd l) : ∀ x ∈ l, x.Outs.length ≤ 1000000 := fun x hx => by have := (h.all x hx).2; omega
theorem HopeBd.hs {l : List HopeS} (h : HopeBd l) : ∀ x ∈ l, Sh x.Player := fun x hx => (h.all x hx).1
end Go.HL
end
section
namespace Go.HL
theorem arr_blocks (v : Value) (sz : Nat) (es es' : List HVal) : (MObj.arr v sz es').blocks = (MObj.arr v sz es).blocks ∧ (MObj.arr v sz es').blocks.Nodup := by
 cases v with
 | slice a n c => cases a <;> simp [MObj.blocks]
 | _ => simp [MObj.blocks]
theorem Ghost.weak_arr [Tracks] {e : Env} {M : List MObj} {i : Nat} {v : Value} {sz : Nat} {es es' : List HVal} (hm : M[i]? = some (.arr v sz es)) (hl : es'.length = es.length)
 (h : ∀ (p : Nat) (x y : HVal), es[p]? = some x → es'[p]? = some y → (hcells y).length = (hcells x).length ∧ ∀ (q : Nat) (c d : HVal), (hcells x)[q]? = some c → (hcells y)[q]? = some d → Weak c d) :
 Ghost e M e (M.set i (.arr v sz es')) := fun _ I F tmps w h1 hs => by
 refine ⟨I, .refl I, h1, ?_⟩
 have hp := hs.pull hm
 refine Sat.unpull hm (hp.change (m' := .arr v sz es') (fun _ _ _ => rfl) (fun k hk => .inl (by rw [← (arr_blocks v sz es es').1]; exact hk)) (arr_blocks v sz es es').2 ?_ rfl rfl rfl (fun _ => Nat.le_refl _))
 rcases hp.obj _ List.mem_cons_self with ⟨rfl, rfl⟩ | ⟨b, off, cap, rc, el, fr, rfl, h2, h3, h4, h5, h6, h7⟩
 ·exact .inl ⟨rfl, List.eq_nil_of_length_eq_zero hl⟩
 ·refine .inr ⟨b, off, cap, rc, el, fr, by rw [hl], h2, h3, fun y hy => ?_, by rw [hl]; exact h5, h6, fun p q y c u a1 a2 a3 => ?_⟩
  ·obtain ⟨p, hp, rfl⟩ := List.getElem_of_mem hy
   have hx := List.getElem?_eq_getElem (l := es) (i := p) (by omega)
   rw [(h p _ _ hx (List.getElem?_eq_getElem hp)).1]
   exact h4 _ (List.getElem_mem _)
  ·have hp' := lt_of_get a1
   have hx := List.getElem?_eq_getElem (l := es) (i := p) (by omega)
   obtain ⟨g1, g2⟩ := h p _ _ hx a1
   have hq := lt_of_get a2
   have hc := List.getElem?_eq_getElem (l := hcells es[p]) (i := q) (by omega)
   exact g2 q _ _ hc a2 I u (h7 p q _ _ u hx hc a3)
/-- One element alone. -/
theorem Ghost.weak_at [Tracks] {e : Env} {M : List MObj} {i j : Nat} {v : Value} {sz : Nat} {es : List HVal} {x y : HVal} (hm : M[i]? = some (.arr v sz (es.set j x))) (hl : (hcells y).length = (hcells x).length)
 (h : ∀ (q : Nat) (c d : HVal), (hcells x)[q]? = some c → (hcells y)[q]? = some d → Weak c d) : Ghost e M e (M.set i (.arr v sz (es.set j y))) := by
 refine Ghost.weak_arr hm (by simp) fun p x' y' hx hy => ?_
 rw [List.getElem?_set] at hx hy
 by_cases c : j = p
 ·rw [if_pos c] at hx hy
  split at hx
  ·rename_i hlt
   rw [if_pos hlt] at hy
   simp only [Option.some.injEq] at hx hy
   subst hx hy
   exact ⟨hl, h⟩
  ·cases hx
 ·rw [if_neg c] at hx hy
  rw [hx] at hy
  simp only [Option.some.injEq] at hy
  subst hy
  exact ⟨rfl, fun q c d h1 h2 => by rw [h1] at h2; simp only [Option.some.injEq] at h2; subst h2; exact Weak.refl _⟩
/-- What an operation leaves is said in other words. -/
theorem EOp.gh [Tracks] {P : Program} {e : Env} {M : List MObj} {o : Oper} {K : HVal → List MObj → Prop} (K' : HVal → List MObj → Prop) (h : EOp P e M o K') (hk : ∀ x M', K' x M' → ∃ M'', Ghost (fun _ => none) M' (fun _ => none) M'' ∧ K x M'') : EOp P e M o K := fun I F a w ho hs =>
 Oper.wp_noQ (fun _ _ ⟨v, x, M', J, h1, h2, h3, h5, h6⟩ => by
  obtain ⟨M'', g, hk'⟩ := hk x M' h3
  obtain ⟨J', l, _, s⟩ := g J F #[] _ (fun t y hh => by cases hh) h6
  exact ⟨v, x, M'', J', h1, h2.trans l, hk', h5.mono l, s⟩) (h I F a w ho hs)
end Go.HL
end
section
namespace Go.Proofs.YtbihpphgoaflfaaGreatDoor
open Go.HL
set_option maxRecDepth 100000
set_option linter.unusedVariables false
set_option linter.unusedSimpArgs false
/-- slices.Clone[[]benchwarmer/api.Outcome,benchwarmer/api.Outcome] -/
theorem c_slices_Clone_api_Outcome_api_Outcome [Tracks] {l : List OutS} (hl : l.length ≤ 1000000) : ConA Tryz.prog 34 [.slice 2 (l.map eOut)] 2 (l.map eOut) := by
 refine Con.of_body Tryz.func34 rfl Tryz.ntmps34 rfl rfl ?_
 refine hw_reg ?_
 refine dp rfl (pop_assign rfl) ?_
 refine dn ?_
 refine hw_seq ?_
 refine hw_reg ?_
 refine dp rfl (pop_move rfl) ?_
 refine de rfl (eop_eqnil ty37 rfl rfl fun b4 hb4 => ?_)
 refine dn ?_
 refine hw_cond rfl (fun h1 => ?_) (fun h2 => ?_)
 ·try simp at h1
  refine hw_reg ?_
  refine dp rfl (pop_assign rfl) ?_
  refine dn ?_
  refine hw_ret ?_
  first | exact ret_a rfl rfl | exact ret_g (Ghost.arr_nil 2) rfl ⟨_, rfl, by simp_all⟩
 ·try simp at h2
  refine hw_skip ?_
  refine seqQ_n ?_
  refine hw_reg ?_
  refine de rfl (eop_mk0 ty37 ty44 fun v5 => ?_)
  refine dp rfl (pop_move rfl) ?_
  refine de rfl (eop_append (i := 0) ty37 ty44 rfl rfl rfl rfl rfl (by simp [flat, hcells]) (by first | omega | (simp; omega)) fun v7 => ?_)
  refine dp rfl (pop_assign rfl) ?_
  refine dn ?_
  refine hw_ret ?_
  first | exact ret_a rfl rfl | exact ret_g (Ghost.arr_nil 2) rfl ⟨_, rfl, by simp_all⟩

set_option maxHeartbeats 2000000 in
/-- (*benchwarmer/benchmake.Stream).HopeList -/
theorem c_benchmake_Stream_HopeList [Tracks] {b : Nat} {l : List Int} {a : Nat} {fs : Str} (ha : a ≤ 800000) (hfs : fs.length ≤ 100) : Con Tryz.prog 6 [pAt b, .str fs] [St b l a] (fun x M' => ∃ k a', x = eHopes k ∧ GoodHs k ∧ a' ≤ a + 60 ∧ M' = [St b l a']) := by
 refine Con.of_body Tryz.func6 rfl Tryz.ntmps6 rfl rfl ?_
 refine hw_reg ?_
 refine dp rfl (pop_assign rfl) ?_
 refine dn ?_
 refine hw_reg ?_
 refine dp rfl (pop_assign rfl) ?_
 refine dn ?_
 refine hw_ghost (Ghost.arr_nil 2) ?_
 refine hw_seq ?_
 refine hw_reg ?_
 refine dp rfl (pop_move rfl) ?_
 first
 | refine de rfl (eop_callx (i := 0) ca29 rfl (WeakL.refl _) rfl (c_benchmake_Stream_Range (by first | assumption | omega | (simp; omega) | simp_all) (by first | assumption | omega | (simp; omega) | simp_all) (by first | assumption | omega | (simp; omega) | simp_all) (by first | assumption | omega | (simp; omega) | simp_all)) ?_)
 | refine de rfl (eop_callx (i := 1) ca29 rfl (WeakL.refl _) rfl (c_benchmake_Stream_Range (by first | assumption | omega | (simp; omega) | simp_all) (by first | assumption | omega | (simp; omega) | simp_all) (by first | assumption | omega | (simp; omega) | simp_all) (by first | assumption | omega | (simp; omega) | simp_all)) ?_)
 | refine de rfl (eop_callx (i := 2) ca29 rfl (WeakL.refl _) rfl (c_benchmake_Stream_Range (by first | assumption | omega | (simp; omega) | simp_all) (by first | assumption | omega | (simp; omega) | simp_all) (by first | assumption | omega | (simp; omega) | simp_all) (by first | assumption | omega | (simp; omega) | simp_all)) ?_)
 | refine de rfl (eop_callx (i := 3) ca29 rfl (WeakL.refl _) rfl (c_benchmake_Stream_Range (by first | assumption | omega | (simp; omega) | simp_all) (by first | assumption | omega | (simp; omega) | simp_all) (by first | assumption | omega | (simp; omega) | simp_all) (by first | assumption | omega | (simp; omega) | simp_all)) ?_)
 rintro _ _ ⟨y11, rfl, hy11, rfl⟩
 refine dp rfl (pop_move rfl) ?_
 refine dn ?_
 refine hw_block ?_
 refine hw_loopw2 [5, 6, 7, 8, 12, 13, 14, 15, 16, 17, 18, 19, 20, 21, 22, 23, 24, 25, 26, 27, 28, 29, 30, 31, 32, 33, 34, 35, 36, 37, 38, 39, 40, 41, 42, 43, 44, 45, 46, 47] (fun (k : Nat) (q : GL HopeS) => [(12, .int .i64 (k : Int)), (5, .raw q.u)]) (fun (k : Nat) (q : GL HopeS) => [St b l q.a, .arr q.u 2 (q.out.map eHope)]) (fun (k : Nat) (q : GL HopeS) => k ≤ 4 ∧ GLok GoodH4 k (a + 1 + 10 * k) q) (fun (k : Nat) (q : GL HopeS) => 4 - k) (0) (⟨.slice none 0 0, [], a + 1⟩) ?_ ?_ ?_ ?_
 ·exact ⟨by omega, ⟨by simp, by simp, by dsimp only; omega⟩⟩
 ·exact ⟨rfl, rfl, trivial⟩
 ·repeat (first | exact List.Perm.nil | refine permTo 0 rfl ?_ | refine permTo 1 rfl ?_ | refine permTo 2 rfl ?_ | refine permTo 3 rfl ?_ | (refine permToE 0 rfl ?hq ?_; (case hq => simp [setL, hcells]; done)) | (refine permToE 1 rfl ?hq ?_; (case hq => simp [setL, hcells]; done)) | (refine permToE 2 rfl ?hq ?_; (case hq => simp [setL, hcells]; done)) | (refine permToE 3 rfl ?hq ?_; (case hq => simp [setL, hcells]; done)) | fail)
 ·intro k q hinv
  obtain ⟨hk, hq⟩ := hinv
  obtain ⟨u, out, a2⟩ := q
  obtain ⟨g1, g2, g3⟩ := id hq
  dsimp only at g1 g2 g3
  refine hw_reg ?_
  refine dp rfl (pop_lss rfl rfl) ?_
  refine dn ?_
  refine hw_seq ?_
  refine hw_cond rfl (fun h1 => ?_) (fun h2 => ?_)
  ·try simp at h1
   have hk4 : k < 4 := by omega
   refine hw_skip ?_
   refine seqQ_n ?_
   refine hw_seq ?_
   refine hw_block ?_
   refine hw_reg ?_
   refine dp rfl (pop_move rfl) ?_
   refine dp rfl (pop_assign rfl) ?_
   refine dn ?_
   refine hw_reg ?_
   refine dp rfl (pop_move rfl) ?_
   refine dp rfl (pop_move rfl) ?_
   refine dp rfl (pop_call ca33 rfl (WeakL.refl _) (c_strconv_Itoa (i := k) (by omega))) ?_
   have hdl := dec_len (i := k) (by omega)
   refine dp rfl (pop_adds rfl rfl (by omega)) ?_
   refine dp rfl (pop_build (cs := [_, _]) ty49 pl49 rfl) ?_
   refine de rfl (eop_alloc ty49 rfl fun b7 => ?_)
   first
   | refine de0 (eop_store (i := 0) ty49 rfl rfl rfl rfl rfl (Nat.le_of_ble_eq_true rfl) ?_)
   | refine de0 (eop_store (i := 1) ty49 rfl rfl rfl rfl rfl (Nat.le_of_ble_eq_true rfl) ?_)
   | refine de0 (eop_store (i := 2) ty49 rfl rfl rfl rfl rfl (Nat.le_of_ble_eq_true rfl) ?_)
   | refine de0 (eop_store (i := 3) ty49 rfl rfl rfl rfl rfl (Nat.le_of_ble_eq_true rfl) ?_)
   refine dn ?_
   refine hw_reg ?_
   refine dp rfl (pop_move rfl) ?_
   refine dp rfl (pop_buildSlice (hs := [_, _, _]) ty22 ty3 rfl rfl (by decide) (by decide) rfl) ?_
   first
   | refine de rfl (eop_callx (i := 0) ca7 rfl (WeakL.refl _) rfl (c_benchmake_Stream_Pick (L := [_, _, _]) (by first | assumption | omega | (simp; omega) | simp_all) (by first | assumption | omega | (simp; omega) | simp_all) (by first | assumption | omega | (simp; omega) | simp_all)) ?_)
   | refine de rfl (eop_callx (i := 1) ca7 rfl (WeakL.refl _) rfl (c_benchmake_Stream_Pick (L := [_, _, _]) (by first | assumption | omega | (simp; omega) | simp_all) (by first | assumption | omega | (simp; omega) | simp_all) (by first | assumption | omega | (simp; omega) | simp_all)) ?_)
   | refine de rfl (eop_callx (i := 2) ca7 rfl (WeakL.refl _) rfl (c_benchmake_Stream_Pick (L := [_, _, _]) (by first | assumption | omega | (simp; omega) | simp_all) (by first | assumption | omega | (simp; omega) | simp_all) (by first | assumption | omega | (simp; omega) | simp_all)) ?_)
   | refine de rfl (eop_callx (i := 3) ca7 rfl (WeakL.refl _) rfl (c_benchmake_Stream_Pick (L := [_, _, _]) (by first | assumption | omega | (simp; omega) | simp_all) (by first | assumption | omega | (simp; omega) | simp_all) (by first | assumption | omega | (simp; omega) | simp_all)) ?_)
   rintro _ _ ⟨y22, rfl, hy22, rfl⟩
   refine dp rfl (pop_assign rfl) ?_
   refine dn ?_
   have hy22b : -3 ≤ y22 ∧ y22 ≤ 2 := by simp at hy22; omega
   refine hw_seq ?_
   refine hw_reg ?_
   refine dp rfl (pop_move rfl) ?_
   first
   | refine de rfl (eop_callx (i := 0) ca29 rfl (WeakL.refl _) rfl (c_benchmake_Stream_Range (by first | assumption | omega | (simp; omega) | simp_all) (by first | assumption | omega | (simp; omega) | simp_all) (by first | assumption | omega | (simp; omega) | simp_all) (by first | assumption | omega | (simp; omega) | simp_all)) ?_)
   | refine de rfl (eop_callx (i := 1) ca29 rfl (WeakL.refl _) rfl (c_benchmake_Stream_Range (by first | assumption | omega | (simp; omega) | simp_all) (by first | assumption | omega | (simp; omega) | simp_all) (by first | assumption | omega | (simp; omega) | simp_all) (by first | assumption | omega | (simp; omega) | simp_all)) ?_)
   | refine de rfl (eop_callx (i := 2) ca29 rfl (WeakL.refl _) rfl (c_benchmake_Stream_Range (by first | assumption | omega | (simp; omega) | simp_all) (by first | assumption | omega | (simp; omega) | simp_all) (by first | assumption | omega | (simp; omega) | simp_all) (by first | assumption | omega | (simp; omega) | simp_all)) ?_)
   | refine de rfl (eop_callx (i := 3) ca29 rfl (WeakL.refl _) rfl (c_benchmake_Stream_Range (by first | assumption | omega | (simp; omega) | simp_all) (by first | assumption | omega | (simp; omega) | simp_all) (by first | assumption | omega | (simp; omega) | simp_all) (by first | assumption | omega | (simp; omega) | simp_all)) ?_)
   rintro _ _ ⟨y24, rfl, hy24, rfl⟩
   refine dp rfl (pop_move rfl) ?_
   refine dn ?_
   refine hw_ghost (Ghost.arr_nil 2) ?_
   refine hw_block ?_
   refine hw_loopw3 [8, 25, 26, 27, 28, 29, 30, 31, 32, 33, 34, 35, 36, 37, 38, 39, 40, 41, 42] (fun (i : Nat) (q2 : GL OutS) (p : Int) => [(25, .int .i64 (i : Int)), (8, .int .i64 p)]) (fun (i : Nat) (q2 : GL OutS) (p : Int) => [.cells b7 [.str (fs ++ Lib.decDigits k), .raw q2.u], .arr q2.u 2 (q2.out.map eOut), St b l q2.a, .arr u 2 (out.map eHope)]) (fun (i : Nat) (q2 : GL OutS) (p : Int) => i ≤ 4 ∧ q2.out.length ≤ i ∧ q2.a ≤ a2 + 2 + 2 * i ∧ -3 ≤ p ∧ p ≤ 2 + 5 * i) (fun (i : Nat) (q2 : GL OutS) (p : Int) => 4 - i) (0) (⟨.slice none 0 0, [], a2 + 1 + 1⟩) (y22) ?_ ?_ ?_ ?_
   ·exact ⟨by omega, by simp, by dsimp only; omega, by omega, by omega⟩
   ·exact ⟨rfl, rfl, trivial⟩
   ·exact by repeat (first | exact List.Perm.nil | refine permTo 0 rfl ?_ | refine permTo 1 rfl ?_ | refine permTo 2 rfl ?_ | refine permTo 3 rfl ?_ | (refine permToE 0 rfl ?hq ?_; (case hq => simp [setL, hcells]; done)) | (refine permToE 1 rfl ?hq ?_; (case hq => simp [setL, hcells]; done)) | (refine permToE 2 rfl ?hq ?_; (case hq => simp [setL, hcells]; done)) | (refine permToE 3 rfl ?hq ?_; (case hq => simp [setL, hcells]; done)) | fail)
   ·intro i q2 p hinv
    obtain ⟨hi, ho, ha3, hp1, hp2⟩ := hinv
    obtain ⟨w0, os, a3⟩ := q2
    dsimp only at ho ha3
    refine hw_reg ?_
    refine dp rfl (pop_lss rfl rfl) ?_
    refine dn ?_
    refine hw_seq ?_
    refine hw_cond rfl (fun h3 => ?_) (fun h4 => ?_)
    ·try simp at h3
     have hi4 : i < 4 := by omega
     refine hw_skip ?_
     refine seqQ_n ?_
     refine hw_seq ?_
     refine hw_block ?_
     refine hw_draw (fun M => ∃ i : Nat, M[i]? = some (.cells b7 [.str (fs ++ Lib.decDigits k), .raw w0])) [1] mixed ?_
     refine ahp 0 rfl rfl (by kernel_rfl) (by kernel_rfl) (pop_fieldAddr_raw ty49 rfl ty37 (by decide) rfl) ?_
     refine ahl 1 rfl rfl (by kernel_rfl) (by kernel_rfl) (by simp) (by first | exact ⟨0, rfl⟩ | exact ⟨1, rfl⟩ | exact ⟨2, rfl⟩) (fun M hM => by obtain ⟨i, hi⟩ := hM; exact eop_load (i := i) ty37 rfl hi (.inl ⟨rfl, rfl⟩) ⟨rfl, rfl⟩) ?_
     refine ahp 2 rfl rfl (by kernel_rfl) (by kernel_rfl) (pop_move rfl) ?_
     refine ahp 3 rfl rfl (by kernel_rfl) (by kernel_rfl) (pop_move rfl) ?_
     refine ahp 4 rfl rfl (by kernel_rfl) (by kernel_rfl) (pop_buildSlice (hs := [_, _, _, _, _]) ty22 ty3 rfl rfl (by decide) (by decide) rfl) ?_
     refine ahe 5 rfl (by kernel_rfl) ?_
     first
     | refine hop_e rfl (eop_callx (i := 0) ca7 rfl (WeakL.refl _) rfl (c_benchmake_Stream_Pick (L := [_, _, _, _, _]) (by first | assumption | omega | (simp; omega) | simp_all) (by first | assumption | omega | (simp; omega) | simp_all) (by first | assumption | omega | (simp; omega) | simp_all)) ?_)
     | refine hop_e rfl (eop_callx (i := 1) ca7 rfl (WeakL.refl _) rfl (c_benchmake_Stream_Pick (L := [_, _, _, _, _]) (by first | assumption | omega | (simp; omega) | simp_all) (by first | assumption | omega | (simp; omega) | simp_all) (by first | assumption | omega | (simp; omega) | simp_all)) ?_)
     | refine hop_e rfl (eop_callx (i := 2) ca7 rfl (WeakL.refl _) rfl (c_benchmake_Stream_Pick (L := [_, _, _, _, _]) (by first | assumption | omega | (simp; omega) | simp_all) (by first | assumption | omega | (simp; omega) | simp_all) (by first | assumption | omega | (simp; omega) | simp_all)) ?_)
     | refine hop_e rfl (eop_callx (i := 3) ca7 rfl (WeakL.refl _) rfl (c_benchmake_Stream_Pick (L := [_, _, _, _, _]) (by first | assumption | omega | (simp; omega) | simp_all) (by first | assumption | omega | (simp; omega) | simp_all) (by first | assumption | omega | (simp; omega) | simp_all)) ?_)
     rintro _ _ ⟨y32, rfl, hy32, rfl⟩
     refine ⟨fun _ => by first | exact .inl ⟨0, rfl⟩ | exact .inl ⟨1, rfl⟩ | exact .inl ⟨2, rfl⟩ | exact .inr (by simp [Before, Region.binds]), ?_⟩
     refine ahp 6 rfl rfl (by kernel_rfl) (by kernel_rfl) (pop_build (cs := [_, _]) ty44 pl44 rfl) ?_
     refine ahp 7 rfl rfl (by kernel_rfl) (by kernel_rfl) (pop_buildSlice (hs := [_]) ty37 ty44 rfl rfl (by decide) (by decide) rfl) ?_
     refine ahe 8 rfl (by kernel_rfl) ?_
     first
     | refine hop_e rfl (eop_append (i := 0) ty37 ty44 rfl rfl rfl rfl rfl (by simp [flat, hcells]) (by first | omega | (simp; omega)) fun v35 => ?_)
     | refine hop_e rfl (eop_append (i := 1) ty37 ty44 rfl rfl rfl rfl rfl (by simp [flat, hcells]) (by first | omega | (simp; omega)) fun v35 => ?_)
     | refine hop_e rfl (eop_append (i := 2) ty37 ty44 rfl rfl rfl rfl rfl (by simp [flat, hcells]) (by first | omega | (simp; omega)) fun v35 => ?_)
     | refine hop_e rfl (eop_append (i := 3) ty37 ty44 rfl rfl rfl rfl rfl (by simp [flat, hcells]) (by first | omega | (simp; omega)) fun v35 => ?_)
     refine ⟨fun _ => by first | exact .inl ⟨0, rfl⟩ | exact .inl ⟨1, rfl⟩ | exact .inl ⟨2, rfl⟩ | exact .inr (by simp [Before, Region.binds]), ?_⟩
     refine ahp 9 rfl rfl (by kernel_rfl) (by kernel_rfl) (pop_fieldAddr_raw ty49 rfl ty37 (by decide) rfl) ?_
     refine ahe 10 rfl (by kernel_rfl) ?_
     first
     | refine hop_e0 (eop_store (i := 0) ty37 rfl rfl rfl rfl rfl (Nat.le_of_ble_eq_true rfl) ?_)
     | refine hop_e0 (eop_store (i := 1) ty37 rfl rfl rfl rfl rfl (Nat.le_of_ble_eq_true rfl) ?_)
     | refine hop_e0 (eop_store (i := 2) ty37 rfl rfl rfl rfl rfl (Nat.le_of_ble_eq_true rfl) ?_)
     | refine hop_e0 (eop_store (i := 3) ty37 rfl rfl rfl rfl rfl (Nat.le_of_ble_eq_true rfl) ?_)
     refine ⟨fun _ => by first | exact .inl ⟨0, rfl⟩ | exact .inl ⟨1, rfl⟩ | exact .inl ⟨2, rfl⟩ | exact .inr (by simp [Before, Region.binds]), ?_⟩
     refine ahz (by kernel_rfl) ?_
     refine hw_reg1 ?_
     refine dp rfl (pop_move rfl) ?_
     refine dp rfl (pop_move rfl) ?_
     refine dp rfl (pop_buildSlice (hs := [_, _, _]) ty22 ty3 rfl rfl (by decide) (by decide) rfl) ?_
     first
     | refine de rfl (eop_callx (i := 0) ca7 rfl (WeakL.refl _) rfl (c_benchmake_Stream_Pick (L := [_, _, _]) (by first | assumption | omega | (simp; omega) | simp_all) (by first | assumption | omega | (simp; omega) | simp_all) (by first | assumption | omega | (simp; omega) | simp_all)) ?_)
     | refine de rfl (eop_callx (i := 1) ca7 rfl (WeakL.refl _) rfl (c_benchmake_Stream_Pick (L := [_, _, _]) (by first | assumption | omega | (simp; omega) | simp_all) (by first | assumption | omega | (simp; omega) | simp_all) (by first | assumption | omega | (simp; omega) | simp_all)) ?_)
     | refine de rfl (eop_callx (i := 2) ca7 rfl (WeakL.refl _) rfl (c_benchmake_Stream_Pick (L := [_, _, _]) (by first | assumption | omega | (simp; omega) | simp_all) (by first | assumption | omega | (simp; omega) | simp_all) (by first | assumption | omega | (simp; omega) | simp_all)) ?_)
     | refine de rfl (eop_callx (i := 3) ca7 rfl (WeakL.refl _) rfl (c_benchmake_Stream_Pick (L := [_, _, _]) (by first | assumption | omega | (simp; omega) | simp_all) (by first | assumption | omega | (simp; omega) | simp_all) (by first | assumption | omega | (simp; omega) | simp_all)) ?_)
     rintro _ _ ⟨y40, rfl, hy40, rfl⟩
     have hy40b : 1 ≤ y40 ∧ y40 ≤ 5 := by simp at hy40; omega
     refine dp rfl (pop_add64 rfl rfl (by omega) (by omega)) ?_
     refine dp rfl (pop_assign rfl) ?_
     refine dn ?_
     refine blockQ_n ?_
     refine seqQ_n ?_
     refine hw_reg1 ?_
     refine dp rfl (pop_add64 rfl rfl (by omega) (by omega)) ?_
     refine dp rfl (pop_move rfl) ?_
     refine dn ?_
     exact ⟨i + 1, ⟨v35, os ++ [⟨p, y32⟩], a3 + 1 + 1⟩, p + y40, ⟨by omega, by simp; omega, by dsimp only; omega, by omega, by omega⟩, by dsimp only; omega, ⟨rfl, rfl, trivial⟩, (by repeat (first | exact keeps_refl | refine keeps_upd rfl ?_ | refine keeps_loop rfl rfl ?_)), by repeat (first | exact List.Perm.nil | refine permTo 0 rfl ?_ | refine permTo 1 rfl ?_ | refine permTo 2 rfl ?_ | refine permTo 3 rfl ?_ | (refine permToE 0 rfl ?hq ?_; (case hq => simp [setL, hcells]; done)) | (refine permToE 1 rfl ?hq ?_; (case hq => simp [setL, hcells]; done)) | (refine permToE 2 rfl ?hq ?_; (case hq => simp [setL, hcells]; done)) | (refine permToE 3 rfl ?hq ?_; (case hq => simp [setL, hcells]; done)) | fail)⟩
    ·try simp at h4
     refine hw_exit ?_
     refine seqQ_x ?_
     refine loopQ3_x ?_
     refine blockQ_eq ?_
     refine seqQ_n ?_
     refine hw_ghost (Ghost.fcell (i := 1) (k := 0) (j := 1) rfl rfl rfl) ?_
     refine hw_reg1 ?_
     refine dp rfl (pop_move rfl) ?_
     refine de rfl (eop_loadw (i := 0) (h := eHope ⟨fs ++ Lib.decDigits k, os⟩) ty49 rfl rfl rfl rfl rfl ?_)
     refine dp rfl (pop_buildSlice (hs := [_]) ty26 ty49 rfl rfl (by decide) (by decide) rfl) ?_
     first
     | refine de rfl (eop_append (i := 0) ty26 ty49 rfl rfl rfl rfl rfl (by simp [flat, hcells]) (by first | omega | (simp; omega)) fun v46 => ?_)
     | refine de rfl (eop_append (i := 1) ty26 ty49 rfl rfl rfl rfl rfl (by simp [flat, hcells]) (by first | omega | (simp; omega)) fun v46 => ?_)
     | refine de rfl (eop_append (i := 2) ty26 ty49 rfl rfl rfl rfl rfl (by simp [flat, hcells]) (by first | omega | (simp; omega)) fun v46 => ?_)
     | refine de rfl (eop_append (i := 3) ty26 ty49 rfl rfl rfl rfl rfl (by simp [flat, hcells]) (by first | omega | (simp; omega)) fun v46 => ?_)
     refine dp rfl (pop_assign rfl) ?_
     refine dn ?_
     refine blockQ_n ?_
     refine seqQ_n ?_
     refine hw_ghost Ghost.drop ?_
     refine hw_reg1 ?_
     refine dp rfl (pop_add64 rfl rfl (by omega) (by omega)) ?_
     refine dp rfl (pop_move rfl) ?_
     refine dn ?_
     exact ⟨k + 1, ⟨v46, out ++ [⟨fs ++ Lib.decDigits k, os⟩], a3⟩, ⟨by omega, hq.add ⟨by unfold Sh; simp; omega, by dsimp only; omega⟩ (by omega)⟩, by dsimp only; omega, ⟨rfl, rfl, trivial⟩, (by repeat (first | exact keeps_refl | refine keeps_upd rfl ?_ | refine keeps_loop rfl rfl ?_)), by repeat (first | exact List.Perm.nil | refine permTo 0 rfl ?_ | refine permTo 1 rfl ?_ | refine permTo 2 rfl ?_ | refine permTo 3 rfl ?_ | (refine permToE 0 rfl ?hq ?_; (case hq => simp [setL, hcells]; done)) | (refine permToE 1 rfl ?hq ?_; (case hq => simp [setL, hcells]; done)) | (refine permToE 2 rfl ?hq ?_; (case hq => simp [setL, hcells]; done)) | (refine permToE 3 rfl ?hq ?_; (case hq => simp [setL, hcells]; done)) | fail)⟩
  ·try simp at h2
   refine hw_exit ?_
   refine seqQ_x ?_
   refine loopQ2_x ?_
   refine blockQ_eq ?_
   refine seqQ_n ?_
   refine hw_join [9, 48, 49, 50, 51, 52, 53, 54, 55, 56, 57, 58, 59, 60, 61, 62, 63, 64, 65, 66, 67, 68, 69, 70, 71, 72, 73, 74, 75, 76, 77, 78, 79, 80, 81, 82, 83, 84, 85, 86, 87, 88, 89, 90, 91, 92, 93, 94] (fun (q : List HopeS × Nat) => []) (fun (q : List HopeS × Nat) => [St b l q.2, .arr u 2 (q.1.map eHope)]) (fun (q : List HopeS × Nat) => q.1.length ≤ 4 ∧ (∀ x ∈ q.1, GoodH x) ∧ q.2 ≤ a + 60) ?_ ?_
   ·skip
    refine hw_reg ?_
    refine dp rfl (pop_move rfl) ?_
    first
    | refine de rfl (eop_lenm (i := 0) ty26 rfl rfl ?_)
    | refine de rfl (eop_lenm (i := 1) ty26 rfl rfl ?_)
    | refine de rfl (eop_lenm (i := 2) ty26 rfl rfl ?_)
    | refine de rfl (eop_lenm (i := 3) ty26 rfl rfl ?_)
    refine dp rfl (pop_gtr rfl rfl) ?_
    refine dp rfl (pop_move rfl) ?_
    refine dg rfl rfl (fun hc => ⟨_, OpenTo.refl _, pop_move rfl⟩) ?_
    refine dgx (fun x M' => ∃ (y : Bool) (a3 : Nat), x = .bool y ∧ a3 ≤ a2 + 1 ∧ M' = [St b l a3, .arr u 2 (out.map eHope)]) rfl rfl (fun hc => ⟨_, false, a2, rfl, by omega, rfl⟩) (fun hc => ⟨_, OpenTo.upd (t := 52) rfl (by first | exact hc | simp_all) (OpenTo.refl _), eop_callx (i := 0) ca8 rfl (WeakL.refl _) rfl (c_benchmake_Stream_Flip (a := a2) (by omega) (by omega)) (fun h M' hh => by
     obtain ⟨y, h1, h2⟩ := hh
     exact ⟨y, a2 + 1, h1, by omega, by rw [h2]; rfl⟩)⟩) ?_
    rintro _ _ ⟨y, a3, rfl, ha3, rfl⟩
    refine dp rfl (pop_picko rfl (.inr ⟨_, rfl, fun h => by simp_all⟩) (.inl rfl)) ?_
    refine dn ?_
    refine hw_cond rfl (fun h5 => ?_) (fun h6 => ?_)
    ·try simp at h5
     have ho0 : 0 < out.length := by simp_all
     refine hw_arrc (i := 1) rfl (fun h0 he => ?_) (fun ob off cap hv hcap => ?_)
     ·exfalso; have := congrArg List.length he; simp at this; subst this; simp at ho0
     subst hv
     refine hw_reg ?_
     refine dp rfl (pop_move rfl) ?_
     refine dp rfl (pop_move rfl) ?_
     refine dp rfl (pop_move rfl) ?_
     first
     | refine de rfl (eop_lenm (i := 0) ty26 rfl rfl ?_)
     | refine de rfl (eop_lenm (i := 1) ty26 rfl rfl ?_)
     | refine de rfl (eop_lenm (i := 2) ty26 rfl rfl ?_)
     | refine de rfl (eop_lenm (i := 3) ty26 rfl rfl ?_)
     first
     | refine de rfl (eop_callx (i := 0) ca22 rfl (WeakL.refl _) rfl (c_benchmake_Stream_Next (by first | assumption | omega | (simp; omega) | simp_all) (by first | assumption | omega | (simp; omega) | simp_all)) ?_)
     | refine de rfl (eop_callx (i := 1) ca22 rfl (WeakL.refl _) rfl (c_benchmake_Stream_Next (by first | assumption | omega | (simp; omega) | simp_all) (by first | assumption | omega | (simp; omega) | simp_all)) ?_)
     | refine de rfl (eop_callx (i := 2) ca22 rfl (WeakL.refl _) rfl (c_benchmake_Stream_Next (by first | assumption | omega | (simp; omega) | simp_all) (by first | assumption | omega | (simp; omega) | simp_all)) ?_)
     | refine de rfl (eop_callx (i := 3) ca22 rfl (WeakL.refl _) rfl (c_benchmake_Stream_Next (by first | assumption | omega | (simp; omega) | simp_all) (by first | assumption | omega | (simp; omega) | simp_all)) ?_)
     rintro _ _ ⟨y59, rfl, hy59, rfl⟩
     refine dp rfl (pop_idxraw (j := y59) ty26 ty49 rfl rfl rfl (by simp; omega)) ?_
     refine dp rfl (pop_assign rfl) ?_
     refine dn ?_
     obtain ⟨x, hx⟩ : ∃ x, out[y59]? = some x := ⟨_, List.getElem?_eq_getElem (by omega)⟩
     refine hw_reg ?_
     refine dp rfl (pop_move rfl) ?_
     refine dp rfl (pop_move rfl) ?_
     refine dp rfl (pop_move rfl) ?_
     refine dp rfl ((by first | exact pop_nilCheck rfl | exact pop_nilCheck_raw rfl)) ?_
     refine dp rfl ((by first | exact pop_fieldAddr ty49 rfl ty9 (by decide) rfl | exact pop_fieldAddr_raw ty49 rfl ty9 (by decide) rfl)) ?_
     refine de rfl (eop_load_el (i := 1) (j := y59) 0 ty9 rfl (by omega) rfl hx rfl rfl ?_)
     refine dp rfl (pop_move rfl) ?_
     refine dp rfl (pop_adds rfl rfl (by simp; omega)) ?_
     refine dp rfl (pop_buildSlice (hs := [_, _, _]) ty77 ty9 rfl rfl (by decide) (by decide) rfl) ?_
     first
     | refine de rfl (eop_callx (i := 0) ca21 rfl (WeakL.refl _) rfl (c_benchmake_Stream_Some (L := [_, _, _]) (by first | assumption | omega | (simp; omega) | simp_all) (by first | assumption | omega | (simp; omega) | simp_all) (by first | assumption | omega | (simp; omega) | simp_all)) ?_)
     | refine de rfl (eop_callx (i := 1) ca21 rfl (WeakL.refl _) rfl (c_benchmake_Stream_Some (L := [_, _, _]) (by first | assumption | omega | (simp; omega) | simp_all) (by first | assumption | omega | (simp; omega) | simp_all) (by first | assumption | omega | (simp; omega) | simp_all)) ?_)
     | refine de rfl (eop_callx (i := 2) ca21 rfl (WeakL.refl _) rfl (c_benchmake_Stream_Some (L := [_, _, _]) (by first | assumption | omega | (simp; omega) | simp_all) (by first | assumption | omega | (simp; omega) | simp_all) (by first | assumption | omega | (simp; omega) | simp_all)) ?_)
     | refine de rfl (eop_callx (i := 3) ca21 rfl (WeakL.refl _) rfl (c_benchmake_Stream_Some (L := [_, _, _]) (by first | assumption | omega | (simp; omega) | simp_all) (by first | assumption | omega | (simp; omega) | simp_all) (by first | assumption | omega | (simp; omega) | simp_all)) ?_)
     rintro _ _ ⟨y70, rfl, hy70, rfl⟩
     refine dp rfl ((by first | exact pop_nilCheck rfl | exact pop_nilCheck_raw rfl)) ?_
     refine dp rfl ((by first | exact pop_fieldAddr ty49 rfl ty9 (by decide) rfl | exact pop_fieldAddr_raw ty49 rfl ty9 (by decide) rfl)) ?_
     refine de0 (eop_store_arr (i := 1) (j := y59) (f := 0) (y := eHope x) (y' := eHope ⟨y70, x.Outs⟩) ty9 rfl (by omega) rfl rfl (map_get hx) rfl rfl (by simp [hcells]) rfl ?_)
     refine dn ?_
     refine hw_reg ?_
     refine dp rfl (pop_move rfl) ?_
     refine dp rfl (pop_move rfl) ?_
     refine dp rfl ((by first | exact pop_nilCheck rfl | exact pop_nilCheck_raw rfl)) ?_
     refine dp rfl ((by first | exact pop_fieldAddr ty49 rfl ty37 (by decide) rfl | exact pop_fieldAddr_raw ty49 rfl ty37 (by decide) rfl)) ?_
     refine de rfl (eop_load_arr (i := 1) (j := y59) (f := 1) (y := eHope ⟨y70, x.Outs⟩) ty37 rfl (by omega) rfl (set_self (map_get hx)) (.inl ⟨rfl, rfl⟩) ?_)
     refine de rfl (eop_calla ca34 rfl (WeakL.refl _) (c_slices_Clone_api_Outcome_api_Outcome (l := x.Outs) (by have := (g2 x (List.mem_of_getElem? hx)).2; omega)) fun v78 => ?_)
     refine dp rfl (pop_move rfl) ?_
     refine dp rfl (pop_buildSlice (hs := [_, _, _]) ty22 ty3 rfl rfl (by decide) (by decide) rfl) ?_
     first
     | refine de rfl (eop_callx (i := 0) ca7 rfl (WeakL.refl _) rfl (c_benchmake_Stream_Pick (L := [_, _, _]) (by first | assumption | omega | (simp; omega) | simp_all) (by first | assumption | omega | (simp; omega) | simp_all) (by first | assumption | omega | (simp; omega) | simp_all)) ?_)
     | refine de rfl (eop_callx (i := 1) ca7 rfl (WeakL.refl _) rfl (c_benchmake_Stream_Pick (L := [_, _, _]) (by first | assumption | omega | (simp; omega) | simp_all) (by first | assumption | omega | (simp; omega) | simp_all) (by first | assumption | omega | (simp; omega) | simp_all)) ?_)
     | refine de rfl (eop_callx (i := 2) ca7 rfl (WeakL.refl _) rfl (c_benchmake_Stream_Pick (L := [_, _, _]) (by first | assumption | omega | (simp; omega) | simp_all) (by first | assumption | omega | (simp; omega) | simp_all) (by first | assumption | omega | (simp; omega) | simp_all)) ?_)
     | refine de rfl (eop_callx (i := 3) ca7 rfl (WeakL.refl _) rfl (c_benchmake_Stream_Pick (L := [_, _, _]) (by first | assumption | omega | (simp; omega) | simp_all) (by first | assumption | omega | (simp; omega) | simp_all) (by first | assumption | omega | (simp; omega) | simp_all)) ?_)
     rintro _ _ ⟨y81, rfl, hy81, rfl⟩
     refine dp rfl (pop_move rfl) ?_
     refine dp rfl (pop_buildSlice (hs := [_, _, _]) ty22 ty3 rfl rfl (by decide) (by decide) rfl) ?_
     first
     | refine de rfl (eop_callx (i := 0) ca7 rfl (WeakL.refl _) rfl (c_benchmake_Stream_Pick (L := [_, _, _]) (by first | assumption | omega | (simp; omega) | simp_all) (by first | assumption | omega | (simp; omega) | simp_all) (by first | assumption | omega | (simp; omega) | simp_all)) ?_)
     | refine de rfl (eop_callx (i := 1) ca7 rfl (WeakL.refl _) rfl (c_benchmake_Stream_Pick (L := [_, _, _]) (by first | assumption | omega | (simp; omega) | simp_all) (by first | assumption | omega | (simp; omega) | simp_all) (by first | assumption | omega | (simp; omega) | simp_all)) ?_)
     | refine de rfl (eop_callx (i := 2) ca7 rfl (WeakL.refl _) rfl (c_benchmake_Stream_Pick (L := [_, _, _]) (by first | assumption | omega | (simp; omega) | simp_all) (by first | assumption | omega | (simp; omega) | simp_all) (by first | assumption | omega | (simp; omega) | simp_all)) ?_)
     | refine de rfl (eop_callx (i := 3) ca7 rfl (WeakL.refl _) rfl (c_benchmake_Stream_Pick (L := [_, _, _]) (by first | assumption | omega | (simp; omega) | simp_all) (by first | assumption | omega | (simp; omega) | simp_all) (by first | assumption | omega | (simp; omega) | simp_all)) ?_)
     rintro _ _ ⟨y84, rfl, hy84, rfl⟩
     refine dp rfl (pop_build (cs := [_, _]) ty44 pl44 rfl) ?_
     refine dp rfl (pop_buildSlice (hs := [_]) ty37 ty44 rfl rfl (by decide) (by decide) rfl) ?_
     refine de rfl (EOp.fzi (N := [St b l (a3 + 1 + 1 + 1 + 1), .arr (.slice (some ⟨ob, off, none⟩) (out.map eHope).length cap) 2 ((out.map eHope).set y59 (eHope ⟨y70, x.Outs⟩))]) (sz := 2) (es := (x.Outs ++ [(⟨y81, y84⟩ : OutS)]).map eOut) 1 (eop_append (i := 1) (es := x.Outs.map eOut) (ys := [eOut ⟨y81, y84⟩]) ty37 ty44 rfl rfl rfl rfl rfl (by simp [flat, hcells]) (by have := (g2 x (List.mem_of_getElem? hx)).2; simp; omega) fun v87 => ⟨v87, rfl, by simp, rfl⟩) ?_)
     refine dp rfl ((by first | exact pop_nilCheck rfl | exact pop_nilCheck_raw rfl)) ?_
     refine dp rfl ((by first | exact pop_fieldAddr ty49 rfl ty37 (by decide) rfl | exact pop_fieldAddr_raw ty49 rfl ty37 (by decide) rfl)) ?_
     refine de0 (eop_store_arr (i := 1) (j := y59) (f := 1) (y := eHope ⟨y70, x.Outs⟩) (y' := eHope ⟨y70, x.Outs ++ [⟨y81, y84⟩]⟩) ty37 rfl (by omega) rfl rfl (set_self (map_get hx)) rfl rfl (by simp [hcells]) rfl ?_)
     refine dn ?_
     refine hw_reg ?_
     refine dp rfl (pop_move rfl) ?_
     first
     | refine de rfl (eop_callx (i := 0) ca8 rfl (WeakL.refl _) rfl (c_benchmake_Stream_Flip (by first | assumption | omega | (simp; omega) | simp_all) (by first | assumption | omega | (simp; omega) | simp_all)) ?_)
     | refine de rfl (eop_callx (i := 1) ca8 rfl (WeakL.refl _) rfl (c_benchmake_Stream_Flip (by first | assumption | omega | (simp; omega) | simp_all) (by first | assumption | omega | (simp; omega) | simp_all)) ?_)
     | refine de rfl (eop_callx (i := 2) ca8 rfl (WeakL.refl _) rfl (c_benchmake_Stream_Flip (by first | assumption | omega | (simp; omega) | simp_all) (by first | assumption | omega | (simp; omega) | simp_all)) ?_)
     | refine de rfl (eop_callx (i := 3) ca8 rfl (WeakL.refl _) rfl (c_benchmake_Stream_Flip (by first | assumption | omega | (simp; omega) | simp_all) (by first | assumption | omega | (simp; omega) | simp_all)) ?_)
     rintro _ _ ⟨y91, rfl, rfl⟩
     refine dn ?_
     refine hw_cond rfl (fun h7 => ?_) (fun h8 => ?_)
     ·try simp at h7
      refine hw_reg1 ?_
      refine dp rfl (pop_move rfl) ?_
      refine dp rfl ((by first | exact pop_nilCheck rfl | exact pop_nilCheck_raw rfl)) ?_
      refine dp rfl ((by first | exact pop_fieldAddr ty49 rfl ty37 (by decide) rfl | exact pop_fieldAddr_raw ty49 rfl ty37 (by decide) rfl)) ?_
      refine de0 (EOp.gh (fun h M' => h = .junk ∧ M' = [St b l (a3 + 5), .arr (.slice (some ⟨ob, off, none⟩) (out.map eHope).length cap) 2 ((((out.map eHope).set y59 (eHope ⟨y70, x.Outs⟩)).set y59 (eHope ⟨y70, x.Outs ++ [⟨y81, y84⟩]⟩)).set y59 (.agg [.str y70, .raw (.slice none 0 0)]))]) (eop_store_arr (i := 1) (j := y59) (f := 1) (y := eHope ⟨y70, x.Outs ++ [⟨y81, y84⟩]⟩) (y' := .agg [.str y70, .raw (.slice none 0 0)]) ty37 rfl (by omega) rfl rfl (set_self (set_self (map_get hx))) rfl rfl (by simp [hcells]) rfl ⟨rfl, rfl⟩) ?_)
      rintro _ _ ⟨rfl, rfl⟩
      refine ⟨_, Ghost.weak_at (i := 1) (x := .agg [.str y70, .raw (.slice none 0 0)]) (y := eHope ⟨y70, []⟩) rfl rfl (fun q c d h1 h2 => ?_), ?_⟩
      ·rcases q with _ | _ | q
       ·simp [hcells] at h1 h2; subst h1 h2; exact Weak.refl _
       ·simp [hcells] at h1 h2; subst h1 h2; exact weak_nil 2
       ·simp [hcells] at h1
      refine dn ?_
      exact ⟨(out.set y59 ⟨y70, []⟩, a3 + 5), ⟨by simp; omega, all_set (P := GoodH) (fun z hz => (g2 z hz).up) ⟨by simp at hy70; rcases hy70 with rfl | rfl | rfl; exact (g2 x (List.mem_of_getElem? hx)).1; exact nil_sh; (unfold Sh; simp; omega), by simp⟩, by dsimp only; omega⟩, trivial, (by repeat (first | exact keeps_refl | refine keeps_upd rfl ?_ | refine keeps_loop rfl rfl ?_)), by repeat (first | exact List.Perm.nil | refine permTo 0 rfl ?_ | refine permTo 1 rfl ?_ | refine permTo 2 rfl ?_ | refine permTo 3 rfl ?_ | (refine permToE 0 rfl ?hq ?_; (case hq => simp [setL, hcells]; done)) | (refine permToE 1 rfl ?hq ?_; (case hq => simp [setL, hcells]; done)) | (refine permToE 2 rfl ?hq ?_; (case hq => simp [setL, hcells]; done)) | (refine permToE 3 rfl ?hq ?_; (case hq => simp [setL, hcells]; done)) | fail)⟩
     ·try simp at h8
      refine hw_skip ?_
      exact ⟨(out.set y59 ⟨y70, x.Outs ++ [⟨y81, y84⟩]⟩, a3 + 5), ⟨by simp; omega, all_set (P := GoodH) (fun z hz => (g2 z hz).up) ⟨by simp at hy70; rcases hy70 with rfl | rfl | rfl; exact (g2 x (List.mem_of_getElem? hx)).1; exact nil_sh; (unfold Sh; simp; omega), by have := (g2 x (List.mem_of_getElem? hx)).2; simp; omega⟩, by dsimp only; omega⟩, trivial, (by repeat (first | exact keeps_refl | refine keeps_upd rfl ?_ | refine keeps_loop rfl rfl ?_)), by repeat (first | exact List.Perm.nil | refine permTo 0 rfl ?_ | refine permTo 1 rfl ?_ | refine permTo 2 rfl ?_ | refine permTo 3 rfl ?_ | (refine permToE 0 rfl ?hq ?_; (case hq => simp [setL, hcells]; done)) | (refine permToE 1 rfl ?hq ?_; (case hq => simp [setL, hcells]; done)) | (refine permToE 2 rfl ?hq ?_; (case hq => simp [setL, hcells]; done)) | (refine permToE 3 rfl ?hq ?_; (case hq => simp [setL, hcells]; done)) | fail)⟩
    ·try simp at h6
     refine hw_skip ?_
     exact ⟨(out, a3), ⟨by dsimp only; omega, fun z hz => (g2 z hz).up, by dsimp only; omega⟩, trivial, (by repeat (first | exact keeps_refl | refine keeps_upd rfl ?_ | refine keeps_loop rfl rfl ?_)), by repeat (first | exact List.Perm.nil | refine permTo 0 rfl ?_ | refine permTo 1 rfl ?_ | refine permTo 2 rfl ?_ | refine permTo 3 rfl ?_ | (refine permToE 0 rfl ?hq ?_; (case hq => simp [setL, hcells]; done)) | (refine permToE 1 rfl ?hq ?_; (case hq => simp [setL, hcells]; done)) | (refine permToE 2 rfl ?hq ?_; (case hq => simp [setL, hcells]; done)) | (refine permToE 3 rfl ?hq ?_; (case hq => simp [setL, hcells]; done)) | fail)⟩
   ·intro q hq3
    obtain ⟨k1, a4⟩ := q
    dsimp only at hq3
    obtain ⟨q1, q2, q3⟩ := hq3
    refine hw_reg ?_
    refine dp rfl (pop_move rfl) ?_
    refine dp rfl (pop_assign rfl) ?_
    refine dn ?_
    refine hw_ret ?_
    refine ret_g (Ghost.fa 4 (i := 1) rfl rfl) rfl ⟨k1, a4, rfl, ⟨by omega, q2⟩, by omega, rfl⟩
end Go.Proofs.YtbihpphgoaflfaaGreatDoor
end
section
namespace Go.HL
structure One (x : HopeS) : Prop where
 key : key x.Player = true
 pos : x.Outs.length ≠ 0
 len : ¬ 8 < x.Outs.length
 outs : outsGo x.Outs 0 x.Outs = 0
theorem hopeF_one {h : List HopeS} {k : Nat} {x : HopeS} (e : hopeF h k x = 0) : One x ∧ ¬ (0 < k ∧ leS x.Player (h.getD (k - 1) hope0).Player = true) := by
 unfold hopeF at e
 split at e
 ·omega
 split at e
 ·omega
 split at e
 ·omega
 split at e
 ·omega
 rename_i h1 h2 h3 h4
 exact ⟨⟨by simpa using h1, h3, h4, e⟩, h2⟩
theorem One.ok {x : HopeS} (h : One x) : HopeOk x := by
 have h1 := h.pos
 have h2 := h.len
 exact ⟨h.key, by omega, by omega, outsGo_ok _ _ h.outs⟩
theorem one_of {x : HopeS} (e : hopesE [x] = 0) : One x := by
 have e1 : hopesGo [x] 0 [x] = 0 := by simpa [hopesE] using e
 rw [hopesGo] at e1
 split at e1
 ·contradiction
 ·rename_i h1
  exact (hopeF_one (by simpa using h1)).1
theorem hopesGo_one {h : List HopeS} : ∀ (r : List HopeS) (k : Nat), hopesGo h k r = 0 → risingGo (h.map (·.Player)) k (r.map (·.Player)) = 0 ∧ ∀ x ∈ r, One x
 | [], _, _ => ⟨rfl, fun x hx => by cases hx⟩
 | y :: r, k, e => by
   rw [hopesGo] at e
   split at e
   ·contradiction
   ·rename_i h1
    obtain ⟨h2, h3⟩ := hopeF_one (h := h) (k := k) (x := y) (by simpa using h1)
    obtain ⟨h4, h5⟩ := hopesGo_one r (k + 1) e
    refine ⟨?_, fun x hx => ?_⟩
    ·have e0 : (h.map (·.Player)).getD (k - 1) [] = (h.getD (k - 1) hope0).Player := by
      rw [List.getD_eq_getElem?_getD, List.getD_eq_getElem?_getD, List.getElem?_map]
      cases h[k - 1]? <;> rfl
     simp only [List.map_cons, risingGo]
     rw [if_neg (by simp [h2.key]), if_neg (by rw [e0]; simpa using h2.key |> fun _ => h3)]
     exact h4
    ·rcases List.mem_cons.1 hx with rfl | hx
     ·exact h2
     ·exact h5 x hx
theorem hopes_one {h : List HopeS} (e : hopesE h = 0) : SortedS (h.map (·.Player)) ∧ ∀ x ∈ h, One x := by
 unfold hopesE at e
 split at e
 ·omega
 ·obtain ⟨h1, h2⟩ := hopesGo_one h 0 e
  exact ⟨rising1_sorted (by simpa [rising1] using h1), h2⟩
theorem hopesGo_of {h : List HopeS} (hs : SortedS (h.map (·.Player))) : ∀ (t : List HopeS) (k : Nat), (∀ x ∈ t, One x) → t = h.drop k → hopesGo h k t = 0
 | [], _, _, _ => rfl
 | x :: t, k, ho, e => by
   have hk : h[k]? = some x := by
    have := congrArg (·[0]?) e
    simpa using this.symm
   have hlt := lt_of_get hk
   have hno : ¬ (0 < k ∧ leS x.Player (h.getD (k - 1) hope0).Player = true) := by
    rintro ⟨h0, hc⟩
    have hj : k - 1 < h.length := by omega
    have hg := getD_some (d := hope0) hj
    have := hs.get (i := k - 1) (j := k) (a := (h.getD (k - 1) hope0).Player) (b := x.Player) (by omega) (by rw [List.getElem?_map, hg]; rfl) (by rw [List.getElem?_map, hk]; rfl)
    rw [leS_iff, this] at hc; cases hc
   have hx := ho x List.mem_cons_self
   have hf : hopeF h k x = 0 := by rw [hopeF_go hx.key hno hx.pos hx.len]; exact hx.outs
   rw [hopesGo_go hf]
   refine hopesGo_of hs t (k + 1) (fun y hy => ho y (List.mem_cons_of_mem _ hy)) ?_
   have := congrArg List.tail e
   simpa using this
theorem hopes_of {h : List HopeS} (hl : h.length ≤ 12) (hs : SortedS (h.map (·.Player))) (ho : ∀ x ∈ h, One x) : hopesE h = 0 := by
 rw [hopesE, if_neg (by omega)]
 exact hopesGo_of hs h 0 ho rfl
def byHope (x y : HopeS) : Int := cmpS x.Player y.Player
theorem byHope_cmp : Cmp byHope (fun _ => True) where
 flip x y _ _ := by unfold byHope; rw [cmpS_flip x.Player y.Player]; omega
 trans x y z _ _ _ h1 h2 := cmpS_trans h1 h2
theorem hope_sorted {m : List HopeS} (h : (m.map (·.Player)).Nodup) : SortedS ((isort byHope m).map (·.Player)) := by
 have h1 := isort_sorted byHope_cmp (l := m) (fun _ _ => trivial)
 have h2 : ((isort byHope m).map (·.Player)).Nodup := ((isort_perm byHope m).map _).nodup_iff.2 h
 unfold SortedS
 rw [List.pairwise_map]
 have h3 := List.pairwise_map.1 h2
 refine (h1.and h3).imp fun ⟨a1, a2⟩ => ?_
 rcases less_total _ _ with h | h | h
 ·exact h
 ·exact absurd h a2
 ·unfold byHope at a1
  rw [cmpS_le] at a1
  rw [h] at a1; cases a1
/-- x in the place of the one who is named so. -/
theorem repl_perm {s : Str} {x : HopeS} : ∀ {a : List HopeS} {k : Nat} {z : HopeS}, (a.map (·.Player)).Nodup → a[k]? = some z → z.Player = s → (a.set k x).Perm (a.filter (fun z => !(z.Player == s)) ++ [x])
 | [], k, z, _, hz, _ => by simp at hz
 | w :: a, 0, z, hn, hz, hs => by
   simp only [List.getElem?_cons_zero, Option.some.injEq] at hz
   subst hz
   simp only [List.map_cons, List.nodup_cons, List.mem_map, not_exists, not_and] at hn
   have hf : (w :: a).filter (fun z => !(z.Player == s)) = a := by
    rw [List.filter_cons_of_neg (by simp [hs])]
    refine List.filter_eq_self.2 fun q hq => ?_
    have := hn.1 q hq
    simp only [Bool.not_eq_true', beq_eq_false_iff_ne, ne_eq]
    rw [← hs]; exact this
   rw [hf, List.set_cons_zero]
   exact List.perm_append_comm (l₁ := [x]) (l₂ := a)
 | w :: a, k + 1, z, hn, hz, hs => by
   simp only [List.getElem?_cons_succ] at hz
   simp only [List.map_cons, List.nodup_cons, List.mem_map, not_exists, not_and] at hn
   have hw : ¬ w.Player = s := fun e => hn.1 z (List.mem_of_getElem? hz) (by rw [hs, e])
   rw [List.set_cons_succ, List.filter_cons_of_pos (by simpa using hw), List.cons_append]
   exact (repl_perm hn.2 hz hs).cons _
/-- Where the one who goes stands. -/
def betK (a : List HopeS) (y : HopeS) : Nat := (idxF (fun z => z.Player == y.Player) a 0).toNat
def withB (a : List HopeS) (x y : HopeS) : List HopeS := a.set (betK a y) x
def sortB (a : List HopeS) (x y : HopeS) : List HopeS := isort byHope (a.filter (fun z => !(z.Player == y.Player)) ++ [x])
theorem idxF_at {α : Type} {p : α → Bool} : ∀ {l : List α} (k : Nat), (∃ x ∈ l, p x = true) → ∃ (i : Nat) (x : α), idxF p l k = ((k + i : Nat) : Int) ∧ l[i]? = some x ∧ p x = true
 | [], _, h => by obtain ⟨x, hx, _⟩ := h; cases hx
 | y :: l, k, h => by
   unfold idxF
   by_cases c : p y = true
   ·exact ⟨0, y, by rw [if_pos c]; rfl, rfl, c⟩
   ·obtain ⟨x, hx, hp⟩ := h
    have hx' : x ∈ l := by
     rcases List.mem_cons.1 hx with rfl | hx
     ·exact absurd hp c
     ·exact hx
    obtain ⟨i, z, h1, h2, h3⟩ := idxF_at (l := l) (k + 1) ⟨x, hx', hp⟩
    refine ⟨i + 1, z, ?_, by simpa using h2, h3⟩
    rw [if_neg c, show ((k : Int) + 1) = ((k + 1 : Nat) : Int) by omega, h1]
    congr 1; omega
structure BetOk (a b : List HopeS) (x y : HopeS) : Prop where
 h0a : hopesE a = 0
 h0b : hopesE b = 0
 h0x : hopesE [x] = 0
 h0y : hopesE [y] = 0
 has : a.any (sameH y) = true
 new : (a ++ b).any (fun z => z.Player == x.Player) = false
section
variable {a b : List HopeS} {x y : HopeS}
theorem BetOk.at (h : BetOk a b x y) : ∃ z, a[betK a y]? = some z ∧ z.Player = y.Player ∧ idxF (fun z => z.Player == y.Player) a 0 = (betK a y : Int) := by
 obtain ⟨z, hz, hs⟩ := List.any_eq_true.1 h.has
 have hs1 : y.Player = z.Player := by
  unfold sameH at hs
  simp only [Bool.and_eq_true, beq_iff_eq] at hs
  exact hs.1
 obtain ⟨i, w, h1, h2, h3⟩ := idxF_at (p := fun z : HopeS => z.Player == y.Player) (l := a) 0 ⟨z, hz, by simp [hs1]⟩
 have h1' : idxF (fun z : HopeS => z.Player == y.Player) a 0 = (i : Int) := by
  rw [show ((0 : Nat) : Int) = 0 from rfl] at h1
  rw [h1, Nat.zero_add]
 have hk : betK a y = i := by unfold betK; rw [h1']; rfl
 rw [hk]
 exact ⟨w, h2, by simpa using h3, h1'⟩
theorem BetOk.perm (h : BetOk a b x y) : (sortB a x y).Perm (withB a x y) := by
 obtain ⟨z, hz, hs, _⟩ := h.at
 exact (isort_perm _ _).trans (repl_perm (sortedS_nodup (hopes_one h.h0a).1) hz hs).symm
theorem BetOk.one (h : BetOk a b x y) : ∀ z ∈ withB a x y, One z := fun z hz => by
 rcases mem_set_of hz with rfl | hz
 ·exact one_of h.h0x
 ·exact (hopes_one h.h0a).2 z hz
theorem BetOk.ok (h : BetOk a b x y) : ∀ z ∈ withB a x y, HopeOk z := fun z hz => (h.one z hz).ok
theorem BetOk.len (h : BetOk a b x y) : (withB a x y).length ≤ 12 := by
 unfold withB; rw [List.length_set]; exact (hopes_ok h.h0a).1
theorem BetOk.right (h : BetOk a b x y) : hopesE (sortB a x y) = 0 := by
 refine hopes_of (by rw [h.perm.length_eq]; exact h.len) (hope_sorted ?_) fun z hz => h.one z (h.perm.mem_iff.1 hz)
 rw [List.map_append, List.nodup_append]
 have hn := sortedS_nodup (hopes_one h.h0a).1
 refine ⟨(hn.sublist ((List.filter_sublist (l := a)).map _)), by simp, fun s hs t ht e => ?_⟩
 rw [List.mem_map] at hs
 obtain ⟨z, hz, rfl⟩ := hs
 simp only [List.map_cons, List.map_nil, List.mem_singleton] at ht
 have h1 := List.any_eq_false.1 h.new z (List.mem_append_left _ (List.mem_filter.1 hz).1)
 exact h1 (by simp [e, ht])
end
end Go.HL
end
section
namespace Go.HL
section
variable {h : List HopeS} {n : Int}
theorem above_p (h0 : hopesE h = 0) (hs : spreadE h = 0) : aboveE h n = ptE n := by rw [aboveE, hE_spread h0, if_neg (by rw [hs]; simp)]
end
end Go.HL
end
section
namespace Go.HL
abbrev named (s : Str) (z : HopeS) : Bool := z.Player == s
section
variable {a b : List HopeS} {x y : HopeS}
end
end Go.HL
end
section
namespace Go.HL
end Go.HL
end
section
namespace Go.HL
theorem lowF_le {w T : Int} (hT : 0 < T) (h : w ≤ T) : (lowF w T).Num ≤ (lowF w T).Den := by
 obtain ⟨g, hg, e1, e2, _⟩ := lowF_mul (w := w) hT
 refine Int.le_of_mul_le_mul_right (a := g) ?_ hg
 rw [← e1, ← e2]; exact h
abbrev chances3 (a b : List HopeS) : List FracS := [(chanceOf a b).Win, (chanceOf a b).Draw, (chanceOf a b).Lose]
section
variable {a b : List HopeS}
theorem chance3_bd (oa : ∀ x ∈ a, HopeOk x) (ob : ∀ x ∈ b, HopeOk x) (e : cmpE a b = 0) : ∀ z ∈ chances3 a b, (0 ≤ z.Num ∧ z.Num ≤ z.Den) ∧ (1 ≤ z.Den ∧ z.Den ≤ 1000000000000) := by
 have hSP := sum_prod oa ob e
 have h := S_bd (spreadL_pos oa) (spreadL_pos ob) (spreadL a).length
 rw [List.take_length, hSP] at h
 have pa := (prodP_one oa).2.2.1
 have pb := (prodP_one ob).2.2.1
 have hT : 0 < prodP a 1 * prodP b 1 := Int.mul_pos (by omega) (by omega)
 have hp : prodP a 1 * prodP b 1 ≤ 1000000000000 := (cmpE_ok e).2.2
 have key : ∀ w, 0 ≤ w → w ≤ prodP a 1 * prodP b 1 → (0 ≤ (lowF w (prodP a 1 * prodP b 1)).Num ∧ (lowF w (prodP a 1 * prodP b 1)).Num ≤ (lowF w (prodP a 1 * prodP b 1)).Den) ∧ (1 ≤ (lowF w (prodP a 1 * prodP b 1)).Den ∧ (lowF w (prodP a 1 * prodP b 1)).Den ≤ 1000000000000) := fun w h0 h1 => by
  have h2 := lowF_num hT h0
  have h3 := lowF_den (w := w) hT
  have h4 := lowF_le hT h1
  omega
 intro z hz
 simp only [chances3, List.mem_cons, List.not_mem_nil, or_false] at hz
 rcases hz with rfl | rfl | rfl
 ·exact key _ h.1.1 h.1.2
 ·exact key _ h.2.1.1 h.2.1.2
 ·exact key _ h.2.2.1 h.2.2.2
theorem parts3 (oa : ∀ x ∈ a, HopeOk x) (ob : ∀ x ∈ b, HopeOk x) (e : cmpE a b = 0) {m : Int} (h1 : m.tmod (chanceOf a b).Win.Den = 0) (h2 : m.tmod (chanceOf a b).Draw.Den = 0) (h3 : m.tmod (chanceOf a b).Lose.Den = 0) :
 (chanceOf a b).Win.Num * m.tdiv (chanceOf a b).Win.Den + (chanceOf a b).Draw.Num * m.tdiv (chanceOf a b).Draw.Den + (chanceOf a b).Lose.Num * m.tdiv (chanceOf a b).Lose.Den = m := by
 have pa := (prodP_one oa).2.2.1
 have pb := (prodP_one ob).2.2.1
 have hT : 0 < prodP a 1 * prodP b 1 := Int.mul_pos (by omega) (by omega)
 exact parts_all hT (by rw [← sum_prod oa ob e]; exact three_S _) h1 h2 h3
end
theorem fpart_bd {z : FracS} {m : Int} (h : 0 ≤ z.Num ∧ z.Num ≤ z.Den) (hd : 1 ≤ z.Den) (hm : 0 ≤ m) : 0 ≤ z.Num * m.tdiv z.Den ∧ z.Num * m.tdiv z.Den ≤ m := by
 have e : m.tdiv z.Den = m / z.Den := Int.tdiv_eq_ediv_of_nonneg hm
 have q0 : 0 ≤ m / z.Den := Int.ediv_nonneg hm (by omega)
 have q1 : z.Den * (m / z.Den) ≤ m := Int.mul_ediv_self_le (by omega)
 have q2 : z.Num * (m / z.Den) ≤ z.Den * (m / z.Den) := Int.mul_le_mul_of_nonneg_right h.2 q0
 rw [e]
 exact ⟨Int.mul_nonneg h.1 q0, by omega⟩
theorem aboveW_mono (n : Int) : ∀ {L : NW}, PosW L → aboveW (n + 1) L ≤ aboveW n L
 | [], _ => by simp [aboveW]
 | p :: r, h => by
   have ih := aboveW_mono n (L := r) fun q hq => h q (List.mem_cons_of_mem _ hq)
   have hp : 1 ≤ p.2 := h p List.mem_cons_self
   simp only [aboveW]
   split <;> split <;> omega
section
variable {h : List HopeS}
theorem above_all (h0 : hopesE h = 0) (hs : spreadE h = 0) (n : Int) : (0 ≤ aboveW n (cz h) ∧ aboveW n (cz h) ≤ 1000000000000) ∧ 0 < prodP h 1 ∧ prodP h 1 ≤ 1000000000000 := by
 obtain ⟨_, ok⟩ := hopes_ok h0
 have h1 := above_pre h0 hs n (spreadL h).length
 rw [aboveW_perm (preL_all h)] at h1
 have hp := spreadE_prod ok hs
 have h2 : prodT h ≤ 1000000000000 := hp.2.2.1
 have h3 := hp.1
 exact ⟨h1, by omega⟩
theorem above_e (h0 : hopesE h = 0) (hs : spreadE h = 0) {n : Int} (hn : -12000000 ≤ n ∧ n ≤ 12000000) : aboveE h n = 0 ∧ aboveF h n = lowF (aboveW n (cz h)) (prodP h 1) := by
 have he : aboveE h n = 0 := by rw [above_p h0 hs, ptE, if_neg (by simp [out]; omega)]
 exact ⟨he, aboveF_ok he⟩
theorem above_bd (h0 : hopesE h = 0) (hs : spreadE h = 0) (n : Int) : (0 ≤ (lowF (aboveW n (cz h)) (prodP h 1)).Num ∧ (lowF (aboveW n (cz h)) (prodP h 1)).Num ≤ 1000000000000) ∧ 1 ≤ (lowF (aboveW n (cz h)) (prodP h 1)).Den ∧ (lowF (aboveW n (cz h)) (prodP h 1)).Den ≤ 1000000000000 := by
 obtain ⟨h1, h2, h3⟩ := above_all h0 hs n
 have h4 := lowF_num h2 h1.1
 have h5 := lowF_den (w := aboveW n (cz h)) h2
 omega
theorem above_low (h0 : hopesE h = 0) (hs : spreadE h = 0) (n : Int) : lowF (lowF (aboveW n (cz h)) (prodP h 1)).Num (lowF (aboveW n (cz h)) (prodP h 1)).Den = lowF (aboveW n (cz h)) (prodP h 1) := lowF_low (above_all h0 hs n).2.1 (above_all h0 hs n).1.1
theorem above_le (h0 : hopesE h = 0) (hs : spreadE h = 0) (n : Int) : ((lowF (aboveW (n + 1) (cz h)) (prodP h 1)).Num * 1000).tdiv (lowF (aboveW (n + 1) (cz h)) (prodP h 1)).Den ≤ ((lowF (aboveW n (cz h)) (prodP h 1)).Num * 1000).tdiv (lowF (aboveW n (cz h)) (prodP h 1)).Den :=
 thousand_le (above_all h0 hs n).2.1 (aboveW_mono n (cz_pos (hopes_ok h0).2).1)
end
end Go.HL
end
section
namespace Go.Proofs.YtbihpphgoaflfaaGreatDoor
open Go.HL
set_option maxRecDepth 100000
set_option linter.unusedVariables false
set_option linter.unusedSimpArgs false
/-- benchwarmer/benchkeep1.ChancesAddUp$1 -/
theorem c_benchkeep1_ChancesAddUp_1 [Tracks] {z : FracS} {n : Int} (hd : 1 ≤ z.Den ∧ z.Den ≤ 1000000000000) (hn : 0 ≤ n ∧ n ≤ 1000000000000) (hm : 0 ≤ z.Num * n.tdiv z.Den ∧ z.Num * n.tdiv z.Den ≤ n) : ConP Tryz.prog 31 [eFrac z, .int .i64 n] (.int .i64 (z.Num * n.tdiv z.Den)) := by
 refine Con.of_body Tryz.func31 rfl Tryz.ntmps31 rfl rfl ?_
 refine hw_reg ?_
 refine dp rfl (pop_box rfl rfl) ?_
 refine dp rfl (pop_assign rfl) ?_
 refine dn ?_
 refine hw_draw (fun _ => True) [] mixed ?_
 refine ahp 0 rfl rfl (by kernel_rfl) (by kernel_rfl) (pop_fieldAddr ty34 rfl ty3 (by decide) rfl) ?_
 refine ahp 1 rfl rfl (by kernel_rfl) (by kernel_rfl) (pop_load ty3 rfl rfl rfl) ?_
 refine ahp 2 rfl rfl (by kernel_rfl) (by kernel_rfl) (pop_move rfl) ?_
 refine ahp 3 rfl rfl (by kernel_rfl) (by kernel_rfl) (pop_fieldAddr ty34 rfl ty3 (by decide) rfl) ?_
 refine ahp 4 rfl rfl (by kernel_rfl) (by kernel_rfl) (pop_load ty3 rfl rfl rfl) ?_
 refine ahp 5 rfl rfl (by kernel_rfl) (by kernel_rfl) (pop_quo64 rfl rfl (by omega) (by omega) (by omega)) ?_
 refine ahp 6 rfl rfl (by kernel_rfl) (by kernel_rfl) (pop_mul64 rfl rfl (by omega) (by omega)) ?_
 refine ahp 7 rfl rfl (by kernel_rfl) (by kernel_rfl) (pop_assign rfl) ?_
 refine ahz (by kernel_rfl) ?_
 refine hw_ret ?_
 refine ret_p rfl ?_
 rfl

set_option maxHeartbeats 2000000 in
/-- benchwarmer/benchkeep1.ChancesAddUp -/
theorem c_benchkeep1_ChancesAddUp [Tracks] {l : List Int} (hT : Tracks.on = false) : ConP Tryz.prog 5 [.slice 1 (l.map (.int .i64))] (.bool true) := by
 refine Con.of_body Tryz.func5 rfl Tryz.ntmps5 rfl rfl ?_
 refine hw_reg ?_
 refine dp rfl (pop_assign rfl) ?_
 refine dn ?_
 refine hw_reg ?_
 refine dp rfl (pop_move rfl) ?_
 refine dp rfl (pop_build (cs := [_, _]) ty25 pl25 rfl) ?_
 refine de rfl (eop_box rfl rfl fun b => ?_)
 refine dghost (M' := [St b l 0]) rfl ?_
 refine dp rfl (pop_assign rfl) ?_
 refine dn ?_
 refine hw_reg ?_
 refine dp rfl (pop_move rfl) ?_
 first
 | refine de rfl (eop_callx (i := 0) ca6 rfl (WeakL.refl _) rfl (c_benchmake_Stream_HopeList (by first | assumption | omega | (simp; omega) | simp_all) (by first | assumption | omega | (simp; omega) | simp_all)) ?_)
 | refine de rfl (eop_callx (i := 1) ca6 rfl (WeakL.refl _) rfl (c_benchmake_Stream_HopeList (by first | assumption | omega | (simp; omega) | simp_all) (by first | assumption | omega | (simp; omega) | simp_all)) ?_)
 | refine de rfl (eop_callx (i := 2) ca6 rfl (WeakL.refl _) rfl (c_benchmake_Stream_HopeList (by first | assumption | omega | (simp; omega) | simp_all) (by first | assumption | omega | (simp; omega) | simp_all)) ?_)
 | refine de rfl (eop_callx (i := 3) ca6 rfl (WeakL.refl _) rfl (c_benchmake_Stream_HopeList (by first | assumption | omega | (simp; omega) | simp_all) (by first | assumption | omega | (simp; omega) | simp_all)) ?_)
 rintro _ _ ⟨l21, a21, rfl, hl21, ha21, rfl⟩
 refine dp rfl (pop_move rfl) ?_
 first
 | refine de rfl (eop_callx (i := 0) ca6 rfl (WeakL.refl _) rfl (c_benchmake_Stream_HopeList (by first | assumption | omega | (simp; omega) | simp_all) (by first | assumption | omega | (simp; omega) | simp_all)) ?_)
 | refine de rfl (eop_callx (i := 1) ca6 rfl (WeakL.refl _) rfl (c_benchmake_Stream_HopeList (by first | assumption | omega | (simp; omega) | simp_all) (by first | assumption | omega | (simp; omega) | simp_all)) ?_)
 | refine de rfl (eop_callx (i := 2) ca6 rfl (WeakL.refl _) rfl (c_benchmake_Stream_HopeList (by first | assumption | omega | (simp; omega) | simp_all) (by first | assumption | omega | (simp; omega) | simp_all)) ?_)
 | refine de rfl (eop_callx (i := 3) ca6 rfl (WeakL.refl _) rfl (c_benchmake_Stream_HopeList (by first | assumption | omega | (simp; omega) | simp_all) (by first | assumption | omega | (simp; omega) | simp_all)) ?_)
 rintro _ _ ⟨l23, a23, rfl, hl23, ha23, rfl⟩
 refine dp rfl (pop_move rfl) ?_
 first
 | refine de rfl (eop_callx (i := 0) ca29 rfl (WeakL.refl _) rfl (c_benchmake_Stream_Range (by first | assumption | omega | (simp; omega) | simp_all) (by first | assumption | omega | (simp; omega) | simp_all) (by first | assumption | omega | (simp; omega) | simp_all) (by first | assumption | omega | (simp; omega) | simp_all)) ?_)
 | refine de rfl (eop_callx (i := 1) ca29 rfl (WeakL.refl _) rfl (c_benchmake_Stream_Range (by first | assumption | omega | (simp; omega) | simp_all) (by first | assumption | omega | (simp; omega) | simp_all) (by first | assumption | omega | (simp; omega) | simp_all) (by first | assumption | omega | (simp; omega) | simp_all)) ?_)
 | refine de rfl (eop_callx (i := 2) ca29 rfl (WeakL.refl _) rfl (c_benchmake_Stream_Range (by first | assumption | omega | (simp; omega) | simp_all) (by first | assumption | omega | (simp; omega) | simp_all) (by first | assumption | omega | (simp; omega) | simp_all) (by first | assumption | omega | (simp; omega) | simp_all)) ?_)
 | refine de rfl (eop_callx (i := 3) ca29 rfl (WeakL.refl _) rfl (c_benchmake_Stream_Range (by first | assumption | omega | (simp; omega) | simp_all) (by first | assumption | omega | (simp; omega) | simp_all) (by first | assumption | omega | (simp; omega) | simp_all) (by first | assumption | omega | (simp; omega) | simp_all)) ?_)
 rintro _ _ ⟨y25, rfl, hy25, rfl⟩
 refine dp rfl (pop_assign rfl) ?_
 refine dp rfl (pop_assign rfl) ?_
 refine dp rfl (pop_assign rfl) ?_
 refine dn ?_
 refine hw_ghost Ghost.drop ?_
 have hba := hl21.bd
 have hbb := hl23.bd
 refine hw_seq ?_
 refine hw_reg ?_
 refine dp rfl (pop_move rfl) ?_
 refine dp rfl (pop_call ca10 rfl (WeakL.refl _) (c_benchref1_HopesFault (h := l21) hba.hl hba.ho hba.hs)) ?_
 refine dp rfl (pop_neq rfl rfl) ?_
 refine dp rfl (pop_move rfl) ?_
 refine dg rfl rfl (fun hc => ⟨_, OpenTo.refl _, pop_move rfl⟩) ?_
 refine dg rfl rfl (fun hc => ⟨_, OpenTo.upd (t := 30) rfl (by first | exact hc | simp_all) (OpenTo.refl _), pop_call ca10 rfl (WeakL.refl _) (c_benchref1_HopesFault (h := l23) hbb.hl hbb.ho hbb.hs)⟩) ?_
 refine dg rfl rfl (fun hc => ⟨_, OpenTo.upd (t := 31) rfl (by first | exact hc | simp_all) (OpenTo.refl _), pop_neq rfl rfl⟩) ?_
 refine dp rfl (pop_picko rfl (.inl rfl) (.inr ⟨_, rfl, fun h => by simp_all⟩)) ?_
 refine dn ?_
 refine hw_cond rfl (fun h1 => ?_) (fun h2 => ?_)
 ·try simp at h1
  refine hw_reg ?_
  refine dp rfl (pop_call ca30 rfl (WeakL.refl _) (c_benchkeep1_ready hT)) ?_
  refine dp rfl (pop_assign rfl) ?_
  refine dn ?_
  refine hw_ret ?_
  refine ret_p rfl ?_
  show HVal.bool _ = _
  first
  | rfl
  | (simp [h12, h12b]; done)
  | (simp [eqHL, eqH, hx1, hx2, hx3, hlow, hle]; done)
 ·try simp at h2
  refine hw_skip ?_
  refine seqQ_n ?_
  have h0a : hopesE l21 = 0 := h2.1
  have h0b : hopesE l23 = 0 := h2.2
  have oka := (hopes_ok h0a).2
  have okb := (hopes_ok h0b).2
  have hz : orI [hopesE l21, hopesE l23] = 0 := by rw [h0a, h0b]; rfl
  have hz2 : orI [hopesE l23, hopesE l21] = 0 := by rw [h0a, h0b]; rfl
  have hc := chE_cmp hz
  have hc2 := chE_cmp hz2
  have hfl := cmpE_flip l21 l23
  refine hw_reg ?_
  refine dp rfl (pop_move rfl) ?_
  refine dp rfl (pop_move rfl) ?_
  refine dp rfl (pop_call ca23 rfl (WeakL.refl _) (c_value_Chances (a := l21) (b := l23) hT hba.hl hba.ho hbb.hl hbb.ho)) ?_
  refine dp rfl (pop_move rfl) ?_
  refine dp rfl (pop_extract rfl rfl) ?_
  refine dp rfl (pop_extract rfl rfl) ?_
  refine de rfl (eop_alloc ty52 rfl fun b7 => ?_)
  refine de0 (eop_storew ty52 rfl rfl rfl rfl rfl ?_)
  refine dp rfl (pop_assign rfl) ?_
  refine dn ?_
  refine hw_ghost (Ghost.fc0 7 rfl) ?_
  refine hw_reg ?_
  refine dp rfl (pop_move rfl) ?_
  refine dp rfl (pop_move rfl) ?_
  refine dp rfl (pop_call ca23 rfl (WeakL.refl _) (c_value_Chances (a := l23) (b := l21) hT hbb.hl hbb.ho hba.hl hba.ho)) ?_
  refine dp rfl (pop_move rfl) ?_
  refine dp rfl (pop_extract rfl rfl) ?_
  refine dp rfl (pop_extract rfl rfl) ?_
  refine de rfl (eop_alloc ty52 rfl fun b9 => ?_)
  refine de0 (eop_storew ty52 rfl rfl rfl rfl rfl ?_)
  refine dp rfl (pop_assign rfl) ?_
  refine dn ?_
  refine hw_ghost (Ghost.fc0 9 rfl) ?_
  refine hw_seq ?_
  refine hw_reg ?_
  refine dp rfl (pop_move rfl) ?_
  refine dp rfl (pop_move rfl) ?_
  refine dp rfl (pop_neq rfl rfl) ?_
  refine dp rfl (pop_move rfl) ?_
  refine dg rfl rfl (fun hc => ⟨_, OpenTo.refl _, pop_move rfl⟩) ?_
  refine dg rfl rfl (fun hc => ⟨_, OpenTo.upd (t := 51) rfl (by first | exact hc | simp_all) (OpenTo.refl _), pop_neq rfl rfl⟩) ?_
  refine dp rfl (pop_picko rfl (.inl rfl) (.inr ⟨_, rfl, fun h => by simp_all⟩)) ?_
  refine dn ?_
  refine hw_cond rfl (fun h3 => ?_) (fun h4 => ?_)
  ·try simp at h3
   have h12 : chE l21 l23 = 12 := by
    rcases cmpE_cases l21 l23 with q | q
    ·exfalso
     rw [hc, hc2, ← hfl, q] at h3
     simp at h3
    ·rw [hc]; exact q
   have h12b : chE l23 l21 = 12 := by rw [hc2, ← hfl, ← hc]; exact h12
   refine hw_reg ?_
   refine dp rfl (pop_move rfl) ?_
   refine dp rfl (pop_move rfl) ?_
   refine dp rfl (pop_eql rfl rfl) ?_
   refine dp rfl (pop_move rfl) ?_
   refine dg rfl rfl (fun hc => ⟨_, OpenTo.refl _, pop_move rfl⟩) ?_
   refine dg rfl rfl (fun hc => ⟨_, OpenTo.upd (t := 58) rfl (by first | exact hc | simp_all) (OpenTo.refl _), pop_eql rfl rfl⟩) ?_
   refine dp rfl (pop_picko rfl (.inr ⟨_, rfl, fun h => by simp_all⟩) (.inl rfl)) ?_
   refine dp rfl (pop_move rfl) ?_
   refine dg rfl rfl (fun hc => ⟨_, OpenTo.refl _, pop_call ca30 rfl (WeakL.refl _) (c_benchkeep1_ready hT)⟩) ?_
   refine dp rfl (pop_picko rfl (.inr ⟨_, rfl, fun h => by simp_all⟩) (.inl rfl)) ?_
   refine dp rfl (pop_assign rfl) ?_
   refine dn ?_
   refine hw_ret ?_
   refine ret_p rfl ?_
   show HVal.bool _ = _
   first
   | rfl
   | (simp [h12, h12b]; done)
   | (simp [eqHL, eqH, hx1, hx2, hx3, hlow, hle]; done)
  ·try simp at h4
   refine hw_skip ?_
   refine seqQ_n ?_
   have hE1 : chE l21 l23 = 0 := h4.2
   have hE2 : chE l23 l21 = 0 := by rw [← h4.1]; exact h4.2
   have hcz : cmpE l21 l23 = 0 := by rw [← hc]; exact hE1
   have hsa : spreadE l21 = 0 := (cmpE_ok hcz).1
   rw [if_neg (show ¬ (chE l21 l23 ≠ 0) from by rw [hE1]; simp), if_neg (show ¬ (chE l23 l21 ≠ 0) from by rw [hE2]; simp)]
   have hfs := chance3_bd oka okb hcz
   have hw := hfs (chanceOf l21 l23).Win (by simp)
   have hd := hfs (chanceOf l21 l23).Draw (by simp)
   have hl := hfs (chanceOf l21 l23).Lose (by simp)
   refine hw_reg ?_
   refine dp rfl (pop_assign rfl) ?_
   refine dn ?_
   refine hw_reg ?_
   refine dp rfl (pop_assign rfl) ?_
   refine dn ?_
   refine hw_seq ?_
   refine hw_reg ?_
   refine dp rfl (pop_fieldAddr ty52 rfl ty34 (by decide) rfl) ?_
   refine dp rfl (pop_eq (h' := eFrac (chanceOf l21 l23).Win) (pop_loada ty34 rfl rfl (Nat.le_of_ble_eq_true rfl)) rfl) ?_
   refine dp rfl (pop_fieldAddr ty52 rfl ty34 (by decide) rfl) ?_
   refine dp rfl (pop_eq (h' := eFrac (chanceOf l21 l23).Draw) (pop_loada ty34 rfl rfl (Nat.le_of_ble_eq_true rfl)) rfl) ?_
   refine dp rfl (pop_fieldAddr ty52 rfl ty34 (by decide) rfl) ?_
   refine dp rfl (pop_eq (h' := eFrac (chanceOf l21 l23).Lose) (pop_loada ty34 rfl rfl (Nat.le_of_ble_eq_true rfl)) rfl) ?_
   refine dp rfl (pop_buildSlice (hs := [_, _, _]) ty61 ty34 rfl rfl (by decide) (by decide) rfl) ?_
   refine dp rfl (pop_lenm (f := eFrac) (l := (chances3 l21 l23)) ty61 rfl) ?_
   refine dp rfl (pop_move rfl) ?_
   refine dn ?_
   refine hw_block ?_
   refine hw_loopw2 [2, 12, 14, 72, 73, 74, 75, 76, 77, 78, 79, 80, 81, 82, 83, 84, 85, 86, 87, 88] (fun (k : Nat) (m : Int) => [(72, .int .i64 (k : Int)), (12, .int .i64 m)]) (fun (k : Nat) (m : Int) => []) (fun (k : Nat) (m : Int) => 1 ≤ m ∧ m ≤ 1000000000000) (fun (k : Nat) (m : Int) => 3 - k) (0) (1) ?_ ?_ ?_ ?_
   ·exact ⟨by omega, by omega⟩
   ·exact ⟨rfl, rfl, trivial⟩
   ·exact List.Perm.refl _
   ·intro k m hinv
    obtain ⟨hm1, hm2⟩ := hinv
    refine hw_reg ?_
    refine dp rfl (pop_lss rfl rfl) ?_
    refine dn ?_
    refine hw_seq ?_
    refine hw_cond rfl (fun h5 => ?_) (fun h6 => ?_)
    ·try simp at h5
     have hk3 : k < 3 := by omega
     obtain ⟨z, hz⟩ : ∃ z, (chances3 l21 l23)[k]? = some z := ⟨_, List.getElem?_eq_getElem hk3⟩
     have hzz := hfs z (List.mem_of_getElem? hz)
     refine hw_skip ?_
     refine seqQ_n ?_
     refine hw_seq ?_
     refine hw_block ?_
     refine hw_reg ?_
     refine dp rfl (pop_idx (f := eFrac) (l := (chances3 l21 l23)) (j := k) (a := z) ty61 ty34 rfl rfl rfl hz) ?_
     refine dp rfl (pop_loadw ty34 rfl rfl rfl rfl) ?_
     refine de rfl (eop_alloc ty34 rfl fun b14 => ?_)
     refine de0 (eop_storew ty34 rfl rfl rfl rfl rfl ?_)
     refine dn ?_
     refine hw_ghost (Ghost.fc0 14 rfl) ?_
     refine hw_seq ?_
     refine hw_reg ?_
     refine dp rfl (pop_fieldAddr ty34 rfl ty3 (by decide) rfl) ?_
     refine dp rfl (pop_load ty3 rfl rfl rfl) ?_
     refine dp rfl (pop_lss rfl rfl) ?_
     refine dp rfl (pop_move rfl) ?_
     refine dg rfl rfl (fun hc => ⟨_, OpenTo.refl _, pop_fieldAddr ty34 rfl ty3 (by decide) rfl⟩) ?_
     refine dg rfl rfl (fun hc => ⟨_, OpenTo.upd (t := 80) rfl (by first | exact hc | simp_all) (OpenTo.refl _), pop_load ty3 rfl rfl rfl⟩) ?_
     refine dg rfl rfl (fun hc => ⟨_, OpenTo.upd (t := 81) rfl (by first | exact hc | simp_all) (OpenTo.refl _), pop_lss rfl rfl⟩) ?_
     refine dp rfl (pop_picko rfl (.inl rfl) (.inr ⟨_, rfl, fun h => by simp_all⟩)) ?_
     refine dn ?_
     refine hw_cond rfl (fun h7 => ?_) (fun h7 => ?_)
     ·exfalso
      try simp at h7
      omega
     ·try simp at h7
      refine hw_skip ?_
      refine seqQ_n ?_
      refine hw_reg1 ?_
      refine dp rfl (pop_move rfl) ?_
      refine dp rfl (pop_fieldAddr ty34 rfl ty3 (by decide) rfl) ?_
      refine dp rfl (pop_load ty3 rfl rfl rfl) ?_
      refine dp rfl (pop_max rfl rfl) ?_
      refine dp rfl (pop_assign rfl) ?_
      refine dn ?_
      refine blockQ_n ?_
      refine seqQ_n ?_
      refine hw_reg1 ?_
      refine dp rfl (pop_add64 rfl rfl (by omega) (by omega)) ?_
      refine dp rfl (pop_move rfl) ?_
      refine dn ?_
      exact ⟨k + 1, _, ⟨by first | omega | (split <;> omega), by first | omega | (split <;> omega)⟩, by dsimp only; omega, ⟨rfl, rfl, trivial⟩, (by repeat (first | exact keeps_refl | refine keeps_upd rfl ?_ | refine keeps_loop rfl rfl ?_)), List.Perm.refl _⟩
    ·try simp at h6
     refine hw_exit ?_
     refine seqQ_x ?_
     refine loopQ2_x ?_
     refine blockQ_eq ?_
     refine seqQ_n ?_
     refine hw_seq ?_
     have hpw := fpart_bd (m := m) hw.1 hw.2.1 (by omega)
     have hpd := fpart_bd (m := m) hd.1 hd.2.1 (by omega)
     have hpl := fpart_bd (m := m) hl.1 hl.2.1 (by omega)
     have hp3 := fun e1 e2 e3 => parts3 oka okb hcz (m := m) e1 e2 e3
     refine hw_draw (fun _ => True) [] mixed ?_
     refine ahp 0 rfl rfl (by kernel_rfl) (by kernel_rfl) (pop_move rfl) ?_
     refine ahp 1 rfl rfl (by kernel_rfl) (by kernel_rfl) (pop_fieldAddr ty52 rfl ty34 (by decide) rfl) ?_
     refine ahp 2 rfl rfl (by kernel_rfl) (by kernel_rfl) (pop_fieldAddr ty34 rfl ty3 (by decide) rfl) ?_
     refine ahp 3 rfl rfl (by kernel_rfl) (by kernel_rfl) (pop_load ty3 rfl rfl rfl) ?_
     refine ahp 4 rfl rfl (by kernel_rfl) (by kernel_rfl) (pop_rem rfl rfl (by omega)) ?_
     refine ahp 5 rfl rfl (by kernel_rfl) (by kernel_rfl) (pop_eql rfl rfl) ?_
     refine ahp 6 rfl rfl (by kernel_rfl) (by kernel_rfl) (pop_move rfl) ?_
     refine ahg 7 rfl rfl (by kernel_rfl) (by kernel_rfl) rfl (fun hc => ⟨_, OpenTo.refl _, pop_move rfl⟩) ?_
     refine ahg 8 rfl rfl (by kernel_rfl) (by kernel_rfl) rfl (fun hc => ⟨_, OpenTo.refl _, pop_fieldAddr ty52 rfl ty34 (by decide) rfl⟩) ?_
     refine ahg 9 rfl rfl (by kernel_rfl) (by kernel_rfl) rfl (fun hc => ⟨_, OpenTo.upd (t := 97) rfl (by first | exact hc | simp_all) (OpenTo.refl _), pop_fieldAddr ty34 rfl ty3 (by decide) rfl⟩) ?_
     refine ahg 10 rfl rfl (by kernel_rfl) (by kernel_rfl) rfl (fun hc => ⟨_, OpenTo.upd (t := 98) rfl (by first | exact hc | simp_all) (OpenTo.refl _), pop_load ty3 rfl rfl rfl⟩) ?_
     refine ahg 11 rfl rfl (by kernel_rfl) (by kernel_rfl) rfl (fun hc => by have hq := hc; (try simp at hq); exact ⟨_, OpenTo.upd (t := 99) rfl (by first | exact hc | simp_all) (OpenTo.upd (t := 96) rfl (by first | exact hc | simp_all) (OpenTo.refl _)), pop_rem rfl rfl (by omega)⟩) ?_
     refine ahg 12 rfl rfl (by kernel_rfl) (by kernel_rfl) rfl (fun hc => ⟨_, OpenTo.upd (t := 100) rfl (by first | exact hc | simp_all) (OpenTo.refl _), pop_eql rfl rfl⟩) ?_
     refine ahp 13 rfl rfl (by kernel_rfl) (by kernel_rfl) (pop_picko rfl (.inr ⟨_, rfl, fun h => by simp_all⟩) (.inl rfl)) ?_
     refine ahp 14 rfl rfl (by kernel_rfl) (by kernel_rfl) (pop_move rfl) ?_
     refine ahg 15 rfl rfl (by kernel_rfl) (by kernel_rfl) rfl (fun hc => ⟨_, OpenTo.refl _, pop_move rfl⟩) ?_
     refine ahg 16 rfl rfl (by kernel_rfl) (by kernel_rfl) rfl (fun hc => ⟨_, OpenTo.refl _, pop_fieldAddr ty52 rfl ty34 (by decide) rfl⟩) ?_
     refine ahg 17 rfl rfl (by kernel_rfl) (by kernel_rfl) rfl (fun hc => ⟨_, OpenTo.upd (t := 105) rfl (by first | exact hc | simp_all) (OpenTo.refl _), pop_fieldAddr ty34 rfl ty3 (by decide) rfl⟩) ?_
     refine ahg 18 rfl rfl (by kernel_rfl) (by kernel_rfl) rfl (fun hc => ⟨_, OpenTo.upd (t := 106) rfl (by first | exact hc | simp_all) (OpenTo.refl _), pop_load ty3 rfl rfl rfl⟩) ?_
     refine ahg 19 rfl rfl (by kernel_rfl) (by kernel_rfl) rfl (fun hc => by have hq := hc; (try simp at hq); exact ⟨_, OpenTo.upd (t := 107) rfl (by first | exact hc | simp_all) (OpenTo.upd (t := 104) rfl (by first | exact hc | simp_all) (OpenTo.refl _)), pop_rem rfl rfl (by omega)⟩) ?_
     refine ahg 20 rfl rfl (by kernel_rfl) (by kernel_rfl) rfl (fun hc => ⟨_, OpenTo.upd (t := 108) rfl (by first | exact hc | simp_all) (OpenTo.refl _), pop_eql rfl rfl⟩) ?_
     refine ahp 21 rfl rfl (by kernel_rfl) (by kernel_rfl) (pop_picko rfl (.inr ⟨_, rfl, fun h => by simp_all⟩) (.inl rfl)) ?_
     refine ahp 22 rfl rfl (by kernel_rfl) (by kernel_rfl) (pop_move rfl) ?_
     refine ahg 23 rfl rfl (by kernel_rfl) (by kernel_rfl) rfl (fun hc => ⟨_, OpenTo.refl _, pop_move rfl⟩) ?_
     refine ahg 24 rfl rfl (by kernel_rfl) (by kernel_rfl) rfl (fun hc => ⟨_, OpenTo.refl _, pop_fieldAddr ty52 rfl ty34 (by decide) rfl⟩) ?_
     refine ahg 25 rfl rfl (by kernel_rfl) (by kernel_rfl) rfl (fun hc => ⟨_, OpenTo.upd (t := 113) rfl (by first | exact hc | simp_all) (OpenTo.refl _), pop_eq (h' := eFrac (chanceOf l21 l23).Win) (pop_loada ty34 rfl rfl (Nat.le_of_ble_eq_true rfl)) rfl⟩) ?_
     refine ahg 26 rfl rfl (by kernel_rfl) (by kernel_rfl) rfl (fun hc => ⟨_, OpenTo.refl _, pop_move rfl⟩) ?_
     refine ahg 27 rfl rfl (by kernel_rfl) (by kernel_rfl) rfl (fun hc => by have hq := hc; (try simp at hq); exact ⟨_, OpenTo.upd (t := 115) rfl (by first | exact hc | simp_all) (OpenTo.upd (t := 114) rfl (by first | exact hc | simp_all) (OpenTo.upd (t := 112) rfl (by first | exact hc | simp_all) (OpenTo.refl _))), pop_callv ca31 rfl rfl (WeakL.refl _) (c_benchkeep1_ChancesAddUp_1 (z := (chanceOf l21 l23).Win) (n := m) (by omega) (by omega) hpw)⟩) ?_
     refine ahg 28 rfl rfl (by kernel_rfl) (by kernel_rfl) rfl (fun hc => ⟨_, OpenTo.refl _, pop_move rfl⟩) ?_
     refine ahg 29 rfl rfl (by kernel_rfl) (by kernel_rfl) rfl (fun hc => ⟨_, OpenTo.refl _, pop_fieldAddr ty52 rfl ty34 (by decide) rfl⟩) ?_
     refine ahg 30 rfl rfl (by kernel_rfl) (by kernel_rfl) rfl (fun hc => ⟨_, OpenTo.upd (t := 118) rfl (by first | exact hc | simp_all) (OpenTo.refl _), pop_eq (h' := eFrac (chanceOf l21 l23).Draw) (pop_loada ty34 rfl rfl (Nat.le_of_ble_eq_true rfl)) rfl⟩) ?_
     refine ahg 31 rfl rfl (by kernel_rfl) (by kernel_rfl) rfl (fun hc => ⟨_, OpenTo.refl _, pop_move rfl⟩) ?_
     refine ahg 32 rfl rfl (by kernel_rfl) (by kernel_rfl) rfl (fun hc => by have hq := hc; (try simp at hq); exact ⟨_, OpenTo.upd (t := 120) rfl (by first | exact hc | simp_all) (OpenTo.upd (t := 119) rfl (by first | exact hc | simp_all) (OpenTo.upd (t := 117) rfl (by first | exact hc | simp_all) (OpenTo.refl _))), pop_callv ca31 rfl rfl (WeakL.refl _) (c_benchkeep1_ChancesAddUp_1 (z := (chanceOf l21 l23).Draw) (n := m) (by omega) (by omega) hpd)⟩) ?_
     refine ahg 33 rfl rfl (by kernel_rfl) (by kernel_rfl) rfl (fun hc => by have hq := hc; (try simp at hq); exact ⟨_, OpenTo.upd (t := 121) rfl (by first | exact hc | simp_all) (OpenTo.upd (t := 116) rfl (by first | exact hc | simp_all) (OpenTo.refl _)), pop_add64 rfl rfl (by omega) (by omega)⟩) ?_
     refine ahg 34 rfl rfl (by kernel_rfl) (by kernel_rfl) rfl (fun hc => ⟨_, OpenTo.refl _, pop_move rfl⟩) ?_
     refine ahg 35 rfl rfl (by kernel_rfl) (by kernel_rfl) rfl (fun hc => ⟨_, OpenTo.refl _, pop_fieldAddr ty52 rfl ty34 (by decide) rfl⟩) ?_
     refine ahg 36 rfl rfl (by kernel_rfl) (by kernel_rfl) rfl (fun hc => ⟨_, OpenTo.upd (t := 124) rfl (by first | exact hc | simp_all) (OpenTo.refl _), pop_eq (h' := eFrac (chanceOf l21 l23).Lose) (pop_loada ty34 rfl rfl (Nat.le_of_ble_eq_true rfl)) rfl⟩) ?_
     refine ahg 37 rfl rfl (by kernel_rfl) (by kernel_rfl) rfl (fun hc => ⟨_, OpenTo.refl _, pop_move rfl⟩) ?_
     refine ahg 38 rfl rfl (by kernel_rfl) (by kernel_rfl) rfl (fun hc => by have hq := hc; (try simp at hq); exact ⟨_, OpenTo.upd (t := 126) rfl (by first | exact hc | simp_all) (OpenTo.upd (t := 125) rfl (by first | exact hc | simp_all) (OpenTo.upd (t := 123) rfl (by first | exact hc | simp_all) (OpenTo.refl _))), pop_callv ca31 rfl rfl (WeakL.refl _) (c_benchkeep1_ChancesAddUp_1 (z := (chanceOf l21 l23).Lose) (n := m) (by omega) (by omega) hpl)⟩) ?_
     refine ahg 39 rfl rfl (by kernel_rfl) (by kernel_rfl) rfl (fun hc => by have hq := hc; (try simp at hq); exact ⟨_, OpenTo.upd (t := 127) rfl (by first | exact hc | simp_all) (OpenTo.upd (t := 122) rfl (by first | exact hc | simp_all) (OpenTo.refl _)), pop_add64 rfl rfl (by omega) (by omega)⟩) ?_
     refine ahg 40 rfl rfl (by kernel_rfl) (by kernel_rfl) rfl (fun hc => ⟨_, OpenTo.refl _, pop_move rfl⟩) ?_
     refine ahg 41 rfl rfl (by kernel_rfl) (by kernel_rfl) rfl (fun hc => ⟨_, OpenTo.upd (t := 129) rfl (by first | exact hc | simp_all) (OpenTo.upd (t := 128) rfl (by first | exact hc | simp_all) (OpenTo.refl _)), pop_neq rfl rfl⟩) ?_
     refine ahp 42 rfl rfl (by kernel_rfl) (by kernel_rfl) (pop_picko rfl (.inr ⟨_, rfl, fun h => by simp_all⟩) (.inl rfl)) ?_
     refine ahz (by kernel_rfl) ?_
     refine hw_cond rfl (fun h8 => ?_) (fun h8 => ?_)
     ·exfalso
      try simp at h8
      obtain ⟨⟨⟨a1, a2⟩, a3⟩, a4⟩ := h8
      exact a4 (hp3 a1 a2 a3)
     ·try simp at h8
      refine hw_skip ?_
      refine seqQ_n ?_
      obtain ⟨he1, hf1⟩ := above_e h0a hsa (n := y25) (by omega)
      obtain ⟨he2, hf2⟩ := above_e h0a hsa (n := y25 + 1) (by omega)
      have hb1 := above_bd h0a hsa y25
      have hb2 := above_bd h0a hsa (y25 + 1)
      refine hw_reg ?_
      refine dp rfl (pop_move rfl) ?_
      refine dp rfl (pop_move rfl) ?_
      refine dp rfl (pop_call ca14 rfl (WeakL.refl _) (c_value_Above (h := l21) (n := y25) hba.hl hba.ho)) ?_
      refine dp rfl (pop_move rfl) ?_
      refine dp rfl (pop_extract rfl rfl) ?_
      refine dp rfl (pop_extract rfl rfl) ?_
      refine de rfl (eop_alloc ty34 rfl fun b15 => ?_)
      refine de0 (eop_storew ty34 rfl rfl rfl rfl rfl ?_)
      refine dp rfl (pop_assign rfl) ?_
      refine dn ?_
      refine hw_ghost (Ghost.fc0 15 rfl) ?_
      refine hw_reg ?_
      refine dp rfl (pop_move rfl) ?_
      refine dp rfl (pop_move rfl) ?_
      refine dp rfl (pop_add64 rfl rfl (by omega) (by omega)) ?_
      refine dp rfl (pop_call ca14 rfl (WeakL.refl _) (c_value_Above (h := l21) (n := (y25 + 1)) hba.hl hba.ho)) ?_
      refine dp rfl (pop_move rfl) ?_
      refine dp rfl (pop_extract rfl rfl) ?_
      refine dp rfl (pop_extract rfl rfl) ?_
      refine de rfl (eop_alloc ty34 rfl fun b16 => ?_)
      refine de0 (eop_storew ty34 rfl rfl rfl rfl rfl ?_)
      refine dp rfl (pop_assign rfl) ?_
      refine dn ?_
      refine hw_ghost (Ghost.fc0 16 rfl) ?_
      refine hw_seq ?_
      refine hw_reg ?_
      refine dp rfl (pop_move rfl) ?_
      refine dp rfl (pop_neq rfl rfl) ?_
      refine dp rfl (pop_move rfl) ?_
      refine dg rfl rfl (fun hc => ⟨_, OpenTo.refl _, pop_move rfl⟩) ?_
      refine dg rfl rfl (fun hc => ⟨_, OpenTo.upd (t := 148) rfl (by first | exact hc | simp_all) (OpenTo.refl _), pop_neq rfl rfl⟩) ?_
      refine dp rfl (pop_picko rfl (.inl rfl) (.inr ⟨_, rfl, fun h => by simp_all⟩)) ?_
      refine dn ?_
      refine hw_cond rfl (fun h9 => ?_) (fun h9 => ?_)
      ·exfalso
       try simp at h9
       rcases h9 with q | q
       ·exact q he1
       ·exact q he2
      ·try simp at h9
       refine hw_skip ?_
       refine seqQ_n ?_
       rw [hf1, hf2]
       have hlow := above_low h0a hsa (y25 + 1)
       have hle := above_le h0a hsa y25
       obtain ⟨hx1, hx2, hx3⟩ := chance_flip l21 l23
       refine hw_draw (fun _ => True) [] mixed ?_
       refine ahp 0 rfl rfl (by kernel_rfl) (by kernel_rfl) (pop_fieldAddr ty52 rfl ty34 (by decide) rfl) ?_
       refine ahp 1 rfl rfl (by kernel_rfl) (by kernel_rfl) (pop_eq (h' := eFrac (chanceOf l21 l23).Win) (pop_loada ty34 rfl rfl (Nat.le_of_ble_eq_true rfl)) rfl) ?_
       refine ahp 2 rfl rfl (by kernel_rfl) (by kernel_rfl) (pop_fieldAddr ty52 rfl ty34 (by decide) rfl) ?_
       refine ahp 3 rfl rfl (by kernel_rfl) (by kernel_rfl) (pop_eq (h' := eFrac (chanceOf l23 l21).Lose) (pop_loada ty34 rfl rfl (Nat.le_of_ble_eq_true rfl)) rfl) ?_
       refine ahp 4 rfl rfl (by kernel_rfl) (by kernel_rfl) (pop_eqst ty34 eq34 rfl rfl ⟨rfl, ⟨_, _, _, _, ty3, rfl⟩, ⟨rfl, ⟨_, _, _, _, ty3, rfl⟩, trivial⟩⟩) ?_
       refine ahp 5 rfl rfl (by kernel_rfl) (by kernel_rfl) (pop_move rfl) ?_
       refine ahg 6 rfl rfl (by kernel_rfl) (by kernel_rfl) rfl (fun hc => ⟨_, OpenTo.refl _, pop_fieldAddr ty52 rfl ty34 (by decide) rfl⟩) ?_
       refine ahg 7 rfl rfl (by kernel_rfl) (by kernel_rfl) rfl (fun hc => ⟨_, OpenTo.upd (t := 157) rfl (by first | exact hc | simp_all) (OpenTo.refl _), pop_eq (h' := eFrac (chanceOf l21 l23).Draw) (pop_loada ty34 rfl rfl (Nat.le_of_ble_eq_true rfl)) rfl⟩) ?_
       refine ahg 8 rfl rfl (by kernel_rfl) (by kernel_rfl) rfl (fun hc => ⟨_, OpenTo.refl _, pop_fieldAddr ty52 rfl ty34 (by decide) rfl⟩) ?_
       refine ahg 9 rfl rfl (by kernel_rfl) (by kernel_rfl) rfl (fun hc => ⟨_, OpenTo.upd (t := 159) rfl (by first | exact hc | simp_all) (OpenTo.refl _), pop_eq (h' := eFrac (chanceOf l23 l21).Draw) (pop_loada ty34 rfl rfl (Nat.le_of_ble_eq_true rfl)) rfl⟩) ?_
       refine ahg 10 rfl rfl (by kernel_rfl) (by kernel_rfl) rfl (fun hc => ⟨_, OpenTo.upd (t := 160) rfl (by first | exact hc | simp_all) (OpenTo.upd (t := 158) rfl (by first | exact hc | simp_all) (OpenTo.refl _)), pop_eqst ty34 eq34 rfl rfl ⟨rfl, ⟨_, _, _, _, ty3, rfl⟩, ⟨rfl, ⟨_, _, _, _, ty3, rfl⟩, trivial⟩⟩⟩) ?_
       refine ahp 11 rfl rfl (by kernel_rfl) (by kernel_rfl) (pop_picko rfl (.inr ⟨_, rfl, fun h => by simp_all⟩) (.inl rfl)) ?_
       refine ahp 12 rfl rfl (by kernel_rfl) (by kernel_rfl) (pop_move rfl) ?_
       refine ahg 13 rfl rfl (by kernel_rfl) (by kernel_rfl) rfl (fun hc => ⟨_, OpenTo.refl _, pop_fieldAddr ty52 rfl ty34 (by decide) rfl⟩) ?_
       refine ahg 14 rfl rfl (by kernel_rfl) (by kernel_rfl) rfl (fun hc => ⟨_, OpenTo.upd (t := 164) rfl (by first | exact hc | simp_all) (OpenTo.refl _), pop_eq (h' := eFrac (chanceOf l21 l23).Lose) (pop_loada ty34 rfl rfl (Nat.le_of_ble_eq_true rfl)) rfl⟩) ?_
       refine ahg 15 rfl rfl (by kernel_rfl) (by kernel_rfl) rfl (fun hc => ⟨_, OpenTo.refl _, pop_fieldAddr ty52 rfl ty34 (by decide) rfl⟩) ?_
       refine ahg 16 rfl rfl (by kernel_rfl) (by kernel_rfl) rfl (fun hc => ⟨_, OpenTo.upd (t := 166) rfl (by first | exact hc | simp_all) (OpenTo.refl _), pop_eq (h' := eFrac (chanceOf l23 l21).Win) (pop_loada ty34 rfl rfl (Nat.le_of_ble_eq_true rfl)) rfl⟩) ?_
       refine ahg 17 rfl rfl (by kernel_rfl) (by kernel_rfl) rfl (fun hc => ⟨_, OpenTo.upd (t := 167) rfl (by first | exact hc | simp_all) (OpenTo.upd (t := 165) rfl (by first | exact hc | simp_all) (OpenTo.refl _)), pop_eqst ty34 eq34 rfl rfl ⟨rfl, ⟨_, _, _, _, ty3, rfl⟩, ⟨rfl, ⟨_, _, _, _, ty3, rfl⟩, trivial⟩⟩⟩) ?_
       refine ahp 18 rfl rfl (by kernel_rfl) (by kernel_rfl) (pop_picko rfl (.inr ⟨_, rfl, fun h => by simp_all⟩) (.inl rfl)) ?_
       refine ahp 19 rfl rfl (by kernel_rfl) (by kernel_rfl) (pop_move rfl) ?_
       refine ahg 20 rfl rfl (by kernel_rfl) (by kernel_rfl) rfl (fun hc => ⟨_, OpenTo.refl _, pop_fieldAddr ty34 rfl ty3 (by decide) rfl⟩) ?_
       refine ahg 21 rfl rfl (by kernel_rfl) (by kernel_rfl) rfl (fun hc => ⟨_, OpenTo.upd (t := 171) rfl (by first | exact hc | simp_all) (OpenTo.refl _), pop_load ty3 rfl rfl rfl⟩) ?_
       refine ahg 22 rfl rfl (by kernel_rfl) (by kernel_rfl) rfl (fun hc => ⟨_, OpenTo.refl _, pop_fieldAddr ty34 rfl ty3 (by decide) rfl⟩) ?_
       refine ahg 23 rfl rfl (by kernel_rfl) (by kernel_rfl) rfl (fun hc => ⟨_, OpenTo.upd (t := 173) rfl (by first | exact hc | simp_all) (OpenTo.refl _), pop_load ty3 rfl rfl rfl⟩) ?_
       refine ahg 24 rfl rfl (by kernel_rfl) (by kernel_rfl) rfl (fun hc => by have hq := hc; (try simp at hq); exact ⟨_, OpenTo.upd (t := 174) rfl (by first | exact hc | simp_all) (OpenTo.upd (t := 172) rfl (by first | exact hc | simp_all) (OpenTo.refl _)), pop_call ca32 rfl (WeakL.refl _) (c_benchref1_Lowest (n := (lowF (aboveW (y25 + 1) (cz l21)) (prodP l21 1)).Num) (d := (lowF (aboveW (y25 + 1) (cz l21)) (prodP l21 1)).Den) (by omega) (by omega))⟩) ?_
       refine ahg 25 rfl rfl (by kernel_rfl) (by kernel_rfl) rfl (fun hc => ⟨_, OpenTo.refl _, pop_loadw ty34 rfl rfl rfl rfl⟩) ?_
       refine ahg 26 rfl rfl (by kernel_rfl) (by kernel_rfl) rfl (fun hc => ⟨_, OpenTo.upd (t := 176) rfl (by first | exact hc | simp_all) (OpenTo.upd (t := 175) rfl (by first | exact hc | simp_all) (OpenTo.refl _)), pop_eqst ty34 eq34 rfl rfl ⟨rfl, ⟨_, _, _, _, ty3, rfl⟩, ⟨rfl, ⟨_, _, _, _, ty3, rfl⟩, trivial⟩⟩⟩) ?_
       refine ahp 27 rfl rfl (by kernel_rfl) (by kernel_rfl) (pop_picko rfl (.inr ⟨_, rfl, fun h => by simp_all⟩) (.inl rfl)) ?_
       refine ahp 28 rfl rfl (by kernel_rfl) (by kernel_rfl) (pop_move rfl) ?_
       refine ahg 29 rfl rfl (by kernel_rfl) (by kernel_rfl) rfl (fun hc => ⟨_, OpenTo.refl _, pop_fieldAddr ty34 rfl ty3 (by decide) rfl⟩) ?_
       refine ahg 30 rfl rfl (by kernel_rfl) (by kernel_rfl) rfl (fun hc => ⟨_, OpenTo.upd (t := 180) rfl (by first | exact hc | simp_all) (OpenTo.refl _), pop_load ty3 rfl rfl rfl⟩) ?_
       refine ahg 31 rfl rfl (by kernel_rfl) (by kernel_rfl) rfl (fun hc => by have hq := hc; (try simp at hq); exact ⟨_, OpenTo.upd (t := 181) rfl (by first | exact hc | simp_all) (OpenTo.refl _), pop_mul64 rfl rfl (by omega) (by omega)⟩) ?_
       refine ahg 32 rfl rfl (by kernel_rfl) (by kernel_rfl) rfl (fun hc => ⟨_, OpenTo.refl _, pop_fieldAddr ty34 rfl ty3 (by decide) rfl⟩) ?_
       refine ahg 33 rfl rfl (by kernel_rfl) (by kernel_rfl) rfl (fun hc => ⟨_, OpenTo.upd (t := 183) rfl (by first | exact hc | simp_all) (OpenTo.refl _), pop_load ty3 rfl rfl rfl⟩) ?_
       refine ahg 34 rfl rfl (by kernel_rfl) (by kernel_rfl) rfl (fun hc => by have hq := hc; (try simp at hq); exact ⟨_, OpenTo.upd (t := 184) rfl (by first | exact hc | simp_all) (OpenTo.upd (t := 182) rfl (by first | exact hc | simp_all) (OpenTo.refl _)), pop_quo64 rfl rfl (by omega) (by omega) (by omega)⟩) ?_
       refine ahg 35 rfl rfl (by kernel_rfl) (by kernel_rfl) rfl (fun hc => ⟨_, OpenTo.refl _, pop_fieldAddr ty34 rfl ty3 (by decide) rfl⟩) ?_
       refine ahg 36 rfl rfl (by kernel_rfl) (by kernel_rfl) rfl (fun hc => ⟨_, OpenTo.upd (t := 186) rfl (by first | exact hc | simp_all) (OpenTo.refl _), pop_load ty3 rfl rfl rfl⟩) ?_
       refine ahg 37 rfl rfl (by kernel_rfl) (by kernel_rfl) rfl (fun hc => by have hq := hc; (try simp at hq); exact ⟨_, OpenTo.upd (t := 187) rfl (by first | exact hc | simp_all) (OpenTo.refl _), pop_mul64 rfl rfl (by omega) (by omega)⟩) ?_
       refine ahg 38 rfl rfl (by kernel_rfl) (by kernel_rfl) rfl (fun hc => ⟨_, OpenTo.refl _, pop_fieldAddr ty34 rfl ty3 (by decide) rfl⟩) ?_
       refine ahg 39 rfl rfl (by kernel_rfl) (by kernel_rfl) rfl (fun hc => ⟨_, OpenTo.upd (t := 189) rfl (by first | exact hc | simp_all) (OpenTo.refl _), pop_load ty3 rfl rfl rfl⟩) ?_
       refine ahg 40 rfl rfl (by kernel_rfl) (by kernel_rfl) rfl (fun hc => by have hq := hc; (try simp at hq); exact ⟨_, OpenTo.upd (t := 190) rfl (by first | exact hc | simp_all) (OpenTo.upd (t := 188) rfl (by first | exact hc | simp_all) (OpenTo.refl _)), pop_quo64 rfl rfl (by omega) (by omega) (by omega)⟩) ?_
       refine ahg 41 rfl rfl (by kernel_rfl) (by kernel_rfl) rfl (fun hc => ⟨_, OpenTo.upd (t := 191) rfl (by first | exact hc | simp_all) (OpenTo.upd (t := 185) rfl (by first | exact hc | simp_all) (OpenTo.refl _)), pop_geq rfl rfl⟩) ?_
       refine ahp 42 rfl rfl (by kernel_rfl) (by kernel_rfl) (pop_picko rfl (.inr ⟨_, rfl, fun h => by simp_all⟩) (.inl rfl)) ?_
       refine ahp 43 rfl rfl (by kernel_rfl) (by kernel_rfl) (pop_move rfl) ?_
       refine ahg 44 rfl rfl (by kernel_rfl) (by kernel_rfl) rfl (fun hc => ⟨_, OpenTo.refl _, pop_call ca30 rfl (WeakL.refl _) (c_benchkeep1_ready hT)⟩) ?_
       refine ahp 45 rfl rfl (by kernel_rfl) (by kernel_rfl) (pop_picko rfl (.inr ⟨_, rfl, fun h => by simp_all⟩) (.inl rfl)) ?_
       refine ahp 46 rfl rfl (by kernel_rfl) (by kernel_rfl) (pop_assign rfl) ?_
       refine ahz (by kernel_rfl) ?_
       refine hw_ret ?_
       refine ret_p rfl ?_
       show HVal.bool _ = _
       first
       | rfl
       | (simp [h12, h12b]; done)
       | (simp [eqHL, eqH, hx1, hx2, hx3, hlow, hle]; done)
end Go.Proofs.YtbihpphgoaflfaaGreatDoor
end
section
namespace Go.Proofs.YtbihpphgoaflfaaGreatDoor
open Go.ChangeShapes Go.WideShapes Go.ChangeAt Go.RowKit Go.HL
theorem ownChancesAddUp : ownKnob Tryz.prog.godebug = none := by kernel_rfl
theorem laidOutChancesAddUp : laidOutB Tryz.prog = true := by kernel_rfl
theorem cellsChancesAddUp : Tryz.prog.cellsOf 3 = 1 := by kernel_rfl
theorem tabChancesAddUp {W : World} (h : laidMetH Tryz.prog Rows.chancesAddUpRow.laid W) : TabI Tryz.prog (allI W) := by
 rw [MakeChecks.laidMetH_plain _ _ _ (by kernel_rfl)] at h
 letI : Tracks := ⟨false⟩
 exact tabI_of_laid (i := 2) (g := 1) (t := 230) h (by kernel_rfl) (by kernel_rfl) (by kernel_rfl) Tryz.underlying230 Tryz.underlying93 (by kernel_rfl) (by kernel_rfl)
theorem callsChancesAddUp {W : World} (ht : TabI Tryz.prog (allI W)) {a : Option Addr} {len cap : Nat} {H : Type} {enc : TypeId × Value → H} {d0 : DataW H} {p : List MemPlace} (h : DataW.Trod enc Tryz.prog W 0 (fun _ => true) true 22 (.slice a len cap) d0 p) :
 Calls Tryz.prog 5 #[.slice a len cap] W fun e W' => e = .returned (.bool true) ∧ Below W.heap.size W W' := by
 obtain ⟨fuel, hf⟩ := h
 rcases open_ints Tryz.underlying22 Tryz.underlying3 cellsChancesAddUp hf with ⟨hcs, hx⟩ | ⟨a', len', cap', zs, hcs, _, hl, hm, hz, hx, hcell, hwz⟩
 ·simp [Value.cells] at hcs
  obtain ⟨rfl, rfl, rfl⟩ := hcs
  letI : Tracks := ⟨false⟩
  exact conp_law (l := []) (c_benchkeep1_ChancesAddUp rfl) ht (.slice0 _ _ _)
 ·simp [Value.cells] at hcs
  obtain ⟨rfl, rfl, rfl⟩ := hcs
  simp only [if_true] at hz
  letI : Tracks := ⟨false⟩
  exact conp_law (l := zs.take len) (c_benchkeep1_ChancesAddUp rfl) ht (v_ints hcell (by omega) hl)
set_option maxRecDepth 100000 in
theorem liftedChancesAddUp (os : Os) (started : os.Started) (H : Type) (enc : TypeId × Value → H) :
 ReturnsInHanded {} Tryz.checked os 5 .any (fun w args => (Rows.chancesAddUpSpec.pre enc Tryz.prog Tryz.f5 Rows.chancesAddUpRow.domain false w args ∧ laidMetH Tryz.prog Rows.chancesAddUpRow.laid w) ∧ sizedMet enc Tryz.prog Tryz.f5 (OpenSpec.ofChange Rows.chancesAddUpSpec) false w args)
  (Rows.chancesAddUpSpec.post enc Tryz.prog Tryz.f5 false true false false) := by
 refine returnsInHanded_of_change_and (C := Tryz.checked) (X := fun w _ => laidMetH Tryz.prog Rows.chancesAddUpRow.laid w) (fun _ _ _ hh h => h.of_heap hh) ownChancesAddUp started (by kernel_rfl) Tryz.func5
  (ChangeSpec.witness_shaped (enc := enc) (C := Tryz.checked) (os := os) (X := fun w _ => laidMetH Tryz.prog Rows.chancesAddUpRow.laid w) false (World.laidAll Tryz.prog os Rows.chancesAddUpRow.laid) #[.slice none 0 0] 8 (World.laidAll_os _ _ _)
    (World.shaped_of_ZipB (by kernel_rfl) (by kernel_rfl)) (by kernel_rfl) (by kernel_rfl) (by kernel_rfl)
    (by rw [MakeChecks.laidMetH_plain _ _ _ (by kernel_rfl)]; exact laidMet_laidAll _ (by kernel_rfl) (by kernel_rfl))) ?_
 intro W base args ds gs before hval0 hW _ _ hL _
 have hval : ∀ (j : Nat) t v, Tryz.f5.params[j]? = some t → args[j]? = some v → Value.okWide Tryz.prog W .any base t v := hval0
 have hW' := hW
 obtain ⟨p, q, hA0, hV, rfl, _, _⟩ := hW
 have hA : DataW.TrodAll enc Tryz.prog W 0 (fun _ => true) true Tryz.f5.params.toList args.toList ds p := hA0
 rw [Tryz.params5] at hA hval
 obtain ⟨v0, d0, rfl, rfl, h0⟩ := trodAll_one hA
 obtain ⟨rfl, rfl⟩ := trodVars_none hV
 obtain ⟨a0, len, cap, rfl⟩ := okWide_slice Tryz.underlying22 (hval 0 22 v0 rfl rfl)
 simp only [List.append_nil] at hW'
 have hlt : ∀ x ∈ p, x.block < W.heap.size := fun x hx => by simpa using hW'.lt x hx
 refine (callsChancesAddUp (tabChancesAddUp hL) h0).mono fun e W' ⟨he, hb⟩ => ?_
 subst he
 have hargs : DataW.Trod enc Tryz.prog W' 0 (fun b => decide (b < W.heap.size)) true 22 (.slice a0 len cap) d0 p :=
  Below.trod laidOutChancesAddUp (by kernel_rfl) (of_decide_eq_true (by kernel_rfl)) h0 hb hlt
 exact ⟨_, rfl, _, _, _, [], p, [], hW', trodAll_mk1 (shut_bool Tryz.underlying4 _), trodAll_mk1 hargs, rfl, hb.frame _, fun h => by cases h⟩
theorem mapsChancesAddUp : mapsRowed Tryz.prog = true := by kernel_rfl
theorem inplChancesAddUp : (Rows.chancesAddUpRow.inPlace == Tryz.prog.inPlace 5) = true := by kernel_rfl
theorem unfoChancesAddUp : (Rows.chancesAddUpRow.unfollowed == Tryz.prog.unfollowed 5) = true := by kernel_rfl
theorem recuChancesAddUp : (Rows.chancesAddUpRow.recurses == Tryz.prog.recurses 5) = true := by kernel_rfl
theorem varsChancesAddUp : (Rows.chancesAddUpRow.named == Tryz.prog.varsNamed 5) = true := by kernel_rfl
theorem joinChancesAddUp : joinedFacts Tryz.prog 5 Tryz.f5 Rows.chancesAddUpSpec Rows.chancesAddUpRow = true := by
 simp only [joinedFacts, Bool.and_eq_true]
 repeat' apply And.intro
 all_goals first
  | with_reducible exact laidOutChancesAddUp
  | with_reducible exact mapsChancesAddUp
  | with_reducible exact inplChancesAddUp
  | with_reducible exact unfoChancesAddUp
  | with_reducible exact recuChancesAddUp
  | with_reducible exact varsChancesAddUp
  | kernel_rfl
theorem lookChancesAddUp : false = Tryz.prog.looks [] := by kernel_rfl
theorem goesChancesAddUp : false = Rows.chancesAddUpRow.goesBy Tryz.prog := by kernel_rfl
theorem wfbtChancesAddUp : Rows.chancesAddUpRow.wfByText (OpenSpec.ofChange Rows.chancesAddUpSpec) = true := by kernel_rfl
theorem mainChancesAddUp : Tryz.prog.mainIs = some ("1a749e670c03459aab2e9a23f6b2a6f31ee8a11ea0d9565dcce9c331c57276b8" |> fun h => (true, h.toList)) := by kernel_rfl
theorem stanChancesAddUp : ([22].all fun u => !Tryz.prog.wantsStandIn u) = true := by kernel_rfl
theorem fnamChancesAddUp : Tryz.prog.funcNamed Rows.chancesAddUpRow.func = some 5 := by kernel_rfl
theorem holdsChancesAddUp : Rows.ChancesAddUpSaid :=
 OpenClaim.holds_of_wide 5 Tryz.f5 rfl rfl rfl rfl rfl rfl rfl ⟨rfl, rfl, rfl, rfl, rfl⟩ rfl rfl rfl rfl rfl fnamChancesAddUp Tryz.func5 joinChancesAddUp
  (of_decide_eq_true (by kernel_rfl)) (by unfold Func.isWrapper; first | (rw [if_pos (by decide +kernel)]; kernel_rfl) | (rw [if_neg (by decide +kernel)]; exact ⟨rfl, rfl⟩))
  (fun os started H enc _ => liftedChancesAddUp os started H enc)
theorem cardChancesAddUp : Rows.ChancesAddUpCardSaid :=
 Claim7.holds_tied_plain_at .later [] [.data, .data, .data, .data, .pinned] true (true, "1a749e670c03459aab2e9a23f6b2a6f31ee8a11ea0d9565dcce9c331c57276b8") false holdsChancesAddUp (fun _ h => by cases h) wfbtChancesAddUp (fun _ h => by cases h) chancesAddUp_row_tie rfl ⟨rfl, rfl⟩ mainChancesAddUp rfl
  (fun f fn hf hfn => by
    obtain rfl : f = 5 := Option.some.inj (fnamChancesAddUp.symm.trans hf) |>.symm
    obtain rfl : fn = Tryz.f5 := (Option.some.inj (Tryz.func5.symm.trans hfn)).symm
    exact ⟨lookChancesAddUp, fun j t ht => by
     rw [Tryz.params5] at ht
     have hm : t ∈ [22] := by simpa using Array.mem_of_getElem? ht
     have hall := stanChancesAddUp
     exact (show Tryz.prog.wantsStandIn t = false by simpa using List.all_eq_true.1 hall t hm)⟩)
  goesChancesAddUp
end Go.Proofs.YtbihpphgoaflfaaGreatDoor
end
