/- The shelf's contracts of functions that rewrite a slice of strings in place, as contracts of the logic; over any program; no conditions. -/
import Derived.Test.YtfeimpgcpjoilaaGreatDoorHl11
import Derived.Sort.Grow
import Derived.Sort.EncStr
import Derived.Lib.SlicesCompact
namespace Go.HL
open Go.Sort Go.Proofs
theorem arr_some {I : Imm} {F : List MObj} {w : World} {b off n cap sz : Nat} {es : List HVal} (h : Sat I (.arr (.slice (some ⟨b, off, none⟩) n cap) sz es :: F) w) :
    n = es.length ∧ ∃ rc el fr, w.heap[b]? = some (.cells rc el fr) ∧ Free fr rc.size ∧ (∀ e ∈ es, (hcells e).length = sz) ∧ (es.length ≤ cap ∧ cap ≤ 9223372036854775807) ∧ off + cap * sz ≤ rc.size ∧
        (∀ (i j : Nat) (e c : HVal) (v : Value), es[i]? = some e → (hcells e)[j]? = some c → rc[off + i * sz + j]? = some v → V I c v) := by
  rcases h.obj _ List.mem_cons_self with ⟨h0, _⟩ | ⟨b', off', cap', rc, el, fr, h1, h2, h3, h4, h5, h6, h7⟩
  · cases h0
  · cases h1
    exact ⟨rfl, rc, el, fr, h2, h3, h4, h5, h6, h7⟩
theorem holds_row {I : Imm} {F : List MObj} {w : World} {b off n cap : Nat} {l : List (List UInt8)} (h : Sat I (.arr (.slice (some ⟨b, off, none⟩) n cap) 1 (l.map .str) :: F) w) :
    Holds encStr w b off l.toArray ∧ b < w.heap.size ∧ l.length ≤ cap ∧ n = l.length := by
  obtain ⟨h0, rc, el, fr, h2, h3, h4, h5, h6, h7⟩ := arr_some h
  simp only [List.length_map] at h0 h5
  refine ⟨fun j hj => ?_, ?_, h5.1, h0⟩
  · have hj' : j < l.length := by simpa using hj
    have hlt : off + j < rc.size := by omega
    constructor
    · rw [cell_of h2, Array.getElem?_eq_getElem hlt]
      have hv := h7 j 0 (.str l[j]) (.str l[j]) rc[off + j] (by simp [hj']) (by simp [hcells]) (by simp [Array.getElem?_eq_getElem hlt])
      rw [hv.str_inv]
      simp [hj', encStr]
    · simp only [World.frozen?, h2]
      have := h3 (off + j) hlt
      simpa using this
  · rcases Nat.lt_or_ge b w.heap.size with h' | h'
    · exact h'
    · simp [Array.getElem?_eq_none h'] at h2
theorem sat_row {I : Imm} {F : List MObj} {w : World} {b off n cap n' k : Nat} {os : Array Obj} {l zs : List (List UInt8)} (h : Sat I (.arr (.slice (some ⟨b, off, none⟩) n cap) 1 (l.map .str) :: F) w) (hz : zs.length = l.length) (hn : n' ≤ l.length) :
    Sat I (.arr (.slice (some ⟨b, off, none⟩) n' cap) 1 ((zs.take n').map .str) :: F) (grow (putRow encStr (Sort.ahead w k) b off zs.toArray) os) := by
  obtain ⟨h0, rc, el, fr, h2, h3, h4, h5, h6, h7⟩ := arr_some h
  simp only [List.length_map] at h0 h5
  have hlt : b < w.heap.size := by
    rcases Nat.lt_or_ge b w.heap.size with h' | h'
    · exact h'
    · simp [Array.getElem?_eq_none h'] at h2
  have hheap : ∀ c, c < w.heap.size → (grow (putRow encStr (Sort.ahead w k) b off zs.toArray) os).heap[c]? = (w.heap.modify b (onCells (putCells encStr off zs.toArray)))[c]? := fun c hc => by
    simp only [grow, putRow, mapBlock, Sort.ahead]
    rw [Array.getElem?_append_left (by simpa using hc)]
  refine h.change (m' := .arr (.slice (some ⟨b, off, none⟩) n' cap) 1 ((zs.take n').map .str)) (fun c hc hnc => ?_) (fun c hc => .inl hc) (by simp [MObj.blocks]) ?_ rfl rfl rfl
  · rw [hheap c hc, Array.getElem?_modify]
    have : b ≠ c := fun hh => hnc (by subst hh; simp [MObj.blocks])
    rw [if_neg this]
  · refine .inr ⟨b, off, cap, putCells encStr off zs.toArray rc, el, fr, ?_, ?_, ?_, ?_, ?_, ?_, ?_⟩
    · simp [hz, Nat.min_eq_left hn]
    · rw [hheap b hlt, Array.getElem?_modify, if_pos rfl, h2]; rfl
    · simpa [putCells] using h3
    · intro e he; obtain ⟨a, _, rfl⟩ := List.mem_map.1 he; simp [hcells]
    · simp; omega
    · simpa [putCells] using h6
    · intro i j e c v a1 a2 a3
      have hi : i < n' := by
        have := lt_of_get a1; simp at this; omega
      rw [List.getElem?_map, List.getElem?_take_of_lt hi] at a1
      cases hq : zs[i]? with
      | none => rw [hq] at a1; simp at a1
      | some s =>
        rw [hq] at a1; simp at a1; subst a1
        have hj : j = 0 := by have := lt_of_get a2; simp [hcells] at this; omega
        subst hj
        simp [hcells] at a2; subst a2
        have hil : i < zs.length := lt_of_get hq
        have hr : off + i * 1 + 0 < rc.size := by omega
        rw [putCells, Array.getElem?_mapIdx, Array.getElem?_eq_getElem hr, Option.map_some, if_pos ⟨by omega, by simp; omega⟩] at a3
        have e1 : off + i * 1 + 0 - off = i := by omega
        rw [e1] at a3
        have e2 : zs.toArray[i]! = s := by
          rw [getElem!_pos zs.toArray i (by simpa using hil)]
          have := List.getElem?_eq_getElem hil
          rw [hq] at this; simpa using (Option.some.inj this).symm
        rw [e2] at a3
        cases a3
        exact .str s

theorem VL.one {I : Imm} {h : HVal} {args : List Value} (hv : VL I [h] args) : ∃ v, args = [v] ∧ V I h v := by
  obtain ⟨h1, h2⟩ := hv
  match args, h1 with
  | [v], _ => exact ⟨v, rfl, h2 0 h v rfl rfl⟩

def sortS (l : List (List UInt8)) : List (List UInt8) := l.mergeSort fun x y => decide (x ≤ y)
theorem sortS_len (l : List (List UInt8)) : (sortS l).length = l.length := by simp [sortS]

/-- A function that works on a slice of strings in place and hands on nothing. -/
theorem con_row {P : Program} {f : FuncId} {l zs : List (List UInt8)} {v : Value} (hz : zs.length = l.length)
    (h1 : ∀ (b off cap : Nat) (w : World), Holds encStr w b off l.toArray → b < w.heap.size → l.length ≤ cap → Calls P f #[.slice (some ⟨b, off, none⟩) l.length cap] w fun e w' => e = .returned (.tuple #[]) ∧ ∃ n os, w' = grow (putRow encStr (Sort.ahead w n) b off zs.toArray) os)
    (h0 : l = [] → ConP P f [.slice 1 []] (.tup [])) : Con P f [.raw v] [.arr v 1 (l.map .str)] fun x M' => x = .tup [] ∧ M' = [.arr v 1 (zs.map .str)] := by
  intro I F w args ha hs
  obtain ⟨u, rfl, hu⟩ := ha.one
  obtain rfl : u = v := hu.raw_inv
  rcases hs.obj (.arr u 1 (l.map .str)) (by simp) with ⟨rfl, hn⟩ | ⟨b, off, cap, rc, el, fr, rfl, _⟩
  · have hl : l = [] := by simpa using hn
    subst hl
    have hz0 : zs = [] := List.length_eq_zero_iff.1 hz
    subst hz0
    refine (h0 rfl I (.arr (.slice none 0 0) 1 [] :: F) w [.slice none 0 0] (VL.cons (.slice0 _ _ _) VL.nil) (by simpa using hs)).mono ?_
    rintro _ w' ⟨v, h, M', J, rfl, hle, ⟨rfl, rfl⟩, hv, hsat⟩
    exact ⟨v, _, [.arr (.slice none 0 0) 1 []], J, rfl, hle, ⟨rfl, rfl⟩, hv, by simpa using hsat⟩
  · rw [List.length_map] at hs ⊢
    obtain ⟨g1, g2, g3, g4⟩ := holds_row hs
    refine (h1 b off cap w g1 g2 g3).mono ?_
    rintro _ w' ⟨rfl, n, os, rfl⟩
    refine ⟨_, .tup [], _, I, rfl, .refl I, ⟨rfl, rfl⟩, .tup (by simp) (fun j c v h _ => by simp at h), ?_⟩
    have := sat_row (n' := l.length) (k := n) (os := os) hs hz (Nat.le_refl _)
    rw [← hz, List.take_length, hz] at this
    exact this
/-- The same, where the slice comes back, cut. -/
theorem con_rowc {P : Program} {f : FuncId} {l zs : List (List UInt8)} {v : Value} (hz : zs.length ≤ l.length)
    (h1 : ∀ (b off cap : Nat) (w : World), Holds encStr w b off l.toArray → b < w.heap.size → l.length ≤ cap → Calls P f #[.slice (some ⟨b, off, none⟩) l.length cap] w fun e w' => e = .returned (.slice (some ⟨b, off, none⟩) zs.length cap) ∧ ∃ n, w' = putRow encStr (Sort.ahead w n) b off (zs ++ List.replicate (l.length - zs.length) []).toArray)
    (h0 : l = [] → ∀ w, Calls P f #[.slice none 0 0] w fun e w' => e = .returned (.slice none 0 0) ∧ w' = w) : Con P f [.raw v] [.arr v 1 (l.map .str)] fun x M' => ∃ u, x = .raw u ∧ M' = [.arr u 1 (zs.map .str)] := by
  intro I F w args ha hs
  obtain ⟨u, rfl, hu⟩ := ha.one
  obtain rfl : u = v := hu.raw_inv
  rcases hs.obj (.arr u 1 (l.map .str)) (by simp) with ⟨rfl, hn⟩ | ⟨b, off, cap, rc, el, fr, rfl, _⟩
  · have hl : l = [] := by simpa using hn
    subst hl
    have hz0 : zs = [] := List.length_eq_zero_iff.1 (by simpa using hz)
    subst hz0
    refine (h0 rfl w).mono ?_
    rintro _ w' ⟨rfl, rfl⟩
    exact ⟨_, .raw (.slice none 0 0), _, I, rfl, .refl I, ⟨_, rfl, rfl⟩, .raw _ rfl, hs⟩
  · rw [List.length_map] at hs ⊢
    obtain ⟨g1, g2, g3, g4⟩ := holds_row hs
    refine (h1 b off cap w g1 g2 g3).mono ?_
    rintro _ w' ⟨rfl, n, rfl⟩
    refine ⟨_, .raw (.slice (some ⟨b, off, none⟩) zs.length cap), _, I, rfl, .refl I, ⟨_, rfl, rfl⟩, .raw _ rfl, ?_⟩
    have := sat_row (zs := zs ++ List.replicate (l.length - zs.length) []) (n' := zs.length) (k := n) (os := #[]) hs (by simp; omega) hz
    rw [List.take_left' rfl, grow_empty] at this
    exact this
end Go.HL
