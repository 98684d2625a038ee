/- From a contract of a law over a stream of numbers to what a call of it does in any world; over any program; no conditions. -/
import Derived.Test.YtfeimpgcpjoilaaGreatDoorHl14
import Derived.Carry
import Derived.OpenShut
namespace Go.HL
open Go.ChangeShapes Go.WideShapes Go.RowKit
theorem below_of_sat {W W' : World} {J : Imm} {M : List MObj} (hl : Le (allI W) J) (hs : Sat J M W') : Below W.heap.size W W' := by
  have hb : ∀ k, k < W.heap.size → W'.heap[k]? = W.heap[k]? := fun k hk => by
    have h1 : W.heap[k]? = some W.heap[k] := by simp [hk]
    rw [h1]
    exact hs.imm _ _ (hl.heap _ _ h1)
  exact {
    os := hs.os.trans hl.os
    tape := hs.tape.trans hl.tape
    output := hs.output.trans hl.output
    size := by
      rcases Nat.eq_zero_or_pos W.heap.size with h | h
      · omega
      · have h1 := hb (W.heap.size - 1) (by omega)
        have h2 : W.heap[W.heap.size - 1]? = some (W.heap[W.heap.size - 1]'(by omega)) := by simp
        rw [h2] at h1
        rcases Nat.lt_or_ge (W.heap.size - 1) W'.heap.size with h3 | h3
        · omega
        · rw [Array.getElem?_eq_none h3] at h1; cases h1
    block := hb }
theorem conp_law {P : Program} {f : FuncId} {l : List Int} (hc : ConP P f [.slice 1 (l.map (.int .i64))] (.bool true)) {W : World} {v : Value} (hv : V (allI W) (.slice 1 (l.map (.int .i64))) v) :
    Calls P f #[v] W fun e W' => e = .returned (.bool true) ∧ Below W.heap.size W W' := by
  refine (hc (allI W) [] W [v] (VL.cons hv VL.nil) (sat_all W)).mono ?_
  rintro e W' ⟨u, h, M', J, rfl, hle, ⟨rfl, rfl⟩, hV, hs⟩
  exact ⟨by rw [hV.bool_inv], below_of_sat hle hs⟩
theorem v_ints {W : World} {a : Addr} {len cap : Nat} {zs : List Int} (hcell : ∀ i, i < zs.length → W.cell? (a.add i) = some (.int .i64 (zs.getD i 0))) (hl : len ≤ zs.length) (hc : len ≤ cap) :
    V (allI W) (.slice 1 ((zs.take len).map (.int .i64))) (.slice (some a) len cap) := by
  rcases Nat.eq_zero_or_pos len with h0 | h0
  · subst h0; exact .slice0 _ _ _
  · obtain ⟨b, off, rfl, hj⟩ := ints_at hcell (by omega)
    have hc0 := hj 0 (by omega)
    unfold World.cell? at hc0
    cases hh : W.heap[b]? with
    | none => rw [hh] at hc0; simp at hc0
    | some o =>
      cases o with
      | cells rc el fr =>
        have hrc : ∀ j, j < zs.length → rc[off + j]? = some (.int .i64 (zs.getD j 0)) := fun j hj' => by
          have := hj j hj'
          unfold World.cell? at this
          simpa [hh] using this
        have hlen : ((zs.take len).map (HVal.int .i64)).length = len := by simp; omega
        have hsz : off + zs.length ≤ rc.size := by
          have := hrc (zs.length - 1) (by omega)
          rcases Nat.lt_or_ge (off + (zs.length - 1)) rc.size with h3 | h3
          · omega
          · rw [Array.getElem?_eq_none h3] at this; cases this
        have := V.slice (I := allI W) (sz := 1) (es := (zs.take len).map (.int .i64)) (b := b) (off := off) (cap := cap) (rc := rc) (el := el) (fr := fr) hh
          (fun e he => by obtain ⟨n, _, rfl⟩ := List.mem_map.1 he; rfl) (by omega) (by omega) (fun i j e c v h1 h2 h3 => by
            have hi := lt_of_get h1
            rw [hlen] at hi
            rw [List.getElem?_map, List.getElem?_take_of_lt hi] at h1
            have e1 : zs[i]? = some zs[i] := List.getElem?_eq_getElem (by omega)
            rw [e1] at h1
            simp only [Option.map_some, Option.some.injEq] at h1
            subst h1
            cases j with
            | succ j => simp [hcells] at h2
            | zero =>
              simp only [hcells, List.getElem?_cons_zero, Option.some.injEq] at h2
              subst h2
              have h4 := hrc i (by omega)
              rw [Nat.mul_one, Nat.add_zero, h4] at h3
              simp only [Option.some.injEq] at h3
              subst h3
              have : zs.getD i 0 = zs[i] := by simp [List.getD, e1]
              rw [this]
              exact .int _ _)
        rw [hlen] at this
        exact this
      | _ => rw [hh] at hc0; simp at hc0
end Go.HL
