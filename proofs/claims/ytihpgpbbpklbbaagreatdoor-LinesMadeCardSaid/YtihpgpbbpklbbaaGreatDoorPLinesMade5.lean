/- The statement is proved: the card of the law, out of its function's contract; no conditions. -/
import Derived.Test.YtihpgpbbpklbbaaGreatDoorPLinesMade4
import Derived.LaidMore
import Derived.Lay
import Derived.OpenShut
import Derived.ProofKit
import Derived.SevenTiedAt
import Derived.Stop.Joined
import Derived.Test.YtihpgpbbpklbbaaGreatDoorCards
import Derived.Test.YtihpgpbbpklbbaaGreatDoorTie
set_option linter.unusedVariables false
set_option linter.unusedSimpArgs false
section
namespace Go.Proofs.YtihpgpbbpklbbaaGreatDoor
open Go.ChangeShapes Go.WideShapes Go.ChangeAt Go.RowKit Go.HL
theorem ownLinesMade : ownKnob Tryz.prog.godebug = none := by kernel_rfl
theorem laidOutLinesMade : laidOutB Tryz.prog = true := by kernel_rfl
theorem cellsLinesMade : Tryz.prog.cellsOf 3 = 1 := by kernel_rfl
theorem tabLinesMade {W : World} (_ : laidMetH Tryz.prog Rows.linesMadeRow.laid W) : TabI Tryz.prog (allI W) := tabI_any _ _
theorem callsLinesMade {W : World} (ht : TabI Tryz.prog (allI W)) {a : Option Addr} {len cap : Nat} {H : Type} {enc : TypeId × Value → H} {d0 : DataW H} {p : List MemPlace} (h : DataW.Trod enc Tryz.prog W 0 (fun _ => true) true 22 (.slice a len cap) d0 p) :
 Calls Tryz.prog 3 #[.slice a len cap] W fun e W' => e = .returned (.bool true) ∧ Below W.heap.size W W' := by
 obtain ⟨fuel, hf⟩ := h
 rcases open_ints Tryz.underlying22 Tryz.underlying3 cellsLinesMade hf with ⟨hcs, hx⟩ | ⟨a', len', cap', zs, hcs, _, hl, hm, hz, hx, hcell, hwz⟩
 ·simp [Value.cells] at hcs
  obtain ⟨rfl, rfl, rfl⟩ := hcs
  letI : Tracks := ⟨false⟩
  exact conp_law (l := []) (c_benchlaw1_LinesMade rfl) ht (.slice0 _ _ _)
 ·simp [Value.cells] at hcs
  obtain ⟨rfl, rfl, rfl⟩ := hcs
  simp only [if_true] at hz
  letI : Tracks := ⟨false⟩
  exact conp_law (l := zs.take len) (c_benchlaw1_LinesMade rfl) ht (v_ints hcell (by omega) hl)
set_option maxRecDepth 100000 in
theorem liftedLinesMade (os : Os) (started : os.Started) (H : Type) (enc : TypeId × Value → H) :
 ReturnsInHanded {} Tryz.checked os 3 .any (fun w args => (Rows.linesMadeSpec.pre enc Tryz.prog Tryz.f3 Rows.linesMadeRow.domain false w args ∧ laidMetH Tryz.prog Rows.linesMadeRow.laid w) ∧ sizedMet enc Tryz.prog Tryz.f3 (OpenSpec.ofChange Rows.linesMadeSpec) false w args)
  (Rows.linesMadeSpec.post enc Tryz.prog Tryz.f3 false true false false) := by
 refine returnsInHanded_of_change_and (C := Tryz.checked) (X := fun w _ => laidMetH Tryz.prog Rows.linesMadeRow.laid w) (fun _ _ _ hh h => h.of_heap hh) ownLinesMade started (by kernel_rfl) Tryz.func3
  (ChangeSpec.witness_shaped (enc := enc) (C := Tryz.checked) (os := os) (X := fun w _ => laidMetH Tryz.prog Rows.linesMadeRow.laid w) false (World.laidAll Tryz.prog os Rows.linesMadeRow.laid) #[.slice none 0 0] 8 (World.laidAll_os _ _ _)
    (World.shaped_of_ZipB (by kernel_rfl) (by kernel_rfl)) (by kernel_rfl) (by kernel_rfl) (by kernel_rfl)
    (by rw [MakeChecks.laidMetH_plain _ _ _ (by kernel_rfl)]; exact laidMet_laidAll _ (by kernel_rfl) (by kernel_rfl))) ?_
 intro W base args ds gs before hval0 hW _ _ hL _
 have hval : ∀ (j : Nat) t v, Tryz.f3.params[j]? = some t → args[j]? = some v → Value.okWide Tryz.prog W .any base t v := hval0
 have hW' := hW
 obtain ⟨p, q, hA0, hV, rfl, _, _⟩ := hW
 have hA : DataW.TrodAll enc Tryz.prog W 0 (fun _ => true) true Tryz.f3.params.toList args.toList ds p := hA0
 rw [Tryz.params3] at hA hval
 obtain ⟨v0, d0, rfl, rfl, h0⟩ := trodAll_one hA
 obtain ⟨rfl, rfl⟩ := trodVars_none hV
 obtain ⟨a0, len, cap, rfl⟩ := okWide_slice Tryz.underlying22 (hval 0 22 v0 rfl rfl)
 simp only [List.append_nil] at hW'
 have hlt : ∀ x ∈ p, x.block < W.heap.size := fun x hx => by simpa using hW'.lt x hx
 refine (callsLinesMade (tabLinesMade hL) h0).mono fun e W' ⟨he, hb⟩ => ?_
 subst he
 have hargs : DataW.Trod enc Tryz.prog W' 0 (fun b => decide (b < W.heap.size)) true 22 (.slice a0 len cap) d0 p :=
  Below.trod laidOutLinesMade (by kernel_rfl) (of_decide_eq_true (by kernel_rfl)) h0 hb hlt
 exact ⟨_, rfl, _, _, _, [], p, [], hW', trodAll_mk1 (shut_bool Tryz.underlying4 _), trodAll_mk1 hargs, rfl, hb.frame _, fun h => by cases h⟩
theorem mapsLinesMade : mapsRowed Tryz.prog = true := by kernel_rfl
theorem inplLinesMade : (Rows.linesMadeRow.inPlace == Tryz.prog.inPlace 3) = true := by kernel_rfl
theorem unfoLinesMade : (Rows.linesMadeRow.unfollowed == Tryz.prog.unfollowed 3) = true := by kernel_rfl
theorem recuLinesMade : (Rows.linesMadeRow.recurses == Tryz.prog.recurses 3) = true := by kernel_rfl
theorem varsLinesMade : (Rows.linesMadeRow.named == Tryz.prog.varsNamed 3) = true := by kernel_rfl
theorem joinLinesMade : joinedFacts Tryz.prog 3 Tryz.f3 Rows.linesMadeSpec Rows.linesMadeRow = true := by
 simp only [joinedFacts, Bool.and_eq_true]
 repeat' apply And.intro
 all_goals first
  | with_reducible exact laidOutLinesMade
  | with_reducible exact mapsLinesMade
  | with_reducible exact inplLinesMade
  | with_reducible exact unfoLinesMade
  | with_reducible exact recuLinesMade
  | with_reducible exact varsLinesMade
  | kernel_rfl
theorem lookLinesMade : true = Tryz.prog.looks [] := by kernel_rfl
theorem goesLinesMade : false = Rows.linesMadeRow.goesBy Tryz.prog := by kernel_rfl
theorem wfbtLinesMade : Rows.linesMadeRow.wfByText (OpenSpec.ofChange Rows.linesMadeSpec) = true := by kernel_rfl
theorem mainLinesMade : Tryz.prog.mainIs = some ("cf77d60fbca96cdf4ad783aab3d7b3a05c112add1f68e6e2f29dbbd7732029be" |> fun h => (true, h.toList)) := by kernel_rfl
theorem stanLinesMade : ([22].all fun u => !Tryz.prog.wantsStandIn u) = true := by kernel_rfl
theorem fnamLinesMade : Tryz.prog.funcNamed Rows.linesMadeRow.func = some 3 := by kernel_rfl
theorem holdsLinesMade : Rows.LinesMadeSaid :=
 OpenClaim.holds_of_wide 3 Tryz.f3 rfl rfl rfl rfl rfl rfl rfl ⟨rfl, rfl, rfl, rfl, rfl⟩ rfl rfl rfl rfl rfl fnamLinesMade Tryz.func3 joinLinesMade
  (of_decide_eq_true (by kernel_rfl)) (by unfold Func.isWrapper; first | (rw [if_pos (by decide +kernel)]; kernel_rfl) | (rw [if_neg (by decide +kernel)]; exact ⟨rfl, rfl⟩))
  (fun os started H enc _ => liftedLinesMade os started H enc)
theorem cardLinesMade : Rows.LinesMadeCardSaid :=
 Claim7.holds_tied_plain_at .later [] [.data, .pinned] true (true, "cf77d60fbca96cdf4ad783aab3d7b3a05c112add1f68e6e2f29dbbd7732029be") true holdsLinesMade (fun _ h => by cases h) wfbtLinesMade (fun _ h => by cases h) linesMade_row_tie rfl ⟨rfl, rfl⟩ mainLinesMade rfl
  (fun f fn hf hfn => by
    obtain rfl : f = 3 := Option.some.inj (fnamLinesMade.symm.trans hf) |>.symm
    obtain rfl : fn = Tryz.f3 := (Option.some.inj (Tryz.func3.symm.trans hfn)).symm
    exact ⟨lookLinesMade, fun j t ht => by
     rw [Tryz.params3] at ht
     have hm : t ∈ [22] := by simpa using Array.mem_of_getElem? ht
     have hall := stanLinesMade
     exact (show Tryz.prog.wantsStandIn t = false by simpa using List.all_eq_true.1 hall t hm)⟩)
  goesLinesMade
end Go.Proofs.YtihpgpbbpklbbaaGreatDoor
end
