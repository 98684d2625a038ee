/- The statement is proved: the card of the law, out of its function's contract; no conditions. -/
import Derived.Test.YtbmggbfabohegaaGreatDoorQTurnedAreTurned5
import Derived.LaidMore
import Derived.Lay
import Derived.OpenShut
import Derived.ProofKit
import Derived.SevenTiedAt
import Derived.Shelf.Vars
import Derived.Stop.Joined
import Derived.Test.YtbmggbfabohegaaGreatDoorCards
import Derived.Test.YtbmggbfabohegaaGreatDoorTie
set_option linter.unusedVariables false
set_option linter.unusedSimpArgs false
set_option maxHeartbeats 16000000
namespace Go.Proofs.YtbmggbfabohegaaGreatDoor
section
open Go.Proofs.Tryz
open Go.ChangeShapes Go.WideShapes Go.ChangeAt Go.RowKit Go.HL
theorem zok:ownKnob prog.godebug=none:=by kernel_rfl
theorem zgJ:laidOutB prog=true:=by kernel_rfl
theorem zmf:prog.cellsOf 3=1:=by kernel_rfl
theorem zow {W:World} (h:laidMetH prog Rows.turnedAreTurnedRow.laid W) (hsh:W.ShapedOpen prog):TabI prog (zcx W):=by
 rw [MakeChecks.laidMetH_plain _ _ _ (by kernel_rfl)] at h
 letI:Tracks:=⟨false⟩
 refine zuC (by kernel_rfl) (fun g hg=> ?_) (fun g3 g4 h3 h4=> ?_)
 obtain rfl:0=g:=Av ((show prog.globalNamed "internal/bytealg.MaxLen" =some 0 by kernel_rfl).symm.trans hg);exact Go.Proofs.cell_of_shapedOpen_int (zero:= #[.int .i64 0]) (t:=3) hsh (of_decide_eq_true (by kernel_rfl)) (by kernel_rfl) rfl (by kernel_rfl) (by kernel_rfl) underlying3;obtain rfl:1=g3:=Av ((show prog.globalNamed "unicode/utf8.first" =some 1 by kernel_rfl).symm.trans h3);obtain rfl:2=g4:=Av ((show prog.globalNamed "unicode/utf8.acceptRanges" =some 2 by kernel_rfl).symm.trans h4);exact zuG (i3:=1) (i4:=0) h (by kernel_rfl) (by kernel_rfl) (by kernel_rfl) (by kernel_rfl) (by kernel_rfl) (by kernel_rfl) underlying5 underlying381 underlying383 underlying384 (by kernel_rfl) (by kernel_rfl) (by kernel_rfl) rfl rfl
theorem zmd {W:World} (ht:TabI prog (zcx W)) {a:Option Addr} {len cap:Nat} {H:Type} {enc:TypeId×Value->H} {d0:DataW H} {p:List MemPlace} (h:DataW.Trod enc prog W 0 (fun _=>true) true 22 (.slice a len cap) d0 p):
 Calls prog 3 #[.slice a len cap] W fun e W'=>e= .returned (.bool true)/\Below W.heap.size W W':=by
 obtain ⟨fuel,hf⟩:=h
 rcases open_ints underlying22 underlying3 zmf hf with ⟨hcs,hx⟩|⟨a',len',cap',zs,hcs,_,hl,hm,hz,hx,hcell,hwz⟩
 simp [Value.cells] at hcs
 obtain ⟨rfl,rfl,rfl⟩:=hcs
 letI:Tracks:=⟨false⟩
 exact ztQ (l:=[]) (zey rfl) ht (.slice0 _ _ _)
 simp [Value.cells] at hcs
 obtain ⟨rfl,rfl,rfl⟩:=hcs;simp only [if_true] at hz
 letI:Tracks:=⟨false⟩
 exact ztQ (l:=zs.take len) (zey rfl) ht (zCU hcell (by omega) hl)
set_option maxRecDepth 100000 in
theorem zlz (os:Os) (started:os.Started) (H:Type) (enc:TypeId×Value->H):
 ReturnsInHanded {} Tryz.checked os 3 .any (fun w args=>(Rows.turnedAreTurnedSpec.pre enc prog f3 Rows.turnedAreTurnedRow.domain false w args/\laidMetH prog Rows.turnedAreTurnedRow.laid w)/\sizedMet enc prog f3 (OpenSpec.ofChange Rows.turnedAreTurnedSpec) false w args)
  (Rows.turnedAreTurnedSpec.post enc prog f3 false true false false):=by
 refine zsU (C:=Tryz.checked) (X:=fun w _=>laidMetH prog Rows.turnedAreTurnedRow.laid w) (fun _ _ _ hh h=>h.of_heap hh) zok started (by kernel_rfl) func3
  (ChangeSpec.witness_shaped (enc:=enc) (C:=Tryz.checked) (os:=os) (X:=fun w _=>laidMetH prog Rows.turnedAreTurnedRow.laid w) false (World.laidAll prog os Rows.turnedAreTurnedRow.laid) #[.slice none 0 0] 8 (World.laidAll_os _ _ _)
    (World.shaped_of_ZipB (by kernel_rfl) (by kernel_rfl)) (by kernel_rfl) (by kernel_rfl) (by kernel_rfl)
    (by rw [MakeChecks.laidMetH_plain _ _ _ (by kernel_rfl)];exact laidMet_laidAll _ (by kernel_rfl) (by kernel_rfl))) ?_
 intro W base args ds gs before hval0 hW hL hsh
 have hval: ∀(j:Nat) t v,f3.params[j]? =some t->args[j]? =some v->Value.okWide prog W .any base t v:=hval0
 have hW':=hW;obtain ⟨p,q,hA0,hV,rfl,_,_⟩:=hW;have hA:DataW.TrodAll enc prog W 0 (fun _=>true) true f3.params.toList args.toList ds p:=hA0;rw [Tryz.params3] at hA hval;obtain ⟨v0,d0,rfl,rfl,h0⟩:=trodAll_one hA;obtain ⟨rfl,rfl⟩:=trodVars_none hV;obtain ⟨a0,len,cap,rfl⟩:=okWide_slice underlying22 (hval 0 22 v0 rfl rfl);simp only [A3] at hW';have hlt: ∀x∈p,x.block<W.heap.size:=fun x hx=>by simpa using hW'.lt x hx
 refine (zmd (zow hL hsh) h0).mono fun e W' ⟨he,hb⟩=> ?_
 subst he;have hargs:DataW.Trod enc prog W' 0 (fun b=>decide (b<W.heap.size)) true 22 (.slice a0 len cap) d0 p:=
  Below.trod zgJ (by kernel_rfl) (of_decide_eq_true (by kernel_rfl)) h0 hb hlt
 exact ⟨_,rfl,_,_,_,[],p,[],hW',trodAll_mk1 (shut_bool underlying4 _),trodAll_mk1 hargs,rfl,hb.frame _,fun h=>by cases h⟩
theorem znd:mapsRowed prog=true:=by kernel_rfl
theorem zm9:(Rows.turnedAreTurnedRow.inPlace==prog.inPlace 3)=true:=by kernel_rfl
theorem zng:(Rows.turnedAreTurnedRow.unfollowed==prog.unfollowed 3)=true:=by kernel_rfl
theorem zne:(Rows.turnedAreTurnedRow.recurses==prog.recurses 3)=true:=by kernel_rfl
theorem znh:(Rows.turnedAreTurnedRow.named==prog.varsNamed 3)=true:=by kernel_rfl
theorem zna:joinedFacts prog 3 f3 Rows.turnedAreTurnedSpec Rows.turnedAreTurnedRow=true:=by
 simp only [joinedFacts,Bd]
 repeat' apply And.intro
 all_goals first
  |with_reducible exact zgJ
  |with_reducible exact znd
  |with_reducible exact zm9
  |with_reducible exact zng
  |with_reducible exact zne
  |with_reducible exact znh
  |kernel_rfl
theorem znb:false=prog.looks []:=by kernel_rfl
theorem zm8:false=Rows.turnedAreTurnedRow.goesBy prog:=Go.HL.goesBy_none (by kernel_rfl)
theorem zni:Rows.turnedAreTurnedRow.wfByText (OpenSpec.ofChange Rows.turnedAreTurnedSpec)=true:=by kernel_rfl
theorem znc:prog.mainIs=some ("cb67e88421544b3afad6264eacdb0cab502370205802fe8161058710a655bab7" |>fun h=>(true,h.toList)):=by kernel_rfl
theorem znf:([22].all fun u=> !prog.wantsStandIn u)=true:=by kernel_rfl
theorem zh7:prog.funcNamed Rows.turnedAreTurnedRow.func=some 3:=by kernel_rfl
theorem zmo:Rows.TurnedAreTurnedSaid:=
 OpenClaim.holds_of_wide 3 f3 rfl rfl rfl rfl rfl rfl rfl ⟨rfl,rfl,rfl,rfl,rfl⟩ rfl rfl rfl rfl rfl zh7 func3 zna
  (of_decide_eq_true (by kernel_rfl)) (by unfold Func.isWrapper;first|(rw [if_pos (by decide+kernel)];kernel_rfl)|(rw [if_neg (by decide+kernel)];exact ⟨rfl,rfl⟩))
  (fun os started H enc _=>zlz os started H enc)
theorem cardTurnedAreTurned:Rows.TurnedAreTurnedCardSaid:=
 Claim7.holds_tied_plain_at .later [] [.data,.pinned] true (true,"cb67e88421544b3afad6264eacdb0cab502370205802fe8161058710a655bab7") false zmo (fun _ h=>by cases h) zni (fun _ h=>by cases h) turnedAreTurned_row_tie rfl ⟨rfl,rfl⟩ znc rfl
  (fun f fn hf hfn=>by
    obtain rfl:f=3:=Av (zh7.symm.trans hf)|>.symm
    obtain rfl:fn=f3:=(Av (func3.symm.trans hfn)).symm;exact ⟨znb,fun j t ht=>by
     rw [Tryz.params3] at ht;have hm:t∈[22]:=by simpa using Array.mem_of_getElem? ht
     have hall:=znf;exact (show prog.wantsStandIn t=false by simpa using List.all_eq_true.1 hall t hm)⟩)
  zm8
end
end Go.Proofs.YtbmggbfabohegaaGreatDoor
