/- The statement is proved: the card of the law, out of its function's contract; no conditions. -/
import Derived.Test.YtahegdhbakjdoaaGreatDoorQTeamsWatched5
import Derived.Calls
import Derived.Handed
import Derived.LaidMore
import Derived.Lay
import Derived.Lib.LaidU8
import Derived.OpenShut
import Derived.ProofKit
import Derived.SevenTiedAt
import Derived.Shelf.Vars
import Derived.Stop.Joined
import Derived.Test.YtahegdhbakjdoaaGreatDoorCards
import Derived.Test.YtahegdhbakjdoaaGreatDoorTie
import GoSem.ClaimGoes
set_option linter.unusedVariables false
set_option linter.unusedSimpArgs false
set_option maxHeartbeats 16000000
namespace Go.Proofs.YtahegdhbakjdoaaGreatDoor
section
open Go.Proofs.Tryz
open Go.ChangeShapes Go.WideShapes Go.ChangeAt Go.RowKit Go.HL
theorem zot:ownKnob prog.godebug=none:=by kernel_rfl
theorem zhd:laidOutB prog=true:=by kernel_rfl
theorem zmY:prog.cellsOf 3=1:=by kernel_rfl
theorem zoG {W:World} (h:laidMetH prog Rows.teamsWatchedRow.laid W) (hsh:W.ShapedOpen prog):TabI prog (zci W):=by
 rw [MakeChecks.laidMetH_plain _ _ _ (by kernel_rfl)] at h
 letI:Tracks:=⟨false⟩
 refine zrR (by kernel_rfl) (fun g hg=> ?_) (fun g3 g4 h3 h4=> ?_)
 obtain rfl:0=g:=Av ((show prog.globalNamed "internal/bytealg.MaxLen" =some 0 by kernel_rfl).symm.trans hg);exact Go.Proofs.cell_of_shapedOpen_int (zero:= #[.int .i64 0]) (t:=3) hsh (of_decide_eq_true (by kernel_rfl)) (by kernel_rfl) rfl (by kernel_rfl) (by kernel_rfl) underlying3;obtain rfl:1=g3:=Av ((show prog.globalNamed "unicode/utf8.first" =some 1 by kernel_rfl).symm.trans h3);obtain rfl:2=g4:=Av ((show prog.globalNamed "unicode/utf8.acceptRanges" =some 2 by kernel_rfl).symm.trans h4);exact zrV (i3:=1) (i4:=0) h (by kernel_rfl) (by kernel_rfl) (by kernel_rfl) (by kernel_rfl) (by kernel_rfl) (by kernel_rfl) underlying5 underlying369 underlying371 underlying372 (by kernel_rfl) (by kernel_rfl) (by kernel_rfl) rfl rfl
theorem zmX {W:World} (ht:TabI prog (zci W)) {a:Option Addr} {len cap:Nat} {H:Type} {enc:TypeId×Value->H} {d0:DataW H} {p:List MemPlace} (h:DataW.Trod enc prog W 0 (fun _=>true) true 22 (.slice a len cap) d0 p):
 Calls prog 4 #[.slice a len cap] W fun e W'=>e= .returned (.bool true)/\Below W.heap.size W W':=by
 obtain ⟨fuel,hf⟩:=h
 rcases open_ints underlying22 underlying3 zmY hf with ⟨hcs,hx⟩|⟨a',len',cap',zs,hcs,_,hl,hm,hz,hx,hcell,hwz⟩
 simp [Value.cells] at hcs
 obtain ⟨rfl,rfl,rfl⟩:=hcs
 letI:Tracks:=⟨false⟩
 exact zrc (l:=[]) (zfh rfl) ht (.slice0 _ _ _)
 simp [Value.cells] at hcs
 obtain ⟨rfl,rfl,rfl⟩:=hcs;simp only [if_true] at hz
 letI:Tracks:=⟨false⟩
 exact zrc (l:=zs.take len) (zfh rfl) ht (zyr hcell (by omega) hl)
set_option maxRecDepth 100000 in
theorem zmc (os:Os) (started:os.Started) (H:Type) (enc:TypeId×Value->H):
 ReturnsInHanded {} Tryz.checked os 4 .any (fun w args=>(Rows.teamsWatchedSpec.pre enc prog f4 Rows.teamsWatchedRow.domain false w args/\laidMetH prog Rows.teamsWatchedRow.laid w)/\sizedMet enc prog f4 (OpenSpec.ofChange Rows.teamsWatchedSpec) false w args)
  (Rows.teamsWatchedSpec.post enc prog f4 false true false false):=by
 refine zqp (C:=Tryz.checked) (X:=fun w _=>laidMetH prog Rows.teamsWatchedRow.laid w) (fun _ _ _ hh h=>h.of_heap hh) zot started (by kernel_rfl) func4
  (ChangeSpec.witness_shaped (enc:=enc) (C:=Tryz.checked) (os:=os) (X:=fun w _=>laidMetH prog Rows.teamsWatchedRow.laid w) false (World.laidAll prog os Rows.teamsWatchedRow.laid) #[.slice none 0 0] 8 (World.laidAll_os _ _ _)
    (World.shaped_of_ZipB (by kernel_rfl) (by kernel_rfl)) (by kernel_rfl) (by kernel_rfl) (by kernel_rfl)
    (by rw [MakeChecks.laidMetH_plain _ _ _ (by kernel_rfl)];exact laidMet_laidAll _ (by kernel_rfl) (by kernel_rfl))) ?_
 intro W base args ds gs before hval0 hW hL hsh
 have hval: ∀(j:Nat) t v,f4.params[j]? =some t->args[j]? =some v->Value.okWide prog W .any base t v:=hval0
 have hW':=hW;obtain ⟨p,q,hA0,hV,rfl,_,_⟩:=hW;have hA:DataW.TrodAll enc prog W 0 (fun _=>true) true f4.params.toList args.toList ds p:=hA0;rw [Tryz.params4] at hA hval;obtain ⟨v0,d0,rfl,rfl,h0⟩:=trodAll_one hA;obtain ⟨rfl,rfl⟩:=trodVars_none hV;obtain ⟨a0,len,cap,rfl⟩:=okWide_slice underlying22 (hval 0 22 v0 rfl rfl);simp only [AR] at hW';have hlt: ∀x∈p,x.block<W.heap.size:=fun x hx=>by simpa using hW'.lt x hx
 refine (zmX (zoG hL hsh) h0).mono fun e W' ⟨he,hb⟩=> ?_
 subst he;have hargs:DataW.Trod enc prog W' 0 (fun b=>decide (b<W.heap.size)) true 22 (.slice a0 len cap) d0 p:=
  Below.trod zhd (by kernel_rfl) (of_decide_eq_true (by kernel_rfl)) h0 hb hlt
 exact ⟨_,rfl,_,_,_,[],p,[],hW',trodAll_mk1 (shut_bool underlying4 _),trodAll_mk1 hargs,rfl,hb.frame _,fun h=>by cases h⟩
theorem zny:mapsRowed prog=true:=by kernel_rfl
theorem zns:(Rows.teamsWatchedRow.inPlace==prog.inPlace 4)=true:=by kernel_rfl
theorem znH:(Rows.teamsWatchedRow.unfollowed==prog.unfollowed 4)=true:=by kernel_rfl
theorem znA:(Rows.teamsWatchedRow.recurses==prog.recurses 4)=true:=by kernel_rfl
theorem znI:(Rows.teamsWatchedRow.named==prog.varsNamed 4)=true:=by kernel_rfl
theorem znu:joinedFacts prog 4 f4 Rows.teamsWatchedSpec Rows.teamsWatchedRow=true:=by
 simp only [joinedFacts,Bool.and_eq_true]
 repeat' apply And.intro
 all_goals first
  |with_reducible exact zhd
  |with_reducible exact zny
  |with_reducible exact zns
  |with_reducible exact znH
  |with_reducible exact znA
  |with_reducible exact znI
  |kernel_rfl
theorem znv:false=prog.looks []:=by kernel_rfl
theorem znp:false=Rows.teamsWatchedRow.goesBy prog:=Go.HL.goesBy_none (by kernel_rfl)
theorem znK:Rows.teamsWatchedRow.wfByText (OpenSpec.ofChange Rows.teamsWatchedSpec)=true:=by kernel_rfl
theorem znx:prog.mainIs=some ("02ea40cc68b1a9f5ce4d8d18064385c67c5a51d9c07328201d7b11660742354f" |>fun h=>(true,h.toList)):=by kernel_rfl
theorem znE:([22].all fun u=> !prog.wantsStandIn u)=true:=by kernel_rfl
theorem ziQ:prog.funcNamed Rows.teamsWatchedRow.func=some 4:=by kernel_rfl
theorem zmZ:Rows.TeamsWatchedSaid:=
 OpenClaim.holds_of_wide 4 f4 rfl rfl rfl rfl rfl rfl rfl ⟨rfl,rfl,rfl,rfl,rfl⟩ rfl rfl rfl rfl rfl ziQ func4 znu
  (of_decide_eq_true (by kernel_rfl)) (by unfold Func.isWrapper;first|(rw [if_pos (by decide+kernel)];kernel_rfl)|(rw [if_neg (by decide+kernel)];exact ⟨rfl,rfl⟩))
  (fun os started H enc _=>zmc os started H enc)
theorem cardTeamsWatched:Rows.TeamsWatchedCardSaid:=
 Claim7.holds_tied_plain_at .later [] [.data,.pinned] true (true,"02ea40cc68b1a9f5ce4d8d18064385c67c5a51d9c07328201d7b11660742354f") false zmZ (fun _ h=>by cases h) znK (fun _ h=>by cases h) teamsWatched_row_tie rfl ⟨rfl,rfl⟩ znx rfl
  (fun f fn hf hfn=>by
    obtain rfl:f=4:=Av (ziQ.symm.trans hf)|>.symm
    obtain rfl:fn=f4:=(Av (func4.symm.trans hfn)).symm;exact ⟨znv,fun j t ht=>by
     rw [Tryz.params4] at ht;have hm:t∈[22]:=by simpa using Array.mem_of_getElem? ht
     have hall:=znE;exact (show prog.wantsStandIn t=false by simpa using List.all_eq_true.1 hall t hm)⟩)
  znp
end
end Go.Proofs.YtahegdhbakjdoaaGreatDoor
