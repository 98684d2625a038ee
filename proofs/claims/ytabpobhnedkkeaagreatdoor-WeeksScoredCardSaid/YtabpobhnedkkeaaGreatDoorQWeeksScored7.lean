/- The statement is proved: the card of the law, out of its function's contract; no conditions. -/
import Derived.Test.YtabpobhnedkkeaaGreatDoorQWeeksScored6
import Derived.Calls
import Derived.Handed
import Derived.LaidMore
import Derived.Lay
import Derived.Lib.LaidU8
import Derived.OpenShut
import Derived.ProofKit
import Derived.SevenTiedAt
import Derived.Shelf.Vars
import Derived.Stop.Joined
import Derived.Test.YtabpobhnedkkeaaGreatDoorCards
import Derived.Test.YtabpobhnedkkeaaGreatDoorTie
import GoSem.ClaimGoes
set_option linter.unusedVariables false
set_option linter.unusedSimpArgs false
set_option maxHeartbeats 16000000
namespace Go.Proofs.YtabpobhnedkkeaaGreatDoor
section
open Go.Proofs.Tryz
open Go.ChangeShapes Go.WideShapes Go.ChangeAt Go.RowKit Go.HL
theorem ztU:ownKnob prog.godebug=none:=by kernel_rfl
theorem zjW:laidOutB prog=true:=by kernel_rfl
theorem zrx:prog.cellsOf 3=1:=by kernel_rfl
theorem zub {W:World} (h:laidMetH prog Rows.weeksScoredRow.laid W) (hsh:W.ShapedOpen prog):TabI prog (zc9 W):=by
 rw [MakeChecks.laidMetH_plain _ _ _ (by kernel_rfl)] at h
 letI:Tracks:=⟨false⟩
 refine zxv (by kernel_rfl) (fun g hg=> ?_) (fun g3 g4 h3 h4=> ?_)
 obtain rfl:0=g:=As ((show prog.globalNamed "internal/bytealg.MaxLen" =some 0 by kernel_rfl).symm.trans hg);exact Go.Proofs.cell_of_shapedOpen_int (zero:= #[.int .i64 0]) (t:=3) hsh (of_decide_eq_true (by kernel_rfl)) (by kernel_rfl) rfl (by kernel_rfl) (by kernel_rfl) underlying3;obtain rfl:1=g3:=As ((show prog.globalNamed "unicode/utf8.first" =some 1 by kernel_rfl).symm.trans h3);obtain rfl:2=g4:=As ((show prog.globalNamed "unicode/utf8.acceptRanges" =some 2 by kernel_rfl).symm.trans h4);exact zxz (i3:=1) (i4:=0) h (by kernel_rfl) (by kernel_rfl) (by kernel_rfl) (by kernel_rfl) (by kernel_rfl) (by kernel_rfl) underlying5 underlying386 underlying388 underlying389 (by kernel_rfl) (by kernel_rfl) (by kernel_rfl) rfl rfl
theorem zrw {W:World} (ht:TabI prog (zc9 W)) {a:Option Addr} {len cap:Nat} {H:Type} {enc:TypeId×Value->H} {d0:DataW H} {p:List MemPlace} (h:DataW.Trod enc prog W 0 (fun _=>true) true 22 (.slice a len cap) d0 p):
 Calls prog 3 #[.slice a len cap] W fun e W'=>e= .returned (.bool true)/\Below W.heap.size W W':=by
 obtain ⟨fuel,hf⟩:=h
 rcases open_ints underlying22 underlying3 zrx hf with ⟨hcs,hx⟩|⟨a',len',cap',zs,hcs,_,hl,hm,hz,hx,hcell,hwz⟩
 simp [Value.cells] at hcs
 obtain ⟨rfl,rfl,rfl⟩:=hcs
 letI:Tracks:=⟨false⟩
 exact zwq (l:=[]) (zhk rfl) ht (.slice0 _ _ _)
 simp [Value.cells] at hcs
 obtain ⟨rfl,rfl,rfl⟩:=hcs;simp only [if_true] at hz
 letI:Tracks:=⟨false⟩
 exact zwq (l:=zs.take len) (zhk rfl) ht (zGw hcell (by omega) hl)
set_option maxRecDepth 100000 in
theorem zqY (os:Os) (started:os.Started) (H:Type) (enc:TypeId×Value->H):
 ReturnsInHanded {} Tryz.checked os 3 .any (fun w args=>(Rows.weeksScoredSpec.pre enc prog f3 Rows.weeksScoredRow.domain false w args/\laidMetH prog Rows.weeksScoredRow.laid w)/\sizedMet enc prog f3 (OpenSpec.ofChange Rows.weeksScoredSpec) false w args)
  (Rows.weeksScoredSpec.post enc prog f3 false true false false):=by
 refine zvt (C:=Tryz.checked) (X:=fun w _=>laidMetH prog Rows.weeksScoredRow.laid w) (fun _ _ _ hh h=>h.of_heap hh) ztU started (by kernel_rfl) func3
  (ChangeSpec.witness_shaped (enc:=enc) (C:=Tryz.checked) (os:=os) (X:=fun w _=>laidMetH prog Rows.weeksScoredRow.laid w) false (World.laidAll prog os Rows.weeksScoredRow.laid) #[.slice none 0 0] 8 (World.laidAll_os _ _ _)
    (World.shaped_of_ZipB (by kernel_rfl) (by kernel_rfl)) (by kernel_rfl) (by kernel_rfl) (by kernel_rfl)
    (by rw [MakeChecks.laidMetH_plain _ _ _ (by kernel_rfl)];exact laidMet_laidAll _ (by kernel_rfl) (by kernel_rfl))) ?_
 intro W base args ds gs before hval0 hW hL hsh
 have hval: ∀(j:Nat) t v,f3.params[j]? =some t->args[j]? =some v->Value.okWide prog W .any base t v:=hval0
 have hW':=hW;obtain ⟨p,q,hA0,hV,rfl,_,_⟩:=hW;have hA:DataW.TrodAll enc prog W 0 (fun _=>true) true f3.params.toList args.toList ds p:=hA0;rw [Tryz.params3] at hA hval;obtain ⟨v0,d0,rfl,rfl,h0⟩:=trodAll_one hA;obtain ⟨rfl,rfl⟩:=trodVars_none hV;obtain ⟨a0,len,cap,rfl⟩:=okWide_slice underlying22 (hval 0 22 v0 rfl rfl);simp only [AV] at hW';have hlt: ∀x∈p,x.block<W.heap.size:=fun x hx=>by simpa using hW'.lt x hx
 refine (zrw (zub hL hsh) h0).mono fun e W' ⟨he,hb⟩=> ?_
 subst he;have hargs:DataW.Trod enc prog W' 0 (fun b=>decide (b<W.heap.size)) true 22 (.slice a0 len cap) d0 p:=
  Below.trod zjW (by kernel_rfl) (of_decide_eq_true (by kernel_rfl)) h0 hb hlt
 exact ⟨_,rfl,_,_,_,[],p,[],hW',trodAll_mk1 (shut_bool underlying4 _),trodAll_mk1 hargs,rfl,hb.frame _,fun h=>by cases h⟩
theorem zsC:mapsRowed prog=true:=by kernel_rfl
theorem zst:(Rows.weeksScoredRow.inPlace==prog.inPlace 3)=true:=by kernel_rfl
theorem zs8:(Rows.weeksScoredRow.unfollowed==prog.unfollowed 3)=true:=by kernel_rfl
theorem zsT:(Rows.weeksScoredRow.recurses==prog.recurses 3)=true:=by kernel_rfl
theorem ztc:(Rows.weeksScoredRow.named==prog.varsNamed 3)=true:=by kernel_rfl
theorem zsv:joinedFacts prog 3 f3 Rows.weeksScoredSpec Rows.weeksScoredRow=true:=by
 simp only [joinedFacts,AZ]
 repeat' apply And.intro
 all_goals first
  |with_reducible exact zjW
  |with_reducible exact zsC
  |with_reducible exact zst
  |with_reducible exact zs8
  |with_reducible exact zsT
  |with_reducible exact ztc
  |kernel_rfl
theorem zsz:false=prog.looks []:=by kernel_rfl
theorem zso:false=Rows.weeksScoredRow.goesBy prog:=Go.HL.goesBy_none (by kernel_rfl)
theorem ztd:Rows.weeksScoredRow.wfByText (OpenSpec.ofChange Rows.weeksScoredSpec)=true:=by kernel_rfl
theorem zsA:prog.mainIs=some ("dc23e1716e5f332daa551e91eafc9d92fae3f57b4553d12d2f8b6d9e4178e75c" |>fun h=>(true,h.toList)):=by kernel_rfl
theorem zs0:([22].all fun u=> !prog.wantsStandIn u)=true:=by kernel_rfl
theorem zl5:prog.funcNamed Rows.weeksScoredRow.func=some 3:=by kernel_rfl
theorem zrC:Rows.WeeksScoredSaid:=
 OpenClaim.holds_of_wide 3 f3 rfl rfl rfl rfl rfl rfl rfl ⟨rfl,rfl,rfl,rfl,rfl⟩ rfl rfl rfl rfl rfl zl5 func3 zsv
  (of_decide_eq_true (by kernel_rfl)) (by unfold Func.isWrapper;first|(rw [if_pos (by decide+kernel)];kernel_rfl)|(rw [if_neg (by decide+kernel)];exact ⟨rfl,rfl⟩))
  (fun os started H enc _=>zqY os started H enc)
theorem cardWeeksScored:Rows.WeeksScoredCardSaid:=
 Claim7.holds_tied_plain_at .later [] [.data,.pinned] true (true,"dc23e1716e5f332daa551e91eafc9d92fae3f57b4553d12d2f8b6d9e4178e75c") false zrC (fun _ h=>by cases h) ztd (fun _ h=>by cases h) weeksScored_row_tie rfl ⟨rfl,rfl⟩ zsA rfl
  (fun f fn hf hfn=>by
    obtain rfl:f=3:=As (zl5.symm.trans hf)|>.symm
    obtain rfl:fn=f3:=(As (func3.symm.trans hfn)).symm;exact ⟨zsz,fun j t ht=>by
     rw [Tryz.params3] at ht;have hm:t∈[22]:=by simpa using Array.mem_of_getElem? ht
     have hall:=zs0;exact (show prog.wantsStandIn t=false by simpa using List.all_eq_true.1 hall t hm)⟩)
  zso
end
end Go.Proofs.YtabpobhnedkkeaaGreatDoor
