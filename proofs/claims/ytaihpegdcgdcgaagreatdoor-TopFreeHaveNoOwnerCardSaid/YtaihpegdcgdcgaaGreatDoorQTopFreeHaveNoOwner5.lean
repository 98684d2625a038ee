/- The statement is proved: the card of the law, out of its function's contract; no conditions. -/
import Derived.Test.YtaihpegdcgdcgaaGreatDoorQTopFreeHaveNoOwner4
import Derived.Calls
import Derived.Handed
import Derived.LaidMore
import Derived.Lay
import Derived.Lib.LaidU8
import Derived.OpenShut
import Derived.ProofKit
import Derived.SevenTiedAt
import Derived.Shelf.Vars
import Derived.Stop.Joined
import Derived.Test.YtaihpegdcgdcgaaGreatDoorCards
import Derived.Test.YtaihpegdcgdcgaaGreatDoorTie
import GoSem.ClaimGoes
set_option linter.unusedVariables false
set_option linter.unusedSimpArgs false
set_option maxHeartbeats 16000000
namespace Go.Proofs.YtaihpegdcgdcgaaGreatDoor
set_option maxRecDepth 100000
set_option linter.unusedVariables false
set_option linter.unusedSimpArgs false
section
open Go.Proofs.Tryz
open Go.HL
theorem zqZ [Tracks]:Weak (.agg [.raw (.slice none 0 0),.raw (.slice none 0 0),.raw (.slice none 0 0),.raw (.slice none 0 0),.slice 2 [.agg [.str [115,97],.slice 1 [.str [103,107]]]],.int .i64 3,.int .i64 0,.int .i64 5,.int .i64 0,.slice 1 [.str [116,97],.str [116,98]],.raw (.slice none 0 0),.raw (.slice none 0 0),.raw (.slice none 0 0),.int .i64 0,.raw (.slice none 0 0),.raw (.slice none 0 0),.raw (.slice none 0 0),.raw (.slice none 0 0),.raw (.slice none 0 0)]) (zeb g0B):=by
 refine zu5 rfl fun j h h' h1 h2=> ?_
 match j,h1,h2 with
 |0,h1,h2|1,h1,h2|2,h1,h2|3,h1,h2|10,h1,h2|11,h1,h2|12,h1,h2|14,h1,h2|15,h1,h2|16,h1,h2|17,h1,h2|18,h1,h2=>cases h1;cases h2;exact zZ _
 |4,h1,h2|5,h1,h2|6,h1,h2|7,h1,h2|8,h1,h2|9,h1,h2|13,h1,h2=>cases h1;cases h2;exact Weak.refl _
 |n+19,h1,h2=>cases h1
theorem zeX [Tracks] {b:Nat} {l:List Int} {a:Nat} (hT:Tracks.on=false) (ha:a<=100000):Con prog 4 [pAt b] [St b l a] (fun x M'=> ∃k a',x=zeb k/\zdJ k=0/\BookC k/\a'<=a+24000/\M'=[St b l a']):=by
 refine zcM func4 rfl ntmps4 rfl rfl ?_;refine gz1 ?_;refine de rfl (zi zb4 rfl fun b2=> ?_)
 refine gz6 ?_;refine uT2 [3,10] (fun i a1=>[(4,.int .i64 (i:Int))]) (fun i a1=>[.cells b2 [.raw (.slice none 0 0),.raw (.slice none 0 0),.raw (.slice none 0 0),.raw (.slice none 0 0),.raw (.slice none 0 0),.int .i64 0,.int .i64 0,.int .i64 0,.int .i64 0,.raw (.slice none 0 0),.raw (.slice none 0 0),.raw (.slice none 0 0),.raw (.slice none 0 0),.int .i64 0,.raw (.slice none 0 0),.raw (.slice none 0 0),.raw (.slice none 0 0),.raw (.slice none 0 0),.raw (.slice none 0 0)],St b l a1]) (fun i a1=>i<=12/\a1<=a+2000*i) (fun i a1=>12-i) (0) (a) ?_ ?_
 ·exact ⟨by omega,by omega⟩
 ·rintro i a1 ⟨hi,ha1⟩;refine gz4 ?_;refine uCo (fun h1=> ?_) fun h2=> ?_
  ·refine gz6 ?_;refine de rfl (uCx 1 ca11 rfl rfl (zf6 (a:=a1) uO) ?_)
   rintro _ _ ⟨k7,a7,rfl,hk7,ha7,rfl⟩;refine de rfl (zi zb4 rfl fun b3=> ?_)
   refine de0 (zo zb4 rfl rfl rfl rfl rfl ?_)
   refine gz1 ?_;refine zf (zp 3 rfl) ?_;refine gz1 ?_;refine dq (zeA (h:=zeb k7) zb4 rfl rfl rfl rfl) ?_;refine dq (uCl ca12 rfl (zjp (b:=k7) hT hk7.c)) ?_;refine gz2 ?_;refine uCo (fun h3=> ?_) fun h4=> ?_
   ·refine gz1 ?_;refine dq (zeA (h:=zeb k7) zb4 rfl rfl rfl rfl) ?_;refine de0 (uY 1 ?_)
    refine gz2 ?_
    first
    |exact ⟨_,_,(Ghost.perm (List.Perm.swap _ _ _)).trans ((zp 2 rfl)),[_],_,⟨⟨_,_,_,_,_,rfl,zb4,.inr ⟨rfl,rfl,rfl⟩⟩,trivial⟩,Weak.refl _,k7,a7,rfl,by assumption,hk7.c,by omega,rfl⟩
    |exact ⟨_,_,zp 2 rfl,[_],_,⟨⟨_,_,_,_,_,rfl,zb4,.inr ⟨rfl,rfl,rfl⟩⟩,trivial⟩,zqZ,g0B,a1,rfl,zvC,zvD,by omega,rfl⟩
   ·refine gz7 ?_;exact ⟨i+1,a7,⟨by omega,by omega⟩,uD,⟨rfl,trivial⟩,uK,uP⟩
  ·obtain rfl:i=12:=by omega
   refine gz2 ?_;refine zJ ?_;refine gz3 ?_;refine dq (za (hs:=[_]) zj ty9 rfl rfl (by decide) (by decide) rfl) ?_;refine dq (zH (cs:=[_,_]) ze3 zuG rfl) ?_;refine dq (za (hs:=[_]) zf3 ze3 rfl rfl (by decide) (by decide) rfl) ?_;refine dq (zH (cs:=[_,_,_,_]) zgt pl32 rfl) ?_;refine dq (za (hs:=[_,_]) zj ty9 rfl rfl (by decide) (by decide) rfl) ?_;refine dq (zH (cs:=[_,_,_,_,_,_,_,_,_,_,_,_,_,_]) za9 zh5 rfl) ?_;refine dq (zH (cs:=[_,_,_,_,_,_,_,_,_,_,_,_,_,_,_,_,_,_,_]) zb4 pl43 rfl) ?_;refine de0 (uY 0 ?_)
   refine gz2 ?_
   first
   |exact ⟨_,_,(Ghost.perm (List.Perm.swap _ _ _)).trans ((zp 2 rfl)),[_],_,⟨⟨_,_,_,_,_,rfl,zb4,.inr ⟨rfl,rfl,rfl⟩⟩,trivial⟩,Weak.refl _,k7,a7,rfl,by assumption,hk7.c,by omega,rfl⟩
   |exact ⟨_,_,zp 2 rfl,[_],_,⟨⟨_,_,_,_,_,rfl,zb4,.inr ⟨rfl,rfl,rfl⟩⟩,trivial⟩,zqZ,g0B,a1,rfl,zvC,zvD,by omega,rfl⟩
end
section
open Go.Proofs.Tryz
open Go.HL
theorem zkH [Tracks] (hT:Tracks.on=false):ConP prog 10 [] (.bool true):=by
 refine uOb func10 ntmps10 ?_;refine gz4 ?_;refine dq (zH (cs:=[_,_,_,_,_,_,_,_,_]) zbk zqF rfl) ?_;refine dq (za (hs:=[_]) zg8 zbk rfl rfl (by decide) (by decide) rfl) ?_;refine dq (za (hs:=[_]) zj ty9 rfl rfl (by decide) (by decide) rfl) ?_;refine dq (zkk (hs':=[zbq [zlW],eSs [[115]],.int .i64 1,.int .i64 5]) ca19 rfl (WeakL.refl _) (zqb hT (by decide) (by decide))) ?_;refine gz6 ?_;simp only [zwB,zwC];refine gz1 ?_;refine dq (za (hs:=[_,_]) zj ty9 rfl rfl (by decide) (by decide) rfl) ?_;refine dq (za (hs:=[_,_,_,_]) zj ty9 rfl rfl (by decide) (by decide) rfl) ?_;refine dq (zH (cs:=[_,_,_,_,_,_]) zsR pl80 rfl) ?_;refine de rfl (zi zsR rfl fun b3=> ?_)
 refine de0 (zo zsR rfl rfl rfl rfl rfl ?_)
 refine gz1 ?_;refine zf (zp 3 rfl) ?_;refine gz2 ?_;refine dq (zkk (hs':=[zna zpO,zlg []]) ca20 rfl ⟨Weak.refl _,zZ 3,trivial⟩ (zpi (r:=zpO) (s:=[]) (by decide) (by decide) (by decide))) ?_;refine gz6 ?_;simp only [zrh,zuX];refine gz1 ?_;refine dq (zH (cs:=[_,_,_]) zcr pl85 rfl) ?_;refine dq (za (hs:=[_]) zgw zcr rfl rfl (by decide) (by decide) rfl) ?_;refine dq (zH (cs:=[_,_]) zlN pl88 rfl) ?_;refine dq (za (hs:=[_]) zu3 zlN rfl rfl (by decide) (by decide) rfl) ?_;refine dq (zkk (hs':=[zhy [zgE],zlR [zjD]]) ca21 rfl (WeakL.refl _) (zm7 (l:=[zgE]) (p:=[zjD]) (by decide) (by decide))) ?_;refine gz8 ?_;simp only [zw9,zwk,ztE];refine zat ?_;refine uGr rfl (fun hc=>zC (j:=0) (a:=zsr) zsQ zqW rfl rfl rfl rfl) ?_;refine zct ?_;refine uGr rfl (fun hc=>za (hs:=[_,_,_,_]) zj ty9 rfl rfl (by decide) (by decide) rfl) ?_;refine uGr rfl (fun hc=>uCl ca22 rfl (zgd (l:=[[97],[98],[98],[97]]) (m:=[[97],[98],[98],[97]]) (by decide))) ?_;refine zdz ?_;refine zB rfl ?_
 rfl
theorem zfD [Tracks] {p:PlayerS} {s:Str}:ConP prog 9 [zc4 p,.vptr [.str s] 0] (.bool (p.Key==s)):=by
 refine uOb func9 ntmps9 ?_;refine zdz ?_;refine zB rfl ?_
 rfl
theorem zdq [Tracks] {l:List Int} (hT:Tracks.on=false):ConP prog 3 [.slice 1 (l.map (.int .i64))] (.bool true):=by
 refine uOb func3 ntmps3 ?_;refine gz5 ?_;refine dq (zH (cs:=[_,_]) ty25 pl25 rfl) ?_;refine de rfl (zrq rfl rfl fun b=> ?_)
 refine zwP (M':=[St b l 0]) rfl ?_;refine gz4 ?_;refine de rfl (uCx 0 ca4 rfl rfl (zeX (a:=0) hT uO) ?_)
 rintro _ _ ⟨k16,a16,rfl,hz16,hc16,ha16,rfl⟩;refine gz1 ?_
 first
 |refine de rfl (uCx 0 ca5 rfl rfl (zz uS uS uS uS) ?_)
 |refine de rfl (uCx 1 ca5 rfl rfl (zz uS uS uS uS) ?_)
 |refine de rfl (uCx 2 ca5 rfl rfl (zz uS uS uS uS) ?_)
 |refine de rfl (uCx 3 ca5 rfl rfl (zz uS uS uS uS) ?_)
 rintro _ _ ⟨y18,rfl,hy18,rfl⟩;refine de rfl (zi zb4 rfl fun b4=> ?_)
 refine de0 (zo zb4 rfl rfl rfl rfl rfl ?_)
 refine gz2 ?_;refine zf (zp 4 rfl) ?_;have hnm:zY y18=true:=by simp [zY,out];omega
 obtain ⟨he0,hf0⟩:=zth hz16 hnm;have hbf:=zox hz16;have hfl:(zds k16 y18).length<=1000000:=by have:=zoI k16.League.Bounds (zeU k16.League.Bounds k16.Moves y18) y18 (zhm k16);have:=hbf.ps;rw [hf0];simp at*;omega
 refine gz1 ?_;refine dq (zeA (h:=zeb k16) zb4 rfl rfl rfl rfl) ?_;refine gz1 ?_;refine dq (zau (h':= .tup [eSs (zds k16 y18),.int .i64 0]) (uCl ca6 rfl (zpl (b:=k16) (n:=y18) hT hc16)) (by rw [he0])) ?_;refine zct ?_;refine zaF rfl (fun h1=> ?_) (fun h1=> ?_)
 ·exfalso
  try simp at h1
  done
 ·try simp at h1
  refine gz5 ?_;refine dq (zax (f:=HVal.str) (l:=zds k16 y18) zj rfl) ?_;refine gz3 ?_;refine uT1 [2,1,9,3,29,30] (fun i=>[(29,.int .i64 i)]) (fun i=>[St b l (a16+1)]) (fun i=>i<=(zds k16 y18).length/\(True)) (fun i=>(zds k16 y18).length-i) (0) ?_ ?_
  ·exact ⟨Ad _,trivial⟩
  ·rintro i ⟨hi,-⟩;refine gz4 ?_;refine uCo (fun h2=> ?_) fun h3=> ?_
   ·obtain ⟨x,hx⟩: ∃x,(zds k16 y18)[i]? =some x:=⟨_,Aa h2⟩
    have hdx:=zg hx;obtain ⟨hxk,hxo⟩:=zui (by rw [<-hf0];exact Ab hx);have haz:=hbf.ask hnm hxk;obtain ⟨p0,hp0,hpx0⟩:=List.mem_map.1 hxk;refine gz5 ?_;refine dq (zC (f:=HVal.str) (l:=zds k16 y18) (j:=i) (a:=x) zj ty9 rfl rfl rfl hx) ?_;refine gz1 ?_;refine de rfl (zi ty9 rfl fun b9=> ?_)
    refine de0 (zo ty9 rfl rfl rfl rfl rfl ?_)
    refine gz1 ?_;refine zf (zp 9 rfl) ?_;refine gz3 ?_;refine dq (zau (h':=zdy k16.League.Bounds) (zaV zgt rfl rfl (An rfl)) rfl) ?_;refine gz1 ?_;refine dq (zh6 (h:=zbz k16.Moves) zbA rfl rfl rfl) ?_;refine gz2 ?_;refine dq (zau (h':= .tup [.str [],.int .i64 0]) (uCl ca7 rfl (zn0 (b:=k16.League.Bounds) (l:=k16.Moves) (p:=x) (n:=y18) hc16.bb.mv)) (by rw [haz,if_neg (by decide),hxo])) ?_;refine zun ?_;refine uGr rfl (fun hc=>uCl ca8 rfl (zdr (l:=k16.League.Players) (p:=fun p=>p.Key==x) ca9 (fun _=>zfD) hc16.bb.lea.pl)) ?_;refine gz3 ?_;refine zaF rfl (fun h4=> ?_) (fun h4=> ?_)
    ·exfalso
     try simp at h4
     first|exact h4 p0 hp0 hpx0|simp_all
    ·try simp at h4
     refine gz7 ?_;exact ⟨i+1,⟨by omega,trivial⟩,uD,⟨rfl,trivial⟩,uK,Ac _⟩
   ·have hni:(zds k16 y18).length<=i:=by omega
    obtain rfl:i=(zds k16 y18).length:=by omega
    refine gz2 ?_;refine zn ?_;refine gz3 ?_;refine dq (uCl ca10 rfl (zkH hT)) ?_;refine gz3 ?_;refine zaa Ghost.clear rfl ⟨?_,rfl⟩
    rfl
end
end Go.Proofs.YtaihpegdcgdcgaaGreatDoor
namespace Go.HL
section
open Go
theorem ztk {P:Program} (h:P.funcs.toList.any Func.goes=false) (f:FuncId):P.goes f=false:=by
 have hf: ∀g:Nat,(P.funcs[g]?).any Func.goes=false:=fun g=>by
  cases hg:P.funcs[g]? with
  |none=>rfl
  |some fn=>
    have:fn∈P.funcs.toList:=by
     obtain ⟨hlt,rfl⟩:=Array.getElem?_eq_some_iff.1 hg
     simp
    have:=List.any_eq_false.1 h fn this
    simpa using this
 have ha:P.funcs.any Func.goes=false:=by rw [<-Array.any_toList];exact h
 unfold Program.goes;rw [ha,Bool.and_false,Ba];rw [B0]
 intro g _
 rw [hf g];simp
theorem goesBy_none {P:Program} {c:OpenClaim} (h:P.funcs.toList.any Func.goes=false):false=c.goesBy P:=by
 have hg:=ztk h;unfold OpenClaim.goesBy Program.goesAt Program.goesFrom;have h1:(P.funcNamed c.func).any P.goes=false:=by
  cases P.funcNamed c.func with
  |none=>rfl
  |some f=>exact hg f
 have h2:P.inits.toList.any P.goes=false:=List.any_eq_false.2 fun x _=>by rw [hg x];simp
 rw [h1]
 cases c.start<;>simp [h2,hg]
end
section
open Go
theorem zpw {H:Type} {enc:TypeId×Value->H} {a:Assume} {C:Checked} {os:Os} {f:FuncId} {fn:Func} {s:ChangeSpec} {conds:List PathCond} {apart fresh handsOn again:Bool} {X:World->Array Value->Prop}
 (hX: ∀(w w':World) (args:Array Value),w.heap=w'.heap->X w args->X w' args)
 (own:ownKnob C.prog.godebug=none) (started:os.Started) (noInit:C.prog.inits.idxOf? f=none) (hfn:C.prog.funcs[f]? =some fn)
 (witness: ∃(w:World) (tape:Tape) (i:Input),w.os=os/\(w.forCall tape i).Shaped C.prog/\i.vars=[]/\Input.okWide C.prog (w.forCall tape i) .any w.heap.size f i/\
   ((s.pre enc C.prog fn conds apart (w.forCall tape i).memory i.args/\X (w.forCall tape i).memory i.args)/\sizedMet enc C.prog fn (OpenSpec.ofChange s) apart (w.forCall tape i).memory i.args)/\a.holds C.prog (lone (Frame.enter C.prog f i.args .normal) [] (w.forCall tape i)))
 (contract: ∀(W:World) (base:Nat) (args:Array Value) (ds gs:List (DataW H)) (before:List MemPlace),
   (∀(j:Nat) t v,fn.params[j]? =some t->args[j]? =some v->Value.okWide C.prog W .any base t v)->DataW.Whole enc C.prog fn.params.toList s.vars apart W args.toList ds gs before->
   X W args->W.ShapedOpen C.prog->Calls C.prog f args W fun e W'=> ∃v,e= .returned v/\s.post enc C.prog fn apart fresh handsOn again W args v W'):
 ReturnsInHanded a C os f .any (fun w args=>(s.pre enc C.prog fn conds apart w args/\X w args)/\sizedMet enc C.prog fn (OpenSpec.ofChange s) apart w args) (s.post enc C.prog fn apart fresh handsOn again):=by
 refine returnsInHanded_of_calls own started noInit witness fun w tape i _ hsh _ hok hpre _=> ?_
 obtain ⟨_,_,_,fn',hfn',_,_,_,_,hval⟩:=hok;obtain rfl:fn'=fn:=Aw (hfn'.symm.trans hfn);obtain ⟨⟨⟨ds,gs,before,hw,_⟩,hx⟩,_⟩:=hpre;refine (contract (w.forCall tape i) w.heap.size i.args ds gs before hval (DataW.Whole.of_heap (w':=w.forCall tape i) (by rfl) hw) (hX _ _ _ (by rfl) hx) hsh).mono fun e W' ⟨v,he,hp⟩=> ?_
 subst he;exact ChangeSpec.post_blind hp
end
section
open Go.Sort Go.Proofs Go.RowKit Go.Lib
variable {P:Program}
theorem zqY {W:World} {laid:List (String×DataW Unit)} {i3 i4 g3 g4 t5 t119 t138 t139:Nat} {fs:Array Field} (h:laidMet P laid W)
 (e3:laid[i3]? =some ("unicode/utf8.first",firstData)) (e4:laid[i4]? =some ("unicode/utf8.acceptRanges",acceptData))
 (n3:P.globalNamed "unicode/utf8.first" =some g3) (n4:P.globalNamed "unicode/utf8.acceptRanges" =some g4) (y3:(P.globals[g3]?).map (·.type)=some t119) (y4:(P.globals[g4]?).map (·.type)=some t139)
 (u5:P.underlying t5=some (.int .u8)) (u119:P.underlying t119=some (.array 256 t5)) (u138:P.underlying t138=some (.struct fs)) (u139:P.underlying t139=some (.array 16 t138))
 (c5:P.cellsOf t5=1) (c119:P.cellsOf t119=256) (c138:P.cellsOf t138=2) (hs:fs.size=2) (hf:(fs.toList.map fun f=>(f.type,f.offset))=[(t5,0),(t5,1)]):
 (∀c,c<256->W.cell? ⟨g3,c,none⟩=some (.int .u8 (Lib.firstT c)))/\(∀i,i<16->W.cell? ⟨g4,2*i,none⟩=some (.int .u8 (Lib.accLo i))/\W.cell? ⟨g4,2*i+1,none⟩=some (.int .u8 (Lib.accHi i))):=by
 obtain ⟨ps,h1,_⟩:=h;have h3:VarReads P W "unicode/utf8.first" firstData:=zod h1 i3 e3;have h4:VarReads P W "unicode/utf8.acceptRanges" acceptData:=zod h1 i4 e4;refine ⟨fun c hc=> ?_,fun i hi=> ?_⟩
 obtain ⟨g,t,cs,fuel,p,hg,hty,hvar,hd⟩:=h3;obtain rfl:=Aw (n3.symm.trans hg);obtain rfl:=Aw (y3.symm.trans hty);have hcs:=cells_of_tab u119 u5 c5 c119 hd;have:=World.var?_cell hg hvar c;rw [this,<-AS,hcs]
 simp [firstTab,hc]
 obtain ⟨g,t,cs,fuel,p,hg,hty,hvar,hd⟩:=h4;obtain rfl:=Aw (n4.symm.trans hg);obtain rfl:=Aw (y4.symm.trans hty);obtain ⟨fuel',d,q,hdi,he⟩:=array_elem u139 hd i hi;simp only [Ag,Bz hi,AG,As] at hdi;subst hdi;rw [c138] at he;have hcs:=ints_of_struct u138 (fun j f hj=>by
  have hq:(fs.toList.map fun f=>(f.type,f.offset))[j]? =some (f.type,f.offset):=by rw [Ag,AS,hj];rfl
  rw [hf] at hq
  match j,hq with
  |0,hq=>simp at hq;exact ⟨by rw [<-hq.1];exact u5,hq.2.symm,by rw [<-hq.1];exact c5⟩
  |1,hq=>simp at hq;exact ⟨by rw [<-hq.1];exact u5,hq.2.symm,by rw [<-hq.1];exact c5⟩
  |j+2,hq=>simp at hq) (by rw [c138,hs]) he
 have a0:=congrArg (·[0]?) hcs;have a1:=congrArg (·[1]?) hcs;simp only [A5,AI] at a0 a1
 constructor
 rw [World.var?_cell hg hvar (2*i),<-AS]
 simpa [Bx] using a0
 rw [World.var?_cell hg hvar (2*i+1),<-AS]
 simpa [Bx] using a1
theorem zqS [Tracks] {W:World} (hp:P.globalNamed "internal/strconv.uint64pow10" =none)
 (hl: ∀g,P.globalNamed "internal/bytealg.MaxLen" =some g->∃m,W.cell? ⟨g,0,none⟩=some (.int .i64 m))
 (hu: ∀g3 g4,P.globalNamed "unicode/utf8.first" =some g3->P.globalNamed "unicode/utf8.acceptRanges" =some g4->(∀c,c<256->W.cell? ⟨g3,c,none⟩=some (.int .u8 (Lib.firstT c)))/\(∀i,i<16->W.cell? ⟨g4,2*i,none⟩=some (.int .u8 (Lib.accLo i))/\W.cell? ⟨g4,2*i+1,none⟩=some (.int .u8 (Lib.accHi i)))):TabI P (zbK W):=by
 refine ⟨fun g hg=>(by rw [hp] at hg;cases hg),fun g hg=> ?_,fun g3 g4 h3 h4=> ?_⟩
 obtain ⟨m,hm⟩:=hl g hg;unfold World.cell? at hm
 cases hh:W.heap[g]? with
 |none=>rw [hh] at hm;cases hm
 |some o=>
   rw [hh] at hm
   cases o with
   |cells c t fr=>exact ⟨c,t,fr,m,hh,by simpa using hm⟩
   |_=>cases hm
 obtain ⟨u1,u2⟩:=hu g3 g4 h3 h4;have key: ∀(g:Nat) (v:Value),W.cell? ⟨g,0,none⟩=some v->∃c t fr,W.heap[g]? =some (.cells c t fr):=fun g v hv=>by
  unfold World.cell? at hv
  cases hh:W.heap[g]? with
  |none=>rw [hh] at hv;cases hv
  |some o=>
    rw [hh] at hv
    cases o with
    |cells c t fr=>exact ⟨c,t,fr,rfl⟩
    |_=>cases hv
 obtain ⟨c3,t3,f3,x3⟩:=key g3 _ (u1 0 (by omega));obtain ⟨c4,t4,f4,x4⟩:=key g4 _ (u2 0 (by omega)).1;refine ⟨c3,t3,f3,c4,t4,f4,x3,x4,fun k hk=> ?_,fun i hi=> ?_⟩
 rw [<-zbu x3];exact u1 k hk;exact ⟨by rw [<-zbu x4];exact (u2 i hi).1,by rw [<-zbu x4];exact (u2 i hi).2⟩
end
end Go.HL
namespace Go.Proofs.YtaihpegdcgdcgaaGreatDoor
section
open Go.Proofs.Tryz
open Go.ChangeShapes Go.WideShapes Go.ChangeAt Go.RowKit Go.HL
theorem zjB:ownKnob prog.godebug=none:=by kernel_rfl
theorem zec:laidOutB prog=true:=by kernel_rfl
theorem zik:prog.cellsOf 3=1:=by kernel_rfl
theorem zjH {W:World} (h:laidMetH prog Rows.topFreeHaveNoOwnerRow.laid W) (hsh:W.ShapedOpen prog):TabI prog (zbK W):=by
 rw [MakeChecks.laidMetH_plain _ _ _ (by kernel_rfl)] at h
 letI:Tracks:=⟨false⟩
 refine zqS (by kernel_rfl) (fun g hg=> ?_) (fun g3 g4 h3 h4=> ?_)
 obtain rfl:0=g:=Aw ((show prog.globalNamed "internal/bytealg.MaxLen" =some 0 by kernel_rfl).symm.trans hg);exact Go.Proofs.cell_of_shapedOpen_int (zero:= #[.int .i64 0]) (t:=3) hsh (of_decide_eq_true (by kernel_rfl)) (by kernel_rfl) rfl (by kernel_rfl) (by kernel_rfl) underlying3;obtain rfl:1=g3:=Aw ((show prog.globalNamed "unicode/utf8.first" =some 1 by kernel_rfl).symm.trans h3);obtain rfl:2=g4:=Aw ((show prog.globalNamed "unicode/utf8.acceptRanges" =some 2 by kernel_rfl).symm.trans h4);exact zqY (i3:=1) (i4:=0) h (by kernel_rfl) (by kernel_rfl) (by kernel_rfl) (by kernel_rfl) (by kernel_rfl) (by kernel_rfl) underlying5 underlying311 underlying313 underlying314 (by kernel_rfl) (by kernel_rfl) (by kernel_rfl) rfl rfl
theorem zij {W:World} (ht:TabI prog (zbK W)) {a:Option Addr} {len cap:Nat} {H:Type} {enc:TypeId×Value->H} {d0:DataW H} {p:List MemPlace} (h:DataW.Trod enc prog W 0 (fun _=>true) true 22 (.slice a len cap) d0 p):
 Calls prog 3 #[.slice a len cap] W fun e W'=>e= .returned (.bool true)/\Below W.heap.size W W':=by
 obtain ⟨fuel,hf⟩:=h
 rcases open_ints underlying22 underlying3 zik hf with ⟨hcs,hx⟩|⟨a',len',cap',zs,hcs,_,hl,hm,hz,hx,hcell,hwz⟩
 simp [Value.cells] at hcs
 obtain ⟨rfl,rfl,rfl⟩:=hcs
 letI:Tracks:=⟨false⟩
 exact zqj (l:=[]) (zdq rfl) ht (.slice0 _ _ _)
 simp [Value.cells] at hcs
 obtain ⟨rfl,rfl,rfl⟩:=hcs;simp only [if_true] at hz
 letI:Tracks:=⟨false⟩
 exact zqj (l:=zs.take len) (zdq rfl) ht (zxi hcell (by omega) hl)
set_option maxRecDepth 100000 in
theorem zh3 (os:Os) (started:os.Started) (H:Type) (enc:TypeId×Value->H):
 ReturnsInHanded {} Tryz.checked os 3 .any (fun w args=>(Rows.topFreeHaveNoOwnerSpec.pre enc prog f3 Rows.topFreeHaveNoOwnerRow.domain false w args/\laidMetH prog Rows.topFreeHaveNoOwnerRow.laid w)/\sizedMet enc prog f3 (OpenSpec.ofChange Rows.topFreeHaveNoOwnerSpec) false w args)
  (Rows.topFreeHaveNoOwnerSpec.post enc prog f3 false true false false):=by
 refine zpw (C:=Tryz.checked) (X:=fun w _=>laidMetH prog Rows.topFreeHaveNoOwnerRow.laid w) (fun _ _ _ hh h=>h.of_heap hh) zjB started (by kernel_rfl) func3
  (ChangeSpec.witness_shaped (enc:=enc) (C:=Tryz.checked) (os:=os) (X:=fun w _=>laidMetH prog Rows.topFreeHaveNoOwnerRow.laid w) false (World.laidAll prog os Rows.topFreeHaveNoOwnerRow.laid) #[.slice none 0 0] 8 (World.laidAll_os _ _ _)
    (World.shaped_of_ZipB (by kernel_rfl) (by kernel_rfl)) (by kernel_rfl) (by kernel_rfl) (by kernel_rfl)
    (by rw [MakeChecks.laidMetH_plain _ _ _ (by kernel_rfl)];exact laidMet_laidAll _ (by kernel_rfl) (by kernel_rfl))) ?_
 intro W base args ds gs before hval0 hW hL hsh
 have hval: ∀(j:Nat) t v,f3.params[j]? =some t->args[j]? =some v->Value.okWide prog W .any base t v:=hval0
 have hW':=hW;obtain ⟨p,q,hA0,hV,rfl,_,_⟩:=hW;have hA:DataW.TrodAll enc prog W 0 (fun _=>true) true f3.params.toList args.toList ds p:=hA0;rw [Tryz.params3] at hA hval;obtain ⟨v0,d0,rfl,rfl,h0⟩:=trodAll_one hA;obtain ⟨rfl,rfl⟩:=trodVars_none hV;obtain ⟨a0,len,cap,rfl⟩:=okWide_slice underlying22 (hval 0 22 v0 rfl rfl);simp only [A7] at hW';have hlt: ∀x∈p,x.block<W.heap.size:=fun x hx=>by simpa using hW'.lt x hx
 refine (zij (zjH hL hsh) h0).mono fun e W' ⟨he,hb⟩=> ?_
 subst he;have hargs:DataW.Trod enc prog W' 0 (fun b=>decide (b<W.heap.size)) true 22 (.slice a0 len cap) d0 p:=
  Below.trod zec (by kernel_rfl) (of_decide_eq_true (by kernel_rfl)) h0 hb hlt
 exact ⟨_,rfl,_,_,_,[],p,[],hW',trodAll_mk1 (shut_bool underlying4 _),trodAll_mk1 hargs,rfl,hb.frame _,fun h=>by cases h⟩
theorem zjd:mapsRowed prog=true:=by kernel_rfl
theorem zi7:(Rows.topFreeHaveNoOwnerRow.inPlace==prog.inPlace 3)=true:=by kernel_rfl
theorem zjh:(Rows.topFreeHaveNoOwnerRow.unfollowed==prog.unfollowed 3)=true:=by kernel_rfl
theorem zjf:(Rows.topFreeHaveNoOwnerRow.recurses==prog.recurses 3)=true:=by kernel_rfl
theorem zji:(Rows.topFreeHaveNoOwnerRow.named==prog.varsNamed 3)=true:=by kernel_rfl
theorem zi9:joinedFacts prog 3 f3 Rows.topFreeHaveNoOwnerSpec Rows.topFreeHaveNoOwnerRow=true:=by
 simp only [joinedFacts,BJ]
 repeat' apply And.intro
 all_goals first
  |with_reducible exact zec
  |with_reducible exact zjd
  |with_reducible exact zi7
  |with_reducible exact zjh
  |with_reducible exact zjf
  |with_reducible exact zji
  |kernel_rfl
theorem zjb:false=prog.looks []:=by kernel_rfl
theorem zi3:false=Rows.topFreeHaveNoOwnerRow.goesBy prog:=Go.HL.goesBy_none (by kernel_rfl)
theorem zjj:Rows.topFreeHaveNoOwnerRow.wfByText (OpenSpec.ofChange Rows.topFreeHaveNoOwnerSpec)=true:=by kernel_rfl
theorem zjc:prog.mainIs=some ("6bb84e325d4e867d71a1f38fdbccfbe8fe11ea9bd4c7d6f93dbda81449c48441" |>fun h=>(true,h.toList)):=by kernel_rfl
theorem zjg:([22].all fun u=> !prog.wantsStandIn u)=true:=by kernel_rfl
theorem ze9:prog.funcNamed Rows.topFreeHaveNoOwnerRow.func=some 3:=by kernel_rfl
theorem zil:Rows.TopFreeHaveNoOwnerSaid:=
 OpenClaim.holds_of_wide 3 f3 rfl rfl rfl rfl rfl rfl rfl ⟨rfl,rfl,rfl,rfl,rfl⟩ rfl rfl rfl rfl rfl ze9 func3 zi9
  (of_decide_eq_true (by kernel_rfl)) (by unfold Func.isWrapper;first|(rw [if_pos (by decide+kernel)];kernel_rfl)|(rw [if_neg (by decide+kernel)];exact ⟨rfl,rfl⟩))
  (fun os started H enc _=>zh3 os started H enc)
theorem cardTopFreeHaveNoOwner:Rows.TopFreeHaveNoOwnerCardSaid:=
 Claim7.holds_tied_plain_at .later [] [.data,.pinned] true (true,"6bb84e325d4e867d71a1f38fdbccfbe8fe11ea9bd4c7d6f93dbda81449c48441") false zil (fun _ h=>by cases h) zjj (fun _ h=>by cases h) topFreeHaveNoOwner_row_tie rfl ⟨rfl,rfl⟩ zjc rfl
  (fun f fn hf hfn=>by
    obtain rfl:f=3:=Aw (ze9.symm.trans hf)|>.symm
    obtain rfl:fn=f3:=(Aw (func3.symm.trans hfn)).symm;exact ⟨zjb,fun j t ht=>by
     rw [Tryz.params3] at ht;have hm:t∈[22]:=by simpa using Array.mem_of_getElem? ht
     have hall:=zjg;exact (show prog.wantsStandIn t=false by simpa using List.all_eq_true.1 hall t hm)⟩)
  zi3
end
end Go.Proofs.YtaihpegdcgdcgaaGreatDoor
