/- The statement is proved: the card of the law, out of its function's contract; no conditions. -/
import Derived.Test.YtpgopgjleokciaaGreatDoorQTopPointsAndMissed5
import Derived.Calls
import Derived.Handed
import Derived.LaidMore
import Derived.Lay
import Derived.Lib.LaidU8
import Derived.OpenShut
import Derived.ProofKit
import Derived.SevenTiedAt
import Derived.Shelf.Vars
import Derived.Stop.Joined
import Derived.Test.YtpgopgjleokciaaGreatDoorCards
import Derived.Test.YtpgopgjleokciaaGreatDoorTie
import GoSem.ClaimGoes
set_option linter.unusedVariables false
set_option linter.unusedSimpArgs false
set_option maxHeartbeats 16000000
namespace Go.Proofs.YtpgopgjleokciaaGreatDoor
set_option maxRecDepth 100000
set_option linter.unusedVariables false
set_option linter.unusedSimpArgs false
section
open Go.Proofs.Tryz
open Go.HL
theorem zcH [Tracks] {b:Nat} {l:List Int} {a:Nat} (ha:a<=700000):Con prog 35 [pAt b] [St b l a] (fun x M'=> ∃k a',x=zca k/\GoodMds k/\a'<=a+100/\M'=[St b l a']):=by
 refine uOb func35 ntmps35 ?_;refine gz6 ?_;refine ze (zL 7) ?_;refine gz2 ?_;refine dq (za (hs:=[_,_,_]) zq ty9 rfl rfl (by decide) (by decide) rfl) ?_;refine dq (zax (f:=HVal.str) (l:=mp3) zq rfl) ?_;refine gz3 ?_;refine uV2 [3,1,5,2,8,2,13,36] (fun (k:Nat) (q:GL MendS)=>[(13,.int .i64 k),(3,.raw q.u)]) (fun (k:Nat) (q:GL MendS)=>[St b l q.a,.arr q.u 7 (q.out.map zbY)]) (fun (k:Nat) (q:GL MendS)=>k<=mp3.length/\(GLok zhM (8*k) (a+24*k) q)) (fun (k:Nat) (q:GL MendS)=>mp3.length-k) (0) (⟨.slice none 0 0,[],a⟩) ?_ ?_ ?_ ?_;exact ⟨by decide,⟨by simp,by simp,uD⟩⟩;exact ⟨rfl,rfl,trivial⟩;exact uP
 intro k q hinv
 obtain ⟨hk,hq⟩:=hinv;have hk3:mp3.length=3:=rfl;obtain ⟨u,out,a2⟩:=q;obtain ⟨g1,g2,g3⟩:=id hq;dsimp only at g1 g2 g3;refine gz4 ?_;refine uCo (fun h1=> ?_) fun h2=> ?_
 obtain ⟨x,hx⟩: ∃x,mp3[k]? =some x:=⟨_,Aa h1⟩
 have hdx:=zk hx;refine gz5 ?_;refine dq (zA (f:=HVal.str) (l:=mp3) (j:=k) (a:=x) zq ty9 rfl rfl rfl hx) ?_;refine gz7 ?_;refine uV2 [3,1,6,1,8,2,17,31] (fun (w:Nat) (q2:GL MendS)=>[(6,.int .i64 ((w:Int)+1)),(3,.raw q2.u)]) (fun (w:Nat) (q2:GL MendS)=>[St b l q2.a,.arr q2.u 7 (q2.out.map zbY)]) (fun (w:Nat) (q2:GL MendS)=>w<=2/\GLok zhM (8*k+4*w) (a+24*k+12*w) q2) (fun (w:Nat) (q2:GL MendS)=>2-w) (0) (⟨u,out,a2⟩) ?_ ?_ ?_ ?_;exact ⟨by omega,hq.mono uO uO⟩;exact ⟨zP uO,rfl,trivial⟩;exact uP
 intro w q2 hinv
 obtain ⟨hw,hq2⟩:=hinv;obtain ⟨u,out,a2⟩:=q2;obtain ⟨g1,g2,g3⟩:=id hq2;dsimp only at g1 g2 g3;refine gz5 ?_;refine uCo (fun h3=> ?_) fun h4=> ?_
 refine gz5 ?_;refine dq (za (hs:=[_,_]) zq ty9 rfl rfl (by decide) (by decide) rfl) ?_;refine dq (zax (f:=HVal.str) (l:=ms2) zq rfl) ?_;refine gz3 ?_;refine uV2 [3,1,8,2,23,25] (fun (j:Nat) (q3:GL MendS)=>[(23,.int .i64 j),(3,.raw q3.u)]) (fun (j:Nat) (q3:GL MendS)=>[St b l q3.a,.arr q3.u 7 (q3.out.map zbY)]) (fun (j:Nat) (q3:GL MendS)=>j<=ms2.length/\(GLok zhM (8*k+4*w+2*j) (a+24*k+12*w+6*j) q3)) (fun (j:Nat) (q3:GL MendS)=>ms2.length-j) (0) (⟨u,out,a2⟩) ?_ ?_ ?_ ?_;exact ⟨by decide,hq2.mono uO uO⟩;exact ⟨rfl,rfl,trivial⟩;exact uP
 intro j q3 hinv
 obtain ⟨hj,hq3⟩:=hinv;have hj2:ms2.length=2:=rfl;obtain ⟨u,out,a2⟩:=q3;obtain ⟨g1,g2,g3⟩:=id hq3;dsimp only at g1 g2 g3;refine gz4 ?_;refine uCo (fun h5=> ?_) fun h6=> ?_
 obtain ⟨z,hz⟩: ∃z,ms2[j]? =some z:=⟨_,Aa h5⟩
 have hdz:=zk hz;refine gz5 ?_;refine dq (zA (f:=HVal.str) (l:=ms2) (j:=j) (a:=z) zq ty9 rfl rfl rfl hz) ?_;refine gz7 ?_;refine uV2 [3,1,9,1,27,20] (fun (v:Nat) (q4:GL MendS)=>[(9,.int .i64 ((v:Int)+1)),(3,.raw q4.u)]) (fun (v:Nat) (q4:GL MendS)=>[St b l q4.a,.arr q4.u 7 (q4.out.map zbY)]) (fun (v:Nat) (q4:GL MendS)=>v<=2/\GLok zhM (8*k+4*w+2*j+v) (a+24*k+12*w+6*j+3*v) q4) (fun (v:Nat) (q4:GL MendS)=>2-v) (0) (⟨u,out,a2⟩) ?_ ?_ ?_ ?_;exact ⟨by omega,hq3.mono uO uO⟩;exact ⟨zP uO,rfl,trivial⟩;exact uP
 intro v q4 hinv
 obtain ⟨hv,hq4⟩:=hinv;obtain ⟨u,out,a2⟩:=q4;obtain ⟨g1,g2,g3⟩:=id hq4;dsimp only at g1 g2 g3;refine gz5 ?_;refine uCo (fun h7=> ?_) fun h8=> ?_
 refine gz6 ?_;refine de rfl (uCx 0 zeB rfl rfl (zJ uS uS) ?_)
 rintro _ _ ⟨y32,rfl,rfl⟩;refine gz1 ?_;refine uCo (fun h9=> ?_) fun h10=> ?_
 refine gz6 ?_;refine dq (za (hs:=[_,_,_]) zac ty3 rfl rfl (by decide) (by decide) rfl) ?_;refine de rfl (uCx 0 ca7 rfl rfl (zb (L:=[_,_,_]) uS uS uS) ?_)
 rintro _ _ ⟨y39,rfl,hy39,rfl⟩;refine gz1 ?_;refine dq (za (hs:=[_,_,_]) zac ty3 rfl rfl (by decide) (by decide) rfl) ?_;refine de rfl (uCx 0 ca7 rfl rfl (zb (L:=[_,_,_]) uS uS uS) ?_)
 rintro _ _ ⟨y42,rfl,hy42,rfl⟩;refine gz1 ?_;refine dq (zB (cs:=[_,_,_,_,_,_,_]) zbq zGA rfl) ?_;refine dq (za (hs:=[_]) zgO zbq rfl rfl (by decide) (by decide) rfl) ?_;refine de rfl (zI (i:=1) zgO zbq rfl rfl rfl rfl rfl (by simp [zaq,zd,zaB,za6]) uSo fun v46=> ?_)
 refine gz9 ?_;exact ⟨v+1,⟨v46,out++[(⟨x,(w:Int)+1,z,y39,y42,(v:Int)+1,[98,111,115,115]⟩:MendS)],a2+1+1+1⟩,⟨by omega,hq4.add (x:=(⟨x,(w:Int)+1,z,y39,y42,(v:Int)+1,[98,111,115,115]⟩:MendS)) ⟨zDQ x (Ab hx),zDR z (Ab hz),by unfold Sh;simp⟩ uO⟩,uD,⟨zP uO,rfl,trivial⟩,uK,zo (by dsimp only;rw [Ay];rfl)⟩;refine gz8 ?_;exact ⟨v+1,⟨u,out,a2+1⟩,⟨by omega,hq4.same uO⟩,uD,⟨zP uO,rfl,trivial⟩,uK,uP⟩;refine gz2 ?_;refine zN ?_;refine gz7 ?_;exact ⟨j+1,⟨u,out,a2⟩,⟨by omega,hq4.mono uO uO⟩,uD,⟨rfl,rfl,trivial⟩,uK,uP⟩;have hnj:ms2.length<=j:=by omega
 obtain rfl:j=ms2.length:=by omega
 refine gz2 ?_;refine zN ?_;refine gz8 ?_;exact ⟨w+1,⟨u,out,a2⟩,⟨by omega,hq3.mono uO uO⟩,uD,⟨zP uO,rfl,trivial⟩,uK,uP⟩;refine gz2 ?_;refine zN ?_;refine gz7 ?_;exact ⟨k+1,⟨u,out,a2⟩,⟨by omega,hq2.mono uO uO⟩,uD,⟨rfl,rfl,trivial⟩,uK,uP⟩;have hnk:mp3.length<=k:=by omega
 obtain rfl:k=mp3.length:=by omega
 refine gz2 ?_;refine zN ?_;refine gz2 ?_;refine uVj [10,1,49,59] (fun (q5:List MendS×Nat)=>[]) (fun (q5:List MendS×Nat)=>[St b l q5.2,.arr u 7 (q5.1.map zbY)]) (fun (q5:List MendS×Nat)=>q5.1.length<=24/\(∀x∈q5.1,zhM x)/\q5.2<=a+100) ?_ ?_
 skip
 refine gz2 ?_;refine de rfl (zaX (i:=1) zgO rfl rfl ?_)
 refine gz3 ?_;refine dgx (fun x M'=> ∃(y:Bool) (a3:Nat),x= .bool y/\a3<=a2+1/\M'=[St b l a3,.arr u 7 (out.map zbY)]) rfl rfl (fun hc=>⟨_,false,a2,rfl,by omega,rfl⟩) (fun hc=>⟨_,OpenTo.upd (t:=53) rfl (hc) (OpenTo.refl _),uCx 0 zeB rfl rfl (zJ (a:=a2) uO uO) (fun h M' hh=>by
  obtain ⟨y,h1,h2⟩:=hh;exact ⟨y,a2+1,h1,by omega,by rw [h2];rfl⟩)⟩) ?_
 rintro _ _ ⟨y,a3,rfl,ha3,rfl⟩;refine gz2 ?_;refine uCo (fun h11=> ?_) fun h12=> ?_
 have ho0:0<out.length:=by simp_all
 refine zcS (i:=1) rfl (fun h0 he=> ?_) (fun ob off cap hv hcap=> ?_)
 exfalso;have:=congrArg List.length he;simp at this;subst this;simp at ho0
 subst hv;refine gz4 ?_;refine de rfl (zaX (i:=1) zgO rfl rfl ?_)
 refine de rfl (uCx 0 zhi rfl rfl (zX uS uS) ?_)
 rintro _ _ ⟨y60,rfl,hy60,rfl⟩;refine dq (zx (j:=y60) zgO zbq rfl rfl rfl uSo) ?_;refine gz2 ?_;obtain ⟨x,hx⟩: ∃x,out[y60]? =some x:=⟨_,Aa uO⟩
 refine zbk (fun M=> ∃i:Nat,M[i]? =some (.arr (.slice (some ⟨ob,off,none⟩) (out.map zbY).length cap) 7 (out.map zbY))) [9,16,23,30] mixed ?_;refine gz9 ?_;refine uM 9 rfl ⟨1,rfl⟩ (fun M hM=>by obtain ⟨i,hi⟩:=hM;exact zat (i:=i) (j:=y60) 0 ty9 rfl uO hi hx rfl rfl ⟨rfl,rfl⟩) ?_;refine uB 10 rfl (za (hs:=[_,_,_]) zq ty9 rfl rfl (by decide) (by decide) rfl) ?_;refine uA 12 ?_;refine gz3 ?_;refine uM 16 rfl ⟨1,rfl⟩ (fun M hM=>by obtain ⟨i,hi⟩:=hM;exact zat (i:=i) (j:=y60) 1 ty3 rfl uO hi hx rfl rfl ⟨rfl,rfl⟩) ?_;refine uB 17 rfl (za (hs:=[_,_]) zac ty3 rfl rfl (by decide) (by decide) rfl) ?_;refine uA 19 ?_;refine gz3 ?_;refine uM 23 rfl ⟨1,rfl⟩ (fun M hM=>by obtain ⟨i,hi⟩:=hM;exact zat (i:=i) (j:=y60) 3 ty3 rfl uO hi hx rfl rfl ⟨rfl,rfl⟩) ?_;refine uB 24 rfl (za (hs:=[_,_]) zac ty3 rfl rfl (by decide) (by decide) rfl) ?_;refine uA 26 ?_;refine gz3 ?_;refine uM 30 rfl ⟨1,rfl⟩ (fun M hM=>by obtain ⟨i,hi⟩:=hM;exact zat (i:=i) (j:=y60) 5 ty3 rfl uO hi hx rfl rfl ⟨rfl,rfl⟩) ?_;refine uB 31 rfl (za (hs:=[_,_,_]) zac ty3 rfl rfl (by decide) (by decide) rfl) ?_;refine uA 33 ?_;refine uB 34 rfl (za (hs:=[_,_]) zq ty9 rfl rfl (by decide) (by decide) rfl) ?_;refine uF 11 ?_;refine zt rfl (uCx 0 ca5 rfl rfl (zg (L:=[_,_,_]) uS uS uS) ?_)
 rintro _ _ ⟨y73,rfl,hy73,rfl⟩;refine ⟨uE,?_⟩
 refine uF 18 ?_;refine zt rfl (uCx 0 ca7 rfl rfl (zb (L:=[_,_]) uS uS uS) ?_)
 rintro _ _ ⟨y80,rfl,hy80,rfl⟩;refine ⟨uE,?_⟩
 refine uF 25 ?_;refine zt rfl (uCx 0 ca7 rfl rfl (zb (L:=[_,_]) uS uS uS) ?_)
 rintro _ _ ⟨y87,rfl,hy87,rfl⟩;refine ⟨uE,?_⟩
 refine uF 32 ?_;refine zt rfl (uCx 0 ca7 rfl rfl (zb (L:=[_,_,_]) uS uS uS) ?_)
 rintro _ _ ⟨y94,rfl,hy94,rfl⟩;refine ⟨uE,?_⟩
 refine uF 35 ?_;refine zt rfl (uCx 0 ca5 rfl rfl (zg (L:=[_,_]) uS uS uS) ?_)
 rintro _ _ ⟨y97,rfl,hy97,rfl⟩;refine ⟨uE,?_⟩
 refine gz2 ?_;refine uF 38 ?_;refine zz (zQ (i:=1) (j:=y60) (f:=0) (y:=zbY x) (y':=zbY ⟨y73,x.Week,x.Stat,x.Count,x.At,x.Version,x.By⟩) ty9 rfl uO rfl rfl (za3 hx) rfl rfl (by simp [zd]) rfl ?_)
 refine ⟨uE,?_⟩
 refine gz2 ?_;refine uF 41 ?_;refine zz (zQ (i:=1) (j:=y60) (f:=1) (y:=zbY ⟨y73,x.Week,x.Stat,x.Count,x.At,x.Version,x.By⟩) (y':=zbY ⟨y73,y80,x.Stat,x.Count,x.At,x.Version,x.By⟩) ty3 rfl uO rfl rfl (zaM (za3 hx)) rfl rfl (by simp [zd]) rfl ?_)
 refine ⟨uE,?_⟩
 refine gz2 ?_;refine uF 44 ?_;refine zz (zQ (i:=1) (j:=y60) (f:=3) (y:=zbY ⟨y73,y80,x.Stat,x.Count,x.At,x.Version,x.By⟩) (y':=zbY ⟨y73,y80,x.Stat,y87,x.At,x.Version,x.By⟩) ty3 rfl uO rfl rfl (zaM (zaM (za3 hx))) rfl rfl (by simp [zd]) rfl ?_)
 refine ⟨uE,?_⟩
 refine gz2 ?_;refine uF 47 ?_;refine zz (zQ (i:=1) (j:=y60) (f:=5) (y:=zbY ⟨y73,y80,x.Stat,y87,x.At,x.Version,x.By⟩) (y':=zbY ⟨y73,y80,x.Stat,y87,x.At,y94,x.By⟩) ty3 rfl uO rfl rfl (zaM (zaM (zaM (za3 hx)))) rfl rfl (by simp [zd]) rfl ?_)
 refine ⟨uE,?_⟩
 refine gz2 ?_;refine uF 50 ?_;refine zz (zQ (i:=1) (j:=y60) (f:=6) (y:=zbY ⟨y73,y80,x.Stat,y87,x.At,y94,x.By⟩) (y':=zbY ⟨y73,y80,x.Stat,y87,x.At,y94,y97⟩) ty9 rfl uO rfl rfl (zaM (zaM (zaM (zaM (za3 hx))))) rfl rfl (by simp [zd]) rfl ?_)
 refine ⟨uE,?_⟩
 refine gz1 ?_;exact ⟨(out.set y60 ⟨y73,y80,x.Stat,y87,x.At,y94,y97⟩,a3+1+1+1+1+1+1),⟨by simp;omega,zfx (P:=zhM) g2 (by
  have hgx:=g2 x (Ab hx);exact ⟨by simp at hy73;rcases hy73 with rfl|rfl|rfl;exact hgx.1;exact zq4;(unfold Sh;simp),hgx.2.1,by simp at hy97;rcases hy97 with rfl|rfl<;>(unfold Sh;simp)⟩),uD⟩,trivial,uK,uP⟩
 refine gz1 ?_;exact ⟨(out,a3),⟨uD,g2,uD⟩,trivial,uK,uP⟩
 intro q5 hq5
 obtain ⟨k1,a4⟩:=q5;dsimp only at hq5;obtain ⟨q1,q2,q3⟩:=hq5;refine gz5 ?_;exact zav (zaR 2 (i:=1) rfl rfl) rfl ⟨k1,a4,rfl,⟨by omega,q2⟩,by omega,rfl⟩
end
section
open Go.Proofs.Tryz
open Go.HL
theorem zhL [Tracks] {b:Nat} {l:List Int} {a:Nat} (ha:a<=500000):Con prog 14 [pAt b] [St b l a] (fun x M'=> ∃k v a',x=zi9 k v/\BookG k/\a'<=a+2000/\M'=[.arr v 5 (k.Choices.map zR),St b l a']):=by
 refine zaC func14 rfl ntmps14 rfl rfl ?_;refine gz1 ?_;refine de rfl (zj zbM rfl fun b2=> ?_)
 refine gz3 ?_
 focus first
 |refine de rfl (uCx 0 zw7 rfl rfl (zce uS) ?_)
 |refine de rfl (uCx 1 zw7 rfl rfl (zce uS) ?_)
 |refine de rfl (uCx 2 zw7 rfl rfl (zce uS) ?_)
 |refine de rfl (uCx 3 zw7 rfl rfl (zce uS) ?_)
 rintro _ _ ⟨g13,a13,rfl,hg13,ha13,rfl⟩;refine gz1 ?_
 focus first
 |refine de rfl (uCx 0 zw8 rfl rfl (zcZ uS) ?_)
 |refine de rfl (uCx 1 zw8 rfl rfl (zcZ uS) ?_)
 |refine de rfl (uCx 2 zw8 rfl rfl (zcZ uS) ?_)
 |refine de rfl (uCx 3 zw8 rfl rfl (zcZ uS) ?_)
 rintro _ _ ⟨p15,a15,rfl,hp15,ha15,rfl⟩;refine gz1 ?_
 focus first
 |refine de rfl (uCx 0 zw9 rfl rfl (zcH uS) ?_)
 |refine de rfl (uCx 1 zw9 rfl rfl (zcH uS) ?_)
 |refine de rfl (uCx 2 zw9 rfl rfl (zcH uS) ?_)
 |refine de rfl (uCx 3 zw9 rfl rfl (zcH uS) ?_)
 rintro _ _ ⟨m17,a17,rfl,hm17,ha17,rfl⟩;refine dq (zGP zbM pl43) ?_;refine de rfl (zj zbM rfl fun b3=> ?_)
 focus first
 |refine de0 (uY 0 ?_)
 |refine de0 (uY 1 ?_)
 |refine de0 (uY 2 ?_)
 |refine de0 (uY 3 ?_)
 refine zaw ?_
 focus first
 |refine de rfl (uCx 0 ca6 rfl rfl (zD uS uS uS uS) ?_)
 |refine de rfl (uCx 1 ca6 rfl rfl (zD uS uS uS uS) ?_)
 |refine de rfl (uCx 2 ca6 rfl rfl (zD uS uS uS uS) ?_)
 |refine de rfl (uCx 3 ca6 rfl rfl (zD uS uS uS uS) ?_)
 rintro _ _ ⟨y20,rfl,hy20,rfl⟩;refine gz2 ?_;refine ze (zL 4) ?_;refine gz1 ?_;refine uV3 [5,1,21,24] (fun (n:Nat) (at1:Int) (q:GL MoveS)=>[(21,.int .i64 (n:Int)),(5,.int .i64 at1)]) (fun (n:Nat) (at1:Int) (q:GL MoveS)=>[St b l q.a,.cells b2 zjq,.cells b3 (bkC g13 (.raw q.u) (zbE p15) (zca m17) (.raw (.slice none 0 0)) (.raw (.slice none 0 0))),.arr q.u 4 (q.out.map zdq)]) (fun (n:Nat) (at1:Int) (q:GL MoveS)=>(n:Int)<=y20/\(0<=at1/\at1<=20*n)/\GLok MovB n (a17+1+4*n) q) (fun (n:Nat) (at1:Int) (q:GL MoveS)=>y20.toNat-n) (0) (0) (⟨.slice none 0 0,[],a17+1⟩) ?_ ?_ ?_ ?_;exact ⟨by omega,by omega,⟨by simp,by simp,uD⟩⟩;exact ⟨rfl,rfl,trivial⟩;exact by repeat (focus first|exact List.Perm.nil|refine zaA 0 rfl ?_|refine zaA 1 rfl ?_|refine zaA 2 rfl ?_|refine zaA 3 rfl ?_|refine zaA 4 rfl ?_|refine zaA 5 rfl ?_|(refine zas 0 rfl ?hq ?_;(case hq=>simp [zaE,zd];done))|(refine zas 1 rfl ?hq ?_;(case hq=>simp [zaE,zd];done))|(refine zas 2 rfl ?hq ?_;(case hq=>simp [zaE,zd];done))|(refine zas 3 rfl ?hq ?_;(case hq=>simp [zaE,zd];done))|(refine zas 4 rfl ?hq ?_;(case hq=>simp [zaE,zd];done))|(refine zas 5 rfl ?hq ?_;(case hq=>simp [zaE,zd];done))|fail)
 intro n at1 q hinv
 obtain ⟨hn,hat,hq⟩:=hinv;obtain ⟨u,out,a1⟩:=q;obtain ⟨g1,g2,g3⟩:=id hq;dsimp only at g1 g2 g3;refine gz4 ?_;refine uCo (fun h1=> ?_) fun h2=> ?_
 refine gz7 ?_;refine dq (za (hs:=[_,_,_,_]) zac ty3 rfl rfl (by decide) (by decide) rfl) ?_
 focus first
 |refine de rfl (uCx 0 ca7 rfl rfl (zb (L:=[_,_,_,_]) uS uS uS) ?_)
 |refine de rfl (uCx 1 ca7 rfl rfl (zb (L:=[_,_,_,_]) uS uS uS) ?_)
 |refine de rfl (uCx 2 ca7 rfl rfl (zb (L:=[_,_,_,_]) uS uS uS) ?_)
 |refine de rfl (uCx 3 ca7 rfl rfl (zb (L:=[_,_,_,_]) uS uS uS) ?_)
 rintro _ _ ⟨y26,rfl,hy26,rfl⟩;refine dq (zaZ rfl rfl (by simp at hy26;omega) (by simp at hy26;omega)) ?_;refine gz2 ?_;refine zbk (fun M=> ∃i:Nat,M[i]? =some (.cells b3 (bkC g13 (.raw u) (zbE p15) (zca m17) (.raw (.slice none 0 0)) (.raw (.slice none 0 0))))) [1] mixed ?_;refine gz1 ?_;refine uM 1 rfl ⟨2,rfl⟩ (fun M hM=>by obtain ⟨i,hi⟩:=hM;exact zar (i:=i) (h:= .raw u) zb9 rfl hi (.inl ⟨rfl,rfl⟩) ⟨rfl,rfl⟩) ?_;refine gz2 ?_;refine uB 4 rfl (za (hs:=[_,_,_,_,_,_]) zac ty3 rfl rfl (by decide) (by decide) rfl) ?_;refine uA 6 ?_;refine uB 7 rfl (za (hs:=[_,_]) zq ty9 rfl rfl (by decide) (by decide) rfl) ?_;refine uA 9 ?_;refine uB 10 rfl (za (hs:=[_,_,_,_,_]) zq ty9 rfl rfl (by decide) (by decide) rfl) ?_;refine uF 5 ?_
 focus first
 |refine zt rfl (uCx 0 ca7 rfl rfl (zb (L:=[_,_,_,_,_,_]) uS uS uS) ?_)
 |refine zt rfl (uCx 1 ca7 rfl rfl (zb (L:=[_,_,_,_,_,_]) uS uS uS) ?_)
 |refine zt rfl (uCx 2 ca7 rfl rfl (zb (L:=[_,_,_,_,_,_]) uS uS uS) ?_)
 |refine zt rfl (uCx 3 ca7 rfl rfl (zb (L:=[_,_,_,_,_,_]) uS uS uS) ?_)
 rintro _ _ ⟨y33,rfl,hy33,rfl⟩;refine ⟨uE,?_⟩
 refine uF 8 ?_
 focus first
 |refine zt rfl (uCx 0 ca5 rfl rfl (zg (L:=[_,_]) uS uS uS) ?_)
 |refine zt rfl (uCx 1 ca5 rfl rfl (zg (L:=[_,_]) uS uS uS) ?_)
 |refine zt rfl (uCx 2 ca5 rfl rfl (zg (L:=[_,_]) uS uS uS) ?_)
 |refine zt rfl (uCx 3 ca5 rfl rfl (zg (L:=[_,_]) uS uS uS) ?_)
 rintro _ _ ⟨y36,rfl,hy36,rfl⟩;refine ⟨uE,?_⟩
 refine uF 11 ?_
 focus first
 |refine zt rfl (uCx 0 ca5 rfl rfl (zg (L:=[_,_,_,_,_]) uS uS uS) ?_)
 |refine zt rfl (uCx 1 ca5 rfl rfl (zg (L:=[_,_,_,_,_]) uS uS uS) ?_)
 |refine zt rfl (uCx 2 ca5 rfl rfl (zg (L:=[_,_,_,_,_]) uS uS uS) ?_)
 |refine zt rfl (uCx 3 ca5 rfl rfl (zg (L:=[_,_,_,_,_]) uS uS uS) ?_)
 rintro _ _ ⟨y39,rfl,hy39,rfl⟩;refine ⟨uE,?_⟩
 refine uB 12 rfl (zB (cs:=[_,_,_,_]) zG zGv rfl) ?_;refine uB 13 rfl (za (hs:=[_]) zb9 zG rfl rfl (by decide) (by decide) rfl) ?_;refine uF 14 ?_
 focus first
 |refine zt rfl (zI (i:=0) zb9 zG rfl rfl rfl rfl rfl (by simp [zaq,zd]) (by first|omega|(simp;omega)) fun v42=> ?_)
 |refine zt rfl (zI (i:=1) zb9 zG rfl rfl rfl rfl rfl (by simp [zaq,zd]) (by first|omega|(simp;omega)) fun v42=> ?_)
 |refine zt rfl (zI (i:=2) zb9 zG rfl rfl rfl rfl rfl (by simp [zaq,zd]) (by first|omega|(simp;omega)) fun v42=> ?_)
 |refine zt rfl (zI (i:=3) zb9 zG rfl rfl rfl rfl rfl (by simp [zaq,zd]) (by first|omega|(simp;omega)) fun v42=> ?_)
 refine ⟨uE,?_⟩
 refine gz1 ?_;refine uF 16 ?_
 focus first
 |refine zz (uY 0 ?_)
 |refine zz (uY 1 ?_)
 |refine zz (uY 2 ?_)
 |refine zz (uY 3 ?_)
 refine ⟨uE,?_⟩
 refine gz7 ?_;exact ⟨n+1,at1+y26,⟨v42,out++[(⟨at1+y26,y33,y36,y39⟩:MoveS)],a1+1+1+1+1⟩,⟨by omega,by simp at hy26;omega,hq.add (x:=(⟨at1+y26,y33,y36,y39⟩:MoveS)) ⟨by simp at hy26;dsimp only;omega,by simp at hy33;dsimp only;omega⟩ uO⟩,uD,⟨rfl,rfl,trivial⟩,uK,uQ⟩;refine gz2 ?_;refine zcK ?_;refine gz4 ?_
 focus first
 |refine de rfl (uZ 0 ?_)
 |refine de rfl (uZ 1 ?_)
 |refine de rfl (uZ 2 ?_)
 |refine de rfl (uZ 3 ?_)
 refine de rfl (uCx 3 ca36 rfl rfl (zqy (l:=out) g2 uO) ?_)
 rintro _ _ ⟨Z,rfl,hzp,rfl⟩;have hzl:=hzp.length_eq;refine gz3 ?_
 focus first
 |refine de rfl (uZ 0 ?_)
 |refine de rfl (uZ 1 ?_)
 |refine de rfl (uZ 2 ?_)
 |refine de rfl (uZ 3 ?_)
 refine de rfl (uCx 0 ca38 rfl rfl (zgJ (l:=Z) uO) ?_)
 rintro _ _ ⟨u50,rfl,rfl⟩;refine gz1 ?_
 focus first
 |refine de0 (uY 0 ?_)
 |refine de0 (uY 1 ?_)
 |refine de0 (uY 2 ?_)
 |refine de0 (uY 3 ?_)
 refine gz1 ?_;have hul:=zs6 Z none;have hub: ∀x∈zan none Z,MovB x:=fun x hx=>g2 x (hzp.mem_iff.1 (zoA Z none x hx))
 refine ze (Ghost.perm (M':=[St b l a1,.cells b2 zjq,.cells b3 (bkC g13 (.raw u50) (zbE p15) (zca m17) (.raw (.slice none 0 0)) (.raw (.slice none 0 0))),.arr u50 4 ((zan none Z).map zdq)]) uQ) ?_;refine ze (zk7 (i:=3) (k:=2) (j:=14) rfl rfl rfl) ?_;refine gz4 ?_
 focus first
 |refine de rfl (uZ 0 ?_)
 |refine de rfl (uZ 1 ?_)
 |refine de rfl (uZ 2 ?_)
 |refine de rfl (uZ 3 ?_)
 refine de rfl (uCx 0 ca39 rfl rfl (ziX (a:=a1) (L:=g13.Players) uO (by have:=hg13.pl;omega)) ?_)
 rintro _ _ ⟨k56,a56,rfl,hk56,ha56,rfl⟩;refine gz1 ?_
 focus first
 |refine de0 (uY 0 ?_)
 |refine de0 (uY 1 ?_)
 |refine de0 (uY 2 ?_)
 |refine de0 (uY 3 ?_)
 refine gz5 ?_
 focus first
 |refine de rfl (uZ 0 ?_)
 |refine de rfl (uZ 1 ?_)
 |refine de rfl (uZ 2 ?_)
 |refine de rfl (uZ 3 ?_)
 refine dq (zax (f:=HVal.str) (l:=g13.Teams) zq rfl) ?_;refine gz2 ?_;refine ze (zL 5) ?_;refine gz1 ?_;refine uV2 [7,4,62,54] (fun (k:Nat) (q:GL ChoiceS)=>[(62,.int .i64 k)]) (fun (k:Nat) (q:GL ChoiceS)=>[St b l q.a,.cells b2 zjq,.cells b3 (bkC g13 (zck (zan none Z)) (zbE p15) (zca m17) (zcc k56) (.raw q.u)),.arr q.u 5 (q.out.map zR)]) (fun (k:Nat) (q:GL ChoiceS)=>k<=g13.Teams.length/\(GLok GoodC4 (4*k) (a56+28*k) q)) (fun (k:Nat) (q:GL ChoiceS)=>g13.Teams.length-k) (0) (⟨.slice none 0 0,[],a56⟩) ?_ ?_ ?_ ?_;exact ⟨Ad _,⟨by simp,by simp,uD⟩⟩;exact ⟨rfl,trivial⟩;exact by repeat (focus first|exact List.Perm.nil|refine zaA 0 rfl ?_|refine zaA 1 rfl ?_|refine zaA 2 rfl ?_|refine zaA 3 rfl ?_|refine zaA 4 rfl ?_|refine zaA 5 rfl ?_|(refine zas 0 rfl ?hq ?_;(case hq=>simp [zaE,zd];done))|(refine zas 1 rfl ?hq ?_;(case hq=>simp [zaE,zd];done))|(refine zas 2 rfl ?hq ?_;(case hq=>simp [zaE,zd];done))|(refine zas 3 rfl ?hq ?_;(case hq=>simp [zaE,zd];done))|(refine zas 4 rfl ?hq ?_;(case hq=>simp [zaE,zd];done))|(refine zas 5 rfl ?hq ?_;(case hq=>simp [zaE,zd];done))|fail)
 intro k q hinv
 obtain ⟨hk,hq⟩:=hinv;obtain ⟨u,out,a2⟩:=q;obtain ⟨g1,g2,g3⟩:=id hq;dsimp only at g1 g2 g3;have htm:=hg13.tm;refine gz4 ?_;refine uCo (fun h3=> ?_) fun h4=> ?_
 obtain ⟨x,hx⟩: ∃x,g13.Teams[k]? =some x:=⟨_,Aa h3⟩
 have hdx:=zk hx;refine gz5 ?_;refine dq (zA (f:=HVal.str) (l:=g13.Teams) (j:=k) (a:=x) zq ty9 rfl rfl rfl hx) ?_;refine gz7 ?_;refine uV2 [8,3,66,49] (fun (w:Nat) (q2:GL ChoiceS)=>[(8,.int .i64 ((w:Int)+1))]) (fun (w:Nat) (q2:GL ChoiceS)=>[St b l q2.a,.cells b2 zjq,.cells b3 (bkC g13 (zck (zan none Z)) (zbE p15) (zca m17) (zcc k56) (.raw q2.u)),.arr q2.u 5 (q2.out.map zR)]) (fun (w:Nat) (q2:GL ChoiceS)=>w<=2/\GLok GoodC4 (4*k+2*w) (a56+28*k+14*w) q2) (fun (w:Nat) (q2:GL ChoiceS)=>2-w) (0) (⟨u,out,a2⟩) ?_ ?_ ?_ ?_;exact ⟨by omega,hq.mono uO uO⟩;exact ⟨zP uO,trivial⟩;exact by repeat (focus first|exact List.Perm.nil|refine zaA 0 rfl ?_|refine zaA 1 rfl ?_|refine zaA 2 rfl ?_|refine zaA 3 rfl ?_|refine zaA 4 rfl ?_|refine zaA 5 rfl ?_|(refine zas 0 rfl ?hq ?_;(case hq=>simp [zaE,zd];done))|(refine zas 1 rfl ?hq ?_;(case hq=>simp [zaE,zd];done))|(refine zas 2 rfl ?hq ?_;(case hq=>simp [zaE,zd];done))|(refine zas 3 rfl ?hq ?_;(case hq=>simp [zaE,zd];done))|(refine zas 4 rfl ?hq ?_;(case hq=>simp [zaE,zd];done))|(refine zas 5 rfl ?hq ?_;(case hq=>simp [zaE,zd];done))|fail)
 intro w q2 hinv
 obtain ⟨hw,hq2⟩:=hinv;obtain ⟨u,out,a2⟩:=q2;obtain ⟨g1,g2,g3⟩:=id hq2;dsimp only at g1 g2 g3;refine gz5 ?_;refine uCo (fun h5=> ?_) fun h6=> ?_
 refine gz8 ?_;refine dq (za (hs:=[_,_,_]) zac ty3 rfl rfl (by decide) (by decide) rfl) ?_
 focus first
 |refine de rfl (uCx 0 ca7 rfl rfl (zb (L:=[_,_,_]) uS uS uS) ?_)
 |refine de rfl (uCx 1 ca7 rfl rfl (zb (L:=[_,_,_]) uS uS uS) ?_)
 |refine de rfl (uCx 2 ca7 rfl rfl (zb (L:=[_,_,_]) uS uS uS) ?_)
 |refine de rfl (uCx 3 ca7 rfl rfl (zb (L:=[_,_,_]) uS uS uS) ?_)
 rintro _ _ ⟨y74,rfl,hy74,rfl⟩;refine gz2 ?_;have hb74:0<=y74/\y74<=604799999:=by simp at hy74;omega
 refine gz2 ?_;refine dq (za (hs:=[_,_,_,_]) zac ty3 rfl rfl (by decide) (by decide) rfl) ?_
 focus first
 |refine de rfl (uCx 0 ca7 rfl rfl (zb (L:=[_,_,_,_]) uS uS uS) ?_)
 |refine de rfl (uCx 1 ca7 rfl rfl (zb (L:=[_,_,_,_]) uS uS uS) ?_)
 |refine de rfl (uCx 2 ca7 rfl rfl (zb (L:=[_,_,_,_]) uS uS uS) ?_)
 |refine de rfl (uCx 3 ca7 rfl rfl (zb (L:=[_,_,_,_]) uS uS uS) ?_)
 rintro _ _ ⟨y77,rfl,hy77,rfl⟩;refine gz2 ?_;have hb77:0<=y77/\y77<=2:=by simp at hy77;omega
 refine gz1 ?_;refine uV3 [9,2,78,37] (fun (n:Nat) (at2:Int) (q3:GL ChoiceS)=>[(78,.int .i64 (n:Int)),(9,.int .i64 at2)]) (fun (n:Nat) (at2:Int) (q3:GL ChoiceS)=>[St b l q3.a,.cells b2 zjq,.cells b3 (bkC g13 (zck (zan none Z)) (zbE p15) (zca m17) (zcc k56) (.raw q3.u)),.arr q3.u 5 (q3.out.map zR)]) (fun (n:Nat) (at2:Int) (q3:GL ChoiceS)=>(n:Int)<=y77/\(0<=at2/\at2<=604800000*((n:Int)+1))/\GLok GoodC4 (4*k+2*w+n) (a56+28*k+14*w+2+6*n) q3) (fun (n:Nat) (at2:Int) (q3:GL ChoiceS)=>y77.toNat-n) (0) (y74) (⟨u,out,a2+1+1⟩) ?_ ?_ ?_ ?_;exact ⟨by omega,by omega,⟨uD,g2,uD⟩⟩;exact ⟨rfl,rfl,trivial⟩;exact by repeat (focus first|exact List.Perm.nil|refine zaA 0 rfl ?_|refine zaA 1 rfl ?_|refine zaA 2 rfl ?_|refine zaA 3 rfl ?_|refine zaA 4 rfl ?_|refine zaA 5 rfl ?_|(refine zas 0 rfl ?hq ?_;(case hq=>simp [zaE,zd];done))|(refine zas 1 rfl ?hq ?_;(case hq=>simp [zaE,zd];done))|(refine zas 2 rfl ?hq ?_;(case hq=>simp [zaE,zd];done))|(refine zas 3 rfl ?hq ?_;(case hq=>simp [zaE,zd];done))|(refine zas 4 rfl ?hq ?_;(case hq=>simp [zaE,zd];done))|(refine zas 5 rfl ?hq ?_;(case hq=>simp [zaE,zd];done))|fail)
 intro n at2 q3 hinv
 obtain ⟨hn,hat2,hq3⟩:=hinv;obtain ⟨u,out,a2⟩:=q3;obtain ⟨g1,g2,g3⟩:=id hq3;dsimp only at g1 g2 g3;refine gz4 ?_;refine uCo (fun h7=> ?_) fun h8=> ?_
 refine gz9 ?_;refine dq (za (hs:=[_,_,_,_]) zq ty9 rfl rfl (by decide) (by decide) rfl) ?_
 focus first
 |refine de rfl (uCx 0 ca5 rfl rfl (zg (L:=[_,_,_,_]) uS uS uS) ?_)
 |refine de rfl (uCx 1 ca5 rfl rfl (zg (L:=[_,_,_,_]) uS uS uS) ?_)
 |refine de rfl (uCx 2 ca5 rfl rfl (zg (L:=[_,_,_,_]) uS uS uS) ?_)
 |refine de rfl (uCx 3 ca5 rfl rfl (zg (L:=[_,_,_,_]) uS uS uS) ?_)
 rintro _ _ ⟨y85,rfl,hy85,rfl⟩;refine dq (zB (cs:=[_,_,_,_,_]) zcm pl49 rfl) ?_;refine de rfl (zj zcm rfl fun b10=> ?_)
 focus first
 |refine de0 (uY 0 ?_)
 |refine de0 (uY 1 ?_)
 |refine de0 (uY 2 ?_)
 |refine de0 (uY 3 ?_)
 refine gz5 ?_
 focus first
 |refine de rfl (uZ 0 ?_)
 |refine de rfl (uZ 1 ?_)
 |refine de rfl (uZ 2 ?_)
 |refine de rfl (uZ 3 ?_)
 refine dq (zax (f:=zbA) (l:=g13.Slots) zcl rfl) ?_;refine gz2 ?_;refine ze (zL 1) ?_;refine gz1 ?_;refine uV2 [91,11] (fun (j:Nat) (p:GL Str)=>[(91,.int .i64 j)]) (fun (j:Nat) (p:GL Str)=>[St b l p.a,.cells b10 [.str x,.int .i64 ((w:Int)+1),.int .i64 at2,.raw p.u,.str y85],.arr p.u 1 (p.out.map .str),.cells b2 zjq,.cells b3 (bkC g13 (zck (zan none Z)) (zbE p15) (zca m17) (zcc k56) (.raw u)),.arr u 5 (out.map zR)]) (fun (j:Nat) (p:GL Str)=>j<=g13.Slots.length/\(p.out.length=j/\(∀s∈p.out,Sh s)/\p.a=a2+1+j)) (fun (j:Nat) (p:GL Str)=>g13.Slots.length-j) (0) (⟨.slice none 0 0,[],a2+1⟩) ?_ ?_ ?_ ?_;exact ⟨Ad _,rfl,by simp,rfl⟩;exact ⟨rfl,trivial⟩;exact by repeat (focus first|exact List.Perm.nil|refine zaA 0 rfl ?_|refine zaA 1 rfl ?_|refine zaA 2 rfl ?_|refine zaA 3 rfl ?_|refine zaA 4 rfl ?_|refine zaA 5 rfl ?_|(refine zas 0 rfl ?hq ?_;(case hq=>simp [zaE,zd];done))|(refine zas 1 rfl ?hq ?_;(case hq=>simp [zaE,zd];done))|(refine zas 2 rfl ?hq ?_;(case hq=>simp [zaE,zd];done))|(refine zas 3 rfl ?hq ?_;(case hq=>simp [zaE,zd];done))|(refine zas 4 rfl ?hq ?_;(case hq=>simp [zaE,zd];done))|(refine zas 5 rfl ?hq ?_;(case hq=>simp [zaE,zd];done))|fail)
 intro j p hinv
 obtain ⟨hj,hp⟩:=hinv;obtain ⟨v,ps,a5⟩:=p;dsimp only at hp;obtain ⟨hp1,hp2,hp3⟩:=hp;have hsl:=hg13.sl;refine gz4 ?_;refine uCo (fun h9=> ?_) fun h10=> ?_
 obtain ⟨z,hz⟩: ∃z,g13.Slots[j]? =some z:=⟨_,Aa h9⟩
 have hdz:=zk hz;refine gz4 ?_;refine zbk (fun M=> ∃i:Nat,M[i]? =some (.cells b10 [.str x,.int .i64 ((w:Int)+1),.int .i64 at2,.raw v,.str y85])) [1] mixed ?_;refine gz1 ?_;refine uM 1 rfl ⟨1,rfl⟩ (fun M hM=>by obtain ⟨i,hi⟩:=hM;exact zar (i:=i) (h:= .raw v) zq rfl hi (.inl ⟨rfl,rfl⟩) ⟨rfl,rfl⟩) ?_;refine gz1 ?_;refine uB 3 rfl (za (hs:=[_,_,_,_,_,_,_,_]) zq ty9 rfl rfl (by decide) (by decide) rfl) ?_;refine uF 4 ?_
 focus first
 |refine zt rfl (uCx 0 ca5 rfl rfl (zg (L:=[_,_,_,_,_,_,_,_]) uS uS uS) ?_)
 |refine zt rfl (uCx 1 ca5 rfl rfl (zg (L:=[_,_,_,_,_,_,_,_]) uS uS uS) ?_)
 |refine zt rfl (uCx 2 ca5 rfl rfl (zg (L:=[_,_,_,_,_,_,_,_]) uS uS uS) ?_)
 |refine zt rfl (uCx 3 ca5 rfl rfl (zg (L:=[_,_,_,_,_,_,_,_]) uS uS uS) ?_)
 rintro _ _ ⟨y97,rfl,hy97,rfl⟩;refine ⟨uE,?_⟩
 refine uB 5 rfl (za (hs:=[_]) zq ty9 rfl rfl (by decide) (by decide) rfl) ?_;refine uF 6 ?_
 focus first
 |refine zt rfl (zI (i:=0) zq ty9 rfl rfl rfl rfl rfl (by simp [zaq,zd]) (by first|omega|(simp;omega)) fun v99=> ?_)
 |refine zt rfl (zI (i:=1) zq ty9 rfl rfl rfl rfl rfl (by simp [zaq,zd]) (by first|omega|(simp;omega)) fun v99=> ?_)
 |refine zt rfl (zI (i:=2) zq ty9 rfl rfl rfl rfl rfl (by simp [zaq,zd]) (by first|omega|(simp;omega)) fun v99=> ?_)
 |refine zt rfl (zI (i:=3) zq ty9 rfl rfl rfl rfl rfl (by simp [zaq,zd]) (by first|omega|(simp;omega)) fun v99=> ?_)
 refine ⟨uE,?_⟩
 refine gz1 ?_;refine uF 8 ?_
 focus first
 |refine zz (uY 0 ?_)
 |refine zz (uY 1 ?_)
 |refine zz (uY 2 ?_)
 |refine zz (uY 3 ?_)
 refine ⟨uE,?_⟩
 refine gz7 ?_;exact ⟨j+1,⟨v99,ps++[y97],a5+1⟩,⟨by omega,by simp;omega,fun s hs=>by
  rcases List.mem_append.1 hs with hs|hs
  exact hp2 s hs;rw [List.mem_singleton.1 hs];simp at hy97;rcases hy97 with rfl|rfl|rfl|rfl|rfl|rfl|rfl|rfl<;>(unfold Sh;simp),uD⟩,uD,⟨rfl,trivial⟩,uK,uQ⟩
 have hnj:g13.Slots.length<=j:=by omega
 obtain rfl:j=g13.Slots.length:=by omega
 refine gz2 ?_;refine zN ?_;refine gz2 ?_;refine ze (zk7 (i:=2) (k:=1) (j:=3) rfl rfl rfl) ?_;refine ze (zaH (M':=[St b l a5,.cells b10 (zd (zR (⟨x,(w:Int)+1,at2,ps,y85⟩:ChoiceS))),.cells b2 zjq,.cells b3 (bkC g13 (zck (zan none Z)) (zbE p15) (zca m17) (zcc k56) (.raw u)),.arr u 5 (out.map zR)]) rfl) ?_;refine ze (zbb 10 (i:=1) rfl rfl) ?_;refine gz2 ?_
 focus first
 |refine de rfl (uZ 0 ?_)
 |refine de rfl (uZ 1 ?_)
 |refine de rfl (uZ 2 ?_)
 |refine de rfl (uZ 3 ?_)
 refine gz1 ?_;refine dq (za (hs:=[_]) zeF zcm rfl rfl (by decide) (by decide) rfl) ?_;refine de rfl (zI (i:=3) zeF zcm rfl rfl rfl rfl rfl (by simp [zaq,zd,zaB,za6]) uSo fun v106=> ?_)
 refine gz1 ?_
 focus first
 |refine de0 (uY 0 ?_)
 |refine de0 (uY 1 ?_)
 |refine de0 (uY 2 ?_)
 |refine de0 (uY 3 ?_)
 refine gz5 ?_;refine dq (za (hs:=[_,_,_]) zac ty3 rfl rfl (by decide) (by decide) rfl) ?_
 focus first
 |refine de rfl (uCx 0 ca7 rfl rfl (zb (L:=[_,_,_]) uS uS uS) ?_)
 |refine de rfl (uCx 1 ca7 rfl rfl (zb (L:=[_,_,_]) uS uS uS) ?_)
 |refine de rfl (uCx 2 ca7 rfl rfl (zb (L:=[_,_,_]) uS uS uS) ?_)
 |refine de rfl (uCx 3 ca7 rfl rfl (zb (L:=[_,_,_]) uS uS uS) ?_)
 rintro _ _ ⟨y112,rfl,hy112,rfl⟩;refine dq (zaZ rfl rfl (by simp at hy112;omega) (by simp at hy112;omega)) ?_;refine gz8 ?_;exact ⟨n+1,at2+y112,⟨v106,out++[(⟨x,(w:Int)+1,at2,ps,y85⟩:ChoiceS)],a5+1⟩,⟨by omega,by simp at hy112;omega,hq3.add (x:=(⟨x,(w:Int)+1,at2,ps,y85⟩:ChoiceS)) ⟨hp2,by simp at hy85;rcases hy85 with rfl|rfl|rfl|rfl<;>(unfold Sh;simp),by have:=hg13.sl;dsimp only;omega⟩ (by have:=hg13.sl;omega)⟩,uD,⟨rfl,rfl,trivial⟩,uK,uQ⟩;refine gz2 ?_;refine zcK ?_;refine gz8 ?_;exact ⟨w+1,⟨u,out,a2⟩,⟨by omega,hq3.mono uO uO⟩,uD,⟨zP uO,trivial⟩,uK,uQ⟩;refine gz2 ?_;refine zN ?_;refine gz7 ?_;exact ⟨k+1,⟨u,out,a2⟩,⟨by omega,hq2.mono uO uO⟩,uD,⟨rfl,trivial⟩,uK,uQ⟩;have hnk:g13.Teams.length<=k:=by omega
 obtain rfl:k=g13.Teams.length:=by omega
 refine gz2 ?_;refine zN ?_;refine gz2 ?_;refine uVj [11,1,116,52] (fun (q5:List ChoiceS×Nat)=>[]) (fun (q5:List ChoiceS×Nat)=>[St b l q5.2,.cells b2 zjq,.cells b3 (bkC g13 (zck (zan none Z)) (zbE p15) (zca m17) (zcc k56) (.raw u)),.arr u 5 (q5.1.map zR)]) (fun (q5:List ChoiceS×Nat)=>GoodChs q5.1/\q5.2<=a2+10) ?_ ?_
 skip
 refine gz2 ?_
 focus first
 |refine de rfl (uZ 0 ?_)
 |refine de rfl (uZ 1 ?_)
 |refine de rfl (uZ 2 ?_)
 |refine de rfl (uZ 3 ?_)
 refine de rfl (zaX (i:=3) (es:=out) zeF rfl rfl ?_)
 refine gz3 ?_;refine dgx (fun x M'=> ∃(y:Bool) (a3:Nat),x= .bool y/\a3<=a2+1/\M'=[St b l a3,.cells b2 zjq,.cells b3 (bkC g13 (zck (zan none Z)) (zbE p15) (zca m17) (zcc k56) (.raw u)),.arr u 5 (out.map zR)]) rfl rfl (fun hc=>⟨_,false,a2,rfl,by omega,rfl⟩) (fun hc=>⟨_,OpenTo.upd (t:=121) rfl uC (OpenTo.refl _),uCx 0 zeB rfl rfl (zJ (a:=a2) uO uO) (fun h M' hh=>by
  obtain ⟨y,h1,h2⟩:=hh;exact ⟨y,a2+1,h1,by omega,by rw [h2];rfl⟩)⟩) ?_
 rintro _ _ ⟨y,a3,rfl,ha3,rfl⟩;refine gz2 ?_;refine uCo (fun h11=> ?_) fun h12=> ?_
 have ho0:0<out.length:=by simp_all
 refine zcS (i:=3) rfl (fun h0 he=> ?_) (fun ob off cap hv hcap=> ?_)
 exfalso;have:=congrArg List.length he;simp at this;subst this;simp at ho0
 subst hv;refine zbW (fun M=> ∃i:Nat,M[i]? =some (.cells b3 (bkC g13 (zck (zan none Z)) (zbE p15) (zca m17) (zcc k56) (.raw (.slice (some ⟨ob,off,none⟩) (out.map zR).length cap))))) [1,4] mixed ?_;refine gz1 ?_;refine uM 1 rfl ⟨2,rfl⟩ (fun M hM=>by obtain ⟨i,hi⟩:=hM;exact zar (i:=i) (h:= .raw (.slice (some ⟨ob,off,none⟩) (out.map zR).length cap)) zeF rfl hi (.inl ⟨rfl,rfl⟩) ⟨rfl,rfl⟩) ?_;refine gz2 ?_;refine uM 4 rfl ⟨2,rfl⟩ (fun M hM=>by obtain ⟨i,hi⟩:=hM;exact zar (i:=i) (h:= .raw (.slice (some ⟨ob,off,none⟩) (out.map zR).length cap)) zeF rfl hi (.inl ⟨rfl,rfl⟩) ⟨rfl,rfl⟩) ?_;refine uF 5 ?_;refine zt rfl (zaX (i:=3) (es:=out) zeF rfl rfl ?_)
 refine ⟨fun _=> .inl ⟨2,rfl⟩,?_⟩
 refine uF 6 ?_
 focus first
 |refine zt rfl (uCx 0 zhi rfl rfl (zX uS uS) ?_)
 |refine zt rfl (uCx 1 zhi rfl rfl (zX uS uS) ?_)
 |refine zt rfl (uCx 2 zhi rfl rfl (zX uS uS) ?_)
 |refine zt rfl (uCx 3 zhi rfl rfl (zX uS uS) ?_)
 rintro _ _ ⟨y130,rfl,hy130,rfl⟩;refine ⟨uE,?_⟩
 refine uB 7 rfl (zx (j:=y130) zeF zcm rfl rfl rfl uSo) ?_;refine gz2 ?_;refine ze (Ghost.perm (M':=[St b l (a3+1),.arr (.slice (some ⟨ob,off,none⟩) (out.map zR).length cap) 5 (out.map zR),.cells b2 zjq,.cells b3 (bkC g13 (zck (zan none Z)) (zbE p15) (zca m17) (zcc k56) (.raw (.slice (some ⟨ob,off,none⟩) (out.map zR).length cap)))]) uQ) ?_;obtain ⟨x,hx⟩: ∃x,out[y130]? =some x:=⟨_,Aa uO⟩
 have hgx:=g2 x (Ab hx);dsimp only [GoodC4] at hgx;refine zbk (fun M=> ∃i:Nat,M[i]? =some (.arr (.slice (some ⟨ob,off,none⟩) (out.map zR).length cap) 5 (out.map zR))) [8,15,24] mixed ?_;refine gz6 ?_;refine uB 6 rfl ((by first|exact zu rfl|exact zl rfl)) ?_;refine uB 7 rfl ((by first|exact zi zcm rfl ty9 (by decide) rfl|exact zf zcm rfl ty9 (by decide) rfl)) ?_;refine uM 8 rfl ⟨1,rfl⟩ (fun M hM=>by obtain ⟨i,hi⟩:=hM;exact zat (i:=i) (j:=y130) 0 ty9 rfl uO hi hx rfl rfl ⟨rfl,rfl⟩) ?_;refine uB 9 rfl (za (hs:=[_,_]) zq ty9 rfl rfl (by decide) (by decide) rfl) ?_;refine uA 11 ?_;refine gz1 ?_;refine uB 13 rfl ((by first|exact zu rfl|exact zl rfl)) ?_;refine uB 14 rfl ((by first|exact zi zcm rfl ty3 (by decide) rfl|exact zf zcm rfl ty3 (by decide) rfl)) ?_;refine uM 15 rfl ⟨1,rfl⟩ (fun M hM=>by obtain ⟨i,hi⟩:=hM;exact zat (i:=i) (j:=y130) 1 ty3 rfl uO hi hx rfl rfl ⟨rfl,rfl⟩) ?_;refine uB 16 rfl (za (hs:=[_,_]) zac ty3 rfl rfl (by decide) (by decide) rfl) ?_;refine uA 18 ?_;refine uB 19 rfl (za (hs:=[_,_]) zq ty9 rfl rfl (by decide) (by decide) rfl) ?_;refine uA 21 ?_;refine uB 22 rfl ((by first|exact zu rfl|exact zl rfl)) ?_;refine uB 23 rfl ((by first|exact zi zcm rfl zq (by decide) rfl|exact zf zcm rfl zq (by decide) rfl)) ?_;refine uM 24 rfl ⟨1,rfl⟩ (fun M hM=>by obtain ⟨i,hi⟩:=hM;exact zat (i:=i) (j:=y130) 3 zq rfl uO hi hx rfl rfl ⟨rfl,rfl⟩) ?_;refine uB 26 rfl (za (hs:=[_]) zq ty9 rfl rfl (by decide) (by decide) rfl) ?_;refine uF 10 ?_
 focus first
 |refine zt rfl (uCx 0 ca5 rfl rfl (zg (L:=[_,_]) uS uS uS) ?_)
 |refine zt rfl (uCx 1 ca5 rfl rfl (zg (L:=[_,_]) uS uS uS) ?_)
 |refine zt rfl (uCx 2 ca5 rfl rfl (zg (L:=[_,_]) uS uS uS) ?_)
 |refine zt rfl (uCx 3 ca5 rfl rfl (zg (L:=[_,_]) uS uS uS) ?_)
 rintro _ _ ⟨y142,rfl,hy142,rfl⟩;refine ⟨uE,?_⟩
 refine uF 17 ?_
 focus first
 |refine zt rfl (uCx 0 ca7 rfl rfl (zb (L:=[_,_]) uS uS uS) ?_)
 |refine zt rfl (uCx 1 ca7 rfl rfl (zb (L:=[_,_]) uS uS uS) ?_)
 |refine zt rfl (uCx 2 ca7 rfl rfl (zb (L:=[_,_]) uS uS uS) ?_)
 |refine zt rfl (uCx 3 ca7 rfl rfl (zb (L:=[_,_]) uS uS uS) ?_)
 rintro _ _ ⟨y149,rfl,hy149,rfl⟩;refine ⟨uE,?_⟩
 refine uF 20 ?_
 focus first
 |refine zt rfl (uCx 0 ca5 rfl rfl (zg (L:=[_,_]) uS uS uS) ?_)
 |refine zt rfl (uCx 1 ca5 rfl rfl (zg (L:=[_,_]) uS uS uS) ?_)
 |refine zt rfl (uCx 2 ca5 rfl rfl (zg (L:=[_,_]) uS uS uS) ?_)
 |refine zt rfl (uCx 3 ca5 rfl rfl (zg (L:=[_,_]) uS uS uS) ?_)
 rintro _ _ ⟨y152,rfl,hy152,rfl⟩;refine ⟨uE,?_⟩
 refine uF 25 ?_;refine zt rfl (uCa zkg rfl (zab uS) fun v157=> ?_)
 refine ⟨uE,?_⟩
 refine uF 27 ?_;refine zt rfl (zlO (N:=[St b l (a3+1+1+1+1),.arr (.slice (some ⟨ob,off,none⟩) (out.map zR).length cap) 5 (out.map zR),.cells b2 zjq,.cells b3 (bkC g13 (zck (zan none Z)) (zbE p15) (zca m17) (zcc k56) (.raw (.slice (some ⟨ob,off,none⟩) (out.map zR).length cap)))]) (sz:=1) (es:=(x.Players++[[97,110,110]]).map .str) 0 (zI (i:=0) zq ty9 rfl rfl rfl rfl rfl (by simp [zaq,zd,zaB,za6]) uSo fun v=>⟨v,rfl,by simp [zaB,za6],rfl⟩) ?_)
 refine ⟨fun _=> .inl ⟨1,rfl⟩,?_⟩
 refine uB 28 rfl ((by first|exact zu rfl|exact zl rfl)) ?_;refine uB 29 rfl ((by first|exact zi zcm rfl ty9 (by decide) rfl|exact zf zcm rfl ty9 (by decide) rfl)) ?_;refine uF 30 ?_;refine zz (zQ (i:=1) (j:=y130) (f:=0) (y:=zR x) (y':=zR ⟨y142,x.Week,x.At,x.Players,x.Captain⟩) ty9 rfl uO rfl rfl (za3 hx) rfl rfl (by simp [zd]) rfl ?_)
 refine ⟨uE,?_⟩
 refine uB 31 rfl ((by first|exact zu rfl|exact zl rfl)) ?_;refine uB 32 rfl ((by first|exact zi zcm rfl ty3 (by decide) rfl|exact zf zcm rfl ty3 (by decide) rfl)) ?_;refine uF 33 ?_;refine zz (zQ (i:=1) (j:=y130) (f:=1) (y:=zR ⟨y142,x.Week,x.At,x.Players,x.Captain⟩) (y':=zR ⟨y142,y149,x.At,x.Players,x.Captain⟩) ty3 rfl uO rfl rfl (zaM (za3 hx)) rfl rfl (by simp [zd]) rfl ?_)
 refine ⟨uE,?_⟩
 refine uB 34 rfl ((by first|exact zu rfl|exact zl rfl)) ?_;refine uB 35 rfl ((by first|exact zi zcm rfl ty9 (by decide) rfl|exact zf zcm rfl ty9 (by decide) rfl)) ?_;refine uF 36 ?_;refine zz (zQ (i:=1) (j:=y130) (f:=4) (y:=zR ⟨y142,y149,x.At,x.Players,x.Captain⟩) (y':=zR ⟨y142,y149,x.At,x.Players,y152⟩) ty9 rfl uO rfl rfl (zaM (zaM (za3 hx))) rfl rfl (by simp [zd]) rfl ?_)
 refine ⟨uE,?_⟩
 refine uB 37 rfl ((by first|exact zu rfl|exact zl rfl)) ?_;refine uB 38 rfl ((by first|exact zi zcm rfl zq (by decide) rfl|exact zf zcm rfl zq (by decide) rfl)) ?_;refine uF 39 ?_;refine zz (zQ (i:=1) (j:=y130) (f:=3) (y:=zR ⟨y142,y149,x.At,x.Players,y152⟩) (y':=zR ⟨y142,y149,x.At,x.Players++[[97,110,110]],y152⟩) zq rfl uO rfl rfl (zaM (zaM (zaM (za3 hx)))) rfl rfl (by simp [zd]) rfl ?_)
 refine ⟨uE,?_⟩
 refine gz1 ?_;exact ⟨(out.set y130 (⟨y142,y149,x.At,x.Players++[[97,110,110]],y152⟩:ChoiceS),a3+1+1+1+1),⟨⟨by simp;omega,zfx (P:=ztZ) (fun x hx=>(g2 x hx).up) ⟨fun s hs=>by
  rcases List.mem_append.1 hs with hs|hs
  exact hgx.1 s hs;rw [List.mem_singleton.1 hs];unfold Sh;simp,by simp at hy152;rcases hy152 with rfl|rfl<;>(unfold Sh;simp),by simp;omega⟩⟩,uD⟩,trivial,uK,uQ⟩
 refine gz1 ?_;exact ⟨(out,a3),⟨⟨uD,fun x hx=>(g2 x hx).up⟩,uD⟩,trivial,uK,uQ⟩
 intro q5 hq5
 obtain ⟨k1,a6⟩:=q5;obtain ⟨hk1,ha6⟩:=hq5;dsimp only at hk1 ha6;refine ze (Ghost.perm (M':=[.cells b2 zjq,.arr u 5 (k1.map zR),St b l a6,.cells b3 (bkC g13 (zck (zan none Z)) (zbE p15) (zca m17) (zcc k56) (.raw u))]) uQ) ?_;refine gz1 ?_;refine de rfl (zja (i:=3) (h:=zi9 (⟨g13,(zan none Z),p15,m17,k56,k1⟩:BookS) u) zbM rfl rfl rfl rfl rfl ?_)
 refine de0 (zn (h:=zi9 (⟨g13,(zan none Z),p15,m17,k56,k1⟩:BookS) u) zbM rfl rfl rfl rfl rfl ?_)
 refine gz2 ?_;exact ⟨_,_,(zm 2 rfl).trans (zx6 2 rfl),[_],_,⟨⟨_,_,_,_,_,rfl,zbM,.inr ⟨rfl,rfl,rfl⟩⟩,trivial⟩,Weak.refl _,(⟨g13,(zan none Z),p15,m17,k56,k1⟩:BookS),u,a6,rfl,⟨hg13,uD,hub,hp15,hm17,hk56,hk1⟩,by omega,rfl⟩
theorem zvv [Tracks]:Weak (.agg [.raw (.slice none 0 0),.raw (.slice none 0 0),.raw (.slice none 0 0),.raw (.slice none 0 0),.slice 2 [.agg [.str [115,97],.slice 1 [.str [103,107]]]],.int .i64 3,.int .i64 0,.int .i64 5,.int .i64 0,.slice 1 [.str [116,97],.str [116,98]],.raw (.slice none 0 0),.raw (.slice none 0 0),.raw (.slice none 0 0),.int .i64 0,.raw (.slice none 0 0),.raw (.slice none 0 0),.raw (.slice none 0 0),.raw (.slice none 0 0),.raw (.slice none 0 0)]) (zi9 g0B (.slice none 0 0)):=by
 refine zA7 rfl fun j h h' h1 h2=> ?_
 match j,h1,h2 with
 |0,h1,h2|1,h1,h2|2,h1,h2|3,h1,h2|10,h1,h2|11,h1,h2|12,h1,h2|14,h1,h2|15,h1,h2|16,h1,h2|17,h1,h2=>cases h1;cases h2;exact z7 _
 |4,h1,h2|5,h1,h2|6,h1,h2|7,h1,h2|8,h1,h2|9,h1,h2|13,h1,h2|18,h1,h2=>cases h1;cases h2;exact Weak.refl _
 |n+19,h1,h2=>cases h1
theorem zfY [Tracks] {b:Nat} {l:List Int} {a:Nat} (hT:Tracks.on=false) (ha:a<=100000):Con prog 4 [pAt b] [St b l a] (fun x M'=> ∃k v a',x=zi9 k v/\zda k=0/\BookC k/\a'<=a+24000/\M'=[.arr v 5 (k.Choices.map zR),St b l a']):=by
 refine zaC func4 rfl ntmps4 rfl rfl ?_;refine gz1 ?_;refine de rfl (zj zbM rfl fun b2=> ?_)
 refine gz6 ?_;refine uT2 [3,10] (fun i a1=>[(4,.int .i64 (i:Int))]) (fun i a1=>[.cells b2 [.raw (.slice none 0 0),.raw (.slice none 0 0),.raw (.slice none 0 0),.raw (.slice none 0 0),.raw (.slice none 0 0),.int .i64 0,.int .i64 0,.int .i64 0,.int .i64 0,.raw (.slice none 0 0),.raw (.slice none 0 0),.raw (.slice none 0 0),.raw (.slice none 0 0),.int .i64 0,.raw (.slice none 0 0),.raw (.slice none 0 0),.raw (.slice none 0 0),.raw (.slice none 0 0),.raw (.slice none 0 0)],St b l a1]) (fun i a1=>i<=12/\a1<=a+2000*i) (fun i a1=>12-i) (0) (a) ?_ ?_;exact ⟨by omega,by omega⟩;rintro i a1 ⟨hi,ha1⟩;refine gz4 ?_;refine uCo (fun h1=> ?_) fun h2=> ?_
 refine gz6 ?_;refine de rfl (uCx 1 ca14 rfl rfl (zhL (a:=a1) uO) ?_)
 rintro _ _ ⟨k7,v7,a7,rfl,hk7,ha7,rfl⟩;refine de rfl (zj zbM rfl fun b3=> ?_)
 refine de0 (zn zbM rfl rfl rfl rfl rfl ?_)
 refine gz1 ?_;refine ze (zm 3 rfl) ?_;refine gz1 ?_;refine dq (zaL (h:=zi9 k7 v7) zbM rfl rfl rfl rfl) ?_;refine de rfl (ze6 (hs':=[zcg k7]) ca15 rfl ⟨zzv (i:=0) rfl,trivial⟩ (zlT (b:=k7) hT hk7.c) rfl ?_)
 refine gz2 ?_;refine uCo (fun h3=> ?_) fun h4=> ?_
 refine gz1 ?_;refine dq (zaL (h:=zi9 k7 v7) zbM rfl rfl rfl rfl) ?_;refine de0 (uY 2 ?_)
 refine gz2 ?_
 focus first
 |exact ⟨_,_,(zbb 2 (i:=2) rfl rfl),[_],_,⟨⟨_,_,_,_,_,rfl,zbM,.inr ⟨rfl,rfl,rfl⟩⟩,trivial⟩,Weak.refl _,k7,v7,a7,rfl,by assumption,hk7.c,by omega,rfl⟩
 |exact ⟨_,_,(zm 2 rfl).trans (zL 5),[_],_,⟨⟨_,_,_,_,_,rfl,zbM,.inr ⟨rfl,rfl,rfl⟩⟩,trivial⟩,zvv,g0B,.slice none 0 0,a1,rfl,zBO,zBP,by omega,rfl⟩
 refine gz3 ?_
 focus first
 |refine ze (Ghost.drop) ?_
 |skip
 refine gz4 ?_;exact ⟨i+1,a7,⟨by omega,by omega⟩,uD,⟨rfl,trivial⟩,uK,uP⟩;obtain rfl:i=12:=by omega
 refine gz2 ?_;refine zN ?_;refine gz3 ?_;refine dq (za (hs:=[_]) zq ty9 rfl rfl (by decide) (by decide) rfl) ?_;refine dq (zB (cs:=[_,_]) zcF zAy rfl) ?_;refine dq (za (hs:=[_]) zcl zcF rfl rfl (by decide) (by decide) rfl) ?_;refine dq (zB (cs:=[_,_,_,_]) zjn pl32 rfl) ?_;refine dq (za (hs:=[_,_]) zq ty9 rfl rfl (by decide) (by decide) rfl) ?_;refine dq (zB (cs:=[_,_,_,_,_,_,_,_,_,_,_,_,_,_]) zbi zks rfl) ?_;refine dq (zB (cs:=[_,_,_,_,_,_,_,_,_,_,_,_,_,_,_,_,_,_,_]) zbM pl43 rfl) ?_;refine de0 (uY 0 ?_)
 refine gz2 ?_
 focus first
 |exact ⟨_,_,(zbb 2 (i:=2) rfl rfl),[_],_,⟨⟨_,_,_,_,_,rfl,zbM,.inr ⟨rfl,rfl,rfl⟩⟩,trivial⟩,Weak.refl _,k7,v7,a7,rfl,by assumption,hk7.c,by omega,rfl⟩
 |exact ⟨_,_,(zm 2 rfl).trans (zL 5),[_],_,⟨⟨_,_,_,_,_,rfl,zbM,.inr ⟨rfl,rfl,rfl⟩⟩,trivial⟩,zvv,g0B,.slice none 0 0,a1,rfl,zBO,zBP,by omega,rfl⟩
end
section
open Go.Proofs.Tryz
open Go.HL
theorem zin [Tracks] (hT:Tracks.on=false):ConP prog 11 [] (.bool true):=by
 refine uOb func11 ntmps11 ?_;refine gz4 ?_;refine dq (zB (cs:=[_,_,_,_,_,_,_,_,_]) zb3 zu3 rfl) ?_;refine dq (za (hs:=[_]) zht zb3 rfl rfl (by decide) (by decide) rfl) ?_;refine dq (za (hs:=[_]) zq ty9 rfl rfl (by decide) (by decide) rfl) ?_;refine dq (zm1 (hs':=[zbE [zo5],eSs [[115]],.int .i64 1,.int .i64 5]) ca22 rfl (WeakL.refl _) (zn0 hT (by decide) (by decide))) ?_;refine gz6 ?_;simp only [zC8,zC9];refine gz1 ?_;refine dq (za (hs:=[_,_]) zq ty9 rfl rfl (by decide) (by decide) rfl) ?_;refine dq (za (hs:=[_,_,_,_]) zq ty9 rfl rfl (by decide) (by decide) rfl) ?_;refine dq (zB (cs:=[_,_,_,_,_,_]) zx4 pl83 rfl) ?_;refine de rfl (zj zx4 rfl fun b3=> ?_)
 refine de0 (zn zx4 rfl rfl rfl rfl rfl ?_)
 refine gz1 ?_;refine ze (zm 3 rfl) ?_;refine gz2 ?_;refine dq (zm1 (hs':=[zqE ztR,zod []]) ca23 rfl ⟨Weak.refl _,z7 3,trivial⟩ (ztb (r:=ztR) (s:=[]) (by decide) (by decide) (by decide))) ?_;refine gz6 ?_;simp only [zvT,zAQ];refine gz1 ?_;refine dq (zB (cs:=[_,_,_]) zdz pl89 rfl) ?_;refine dq (za (hs:=[_]) ziK zdz rfl rfl (by decide) (by decide) rfl) ?_;refine dq (zB (cs:=[_,_]) zoS pl92 rfl) ?_;refine dq (za (hs:=[_]) zA4 zoS rfl rfl (by decide) (by decide) rfl) ?_;refine dq (zm1 (hs':=[zjO [ziV],zoY [zl4]]) ca24 rfl (WeakL.refl _) (zqA (l:=[ziV]) (p:=[zl4]) (by decide) (by decide))) ?_;refine gz8 ?_;simp only [zD0,zCT,zyY];refine zaw ?_;refine uGr rfl (fun hc=>zA (j:=0) (a:=zxu) znc zcY rfl rfl rfl rfl) ?_;refine zct ?_;refine uGr rfl (fun hc=>za (hs:=[_,_,_,_]) zq ty9 rfl rfl (by decide) (by decide) rfl) ?_;refine uGr rfl (fun hc=>uCl ca25 rfl (ziv (l:=[[97],[98],[98],[97]]) (m:=[[97],[98],[98],[97]]) (by decide))) ?_;refine zdl ?_;refine zw rfl ?_
 rfl
theorem znt [Tracks] {x y:Int} (hx:0<=x) (hy:0<=y):ConP prog 32 [.int .i64 x,.int .i64 y] (.int .i64 (zdC x y)):=by
 refine uOb func32 ntmps32 ?_;refine gz5 ?_;refine uU2 [0,2,5,6] (fun (a:Int) (b:Int)=>[(0,.int .i64 a),(1,.int .i64 b)]) (fun (a:Int) (b:Int)=>[]) (fun (a:Int) (b:Int)=>0<=a/\0<=b/\zdC a b=zdC x y) (fun (a:Int) (b:Int)=>b.toNat) (x) (y) ?_ ?_;exact ⟨hx,hy,rfl⟩;rintro a b ⟨ha,hb,hg⟩;refine gz5 ?_;refine uCo (fun h1=> ?_) fun h2=> ?_
 have hbn:b≠0:=by simpa using h1
 have hb0:0<b:=by omega
 have hm0:=Cg b ha;have hm1:=BC a hb0;refine gz3 ?_;refine zhu mixed ?_;refine gz3 ?_;refine uB 3 rfl (zcx rfl rfl uO) ?_;refine gz4 ?_;refine ⟨b,a.tmod b,?_,?_,⟨rfl,rfl,trivial⟩,uK,Ac _⟩
 exact ⟨hb,hm0,by rw [zuF ha hb0];exact hg⟩
 dsimp only;omega
 have hb0:b=0:=by simpa using h2
 subst hb0;rw [zuE ha] at hg;refine gz2 ?_;refine zN ?_;refine gz7 ?_;refine uRp ?_;rw [<-hg]
theorem znO [Tracks] {n d:Int} (hn: -9000000000000000000<=n/\n<=9000000000000000000) (hd:0<d/\d<=9000000000000000000):ConP prog 13 [.int .i64 n,.int .i64 d] (zdB (zh5 n d)):=by
 refine zaC func13 rfl ntmps13 rfl rfl ?_;refine gz1 ?_;refine de rfl (zj zU rfl fun b4=> ?_)
 refine gz4 ?_;refine dq (zhJ rfl uO uO) ?_;refine dq (zS (h':= .int .i64 (max n (-n))) (zl5 rfl rfl) (congrArg (HVal.int .i64) zpx)) ?_;refine gz1 ?_;refine dq (uCl ca32 rfl (znt (x:=max n (-n)) (y:=d) uO uO)) ?_;refine gz2 ?_;have hgp:=zrR (a:=max n (-n)) hd.1;refine uDr mixed ?_;refine gz2 ?_;refine uB 2 rfl (zcW rfl rfl uO uO uO) ?_;refine gz2 ?_;refine uB 5 rfl (zcW rfl rfl uO uO uO) ?_;refine uB 6 rfl (zB (cs:=[_,_]) zU zid rfl) ?_;refine uF 7 ?_;refine zz (zn zU rfl rfl rfl rfl rfl ?_)
 refine ⟨uE,?_⟩
 refine gz2 ?_;refine ⟨_,_,zm 4 rfl,[_],_,⟨⟨_,_,_,_,_,rfl,zU,.inr ⟨rfl,rfl,rfl⟩⟩,trivial⟩,Weak.refl _,?_,rfl⟩
 rfl
theorem zeI [Tracks] {l:List Int} (hT:Tracks.on=false):ConP prog 3 [.slice 1 (l.map (.int .i64))] (.bool true):=by
 refine uOb func3 ntmps3 ?_;refine gz5 ?_;refine dq (zB (cs:=[_,_]) ty25 pl25 rfl) ?_;refine de rfl (zv5 rfl rfl fun b=> ?_)
 refine zDx (M':=[St b l 0]) rfl ?_;refine gz4 ?_;refine de rfl (uCx 0 ca4 rfl rfl (zfY (a:=0) hT uO) ?_)
 rintro _ _ ⟨k22,v22,a22,rfl,hz22,hc22,ha22,rfl⟩;refine gz1 ?_;refine dq (za (hs:=[_,_]) zq ty9 rfl rfl (by decide) (by decide) rfl) ?_
 first
 |refine de rfl (uCx 0 ca5 rfl rfl (zg (L:=[_,_]) uS uS uS) ?_)
 |refine de rfl (uCx 1 ca5 rfl rfl (zg (L:=[_,_]) uS uS uS) ?_)
 |refine de rfl (uCx 2 ca5 rfl rfl (zg (L:=[_,_]) uS uS uS) ?_)
 |refine de rfl (uCx 3 ca5 rfl rfl (zg (L:=[_,_]) uS uS uS) ?_)
 rintro _ _ ⟨y25,rfl,hy25,rfl⟩;refine gz1 ?_
 first
 |refine de rfl (uCx 0 ca6 rfl rfl (zD uS uS uS uS) ?_)
 |refine de rfl (uCx 1 ca6 rfl rfl (zD uS uS uS uS) ?_)
 |refine de rfl (uCx 2 ca6 rfl rfl (zD uS uS uS uS) ?_)
 |refine de rfl (uCx 3 ca6 rfl rfl (zD uS uS uS uS) ?_)
 rintro _ _ ⟨y27,rfl,hy27,rfl⟩;refine gz1 ?_;refine dq (za (hs:=[_,_,_]) zac ty3 rfl rfl (by decide) (by decide) rfl) ?_
 first
 |refine de rfl (uCx 0 ca7 rfl rfl (zb (L:=[_,_,_]) uS uS uS) ?_)
 |refine de rfl (uCx 1 ca7 rfl rfl (zb (L:=[_,_,_]) uS uS uS) ?_)
 |refine de rfl (uCx 2 ca7 rfl rfl (zb (L:=[_,_,_]) uS uS uS) ?_)
 |refine de rfl (uCx 3 ca7 rfl rfl (zb (L:=[_,_,_]) uS uS uS) ?_)
 rintro _ _ ⟨y30,rfl,hy30,rfl⟩;refine de rfl (zj zbM rfl fun b4=> ?_)
 refine de0 (zn zbM rfl rfl rfl rfl rfl ?_)
 refine gz4 ?_;refine ze (zm 4 rfl) ?_;refine gz1 ?_;refine ze (Ghost.perm (M':=[.arr v22 5 (k22.Choices.map zR),St b l (a22+1+1+1)]) (List.Perm.swap _ _ _)) ?_;refine zCs (i:=0) rfl (fun sa scap hv=> ?_)
 rw [Ah] at hv;subst hv;have hcN:=nc_c hc22;have hzN:=zCO hz22;refine gz2 ?_;refine dq (zO (h:= .raw (.slice sa k22.Choices.length scap)) zeF rfl rfl rfl) ?_;refine dq (zdh zeF rfl) ?_;refine gz2 ?_;refine ze (zaH (M':=[.arr (.slice sa k22.Choices.length scap) 5 (((k22.Choices.take 0).map zcq++k22.Choices.drop 0).map zR),St b l (a22+1+1+1)]) (by rw [zDX])) ?_;refine gz1 ?_;refine uT1 [8,1,34,9] (fun k=>[(34,.int .i64 k)]) (fun k=>[.arr (.slice sa k22.Choices.length scap) 5 (((k22.Choices.take k).map zcq++k22.Choices.drop k).map zR),St b l (a22+1+1+1)]) (fun k=>k<=k22.Choices.length/\(True)) (fun k=>k22.Choices.length-k) (0) ?_ ?_
 ·exact ⟨Ad _,trivial⟩
 ·rintro k ⟨hk,-⟩;refine gz4 ?_;refine uCo (fun h1=> ?_) fun h2=> ?_
  ·obtain ⟨x,hx⟩: ∃x,k22.Choices[k]? =some x:=⟨_,Aa h1⟩
   have hdx:=zk hx;have hkl:=zp hx;have hcl:=hc22.l5;refine gz8 ?_;refine zcS (i:=0) rfl (fun q0 he=> ?_) (fun ob off cap hv hcap=> ?_)
   ·exfalso;have q:=congrArg List.length he;simp at q;omega
   obtain ⟨rfl,-,rfl⟩:sa=some ⟨ob,off,none⟩/\True/\scap=cap:=by injection hv with q1 q2 q3;exact ⟨q1,trivial,q3⟩
   refine gz2 ?_;refine dq (zO (h:= .raw (.slice (some ⟨ob,off,none⟩) k22.Choices.length scap)) zeF rfl rfl rfl) ?_;refine gz1 ?_;refine dq (zx (j:=k) zeF zcm rfl rfl rfl uO) ?_;refine gz1 ?_;refine de0 (zQ (i:=0) (j:=k) (f:=4) (y:=zR x) (y':=zR (zcq x)) ty9 rfl uO rfl rfl (za3 (zDW hx)) rfl rfl (by simp [zd]) rfl ?_)
   refine gz7 ?_;exact ⟨k+1,⟨by omega,trivial⟩,uD,⟨rfl,trivial⟩,uK,zo (by dsimp only;simp only [Cm];rw [zDY hx])⟩
  ·have hnk:k22.Choices.length<=k:=by omega
   obtain rfl:k=k22.Choices.length:=by omega
   refine gz2 ?_;refine zv ?_;refine gz2 ?_;rw [zDV];refine ze (zwJ (j:=18) 4 (i:=0) rfl rfl rfl) ?_;refine gz1 ?_;refine dq (zaL (h:=zcg (zae k22)) zbM rfl rfl rfl rfl) ?_;refine gz3 ?_;refine dq (uCl ca8 rfl (zpO (b:=(zae k22)) (t:=y25) (w:=y27) (n:=y30) hT hcN)) ?_;refine gz7 ?_;refine dq (zaL (h:=zcg (zae k22)) zbM rfl rfl rfl rfl) ?_;refine gz3 ?_;refine dq (uCl ca9 rfl (zqq (b:=(zae k22)) (t:=y25) (w:=y27) (n:=y30) hT hcN)) ?_;refine gz3 ?_;refine de rfl (zj zU rfl fun b11=> ?_)
   refine de0 (zn zU rfl rfl rfl rfl rfl ?_)
   refine gz2 ?_;refine ze (zm 11 rfl) ?_;refine gz1 ?_;refine dq (zaL (h:=zcg (zae k22)) zbM rfl rfl rfl rfl) ?_;refine gz3 ?_;refine dq (uCl ca10 rfl (zqp (b:=(zae k22)) (t:=y25) (w:=y27) (n:=y30) hT hcN)) ?_;refine gz3 ?_;refine de rfl (zj zU rfl fun b13=> ?_)
   refine de0 (zn zU rfl rfl rfl rfl rfl ?_)
   refine gz2 ?_;refine ze (zm 13 rfl) ?_;refine zee ?_;refine uCo (fun h3=> ?_) fun h4=> ?_
   ·refine zz1 ?_;refine uGr rfl (fun hc=>uCl ca11 rfl (zin hT)) ?_;refine gz4 ?_;refine zav Ghost.clear rfl ⟨?_,rfl⟩
    show HVal.bool _=_
    first
    | (have q3: ¬TsE (zae k22) y25 y27 y30=0\/¬TfE (zae k22) y25 y27 y30=0:=by simpa using h3
       have q9:(TsE (zae k22) y25 y27 y30=0\/TfE (zae k22) y25 y27 y30=TsE (zae k22) y25 y27 y30)/\¬TfE (zae k22) y25 y27 y30=0:=by
        by_cases q:TsE (zae k22) y25 y27 y30=0
        ·exact ⟨.inl q,by rcases q3 with c|c;exact absurd q c;exact c⟩
        ·exact ⟨.inr (ztT q),by rw [ztT q];exact q⟩
       simp [q9.1,q9.2]
       done)
    | (have q1:0<(ofH (ptV (zae k22) y25 y27 y30)).Den:=by omega
       have q2:0<(ofH (msV (zae k22) y25 y27 y30)).Den:=by omega
       simp [q1,q2,zgf,eqH]
       done)
   ·refine gz2 ?_;have hE0:TfE (zae k22) y25 y27 y30=0:=by simp_all
    obtain ⟨hF1,hF2,hF3,hF4⟩:=zEd hE0;obtain ⟨hte,hfe⟩:=zxY hE0;obtain ⟨hbz,htc,hwk,hnm⟩:=zpc hte;obtain ⟨-,hs0,hsk⟩:=zo0 hfe;have hpm:=zGK (zDU (b:=k22) y25 y27 y30);have hX:=zqj hzN;have hW:=hX.w;have hla:=hcN.bb.lea;have hdn:=zri (own:=zeg (zae k22) y25 y27) hX.ru (ztJ hX hcN hwk y30);have hdp:=zo8 (L:=wlL (zae k22) y27 y30) (own:=zeg (zae k22) y25 y27) hla.po;have hdl:(dsL (zae k22) y25 y27 y30).length<=1000000:=Aq (zjU (zae k22).League (wlL (zae k22) y27 y30) (zeg (zae k22) y25 y27)) (by
     have q2:=((zjT (b:=(zae k22).League.Bounds) (n:=zbr (zae k22).League y27) hW.f.mo).p y25).2
     show (rPl (zfU (zae k22).League.Bounds (zae k22).Moves (zbr (zae k22).League y27)) y25).length<=1000000
     omega)
    have hsl:=hW.sl;obtain ⟨⟨m1,m2⟩,⟨m3,m4⟩,m5,m6⟩:=zDj (zB0 hW hfe) (zBS hW hfe);have hd1:1<=(ofH (ptV (zae k22) y25 y27 y30)).Den:=((zoD (zB0 hW hfe)).1).1;have hd2:1<=(ofH (msV (zae k22) y25 y27 y30)).Den:=((zoD (zBS hW hfe)).1).1;rw [zGL hE0,hF3,hF4];refine gz3 ?_;refine dq (zO (h:=zbt k22.League.Slots) zcl rfl rfl rfl) ?_;refine gz1 ?_;refine dq (uCl ca12 rfl (zuj (S:=k22.League.Slots) (l:=dsL (zae k22) y25 y27 y30) hX.sl hla.sl hla.sp hs0 hdl hdp hdn hsl)) ?_;refine gz4 ?_;refine de rfl (zj zU rfl fun b16=> ?_)
    refine gz1 ?_;refine de0 (zn zU rfl rfl rfl rfl rfl ?_)
    refine gz2 ?_;refine ze (zm 16 rfl) ?_;refine uDr mixed ?_;refine gz17 ?_;refine uGy 17 rfl rfl (fun hc=>by have hq:=hc;(try simp at hq);exact zby rfl rfl uO uO) ?_;refine gz4 ?_;refine uGy 22 rfl rfl (fun hc=>by have hq:=hc;(try simp at hq);exact zby rfl rfl uO uO) ?_;refine gz5 ?_;refine uGy 28 rfl rfl (fun hc=>by have hq:=hc;(try simp at hq);exact zby rfl rfl uO uO) ?_;refine uGy 29 rfl rfl (fun hc=>by have hq:=hc;(try simp at hq);exact zS (h':=zdB (ofH (sfL (dsL (zae k22) y25 y27 y30) (zeb (dsL (zae k22) y25 y27 y30) k22.League.Slots) []))) (uCl ca13 rfl (znO (n:=(ofH (ptV (zae k22) y25 y27 y30)).Num*(ofH (msV (zae k22) y25 y27 y30)).Den+(ofH (msV (zae k22) y25 y27 y30)).Num*(ofH (ptV (zae k22) y25 y27 y30)).Den) (d:=(ofH (ptV (zae k22) y25 y27 y30)).Den*(ofH (msV (zae k22) y25 y27 y30)).Den) uO uO)) (congrArg zdB ((zDk _ _).trans (congrArg ofH hpm)))) ?_;refine gz1 ?_;refine uGy 31 rfl rfl (fun hc=>zu5 zU zuz rfl rfl ⟨rfl,⟨_,_,_,_,ty3,rfl⟩,⟨rfl,⟨_,_,_,_,ty3,rfl⟩,trivial⟩⟩) ?_;refine gz2 ?_;refine uGy 34 rfl rfl (fun hc=>uCl ca11 rfl (zin hT)) ?_;refine gz4 ?_;refine zav Ghost.clear rfl ⟨?_,rfl⟩
    show HVal.bool _=_
    first
    | (have q3: ¬TsE (zae k22) y25 y27 y30=0\/¬TfE (zae k22) y25 y27 y30=0:=by simpa using h3
       have q9:(TsE (zae k22) y25 y27 y30=0\/TfE (zae k22) y25 y27 y30=TsE (zae k22) y25 y27 y30)/\¬TfE (zae k22) y25 y27 y30=0:=by
        by_cases q:TsE (zae k22) y25 y27 y30=0
        ·exact ⟨.inl q,by rcases q3 with c|c;exact absurd q c;exact c⟩
        ·exact ⟨.inr (ztT q),by rw [ztT q];exact q⟩
       simp [q9.1,q9.2]
       done)
    | (have q1:0<(ofH (ptV (zae k22) y25 y27 y30)).Den:=by omega
       have q2:0<(ofH (msV (zae k22) y25 y27 y30)).Den:=by omega
       simp [q1,q2,zgf,eqH]
       done)
end
end Go.Proofs.YtpgopgjleokciaaGreatDoor
namespace Go.HL
section
open Go
theorem zyB {P:Program} (h:P.funcs.toList.any Func.goes=false) (f:FuncId):P.goes f=false:=by
 have hf: ∀g:Nat,(P.funcs[g]?).any Func.goes=false:=fun g=>by
  cases hg:P.funcs[g]? with
  |none=>rfl
  |some fn=>
    have:fn∈P.funcs.toList:=by
     obtain ⟨hlt,rfl⟩:=Array.getElem?_eq_some_iff.1 hg
     simp
    have:=List.any_eq_false.1 h fn this
    simpa using this
 have ha:P.funcs.any Func.goes=false:=by rw [<-Array.any_toList];exact h
 unfold Program.goes;rw [ha,Bool.and_false,Bs];rw [BJ]
 intro g _
 rw [hf g];simp
theorem goesBy_none {P:Program} {c:OpenClaim} (h:P.funcs.toList.any Func.goes=false):false=c.goesBy P:=by
 have hg:=zyB h;unfold OpenClaim.goesBy Program.goesAt Program.goesFrom;have h1:(P.funcNamed c.func).any P.goes=false:=by
  cases P.funcNamed c.func with
  |none=>rfl
  |some f=>exact hg f
 have h2:P.inits.toList.any P.goes=false:=List.any_eq_false.2 fun x _=>by rw [hg x];simp
 rw [h1]
 cases c.start<;>simp [h2,hg]
end
section
open Go
theorem ztq {H:Type} {enc:TypeId×Value->H} {a:Assume} {C:Checked} {os:Os} {f:FuncId} {fn:Func} {s:ChangeSpec} {conds:List PathCond} {apart fresh handsOn again:Bool} {X:World->Array Value->Prop}
 (hX: ∀(w w':World) (args:Array Value),w.heap=w'.heap->X w args->X w' args)
 (own:ownKnob C.prog.godebug=none) (started:os.Started) (noInit:C.prog.inits.idxOf? f=none) (hfn:C.prog.funcs[f]? =some fn)
 (witness: ∃(w:World) (tape:Tape) (i:Input),w.os=os/\(w.forCall tape i).Shaped C.prog/\i.vars=[]/\Input.okWide C.prog (w.forCall tape i) .any w.heap.size f i/\
   ((s.pre enc C.prog fn conds apart (w.forCall tape i).memory i.args/\X (w.forCall tape i).memory i.args)/\sizedMet enc C.prog fn (OpenSpec.ofChange s) apart (w.forCall tape i).memory i.args)/\a.holds C.prog (lone (Frame.enter C.prog f i.args .normal) [] (w.forCall tape i)))
 (contract: ∀(W:World) (base:Nat) (args:Array Value) (ds gs:List (DataW H)) (before:List MemPlace),
   (∀(j:Nat) t v,fn.params[j]? =some t->args[j]? =some v->Value.okWide C.prog W .any base t v)->DataW.Whole enc C.prog fn.params.toList s.vars apart W args.toList ds gs before->
   X W args->W.ShapedOpen C.prog->Calls C.prog f args W fun e W'=> ∃v,e= .returned v/\s.post enc C.prog fn apart fresh handsOn again W args v W'):
 ReturnsInHanded a C os f .any (fun w args=>(s.pre enc C.prog fn conds apart w args/\X w args)/\sizedMet enc C.prog fn (OpenSpec.ofChange s) apart w args) (s.post enc C.prog fn apart fresh handsOn again):=by
 refine returnsInHanded_of_calls own started noInit witness fun w tape i _ hsh _ hok hpre _=> ?_
 obtain ⟨_,_,_,fn',hfn',_,_,_,_,hval⟩:=hok;obtain rfl:fn'=fn:=Aw (hfn'.symm.trans hfn);obtain ⟨⟨⟨ds,gs,before,hw,_⟩,hx⟩,_⟩:=hpre;refine (contract (w.forCall tape i) w.heap.size i.args ds gs before hval (DataW.Whole.of_heap (w':=w.forCall tape i) (by rfl) hw) (hX _ _ _ (by rfl) hx) hsh).mono fun e W' ⟨v,he,hp⟩=> ?_
 subst he;exact ChangeSpec.post_blind hp
end
section
open Go.Sort Go.Proofs Go.RowKit Go.Lib
variable {P:Program}
theorem zvt {W:World} {laid:List (String×DataW Unit)} {i3 i4 g3 g4 t5 t119 t138 t139:Nat} {fs:Array Field} (h:laidMet P laid W)
 (e3:laid[i3]? =some ("unicode/utf8.first",firstData)) (e4:laid[i4]? =some ("unicode/utf8.acceptRanges",acceptData))
 (n3:P.globalNamed "unicode/utf8.first" =some g3) (n4:P.globalNamed "unicode/utf8.acceptRanges" =some g4) (y3:(P.globals[g3]?).map (·.type)=some t119) (y4:(P.globals[g4]?).map (·.type)=some t139)
 (u5:P.underlying t5=some (.int .u8)) (u119:P.underlying t119=some (.array 256 t5)) (u138:P.underlying t138=some (.struct fs)) (u139:P.underlying t139=some (.array 16 t138))
 (c5:P.cellsOf t5=1) (c119:P.cellsOf t119=256) (c138:P.cellsOf t138=2) (hs:fs.size=2) (hf:(fs.toList.map fun f=>(f.type,f.offset))=[(t5,0),(t5,1)]):
 (∀c,c<256->W.cell? ⟨g3,c,none⟩=some (.int .u8 (Lib.firstT c)))/\(∀i,i<16->W.cell? ⟨g4,2*i,none⟩=some (.int .u8 (Lib.accLo i))/\W.cell? ⟨g4,2*i+1,none⟩=some (.int .u8 (Lib.accHi i))):=by
 obtain ⟨ps,h1,_⟩:=h;have h3:VarReads P W "unicode/utf8.first" firstData:=zrU h1 i3 e3;have h4:VarReads P W "unicode/utf8.acceptRanges" acceptData:=zrU h1 i4 e4;refine ⟨fun c hc=> ?_,fun i hi=> ?_⟩
 obtain ⟨g,t,cs,fuel,p,hg,hty,hvar,hd⟩:=h3;obtain rfl:=Aw (n3.symm.trans hg);obtain rfl:=Aw (y3.symm.trans hty);have hcs:=cells_of_tab u119 u5 c5 c119 hd;have:=World.var?_cell hg hvar c;rw [this,<-AS,hcs]
 simp [firstTab,hc]
 obtain ⟨g,t,cs,fuel,p,hg,hty,hvar,hd⟩:=h4;obtain rfl:=Aw (n4.symm.trans hg);obtain rfl:=Aw (y4.symm.trans hty);obtain ⟨fuel',d,q,hdi,he⟩:=array_elem u139 hd i hi;simp only [Ag,Bp hi,AI,AA] at hdi;subst hdi;rw [c138] at he;have hcs:=ints_of_struct u138 (fun j f hj=>by
  have hq:(fs.toList.map fun f=>(f.type,f.offset))[j]? =some (f.type,f.offset):=by rw [Ag,AS,hj];rfl
  rw [hf] at hq
  match j,hq with
  |0,hq=>simp at hq;exact ⟨by rw [<-hq.1];exact u5,hq.2.symm,by rw [<-hq.1];exact c5⟩
  |1,hq=>simp at hq;exact ⟨by rw [<-hq.1];exact u5,hq.2.symm,by rw [<-hq.1];exact c5⟩
  |j+2,hq=>simp at hq) (by rw [c138,hs]) he
 have a0:=congrArg (·[0]?) hcs;have a1:=congrArg (·[1]?) hcs;simp only [Bj,AK] at a0 a1
 constructor
 rw [World.var?_cell hg hvar (2*i),<-AS]
 simpa [BE] using a0
 rw [World.var?_cell hg hvar (2*i+1),<-AS]
 simpa [BE] using a1
theorem zvq [Tracks] {W:World} (hp:P.globalNamed "internal/strconv.uint64pow10" =none)
 (hl: ∀g,P.globalNamed "internal/bytealg.MaxLen" =some g->∃m,W.cell? ⟨g,0,none⟩=some (.int .i64 m))
 (hu: ∀g3 g4,P.globalNamed "unicode/utf8.first" =some g3->P.globalNamed "unicode/utf8.acceptRanges" =some g4->(∀c,c<256->W.cell? ⟨g3,c,none⟩=some (.int .u8 (Lib.firstT c)))/\(∀i,i<16->W.cell? ⟨g4,2*i,none⟩=some (.int .u8 (Lib.accLo i))/\W.cell? ⟨g4,2*i+1,none⟩=some (.int .u8 (Lib.accHi i)))):TabI P (zcC W):=by
 refine ⟨fun g hg=>(by rw [hp] at hg;cases hg),fun g hg=> ?_,fun g3 g4 h3 h4=> ?_⟩
 obtain ⟨m,hm⟩:=hl g hg;unfold World.cell? at hm
 cases hh:W.heap[g]? with
 |none=>rw [hh] at hm;cases hm
 |some o=>
   rw [hh] at hm
   cases o with
   |cells c t fr=>exact ⟨c,t,fr,m,hh,by simpa using hm⟩
   |_=>cases hm
 obtain ⟨u1,u2⟩:=hu g3 g4 h3 h4;have key: ∀(g:Nat) (v:Value),W.cell? ⟨g,0,none⟩=some v->∃c t fr,W.heap[g]? =some (.cells c t fr):=fun g v hv=>by
  unfold World.cell? at hv
  cases hh:W.heap[g]? with
  |none=>rw [hh] at hv;cases hv
  |some o=>
    rw [hh] at hv
    cases o with
    |cells c t fr=>exact ⟨c,t,fr,rfl⟩
    |_=>cases hv
 obtain ⟨c3,t3,f3,x3⟩:=key g3 _ (u1 0 (by omega));obtain ⟨c4,t4,f4,x4⟩:=key g4 _ (u2 0 (by omega)).1;refine ⟨c3,t3,f3,c4,t4,f4,x3,x4,fun k hk=> ?_,fun i hi=> ?_⟩
 rw [<-zcj x3];exact u1 k hk;exact ⟨by rw [<-zcj x4];exact (u2 i hi).1,by rw [<-zcj x4];exact (u2 i hi).2⟩
end
end Go.HL
namespace Go.Proofs.YtpgopgjleokciaaGreatDoor
section
open Go.Proofs.Tryz
open Go.ChangeShapes Go.WideShapes Go.ChangeAt Go.RowKit Go.HL
theorem zl2:ownKnob prog.godebug=none:=by kernel_rfl
theorem zfR:laidOutB prog=true:=by kernel_rfl
theorem zkI:prog.cellsOf 3=1:=by kernel_rfl
theorem zmg {W:World} (h:laidMetH prog Rows.topPointsAndMissedRow.laid W) (hsh:W.ShapedOpen prog):TabI prog (zcC W):=by
 rw [MakeChecks.laidMetH_plain _ _ _ (by kernel_rfl)] at h
 letI:Tracks:=⟨false⟩
 refine zvq (by kernel_rfl) (fun g hg=> ?_) (fun g3 g4 h3 h4=> ?_)
 obtain rfl:0=g:=Aw ((show prog.globalNamed "internal/bytealg.MaxLen" =some 0 by kernel_rfl).symm.trans hg);exact Go.Proofs.cell_of_shapedOpen_int (zero:= #[.int .i64 0]) (t:=3) hsh (of_decide_eq_true (by kernel_rfl)) (by kernel_rfl) rfl (by kernel_rfl) (by kernel_rfl) underlying3;obtain rfl:1=g3:=Aw ((show prog.globalNamed "unicode/utf8.first" =some 1 by kernel_rfl).symm.trans h3);obtain rfl:2=g4:=Aw ((show prog.globalNamed "unicode/utf8.acceptRanges" =some 2 by kernel_rfl).symm.trans h4);exact zvt (i3:=1) (i4:=0) h (by kernel_rfl) (by kernel_rfl) (by kernel_rfl) (by kernel_rfl) (by kernel_rfl) (by kernel_rfl) underlying5 underlying368 underlying370 underlying371 (by kernel_rfl) (by kernel_rfl) (by kernel_rfl) rfl rfl
theorem zkH {W:World} (ht:TabI prog (zcC W)) {a:Option Addr} {len cap:Nat} {H:Type} {enc:TypeId×Value->H} {d0:DataW H} {p:List MemPlace} (h:DataW.Trod enc prog W 0 (fun _=>true) true 22 (.slice a len cap) d0 p):
 Calls prog 3 #[.slice a len cap] W fun e W'=>e= .returned (.bool true)/\Below W.heap.size W W':=by
 obtain ⟨fuel,hf⟩:=h
 rcases open_ints underlying22 underlying3 zkI hf with ⟨hcs,hx⟩|⟨a',len',cap',zs,hcs,_,hl,hm,hz,hx,hcell,hwz⟩
 simp [Value.cells] at hcs
 obtain ⟨rfl,rfl,rfl⟩:=hcs
 letI:Tracks:=⟨false⟩
 exact zut (l:=[]) (zeI rfl) ht (.slice0 _ _ _)
 simp [Value.cells] at hcs
 obtain ⟨rfl,rfl,rfl⟩:=hcs;simp only [if_true] at hz
 letI:Tracks:=⟨false⟩
 exact zut (l:=zs.take len) (zeI rfl) ht (zEe hcell (by omega) hl)
set_option maxRecDepth 100000 in
theorem zko (os:Os) (started:os.Started) (H:Type) (enc:TypeId×Value->H):
 ReturnsInHanded {} Tryz.checked os 3 .any (fun w args=>(Rows.topPointsAndMissedSpec.pre enc prog f3 Rows.topPointsAndMissedRow.domain false w args/\laidMetH prog Rows.topPointsAndMissedRow.laid w)/\sizedMet enc prog f3 (OpenSpec.ofChange Rows.topPointsAndMissedSpec) false w args)
  (Rows.topPointsAndMissedSpec.post enc prog f3 false true false false):=by
 refine ztq (C:=Tryz.checked) (X:=fun w _=>laidMetH prog Rows.topPointsAndMissedRow.laid w) (fun _ _ _ hh h=>h.of_heap hh) zl2 started (by kernel_rfl) func3
  (ChangeSpec.witness_shaped (enc:=enc) (C:=Tryz.checked) (os:=os) (X:=fun w _=>laidMetH prog Rows.topPointsAndMissedRow.laid w) false (World.laidAll prog os Rows.topPointsAndMissedRow.laid) #[.slice none 0 0] 8 (World.laidAll_os _ _ _)
    (World.shaped_of_ZipB (by kernel_rfl) (by kernel_rfl)) (by kernel_rfl) (by kernel_rfl) (by kernel_rfl)
    (by rw [MakeChecks.laidMetH_plain _ _ _ (by kernel_rfl)];exact laidMet_laidAll _ (by kernel_rfl) (by kernel_rfl))) ?_
 intro W base args ds gs before hval0 hW hL hsh
 have hval: ∀(j:Nat) t v,f3.params[j]? =some t->args[j]? =some v->Value.okWide prog W .any base t v:=hval0
 have hW':=hW;obtain ⟨p,q,hA0,hV,rfl,_,_⟩:=hW;have hA:DataW.TrodAll enc prog W 0 (fun _=>true) true f3.params.toList args.toList ds p:=hA0;rw [Tryz.params3] at hA hval;obtain ⟨v0,d0,rfl,rfl,h0⟩:=trodAll_one hA;obtain ⟨rfl,rfl⟩:=trodVars_none hV;obtain ⟨a0,len,cap,rfl⟩:=okWide_slice underlying22 (hval 0 22 v0 rfl rfl);simp only [Bf] at hW';have hlt: ∀x∈p,x.block<W.heap.size:=fun x hx=>by simpa using hW'.lt x hx
 refine (zkH (zmg hL hsh) h0).mono fun e W' ⟨he,hb⟩=> ?_
 subst he;have hargs:DataW.Trod enc prog W' 0 (fun b=>decide (b<W.heap.size)) true 22 (.slice a0 len cap) d0 p:=
  Below.trod zfR (by kernel_rfl) (of_decide_eq_true (by kernel_rfl)) h0 hb hlt
 exact ⟨_,rfl,_,_,_,[],p,[],hW',trodAll_mk1 (shut_bool underlying4 _),trodAll_mk1 hargs,rfl,hb.frame _,fun h=>by cases h⟩
theorem zlD:mapsRowed prog=true:=by kernel_rfl
theorem zlw:(Rows.topPointsAndMissedRow.inPlace==prog.inPlace 3)=true:=by kernel_rfl
theorem zlK:(Rows.topPointsAndMissedRow.unfollowed==prog.unfollowed 3)=true:=by kernel_rfl
theorem zlG:(Rows.topPointsAndMissedRow.recurses==prog.recurses 3)=true:=by kernel_rfl
theorem zlL:(Rows.topPointsAndMissedRow.named==prog.varsNamed 3)=true:=by kernel_rfl
theorem zly:joinedFacts prog 3 f3 Rows.topPointsAndMissedSpec Rows.topPointsAndMissedRow=true:=by
 simp only [joinedFacts,A2]
 repeat' apply And.intro
 all_goals first
  |with_reducible exact zfR
  |with_reducible exact zlD
  |with_reducible exact zlw
  |with_reducible exact zlK
  |with_reducible exact zlG
  |with_reducible exact zlL
  |kernel_rfl
theorem zlB:false=prog.looks []:=by kernel_rfl
theorem zlt:false=Rows.topPointsAndMissedRow.goesBy prog:=Go.HL.goesBy_none (by kernel_rfl)
theorem zlM:Rows.topPointsAndMissedRow.wfByText (OpenSpec.ofChange Rows.topPointsAndMissedSpec)=true:=by kernel_rfl
theorem zlC:prog.mainIs=some ("591713889edae4229d27e33e95f6e39d007af1407a3548a18546918e6bde5766" |>fun h=>(true,h.toList)):=by kernel_rfl
theorem zlI:([22].all fun u=> !prog.wantsStandIn u)=true:=by kernel_rfl
theorem zgW:prog.funcNamed Rows.topPointsAndMissedRow.func=some 3:=by kernel_rfl
theorem zkJ:Rows.TopPointsAndMissedSaid:=
 OpenClaim.holds_of_wide 3 f3 rfl rfl rfl rfl rfl rfl rfl ⟨rfl,rfl,rfl,rfl,rfl⟩ rfl rfl rfl rfl rfl zgW func3 zly
  (of_decide_eq_true (by kernel_rfl)) (by unfold Func.isWrapper;first|(rw [if_pos (by decide+kernel)];kernel_rfl)|(rw [if_neg (by decide+kernel)];exact ⟨rfl,rfl⟩))
  (fun os started H enc _=>zko os started H enc)
theorem cardTopPointsAndMissed:Rows.TopPointsAndMissedCardSaid:=
 Claim7.holds_tied_plain_at .later [] [.data,.pinned] true (true,"591713889edae4229d27e33e95f6e39d007af1407a3548a18546918e6bde5766") false zkJ (fun _ h=>by cases h) zlM (fun _ h=>by cases h) topPointsAndMissed_row_tie rfl ⟨rfl,rfl⟩ zlC rfl
  (fun f fn hf hfn=>by
    obtain rfl:f=3:=Aw (zgW.symm.trans hf)|>.symm
    obtain rfl:fn=f3:=(Aw (func3.symm.trans hfn)).symm;exact ⟨zlB,fun j t ht=>by
     rw [Tryz.params3] at ht;have hm:t∈[22]:=by simpa using Array.mem_of_getElem? ht
     have hall:=zlI;exact (show prog.wantsStandIn t=false by simpa using List.all_eq_true.1 hall t hm)⟩)
  zlt
end
end Go.Proofs.YtpgopgjleokciaaGreatDoor
