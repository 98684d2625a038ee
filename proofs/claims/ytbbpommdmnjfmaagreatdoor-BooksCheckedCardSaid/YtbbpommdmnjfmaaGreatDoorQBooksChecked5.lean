/- Part 5 of the proof: contracts of functions and plain facts; no conditions. -/
import Derived.Test.YtbbpommdmnjfmaaGreatDoorQBooksChecked4
import Derived.Calls
import Derived.Handed
import Derived.LaidMore
import Derived.Lay
import Derived.Lib.LaidU8
import Derived.OpenShut
import Derived.ProofKit
import Derived.SevenTiedAt
import Derived.Shelf.Vars
import Derived.Stop.Joined
import GoSem.ClaimGoes
set_option linter.unusedVariables false
set_option linter.unusedSimpArgs false
set_option maxHeartbeats 16000000
namespace Go.Proofs.YtbbpommdmnjfmaaGreatDoor
set_option maxRecDepth 100000
set_option linter.unusedVariables false
set_option linter.unusedSimpArgs false
section
open Go.Proofs.Tryz
open Go.HL
theorem zja [Tracks] {b:Nat} {l:List Int} {a:Nat} (ha:a<=700000):Con prog 23 [pAt b] [St b l a] (fun x M'=> ∃k a',x=zbj k/\GoodMds k/\a'<=a+100/\M'=[St b l a']):=by
 refine uOb func23 ntmps23 ?_;refine gz6 ?_;refine zf (zG 7) ?_;refine gz2 ?_;refine dq (zb (hs:=[_,_,_]) zH ty9 rfl rfl (by decide) (by decide) rfl) ?_;refine dq (zaq (f:=HVal.str) (l:=mp3) zH rfl) ?_;refine gz3 ?_;refine uV2 [3,1,5,2,8,2,13,36] (fun (k:Nat) (q:GL MendS)=>[(13,.int .i64 k),(3,.raw q.u)]) (fun (k:Nat) (q:GL MendS)=>[St b l q.a,.arr q.u 7 (q.out.map zB)]) (fun (k:Nat) (q:GL MendS)=>k<=mp3.length/\(GLok zg7 (8*k) (a+24*k) q)) (fun (k:Nat) (q:GL MendS)=>mp3.length-k) (0) (⟨.slice none 0 0,[],a⟩) ?_ ?_ ?_ ?_;exact ⟨by decide,⟨by simp,by simp,uD⟩⟩;exact ⟨rfl,rfl,trivial⟩;exact uP
 intro k q hinv
 obtain ⟨hk,hq⟩:=hinv;have hk3:mp3.length=3:=rfl;obtain ⟨u,out,a2⟩:=q;obtain ⟨g1,g2,g3⟩:=id hq;dsimp only at g1 g2 g3;refine gz4 ?_;refine uCo (fun h1=> ?_) fun h2=> ?_
 obtain ⟨x,hx⟩: ∃x,mp3[k]? =some x:=⟨_,Aa h1⟩
 have hdx:=zi hx;refine gz5 ?_;refine dq (zl (f:=HVal.str) (l:=mp3) (j:=k) (a:=x) zH ty9 rfl rfl rfl hx) ?_;refine gz7 ?_;refine uV2 [3,1,6,1,8,2,17,31] (fun (w:Nat) (q2:GL MendS)=>[(6,.int .i64 ((w:Int)+1)),(3,.raw q2.u)]) (fun (w:Nat) (q2:GL MendS)=>[St b l q2.a,.arr q2.u 7 (q2.out.map zB)]) (fun (w:Nat) (q2:GL MendS)=>w<=2/\GLok zg7 (8*k+4*w) (a+24*k+12*w) q2) (fun (w:Nat) (q2:GL MendS)=>2-w) (0) (⟨u,out,a2⟩) ?_ ?_ ?_ ?_;exact ⟨by omega,hq.mono uO uO⟩;exact ⟨zg uO,rfl,trivial⟩;exact uP
 intro w q2 hinv
 obtain ⟨hw,hq2⟩:=hinv;obtain ⟨u,out,a2⟩:=q2;obtain ⟨g1,g2,g3⟩:=id hq2;dsimp only at g1 g2 g3;refine gz5 ?_;refine uCo (fun h3=> ?_) fun h4=> ?_
 refine gz5 ?_;refine dq (zb (hs:=[_,_]) zH ty9 rfl rfl (by decide) (by decide) rfl) ?_;refine dq (zaq (f:=HVal.str) (l:=ms2) zH rfl) ?_;refine gz3 ?_;refine uV2 [3,1,8,2,23,25] (fun (j:Nat) (q3:GL MendS)=>[(23,.int .i64 j),(3,.raw q3.u)]) (fun (j:Nat) (q3:GL MendS)=>[St b l q3.a,.arr q3.u 7 (q3.out.map zB)]) (fun (j:Nat) (q3:GL MendS)=>j<=ms2.length/\(GLok zg7 (8*k+4*w+2*j) (a+24*k+12*w+6*j) q3)) (fun (j:Nat) (q3:GL MendS)=>ms2.length-j) (0) (⟨u,out,a2⟩) ?_ ?_ ?_ ?_;exact ⟨by decide,hq2.mono uO uO⟩;exact ⟨rfl,rfl,trivial⟩;exact uP
 intro j q3 hinv
 obtain ⟨hj,hq3⟩:=hinv;have hj2:ms2.length=2:=rfl;obtain ⟨u,out,a2⟩:=q3;obtain ⟨g1,g2,g3⟩:=id hq3;dsimp only at g1 g2 g3;refine gz4 ?_;refine uCo (fun h5=> ?_) fun h6=> ?_
 obtain ⟨z,hz⟩: ∃z,ms2[j]? =some z:=⟨_,Aa h5⟩
 have hdz:=zi hz;refine gz5 ?_;refine dq (zl (f:=HVal.str) (l:=ms2) (j:=j) (a:=z) zH ty9 rfl rfl rfl hz) ?_;refine gz7 ?_;refine uV2 [3,1,9,1,27,20] (fun (v:Nat) (q4:GL MendS)=>[(9,.int .i64 ((v:Int)+1)),(3,.raw q4.u)]) (fun (v:Nat) (q4:GL MendS)=>[St b l q4.a,.arr q4.u 7 (q4.out.map zB)]) (fun (v:Nat) (q4:GL MendS)=>v<=2/\GLok zg7 (8*k+4*w+2*j+v) (a+24*k+12*w+6*j+3*v) q4) (fun (v:Nat) (q4:GL MendS)=>2-v) (0) (⟨u,out,a2⟩) ?_ ?_ ?_ ?_;exact ⟨by omega,hq3.mono uO uO⟩;exact ⟨zg uO,rfl,trivial⟩;exact uP
 intro v q4 hinv
 obtain ⟨hv,hq4⟩:=hinv;obtain ⟨u,out,a2⟩:=q4;obtain ⟨g1,g2,g3⟩:=id hq4;dsimp only at g1 g2 g3;refine gz5 ?_;refine uCo (fun h7=> ?_) fun h8=> ?_
 refine gz6 ?_;refine de rfl (za (i:=0) zdK rfl (WeakL.refl _) rfl (zK uS uS) ?_)
 rintro _ _ ⟨y32,rfl,rfl⟩;refine gz1 ?_;refine uCo (fun h9=> ?_) fun h10=> ?_
 refine gz6 ?_;refine dq (zb (hs:=[_,_,_]) zac ty3 rfl rfl (by decide) (by decide) rfl) ?_;refine de rfl (za (i:=0) za8 rfl (WeakL.refl _) rfl (zh (L:=[_,_,_]) uS uS uS) ?_)
 rintro _ _ ⟨y39,rfl,hy39,rfl⟩;refine gz1 ?_;refine dq (zb (hs:=[_,_,_]) zac ty3 rfl rfl (by decide) (by decide) rfl) ?_;refine de rfl (za (i:=0) za8 rfl (WeakL.refl _) rfl (zh (L:=[_,_,_]) uS uS uS) ?_)
 rintro _ _ ⟨y42,rfl,hy42,rfl⟩;refine gz1 ?_;refine dq (zas (cs:=[_,_,_,_,_,_,_]) zN zzx rfl) ?_;refine dq (zb (hs:=[_]) zak zN rfl rfl (by decide) (by decide) rfl) ?_;refine de rfl (zC (i:=1) zak zN rfl rfl rfl rfl rfl (by simp [zal,zd,zce,zbp]) (by simp;omega) fun v46=> ?_)
 refine gz9 ?_;exact ⟨v+1,⟨v46,out++[(⟨x,(w:Int)+1,z,y39,y42,(v:Int)+1,[98,111,115,115]⟩:MendS)],a2+1+1+1⟩,⟨by omega,hq4.add (x:=(⟨x,(w:Int)+1,z,y39,y42,(v:Int)+1,[98,111,115,115]⟩:MendS)) ⟨zxr x (Ac hx),zxs z (Ac hz),by unfold Sh;simp⟩ uO⟩,uD,⟨zg uO,rfl,trivial⟩,uK,zm (by dsimp only;rw [Ap];rfl)⟩;refine gz8 ?_;exact ⟨v+1,⟨u,out,a2+1⟩,⟨by omega,hq4.same uO⟩,uD,⟨zg uO,rfl,trivial⟩,uK,uP⟩;refine gz2 ?_;refine zM ?_;refine gz7 ?_;exact ⟨j+1,⟨u,out,a2⟩,⟨by omega,hq4.mono uO uO⟩,uD,⟨rfl,rfl,trivial⟩,uK,uP⟩;have hnj:ms2.length<=j:=by omega
 obtain rfl:j=ms2.length:=by omega
 refine gz2 ?_;refine zM ?_;refine gz8 ?_;exact ⟨w+1,⟨u,out,a2⟩,⟨by omega,hq3.mono uO uO⟩,uD,⟨zg uO,rfl,trivial⟩,uK,uP⟩;refine gz2 ?_;refine zM ?_;refine gz7 ?_;exact ⟨k+1,⟨u,out,a2⟩,⟨by omega,hq2.mono uO uO⟩,uD,⟨rfl,rfl,trivial⟩,uK,uP⟩;have hnk:mp3.length<=k:=by omega
 obtain rfl:k=mp3.length:=by omega
 refine gz2 ?_;refine zM ?_;refine gz2 ?_;refine uVj [10,1,49,59] (fun (q5:List MendS×Nat)=>[]) (fun (q5:List MendS×Nat)=>[St b l q5.2,.arr u 7 (q5.1.map zB)]) (fun (q5:List MendS×Nat)=>q5.1.length<=24/\(∀x∈q5.1,zg7 x)/\q5.2<=a+100) ?_ ?_
 skip
 refine gz2 ?_;refine de rfl (zaT (i:=1) zak rfl rfl ?_)
 refine gz3 ?_;refine dgx (fun x M'=> ∃(y:Bool) (a3:Nat),x= .bool y/\a3<=a2+1/\M'=[St b l a3,.arr u 7 (out.map zB)]) rfl rfl (fun hc=>⟨_,false,a2,rfl,by omega,rfl⟩) (fun hc=>⟨_,OpenTo.upd (t:=53) rfl (hc) (OpenTo.refl _),za (i:=0) zdK rfl (WeakL.refl _) rfl (zK (a:=a2) uO uO) (fun h M' hh=>by
  obtain ⟨y,h1,h2⟩:=hh;exact ⟨y,a2+1,h1,by omega,by rw [h2];rfl⟩)⟩) ?_
 rintro _ _ ⟨y,a3,rfl,ha3,rfl⟩;refine gz2 ?_;refine uCo (fun h11=> ?_) fun h12=> ?_
 have ho0:0<out.length:=by simp_all
 refine zb1 (i:=1) rfl (fun h0 he=> ?_) (fun ob off cap hv hcap=> ?_)
 exfalso;have:=congrArg List.length he;simp at this;subst this;simp at ho0
 subst hv;refine gz4 ?_;refine de rfl (zaT (i:=1) zak rfl rfl ?_)
 refine de rfl (za (i:=0) zfF rfl (WeakL.refl _) rfl (zW uS uS) ?_)
 rintro _ _ ⟨y60,rfl,hy60,rfl⟩;refine dq (ze (j:=y60) zak zN rfl rfl rfl (by simp;omega)) ?_;refine gz2 ?_;obtain ⟨x,hx⟩: ∃x,out[y60]? =some x:=⟨_,Aa uO⟩
 refine zaC (fun M=> ∃i:Nat,M[i]? =some (.arr (.slice (some ⟨ob,off,none⟩) (out.map zB).length cap) 7 (out.map zB))) [9,16,23,30] mixed ?_;refine gz9 ?_;refine uM 9 rfl ⟨1,rfl⟩ (fun M hM=>by obtain ⟨i,hi⟩:=hM;exact zaJ (i:=i) (j:=y60) 0 ty9 rfl uO hi hx rfl rfl ⟨rfl,rfl⟩) ?_;refine uB 10 rfl (zb (hs:=[_,_,_]) zH ty9 rfl rfl (by decide) (by decide) rfl) ?_;refine uA 12 ?_;refine gz3 ?_;refine uM 16 rfl ⟨1,rfl⟩ (fun M hM=>by obtain ⟨i,hi⟩:=hM;exact zaJ (i:=i) (j:=y60) 1 ty3 rfl uO hi hx rfl rfl ⟨rfl,rfl⟩) ?_;refine uB 17 rfl (zb (hs:=[_,_]) zac ty3 rfl rfl (by decide) (by decide) rfl) ?_;refine uA 19 ?_;refine gz3 ?_;refine uM 23 rfl ⟨1,rfl⟩ (fun M hM=>by obtain ⟨i,hi⟩:=hM;exact zaJ (i:=i) (j:=y60) 3 ty3 rfl uO hi hx rfl rfl ⟨rfl,rfl⟩) ?_;refine uB 24 rfl (zb (hs:=[_,_]) zac ty3 rfl rfl (by decide) (by decide) rfl) ?_;refine uA 26 ?_;refine gz3 ?_;refine uM 30 rfl ⟨1,rfl⟩ (fun M hM=>by obtain ⟨i,hi⟩:=hM;exact zaJ (i:=i) (j:=y60) 5 ty3 rfl uO hi hx rfl rfl ⟨rfl,rfl⟩) ?_;refine uB 31 rfl (zb (hs:=[_,_,_]) zac ty3 rfl rfl (by decide) (by decide) rfl) ?_;refine uA 33 ?_;refine uB 34 rfl (zb (hs:=[_,_]) zH ty9 rfl rfl (by decide) (by decide) rfl) ?_;refine uF 11 ?_;refine zy rfl (za (i:=0) zck rfl (WeakL.refl _) rfl (zt (L:=[_,_,_]) uS uS uS) ?_)
 rintro _ _ ⟨y73,rfl,hy73,rfl⟩;refine ⟨uE,?_⟩
 refine uF 18 ?_;refine zy rfl (za (i:=0) za8 rfl (WeakL.refl _) rfl (zh (L:=[_,_]) uS uS uS) ?_)
 rintro _ _ ⟨y80,rfl,hy80,rfl⟩;refine ⟨uE,?_⟩
 refine uF 25 ?_;refine zy rfl (za (i:=0) za8 rfl (WeakL.refl _) rfl (zh (L:=[_,_]) uS uS uS) ?_)
 rintro _ _ ⟨y87,rfl,hy87,rfl⟩;refine ⟨uE,?_⟩
 refine uF 32 ?_;refine zy rfl (za (i:=0) za8 rfl (WeakL.refl _) rfl (zh (L:=[_,_,_]) uS uS uS) ?_)
 rintro _ _ ⟨y94,rfl,hy94,rfl⟩;refine ⟨uE,?_⟩
 refine uF 35 ?_;refine zy rfl (za (i:=0) zck rfl (WeakL.refl _) rfl (zt (L:=[_,_]) uS uS uS) ?_)
 rintro _ _ ⟨y97,rfl,hy97,rfl⟩;refine ⟨uE,?_⟩
 refine gz2 ?_;refine uF 38 ?_;refine zF (z8 (i:=1) (j:=y60) (f:=0) (y:=zB x) (y':=zB ⟨y73,x.Week,x.Stat,x.Count,x.At,x.Version,x.By⟩) ty9 rfl uO rfl rfl (za5 hx) rfl rfl (by simp [zd]) rfl ?_)
 refine ⟨fun _=> .inr (by simp [zS,Region.binds]),?_⟩
 refine gz2 ?_;refine uF 41 ?_;refine zF (z8 (i:=1) (j:=y60) (f:=1) (y:=zB ⟨y73,x.Week,x.Stat,x.Count,x.At,x.Version,x.By⟩) (y':=zB ⟨y73,y80,x.Stat,x.Count,x.At,x.Version,x.By⟩) ty3 rfl uO rfl rfl (za7 (za5 hx)) rfl rfl (by simp [zd]) rfl ?_)
 refine ⟨fun _=> .inr (by simp [zS,Region.binds]),?_⟩
 refine gz2 ?_;refine uF 44 ?_;refine zF (z8 (i:=1) (j:=y60) (f:=3) (y:=zB ⟨y73,y80,x.Stat,x.Count,x.At,x.Version,x.By⟩) (y':=zB ⟨y73,y80,x.Stat,y87,x.At,x.Version,x.By⟩) ty3 rfl uO rfl rfl (za7 (za7 (za5 hx))) rfl rfl (by simp [zd]) rfl ?_)
 refine ⟨fun _=> .inr (by simp [zS,Region.binds]),?_⟩
 refine gz2 ?_;refine uF 47 ?_;refine zF (z8 (i:=1) (j:=y60) (f:=5) (y:=zB ⟨y73,y80,x.Stat,y87,x.At,x.Version,x.By⟩) (y':=zB ⟨y73,y80,x.Stat,y87,x.At,y94,x.By⟩) ty3 rfl uO rfl rfl (za7 (za7 (za7 (za5 hx)))) rfl rfl (by simp [zd]) rfl ?_)
 refine ⟨fun _=> .inr (by simp [zS,Region.binds]),?_⟩
 refine gz2 ?_;refine uF 50 ?_;refine zF (z8 (i:=1) (j:=y60) (f:=6) (y:=zB ⟨y73,y80,x.Stat,y87,x.At,y94,x.By⟩) (y':=zB ⟨y73,y80,x.Stat,y87,x.At,y94,y97⟩) ty9 rfl uO rfl rfl (za7 (za7 (za7 (za7 (za5 hx))))) rfl rfl (by simp [zd]) rfl ?_)
 refine ⟨fun _=> .inr (by simp [zS,Region.binds]),?_⟩
 refine gz1 ?_;exact ⟨(out.set y60 ⟨y73,y80,x.Stat,y87,x.At,y94,y97⟩,a3+1+1+1+1+1+1),⟨by simp;omega,zes (P:=zg7) g2 (by
  have hgx:=g2 x (Ac hx);exact ⟨by simp at hy73;rcases hy73 with rfl|rfl|rfl;exact hgx.1;exact zoS;(unfold Sh;simp),hgx.2.1,by simp at hy97;rcases hy97 with rfl|rfl<;>(unfold Sh;simp)⟩),uD⟩,trivial,uK,uP⟩
 refine gz1 ?_;exact ⟨(out,a3),⟨uD,g2,uD⟩,trivial,uK,uP⟩
 intro q5 hq5
 obtain ⟨k1,a4⟩:=q5;dsimp only at hq5;obtain ⟨q1,q2,q3⟩:=hq5;refine gz5 ?_;exact zag (zaP 2 (i:=1) rfl rfl) rfl ⟨k1,a4,rfl,⟨by omega,q2⟩,by omega,rfl⟩
end
end Go.Proofs.YtbbpommdmnjfmaaGreatDoor
namespace Go.HL
section
open Op
def zop (x:ChoiceS):Prop:=(∀s∈x.Players,Sh s)/\Sh x.Captain/\x.Players.length<=5
def GoodC4 (x:ChoiceS):Prop:=(∀s∈x.Players,Sh s)/\Sh x.Captain/\x.Players.length<=4
theorem GoodC4.up {x:ChoiceS} (h:GoodC4 x):zop x:=⟨h.1,h.2.1,Nat.le_succ_of_le h.2.2⟩
structure GoodChs (l:List ChoiceS):Prop where
 len:l.length<=20
 all: ∀x∈l,zop x
structure BookG (b:BookS):Prop where
 lea:LeaC b.League
 mv:b.Moves.length<=10
 mb: ∀x∈b.Moves,MovB x
 pl:GoodPl b.Plays
 me:GoodMds b.Mends
 he:GoodHes b.Health
 ch:GoodChs b.Choices
theorem BookG.c {b:BookS} (h:BookG b):BookC b:=by
 have a1:=h.mv;have a2:=h.pl.len;have a3:=h.me.len;have a4:=h.he.len;have a5:=h.ch.len;exact ⟨⟨h.lea.lea,by omega,by omega,by omega,by omega,by omega,fun x hx=>by have:=(h.ch.all x hx).2.2;omega⟩,h.lea.gw,h.mb,h.he.all,h.lea.tr,h.pl.all,h.me.all,fun x hx=>⟨(h.ch.all x hx).1,(h.ch.all x hx).2.1⟩,by omega,by omega,by omega,by omega,by omega⟩
structure HalfBk (c d b:BookS):Prop where
 gc:c.League=b.League
 gd:d.League=b.League
 mv:HalfG c.Moves d.Moves b.Moves
 pl:Half c.Plays d.Plays b.Plays
 me:HalfG c.Mends d.Mends b.Mends
 he:HalfG c.Health d.Health b.Health
 ch:HalfG c.Choices d.Choices b.Choices
theorem zpY {c b:BookS} (h:BookG b) (g:c.League=b.League) (m:List.Sublist c.Moves b.Moves) (p:List.Sublist c.Plays b.Plays) (n:List.Sublist c.Mends b.Mends) (e:List.Sublist c.Health b.Health) (k:List.Sublist c.Choices b.Choices):BookG c:=
 ⟨by rw [g];exact h.lea,AA m.length_le h.mv,fun x hx=>h.mb x (m.subset hx),⟨AA p.length_le h.pl.len,fun x hx=>h.pl.all x (p.subset hx)⟩,⟨AA n.length_le h.me.len,fun x hx=>h.me.all x (n.subset hx)⟩,
  ⟨AA e.length_le h.he.len,fun x hx=>h.he.all x (e.subset hx)⟩,⟨AA k.length_le h.ch.len,fun x hx=>h.ch.all x (k.subset hx)⟩⟩
theorem HalfBk.good {c d b:BookS} (h:HalfBk c d b) (hb:BookG b):BookG c/\BookG d:=
 ⟨zpY hb h.gc h.mv.sa h.pl.sa h.me.sa h.he.sa h.ch.sa,zpY hb h.gd h.mv.sb h.pl.sb h.me.sb h.he.sb h.ch.sb⟩
def zpU (b:BookS) (x:ChoiceS):BookS:=⟨b.League,b.Moves,b.Plays,b.Mends,b.Health,b.Choices.set 0 ⟨x.Team,x.Week,x.At,x.Players,[122,111,101]⟩⟩
theorem zvD {b:BookS} {x:ChoiceS} (h:BookG b) (hx:b.Choices[0]? =some x):BookG (zpU b x):=
 ⟨h.lea,h.mv,h.mb,h.pl,h.me,h.he,⟨by unfold zpU;rw [List.length_set];exact h.ch.len,zes (P:=zop) h.ch.all ⟨(h.ch.all x (Ac hx)).1,by unfold Sh;simp,(h.ch.all x (Ac hx)).2.2⟩⟩⟩
theorem znB:BookB zfW:=
 ⟨⟨by decide,fun _ h=>(by cases h),fun _ h=>(by cases h),by decide,by decide,by decide,fun _ h=>(by cases h),by decide,fun _ h=>(by cases h),by decide,by decide,fun _ h=>(by cases h),by decide,by decide,by decide⟩,
  by decide,by decide,by decide,by decide,by decide,fun _ h=>(by cases h)⟩
theorem zwV {a b:BookS} (ha:BookC a) (hb:BookC b):BookB (zpg a b):=by
 by_cases h1:orI [zbS a,zbS b]=0
 rw [(zii h1).2];obtain ⟨hza,hzb⟩:zbS a=0/\zbS b=0:=by rw [zcz] at h1;exact zb3 h1
 have hra:=zfX hza;have hrb:=zfX hzb
 cases hs:zdV a.League b.League
 rw [(zih hs).2];exact znB
 by_cases h5:zgx a b=0
 rw [<-zrG hra hrb hs h5];exact zuk ha hb;rw [(zm1 hs h5).2];exact znB;rw [(zm0 h1).2];exact znB
def g0L:LeagueS:=⟨[],[],[],[],[⟨[115,97],[[103,107]]⟩],⟨3,0,5,0⟩,[[116,97],[116,98]],[],[],[],0⟩
theorem g0_b:LeaB g0L:=
 ⟨by decide,fun _ h=>(by cases h),fun _ h=>(by cases h),by decide,by decide,by decide,fun _ h=>(by cases h),by decide,fun x hx=>(by simp only [g0L,List.mem_singleton] at hx;subst hx;decide),by decide,by decide,fun _ h=>(by cases h),by decide,by decide,by decide⟩
theorem g0_E:zbe g0L=0:=by decide
theorem g0_W:zbK g0L 604800000=2:=by decide
theorem g0_M:zau 604800000=true:=by decide
def wkN (g:LeagueS) (a:Int):Int:=if zbe g≠0 then 0 else if zau a=false then 0 else zbK g a
def wkE (g:LeagueS) (a:Int):Int:=if zbe g≠0 then zbe g else if zau a=false then 1 else 0
theorem zxF (g:LeagueS) (a:Int):HVal.tup [.int .i64 (if zbe g≠0 then 0 else if zau a=false then 0 else zbK g a),.bool (if zbe g≠0 then false else if zau a=false then false else decide (0<zbK g a)),.int .i64 (if zbe g≠0 then zbe g else if zau a=false then 1 else 0)]= .tup [.int .i64 (wkN g a),.bool (decide (0<wkN g a)),.int .i64 (wkE g a)]:=by
 unfold wkN wkE
 by_cases h1:zbe g≠0
 rw [if_pos h1,if_pos h1,if_pos h1];rfl;rw [if_neg h1,if_neg h1,if_neg h1]
 by_cases h2:zau a=false
 rw [if_pos h2,if_pos h2,if_pos h2];rfl;rw [if_neg h2,if_neg h2,if_neg h2]
theorem zzK (g:LeagueS) (a:Int):orI [zbe g,if zau a=true then 0 else 1]=wkE g a:=by
 rw [zcz,wkE]
 by_cases h1:zbe g≠0
 rw [if_pos h1,if_pos h1];rw [if_neg h1,if_neg h1]
 cases zau a<;>rfl
theorem zxG {g:LeagueS} {a:Int} (h:wkE g a=0):zbK g a=wkN g a:=by
 unfold wkE at h;unfold wkN
 by_cases h1:zbe g≠0
 rw [if_pos h1] at h;exact absurd h h1;rw [if_neg h1] at h
 by_cases h2:zau a=false
 rw [if_pos h2] at h;contradiction;rw [if_neg h1,if_neg h2]
theorem zzJ {g:LeagueS} {a:Int} (h: ¬wkE g a=0):(0:Int)=wkN g a:=by
 unfold wkE at h;unfold wkN
 by_cases h1:zbe g≠0
 rw [if_pos h1];rw [if_neg h1] at h
 by_cases h2:zau a=false
 rw [if_neg h1,if_pos h2];rw [if_neg h2] at h;exact absurd rfl h
end
end Go.HL
namespace Go.Proofs.YtbbpommdmnjfmaaGreatDoor
set_option maxRecDepth 100000
set_option linter.unusedVariables false
set_option linter.unusedSimpArgs false
section
open Go.Proofs.Tryz
open Go.HL
theorem zej [Tracks] {b:Nat} {l:List Int} {a:Nat} (ha:a<=500000):Con prog 4 [pAt b] [St b l a] (fun x M'=> ∃k a',x=zan k/\BookG k/\a'<=a+2000/\M'=[St b l a']):=by
 refine zbU func4 rfl ntmps4 rfl rfl ?_;refine gz1 ?_;refine de rfl (zq zaz rfl fun b2=> ?_)
 refine gz3 ?_;refine de rfl (za (i:=1) ca21 rfl (WeakL.refl _) rfl (zh4 uS) ?_)
 rintro _ _ ⟨g13,a13,rfl,hg13,ha13,rfl⟩;refine gz1 ?_;refine de rfl (za (i:=0) ca22 rfl (WeakL.refl _) rfl (zjB uS) ?_)
 rintro _ _ ⟨p15,a15,rfl,hp15,ha15,rfl⟩;refine gz1 ?_;refine de rfl (za (i:=0) ca23 rfl (WeakL.refl _) rfl (zja uS) ?_)
 rintro _ _ ⟨m17,a17,rfl,hm17,ha17,rfl⟩;refine dq (zzH zaz zn2) ?_;refine de rfl (zq zaz rfl fun b3=> ?_)
 refine de0 (uY 0 ?_)
 refine zaD ?_;refine de rfl (za (i:=1) zgh rfl (WeakL.refl _) rfl (zY uS uS uS uS) ?_)
 rintro _ _ ⟨y20,rfl,hy20,rfl⟩;refine gz2 ?_;refine zf (zG 4) ?_;refine gz1 ?_;refine uV3 [5,1,21,24] (fun (n:Nat) (at1:Int) (q:GL MoveS)=>[(21,.int .i64 (n:Int)),(5,.int .i64 at1)]) (fun (n:Nat) (at1:Int) (q:GL MoveS)=>[St b l q.a,.cells b2 zgX,.cells b3 (bkC g13 (.raw q.u) (zbk p15) (zbj m17) (.raw (.slice none 0 0)) (.raw (.slice none 0 0))),.arr q.u 4 (q.out.map zaS)]) (fun (n:Nat) (at1:Int) (q:GL MoveS)=>(n:Int)<=y20/\(0<=at1/\at1<=20*n)/\GLok MovB n (a17+1+4*n) q) (fun (n:Nat) (at1:Int) (q:GL MoveS)=>y20.toNat-n) (0) (0) (⟨.slice none 0 0,[],a17+1⟩) ?_ ?_ ?_ ?_
 ·exact ⟨by omega,by omega,⟨by simp,by simp,uD⟩⟩
 ·exact ⟨rfl,rfl,trivial⟩
 ·exact by repeat (first|exact List.Perm.nil|refine zaN 0 rfl ?_|refine zaN 1 rfl ?_|refine zaN 2 rfl ?_|refine zaN 3 rfl ?_|refine zaN 4 rfl ?_|refine zaN 5 rfl ?_|(refine zaF 0 rfl ?hq ?_;(case hq=>simp [zaW,zd];done))|(refine zaF 1 rfl ?hq ?_;(case hq=>simp [zaW,zd];done))|(refine zaF 2 rfl ?hq ?_;(case hq=>simp [zaW,zd];done))|(refine zaF 3 rfl ?hq ?_;(case hq=>simp [zaW,zd];done))|(refine zaF 4 rfl ?hq ?_;(case hq=>simp [zaW,zd];done))|(refine zaF 5 rfl ?hq ?_;(case hq=>simp [zaW,zd];done))|fail)
 ·intro n at1 q hinv
  obtain ⟨hn,hat,hq⟩:=hinv;obtain ⟨u,out,a1⟩:=q;obtain ⟨g1,g2,g3⟩:=id hq;dsimp only at g1 g2 g3;refine gz4 ?_;refine uCo (fun h1=> ?_) fun h2=> ?_
  ·refine gz7 ?_;refine dq (zb (hs:=[_,_,_,_]) zac ty3 rfl rfl (by decide) (by decide) rfl) ?_;refine de rfl (za (i:=0) za8 rfl (WeakL.refl _) rfl (zh (L:=[_,_,_,_]) uS uS uS) ?_)
   rintro _ _ ⟨y26,rfl,hy26,rfl⟩;refine dq (zcI rfl rfl (by simp at hy26;omega) (by simp at hy26;omega)) ?_;refine gz2 ?_;refine zaC (fun M=> ∃i:Nat,M[i]? =some (.cells b3 (bkC g13 (.raw u) (zbk p15) (zbj m17) (.raw (.slice none 0 0)) (.raw (.slice none 0 0))))) [1] mixed ?_;refine gz1 ?_;refine uM 1 rfl ⟨2,rfl⟩ (fun M hM=>by obtain ⟨i,hi⟩:=hM;exact zao (i:=i) (h:= .raw u) zaZ rfl hi (.inl ⟨rfl,rfl⟩) ⟨rfl,rfl⟩) ?_;refine gz2 ?_;refine uB 4 rfl (zb (hs:=[_,_,_,_,_,_]) zac ty3 rfl rfl (by decide) (by decide) rfl) ?_;refine uA 6 ?_;refine uB 7 rfl (zb (hs:=[_,_]) zH ty9 rfl rfl (by decide) (by decide) rfl) ?_;refine uA 9 ?_;refine uB 10 rfl (zb (hs:=[_,_,_,_,_]) zH ty9 rfl rfl (by decide) (by decide) rfl) ?_;refine uF 5 ?_;refine zy rfl (za (i:=0) za8 rfl (WeakL.refl _) rfl (zh (L:=[_,_,_,_,_,_]) uS uS uS) ?_)
   rintro _ _ ⟨y33,rfl,hy33,rfl⟩;refine ⟨uE,?_⟩
   refine uF 8 ?_;refine zy rfl (za (i:=0) zck rfl (WeakL.refl _) rfl (zt (L:=[_,_]) uS uS uS) ?_)
   rintro _ _ ⟨y36,rfl,hy36,rfl⟩;refine ⟨uE,?_⟩
   refine uF 11 ?_;refine zy rfl (za (i:=0) zck rfl (WeakL.refl _) rfl (zt (L:=[_,_,_,_,_]) uS uS uS) ?_)
   rintro _ _ ⟨y39,rfl,hy39,rfl⟩;refine ⟨uE,?_⟩
   refine uB 12 rfl (zas (cs:=[_,_,_,_]) zaR pl72 rfl) ?_;refine uB 13 rfl (zb (hs:=[_]) zaZ zaR rfl rfl (by decide) (by decide) rfl) ?_;refine uF 14 ?_;refine zy rfl (zC (i:=3) zaZ zaR rfl rfl rfl rfl rfl (by simp [zal,zd]) (by first|omega|(simp;omega)) fun v42=> ?_)
   refine ⟨uE,?_⟩
   refine gz1 ?_;refine uF 16 ?_;refine zF (uY 2 ?_)
   refine ⟨uE,?_⟩
   refine gz7 ?_;exact ⟨n+1,at1+y26,⟨v42,out++[(⟨at1+y26,y33,y36,y39⟩:MoveS)],a1+1+1+1+1⟩,⟨by omega,by simp at hy26;omega,hq.add (x:=(⟨at1+y26,y33,y36,y39⟩:MoveS)) ⟨by simp at hy26;dsimp only;omega,by simp at hy33;dsimp only;omega⟩ uO⟩,uD,⟨rfl,rfl,trivial⟩,uK,uQ⟩
  ·refine gz2 ?_;refine zbX ?_;refine gz4 ?_;refine de rfl (uZ 2 ?_)
   refine de rfl (za (i:=3) ca27 rfl (WeakL.refl _) rfl (zoC (l:=out) g2 uO) ?_)
   rintro _ _ ⟨Z,rfl,hzp,rfl⟩;have hzl:=hzp.length_eq;refine gz3 ?_;refine de rfl (uZ 3 ?_)
   refine de rfl (za (i:=0) zuO rfl (WeakL.refl _) rfl (zcb (l:=Z) uO) ?_)
   rintro _ _ ⟨u50,rfl,rfl⟩;refine gz1 ?_;refine de0 (uY 3 ?_)
   refine gz1 ?_;have hul:=zdw Z none;have hub: ∀x∈zv none Z,MovB x:=fun x hx=>g2 x (hzp.mem_iff.1 (zea Z none x hx))
   refine zf (Ghost.perm (M':=[St b l a1,.cells b2 zgX,.cells b3 (bkC g13 (.raw u50) (zbk p15) (zbj m17) (.raw (.slice none 0 0)) (.raw (.slice none 0 0))),.arr u50 4 ((zv none Z).map zaS)]) uQ) ?_;refine zf (zbM (i:=3) (k:=2) (j:=14) rfl rfl rfl) ?_;refine gz4 ?_;refine de rfl (uZ 2 ?_)
   refine de rfl (za (i:=0) ca30 rfl (WeakL.refl _) rfl (zh3 (a:=a1) (L:=g13.Players) uO (by have:=hg13.pl;omega)) ?_)
   rintro _ _ ⟨k56,a56,rfl,hk56,ha56,rfl⟩;refine gz1 ?_;refine de0 (uY 2 ?_)
   refine gz5 ?_;refine de rfl (uZ 2 ?_)
   refine dq (zaq (f:=HVal.str) (l:=g13.Teams) zH rfl) ?_;refine gz2 ?_;refine zf (zG 5) ?_;refine gz1 ?_;refine uV2 [7,4,62,54] (fun (k:Nat) (q:GL ChoiceS)=>[(62,.int .i64 k)]) (fun (k:Nat) (q:GL ChoiceS)=>[St b l q.a,.cells b2 zgX,.cells b3 (bkC g13 (zbB (zv none Z)) (zbk p15) (zbj m17) (za1 k56) (.raw q.u)),.arr q.u 5 (q.out.map zk)]) (fun (k:Nat) (q:GL ChoiceS)=>k<=g13.Teams.length/\(GLok GoodC4 (4*k) (a56+28*k) q)) (fun (k:Nat) (q:GL ChoiceS)=>g13.Teams.length-k) (0) (⟨.slice none 0 0,[],a56⟩) ?_ ?_ ?_ ?_
   ·exact ⟨Ad _,⟨by simp,by simp,uD⟩⟩
   ·exact ⟨rfl,trivial⟩
   ·exact by repeat (first|exact List.Perm.nil|refine zaN 0 rfl ?_|refine zaN 1 rfl ?_|refine zaN 2 rfl ?_|refine zaN 3 rfl ?_|refine zaN 4 rfl ?_|refine zaN 5 rfl ?_|(refine zaF 0 rfl ?hq ?_;(case hq=>simp [zaW,zd];done))|(refine zaF 1 rfl ?hq ?_;(case hq=>simp [zaW,zd];done))|(refine zaF 2 rfl ?hq ?_;(case hq=>simp [zaW,zd];done))|(refine zaF 3 rfl ?hq ?_;(case hq=>simp [zaW,zd];done))|(refine zaF 4 rfl ?hq ?_;(case hq=>simp [zaW,zd];done))|(refine zaF 5 rfl ?hq ?_;(case hq=>simp [zaW,zd];done))|fail)
   ·intro k q hinv
    obtain ⟨hk,hq⟩:=hinv;obtain ⟨u,out,a2⟩:=q;obtain ⟨g1,g2,g3⟩:=id hq;dsimp only at g1 g2 g3;have htm:=hg13.tm;refine gz4 ?_;refine uCo (fun h3=> ?_) fun h4=> ?_
    ·obtain ⟨x,hx⟩: ∃x,g13.Teams[k]? =some x:=⟨_,Aa h3⟩
     have hdx:=zi hx;refine gz5 ?_;refine dq (zl (f:=HVal.str) (l:=g13.Teams) (j:=k) (a:=x) zH ty9 rfl rfl rfl hx) ?_;refine gz7 ?_;refine uV2 [8,3,66,49] (fun (w:Nat) (q2:GL ChoiceS)=>[(8,.int .i64 ((w:Int)+1))]) (fun (w:Nat) (q2:GL ChoiceS)=>[St b l q2.a,.cells b2 zgX,.cells b3 (bkC g13 (zbB (zv none Z)) (zbk p15) (zbj m17) (za1 k56) (.raw q2.u)),.arr q2.u 5 (q2.out.map zk)]) (fun (w:Nat) (q2:GL ChoiceS)=>w<=2/\GLok GoodC4 (4*k+2*w) (a56+28*k+14*w) q2) (fun (w:Nat) (q2:GL ChoiceS)=>2-w) (0) (⟨u,out,a2⟩) ?_ ?_ ?_ ?_
     ·exact ⟨by omega,hq.mono uO uO⟩
     ·exact ⟨zg uO,trivial⟩
     ·exact by repeat (first|exact List.Perm.nil|refine zaN 0 rfl ?_|refine zaN 1 rfl ?_|refine zaN 2 rfl ?_|refine zaN 3 rfl ?_|refine zaN 4 rfl ?_|refine zaN 5 rfl ?_|(refine zaF 0 rfl ?hq ?_;(case hq=>simp [zaW,zd];done))|(refine zaF 1 rfl ?hq ?_;(case hq=>simp [zaW,zd];done))|(refine zaF 2 rfl ?hq ?_;(case hq=>simp [zaW,zd];done))|(refine zaF 3 rfl ?hq ?_;(case hq=>simp [zaW,zd];done))|(refine zaF 4 rfl ?hq ?_;(case hq=>simp [zaW,zd];done))|(refine zaF 5 rfl ?hq ?_;(case hq=>simp [zaW,zd];done))|fail)
     ·intro w q2 hinv
      obtain ⟨hw,hq2⟩:=hinv;obtain ⟨u,out,a2⟩:=q2;obtain ⟨g1,g2,g3⟩:=id hq2;dsimp only at g1 g2 g3;refine gz5 ?_;refine uCo (fun h5=> ?_) fun h6=> ?_
      ·refine gz8 ?_;refine dq (zb (hs:=[_,_,_]) zac ty3 rfl rfl (by decide) (by decide) rfl) ?_;refine de rfl (za (i:=0) za8 rfl (WeakL.refl _) rfl (zh (L:=[_,_,_]) uS uS uS) ?_)
       rintro _ _ ⟨y74,rfl,hy74,rfl⟩;refine gz2 ?_;have hb74:0<=y74/\y74<=604799999:=by simp at hy74;omega
       refine gz2 ?_;refine dq (zb (hs:=[_,_,_,_]) zac ty3 rfl rfl (by decide) (by decide) rfl) ?_;refine de rfl (za (i:=0) za8 rfl (WeakL.refl _) rfl (zh (L:=[_,_,_,_]) uS uS uS) ?_)
       rintro _ _ ⟨y77,rfl,hy77,rfl⟩;refine gz2 ?_;have hb77:0<=y77/\y77<=2:=by simp at hy77;omega
       refine gz1 ?_;refine uV3 [9,2,78,37] (fun (n:Nat) (at2:Int) (q3:GL ChoiceS)=>[(78,.int .i64 (n:Int)),(9,.int .i64 at2)]) (fun (n:Nat) (at2:Int) (q3:GL ChoiceS)=>[St b l q3.a,.cells b2 zgX,.cells b3 (bkC g13 (zbB (zv none Z)) (zbk p15) (zbj m17) (za1 k56) (.raw q3.u)),.arr q3.u 5 (q3.out.map zk)]) (fun (n:Nat) (at2:Int) (q3:GL ChoiceS)=>(n:Int)<=y77/\(0<=at2/\at2<=604800000*((n:Int)+1))/\GLok GoodC4 (4*k+2*w+n) (a56+28*k+14*w+2+6*n) q3) (fun (n:Nat) (at2:Int) (q3:GL ChoiceS)=>y77.toNat-n) (0) (y74) (⟨u,out,a2+1+1⟩) ?_ ?_ ?_ ?_
       ·exact ⟨by omega,by omega,⟨uD,g2,uD⟩⟩
       ·exact ⟨rfl,rfl,trivial⟩
       ·exact by repeat (first|exact List.Perm.nil|refine zaN 0 rfl ?_|refine zaN 1 rfl ?_|refine zaN 2 rfl ?_|refine zaN 3 rfl ?_|refine zaN 4 rfl ?_|refine zaN 5 rfl ?_|(refine zaF 0 rfl ?hq ?_;(case hq=>simp [zaW,zd];done))|(refine zaF 1 rfl ?hq ?_;(case hq=>simp [zaW,zd];done))|(refine zaF 2 rfl ?hq ?_;(case hq=>simp [zaW,zd];done))|(refine zaF 3 rfl ?hq ?_;(case hq=>simp [zaW,zd];done))|(refine zaF 4 rfl ?hq ?_;(case hq=>simp [zaW,zd];done))|(refine zaF 5 rfl ?hq ?_;(case hq=>simp [zaW,zd];done))|fail)
       ·intro n at2 q3 hinv
        obtain ⟨hn,hat2,hq3⟩:=hinv;obtain ⟨u,out,a2⟩:=q3;obtain ⟨g1,g2,g3⟩:=id hq3;dsimp only at g1 g2 g3;refine gz4 ?_;refine uCo (fun h7=> ?_) fun h8=> ?_
        ·refine gz9 ?_;refine dq (zb (hs:=[_,_,_,_]) zH ty9 rfl rfl (by decide) (by decide) rfl) ?_;refine de rfl (za (i:=0) zck rfl (WeakL.refl _) rfl (zt (L:=[_,_,_,_]) uS uS uS) ?_)
         rintro _ _ ⟨y85,rfl,hy85,rfl⟩;refine dq (zas (cs:=[_,_,_,_,_]) zR pl59 rfl) ?_;refine de rfl (zq zR rfl fun b10=> ?_)
         refine de0 (uY 0 ?_)
         refine gz5 ?_;refine de rfl (uZ 3 ?_)
         refine dq (zaq (f:=za4) (l:=g13.Slots) zcn rfl) ?_;refine gz2 ?_;refine zf (zG 1) ?_;refine gz1 ?_;refine uV2 [91,11] (fun (j:Nat) (p:GL Str)=>[(91,.int .i64 j)]) (fun (j:Nat) (p:GL Str)=>[St b l p.a,.cells b10 [.str x,.int .i64 ((w:Int)+1),.int .i64 at2,.raw p.u,.str y85],.arr p.u 1 (p.out.map .str),.cells b2 zgX,.cells b3 (bkC g13 (zbB (zv none Z)) (zbk p15) (zbj m17) (za1 k56) (.raw u)),.arr u 5 (out.map zk)]) (fun (j:Nat) (p:GL Str)=>j<=g13.Slots.length/\(p.out.length=j/\(∀s∈p.out,Sh s)/\p.a=a2+1+j)) (fun (j:Nat) (p:GL Str)=>g13.Slots.length-j) (0) (⟨.slice none 0 0,[],a2+1⟩) ?_ ?_ ?_ ?_
         ·exact ⟨Ad _,rfl,by simp,rfl⟩
         ·exact ⟨rfl,trivial⟩
         ·exact by repeat (first|exact List.Perm.nil|refine zaN 0 rfl ?_|refine zaN 1 rfl ?_|refine zaN 2 rfl ?_|refine zaN 3 rfl ?_|refine zaN 4 rfl ?_|refine zaN 5 rfl ?_|(refine zaF 0 rfl ?hq ?_;(case hq=>simp [zaW,zd];done))|(refine zaF 1 rfl ?hq ?_;(case hq=>simp [zaW,zd];done))|(refine zaF 2 rfl ?hq ?_;(case hq=>simp [zaW,zd];done))|(refine zaF 3 rfl ?hq ?_;(case hq=>simp [zaW,zd];done))|(refine zaF 4 rfl ?hq ?_;(case hq=>simp [zaW,zd];done))|(refine zaF 5 rfl ?hq ?_;(case hq=>simp [zaW,zd];done))|fail)
         ·intro j p hinv
          obtain ⟨hj,hp⟩:=hinv;obtain ⟨v,ps,a5⟩:=p;dsimp only at hp;obtain ⟨hp1,hp2,hp3⟩:=hp;have hsl:=hg13.sl;refine gz4 ?_;refine uCo (fun h9=> ?_) fun h10=> ?_
          ·obtain ⟨z,hz⟩: ∃z,g13.Slots[j]? =some z:=⟨_,Aa h9⟩
           have hdz:=zi hz;refine gz4 ?_;refine zaC (fun M=> ∃i:Nat,M[i]? =some (.cells b10 [.str x,.int .i64 ((w:Int)+1),.int .i64 at2,.raw v,.str y85])) [1] mixed ?_;refine gz1 ?_;refine uM 1 rfl ⟨1,rfl⟩ (fun M hM=>by obtain ⟨i,hi⟩:=hM;exact zao (i:=i) (h:= .raw v) zH rfl hi (.inl ⟨rfl,rfl⟩) ⟨rfl,rfl⟩) ?_;refine gz1 ?_;refine uB 3 rfl (zb (hs:=[_,_,_,_,_,_,_,_]) zH ty9 rfl rfl (by decide) (by decide) rfl) ?_;refine uF 4 ?_;refine zy rfl (za (i:=0) zck rfl (WeakL.refl _) rfl (zt (L:=[_,_,_,_,_,_,_,_]) uS uS uS) ?_)
           rintro _ _ ⟨y97,rfl,hy97,rfl⟩;refine ⟨uE,?_⟩
           refine uB 5 rfl (zb (hs:=[_]) zH ty9 rfl rfl (by decide) (by decide) rfl) ?_;refine uF 6 ?_;refine zy rfl (zC (i:=2) zH ty9 rfl rfl rfl rfl rfl (by simp [zal,zd]) (by first|omega|(simp;omega)) fun v99=> ?_)
           refine ⟨uE,?_⟩
           refine gz1 ?_;refine uF 8 ?_;refine zF (uY 1 ?_)
           refine ⟨uE,?_⟩
           refine gz7 ?_;exact ⟨j+1,⟨v99,ps++[y97],a5+1⟩,⟨by omega,by simp;omega,fun s hs=>by
            rcases List.mem_append.1 hs with hs|hs
            ·exact hp2 s hs
            ·rw [List.mem_singleton.1 hs];simp at hy97;rcases hy97 with rfl|rfl|rfl|rfl|rfl|rfl|rfl|rfl<;>(unfold Sh;simp),uD⟩,uD,⟨rfl,trivial⟩,uK,uQ⟩
          ·have hnj:g13.Slots.length<=j:=by omega
           obtain rfl:j=g13.Slots.length:=by omega
           refine gz2 ?_;refine zM ?_;refine gz2 ?_;refine zf (zbM (i:=2) (k:=1) (j:=3) rfl rfl rfl) ?_;refine zf (zP (M':=[St b l a5,.cells b10 (zd (zk (⟨x,(w:Int)+1,at2,ps,y85⟩:ChoiceS))),.cells b2 zgX,.cells b3 (bkC g13 (zbB (zv none Z)) (zbk p15) (zbj m17) (za1 k56) (.raw u)),.arr u 5 (out.map zk)]) rfl) ?_;refine zf (zca 10 (i:=1) rfl rfl) ?_;refine gz2 ?_;refine de rfl (uZ 2 ?_)
           refine gz1 ?_;refine dq (zb (hs:=[_]) zaa zR rfl rfl (by decide) (by decide) rfl) ?_;refine de rfl (zC (i:=3) zaa zR rfl rfl rfl rfl rfl (by simp [zal,zd,zce,zbp]) (by simp;omega) fun v106=> ?_)
           refine gz1 ?_;refine de0 (uY 2 ?_)
           refine gz5 ?_;refine dq (zb (hs:=[_,_,_]) zac ty3 rfl rfl (by decide) (by decide) rfl) ?_;refine de rfl (za (i:=0) za8 rfl (WeakL.refl _) rfl (zh (L:=[_,_,_]) uS uS uS) ?_)
           rintro _ _ ⟨y112,rfl,hy112,rfl⟩;refine dq (zcI rfl rfl (by simp at hy112;omega) (by simp at hy112;omega)) ?_;refine gz8 ?_;exact ⟨n+1,at2+y112,⟨v106,out++[(⟨x,(w:Int)+1,at2,ps,y85⟩:ChoiceS)],a5+1⟩,⟨by omega,by simp at hy112;omega,hq3.add (x:=(⟨x,(w:Int)+1,at2,ps,y85⟩:ChoiceS)) ⟨hp2,by simp at hy85;rcases hy85 with rfl|rfl|rfl|rfl<;>(unfold Sh;simp),by have:=hg13.sl;dsimp only;omega⟩ (by have:=hg13.sl;omega)⟩,uD,⟨rfl,rfl,trivial⟩,uK,uQ⟩
        ·refine gz2 ?_;refine zbX ?_;refine gz8 ?_;exact ⟨w+1,⟨u,out,a2⟩,⟨by omega,hq3.mono uO uO⟩,uD,⟨zg uO,trivial⟩,uK,uQ⟩
      ·refine gz2 ?_;refine zM ?_;refine gz7 ?_;exact ⟨k+1,⟨u,out,a2⟩,⟨by omega,hq2.mono uO uO⟩,uD,⟨rfl,trivial⟩,uK,uQ⟩
    ·have hnk:g13.Teams.length<=k:=by omega
     obtain rfl:k=g13.Teams.length:=by omega
     refine gz2 ?_;refine zM ?_;refine gz2 ?_;refine uVj [11,1,116,52] (fun (q5:List ChoiceS×Nat)=>[]) (fun (q5:List ChoiceS×Nat)=>[St b l q5.2,.cells b2 zgX,.cells b3 (bkC g13 (zbB (zv none Z)) (zbk p15) (zbj m17) (za1 k56) (.raw u)),.arr u 5 (q5.1.map zk)]) (fun (q5:List ChoiceS×Nat)=>GoodChs q5.1/\q5.2<=a2+10) ?_ ?_
     ·skip
      refine gz2 ?_;refine de rfl (uZ 2 ?_)
      refine de rfl (zaT (i:=3) (es:=out) zaa rfl rfl ?_)
      refine gz3 ?_;refine dgx (fun x M'=> ∃(y:Bool) (a3:Nat),x= .bool y/\a3<=a2+1/\M'=[St b l a3,.cells b2 zgX,.cells b3 (bkC g13 (zbB (zv none Z)) (zbk p15) (zbj m17) (za1 k56) (.raw u)),.arr u 5 (out.map zk)]) rfl rfl (fun hc=>⟨_,false,a2,rfl,by omega,rfl⟩) (fun hc=>⟨_,OpenTo.upd (t:=121) rfl (hc) (OpenTo.refl _),za (i:=0) zdK rfl (WeakL.refl _) rfl (zK (a:=a2) uO uO) (fun h M' hh=>by
       obtain ⟨y,h1,h2⟩:=hh;exact ⟨y,a2+1,h1,by omega,by rw [h2];rfl⟩)⟩) ?_
      rintro _ _ ⟨y,a3,rfl,ha3,rfl⟩;refine gz2 ?_;refine uCo (fun h11=> ?_) fun h12=> ?_
      ·have ho0:0<out.length:=by simp_all
       refine zb1 (i:=3) rfl (fun h0 he=> ?_) (fun ob off cap hv hcap=> ?_)
       ·exfalso;have:=congrArg List.length he;simp at this;subst this;simp at ho0
       subst hv;refine zw (fun M=> ∃i:Nat,M[i]? =some (.cells b3 (bkC g13 (zbB (zv none Z)) (zbk p15) (zbj m17) (za1 k56) (.raw (.slice (some ⟨ob,off,none⟩) (out.map zk).length cap))))) [1,4] mixed ?_;refine gz1 ?_;refine uM 1 rfl ⟨2,rfl⟩ (fun M hM=>by obtain ⟨i,hi⟩:=hM;exact zao (i:=i) (h:= .raw (.slice (some ⟨ob,off,none⟩) (out.map zk).length cap)) zaa rfl hi (.inl ⟨rfl,rfl⟩) ⟨rfl,rfl⟩) ?_;refine gz2 ?_;refine uM 4 rfl ⟨2,rfl⟩ (fun M hM=>by obtain ⟨i,hi⟩:=hM;exact zao (i:=i) (h:= .raw (.slice (some ⟨ob,off,none⟩) (out.map zk).length cap)) zaa rfl hi (.inl ⟨rfl,rfl⟩) ⟨rfl,rfl⟩) ?_;refine uF 5 ?_;refine zy rfl (zaT (i:=3) (es:=out) zaa rfl rfl ?_)
       refine ⟨fun _=> .inl ⟨2,rfl⟩,?_⟩
       refine uF 6 ?_;refine zy rfl (za (i:=0) zfF rfl (WeakL.refl _) rfl (zW uS uS) ?_)
       rintro _ _ ⟨y130,rfl,hy130,rfl⟩;refine ⟨uE,?_⟩
       refine uB 7 rfl (ze (j:=y130) zaa zR rfl rfl rfl (by simp;omega)) ?_;refine gz2 ?_;refine zf (Ghost.perm (M':=[St b l (a3+1),.arr (.slice (some ⟨ob,off,none⟩) (out.map zk).length cap) 5 (out.map zk),.cells b2 zgX,.cells b3 (bkC g13 (zbB (zv none Z)) (zbk p15) (zbj m17) (za1 k56) (.raw (.slice (some ⟨ob,off,none⟩) (out.map zk).length cap)))]) uQ) ?_;obtain ⟨x,hx⟩: ∃x,out[y130]? =some x:=⟨_,Aa uO⟩
       have hgx:=g2 x (Ac hx);dsimp only [GoodC4] at hgx;refine zaC (fun M=> ∃i:Nat,M[i]? =some (.arr (.slice (some ⟨ob,off,none⟩) (out.map zk).length cap) 5 (out.map zk))) [8,15,24] mixed ?_;refine gz8 ?_;refine uM 8 rfl ⟨1,rfl⟩ (fun M hM=>by obtain ⟨i,hi⟩:=hM;exact zaJ (i:=i) (j:=y130) 0 ty9 rfl uO hi hx rfl rfl ⟨rfl,rfl⟩) ?_;refine uB 9 rfl (zb (hs:=[_,_]) zH ty9 rfl rfl (by decide) (by decide) rfl) ?_;refine uA 11 ?_;refine gz3 ?_;refine uM 15 rfl ⟨1,rfl⟩ (fun M hM=>by obtain ⟨i,hi⟩:=hM;exact zaJ (i:=i) (j:=y130) 1 ty3 rfl uO hi hx rfl rfl ⟨rfl,rfl⟩) ?_;refine uB 16 rfl (zb (hs:=[_,_]) zac ty3 rfl rfl (by decide) (by decide) rfl) ?_;refine uA 18 ?_;refine uB 19 rfl (zb (hs:=[_,_]) zH ty9 rfl rfl (by decide) (by decide) rfl) ?_;refine uA 21 ?_;refine gz2 ?_;refine uM 24 rfl ⟨1,rfl⟩ (fun M hM=>by obtain ⟨i,hi⟩:=hM;exact zaJ (i:=i) (j:=y130) 3 zH rfl uO hi hx rfl rfl ⟨rfl,rfl⟩) ?_;refine uB 26 rfl (zb (hs:=[_]) zH ty9 rfl rfl (by decide) (by decide) rfl) ?_;refine uF 10 ?_;refine zy rfl (za (i:=0) zck rfl (WeakL.refl _) rfl (zt (L:=[_,_]) uS uS uS) ?_)
       rintro _ _ ⟨y142,rfl,hy142,rfl⟩;refine ⟨uE,?_⟩
       refine uF 17 ?_;refine zy rfl (za (i:=0) za8 rfl (WeakL.refl _) rfl (zh (L:=[_,_]) uS uS uS) ?_)
       rintro _ _ ⟨y149,rfl,hy149,rfl⟩;refine ⟨uE,?_⟩
       refine uF 20 ?_;refine zy rfl (za (i:=0) zck rfl (WeakL.refl _) rfl (zt (L:=[_,_]) uS uS uS) ?_)
       rintro _ _ ⟨y152,rfl,hy152,rfl⟩;refine ⟨uE,?_⟩
       refine uF 25 ?_;refine zy rfl (zaA zli rfl (WeakL.refl _) (zaG uO) fun v157=> ?_)
       refine ⟨uE,?_⟩
       refine uF 27 ?_;refine zy rfl (zmU (N:=[St b l (a3+1+1+1+1),.arr (.slice (some ⟨ob,off,none⟩) (out.map zk).length cap) 5 (out.map zk),.cells b2 zgX,.cells b3 (bkC g13 (zbB (zv none Z)) (zbk p15) (zbj m17) (za1 k56) (.raw (.slice (some ⟨ob,off,none⟩) (out.map zk).length cap)))]) (sz:=1) (es:=(x.Players++[[97,110,110]]).map .str) 0 (zC (i:=0) zH ty9 rfl rfl rfl rfl rfl (by simp [zal,zd,zce,zbp]) (by simp;omega) fun v=>⟨v,rfl,by simp [zce,zbp],rfl⟩) ?_)
       refine ⟨fun _=> .inl ⟨1,rfl⟩,?_⟩
       refine gz2 ?_;refine uF 30 ?_;refine zF (z8 (i:=1) (j:=y130) (f:=0) (y:=zk x) (y':=zk ⟨y142,x.Week,x.At,x.Players,x.Captain⟩) ty9 rfl uO rfl rfl (za5 hx) rfl rfl (by simp [zd]) rfl ?_)
       refine ⟨fun _=> .inr (by simp [zS,Region.binds]),?_⟩
       refine gz2 ?_;refine uF 33 ?_;refine zF (z8 (i:=1) (j:=y130) (f:=1) (y:=zk ⟨y142,x.Week,x.At,x.Players,x.Captain⟩) (y':=zk ⟨y142,y149,x.At,x.Players,x.Captain⟩) ty3 rfl uO rfl rfl (za7 (za5 hx)) rfl rfl (by simp [zd]) rfl ?_)
       refine ⟨fun _=> .inr (by simp [zS,Region.binds]),?_⟩
       refine gz2 ?_;refine uF 36 ?_;refine zF (z8 (i:=1) (j:=y130) (f:=4) (y:=zk ⟨y142,y149,x.At,x.Players,x.Captain⟩) (y':=zk ⟨y142,y149,x.At,x.Players,y152⟩) ty9 rfl uO rfl rfl (za7 (za7 (za5 hx))) rfl rfl (by simp [zd]) rfl ?_)
       refine ⟨fun _=> .inr (by simp [zS,Region.binds]),?_⟩
       refine gz2 ?_;refine uF 39 ?_;refine zF (z8 (i:=1) (j:=y130) (f:=3) (y:=zk ⟨y142,y149,x.At,x.Players,y152⟩) (y':=zk ⟨y142,y149,x.At,x.Players++[[97,110,110]],y152⟩) zH rfl uO rfl rfl (za7 (za7 (za7 (za5 hx)))) rfl rfl (by simp [zd]) rfl ?_)
       refine ⟨fun _=> .inr (by simp [zS,Region.binds]),?_⟩
       refine gz1 ?_;exact ⟨(out.set y130 (⟨y142,y149,x.At,x.Players++[[97,110,110]],y152⟩:ChoiceS),a3+1+1+1+1),⟨⟨by simp;omega,zes (P:=zop) (fun x hx=>(g2 x hx).up) ⟨fun s hs=>by
        rcases List.mem_append.1 hs with hs|hs
        ·exact hgx.1 s hs
        ·rw [List.mem_singleton.1 hs];unfold Sh;simp,by simp at hy152;rcases hy152 with rfl|rfl<;>(unfold Sh;simp),by simp;omega⟩⟩,uD⟩,trivial,uK,uQ⟩
      ·refine gz1 ?_;exact ⟨(out,a3),⟨⟨uD,fun x hx=>(g2 x hx).up⟩,uD⟩,trivial,uK,uQ⟩
     ·intro q5 hq5
      obtain ⟨k1,a6⟩:=q5;obtain ⟨hk1,ha6⟩:=hq5;dsimp only at hk1 ha6;refine zf (zbM (i:=3) (k:=2) (j:=18) rfl rfl rfl) ?_;refine zf (Ghost.perm (M':=[.cells b2 zgX,St b l a6,.cells b3 (zd (zan (⟨g13,(zv none Z),p15,m17,k56,k1⟩:BookS)))]) uQ) ?_;refine gz1 ?_;refine de rfl (zbO (i:=2) (h:=zan (⟨g13,(zv none Z),p15,m17,k56,k1⟩:BookS)) zaz rfl rfl rfl rfl rfl ?_)
      refine de0 (zJ (h:=zan (⟨g13,(zv none Z),p15,m17,k56,k1⟩:BookS)) zaz rfl rfl rfl rfl rfl ?_)
      refine gz2 ?_;exact ⟨_,_,(zA 2 rfl).trans ((Ghost.perm (List.Perm.swap _ _ _)).trans Ghost.drop),[_],_,⟨⟨_,_,_,_,_,rfl,zaz,.inr ⟨rfl,rfl,rfl⟩⟩,trivial⟩,Weak.refl _,(⟨g13,(zv none Z),p15,m17,k56,k1⟩:BookS),a6,rfl,⟨hg13,uD,hub,hp15,hm17,hk56,hk1⟩,by omega,rfl⟩
theorem zhw [Tracks] {b:Nat} {l:List Int} {a:Nat} {k:BookS} (ha:a<=600000) (hk:BookG k):Con prog 14 [pAt b,zan k] [St b l a] (fun x M'=> ∃(c d:BookS) (a':Nat),x= .tup [zan c,zan d]/\(HalfBk c d k/\BookG c/\BookG d)/\a'<=a+100/\M'=[St b l a']):=by
 have hl1:=hk.mv;have hl2:=hk.pl.len;have hl3:=hk.me.len;have hl4:=hk.he.len;have hl5:=hk.ch.len;refine zbU func14 rfl ntmps14 rfl rfl ?_;refine gz2 ?_;refine de rfl (zq zaz rfl fun b4=> ?_)
 refine de rfl (zq zaz rfl fun b5=> ?_)
 refine gz1 ?_;refine zf (Ghost.perm (M':=[St b l a,.cells b4 zgX,.cells b5 zgX]) uQ) ?_;refine zw (fun _=>True) [] mixed ?_;refine uB 0 rfl (zad (h:=zan k) zaz rfl rfl rfl rfl) ?_;refine uB 1 rfl (zad (h:=zan k) zaz rfl rfl rfl rfl) ?_;refine uF 2 ?_;refine zF (zeH (i:=1) (h:=zan k) zaz rfl rfl rfl rfl rfl (Ah rfl) ?_)
 refine ⟨fun _=> .inl trivial,?_⟩
 refine uF 3 ?_;refine zF (zeH (i:=2) (h:=zan k) zaz rfl rfl rfl rfl rfl (Ah rfl) ?_)
 refine ⟨fun _=> .inl trivial,?_⟩
 refine gz1 ?_;refine zf (zP (M':=[St b l a,.cells b4 (zd (zan k)),.cells b5 (zd (zan k))]) rfl) ?_;refine gz4 ?_;refine de rfl (za (i:=0) ca69 rfl (WeakL.refl _) rfl (zh7 (a:=a) (L:=k.Moves) uO uO) ?_)
 rintro _ _ ⟨u12,A12,B12,rfl,hh12,rfl⟩;refine gz4 ?_;refine de0 (uY 2 ?_)
 refine gz1 ?_;refine de0 (uY 3 ?_)
 refine gz1 ?_;refine zf (zbM (i:=1) (k:=2) (j:=14) rfl rfl rfl) ?_;refine gz4 ?_;refine de rfl (za (i:=0) ca70 rfl (WeakL.refl _) rfl (zh8 (a:=a+k.Moves.length) (L:=k.Plays) uO uO) ?_)
 rintro _ _ ⟨u21,A21,B21,rfl,hh21,rfl⟩;refine gz4 ?_;refine de0 (uY 2 ?_)
 refine gz1 ?_;refine de0 (uY 3 ?_)
 refine gz1 ?_;refine zf (zbM (i:=1) (k:=2) (j:=15) rfl rfl rfl) ?_;refine gz4 ?_;refine de rfl (za (i:=0) ca71 rfl (WeakL.refl _) rfl (zh6 (a:=a+k.Moves.length+k.Plays.length) (L:=k.Mends) uO uO) ?_)
 rintro _ _ ⟨u30,A30,B30,rfl,hh30,rfl⟩;refine gz4 ?_;refine de0 (uY 2 ?_)
 refine gz1 ?_;refine de0 (uY 3 ?_)
 refine gz1 ?_;refine zf (zbM (i:=1) (k:=2) (j:=16) rfl rfl rfl) ?_;refine gz4 ?_;refine de rfl (za (i:=0) ca72 rfl (WeakL.refl _) rfl (zhz (a:=a+k.Moves.length+k.Plays.length+k.Mends.length) (L:=k.Health) uO uO) ?_)
 rintro _ _ ⟨u39,A39,B39,rfl,hh39,rfl⟩;refine gz4 ?_;refine de0 (uY 2 ?_)
 refine gz1 ?_;refine de0 (uY 3 ?_)
 refine gz1 ?_;refine zf (zbM (i:=1) (k:=2) (j:=17) rfl rfl rfl) ?_;refine gz4 ?_;refine de rfl (za (i:=0) ca73 rfl (WeakL.refl _) rfl (zhy (a:=a+k.Moves.length+k.Plays.length+k.Mends.length+k.Health.length) (L:=k.Choices) uO uO) ?_)
 rintro _ _ ⟨u48,A48,B48,rfl,hh48,rfl⟩;refine gz4 ?_;refine de0 (uY 2 ?_)
 refine gz1 ?_;refine de0 (uY 3 ?_)
 refine gz1 ?_;refine zf (zbM (i:=1) (k:=2) (j:=18) rfl rfl rfl) ?_;refine zf (zP (M':=[St b l (a+k.Moves.length+k.Plays.length+k.Mends.length+k.Health.length+k.Choices.length),.cells b4 (zd (zan (⟨k.League,A12,A21,A30,A39,A48⟩:BookS))),.cells b5 (zd (zan (⟨k.League,B12,B21,B30,B39,B48⟩:BookS)))]) rfl) ?_;refine zw (fun M=>M=[St b l (a+k.Moves.length+k.Plays.length+k.Mends.length+k.Health.length+k.Choices.length),.cells b4 (zd (zan (⟨k.League,A12,A21,A30,A39,A48⟩:BookS))),.cells b5 (zd (zan (⟨k.League,B12,B21,B30,B39,B48⟩:BookS)))]) [0,1] mixed ?_;refine uM 0 rfl rfl (fun M hM=>by subst hM;exact zbO (i:=1) (h:=zan (⟨k.League,A12,A21,A30,A39,A48⟩:BookS)) zaz rfl rfl rfl rfl rfl ⟨rfl,rfl⟩) ?_;refine uM 1 rfl rfl (fun M hM=>by subst hM;exact zbO (i:=2) (h:=zan (⟨k.League,B12,B21,B30,B39,B48⟩:BookS)) zaz rfl rfl rfl rfl rfl ⟨rfl,rfl⟩) ?_;refine uF 2 ?_;refine zF (zeH (i:=1) (h:=zan (⟨k.League,A12,A21,A30,A39,A48⟩:BookS)) zaz rfl rfl rfl rfl rfl (Ah rfl) ?_)
 refine ⟨fun _=> .inl rfl,?_⟩
 refine uF 3 ?_;refine zF (zeH (i:=2) (h:=zan (⟨k.League,B12,B21,B30,B39,B48⟩:BookS)) zaz rfl rfl rfl rfl rfl (Ah rfl) ?_)
 refine ⟨fun _=> .inl rfl,?_⟩
 refine gz2 ?_;have hbk:HalfBk (⟨k.League,A12,A21,A30,A39,A48⟩:BookS) (⟨k.League,B12,B21,B30,B39,B48⟩:BookS) k:=⟨rfl,rfl,hh12,hh21,hh30,hh39,hh48⟩;exact ⟨_,_,(Ghost.perm (M':=[.cells b4 (zd (zan (⟨k.League,A12,A21,A30,A39,A48⟩:BookS))),.cells b5 (zd (zan (⟨k.League,B12,B21,B30,B39,B48⟩:BookS))),St b l (a+k.Moves.length+k.Plays.length+k.Mends.length+k.Health.length+k.Choices.length)]) uQ).trans ((zA 4 rfl).trans (zA 5 rfl)),[_,_],_,⟨⟨_,_,_,_,_,rfl,zaz,.inr ⟨rfl,rfl,rfl⟩⟩,⟨⟨_,_,_,_,_,rfl,zaz,.inr ⟨rfl,rfl,rfl⟩⟩,trivial⟩⟩,Weak.refl _,(⟨k.League,A12,A21,A30,A39,A48⟩:BookS),(⟨k.League,B12,B21,B30,B39,B48⟩:BookS),_,rfl,⟨hbk,hbk.good hk⟩,by omega,rfl⟩
end
section
open Go.Proofs.Tryz
open Go.HL
theorem zpo [Tracks] {a b:List MoveS} (ha:a.length<=2000) (hb:b.length<=2000):ConP prog 75 [zbB a,zbB b] (.tup [zbB (MvL a b),.int .i64 (MvE a b)]):=by
 refine uOb func75 ntmps75 ?_;refine gz7 ?_;refine dq (uCl zuQ rfl (zfe (l:=a) uO)) ?_;refine gz1 ?_;refine dq (uCl zuQ rfl (zfe (l:=b) uO)) ?_;refine dq (zb (hs:=[_,_]) zdr zds rfl rfl (by decide) (by decide) rfl) ?_;refine dq (uCl zlj rfl (zcw (l:=[_,_]) (by simp))) ?_;refine gz6 ?_;refine uCo (fun h1=> ?_) fun h2=> ?_
 refine gz6 ?_;exact zhp rfl (zaX (by rw [MvL,if_pos (by simpa using h1)];exact zbY 4) (by rw [MvE,if_pos (by simpa using h1)];exact Weak.refl _));refine gz5 ?_;refine dq (zb (hs:=[_,_]) zm3 zaZ rfl rfl (by decide) (by decide) rfl) ?_;refine de rfl (zaA zv2 rfl (WeakL.refl _) (zlM (LL:=[a,b]) (by simp) (by simp;omega)) fun v20=> ?_)
 refine gz4 ?_;refine de rfl (za (i:=0) zv3 rfl (WeakL.refl _) rfl (zr5 (c:=zdl) (zhT zfq) zvT (fun _ _=> @ziA zda _ _) (l:=[a,b].flatten) (by simp;omega)) ?_)
 rintro _ _ ⟨Z,rfl,hz1,hz2,rfl⟩;have hz3:Z.Perm (a++b):=by simpa using hz1
 have hzl:=hz3.length_eq;rw [Af] at hzl;have hZ:=zob zfq (fun _ _=>zou) hz3 hz2;refine gz3 ?_;refine de rfl (za (i:=0) zuO rfl (WeakL.refl _) rfl (zcb (l:=Z) uO) ?_)
 rintro _ _ ⟨u24,rfl,rfl⟩;refine gz3 ?_;refine zf (zaP 7 (i:=0) rfl rfl) ?_;have hul:=zdw Z none;have hU:zv none Z=zlx a b:=by rw [hZ];rfl
 have hUl:=znZ a b;rw [hU];refine gz2 ?_;refine dq (zaq (f:=zaS) (l:=(zlx a b)) zaZ rfl) ?_;refine gz2 ?_;refine uCo (fun h3=> ?_) fun h4=> ?_
 refine gz5 ?_;exact zhp rfl (zaX (by rw [MvL,if_neg (by simpa using h2),zkx,if_pos uO];exact zbY 4) (by rw [MvE,if_neg (by simpa using h2),ziv,if_pos uO];exact Weak.refl _));refine gz8 ?_
 (refine zx rfl ?_
  rw [MvL,MvE,if_neg (by simpa using h2),if_neg (by simpa using h2),zkx,ziv,if_neg uO,if_neg uO];rfl)
theorem zlS [Tracks] {a b:List MoveS} (ha:a.length<=2000) (hb:b.length<=2000) (hga: ∀x∈a,MovB x) (hgb: ∀x∈b,MovB x):ConP prog 82 [zbB a,zbB b] (.tup [zbB (zkx a b),.int .i64 (ziv a b)]):=by
 refine uOb func82 ntmps82 ?_;refine gz7 ?_;refine dq (zb (hs:=[_,_]) zm3 zaZ rfl rfl (by decide) (by decide) rfl) ?_;refine de rfl (zaA zv2 rfl (WeakL.refl _) (zlM (LL:=[a,b]) (by simp) (by simp;omega)) fun v10=> ?_)
 refine gz4 ?_;refine de rfl (za (i:=0) zv3 rfl (WeakL.refl _) rfl (zrh (l:=[a,b].flatten) (fun x hx=>by simp at hx;exact hx.elim (hga x) (hgb x)) (by simp;omega)) ?_)
 rintro _ _ ⟨Z,rfl,hz1,hz2,rfl⟩;have hz3:Z.Perm (a++b):=by simpa using hz1
 have hzl:=hz3.length_eq;rw [Af] at hzl;have hZ:=zob zfq (fun _ _=>zou) hz3 hz2;refine gz3 ?_;refine de rfl (za (i:=0) zuO rfl (WeakL.refl _) rfl (zcb (l:=Z) uO) ?_)
 rintro _ _ ⟨u14,rfl,rfl⟩;refine gz3 ?_;refine zf (zaP 6 (i:=0) rfl rfl) ?_;have hul:=zdw Z none;have hU:zv none Z=zlx a b:=by rw [hZ];rfl
 have hUl:=znZ a b;rw [hU];refine gz2 ?_;refine dq (zaq (f:=zaS) (l:=(zlx a b)) zaZ rfl) ?_;refine gz2 ?_;refine uCo (fun h1=> ?_) fun h2=> ?_
 refine gz5 ?_;exact zhp rfl (zaX (by rw [zkx,if_pos uO];exact zbY 4) (by rw [ziv,if_pos uO];exact Weak.refl _));refine gz8 ?_
 (refine zx rfl ?_
  rw [zkx,ziv,if_neg uO,if_neg uO];rfl)
theorem zki [Tracks] {a b:HealthS}:ConP prog 176 [zD a,zD b] (.int .i64 (zel a b)):=by
 refine uOb func176 ntmps176 ?_;refine gz5 ?_;refine zw (fun _=>True) [] mixed ?_;refine gz4 ?_;refine uB 4 rfl (uCl zcM rfl z6) ?_;refine gz4 ?_;refine uB 9 rfl (uCl zcN rfl zZ) ?_;refine gz4 ?_;refine uB 14 rfl (uCl zcN rfl zZ) ?_;refine gz4 ?_;refine uB 19 rfl (uCl zcN rfl zZ) ?_;refine uB 20 rfl (zb (hs:=[_,_,_,_]) zac ty3 rfl rfl (by decide) (by decide) rfl) ?_;refine uB 21 rfl (uCl zf0 rfl (zbw (l:=[_,_,_,_]) (by simp))) ?_;refine gz3 ?_;refine zx rfl ?_
 rfl
theorem zje [Tracks] {a b:HealthS}:ConP prog 197 [zD a,zD b] (.int .i64 (zbv a b)):=by
 refine uOb func197 ntmps197 ?_;refine gz5 ?_;refine zw (fun _=>True) [] mixed ?_;refine gz4 ?_;refine uB 4 rfl (uCl zcM rfl z6) ?_;refine gz4 ?_;refine uB 9 rfl (uCl zcN rfl zZ) ?_;refine uB 10 rfl (zb (hs:=[_,_]) zac ty3 rfl rfl (by decide) (by decide) rfl) ?_;refine uB 11 rfl (uCl zf0 rfl (zbw (l:=[_,_]) (by simp))) ?_;refine gz3 ?_;refine zx rfl ?_
 rfl
theorem zk7 [Tracks] {L:List PlayerS} {a b:List HealthS} (hT:Tracks.on=false) (hL:L.length<=1000000) (hn: ∀p∈L,p.Name∈zcP) (hp: ∀p∈L,p.Positions.length<=1000000) (ha:a.length<=2000) (hb:b.length<=2000) (hwa: ∀x∈a,-1000000000000000<=x.To/\x.To<=1000000000000000) (hwb: ∀x∈b,-1000000000000000<=x.To/\x.To<=1000000000000000):ConP prog 78 [zbd L,za1 a,za1 b] (.tup [za1 (zhJ L a b),.int .i64 (zjr L a b)]):=by
 refine uOb func78 ntmps78 ?_;refine gz7 ?_;refine dq (zb (hs:=[_,_]) zpc zaL rfl rfl (by decide) (by decide) rfl) ?_;refine de rfl (zaA zyc rfl (WeakL.refl _) (zow (LL:=[a,b]) (by simp) (by simp;omega)) fun v13=> ?_)
 refine gz4 ?_;refine de rfl (za (i:=0) zyd rfl (WeakL.refl _) rfl (zqA (c:=zel) (zhT zh0) zye (fun _ _=> @zki zda _ _) (l:=[a,b].flatten) (by simp;omega)) ?_)
 rintro _ _ ⟨Z,rfl,hz1,hz2,rfl⟩;have hz3:Z.Perm (a++b):=by simpa using hz1
 have hzl:=hz3.length_eq;rw [Af] at hzl;have hZ:=zob zh0 (fun _ _=>zos) hz3 hz2;refine gz3 ?_;refine de rfl (za (i:=0) zyf rfl (WeakL.refl _) rfl (zfg (l:=Z) uO) ?_)
 rintro _ _ ⟨u17,rfl,rfl⟩;refine gz3 ?_;refine zf (zaP 8 (i:=0) rfl rfl) ?_;have hul:=zdw Z none;have hU:zv none Z=zcm a b:=by rw [hZ];rfl
 rw [hU];have hUl:=zrz a b;refine gz3 ?_;refine dq (uCl ca59 rfl (zhb (L:=L) (l:=zcm a b) hT hL hn hp uO (fun x hx=>(zu7 hx).elim (hwa x) (hwb x)))) ?_;refine gz6 ?_;refine uCo (fun h1=> ?_) fun h2=> ?_
 refine gz6 ?_;exact zhp rfl (zaX (by rw [zhJ,if_pos (by simpa [zjr] using h1)];exact zbY 4) (by rw [zjr];exact Weak.refl _));refine gz8 ?_
 (refine zx rfl ?_
  have h9:zjr L a b=0:=by simpa [zjr] using h2
  rw [zhJ,if_neg (by simp [h9]),h9];rfl)
theorem zj9 [Tracks] {L:List PlayerS} {a b:List HealthS} (hL:L.length<=1000000) (ha:a.length<=10) (hb:b.length<=10) (hwa: ∀x∈a,-1000000000000000<=x.To/\x.To<=1000000000000000) (hwb: ∀x∈b,-1000000000000000<=x.To/\x.To<=1000000000000000) (hza:zcd L a=0) (hzb:zcd L b=0):Con prog 85 [zbd L,za1 a,za1 b] [] (fun x M'=> ∃Z:List HealthS,(x= .tup [za1 Z,.int .i64 (zcd L (zcm a b))]/\(zcd L (zcm a b)=0->zcm a b=Z))/\M'=[]):=by
 refine uOb func85 ntmps85 ?_;refine gz6 ?_;refine de rfl (zaA zv6 rfl (WeakL.refl _) (zc2 (l:=a) uO) fun v12=> ?_)
 refine gz9 ?_;refine uV2 [8,1,10,1,15,13] (fun (k:Nat) (u:Value)=>[(15,.int .i64 k),(8,.raw u)]) (fun (k:Nat) (u:Value)=>[.arr u 4 ((zi5 a (b.take k)).map zD)]) (fun (k:Nat) (u:Value)=>k<=b.length/\(True)) (fun (k:Nat) (u:Value)=>b.length-k) (0) (v12) ?_ ?_ ?_ ?_;exact ⟨Ad _,trivial⟩;exact ⟨rfl,rfl,trivial⟩;exact zm (by simp [zi5])
 intro k u hinv
 obtain ⟨hk,-⟩:=hinv;refine gz4 ?_;refine uCo (fun h1=> ?_) fun h2=> ?_
 obtain ⟨x,hx⟩: ∃x,b[k]? =some x:=⟨_,Aa h1⟩
 have hdx:=zi hx;refine gz5 ?_;refine dq (zl zaL zU rfl rfl rfl (by assumption)) ?_;refine gz1 ?_;refine de rfl (zq zU rfl fun b10=> ?_)
 refine de0 (zJ zU rfl rfl rfl rfl rfl ?_)
 refine gz1 ?_;refine zf (zA 10 rfl) ?_;refine gz2 ?_;refine dq (zad (h:=zD x) zU rfl rfl rfl rfl) ?_;refine dq (uCl zyu rfl (ze0 (l:=a) (y:=x) uO)) ?_;refine gz2 ?_;refine uCo (fun h3=> ?_) fun h4=> ?_
 refine gz2 ?_;refine dq (zad (h:=zD x) zU rfl rfl rfl rfl) ?_;refine dq (zb (hs:=[_]) zaL zU rfl rfl (by decide) (by decide) rfl) ?_;refine de rfl (zC (i:=0) zaL zU rfl rfl rfl rfl rfl (by simp [zal,zd]) (by have:=zq8 a (b.take k);simp only [Aj,Ao,Aq,Ag] at*;omega) fun v26=> ?_)
 refine gz8 ?_;exact ⟨k+1,v26,⟨by omega,trivial⟩,uD,⟨rfl,rfl,trivial⟩,uK,zm (by dsimp only;rw [zuF hx (by simp_all),Ap];rfl)⟩;refine gz7 ?_;exact ⟨k+1,u,⟨by omega,trivial⟩,uD,⟨rfl,rfl,trivial⟩,uK,zm (by dsimp only;rw [zwv hx (by simp_all)])⟩;have hnk:b.length<=k:=by omega
 obtain rfl:k=b.length:=by omega
 refine gz2 ?_;refine zM ?_;refine gz2 ?_;rw [Al];have hal:=zq8 a b;refine gz2 ?_;refine de rfl (za (i:=0) zyv rfl (WeakL.refl _) rfl (zlc (l:=zi5 a b) (c:=zbv) zyw (fun _ _=>zje) zd7 uO) ?_)
 rintro _ _ ⟨Z,rfl,⟨hz1,hz2⟩,rfl⟩;have hzl:=hz1.length_eq;have hsr:=ztl hza hzb hz1 hz2;refine gz1 ?_;refine zf (zaP 8 (i:=0) rfl rfl) ?_;refine gz4 ?_;refine dq (uCl ca64 rfl (zf9 (L:=L) (l:=Z) hL uO (fun x hx=>by have h9:=hz1.mem_iff.1 hx;exact (List.mem_append.1 h9).elim (hwa x) (fun q=>hwb x (List.mem_filter.1 q).1)))) ?_;refine gz4 ?_;refine zT rfl ⟨Z,⟨?_,hsr.2⟩,rfl⟩
 rw [hsr.1]
theorem zlU [Tracks] {a b:ChoiceS} (ha:a.Players.length<=1000000):ConP prog 181 [zk a,zk b] (.bool (zfo a b)):=by
 refine uOb func181 ntmps181 ?_;refine gz6 ?_;refine dq (zad (h:=zk a) zR rfl rfl rfl rfl) ?_;refine dq (zad (h:=zk b) zR rfl rfl rfl rfl) ?_;refine dq (uCl zqJ rfl zem) ?_;refine gz6 ?_;refine dg rfl rfl (fun hc=>⟨_,OpenTo.upd (t:=13) rfl (hc) (OpenTo.upd (t:=11) rfl (hc) (OpenTo.refl _)),uCl zhW rfl (zaw (l:=a.Players) (m:=b.Players) ha)⟩) ?_;refine zbo ?_;refine zx rfl ?_
 show HVal.bool _=_
 unfold zfo
 (cases zaQ a b==0<;>simp_all)
theorem zgm [Tracks] {a b:ChoiceS} (ha:a.Players.length<=1000000):ConP prog 92 [zk a,zk b] (.bool (zfo a b)):=by
 refine uOb func92 ntmps92 ?_;refine gz6 ?_;refine dq (zad (h:=zk a) zR rfl rfl rfl rfl) ?_;refine dq (zad (h:=zk b) zR rfl rfl rfl rfl) ?_;refine dq (uCl zqK rfl zdm) ?_;refine gz6 ?_;refine dg rfl rfl (fun hc=>⟨_,OpenTo.upd (t:=13) rfl (hc) (OpenTo.upd (t:=11) rfl (hc) (OpenTo.refl _)),uCl zhW rfl (zaw (l:=a.Players) (m:=b.Players) ha)⟩) ?_;refine zbo ?_;refine zx rfl ?_
 show HVal.bool _=_
 unfold zfo
 (cases zaQ a b==0<;>simp_all)
theorem zkE [Tracks] {a b:List ChoiceS} (ha:a.length<=100) (hb:b.length<=100) (hpa: ∀x∈a,x.Players.length<=1000000) (hpb: ∀x∈b,x.Players.length<=1000000) (hms:a.Pairwise fun x y=>zaQ x y<0) (hns:b.Pairwise fun x y=>zaQ x y<0):ConP prog 79 [zdM a,zdM b] (.tup [zdM (zex a b),.int .i64 (zgO a b)]):=by
 have hml:=zgQ zaQ a b;refine uOb func79 ntmps79 ?_;refine gz7 ?_;refine dq (zb (hs:=[_,_]) zpd zaa rfl rfl (by decide) (by decide) rfl) ?_;refine de rfl (zaA zyg rfl (WeakL.refl _) (zov (LL:=[a,b]) (by simp) (by simp;omega)) fun v11=> ?_)
 refine gz4 ?_;refine de rfl (za (i:=0) zyh rfl (WeakL.refl _) rfl (zlb (l:=[a,b].flatten) (c:=zaQ) zqJ (fun _ _=>zem) zd6 (by simp;omega)) ?_)
 rintro _ _ ⟨Z,rfl,⟨hz1,hz2⟩,rfl⟩;have hz3:Z.Perm (a++b):=by simpa using hz1
 have hzl:=hz3.length_eq;rw [Af] at hzl;have hzp: ∀x∈Z,x.Players.length<=1000000:=fun x hx=>(List.mem_append.1 (hz3.mem_iff.1 hx)).elim (hpa x) (hpb x)
 refine gz3 ?_;refine de rfl (za (i:=0) zyi rfl (WeakL.refl _) rfl (zew (l:=Z) zyj (fun x hx y _=>zlU (hzp x hx)) uO) ?_)
 rintro _ _ ⟨u15,rfl,rfl⟩;refine gz3 ?_;refine zf (zaP 6 (i:=0) rfl rfl) ?_;have hul:=zdw Z none;refine gz4 ?_;refine uV1 [4,2,7,1,16,17] (fun (k:Nat)=>[(7,.int .i64 (k:Int))]) (fun (k:Nat)=>[]) (fun (k:Nat)=>1<=k/\∀(i:Nat) (x y:ChoiceS),i+1<k->(zv none Z)[i]? =some x->(zv none Z)[i+1]? =some y->zaQ x y≠0) (fun (k:Nat)=>(zv none Z).length-k) (1) ?_ ?_ ?_ ?_;exact ⟨Ae _,fun i x y h=>by omega⟩;exact ⟨rfl,trivial⟩;exact zm rfl
 intro k hinv
 obtain ⟨hk,hadj⟩:=hinv;refine gz4 ?_;refine dq (zaq (f:=zk) (l:=(zv none Z)) zaa rfl) ?_;refine gz2 ?_;refine uCo (fun h1=> ?_) fun h2=> ?_
 obtain ⟨x,hx⟩: ∃x,(zv none Z)[k-1]? =some x:=⟨_,Aa uO⟩
 obtain ⟨y,hy⟩: ∃y,(zv none Z)[k]? =some y:=⟨_,Aa uO⟩
 refine gz4 ?_;refine zw (fun _=>True) [] mixed ?_;refine gz3 ?_;refine uB 3 rfl (zl (j:=k-1) (a:=x) zaa zR rfl rfl uO hx) ?_;refine gz3 ?_;refine uB 7 rfl (zl (j:=k) (a:=y) zaa zR rfl rfl rfl hy) ?_;refine gz1 ?_;refine uB 9 rfl (uCl zqJ rfl zem) ?_;refine gz2 ?_;refine uCo (fun h3=> ?_) fun h4=> ?_
 refine gz5 ?_
 (have hcf:=znY zd6 hms hns hz3 hz2 hx (by rw [show k-1+1=k by omega];exact hy) (by assumption)
  exact zhp rfl (zaX (by rw [zex,if_pos hcf];exact zbY 5) (by rw [zgO,if_pos hcf];exact Weak.refl _)))
 refine gz8 ?_;exact ⟨k+1,⟨by omega,fun i x2 y2 h3 h4 h5=>by
  rcases Az (i+1) k with q|q
  exact hadj i x2 y2 q h4 h5;obtain rfl:i=k-1:=by omega
  rw [hx] at h4;rw [show k-1+1=k by omega,hy] at h5;rw [<-Ak h4,<-Ak h5];assumption⟩,uD,⟨rfl,trivial⟩,uK,Ab _⟩
 obtain ⟨hcf,hme⟩:=znX zd6 hms hns hz3 hz2 (fun i x y h1 h2=>hadj i x y (by have:=zo h2;omega) h1 h2);refine gz2 ?_;refine zp ?_;refine gz5 ?_;refine dq (zaq (f:=zk) (l:=(zv none Z)) zaa rfl) ?_;refine gz2 ?_;refine zaf rfl (fun h5=> ?_) (fun h5=> ?_)
 exfalso
 try simp at h5
 omega
 try simp at h5
 refine gz8 ?_
 (refine zx rfl ?_
  have h9: ¬1000<(zcK zaQ a b).length:=by omega
  have h8: ¬zbC zaQ a b=true:=by simp [hcf]
  have e1:zex a b=zcK zaQ a b:=by rw [zex,if_neg h8,if_neg h9]
  have e2:zgO a b=0:=by rw [zgO,if_neg h8,if_neg h9]
  rw [e1,e2,hme];rfl)
theorem ziH [Tracks] {y x:ChoiceS}:ConP prog 199 [zk y,.vptr (zd (zk x)) 0] (.bool (decide (zaQ x y=0))):=by
 refine uOb func199 ntmps199 ?_;refine gz5 ?_;refine dq (zad (h:=zk x) zR rfl rfl rfl rfl) ?_;refine dq (zad (h:=zk y) zR rfl rfl rfl rfl) ?_;refine dq (uCl zqK rfl zdm) ?_;refine gz4 ?_;refine zx rfl ?_
 show HVal.bool _=_
 rfl
theorem zjF [Tracks] {a b:List ChoiceS} (ha:a.length<=100) (hb:b.length<=100) (hpa: ∀x∈a,x.Players.length<=1000000) (hms:a.Pairwise fun x y=>zaQ x y<0) (hns:b.Pairwise fun x y=>zaQ x y<0):ConP prog 86 [zdM a,zdM b] (.tup [zdM (zex a b),.int .i64 (zgO a b)]):=by
 have hml:=zgQ zaQ a b;refine uOb func86 ntmps86 ?_;refine gz6 ?_;refine de rfl (zaA zuM rfl (WeakL.refl _) (zbV (l:=a) uO) fun v11=> ?_)
 refine gz9 ?_;refine uV2 [4,3,8,2,14,23] (fun (k:Nat) (u:Value)=>[(14,.int .i64 k),(6,.raw u)]) (fun (k:Nat) (u:Value)=>[.arr u 5 ((zcZ zaQ a (b.take k)).map zk)]) (fun (k:Nat) (u:Value)=>k<=b.length/\(zbC zaQ a (b.take k)=false)) (fun (k:Nat) (u:Value)=>b.length-k) (0) (v11) ?_ ?_ ?_ ?_;exact ⟨Ad _,by simp [zbC]⟩;exact ⟨rfl,rfl,trivial⟩;exact zm (by simp [zcZ])
 intro k u hinv
 obtain ⟨hk,hcf⟩:=hinv;refine gz4 ?_;refine uCo (fun h1=> ?_) fun h2=> ?_
 obtain ⟨x,hx⟩: ∃x,b[k]? =some x:=⟨_,Aa h1⟩
 have hdx:=zi hx;refine gz5 ?_;refine dq (zl zaa zR rfl rfl rfl (by assumption)) ?_;refine gz1 ?_;refine de rfl (zq zR rfl fun b8=> ?_)
 refine de0 (zJ zR rfl rfl rfl rfl rfl ?_)
 refine gz1 ?_;refine zf (zA 8 rfl) ?_;refine gz3 ?_;refine dq (uCl zyx rfl (zeN (l:=a) (p:=fun y=>decide (zaQ x y=0)) zyy (fun _=>ziH) uO)) ?_;refine gz8 ?_;refine uCo (fun h3=> ?_) fun h4=> ?_
 have hnone:(a.any fun y=>decide (zaQ x y=0))=false:=by rw [<-zcu _ a 0 uO];simp;omega
 refine gz2 ?_;refine dq (zad (h:=zk x) zR rfl rfl rfl rfl) ?_;refine dq (zb (hs:=[_]) zaa zR rfl rfl (by decide) (by decide) rfl) ?_;refine de rfl (zC (i:=0) zaa zR rfl rfl rfl rfl rfl (by simp [zal,zd]) (by have:=zgy zaQ a (b.take k);simp only [Aj,Ao,Aq,Ag] at*;omega) fun v27=> ?_)
 refine gz9 ?_;exact ⟨k+1,v27,⟨by omega,znK hx hnone hcf⟩,uD,⟨rfl,rfl,trivial⟩,uK,zm (by dsimp only;rw [znz hx hnone,Ap];rfl)⟩;obtain ⟨i0,hi0,hil,⟨z,hz,hpz⟩,_⟩:=zf4 (fun y=>decide (zaQ x y=0)) a 0 uO uO;rw [Ca] at hi0;have hpz2:zaQ x z=0:=by simpa using hpz
 have hzm:=Ac hz;have hany:(a.any fun y=>decide (zaQ x y=0))=true:=List.any_eq_true.2 ⟨z,hzm,hpz⟩;refine zw (fun _=>True) [] mixed ?_;refine gz2 ?_;refine uB 2 rfl (zl (j:=i0) (a:=z) zaa zR rfl rfl (by rw [hi0]) hz) ?_;refine gz1 ?_;refine uB 4 rfl (zad (h:=zk x) zR rfl rfl rfl rfl) ?_;refine uB 5 rfl (uCl ca92 rfl (zgm (hpa z hzm))) ?_;refine gz3 ?_;refine uCo (fun h5=> ?_) fun h6=> ?_
 refine gz5 ?_
 (have hzx:x≠z:=fun q=>by have q2:=(zfR _ _).2 q.symm;simp_all
  have hc1:=zpt (Ac hx) hzm hpz2 hzx;exact ⟨_,[],Ghost.clear,_,_,rfl,zaX (by rw [zex,if_pos hc1];focus first|done|exact zbY 5) (by rw [zgO,if_pos hc1];focus first|done|exact Weak.refl _),rfl,rfl⟩)
 refine gz8 ?_;have hzx:z=x:=by
  refine (zfR _ _).1 ?_
  simp_all
 exact ⟨k+1,u,⟨by omega,znL zd6 hms hx hzm hpz2 hzx.symm hcf⟩,uD,⟨rfl,rfl,trivial⟩,uK,zm (by dsimp only;rw [zph hx hany])⟩;have hnk:b.length<=k:=by omega
 obtain rfl:k=b.length:=by omega
 rw [Al] at hcf;rw [Al];refine gz2 ?_;refine zM ?_;refine gz3 ?_;have hal:=zgy zaQ a b;refine gz2 ?_;refine de rfl (zaT (i:=0) (es:=(zcZ zaQ a b)) zaa rfl rfl ?_)
 refine gz2 ?_;refine zaf rfl (fun h7=> ?_) (fun h7=> ?_)
 exfalso
 try simp at h7
 omega
 try simp at h7
 refine gz4 ?_;refine de rfl (za (i:=0) zyz rfl (WeakL.refl _) rfl (zqz (c:=zaQ) (zhT zd6) zqK (fun _ _=> @zdm zda _ _) (l:=zcZ zaQ a b) uO) ?_)
 rintro _ _ ⟨l',rfl,hp',hw',rfl⟩;obtain rfl:=zlw zd6 hms hns hp' hw';refine gz7 ?_
 (have hmp:(zcK zaQ a b).length<=200:=by omega
  refine zut (M:=[]) 4 rfl rfl ?_;have h9: ¬1000<(zcK zaQ a b).length:=by omega
  have h8: ¬zbC zaQ a b=true:=by simp [hcf]
  have e1:zex a b=zcK zaQ a b:=by rw [zex,if_neg h8,if_neg h9]
  have e2:zgO a b=0:=by rw [zgO,if_neg h8,if_neg h9]
  rw [e1,e2];rfl)
end
end Go.Proofs.YtbbpommdmnjfmaaGreatDoor
namespace Go.HL
section
variable {P:Program} {e:Env} {dst:Option Tmp} {ty:TypeId} {pos:String} {af:Array Edge} {g:Option (Nat×Bool)}
theorem zoX [Tracks] {x y:Operand} {t t':TypeId} {fs:List (Nat×Nat)} {s by':Nat} {z:Value} {cs ds:List HVal} (hf:Fits P t (.struct fs) s by' z) (hq:EqOk P t) (hx:zn e x=some (.agg cs)) (hy:zn e y=some (.agg ds)) (hk:zmH P fs 0 cs ds):
 POp P e ⟨dst,.binOp .neq t x y t',ty,pos,af,g⟩ (.bool (!(zbl cs ds))):=
 zL fun I a w ho=>by
  obtain ⟨xs,h1,h2⟩:=(ho.one (x:=x) (by simp [Op.operands]) hx).agg_inv;obtain ⟨ys,h3,h4⟩:=(ho.one (x:=y) (by simp [Op.operands]) hy).agg_inv;refine ⟨_,?_,.bool _⟩
  simp only [execOp,h1,h3,Sem.run_bind,zfQ hq,Result.andThen_ok,binOp,znl hf hq h2 h4 hk,Sem.run_pure]
end
end Go.HL
namespace Go.Proofs.YtbbpommdmnjfmaaGreatDoor
set_option maxRecDepth 100000
set_option linter.unusedVariables false
set_option linter.unusedSimpArgs false
section
open Go.Proofs.Tryz
open Go.HL
theorem zzs [Tracks]:EqOk prog 171:=⟨by kernel_rfl,by kernel_rfl,by kernel_rfl⟩
theorem eq92 [Tracks]:EqOk prog 92:=⟨by kernel_rfl,by kernel_rfl,by kernel_rfl⟩
theorem zh2 [Tracks] {l m:List PlayerS} {fid:FuncId} (hca:Callable prog fid) (hp: ∀x∈l,∀y,ConP prog fid [zbs x,zbs y] (.bool (zdS x y))) (hl:l.length<=1000000):ConP prog 156 [.slice 3 (l.map zbs),.slice 3 (m.map zbs),.fn (.func fid) [] []] (.bool (zcx zdS l m)):=by
 refine uOb func156 ntmps156 ?_;refine zbo ?_;refine uCo (fun h1=> ?_) fun h2=> ?_
 refine gz4 ?_;refine zx rfl ?_
 show HVal.bool _=_
 (congr 1;symm;exact zlm uO)
 refine gz9 ?_;refine uV1 [6,4,17,15] (fun (k:Nat)=>[(17,.int .i64 k)]) (fun (k:Nat)=>[]) (fun (k:Nat)=>k<=l.length/\(l.length=m.length/\zcx zdS l m=zcx zdS (l.drop k) (m.drop k))) (fun (k:Nat)=>l.length-k) (0) ?_ ?_ ?_ ?_;refine ⟨Ad _,?_,rfl⟩
 omega
 exact ⟨rfl,trivial⟩;exact Ab _
 intro k hinv
 obtain ⟨hk,hg⟩:=hinv;refine gz4 ?_;refine uCo (fun h3=> ?_) fun h4=> ?_
 obtain ⟨x,hx⟩: ∃x,l[k]? =some x:=⟨_,Aa h3⟩
 have hdx:=zi hx;obtain ⟨y,hy⟩: ∃y,m[k]? =some y:=⟨_,Aa uO⟩
 rw [hdx,zi hy] at hg;refine gz6 ?_;refine dq (zl zdi zcg rfl rfl rfl (by assumption)) ?_;refine gz1 ?_;refine de rfl (zq zcg rfl fun b8=> ?_)
 refine gz1 ?_;refine de0 (zJ zcg rfl rfl rfl rfl rfl ?_)
 refine gz1 ?_;refine zf (zA 8 rfl) ?_;refine gz3 ?_;refine dq (zl (j:=k) (a:=y) zdi zcg rfl rfl rfl hy) ?_;refine gz1 ?_;refine de rfl (zq zcg rfl fun b9=> ?_)
 refine de0 (zJ zcg rfl rfl rfl rfl rfl ?_)
 refine gz1 ?_;refine zf (zA 9 rfl) ?_;refine gz2 ?_;refine dq (zad (h:=zbs x) zcg rfl rfl rfl rfl) ?_;refine dq (zad (h:=zbs y) zcg rfl rfl rfl rfl) ?_;refine dq (z7 hca rfl rfl (WeakL.refl _) (hp _ (Ac hx) _)) ?_;refine gz2 ?_;refine uCo (fun h5=> ?_) fun h6=> ?_
 refine gz4 ?_;refine zx rfl ?_
 show HVal.bool _=_
 (rw [hg.2,zcx,show zdS x y=false by simpa using h5];rfl)
 refine gz7 ?_;refine ⟨k+1,?_,?_,⟨rfl,trivial⟩,uK,Ab _⟩
 refine ⟨by omega,hg.1,?_⟩
 rw [hg.2,zcx,show zdS x y=true by simpa using h6];rfl
 dsimp only;omega
 have hnk:l.length<=k:=by omega
 obtain rfl:k=l.length:=by omega
 rw [zz (Ae _)] at hg;refine gz2 ?_;refine zp ?_;refine gz6 ?_;refine zx rfl ?_
 show HVal.bool _=_
 (rw [hg.2,zz (AV hg.1.symm)];rfl)
theorem zi7 [Tracks] {l m:List SlotS} {fid:FuncId} (hca:Callable prog fid) (hp: ∀x∈l,∀y,ConP prog fid [za4 x,za4 y] (.bool (zec x y))) (hl:l.length<=1000000):ConP prog 159 [.slice 2 (l.map za4),.slice 2 (m.map za4),.fn (.func fid) [] []] (.bool (zcx zec l m)):=by
 refine uOb func159 ntmps159 ?_;refine zbo ?_;refine uCo (fun h1=> ?_) fun h2=> ?_
 refine gz4 ?_;refine zx rfl ?_
 show HVal.bool _=_
 (congr 1;symm;exact zlm uO)
 refine gz9 ?_;refine uV1 [6,4,17,15] (fun (k:Nat)=>[(17,.int .i64 k)]) (fun (k:Nat)=>[]) (fun (k:Nat)=>k<=l.length/\(l.length=m.length/\zcx zec l m=zcx zec (l.drop k) (m.drop k))) (fun (k:Nat)=>l.length-k) (0) ?_ ?_ ?_ ?_;refine ⟨Ad _,?_,rfl⟩
 omega
 exact ⟨rfl,trivial⟩;exact Ab _
 intro k hinv
 obtain ⟨hk,hg⟩:=hinv;refine gz4 ?_;refine uCo (fun h3=> ?_) fun h4=> ?_
 obtain ⟨x,hx⟩: ∃x,l[k]? =some x:=⟨_,Aa h3⟩
 have hdx:=zi hx;obtain ⟨y,hy⟩: ∃y,m[k]? =some y:=⟨_,Aa uO⟩
 rw [hdx,zi hy] at hg;refine gz6 ?_;refine dq (zl zcn zbE rfl rfl rfl (by assumption)) ?_;refine gz1 ?_;refine de rfl (zq zbE rfl fun b8=> ?_)
 refine gz1 ?_;refine de0 (zJ zbE rfl rfl rfl rfl rfl ?_)
 refine gz1 ?_;refine zf (zA 8 rfl) ?_;refine gz3 ?_;refine dq (zl (j:=k) (a:=y) zcn zbE rfl rfl rfl hy) ?_;refine gz1 ?_;refine de rfl (zq zbE rfl fun b9=> ?_)
 refine de0 (zJ zbE rfl rfl rfl rfl rfl ?_)
 refine gz1 ?_;refine zf (zA 9 rfl) ?_;refine gz2 ?_;refine dq (zad (h:=za4 x) zbE rfl rfl rfl rfl) ?_;refine dq (zad (h:=za4 y) zbE rfl rfl rfl rfl) ?_;refine dq (z7 hca rfl rfl (WeakL.refl _) (hp _ (Ac hx) _)) ?_;refine gz2 ?_;refine uCo (fun h5=> ?_) fun h6=> ?_
 refine gz4 ?_;refine zx rfl ?_
 show HVal.bool _=_
 (rw [hg.2,zcx,show zec x y=false by simpa using h5];rfl)
 refine gz7 ?_;refine ⟨k+1,?_,?_,⟨rfl,trivial⟩,uK,Ab _⟩
 refine ⟨by omega,hg.1,?_⟩
 rw [hg.2,zcx,show zec x y=true by simpa using h6];rfl
 dsimp only;omega
 have hnk:l.length<=k:=by omega
 obtain rfl:k=l.length:=by omega
 rw [zz (Ae _)] at hg;refine gz2 ?_;refine zp ?_;refine gz6 ?_;refine zx rfl ?_
 show HVal.bool _=_
 (rw [hg.2,zz (AV hg.1.symm)];rfl)
theorem zmd [Tracks] {l m:List ChoiceS} {fid:FuncId} (hca:Callable prog fid) (hp: ∀x∈l,∀y,ConP prog fid [zk x,zk y] (.bool (zfo x y))) (hl:l.length<=1000000):ConP prog 91 [.slice 5 (l.map zk),.slice 5 (m.map zk),.fn (.func fid) [] []] (.bool (zcx zfo l m)):=by
 refine uOb func91 ntmps91 ?_;refine zbo ?_;refine uCo (fun h1=> ?_) fun h2=> ?_
 refine gz4 ?_;refine zx rfl ?_
 show HVal.bool _=_
 (congr 1;symm;exact zlm uO)
 refine gz9 ?_;refine uV1 [6,4,17,15] (fun (k:Nat)=>[(17,.int .i64 k)]) (fun (k:Nat)=>[]) (fun (k:Nat)=>k<=l.length/\(l.length=m.length/\zcx zfo l m=zcx zfo (l.drop k) (m.drop k))) (fun (k:Nat)=>l.length-k) (0) ?_ ?_ ?_ ?_;refine ⟨Ad _,?_,rfl⟩
 omega
 exact ⟨rfl,trivial⟩;exact Ab _
 intro k hinv
 obtain ⟨hk,hg⟩:=hinv;refine gz4 ?_;refine uCo (fun h3=> ?_) fun h4=> ?_
 obtain ⟨x,hx⟩: ∃x,l[k]? =some x:=⟨_,Aa h3⟩
 have hdx:=zi hx;obtain ⟨y,hy⟩: ∃y,m[k]? =some y:=⟨_,Aa uO⟩
 rw [hdx,zi hy] at hg;refine gz6 ?_;refine dq (zl zaa zR rfl rfl rfl (by assumption)) ?_;refine gz1 ?_;refine de rfl (zq zR rfl fun b8=> ?_)
 refine gz1 ?_;refine de0 (zJ zR rfl rfl rfl rfl rfl ?_)
 refine gz1 ?_;refine zf (zA 8 rfl) ?_;refine gz3 ?_;refine dq (zl (j:=k) (a:=y) zaa zR rfl rfl rfl hy) ?_;refine gz1 ?_;refine de rfl (zq zR rfl fun b9=> ?_)
 refine de0 (zJ zR rfl rfl rfl rfl rfl ?_)
 refine gz1 ?_;refine zf (zA 9 rfl) ?_;refine gz2 ?_;refine dq (zad (h:=zk x) zR rfl rfl rfl rfl) ?_;refine dq (zad (h:=zk y) zR rfl rfl rfl rfl) ?_;refine dq (z7 hca rfl rfl (WeakL.refl _) (hp _ (Ac hx) _)) ?_;refine gz2 ?_;refine uCo (fun h5=> ?_) fun h6=> ?_
 refine gz4 ?_;refine zx rfl ?_
 show HVal.bool _=_
 (rw [hg.2,zcx,show zfo x y=false by simpa using h5];rfl)
 refine gz7 ?_;refine ⟨k+1,?_,?_,⟨rfl,trivial⟩,uK,Ab _⟩
 refine ⟨by omega,hg.1,?_⟩
 rw [hg.2,zcx,show zfo x y=true by simpa using h6];rfl
 dsimp only;omega
 have hnk:l.length<=k:=by omega
 obtain rfl:k=l.length:=by omega
 rw [zz (Ae _)] at hg;refine gz2 ?_;refine zp ?_;refine gz6 ?_;refine zx rfl ?_
 show HVal.bool _=_
 (rw [hg.2,zz (AV hg.1.symm)];rfl)
theorem zdj [Tracks] {l m:List StintS} (hl:l.length<=1000000):ConP prog 161 [zbZ l,zbZ m] (.bool (zah zbx l m)):=by
 refine uOb func161 ntmps161 ?_;refine zbo ?_;refine uCo (fun h1=> ?_) fun h2=> ?_
 refine gz4 ?_;refine zx rfl ?_
 show HVal.bool _=_
 (congr 1;symm;exact zdu uO)
 refine gz9 ?_;refine uV1 [4,2,13,13] (fun (k:Nat)=>[(13,.int .i64 k)]) (fun (k:Nat)=>[]) (fun (k:Nat)=>k<=l.length/\(l.length=m.length/\zah zbx l m=zah zbx (l.drop k) (m.drop k))) (fun (k:Nat)=>l.length-k) (0) ?_ ?_ ?_ ?_;refine ⟨Ad _,?_,rfl⟩
 omega
 exact ⟨rfl,trivial⟩;exact Ab _
 intro k hinv
 obtain ⟨hk,hg⟩:=hinv;refine gz4 ?_;refine uCo (fun h3=> ?_) fun h4=> ?_
 obtain ⟨x,hx⟩: ∃x,l[k]? =some x:=⟨_,Aa h3⟩
 have hdx:=zi hx;obtain ⟨y,hy⟩: ∃y,m[k]? =some y:=⟨_,Aa uO⟩
 rw [hdx,zi hy] at hg;refine gz8 ?_;refine zw (fun _=>True) [] mixed ?_;refine gz2 ?_;refine uB 2 rfl (zl zcL zbF rfl rfl rfl (by assumption)) ?_;refine gz3 ?_;refine uB 6 rfl (zl zcL zbF rfl rfl rfl (by assumption)) ?_;refine gz1 ?_;refine uB 8 rfl (zbQ zbF zzq rfl rfl ⟨rfl,⟨_,_,_,_,ty9,rfl⟩,⟨rfl,⟨_,_,_,_,ty9,rfl⟩,⟨rfl,⟨_,_,_,_,ty3,rfl⟩,trivial⟩⟩⟩) ?_;refine gz1 ?_;refine uCo (fun h5=> ?_) fun h6=> ?_
 refine gz4 ?_;refine zx rfl ?_
 show HVal.bool _=_
 (rw [hg.2,zah,show zbI zbx x y=false from h5];rfl)
 refine gz7 ?_;refine ⟨k+1,?_,?_,⟨rfl,trivial⟩,uK,Ab _⟩
 refine ⟨by omega,hg.1,?_⟩
 rw [hg.2,zah,show zbI zbx x y=true from h6];rfl
 dsimp only;omega
 have hnk:l.length<=k:=by omega
 obtain rfl:k=l.length:=by omega
 rw [zz (Ae _)] at hg;refine gz2 ?_;refine zp ?_;refine gz6 ?_;refine zx rfl ?_
 show HVal.bool _=_
 (rw [hg.2,zz (AV hg.1.symm)];rfl)
theorem zcQ [Tracks] {l m:List FixS} (hl:l.length<=1000000):ConP prog 162 [zeo l,zeo m] (.bool (zah zaV l m)):=by
 refine uOb func162 ntmps162 ?_;refine zbo ?_;refine uCo (fun h1=> ?_) fun h2=> ?_
 refine gz4 ?_;refine zx rfl ?_
 show HVal.bool _=_
 (congr 1;symm;exact zdu uO)
 refine gz9 ?_;refine uV1 [4,2,13,13] (fun (k:Nat)=>[(13,.int .i64 k)]) (fun (k:Nat)=>[]) (fun (k:Nat)=>k<=l.length/\(l.length=m.length/\zah zaV l m=zah zaV (l.drop k) (m.drop k))) (fun (k:Nat)=>l.length-k) (0) ?_ ?_ ?_ ?_;refine ⟨Ad _,?_,rfl⟩
 omega
 exact ⟨rfl,trivial⟩;exact Ab _
 intro k hinv
 obtain ⟨hk,hg⟩:=hinv;refine gz4 ?_;refine uCo (fun h3=> ?_) fun h4=> ?_
 obtain ⟨x,hx⟩: ∃x,l[k]? =some x:=⟨_,Aa h3⟩
 have hdx:=zi hx;obtain ⟨y,hy⟩: ∃y,m[k]? =some y:=⟨_,Aa uO⟩
 rw [hdx,zi hy] at hg;refine gz8 ?_;refine zw (fun _=>True) [] mixed ?_;refine gz2 ?_;refine uB 2 rfl (zl zbG zaM rfl rfl rfl (by assumption)) ?_;refine gz3 ?_;refine uB 6 rfl (zl zbG zaM rfl rfl rfl (by assumption)) ?_;refine gz1 ?_;refine uB 8 rfl (zbQ zaM zzr rfl rfl ⟨rfl,⟨_,_,_,_,ty3,rfl⟩,⟨rfl,⟨_,_,_,_,ty3,rfl⟩,⟨rfl,⟨_,_,_,_,ty9,rfl⟩,⟨rfl,⟨_,_,_,_,ty9,rfl⟩,trivial⟩⟩⟩⟩) ?_;refine gz1 ?_;refine uCo (fun h5=> ?_) fun h6=> ?_
 refine gz4 ?_;refine zx rfl ?_
 show HVal.bool _=_
 (rw [hg.2,zah,show zbI zaV x y=false from h5];rfl)
 refine gz7 ?_;refine ⟨k+1,?_,?_,⟨rfl,trivial⟩,uK,Ab _⟩
 refine ⟨by omega,hg.1,?_⟩
 rw [hg.2,zah,show zbI zaV x y=true from h6];rfl
 dsimp only;omega
 have hnk:l.length<=k:=by omega
 obtain rfl:k=l.length:=by omega
 rw [zz (Ae _)] at hg;refine gz2 ?_;refine zp ?_;refine gz6 ?_;refine zx rfl ?_
 show HVal.bool _=_
 (rw [hg.2,zz (AV hg.1.symm)];rfl)
theorem zdJ [Tracks] {l m:List RuleS} (hl:l.length<=1000000):ConP prog 163 [zdk l,zdk m] (.bool (zah zfl l m)):=by
 refine uOb func163 ntmps163 ?_;refine zbo ?_;refine uCo (fun h1=> ?_) fun h2=> ?_
 refine gz4 ?_;refine zx rfl ?_
 show HVal.bool _=_
 (congr 1;symm;exact zdu uO)
 refine gz9 ?_;refine uV1 [4,2,13,13] (fun (k:Nat)=>[(13,.int .i64 k)]) (fun (k:Nat)=>[]) (fun (k:Nat)=>k<=l.length/\(l.length=m.length/\zah zfl l m=zah zfl (l.drop k) (m.drop k))) (fun (k:Nat)=>l.length-k) (0) ?_ ?_ ?_ ?_;refine ⟨Ad _,?_,rfl⟩
 omega
 exact ⟨rfl,trivial⟩;exact Ab _
 intro k hinv
 obtain ⟨hk,hg⟩:=hinv;refine gz4 ?_;refine uCo (fun h3=> ?_) fun h4=> ?_
 obtain ⟨x,hx⟩: ∃x,l[k]? =some x:=⟨_,Aa h3⟩
 have hdx:=zi hx;obtain ⟨y,hy⟩: ∃y,m[k]? =some y:=⟨_,Aa uO⟩
 rw [hdx,zi hy] at hg;refine gz8 ?_;refine zw (fun _=>True) [] mixed ?_;refine gz2 ?_;refine uB 2 rfl (zl zfU zed rfl rfl rfl (by assumption)) ?_;refine gz3 ?_;refine uB 6 rfl (zl zfU zed rfl rfl rfl (by assumption)) ?_;refine gz1 ?_;refine uB 8 rfl (zoX zed zzs rfl rfl ⟨rfl,.inr ⟨_,_,_,_,_,_,_,_,rfl,rfl,ty9,rfl,⟨rfl,.inr ⟨_,_,_,_,_,_,_,_,rfl,rfl,ty9,rfl,⟨rfl,.inr ⟨_,_,_,_,_,_,_,_,rfl,rfl,ty9,rfl,⟨rfl,.inr ⟨_,_,_,_,_,_,_,_,rfl,rfl,ty3,rfl,⟨rfl,.inr ⟨_,_,_,_,_,_,_,_,rfl,rfl,ty3,rfl,⟨rfl,.inl ⟨_,_,_,_,zb6,znN,Ah rfl,Ah rfl,⟨rfl,⟨_,_,_,_,ty3,rfl⟩,⟨rfl,⟨_,_,_,_,ty3,rfl⟩,trivial⟩⟩,⟨rfl,rfl⟩⟩⟩⟩⟩⟩⟩⟩⟩⟩⟩⟩⟩) ?_;refine gz1 ?_;refine uCo (fun h5=> ?_) fun h6=> ?_
 refine gz4 ?_;refine zx rfl ?_
 show HVal.bool _=_
 (rw [hg.2,zah,show zbI zfl x y=false from h5];rfl)
 refine gz7 ?_;refine ⟨k+1,?_,?_,⟨rfl,trivial⟩,uK,Ab _⟩
 refine ⟨by omega,hg.1,?_⟩
 rw [hg.2,zah,show zbI zfl x y=true from h6];rfl
 dsimp only;omega
 have hnk:l.length<=k:=by omega
 obtain rfl:k=l.length:=by omega
 rw [zz (Ae _)] at hg;refine gz2 ?_;refine zp ?_;refine gz6 ?_;refine zx rfl ?_
 show HVal.bool _=_
 (rw [hg.2,zz (AV hg.1.symm)];rfl)
theorem zdI [Tracks] {l m:List GameS} (hl:l.length<=1000000):ConP prog 164 [zdN l,zdN m] (.bool (zah zaO l m)):=by
 refine uOb func164 ntmps164 ?_;refine zbo ?_;refine uCo (fun h1=> ?_) fun h2=> ?_
 refine gz4 ?_;refine zx rfl ?_
 show HVal.bool _=_
 (congr 1;symm;exact zdu uO)
 refine gz9 ?_;refine uV1 [4,2,13,13] (fun (k:Nat)=>[(13,.int .i64 k)]) (fun (k:Nat)=>[]) (fun (k:Nat)=>k<=l.length/\(l.length=m.length/\zah zaO l m=zah zaO (l.drop k) (m.drop k))) (fun (k:Nat)=>l.length-k) (0) ?_ ?_ ?_ ?_;refine ⟨Ad _,?_,rfl⟩
 omega
 exact ⟨rfl,trivial⟩;exact Ab _
 intro k hinv
 obtain ⟨hk,hg⟩:=hinv;refine gz4 ?_;refine uCo (fun h3=> ?_) fun h4=> ?_
 obtain ⟨x,hx⟩: ∃x,l[k]? =some x:=⟨_,Aa h3⟩
 have hdx:=zi hx;obtain ⟨y,hy⟩: ∃y,m[k]? =some y:=⟨_,Aa uO⟩
 rw [hdx,zi hy] at hg;refine gz8 ?_;refine zw (fun _=>True) [] mixed ?_;refine gz2 ?_;refine uB 2 rfl (zl zco zb7 rfl rfl rfl (by assumption)) ?_;refine gz3 ?_;refine uB 6 rfl (zl zco zb7 rfl rfl rfl (by assumption)) ?_;refine gz1 ?_;refine uB 8 rfl (zoX zb7 eq92 rfl rfl ⟨rfl,.inr ⟨_,_,_,_,_,_,_,_,rfl,rfl,ty3,rfl,⟨rfl,.inr ⟨_,_,_,_,_,_,_,_,rfl,rfl,ty9,rfl,⟨rfl,.inr ⟨_,_,_,_,_,_,_,_,rfl,rfl,ty9,rfl,⟨rfl,.inr ⟨_,_,_,_,_,_,_,_,rfl,rfl,ty4,rfl,⟨rfl,.inl ⟨_,_,_,_,zb6,znN,Ah rfl,Ah rfl,⟨rfl,⟨_,_,_,_,ty3,rfl⟩,⟨rfl,⟨_,_,_,_,ty3,rfl⟩,trivial⟩⟩,⟨rfl,.inl ⟨_,_,_,_,zb6,znN,Ah rfl,Ah rfl,⟨rfl,⟨_,_,_,_,ty3,rfl⟩,⟨rfl,⟨_,_,_,_,ty3,rfl⟩,trivial⟩⟩,⟨rfl,rfl⟩⟩⟩⟩⟩⟩⟩⟩⟩⟩⟩⟩⟩) ?_;refine gz1 ?_;refine uCo (fun h5=> ?_) fun h6=> ?_
 refine gz4 ?_;refine zx rfl ?_
 show HVal.bool _=_
 (rw [hg.2,zah,show zbI zaO x y=false from h5];rfl)
 refine gz7 ?_;refine ⟨k+1,?_,?_,⟨rfl,trivial⟩,uK,Ab _⟩
 refine ⟨by omega,hg.1,?_⟩
 rw [hg.2,zah,show zbI zaO x y=true from h6];rfl
 dsimp only;omega
 have hnk:l.length<=k:=by omega
 obtain rfl:k=l.length:=by omega
 rw [zz (Ae _)] at hg;refine gz2 ?_;refine zp ?_;refine gz6 ?_;refine zx rfl ?_
 show HVal.bool _=_
 (rw [hg.2,zz (AV hg.1.symm)];rfl)
theorem zgM [Tracks] {l m:List MoveS} (hl:l.length<=1000000):ConP prog 87 [zbB l,zbB m] (.bool (zah zaS l m)):=by
 refine uOb func87 ntmps87 ?_;refine zbo ?_;refine uCo (fun h1=> ?_) fun h2=> ?_
 refine gz4 ?_;refine zx rfl ?_
 show HVal.bool _=_
 (congr 1;symm;exact zdu uO)
 refine gz9 ?_;refine uV1 [4,2,13,13] (fun (k:Nat)=>[(13,.int .i64 k)]) (fun (k:Nat)=>[]) (fun (k:Nat)=>k<=l.length/\(l.length=m.length/\zah zaS l m=zah zaS (l.drop k) (m.drop k))) (fun (k:Nat)=>l.length-k) (0) ?_ ?_ ?_ ?_;refine ⟨Ad _,?_,rfl⟩
 omega
 exact ⟨rfl,trivial⟩;exact Ab _
 intro k hinv
 obtain ⟨hk,hg⟩:=hinv;refine gz4 ?_;refine uCo (fun h3=> ?_) fun h4=> ?_
 obtain ⟨x,hx⟩: ∃x,l[k]? =some x:=⟨_,Aa h3⟩
 have hdx:=zi hx;obtain ⟨y,hy⟩: ∃y,m[k]? =some y:=⟨_,Aa uO⟩
 rw [hdx,zi hy] at hg;refine gz8 ?_;refine zw (fun _=>True) [] mixed ?_;refine gz2 ?_;refine uB 2 rfl (zl zaZ zaR rfl rfl rfl (by assumption)) ?_;refine gz3 ?_;refine uB 6 rfl (zl zaZ zaR rfl rfl rfl (by assumption)) ?_;refine gz1 ?_;refine uB 8 rfl (zbQ zaR zuZ rfl rfl ⟨rfl,⟨_,_,_,_,ty3,rfl⟩,⟨rfl,⟨_,_,_,_,ty3,rfl⟩,⟨rfl,⟨_,_,_,_,ty9,rfl⟩,⟨rfl,⟨_,_,_,_,ty9,rfl⟩,trivial⟩⟩⟩⟩) ?_;refine gz1 ?_;refine uCo (fun h5=> ?_) fun h6=> ?_
 refine gz4 ?_;refine zx rfl ?_
 show HVal.bool _=_
 (rw [hg.2,zah,show zbI zaS x y=false from h5];rfl)
 refine gz7 ?_;refine ⟨k+1,?_,?_,⟨rfl,trivial⟩,uK,Ab _⟩
 refine ⟨by omega,hg.1,?_⟩
 rw [hg.2,zah,show zbI zaS x y=true from h6];rfl
 dsimp only;omega
 have hnk:l.length<=k:=by omega
 obtain rfl:k=l.length:=by omega
 rw [zz (Ae _)] at hg;refine gz2 ?_;refine zp ?_;refine gz6 ?_;refine zx rfl ?_
 show HVal.bool _=_
 (rw [hg.2,zz (AV hg.1.symm)];rfl)
theorem zgN [Tracks] {l m:List Play} (hl:l.length<=1000000):ConP prog 88 [zbk l,zbk m] (.bool (zah zu l m)):=by
 refine uOb func88 ntmps88 ?_;refine zbo ?_;refine uCo (fun h1=> ?_) fun h2=> ?_
 refine gz4 ?_;refine zx rfl ?_
 show HVal.bool _=_
 (congr 1;symm;exact zdu uO)
 refine gz9 ?_;refine uV1 [4,2,13,13] (fun (k:Nat)=>[(13,.int .i64 k)]) (fun (k:Nat)=>[]) (fun (k:Nat)=>k<=l.length/\(l.length=m.length/\zah zu l m=zah zu (l.drop k) (m.drop k))) (fun (k:Nat)=>l.length-k) (0) ?_ ?_ ?_ ?_;refine ⟨Ad _,?_,rfl⟩
 omega
 exact ⟨rfl,trivial⟩;exact Ab _
 intro k hinv
 obtain ⟨hk,hg⟩:=hinv;refine gz4 ?_;refine uCo (fun h3=> ?_) fun h4=> ?_
 obtain ⟨x,hx⟩: ∃x,l[k]? =some x:=⟨_,Aa h3⟩
 have hdx:=zi hx;obtain ⟨y,hy⟩: ∃y,m[k]? =some y:=⟨_,Aa uO⟩
 rw [hdx,zi hy] at hg;refine gz8 ?_;refine zw (fun _=>True) [] mixed ?_;refine gz2 ?_;refine uB 2 rfl (zl zaj zI rfl rfl rfl (by assumption)) ?_;refine gz3 ?_;refine uB 6 rfl (zl zaj zI rfl rfl rfl (by assumption)) ?_;refine gz1 ?_;refine uB 8 rfl (zbQ zI zqO rfl rfl ⟨rfl,⟨_,_,_,_,ty9,rfl⟩,⟨rfl,⟨_,_,_,_,ty3,rfl⟩,⟨rfl,⟨_,_,_,_,ty3,rfl⟩,⟨rfl,⟨_,_,_,_,ty3,rfl⟩,⟨rfl,⟨_,_,_,_,ty9,rfl⟩,⟨rfl,⟨_,_,_,_,ty9,rfl⟩,⟨rfl,⟨_,_,_,_,ty9,rfl⟩,⟨rfl,⟨_,_,_,_,ty3,rfl⟩,⟨rfl,⟨_,_,_,_,ty3,rfl⟩,trivial⟩⟩⟩⟩⟩⟩⟩⟩⟩) ?_;refine gz1 ?_;refine uCo (fun h5=> ?_) fun h6=> ?_
 refine gz4 ?_;refine zx rfl ?_
 show HVal.bool _=_
 (rw [hg.2,zah,show zbI zu x y=false from h5];rfl)
 refine gz7 ?_;refine ⟨k+1,?_,?_,⟨rfl,trivial⟩,uK,Ab _⟩
 refine ⟨by omega,hg.1,?_⟩
 rw [hg.2,zah,show zbI zu x y=true from h6];rfl
 dsimp only;omega
 have hnk:l.length<=k:=by omega
 obtain rfl:k=l.length:=by omega
 rw [zz (Ae _)] at hg;refine gz2 ?_;refine zp ?_;refine gz6 ?_;refine zx rfl ?_
 show HVal.bool _=_
 (rw [hg.2,zz (AV hg.1.symm)];rfl)
theorem zgL [Tracks] {l m:List MendS} (hl:l.length<=1000000):ConP prog 89 [zbj l,zbj m] (.bool (zah zB l m)):=by
 refine uOb func89 ntmps89 ?_;refine zbo ?_;refine uCo (fun h1=> ?_) fun h2=> ?_
 refine gz4 ?_;refine zx rfl ?_
 show HVal.bool _=_
 (congr 1;symm;exact zdu uO)
 refine gz9 ?_;refine uV1 [4,2,13,13] (fun (k:Nat)=>[(13,.int .i64 k)]) (fun (k:Nat)=>[]) (fun (k:Nat)=>k<=l.length/\(l.length=m.length/\zah zB l m=zah zB (l.drop k) (m.drop k))) (fun (k:Nat)=>l.length-k) (0) ?_ ?_ ?_ ?_;refine ⟨Ad _,?_,rfl⟩
 omega
 exact ⟨rfl,trivial⟩;exact Ab _
 intro k hinv
 obtain ⟨hk,hg⟩:=hinv;refine gz4 ?_;refine uCo (fun h3=> ?_) fun h4=> ?_
 obtain ⟨x,hx⟩: ∃x,l[k]? =some x:=⟨_,Aa h3⟩
 have hdx:=zi hx;obtain ⟨y,hy⟩: ∃y,m[k]? =some y:=⟨_,Aa uO⟩
 rw [hdx,zi hy] at hg;refine gz8 ?_;refine zw (fun _=>True) [] mixed ?_;refine gz2 ?_;refine uB 2 rfl (zl zak zN rfl rfl rfl (by assumption)) ?_;refine gz3 ?_;refine uB 6 rfl (zl zak zN rfl rfl rfl (by assumption)) ?_;refine gz1 ?_;refine uB 8 rfl (zbQ zN zqP rfl rfl ⟨rfl,⟨_,_,_,_,ty9,rfl⟩,⟨rfl,⟨_,_,_,_,ty3,rfl⟩,⟨rfl,⟨_,_,_,_,ty9,rfl⟩,⟨rfl,⟨_,_,_,_,ty3,rfl⟩,⟨rfl,⟨_,_,_,_,ty3,rfl⟩,⟨rfl,⟨_,_,_,_,ty3,rfl⟩,⟨rfl,⟨_,_,_,_,ty9,rfl⟩,trivial⟩⟩⟩⟩⟩⟩⟩) ?_;refine gz1 ?_;refine uCo (fun h5=> ?_) fun h6=> ?_
 refine gz4 ?_;refine zx rfl ?_
 show HVal.bool _=_
 (rw [hg.2,zah,show zbI zB x y=false from h5];rfl)
 refine gz7 ?_;refine ⟨k+1,?_,?_,⟨rfl,trivial⟩,uK,Ab _⟩
 refine ⟨by omega,hg.1,?_⟩
 rw [hg.2,zah,show zbI zB x y=true from h6];rfl
 dsimp only;omega
 have hnk:l.length<=k:=by omega
 obtain rfl:k=l.length:=by omega
 rw [zz (Ae _)] at hg;refine gz2 ?_;refine zp ?_;refine gz6 ?_;refine zx rfl ?_
 show HVal.bool _=_
 (rw [hg.2,zz (AV hg.1.symm)];rfl)
theorem zfz [Tracks] {l m:List HealthS} (hl:l.length<=1000000):ConP prog 90 [za1 l,za1 m] (.bool (zah zD l m)):=by
 refine uOb func90 ntmps90 ?_;refine zbo ?_;refine uCo (fun h1=> ?_) fun h2=> ?_
 refine gz4 ?_;refine zx rfl ?_
 show HVal.bool _=_
 (congr 1;symm;exact zdu uO)
 refine gz9 ?_;refine uV1 [4,2,13,13] (fun (k:Nat)=>[(13,.int .i64 k)]) (fun (k:Nat)=>[]) (fun (k:Nat)=>k<=l.length/\(l.length=m.length/\zah zD l m=zah zD (l.drop k) (m.drop k))) (fun (k:Nat)=>l.length-k) (0) ?_ ?_ ?_ ?_;refine ⟨Ad _,?_,rfl⟩
 omega
 exact ⟨rfl,trivial⟩;exact Ab _
 intro k hinv
 obtain ⟨hk,hg⟩:=hinv;refine gz4 ?_;refine uCo (fun h3=> ?_) fun h4=> ?_
 obtain ⟨x,hx⟩: ∃x,l[k]? =some x:=⟨_,Aa h3⟩
 have hdx:=zi hx;obtain ⟨y,hy⟩: ∃y,m[k]? =some y:=⟨_,Aa uO⟩
 rw [hdx,zi hy] at hg;refine gz8 ?_;refine zw (fun _=>True) [] mixed ?_;refine gz2 ?_;refine uB 2 rfl (zl zaL zU rfl rfl rfl (by assumption)) ?_;refine gz3 ?_;refine uB 6 rfl (zl zaL zU rfl rfl rfl (by assumption)) ?_;refine gz1 ?_;refine uB 8 rfl (zbQ zU zqQ rfl rfl ⟨rfl,⟨_,_,_,_,ty9,rfl⟩,⟨rfl,⟨_,_,_,_,ty3,rfl⟩,⟨rfl,⟨_,_,_,_,ty3,rfl⟩,⟨rfl,⟨_,_,_,_,ty3,rfl⟩,trivial⟩⟩⟩⟩) ?_;refine gz1 ?_;refine uCo (fun h5=> ?_) fun h6=> ?_
 refine gz4 ?_;refine zx rfl ?_
 show HVal.bool _=_
 (rw [hg.2,zah,show zbI zD x y=false from h5];rfl)
 refine gz7 ?_;refine ⟨k+1,?_,?_,⟨rfl,trivial⟩,uK,Ab _⟩
 refine ⟨by omega,hg.1,?_⟩
 rw [hg.2,zah,show zbI zD x y=true from h6];rfl
 dsimp only;omega
 have hnk:l.length<=k:=by omega
 obtain rfl:k=l.length:=by omega
 rw [zz (Ae _)] at hg;refine gz2 ?_;refine zp ?_;refine gz6 ?_;refine zx rfl ?_
 show HVal.bool _=_
 (rw [hg.2,zz (AV hg.1.symm)];rfl)
theorem zme [Tracks] {l m:List Int} (hl:l.length<=1000000):ConP prog 165 [.slice 1 (l.map zir),.slice 1 (m.map zir)] (.bool (zah zir l m)):=by
 refine uOb func165 ntmps165 ?_;refine zbo ?_;refine uCo (fun h1=> ?_) fun h2=> ?_
 refine gz4 ?_;refine zx rfl ?_
 show HVal.bool _=_
 (congr 1;symm;exact zdu uO)
 refine gz9 ?_;refine uV1 [4,2,13,13] (fun (k:Nat)=>[(13,.int .i64 k)]) (fun (k:Nat)=>[]) (fun (k:Nat)=>k<=l.length/\(l.length=m.length/\zah zir l m=zah zir (l.drop k) (m.drop k))) (fun (k:Nat)=>l.length-k) (0) ?_ ?_ ?_ ?_;refine ⟨Ad _,?_,rfl⟩
 omega
 exact ⟨rfl,trivial⟩;exact Ab _
 intro k hinv
 obtain ⟨hk,hg⟩:=hinv;refine gz4 ?_;refine uCo (fun h3=> ?_) fun h4=> ?_
 obtain ⟨x,hx⟩: ∃x,l[k]? =some x:=⟨_,Aa h3⟩
 have hdx:=zi hx;obtain ⟨y,hy⟩: ∃y,m[k]? =some y:=⟨_,Aa uO⟩
 rw [hdx,zi hy] at hg;refine gz8 ?_;refine zw (fun _=>True) [] mixed ?_;refine gz2 ?_;refine uB 2 rfl (zl zac ty3 rfl rfl rfl (by assumption)) ?_;refine gz3 ?_;refine uB 6 rfl (zl zac ty3 rfl rfl rfl (by assumption)) ?_;refine gz3 ?_;refine uCo (fun h5=> ?_) fun h6=> ?_
 refine gz4 ?_;refine zx rfl ?_
 show HVal.bool _=_
 (rw [hg.2,zah,show zbI zir x y=false by simpa [zbI,zd,zbl,eqH] using h5];rfl)
 refine gz7 ?_;refine ⟨k+1,?_,?_,⟨rfl,trivial⟩,uK,Ab _⟩
 refine ⟨by omega,hg.1,?_⟩
 rw [hg.2,zah,show zbI zir x y=true by simpa [zbI,zd,zbl,eqH] using h6];rfl
 dsimp only;omega
 have hnk:l.length<=k:=by omega
 obtain rfl:k=l.length:=by omega
 rw [zz (Ae _)] at hg;refine gz2 ?_;refine zp ?_;refine gz6 ?_;refine zx rfl ?_
 show HVal.bool _=_
 (rw [hg.2,zz (AV hg.1.symm)];rfl)
theorem zkF [Tracks] {a b:PlayerS} (ha:a.Positions.length<=1000000):ConP prog 157 [zbs a,zbs b] (.bool (zdS a b)):=by
 refine uOb func157 ntmps157 ?_;refine gz23 ?_;refine dg rfl rfl (fun hc=>⟨_,OpenTo.upd (t:=21) rfl (hc) (OpenTo.upd (t:=19) rfl (hc) (OpenTo.refl _)),uCl zhW rfl (zaw (l:=a.Positions) (m:=b.Positions) ha)⟩) ?_;refine gz4 ?_;refine zx rfl ?_
 show HVal.bool _=_
 unfold zdS
 (cases a.Key==b.Key<;>simp_all)
theorem zke [Tracks] {a b:PlayerS} (ha:a.Positions.length<=1000000):ConP prog 188 [zbs a,zbs b] (.bool (zdS a b)):=by
 refine uOb func188 ntmps188 ?_;refine gz23 ?_;refine dg rfl rfl (fun hc=>⟨_,OpenTo.upd (t:=21) rfl (hc) (OpenTo.upd (t:=19) rfl (hc) (OpenTo.refl _)),uCl zhW rfl (zaw (l:=a.Positions) (m:=b.Positions) ha)⟩) ?_;refine gz4 ?_;refine zx rfl ?_
 show HVal.bool _=_
 unfold zdS
 (cases a.Key==b.Key<;>simp_all)
theorem zkG [Tracks] {a b:SlotS} (ha:a.Positions.length<=1000000):ConP prog 160 [za4 a,za4 b] (.bool (zec a b)):=by
 refine uOb func160 ntmps160 ?_;refine zry ?_;refine dg rfl rfl (fun hc=>⟨_,OpenTo.upd (t:=14) rfl (hc) (OpenTo.upd (t:=12) rfl (hc) (OpenTo.refl _)),uCl zhW rfl (zaw (l:=a.Positions) (m:=b.Positions) ha)⟩) ?_;refine gz4 ?_;refine zx rfl ?_
 show HVal.bool _=_
 unfold zec
 (cases a.Key==b.Key<;>simp_all)
theorem zjc [Tracks] {a b:SlotS} (ha:a.Positions.length<=1000000):ConP prog 187 [za4 a,za4 b] (.bool (zec a b)):=by
 refine uOb func187 ntmps187 ?_;refine zry ?_;refine dg rfl rfl (fun hc=>⟨_,OpenTo.upd (t:=14) rfl (hc) (OpenTo.upd (t:=12) rfl (hc) (OpenTo.refl _)),uCl zhW rfl (zaw (l:=a.Positions) (m:=b.Positions) ha)⟩) ?_;refine gz4 ?_;refine zx rfl ?_
 show HVal.bool _=_
 unfold zec
 (cases a.Key==b.Key<;>simp_all)
theorem zlV [Tracks] {a b:LeagueS} (hb:LeaB a):ConP prog 74 [zaE a,zaE b] (.bool (zdV a b)):=by
 refine uOb func74 ntmps74 ?_;refine zaD ?_;refine dq (uCl zvV rfl (zh2 (l:=a.Players) (m:=b.Players) zx4 (fun x hx y=>zkF (hb.po x hx)) hb.pl)) ?_;refine gz7 ?_;refine dq (uCl zvW rfl (zi7 (l:=a.Slots) (m:=b.Slots) zx5 (fun x hx y=>zkG (hb.sp x hx)) hb.sl)) ?_;refine gz7 ?_;refine dq (uCl zvX rfl (zdj (l:=a.Stints) (m:=b.Stints) hb.st)) ?_;refine gz5 ?_;refine dg rfl rfl (fun hc=>⟨_,OpenTo.upd (t:=28) rfl (hc) (OpenTo.upd (t:=26) rfl (hc) (OpenTo.refl _)),uCl zvY rfl (zcQ (l:=a.Fixtures) (m:=b.Fixtures) hb.fx)⟩) ?_;refine gz6 ?_;refine dg rfl rfl (fun hc=>⟨_,OpenTo.upd (t:=35) rfl (hc) (OpenTo.upd (t:=33) rfl (hc) (OpenTo.refl _)),uCl zvZ rfl (zdJ (l:=a.Rules) (m:=b.Rules) hb.ru)⟩) ?_;refine gz6 ?_;refine dg rfl rfl (fun hc=>⟨_,OpenTo.upd (t:=42) rfl (hc) (OpenTo.upd (t:=40) rfl (hc) (OpenTo.refl _)),uCl zv0 rfl (zdI (l:=a.Games) (m:=b.Games) hb.ga)⟩) ?_;refine gz8 ?_;refine dq (uCl zhW rfl (zaw (l:=a.Teams) (m:=b.Teams) hb.tm)) ?_;refine gz5 ?_;refine dg rfl rfl (fun hc=>⟨_,OpenTo.upd (t:=54) rfl (hc) (OpenTo.upd (t:=52) rfl (hc) (OpenTo.refl _)),uCl zv1 rfl (zme (l:=a.Breaks) (m:=b.Breaks) hb.br)⟩) ?_;refine gz6 ?_;refine dg rfl rfl (fun hc=>⟨_,OpenTo.upd (t:=61) rfl (hc) (OpenTo.upd (t:=59) rfl (hc) (OpenTo.refl _)),uCl zhW rfl (zaw (l:=a.Trust) (m:=b.Trust) hb.tr)⟩) ?_;refine zry ?_;refine dg rfl rfl (fun hc=>⟨_,OpenTo.upd (t:=75) rfl (hc) (OpenTo.refl _),zae (h':=zgp a.Bounds) (zaB zgj rfl rfl (Ah rfl)) rfl⟩) ?_;refine gz1 ?_;refine dg rfl rfl (fun hc=>⟨_,OpenTo.upd (t:=77) rfl (hc) (OpenTo.refl _),zae (h':=zgp b.Bounds) (zaB zgj rfl rfl (Ah rfl)) rfl⟩) ?_;refine dg rfl rfl (fun hc=>⟨_,OpenTo.upd (t:=78) rfl (hc) (OpenTo.upd (t:=76) rfl (hc) (OpenTo.refl _)),zgT zgj eq32 rfl rfl ⟨rfl,⟨_,_,_,_,ty3,rfl⟩,⟨rfl,⟨_,_,_,_,ty3,rfl⟩,⟨rfl,⟨_,_,_,_,ty3,rfl⟩,⟨rfl,⟨_,_,_,_,ty3,rfl⟩,trivial⟩⟩⟩⟩⟩) ?_;refine zbo ?_;refine zx rfl ?_
 show HVal.bool _=_
 unfold zdV zkV zbI;simp only [B7,Bool.and_assoc]
 rfl
theorem zgn [Tracks] {a b:LeagueS} (hb:LeaB a):ConP prog 81 [zaE a,zaE b] (.bool (zdV a b)):=by
 refine znm func81 rfl ntmps81 rfl rfl ?_;refine zmA ?_;refine dq (zpD rfl rfl) ?_;refine dq (zpD rfl rfl) ?_;refine das rfl ?_;refine dn ?_;refine zmA ?_;refine dq (zav zax rfl zfU (by decide) rfl) ?_;refine dq (zbm zfU rfl rfl rfl) ?_;refine dq (zav zax rfl zfU (by decide) rfl) ?_;refine dq (zbm zfU rfl rfl rfl) ?_;refine dq (zcT zvZ rfl (WeakL.refl _) (zdJ (l:=a.Rules) (m:=b.Rules) hb.ru)) ?_;refine dmv rfl ?_;refine dg rfl rfl (fun hc=>⟨_,OpenTo.refl _,zav zax rfl zcn (by decide) rfl⟩) ?_;refine dg rfl rfl (fun hc=>⟨_,OpenTo.upd (t:=12) rfl (hc) (OpenTo.refl _),zbm zcn rfl rfl rfl⟩) ?_;refine dg rfl rfl (fun hc=>⟨_,OpenTo.refl _,zav zax rfl zcn (by decide) rfl⟩) ?_;refine dg rfl rfl (fun hc=>⟨_,OpenTo.upd (t:=14) rfl (hc) (OpenTo.refl _),zbm zcn rfl rfl rfl⟩) ?_;refine dg rfl rfl (fun hc=>⟨_,OpenTo.upd (t:=15) rfl (hc) (OpenTo.upd (t:=13) rfl (hc) (OpenTo.refl _)),zcT zvW rfl (WeakL.refl _) (zi7 (l:=a.Slots) (m:=b.Slots) zym (fun x hx y=>zjc (hb.sp x hx)) hb.sl)⟩) ?_;refine dq (zc5 rfl (.inr ⟨_,rfl,fun h=>by simp_all⟩) (.inl rfl)) ?_;refine das rfl ?_;refine dn ?_;refine zmA ?_;refine dmv rfl ?_;refine dmv rfl ?_;refine dg rfl rfl (fun hc=>⟨_,OpenTo.refl _,zav zax rfl zdi (by decide) rfl⟩) ?_;refine dg rfl rfl (fun hc=>⟨_,OpenTo.upd (t:=20) rfl (hc) (OpenTo.refl _),zbm zdi rfl rfl rfl⟩) ?_;refine dg rfl rfl (fun hc=>⟨_,OpenTo.refl _,zav zax rfl zdi (by decide) rfl⟩) ?_;refine dg rfl rfl (fun hc=>⟨_,OpenTo.upd (t:=22) rfl (hc) (OpenTo.refl _),zbm zdi rfl rfl rfl⟩) ?_;refine dg rfl rfl (fun hc=>⟨_,OpenTo.upd (t:=23) rfl (hc) (OpenTo.upd (t:=21) rfl (hc) (OpenTo.refl _)),zcT zvV rfl (WeakL.refl _) (zh2 (l:=a.Players) (m:=b.Players) zyn (fun x hx y=>zke (hb.po x hx)) hb.pl)⟩) ?_;refine dq (zc5 rfl (.inr ⟨_,rfl,fun h=>by simp_all⟩) (.inl rfl)) ?_;refine dmv rfl ?_;refine dg rfl rfl (fun hc=>⟨_,OpenTo.refl _,zav zax rfl zcL (by decide) rfl⟩) ?_;refine dg rfl rfl (fun hc=>⟨_,OpenTo.upd (t:=27) rfl (hc) (OpenTo.refl _),zbm zcL rfl rfl rfl⟩) ?_;refine dg rfl rfl (fun hc=>⟨_,OpenTo.refl _,zav zax rfl zcL (by decide) rfl⟩) ?_;refine dg rfl rfl (fun hc=>⟨_,OpenTo.upd (t:=29) rfl (hc) (OpenTo.refl _),zbm zcL rfl rfl rfl⟩) ?_;refine dg rfl rfl (fun hc=>⟨_,OpenTo.upd (t:=30) rfl (hc) (OpenTo.upd (t:=28) rfl (hc) (OpenTo.refl _)),zcT zvX rfl (WeakL.refl _) (zdj (l:=a.Stints) (m:=b.Stints) hb.st)⟩) ?_;refine dq (zc5 rfl (.inr ⟨_,rfl,fun h=>by simp_all⟩) (.inl rfl)) ?_;refine dmv rfl ?_;refine dg rfl rfl (fun hc=>⟨_,OpenTo.refl _,zav zax rfl zbG (by decide) rfl⟩) ?_;refine dg rfl rfl (fun hc=>⟨_,OpenTo.upd (t:=34) rfl (hc) (OpenTo.refl _),zbm zbG rfl rfl rfl⟩) ?_;refine dg rfl rfl (fun hc=>⟨_,OpenTo.refl _,zav zax rfl zbG (by decide) rfl⟩) ?_;refine dg rfl rfl (fun hc=>⟨_,OpenTo.upd (t:=36) rfl (hc) (OpenTo.refl _),zbm zbG rfl rfl rfl⟩) ?_;refine dg rfl rfl (fun hc=>⟨_,OpenTo.upd (t:=37) rfl (hc) (OpenTo.upd (t:=35) rfl (hc) (OpenTo.refl _)),zcT zvY rfl (WeakL.refl _) (zcQ (l:=a.Fixtures) (m:=b.Fixtures) hb.fx)⟩) ?_
 refine dq (zc5 rfl (.inr ⟨_,rfl,fun h=>by simp_all⟩) (.inl rfl)) ?_;refine dmv rfl ?_;refine dg rfl rfl (fun hc=>⟨_,OpenTo.refl _,zav zax rfl zgj (by decide) rfl⟩) ?_;refine dg rfl rfl (fun hc=>⟨_,OpenTo.upd (t:=41) rfl (hc) (OpenTo.refl _),zae (h':=zgp a.Bounds) (zaB zgj rfl rfl (Ah rfl)) rfl⟩) ?_;refine dg rfl rfl (fun hc=>⟨_,OpenTo.refl _,zav zax rfl zgj (by decide) rfl⟩) ?_;refine dg rfl rfl (fun hc=>⟨_,OpenTo.upd (t:=43) rfl (hc) (OpenTo.refl _),zae (h':=zgp b.Bounds) (zaB zgj rfl rfl (Ah rfl)) rfl⟩) ?_;refine dg rfl rfl (fun hc=>⟨_,OpenTo.upd (t:=44) rfl (hc) (OpenTo.upd (t:=42) rfl (hc) (OpenTo.refl _)),zgT zgj eq32 rfl rfl ⟨rfl,⟨_,_,_,_,ty3,rfl⟩,⟨rfl,⟨_,_,_,_,ty3,rfl⟩,⟨rfl,⟨_,_,_,_,ty3,rfl⟩,⟨rfl,⟨_,_,_,_,ty3,rfl⟩,trivial⟩⟩⟩⟩⟩) ?_;refine dq (zc5 rfl (.inr ⟨_,rfl,fun h=>by simp_all⟩) (.inl rfl)) ?_;refine dmv rfl ?_;refine dg rfl rfl (fun hc=>⟨_,OpenTo.refl _,zav zax rfl zH (by decide) rfl⟩) ?_;refine dg rfl rfl (fun hc=>⟨_,OpenTo.upd (t:=48) rfl (hc) (OpenTo.refl _),zbm zH rfl rfl rfl⟩) ?_;refine dg rfl rfl (fun hc=>⟨_,OpenTo.refl _,zav zax rfl zH (by decide) rfl⟩) ?_;refine dg rfl rfl (fun hc=>⟨_,OpenTo.upd (t:=50) rfl (hc) (OpenTo.refl _),zbm zH rfl rfl rfl⟩) ?_;refine dg rfl rfl (fun hc=>⟨_,OpenTo.upd (t:=51) rfl (hc) (OpenTo.upd (t:=49) rfl (hc) (OpenTo.refl _)),zcT zhW rfl (WeakL.refl _) (zaw (l:=a.Teams) (m:=b.Teams) hb.tm)⟩) ?_;refine dq (zc5 rfl (.inr ⟨_,rfl,fun h=>by simp_all⟩) (.inl rfl)) ?_;refine dmv rfl ?_;refine dg rfl rfl (fun hc=>⟨_,OpenTo.refl _,zav zax rfl zco (by decide) rfl⟩) ?_;refine dg rfl rfl (fun hc=>⟨_,OpenTo.upd (t:=55) rfl (hc) (OpenTo.refl _),zbm zco rfl rfl rfl⟩) ?_;refine dg rfl rfl (fun hc=>⟨_,OpenTo.refl _,zav zax rfl zco (by decide) rfl⟩) ?_;refine dg rfl rfl (fun hc=>⟨_,OpenTo.upd (t:=57) rfl (hc) (OpenTo.refl _),zbm zco rfl rfl rfl⟩) ?_;refine dg rfl rfl (fun hc=>⟨_,OpenTo.upd (t:=58) rfl (hc) (OpenTo.upd (t:=56) rfl (hc) (OpenTo.refl _)),zcT zv0 rfl (WeakL.refl _) (zdI (l:=a.Games) (m:=b.Games) hb.ga)⟩) ?_;refine dq (zc5 rfl (.inr ⟨_,rfl,fun h=>by simp_all⟩) (.inl rfl)) ?_;refine dmv rfl ?_;refine dg rfl rfl (fun hc=>⟨_,OpenTo.refl _,zav zax rfl zac (by decide) rfl⟩) ?_;refine dg rfl rfl (fun hc=>⟨_,OpenTo.upd (t:=62) rfl (hc) (OpenTo.refl _),zbm zac rfl rfl rfl⟩) ?_;refine dg rfl rfl (fun hc=>⟨_,OpenTo.refl _,zav zax rfl zac (by decide) rfl⟩) ?_;refine dg rfl rfl (fun hc=>⟨_,OpenTo.upd (t:=64) rfl (hc) (OpenTo.refl _),zbm zac rfl rfl rfl⟩) ?_;refine dg rfl rfl (fun hc=>⟨_,OpenTo.upd (t:=65) rfl (hc) (OpenTo.upd (t:=63) rfl (hc) (OpenTo.refl _)),zcT zv1 rfl (WeakL.refl _) (zme (l:=a.Breaks) (m:=b.Breaks) hb.br)⟩) ?_;refine dq (zc5 rfl (.inr ⟨_,rfl,fun h=>by simp_all⟩) (.inl rfl)) ?_;refine dmv rfl ?_;refine dg rfl rfl (fun hc=>⟨_,OpenTo.refl _,zav zax rfl zH (by decide) rfl⟩) ?_
 refine dg rfl rfl (fun hc=>⟨_,OpenTo.upd (t:=69) rfl (hc) (OpenTo.refl _),zbm zH rfl rfl rfl⟩) ?_;refine dg rfl rfl (fun hc=>⟨_,OpenTo.refl _,zav zax rfl zH (by decide) rfl⟩) ?_;refine dg rfl rfl (fun hc=>⟨_,OpenTo.upd (t:=71) rfl (hc) (OpenTo.refl _),zbm zH rfl rfl rfl⟩) ?_;refine dg rfl rfl (fun hc=>⟨_,OpenTo.upd (t:=72) rfl (hc) (OpenTo.upd (t:=70) rfl (hc) (OpenTo.refl _)),zcT zhW rfl (WeakL.refl _) (zaw (l:=a.Trust) (m:=b.Trust) hb.tr)⟩) ?_;refine dq (zc5 rfl (.inr ⟨_,rfl,fun h=>by simp_all⟩) (.inl rfl)) ?_;refine dmv rfl ?_;refine dg rfl rfl (fun hc=>⟨_,OpenTo.refl _,zav zax rfl ty3 (by decide) rfl⟩) ?_;refine dg rfl rfl (fun hc=>⟨_,OpenTo.upd (t:=76) rfl (hc) (OpenTo.refl _),zbm ty3 rfl rfl rfl⟩) ?_;refine dg rfl rfl (fun hc=>⟨_,OpenTo.refl _,zav zax rfl ty3 (by decide) rfl⟩) ?_;refine dg rfl rfl (fun hc=>⟨_,OpenTo.upd (t:=78) rfl (hc) (OpenTo.refl _),zbm ty3 rfl rfl rfl⟩) ?_;refine dg rfl rfl (fun hc=>⟨_,OpenTo.upd (t:=79) rfl (hc) (OpenTo.upd (t:=77) rfl (hc) (OpenTo.refl _)),zsB rfl rfl⟩) ?_;refine dq (zc5 rfl (.inr ⟨_,rfl,fun h=>by simp_all⟩) (.inl rfl)) ?_;refine das rfl ?_;refine dn ?_;refine zt9 ?_;refine zx rfl ?_
 show HVal.bool _=_
 rw [<-zuv];unfold zkV zbI;simp only [B7,Bool.and_assoc]
 rfl
theorem zha [Tracks] {a b:BookS} (hb:LeaB a.League) (h1:a.Moves.length<=1000000) (h2:a.Plays.length<=1000000) (h3:a.Mends.length<=1000000) (h4:a.Health.length<=1000000) (h5:a.Choices.length<=1000000) (h6: ∀x∈a.Choices,x.Players.length<=1000000):ConP prog 19 [zan a,zan b] (.bool (zqW a b)):=by
 refine uOb func19 ntmps19 ?_;refine gz7 ?_;refine dq (zae (h':=zaE a.League) (zaB zax rfl rfl (Ah rfl)) rfl) ?_;refine gz1 ?_;refine dq (zae (h':=zaE b.League) (zaB zax rfl rfl (Ah rfl)) rfl) ?_;refine dq (uCl ca81 rfl (zgn (a:=a.League) (b:=b.League) hb)) ?_;refine gz5 ?_;refine dg rfl rfl (fun hc=>⟨_,OpenTo.upd (t:=14) rfl (hc) (OpenTo.upd (t:=12) rfl (hc) (OpenTo.refl _)),uCl ca87 rfl (zgM (l:=a.Moves) (m:=b.Moves) h1)⟩) ?_;refine gz6 ?_;refine dg rfl rfl (fun hc=>⟨_,OpenTo.upd (t:=21) rfl (hc) (OpenTo.upd (t:=19) rfl (hc) (OpenTo.refl _)),uCl ca88 rfl (zgN (l:=a.Plays) (m:=b.Plays) h2)⟩) ?_;refine gz6 ?_;refine dg rfl rfl (fun hc=>⟨_,OpenTo.upd (t:=28) rfl (hc) (OpenTo.upd (t:=26) rfl (hc) (OpenTo.refl _)),uCl ca89 rfl (zgL (l:=a.Mends) (m:=b.Mends) h3)⟩) ?_;refine gz6 ?_;refine dg rfl rfl (fun hc=>⟨_,OpenTo.upd (t:=35) rfl (hc) (OpenTo.upd (t:=33) rfl (hc) (OpenTo.refl _)),uCl ca90 rfl (zfz (l:=a.Health) (m:=b.Health) h4)⟩) ?_;refine gz6 ?_;refine dg rfl rfl (fun hc=>⟨_,OpenTo.upd (t:=42) rfl (hc) (OpenTo.upd (t:=40) rfl (hc) (OpenTo.refl _)),uCl ca91 rfl (zmd (l:=a.Choices) (m:=b.Choices) ca92 (fun x hx y=>zgm (h6 x hx)) h5)⟩) ?_;refine gz4 ?_;refine zx rfl ?_
 show HVal.bool _=_
 unfold zqW;simp only [B7,Bool.and_assoc]
theorem zpm [Tracks] {g:LeagueS} {w:Int} (hs: -1000000000000000<=g.Start/\g.Start<=1000000000000000) (hw: -1000<=w/\w<=1000):ConP prog 66 [.vptr (zpj g) 0,.int .i64 w] (.int .i64 (zcj g w)):=by
 refine uOb func66 ntmps66 ?_;refine zaD ?_;refine dq (zbP rfl rfl uO uO) ?_;refine gz4 ?_;refine zx rfl ?_
 rfl
theorem zjQ [Tracks] {g:LeagueS} {a:Int} (hT:Tracks.on=false) (hb:LeaB g):ConP prog 10 [zaE g,.int .i64 a] (.tup [.int .i64 (if zbe g≠0 then 0 else if zau a=false then 0 else zbK g a),.bool (if zbe g≠0 then false else if zau a=false then false else decide (0<zbK g a)),.int .i64 (if zbe g≠0 then zbe g else if zau a=false then 1 else 0)]):=by
 have hst:=hb.sta;refine uOb func10 ntmps10 ?_;refine gz8 ?_;refine dq (zad (h:=zaE g) zax rfl rfl rfl rfl) ?_;refine dq (uCl ca7 rfl (zeM (g:=g) hT hb)) ?_;refine gz6 ?_;refine uCo (fun h1=> ?_) fun h2=> ?_
 refine gz7 ?_;refine zx rfl ?_
 show HVal.tup _=_
 by_cases q1:zbe g≠0
 rw [if_pos q1,if_pos q1,if_pos q1]
 rfl
 rw [if_neg q1,if_neg q1,if_neg q1]
 by_cases q2:zau a=false
 rw [if_pos q2,if_pos q2,if_pos q2]
 (exfalso;simp_all)
 rw [if_neg q2,if_neg q2,if_neg q2]
 by_cases q3:a<g.Start\/zcj g 61<=a
 have hw0:zbK g a=0:=by rw [zbK,if_pos q3]
 rw [hw0]
 (exfalso;simp_all)
 have hw0:zbK g a=(a-g.Start)/604800000+1:=by rw [zbK,if_neg q3]
 have hd:decide (0<(a-g.Start)/604800000+1)=true:=decide_eq_true uO;rw [hw0,hd]
 (exfalso;simp_all)
 refine gz5 ?_;refine dq (uCl znI rfl zdc) ?_;refine gz2 ?_;refine uCo (fun h3=> ?_) fun h4=> ?_
 refine gz6 ?_;refine zx rfl ?_
 show HVal.tup _=_
 by_cases q1:zbe g≠0
 rw [if_pos q1,if_pos q1,if_pos q1]
 (exfalso;simp_all)
 rw [if_neg q1,if_neg q1,if_neg q1]
 by_cases q2:zau a=false
 rw [if_pos q2,if_pos q2,if_pos q2]
 rfl
 rw [if_neg q2,if_neg q2,if_neg q2]
 by_cases q3:a<g.Start\/zcj g 61<=a
 have hw0:zbK g a=0:=by rw [zbK,if_pos q3]
 rw [hw0]
 (exfalso;simp_all)
 have hw0:zbK g a=(a-g.Start)/604800000+1:=by rw [zbK,if_neg q3]
 have hd:decide (0<(a-g.Start)/604800000+1)=true:=decide_eq_true uO;rw [hw0,hd]
 (exfalso;simp_all)
 refine gz3 ?_;have hma:=zhX (n:=a) (lo:=0) (hi:=345686399999) (by (have q:zau a=true:=by assumption);unfold zau at q;simpa using q);have hb61:zcj g 61=g.Start+36288000000:=by unfold zcj;omega
 refine gz7 ?_;refine dg rfl rfl (fun hc=>by have hq:=hc;(try simp at hq);exact ⟨_,OpenTo.refl _,uCl ca66 rfl (zpm (g:=g) hst uO)⟩) ?_;refine gz3 ?_;refine uCo (fun h5=> ?_) fun h6=> ?_
 refine gz6 ?_;refine zx rfl ?_
 show HVal.tup _=_
 by_cases q1:zbe g≠0
 rw [if_pos q1,if_pos q1,if_pos q1]
 (exfalso;simp_all)
 rw [if_neg q1,if_neg q1,if_neg q1]
 by_cases q2:zau a=false
 rw [if_pos q2,if_pos q2,if_pos q2]
 (exfalso;simp_all)
 rw [if_neg q2,if_neg q2,if_neg q2]
 by_cases q3:a<g.Start\/zcj g 61<=a
 have hw0:zbK g a=0:=by rw [zbK,if_pos q3]
 rw [hw0]
 rfl
 have hw0:zbK g a=(a-g.Start)/604800000+1:=by rw [zbK,if_neg q3]
 have hd:decide (0<(a-g.Start)/604800000+1)=true:=decide_eq_true uO;rw [hw0,hd]
 (exfalso;simp_all)
 refine gz7 ?_;refine dq (zae (zij rfl rfl uO uO uO) (congrArg (HVal.int .i64) (Int.tdiv_eq_ediv_of_nonneg uO))) ?_;refine gz6 ?_;refine zx rfl ?_
 show HVal.tup _=_
 by_cases q1:zbe g≠0
 rw [if_pos q1,if_pos q1,if_pos q1]
 (exfalso;simp_all)
 rw [if_neg q1,if_neg q1,if_neg q1]
 by_cases q2:zau a=false
 rw [if_pos q2,if_pos q2,if_pos q2]
 (exfalso;simp_all)
 rw [if_neg q2,if_neg q2,if_neg q2]
 by_cases q3:a<g.Start\/zcj g 61<=a
 have hw0:zbK g a=0:=by rw [zbK,if_pos q3]
 rw [hw0]
 (exfalso;omega)
 have hw0:zbK g a=(a-g.Start)/604800000+1:=by rw [zbK,if_neg q3]
 have hd:decide (0<(a-g.Start)/604800000+1)=true:=decide_eq_true uO;rw [hw0,hd]
 rfl
end
section
open Go.Proofs.Tryz
open Go.HL
theorem zfx [Tracks] {l:List PlayerS} (hl:l.length<=1000000):zeK prog 250 [.slice 3 (l.map zbs)] 3 (l.map zbs):=by
 refine uOb func250 ntmps250 ?_;refine gz6 ?_;refine de rfl (zcp zdi rfl rfl fun b4 hb4=> ?_)
 refine gz1 ?_;refine uCo (fun h1=> ?_) fun h2=> ?_
 refine gz4 ?_;exact zag (zG 3) rfl ⟨_,rfl,by simp_all⟩;refine gz3 ?_;refine de rfl (zdz zdi zcg fun v5=> ?_)
 refine gz1 ?_;refine de rfl (zC (i:=0) zdi zcg rfl rfl rfl rfl rfl (by simp [zal,zd]) (by simp;omega) fun v7=> ?_)
 refine gz3 ?_;exact zdU rfl rfl
theorem zgd [Tracks] {l:List StintS} (hl:l.length<=1000000):zeK prog 251 [.slice 3 (l.map zbx)] 3 (l.map zbx):=by
 refine uOb func251 ntmps251 ?_;refine gz6 ?_;refine de rfl (zcp zcL rfl rfl fun b4 hb4=> ?_)
 refine gz1 ?_;refine uCo (fun h1=> ?_) fun h2=> ?_
 refine gz4 ?_;exact zag (zG 3) rfl ⟨_,rfl,by simp_all⟩;refine gz3 ?_;refine de rfl (zdz zcL zbF fun v5=> ?_)
 refine gz1 ?_;refine de rfl (zC (i:=0) zcL zbF rfl rfl rfl rfl rfl (by simp [zal,zd]) (by simp;omega) fun v7=> ?_)
 refine gz3 ?_;exact zdU rfl rfl
theorem zff [Tracks] {l:List FixS} (hl:l.length<=1000000):zeK prog 252 [.slice 4 (l.map zaV)] 4 (l.map zaV):=by
 refine uOb func252 ntmps252 ?_;refine gz6 ?_;refine de rfl (zcp zbG rfl rfl fun b4 hb4=> ?_)
 refine gz1 ?_;refine uCo (fun h1=> ?_) fun h2=> ?_
 refine gz4 ?_;exact zag (zG 4) rfl ⟨_,rfl,by simp_all⟩;refine gz3 ?_;refine de rfl (zdz zbG zaM fun v5=> ?_)
 refine gz1 ?_;refine de rfl (zC (i:=0) zbG zaM rfl rfl rfl rfl rfl (by simp [zal,zd]) (by simp;omega) fun v7=> ?_)
 refine gz3 ?_;exact zdU rfl rfl
theorem zgJ [Tracks] {l:List RuleS} (hl:l.length<=1000000):zeK prog 253 [.slice 7 (l.map zfl)] 7 (l.map zfl):=by
 refine uOb func253 ntmps253 ?_;refine gz6 ?_;refine de rfl (zcp zfU rfl rfl fun b4 hb4=> ?_)
 refine gz1 ?_;refine uCo (fun h1=> ?_) fun h2=> ?_
 refine gz4 ?_;exact zag (zG 7) rfl ⟨_,rfl,by simp_all⟩;refine gz3 ?_;refine de rfl (zdz zfU zed fun v5=> ?_)
 refine gz1 ?_;refine de rfl (zC (i:=0) zfU zed rfl rfl rfl rfl rfl (by simp [zal,zd]) (by simp;omega) fun v7=> ?_)
 refine gz3 ?_;exact zdU rfl rfl
theorem zgK [Tracks] {l:List SlotS} (hl:l.length<=1000000):zeK prog 254 [.slice 2 (l.map za4)] 2 (l.map za4):=by
 refine uOb func254 ntmps254 ?_;refine gz6 ?_;refine de rfl (zcp zcn rfl rfl fun b4 hb4=> ?_)
 refine gz1 ?_;refine uCo (fun h1=> ?_) fun h2=> ?_
 refine gz4 ?_;exact zag (zG 2) rfl ⟨_,rfl,by simp_all⟩;refine gz3 ?_;refine de rfl (zdz zcn zbE fun v5=> ?_)
 refine gz1 ?_;refine de rfl (zC (i:=0) zcn zbE rfl rfl rfl rfl rfl (by simp [zal,zd]) (by simp;omega) fun v7=> ?_)
 refine gz3 ?_;exact zdU rfl rfl
theorem zgH [Tracks] {l:List GameS} (hl:l.length<=1000000):zeK prog 255 [.slice 8 (l.map zaO)] 8 (l.map zaO):=by
 refine uOb func255 ntmps255 ?_;refine gz6 ?_;refine de rfl (zcp zco rfl rfl fun b4 hb4=> ?_)
 refine gz1 ?_;refine uCo (fun h1=> ?_) fun h2=> ?_
 refine gz4 ?_;exact zag (zG 8) rfl ⟨_,rfl,by simp_all⟩;refine gz3 ?_;refine de rfl (zdz zco zb7 fun v5=> ?_)
 refine gz1 ?_;refine de rfl (zC (i:=0) zco zb7 rfl rfl rfl rfl rfl (by simp [zal,zd]) (by simp;omega) fun v7=> ?_)
 refine gz3 ?_;exact zdU rfl rfl
theorem zkl [Tracks] {l:List Int} (hl:l.length<=1000000):zeK prog 256 [.slice 1 (l.map zir)] 1 (l.map zir):=by
 refine uOb func256 ntmps256 ?_;refine gz6 ?_;refine de rfl (zcp zac rfl rfl fun b4 hb4=> ?_)
 refine gz1 ?_;refine uCo (fun h1=> ?_) fun h2=> ?_
 refine gz4 ?_;exact zag (zG 1) rfl ⟨_,rfl,by simp_all⟩;refine gz3 ?_;refine de rfl (zdz zac ty3 fun v5=> ?_)
 refine gz1 ?_;refine de rfl (zC (i:=0) zac ty3 rfl rfl rfl rfl rfl (by simp [zal,zd]) (by simp;omega) fun v7=> ?_)
 refine gz3 ?_;exact zdU rfl rfl
theorem zgI [Tracks] {l:List MoveS} (hl:l.length<=1000000):zeK prog 183 [.slice 4 (l.map zaS)] 4 (l.map zaS):=by
 refine uOb func183 ntmps183 ?_;refine gz6 ?_;refine de rfl (zcp zaZ rfl rfl fun b4 hb4=> ?_)
 refine gz1 ?_;refine uCo (fun h1=> ?_) fun h2=> ?_
 refine gz4 ?_;exact zag (zG 4) rfl ⟨_,rfl,by simp_all⟩;refine gz3 ?_;refine de rfl (zdz zaZ zaR fun v5=> ?_)
 refine gz1 ?_;refine de rfl (zC (i:=0) zaZ zaR rfl rfl rfl rfl rfl (by simp [zal,zd]) (by simp;omega) fun v7=> ?_)
 refine gz3 ?_;exact zdU rfl rfl
theorem zdH [Tracks] {l:List Play} (hl:l.length<=1000000):zeK prog 184 [.slice 9 (l.map zu)] 9 (l.map zu):=by
 refine uOb func184 ntmps184 ?_;refine gz6 ?_;refine de rfl (zcp zaj rfl rfl fun b4 hb4=> ?_)
 refine gz1 ?_;refine uCo (fun h1=> ?_) fun h2=> ?_
 refine gz4 ?_;exact zag (zG 9) rfl ⟨_,rfl,by simp_all⟩;refine gz3 ?_;refine de rfl (zdz zaj zI fun v5=> ?_)
 refine gz1 ?_;refine de rfl (zC (i:=0) zaj zI rfl rfl rfl rfl rfl (by simp [zal,zd]) (by simp;omega) fun v7=> ?_)
 refine gz3 ?_;exact zdU rfl rfl
theorem zdG [Tracks] {l:List MendS} (hl:l.length<=1000000):zeK prog 185 [.slice 7 (l.map zB)] 7 (l.map zB):=by
 refine uOb func185 ntmps185 ?_;refine gz6 ?_;refine de rfl (zcp zak rfl rfl fun b4 hb4=> ?_)
 refine gz1 ?_;refine uCo (fun h1=> ?_) fun h2=> ?_
 refine gz4 ?_;exact zag (zG 7) rfl ⟨_,rfl,by simp_all⟩;refine gz3 ?_;refine de rfl (zdz zak zN fun v5=> ?_)
 refine gz1 ?_;refine de rfl (zC (i:=0) zak zN rfl rfl rfl rfl rfl (by simp [zal,zd]) (by simp;omega) fun v7=> ?_)
 refine gz3 ?_;exact zdU rfl rfl
theorem zlT [Tracks] {g:LeagueS} (hb:LeaB g):ConP prog 182 [zaE g] (zaE g):=by
 have hpl:=hb.pl;have hsl:=hb.sl;refine zbU func182 rfl ntmps182 rfl rfl ?_;refine gz1 ?_;refine de rfl (zpv rfl rfl fun b1=> ?_)
 refine de rfl (zq zax rfl fun b2=> ?_)
 refine gz1 ?_;refine zw (fun M=> ∃i:Nat,M[i]? =some (.cells b1 (zpj g))) [1,4,7,10,13] mixed ?_;refine gz1 ?_;refine uM 1 rfl (⟨1,rfl⟩) (fun M hM=>by obtain ⟨i,hi⟩:=hM;exact zao (i:=i) zdi rfl hi (.inl ⟨rfl,rfl⟩) ⟨rfl,rfl⟩) ?_;refine uA 3 ?_;refine uM 4 rfl (⟨1,rfl⟩) (fun M hM=>by obtain ⟨i,hi⟩:=hM;exact zao (i:=i) zcL rfl hi (.inl ⟨rfl,rfl⟩) ⟨rfl,rfl⟩) ?_;refine uA 6 ?_;refine uM 7 rfl (⟨1,rfl⟩) (fun M hM=>by obtain ⟨i,hi⟩:=hM;exact zao (i:=i) zbG rfl hi (.inl ⟨rfl,rfl⟩) ⟨rfl,rfl⟩) ?_;refine uA 9 ?_;refine uM 10 rfl (⟨1,rfl⟩) (fun M hM=>by obtain ⟨i,hi⟩:=hM;exact zao (i:=i) zfU rfl hi (.inl ⟨rfl,rfl⟩) ⟨rfl,rfl⟩) ?_;refine uA 12 ?_;refine uM 13 rfl (⟨1,rfl⟩) (fun M hM=>by obtain ⟨i,hi⟩:=hM;exact zao (i:=i) zcn rfl hi (.inl ⟨rfl,rfl⟩) ⟨rfl,rfl⟩) ?_;refine uF 2 ?_;refine zy rfl (zaA zy2 rfl (WeakL.refl _) (zfx (l:=g.Players) hb.pl) fun v7=> ?_)
 refine ⟨fun _=> .inl ⟨2,rfl⟩,?_⟩
 refine uA 15 ?_;refine uF 5 ?_;refine zy rfl (zd2 (zaA zy3 rfl (WeakL.refl _) (zgd (l:=g.Stints) hb.st) fun v=>⟨v,rfl,rfl⟩) ?_)
 refine ⟨fun _=> .inl ⟨2,rfl⟩,?_⟩
 refine uF 8 ?_;refine zy rfl (zd2 (zaA zy4 rfl (WeakL.refl _) (zff (l:=g.Fixtures) hb.fx) fun v=>⟨v,rfl,rfl⟩) ?_)
 refine ⟨fun _=> .inl ⟨2,rfl⟩,?_⟩
 refine uF 11 ?_;refine zy rfl (zd2 (zaA zy5 rfl (WeakL.refl _) (zgJ (l:=g.Rules) hb.ru) fun v=>⟨v,rfl,rfl⟩) ?_)
 refine ⟨fun _=> .inl ⟨2,rfl⟩,?_⟩
 refine uF 14 ?_;refine zy rfl (zaA zy6 rfl (WeakL.refl _) (zgK (l:=g.Slots) hb.sl) fun v19=> ?_)
 refine ⟨fun _=> .inl ⟨3,rfl⟩,?_⟩
 refine uF 16 ?_;refine zF (uY 3 ?_)
 refine ⟨fun _=> .inr (by simp [zS,Region.binds]),?_⟩
 refine gz1 ?_;refine uF 18 ?_;refine zF (uY 3 ?_)
 refine ⟨fun _=> .inr (by simp [zS,Region.binds]),?_⟩
 refine gz1 ?_;refine uF 20 ?_;refine zF (uY 3 ?_)
 refine ⟨fun _=> .inr (by simp [zS,Region.binds]),?_⟩
 refine gz1 ?_;refine uF 22 ?_;refine zF (uY 3 ?_)
 refine ⟨fun _=> .inr (by simp [zS,Region.binds]),?_⟩
 refine gz1 ?_;refine uF 24 ?_;refine zF (uY 3 ?_)
 refine ⟨fun _=> .inr (by simp [zS,Region.binds]),?_⟩
 refine gz4 ?_;refine de rfl (uZ 3 ?_)
 refine de rfl (zaT (i:=1) (es:=g.Players) zdi rfl rfl ?_)
 refine gz3 ?_;refine uV1 [3,1,28,16] (fun (k:Nat)=>[(28,.int .i64 k)]) (fun (k:Nat)=>[.arr v19 2 (g.Slots.map za4),.arr v7 3 (g.Players.map zbs),.cells b2 [.raw (.slice none 0 0),.raw (.slice none 0 0),.raw (.slice none 0 0),.raw (.slice none 0 0),.raw (.slice none 0 0),.int .i64 0,.int .i64 0,.int .i64 0,.int .i64 0,.raw (.slice none 0 0),.raw (.slice none 0 0),.raw (.slice none 0 0),.raw (.slice none 0 0),.int .i64 0],.cells b1 [.raw v7,zbZ g.Stints,zeo g.Fixtures,zdk g.Rules,.raw v19,.int .i64 g.Bounds.Most,.int .i64 g.Bounds.Hurt,.int .i64 g.Bounds.Adds,.int .i64 g.Bounds.Hold,eSs g.Teams,zdN g.Games,eIs g.Breaks,eSs g.Trust,.int .i64 g.Start]]) (fun (k:Nat)=>k<=g.Players.length/\(True)) (fun (k:Nat)=>g.Players.length-k) (0) ?_ ?_ ?_ ?_
 ·exact ⟨Ad _,trivial⟩
 ·exact ⟨rfl,trivial⟩
 ·exact zm rfl
 ·intro k hinv
  obtain ⟨hk,-⟩:=hinv;refine gz4 ?_;refine uCo (fun h1=> ?_) fun h2=> ?_
  ·obtain ⟨x,hx⟩: ∃x,g.Players[k]? =some x:=⟨_,Aa h1⟩
   have hdx:=zi hx;refine gz8 ?_;refine zb1 (i:=1) rfl (fun h0 he=> ?_) (fun ob off cap hv hcap=> ?_)
   ·exfalso;have q:=congrArg List.length he;rw [Aj,Aq] at q;have:=zo hx;omega
   rw [Aj] at hv hcap;subst hv;refine zaC (fun M=>(∃i:Nat,M[i]? =some (.cells b1 [.raw (.slice (some ⟨ob,off,none⟩) g.Players.length cap),zbZ g.Stints,zeo g.Fixtures,zdk g.Rules,.raw v19,.int .i64 g.Bounds.Most,.int .i64 g.Bounds.Hurt,.int .i64 g.Bounds.Adds,.int .i64 g.Bounds.Hold,eSs g.Teams,zdN g.Games,eIs g.Breaks,eSs g.Trust,.int .i64 g.Start]))/\∃i:Nat,M[i]? =some (.arr (.slice (some ⟨ob,off,none⟩) g.Players.length cap) 3 (g.Players.map zbs))) [1,4,8] mixed ?_;refine gz1 ?_;refine uM 1 rfl ⟨⟨3,rfl⟩,⟨1,rfl⟩⟩ (fun M hM=>by obtain ⟨⟨i,hi⟩,_⟩:=hM;exact zao (i:=i) zdi rfl hi (.inl ⟨rfl,rfl⟩) ⟨rfl,rfl⟩) ?_;refine gz2 ?_;refine uM 4 rfl ⟨⟨3,rfl⟩,⟨1,rfl⟩⟩ (fun M hM=>by obtain ⟨⟨i,hi⟩,_⟩:=hM;exact zao (i:=i) zdi rfl hi (.inl ⟨rfl,rfl⟩) ⟨rfl,rfl⟩) ?_;refine gz1 ?_;refine uB 6 rfl (ze (j:=k) zdi zcg rfl rfl rfl uO) ?_;refine gz1 ?_;refine uM 8 rfl ⟨⟨3,rfl⟩,⟨1,rfl⟩⟩ (fun M hM=>by obtain ⟨_,⟨i,hi⟩⟩:=hM;exact zaJ (i:=i) (j:=k) 2 zH rfl uO hi hx rfl rfl ⟨rfl,rfl⟩) ?_;refine uF 9 ?_;refine zy rfl (zd2 (zaA zli rfl (WeakL.refl _) (zaG (l:=x.Positions) (hb.po x (Ac hx))) fun v40=>⟨v40,rfl,rfl⟩) ?_)
   refine ⟨fun _=> .inl ⟨⟨3,rfl⟩,⟨1,rfl⟩⟩,?_⟩
   refine uB 10 rfl (ze (j:=k) zdi zcg rfl rfl rfl uO) ?_;refine gz1 ?_;refine uF 12 ?_;refine zF (z8 (i:=1) (j:=k) (f:=2) (y:=zbs x) (y':=zbs x) zH rfl uO rfl rfl (za5 hx) rfl rfl (by simp [zd]) rfl ?_)
   refine ⟨fun _=> .inr (by simp [zS,Region.binds]),?_⟩
   refine gz7 ?_;exact ⟨k+1,⟨by omega,trivial⟩,uD,⟨rfl,trivial⟩,uK,zm (by dsimp only;rw [zn9 (za5 hx)];rfl)⟩
  ·have hnk:g.Players.length<=k:=by omega
   obtain rfl:k=g.Players.length:=by omega
   refine gz2 ?_;refine zp ?_;refine gz5 ?_;refine de rfl (uZ 3 ?_)
   refine de rfl (zaT (i:=0) (es:=g.Slots) zcn rfl rfl ?_)
   refine gz3 ?_;refine uV1 [4,1,47,16] (fun (k:Nat)=>[(47,.int .i64 k)]) (fun (k:Nat)=>[.arr v19 2 (g.Slots.map za4),.arr v7 3 (g.Players.map zbs),.cells b2 [.raw (.slice none 0 0),.raw (.slice none 0 0),.raw (.slice none 0 0),.raw (.slice none 0 0),.raw (.slice none 0 0),.int .i64 0,.int .i64 0,.int .i64 0,.int .i64 0,.raw (.slice none 0 0),.raw (.slice none 0 0),.raw (.slice none 0 0),.raw (.slice none 0 0),.int .i64 0],.cells b1 [.raw v7,zbZ g.Stints,zeo g.Fixtures,zdk g.Rules,.raw v19,.int .i64 g.Bounds.Most,.int .i64 g.Bounds.Hurt,.int .i64 g.Bounds.Adds,.int .i64 g.Bounds.Hold,eSs g.Teams,zdN g.Games,eIs g.Breaks,eSs g.Trust,.int .i64 g.Start]]) (fun (k:Nat)=>k<=g.Slots.length/\(True)) (fun (k:Nat)=>g.Slots.length-k) (0) ?_ ?_ ?_ ?_
   ·exact ⟨Ad _,trivial⟩
   ·exact ⟨rfl,trivial⟩
   ·exact zm rfl
   ·intro k hinv
    obtain ⟨hk,-⟩:=hinv;refine gz4 ?_;refine uCo (fun h3=> ?_) fun h4=> ?_
    ·obtain ⟨x,hx⟩: ∃x,g.Slots[k]? =some x:=⟨_,Aa h3⟩
     have hdx:=zi hx;refine gz8 ?_;refine zb1 (i:=0) rfl (fun h0 he=> ?_) (fun ob off cap hv hcap=> ?_)
     ·exfalso;have q:=congrArg List.length he;rw [Aj,Aq] at q;have:=zo hx;omega
     rw [Aj] at hv hcap;subst hv;refine zaC (fun M=>(∃i:Nat,M[i]? =some (.cells b1 [.raw v7,zbZ g.Stints,zeo g.Fixtures,zdk g.Rules,.raw (.slice (some ⟨ob,off,none⟩) g.Slots.length cap),.int .i64 g.Bounds.Most,.int .i64 g.Bounds.Hurt,.int .i64 g.Bounds.Adds,.int .i64 g.Bounds.Hold,eSs g.Teams,zdN g.Games,eIs g.Breaks,eSs g.Trust,.int .i64 g.Start]))/\∃i:Nat,M[i]? =some (.arr (.slice (some ⟨ob,off,none⟩) g.Slots.length cap) 2 (g.Slots.map za4))) [1,4,8] mixed ?_;refine gz1 ?_;refine uM 1 rfl ⟨⟨3,rfl⟩,⟨0,rfl⟩⟩ (fun M hM=>by obtain ⟨⟨i,hi⟩,_⟩:=hM;exact zao (i:=i) zcn rfl hi (.inl ⟨rfl,rfl⟩) ⟨rfl,rfl⟩) ?_;refine gz2 ?_;refine uM 4 rfl ⟨⟨3,rfl⟩,⟨0,rfl⟩⟩ (fun M hM=>by obtain ⟨⟨i,hi⟩,_⟩:=hM;exact zao (i:=i) zcn rfl hi (.inl ⟨rfl,rfl⟩) ⟨rfl,rfl⟩) ?_;refine gz1 ?_;refine uB 6 rfl (ze (j:=k) zcn zbE rfl rfl rfl uO) ?_;refine gz1 ?_;refine uM 8 rfl ⟨⟨3,rfl⟩,⟨0,rfl⟩⟩ (fun M hM=>by obtain ⟨_,⟨i,hi⟩⟩:=hM;exact zaJ (i:=i) (j:=k) 1 zH rfl uO hi hx rfl rfl ⟨rfl,rfl⟩) ?_;refine uF 9 ?_;refine zy rfl (zd2 (zaA zli rfl (WeakL.refl _) (zaG (l:=x.Positions) (hb.sp x (Ac hx))) fun v59=>⟨v59,rfl,rfl⟩) ?_)
     refine ⟨fun _=> .inl ⟨⟨3,rfl⟩,⟨0,rfl⟩⟩,?_⟩
     refine uB 10 rfl (ze (j:=k) zcn zbE rfl rfl rfl uO) ?_;refine gz1 ?_;refine uF 12 ?_;refine zF (z8 (i:=0) (j:=k) (f:=1) (y:=za4 x) (y':=za4 x) zH rfl uO rfl rfl (za5 hx) rfl rfl (by simp [zd]) rfl ?_)
     refine ⟨fun _=> .inr (by simp [zS,Region.binds]),?_⟩
     refine gz7 ?_;exact ⟨k+1,⟨by omega,trivial⟩,uD,⟨rfl,trivial⟩,uK,zm (by dsimp only;rw [zn9 (za5 hx)];rfl)⟩
    ·have hnk:g.Slots.length<=k:=by omega
     obtain rfl:k=g.Slots.length:=by omega
     refine gz2 ?_;refine zp ?_;refine gz2 ?_;refine zw (fun M=> ∃i:Nat,M[i]? =some (.cells b1 [.raw v7,zbZ g.Stints,zeo g.Fixtures,zdk g.Rules,.raw v19,.int .i64 g.Bounds.Most,.int .i64 g.Bounds.Hurt,.int .i64 g.Bounds.Adds,.int .i64 g.Bounds.Hold,eSs g.Teams,zdN g.Games,eIs g.Breaks,eSs g.Trust,.int .i64 g.Start])) [1,4,7,10] mixed ?_;refine gz1 ?_;refine uM 1 rfl (⟨3,rfl⟩) (fun M hM=>by obtain ⟨i,hi⟩:=hM;exact zao (i:=i) zH rfl hi (.inl ⟨rfl,rfl⟩) ⟨rfl,rfl⟩) ?_;refine uA 3 ?_;refine uM 4 rfl (⟨3,rfl⟩) (fun M hM=>by obtain ⟨i,hi⟩:=hM;exact zao (i:=i) zco rfl hi (.inl ⟨rfl,rfl⟩) ⟨rfl,rfl⟩) ?_;refine uA 6 ?_;refine uM 7 rfl (⟨3,rfl⟩) (fun M hM=>by obtain ⟨i,hi⟩:=hM;exact zao (i:=i) zac rfl hi (.inl ⟨rfl,rfl⟩) ⟨rfl,rfl⟩) ?_;refine uA 9 ?_;refine uM 10 rfl (⟨3,rfl⟩) (fun M hM=>by obtain ⟨i,hi⟩:=hM;exact zao (i:=i) zH rfl hi (.inl ⟨rfl,rfl⟩) ⟨rfl,rfl⟩) ?_;refine uF 2 ?_;refine zy rfl (zd2 (zaA zli rfl (WeakL.refl _) (zaG (l:=g.Teams) hb.tm) fun v=>⟨v,rfl,rfl⟩) ?_)
     refine ⟨fun _=> .inl ⟨3,rfl⟩,?_⟩
     refine uA 12 ?_;refine uF 5 ?_;refine zy rfl (zd2 (zaA zy7 rfl (WeakL.refl _) (zgH (l:=g.Games) hb.ga) fun v=>⟨v,rfl,rfl⟩) ?_)
     refine ⟨fun _=> .inl ⟨3,rfl⟩,?_⟩
     refine uF 8 ?_;refine zy rfl (zd2 (zaA zy8 rfl (WeakL.refl _) (zkl (l:=g.Breaks) hb.br) fun v=>⟨v,rfl,rfl⟩) ?_)
     refine ⟨fun _=> .inl ⟨3,rfl⟩,?_⟩
     refine uF 11 ?_;refine zy rfl (zd2 (zaA zli rfl (WeakL.refl _) (zaG (l:=g.Trust) hb.tr) fun v=>⟨v,rfl,rfl⟩) ?_)
     refine ⟨fun _=> .inl ⟨3,rfl⟩,?_⟩
     refine uF 13 ?_;refine zF (uY 3 ?_)
     refine ⟨fun _=> .inr (by simp [zS,Region.binds]),?_⟩
     refine gz1 ?_;refine uF 15 ?_;refine zF (uY 3 ?_)
     refine ⟨fun _=> .inr (by simp [zS,Region.binds]),?_⟩
     refine gz1 ?_;refine uF 17 ?_;refine zF (uY 3 ?_)
     refine ⟨fun _=> .inr (by simp [zS,Region.binds]),?_⟩
     refine gz1 ?_;refine uF 19 ?_;refine zF (uY 3 ?_)
     refine ⟨fun _=> .inr (by simp [zS,Region.binds]),?_⟩
     refine gz1 ?_;refine zf (zbM (i:=1) (k:=2) (j:=0) rfl rfl rfl) ?_;refine zf (zbM (i:=0) (k:=1) (j:=4) rfl rfl rfl) ?_;refine gz1 ?_;refine de rfl (zbO (i:=1) (h:=zaE g) zax rfl rfl rfl rfl rfl ?_)
     refine de0 (zJ (h:=zaE g) zax rfl rfl rfl rfl rfl ?_)
     refine gz2 ?_;exact ⟨_,_,(Ghost.perm (List.Perm.swap _ _ _)).trans (Ghost.drop.trans (zA 2 rfl)),[_],_,⟨⟨_,_,_,_,_,rfl,zax,.inr ⟨rfl,rfl,rfl⟩⟩,trivial⟩,Weak.refl _,rfl,rfl⟩
theorem zm7 [Tracks] {b:BookS} (hb:BookB b):ConP prog 80 [zan b] (zan b):=by
 have hch:=hb.ch;refine zbU func80 rfl ntmps80 rfl rfl ?_;refine gz1 ?_;refine de rfl (zpv rfl rfl fun b1=> ?_)
 refine de rfl (zq zaz rfl fun b2=> ?_)
 refine gz3 ?_;refine de rfl (zao (i:=1) (h:=zaE b.League) zax rfl rfl (.inr ⟨rfl,Ah rfl,rfl⟩) ?_)
 refine dq (uCl zyk rfl (zlT (g:=b.League) hb.lea)) ?_;refine gz1 ?_;refine de0 (zeH (i:=1) (h:=zaE b.League) zax rfl rfl rfl rfl rfl (Ah rfl) ?_)
 refine gz1 ?_;refine zw (fun M=> ∃i:Nat,M[i]? =some (.cells b1 (zsS b))) [1,4,7,10,13] mixed ?_;refine gz1 ?_;refine uM 1 rfl (⟨1,rfl⟩) (fun M hM=>by obtain ⟨i,hi⟩:=hM;exact zao (i:=i) zaZ rfl hi (.inl ⟨rfl,rfl⟩) ⟨rfl,rfl⟩) ?_;refine uA 3 ?_;refine uM 4 rfl (⟨1,rfl⟩) (fun M hM=>by obtain ⟨i,hi⟩:=hM;exact zao (i:=i) zaj rfl hi (.inl ⟨rfl,rfl⟩) ⟨rfl,rfl⟩) ?_;refine uA 6 ?_;refine uM 7 rfl (⟨1,rfl⟩) (fun M hM=>by obtain ⟨i,hi⟩:=hM;exact zao (i:=i) zak rfl hi (.inl ⟨rfl,rfl⟩) ⟨rfl,rfl⟩) ?_;refine uA 9 ?_;refine uM 10 rfl (⟨1,rfl⟩) (fun M hM=>by obtain ⟨i,hi⟩:=hM;exact zao (i:=i) zaL rfl hi (.inl ⟨rfl,rfl⟩) ⟨rfl,rfl⟩) ?_;refine uA 12 ?_;refine uM 13 rfl (⟨1,rfl⟩) (fun M hM=>by obtain ⟨i,hi⟩:=hM;exact zao (i:=i) zaa rfl hi (.inl ⟨rfl,rfl⟩) ⟨rfl,rfl⟩) ?_;refine uF 2 ?_;refine zy rfl (zd2 (zaA zyl rfl (WeakL.refl _) (zgI (l:=b.Moves) hb.mv) fun v=>⟨v,rfl,rfl⟩) ?_)
 refine ⟨fun _=> .inl ⟨1,rfl⟩,?_⟩
 refine uA 15 ?_;refine uF 5 ?_;refine zy rfl (zd2 (zaA zv4 rfl (WeakL.refl _) (zdH (l:=b.Plays) hb.pl) fun v=>⟨v,rfl,rfl⟩) ?_)
 refine ⟨fun _=> .inl ⟨1,rfl⟩,?_⟩
 refine uF 8 ?_;refine zy rfl (zd2 (zaA zv5 rfl (WeakL.refl _) (zdG (l:=b.Mends) hb.me) fun v=>⟨v,rfl,rfl⟩) ?_)
 refine ⟨fun _=> .inl ⟨1,rfl⟩,?_⟩
 refine uF 11 ?_;refine zy rfl (zd2 (zaA zv6 rfl (WeakL.refl _) (zc2 (l:=b.Health) hb.he) fun v=>⟨v,rfl,rfl⟩) ?_)
 refine ⟨fun _=> .inl ⟨1,rfl⟩,?_⟩
 refine uF 14 ?_;refine zy rfl (zaA zuM rfl (WeakL.refl _) (zbV (l:=b.Choices) hb.ch) fun v22=> ?_)
 refine ⟨fun _=> .inl ⟨2,rfl⟩,?_⟩
 refine uF 16 ?_;refine zF (uY 2 ?_)
 refine ⟨fun _=> .inr (by simp [zS,Region.binds]),?_⟩
 refine gz1 ?_;refine uF 18 ?_;refine zF (uY 2 ?_)
 refine ⟨fun _=> .inr (by simp [zS,Region.binds]),?_⟩
 refine gz1 ?_;refine uF 20 ?_;refine zF (uY 2 ?_)
 refine ⟨fun _=> .inr (by simp [zS,Region.binds]),?_⟩
 refine gz1 ?_;refine uF 22 ?_;refine zF (uY 2 ?_)
 refine ⟨fun _=> .inr (by simp [zS,Region.binds]),?_⟩
 refine gz1 ?_;refine uF 24 ?_;refine zF (uY 2 ?_)
 refine ⟨fun _=> .inr (by simp [zS,Region.binds]),?_⟩
 refine gz4 ?_;refine de rfl (uZ 2 ?_)
 refine de rfl (zaT (i:=0) (es:=b.Choices) zaa rfl rfl ?_)
 refine gz3 ?_;refine uV1 [3,1,31,16] (fun (k:Nat)=>[(31,.int .i64 k)]) (fun (k:Nat)=>[.arr v22 5 (b.Choices.map zk),.cells b2 [.raw (.slice none 0 0),.raw (.slice none 0 0),.raw (.slice none 0 0),.raw (.slice none 0 0),.raw (.slice none 0 0),.int .i64 0,.int .i64 0,.int .i64 0,.int .i64 0,.raw (.slice none 0 0),.raw (.slice none 0 0),.raw (.slice none 0 0),.raw (.slice none 0 0),.int .i64 0,.raw (.slice none 0 0),.raw (.slice none 0 0),.raw (.slice none 0 0),.raw (.slice none 0 0),.raw (.slice none 0 0)],.cells b1 [zbd b.League.Players,zbZ b.League.Stints,zeo b.League.Fixtures,zdk b.League.Rules,zgq b.League.Slots,.int .i64 b.League.Bounds.Most,.int .i64 b.League.Bounds.Hurt,.int .i64 b.League.Bounds.Adds,.int .i64 b.League.Bounds.Hold,eSs b.League.Teams,zdN b.League.Games,eIs b.League.Breaks,eSs b.League.Trust,.int .i64 b.League.Start,zbB b.Moves,zbk b.Plays,zbj b.Mends,za1 b.Health,.raw v22]]) (fun (k:Nat)=>k<=b.Choices.length/\(True)) (fun (k:Nat)=>b.Choices.length-k) (0) ?_ ?_ ?_ ?_
 ·exact ⟨Ad _,trivial⟩
 ·exact ⟨rfl,trivial⟩
 ·exact zm rfl
 ·intro k hinv
  obtain ⟨hk,-⟩:=hinv;refine gz4 ?_;refine uCo (fun h1=> ?_) fun h2=> ?_
  ·obtain ⟨x,hx⟩: ∃x,b.Choices[k]? =some x:=⟨_,Aa h1⟩
   have hdx:=zi hx;refine gz8 ?_;refine zb1 (i:=0) rfl (fun h0 he=> ?_) (fun ob off cap hv hcap=> ?_)
   ·exfalso;have q:=congrArg List.length he;rw [Aj,Aq] at q;have:=zo hx;omega
   rw [Aj] at hv hcap;subst hv;refine zaC (fun M=>(∃i:Nat,M[i]? =some (.cells b1 [zbd b.League.Players,zbZ b.League.Stints,zeo b.League.Fixtures,zdk b.League.Rules,zgq b.League.Slots,.int .i64 b.League.Bounds.Most,.int .i64 b.League.Bounds.Hurt,.int .i64 b.League.Bounds.Adds,.int .i64 b.League.Bounds.Hold,eSs b.League.Teams,zdN b.League.Games,eIs b.League.Breaks,eSs b.League.Trust,.int .i64 b.League.Start,zbB b.Moves,zbk b.Plays,zbj b.Mends,za1 b.Health,.raw (.slice (some ⟨ob,off,none⟩) b.Choices.length cap)]))/\∃i:Nat,M[i]? =some (.arr (.slice (some ⟨ob,off,none⟩) b.Choices.length cap) 5 (b.Choices.map zk))) [1,4,8] mixed ?_;refine gz1 ?_;refine uM 1 rfl ⟨⟨2,rfl⟩,⟨0,rfl⟩⟩ (fun M hM=>by obtain ⟨⟨i,hi⟩,_⟩:=hM;exact zao (i:=i) zaa rfl hi (.inl ⟨rfl,rfl⟩) ⟨rfl,rfl⟩) ?_;refine gz2 ?_;refine uM 4 rfl ⟨⟨2,rfl⟩,⟨0,rfl⟩⟩ (fun M hM=>by obtain ⟨⟨i,hi⟩,_⟩:=hM;exact zao (i:=i) zaa rfl hi (.inl ⟨rfl,rfl⟩) ⟨rfl,rfl⟩) ?_;refine gz1 ?_;refine uB 6 rfl (ze (j:=k) zaa zR rfl rfl rfl uO) ?_;refine gz1 ?_;refine uM 8 rfl ⟨⟨2,rfl⟩,⟨0,rfl⟩⟩ (fun M hM=>by obtain ⟨_,⟨i,hi⟩⟩:=hM;exact zaJ (i:=i) (j:=k) 3 zH rfl uO hi hx rfl rfl ⟨rfl,rfl⟩) ?_;refine uF 9 ?_;refine zy rfl (zd2 (zaA zli rfl (WeakL.refl _) (zaG (l:=x.Players) (hb.cp x (Ac hx))) fun v43=>⟨v43,rfl,rfl⟩) ?_)
   refine ⟨fun _=> .inl ⟨⟨2,rfl⟩,⟨0,rfl⟩⟩,?_⟩
   refine uB 10 rfl (ze (j:=k) zaa zR rfl rfl rfl uO) ?_;refine gz1 ?_;refine uF 12 ?_;refine zF (z8 (i:=0) (j:=k) (f:=3) (y:=zk x) (y':=zk x) zH rfl uO rfl rfl (za5 hx) rfl rfl (by simp [zd]) rfl ?_)
   refine ⟨fun _=> .inr (by simp [zS,Region.binds]),?_⟩
   refine gz7 ?_;exact ⟨k+1,⟨by omega,trivial⟩,uD,⟨rfl,trivial⟩,uK,zm (by dsimp only;rw [zn9 (za5 hx)];rfl)⟩
  ·have hnk:b.Choices.length<=k:=by omega
   obtain rfl:k=b.Choices.length:=by omega
   refine gz2 ?_;refine zp ?_;refine gz2 ?_;refine zf (zbM (i:=0) (k:=1) (j:=18) rfl rfl rfl) ?_;refine gz1 ?_;refine de rfl (zbO (i:=1) (h:=zan b) zaz rfl rfl rfl rfl rfl ?_)
   refine de0 (zJ (h:=zan b) zaz rfl rfl rfl rfl rfl ?_)
   refine gz2 ?_;exact ⟨_,_,(Ghost.perm (List.Perm.swap _ _ _)).trans (Ghost.drop.trans (zA 2 rfl)),[_],_,⟨⟨_,_,_,_,_,rfl,zaz,.inr ⟨rfl,rfl,rfl⟩⟩,trivial⟩,Weak.refl _,rfl,rfl⟩
end
section
open Go.Proofs.Tryz
open Go.HL
theorem zhe [Tracks] {A X B Y C:List Play} {ia ib k0:Int} {n b off cap:Nat} {f:HVal} (hxy:X.length=Y.length) (hn:A.length+X.length+B.length+Y.length+C.length=n) (hia:ia=(A.length:Int)) (hib:ib=(A.length:Int)+X.length+B.length) (hk0:k0=(X.length:Int)) (hl:n<=1000000):Con prog 382 [.raw (.slice (some ⟨b,off,none⟩) n cap),.int .i64 ia,.int .i64 ib,.int .i64 k0,f] [.arr (.slice (some ⟨b,off,none⟩) n cap) 9 ((A++X++B++Y++C).map zu)] (fun x M'=>x= .tup []/\M'=[.arr (.slice (some ⟨b,off,none⟩) n cap) 9 ((A++Y++B++X++C).map zu)]):=by
 refine uOb func382 ntmps382 ?_;refine gz4 ?_;refine uV1 [10,28] (fun (k:Nat)=>[(10,.int .i64 (k:Int))]) (fun (k:Nat)=>[.arr (.slice (some ⟨b,off,none⟩) n cap) 9 ((swR A X B Y C k).map zu)]) (fun (k:Nat)=>k<=X.length) (fun (k:Nat)=>X.length-k) (0) ?_ ?_ ?_ ?_;exact Ad _;exact ⟨rfl,trivial⟩;exact zm (by rw [zoe])
 intro k hk
 refine gz6 ?_;refine uCo (fun h1=> ?_) fun h2=> ?_
 obtain ⟨x,hx⟩: ∃x,X[k]? =some x:=⟨_,Aa uO⟩
 obtain ⟨y,hy⟩: ∃y,Y[k]? =some y:=⟨_,Aa uO⟩
 refine gz4 ?_;refine zaC (fun M=>M=[.arr (.slice (some ⟨b,off,none⟩) n cap) 9 ((swR A X B Y C k).map zu)]) [13,19] mixed ?_;refine zcc ?_;refine uB 12 rfl (ze (j:=A.length+X.length+B.length+k) zaj zI rfl rfl uO uO) ?_;refine uM 13 rfl rfl (uW (zj (i:=0) (j:=A.length+X.length+B.length+k) zI rfl rfl rfl (zlE hx hy) rfl rfl rfl ⟨rfl,rfl⟩)) ?_;refine gz4 ?_;refine uB 18 rfl (ze (j:=A.length+k) zaj zI rfl rfl uO uO) ?_;refine uM 19 rfl rfl (uW (zj (i:=0) (j:=A.length+k) zI rfl rfl rfl (zhR hx hy) rfl rfl rfl ⟨rfl,rfl⟩)) ?_;refine uB 20 rfl (ze (j:=A.length+k) zaj zI rfl rfl uO uO) ?_;refine uF 21 ?_;refine zF (zO (i:=0) (j:=A.length+k) (y:=x) (y':=y) zI rfl rfl rfl rfl (zhR hx hy) rfl rfl rfl ?_)
 refine ⟨fun _=> .inr (by simp [zS,Region.binds]),?_⟩
 refine uB 22 rfl (ze (j:=A.length+X.length+B.length+k) zaj zI rfl rfl uO uO) ?_;refine uF 23 ?_;refine zF (zO (i:=0) (j:=A.length+X.length+B.length+k) (y:=y) (y':=x) zI rfl rfl rfl rfl (zmQ hx hy) rfl rfl rfl ?_)
 refine ⟨fun _=> .inr (by simp [zS,Region.binds]),?_⟩
 refine gz8 ?_;exact ⟨k+1,by omega,uD,⟨rfl,trivial⟩,uK,zm (by rw [zpO hx hy];rfl)⟩;obtain rfl:k=X.length:=by omega
 rw [zpN hxy];refine gz2 ?_;refine zp ?_;refine gz1 ?_;exact zT rfl ⟨rfl,rfl⟩
theorem znc [Tracks] {P U W Q:List Play} {ia im ib:Int} {n b off cap:Nat} {f:HVal} (hu:0<U.length) (hw:0<W.length) (hn:P.length+U.length+W.length+Q.length=n) (hia:ia=(P.length:Int)) (him:im=(P.length:Int)+U.length) (hib:ib=(P.length:Int)+U.length+W.length) (hl:n<=1000000):Con prog 357 [.raw (.slice (some ⟨b,off,none⟩) n cap),.int .i64 ia,.int .i64 im,.int .i64 ib,f] [.arr (.slice (some ⟨b,off,none⟩) n cap) 9 ((P++U++W++Q).map zu)] (fun x M'=>x= .tup []/\M'=[.arr (.slice (some ⟨b,off,none⟩) n cap) 9 ((P++W++U++Q).map zu)]):=by
 refine uOb func357 ntmps357 ?_;refine zrx ?_;refine zjW [10,11,18,19,20,21,22,23,24,25,26,27,28,29,30,31,32,33,34,35,36,37,38,39,40,41,42,43,44,45,46,47,48,49] (fun (P1:List Play) (U1:List Play) (W1:List Play) (Q1:List Play)=>[(10,.int .i64 (U1.length:Int)),(11,.int .i64 (W1.length:Int))]) (fun (P1:List Play) (U1:List Play) (W1:List Play) (Q1:List Play)=>[.arr (.slice (some ⟨b,off,none⟩) n cap) 9 ((P1++U1++W1++Q1).map zu)]) (fun (P1:List Play) (U1:List Play) (W1:List Play) (Q1:List Play)=>P1++W1++U1++Q1=P++W++U++Q/\P1.length+U1.length=P.length+U.length/\0<U1.length/\0<W1.length/\P1.length+U1.length+W1.length+Q1.length=n) (fun (P1:List Play) (U1:List Play) (W1:List Play) (Q1:List Play)=>U1.length+W1.length) (P) (U) (W) (Q) ?_ ?_ ?_ ?_;exact ⟨rfl,rfl,hu,hw,hn⟩;exact ⟨zg uO,zg uO,trivial⟩;exact Ab _
 intro P1 U1 W1 Q1 hinv
 obtain ⟨hf,hpu,hu1,hw1,hn1⟩:=hinv;refine gz6 ?_;refine uCo (fun h1=> ?_) fun h2=> ?_
 refine gz8 ?_;refine uCo (fun h3=> ?_) fun h4=> ?_
 obtain ⟨Ua,Ub,rfl,hUa⟩: ∃Ua Ub,U1=Ua++Ub/\Ua.length=W1.length:=⟨U1.take W1.length,U1.drop W1.length,(Am _ _).symm,by rw [Ag];omega⟩
 rw [Af] at*;refine zf (zP (M':=[.arr (.slice (some ⟨b,off,none⟩) n cap) 9 ((P1++Ua++Ub++W1++Q1).map zu)]) (by simp)) ?_;refine gz8 ?_;refine de rfl (za (i:=0) zta rfl (WeakL.refl _) rfl (zhe (A:=P1) (X:=Ua) (B:=Ub) (Y:=W1) (C:=Q1) (n:=n) uO uO uO uO uO hl) ?_)
 rintro _ _ ⟨rfl,rfl⟩;refine gz8 ?_;exact ⟨P1++W1,Ub,Ua,Q1,⟨by rw [<-hf];simp,by simp only [Af] at*;omega,by omega,by omega,by simp only [Af] at*;omega⟩,by dsimp only;simp only [Af] at*;omega,⟨zg uO,zg uO,trivial⟩,uK,Ab _⟩;obtain ⟨Wa,Wb,rfl,hWb⟩: ∃Wa Wb,W1=Wa++Wb/\Wb.length=U1.length:=⟨W1.take (W1.length-U1.length),W1.drop (W1.length-U1.length),(Am _ _).symm,by rw [Au];omega⟩
 rw [Af] at*;refine zf (zP (M':=[.arr (.slice (some ⟨b,off,none⟩) n cap) 9 ((P1++U1++Wa++Wb++Q1).map zu)]) (by simp)) ?_;refine zcc ?_;refine de rfl (za (i:=0) zta rfl (WeakL.refl _) rfl (zhe (A:=P1) (X:=U1) (B:=Wa) (Y:=Wb) (C:=Q1) (n:=n) uO uO uO uO uO hl) ?_)
 rintro _ _ ⟨rfl,rfl⟩;refine gz8 ?_;exact ⟨P1,Wb,Wa,U1++Q1,⟨by rw [<-hf];simp,by omega,by omega,by omega,by simp only [Af] at*;omega⟩,by dsimp only;simp only [Af] at*;omega,⟨zg uO,zg uO,trivial⟩,uK,zm (by simp)⟩;refine gz2 ?_;refine zlt ?_;refine gz2 ?_;refine zf (zP (M':=[.arr (.slice (some ⟨b,off,none⟩) n cap) 9 ((P1++U1++[]++W1++Q1).map zu)]) (by simp)) ?_;refine gz8 ?_;refine de rfl (za (i:=0) zta rfl (WeakL.refl _) rfl (zhe (A:=P1) (X:=U1) (B:=[]) (Y:=W1) (C:=Q1) (n:=n) uO uO uO (by simp only [Aq];omega) uO hl) ?_)
 rintro _ _ ⟨rfl,rfl⟩;refine gz1 ?_;exact zT rfl ⟨rfl,by simp only [AW] at*;rw [<-hf];rfl⟩
theorem zjP [Tracks] {A X C:List Play} {ia ib:Int} {n b off cap:Nat} {fid:FuncId} {caps:List HVal} {c:Play->Play->Int} (hca:Callable prog fid) (hp: ∀x y,ConP prog fid ([zu x,zu y]++caps) (.int .i64 (c x y))) (hn:A.length+X.length+C.length=n) (hia:ia=(A.length:Int)) (hib:ib=(A.length:Int)+X.length) (hl:n<=1000000):Con prog 300 [.raw (.slice (some ⟨b,off,none⟩) n cap),.int .i64 ia,.int .i64 ib,.fn (.func fid) [] caps] [.arr (.slice (some ⟨b,off,none⟩) n cap) 9 ((A++X++C).map zu)] (fun x M'=>x= .tup []/\M'=[.arr (.slice (some ⟨b,off,none⟩) n cap) 9 ((A++zX c X++C).map zu)]):=by
 refine uOb func300 ntmps300 ?_;refine gz6 ?_;refine uV1 [8,2,12,41] (fun (k:Nat)=>[(8,.int .i64 ((A.length+k:Nat):Int))]) (fun (k:Nat)=>[.arr (.slice (some ⟨b,off,none⟩) n cap) 9 ((A++(zX c (X.take k)++X.drop k)++C).map zu)]) (fun (k:Nat)=>1<=k) (fun (k:Nat)=>X.length-k) (1) ?_ ?_ ?_ ?_;exact Ae _;exact ⟨zg uO,trivial⟩;exact zm (by rw [zfb])
 intro k hk
 refine gz6 ?_;refine uCo (fun h1=> ?_) fun h2=> ?_
 obtain ⟨x,hx⟩: ∃x,X[k]? =some x:=⟨_,Aa uO⟩
 refine gz9 ?_;refine uV2 [9,1,18,35] (fun (D:List Play) (B:List Play)=>[(9,.int .i64 ((A.length+D.length:Nat):Int))]) (fun (D:List Play) (B:List Play)=>[.arr (.slice (some ⟨b,off,none⟩) n cap) 9 (((A++D)++x::(B++X.drop (k+1)++C)).map zu)]) (fun (D:List Play) (B:List Play)=>D.length+B.length=k/\zct c x (zX c (X.take k))=zct c x D++B) (fun (D:List Play) (B:List Play)=>D.length) (zX c (X.take k)) ([]) ?_ ?_ ?_ ?_;exact ⟨by simp [zay];omega,by simp⟩;exact ⟨zg (by simp [zay];omega),trivial⟩;exact zm (by rw [zi hx];simp)
 intro D B hinv
 obtain ⟨hA,hB⟩:=hinv;have hlA:D.length<X.length:=by omega
 refine gz1 ?_;refine zw (fun M=>M=[.arr (.slice (some ⟨b,off,none⟩) n cap) 9 (((A++D)++x::(B++X.drop (k+1)++C)).map zu)]) [8,13] mixed ?_;refine gz7 ?_;refine ahg 7 rfl rfl (by kernel_rfl) (by kernel_rfl) rfl (fun hc=>by
  have hq:0<D.length:=by simp at hc;omega
  exact ⟨_,OpenTo.upd (t:=24) rfl (hc) (OpenTo.upd (t:=23) rfl (hc) (OpenTo.refl _)),ze (j:=(A++D).length) zaj zI rfl rfl (by simp) (by simp;omega)⟩) ?_
 refine zin 8 rfl rfl (by kernel_rfl) (by kernel_rfl) (by simp) rfl rfl (fun hc=>⟨_,OpenTo.upd (t:=25) rfl (hc) (OpenTo.refl _),fun M hM=>by
  subst hM;exact zj (i:=0) (j:=(A++D).length) zI rfl rfl rfl zci rfl rfl rfl ⟨rfl,rfl⟩
  ⟩) ?_
 refine gz2 ?_;refine ahg 11 rfl rfl (by kernel_rfl) (by kernel_rfl) rfl (fun hc=>by
  have hq:0<D.length:=by simp at hc;omega
  exact ⟨_,OpenTo.upd (t:=28) rfl (hc) (OpenTo.refl _),zdv rfl rfl uO uO⟩) ?_
 refine ahg 12 rfl rfl (by kernel_rfl) (by kernel_rfl) rfl (fun hc=>by
  have hq:0<D.length:=by simp at hc;omega
  exact ⟨_,OpenTo.upd (t:=29) rfl (hc) (OpenTo.upd (t:=27) rfl (hc) (OpenTo.refl _)),ze (j:=(A++D).length-1) zaj zI rfl rfl (by simp;omega) (by simp;omega)⟩) ?_
 refine zin 13 rfl rfl (by kernel_rfl) (by kernel_rfl) (by simp) rfl rfl (fun hc=>⟨_,OpenTo.upd (t:=30) rfl (hc) (OpenTo.refl _),fun M hM=>by
  have hq:0<D.length:=by simp at hc;omega
  subst hM;exact zj (i:=0) (j:=(A++D).length-1) zI rfl rfl rfl (zf3 (by simp;omega)) rfl rfl rfl ⟨rfl,rfl⟩
  ⟩) ?_
 refine ahg 14 rfl rfl (by kernel_rfl) (by kernel_rfl) rfl (fun hc=>⟨_,OpenTo.upd (t:=31) rfl (hc) (OpenTo.upd (t:=26) rfl (hc) (OpenTo.upd (t:=22) rfl (hc) (OpenTo.refl _))),z7 hca rfl rfl (WeakL.refl _) (hp _ _)⟩) ?_;refine gz3 ?_;refine uCo (fun h3=> ?_) fun h4=> ?_
 obtain ⟨hA0,hcx⟩:=h3;obtain ⟨D1,y,rfl⟩:=zhQ (A:=D) uO;rw [zhM] at hcx;have hD1:(D1++[y]).length=D1.length+1:=by simp
 refine gz4 ?_;refine zaC (fun M=>M=[.arr (.slice (some ⟨b,off,none⟩) n cap) 9 (((A++(D1++[y]))++x::(B++X.drop (k+1)++C)).map zu)]) [9,13] mixed ?_;refine gz8 ?_;refine uB 8 rfl (ze (j:=(A++(D1++[y])).length-1) zaj zI rfl rfl (by simp;omega) (by simp;omega)) ?_;refine uM 9 rfl rfl (uW (zj (i:=0) (j:=(A++(D1++[y])).length-1) zI rfl rfl rfl (zde) rfl rfl rfl ⟨rfl,rfl⟩)) ?_;refine gz2 ?_;refine uB 12 rfl (ze (j:=(A++(D1++[y])).length) zaj zI rfl rfl (by simp) (by simp;omega)) ?_;refine uM 13 rfl rfl (uW (zj (i:=0) (j:=(A++(D1++[y])).length) zI rfl rfl rfl zci rfl rfl rfl ⟨rfl,rfl⟩)) ?_;refine uB 14 rfl (ze (j:=(A++(D1++[y])).length) zaj zI rfl rfl (by simp) (by simp;omega)) ?_;refine uF 15 ?_;refine zF (zO (i:=0) (j:=(A++(D1++[y])).length) (y:=x) (y':=y) zI rfl rfl rfl rfl zci rfl rfl rfl ?_)
 refine ⟨fun _=> .inr (by simp [zS,Region.binds]),?_⟩
 refine uB 16 rfl (ze (j:=(A++(D1++[y])).length-1) zaj zI rfl rfl (by simp;omega) (by simp;omega)) ?_;refine uF 17 ?_;refine zF (zO (i:=0) (j:=(A++(D1++[y])).length-1) (y:=y) (y':=x) zI rfl rfl rfl rfl (by rw [AP (by simp)];exact zde) rfl rfl rfl ?_)
 refine ⟨fun _=> .inr (by simp [zS,Region.binds]),?_⟩
 refine gz8 ?_;exact ⟨D1,y::B,⟨by simp at hA⊢;omega,zhL hB hcx⟩,uD,⟨zg uO,trivial⟩,uK,zm (by rw [<-An,zhS];simp)⟩;have hins:=zhK (l:=X) (k:=k) hx hB (by intro h0;have h9:=h4 uO;rw [zfO h0] at h9;omega);refine gz2 ?_;refine zM ?_;refine gz8 ?_;exact ⟨k+1,by omega,uD,⟨zg uO,trivial⟩,uK,zm (by rw [ziY hins])⟩;have hend:zX c (X.take k)++X.drop k=zX c X:=by rw [AF uO,zz uO];simp
 refine gz2 ?_;refine zp ?_;refine gz1 ?_;exact zT rfl ⟨rfl,by rw [hend]⟩
theorem zoF [Tracks] {A X Y C:List Play} {ia im ib:Int} {N:Nat} {n b off cap:Nat} {fid:FuncId} {caps:List HVal} {c:Play->Play->Int} (hca:Callable prog fid) (hp: ∀x y,ConP prog fid ([zu x,zu y]++caps) (.int .i64 (c x y))) (hc:Cmp c fun _=>True) (hx0:0<X.length) (hy0:0<Y.length) (hN:X.length+Y.length<=N) (hn:A.length+X.length+Y.length+C.length=n) (hia:ia=(A.length:Int)) (him:im=(A.length:Int)+X.length) (hib:ib=(A.length:Int)+X.length+Y.length) (hX:Srt c X) (hY:Srt c Y) (hl:n<=1000000) (ih: ∀{A X Y C:List Play} {ia im ib:Int},0<X.length->0<Y.length->X.length+Y.length<N->A.length+X.length+Y.length+C.length=n->ia=(A.length:Int)->im=(A.length:Int)+X.length->ib=(A.length:Int)+X.length+Y.length->Srt c X->Srt c Y->Con prog 301 [.raw (.slice (some ⟨b,off,none⟩) n cap),.int .i64 ia,.int .i64 im,.int .i64 ib,.fn (.func fid) [] caps] [.arr (.slice (some ⟨b,off,none⟩) n cap) 9 ((A++X++Y++C).map zu)] (fun x M'=> ∃Z:List Play,x= .tup []/\(Z.Perm (X++Y)/\Srt c Z)/\M'=[.arr (.slice (some ⟨b,off,none⟩) n cap) 9 ((A++Z++C).map zu)])):Con prog 301 [.raw (.slice (some ⟨b,off,none⟩) n cap),.int .i64 ia,.int .i64 im,.int .i64 ib,.fn (.func fid) [] caps] [.arr (.slice (some ⟨b,off,none⟩) n cap) 9 ((A++X++Y++C).map zu)] (fun x M'=> ∃Z:List Play,x= .tup []/\(Z.Perm (X++Y)/\Srt c Z)/\M'=[.arr (.slice (some ⟨b,off,none⟩) n cap) 9 ((A++Z++C).map zu)]):=by
 refine uOb func301 ntmps301 ?_;refine gz7 ?_;refine uCo (fun h1=> ?_) fun h2=> ?_
 obtain ⟨x,rfl⟩: ∃x,X=[x]:=List.length_eq_one_iff.1 uO
 simp only [Ao,Aq,A7] at*;refine zaD ?_;refine uV2 [10,3,31,23] (fun (p:Nat) (q:Nat)=>[(10,.int .i64 ((A.length+1+p:Nat):Int)),(11,.int .i64 ((A.length+1+q:Nat):Int))]) (fun (p:Nat) (q:Nat)=>[.arr (.slice (some ⟨b,off,none⟩) n cap) 9 ((A++[x]++Y++C).map zu)]) (fun (p:Nat) (q:Nat)=>p<=q/\q<=Y.length/\(∀y,Y[p-1]? =some y->0<p->c y x<0)/\(∀y,Y[q]? =some y->¬c y x<0)) (fun (p:Nat) (q:Nat)=>q-p) (0) (Y.length) ?_ ?_ ?_ ?_;exact ⟨Ad _,Ae _,fun y _ h=>absurd h (A1 _),fun y h=>by have:=zo h;omega⟩;exact ⟨zg uO,zg uO,trivial⟩;exact Ab _
 intro p q hinv
 obtain ⟨hpq,hqY,hP,hQ⟩:=hinv;refine gz6 ?_;refine uCo (fun h3=> ?_) fun h4=> ?_
 refine gz7 ?_;refine dq (zaY ty3 zch rfl) ?_;refine dq (zdB rfl rfl uO) ?_;refine dq (zae (zaY zch ty3 rfl) (zey (i:=A.length+1+p) (j:=A.length+1+q) uO)) ?_;refine gz2 ?_;obtain ⟨r,hr⟩: ∃r,(A.length+1+p+(A.length+1+q))/2=A.length+1+r:=⟨(A.length+1+p+(A.length+1+q))/2-(A.length+1),by omega⟩
 obtain ⟨y,hy⟩: ∃y,Y[r]? =some y:=⟨_,Aa uO⟩
 refine zw (fun M=>M=[.arr (.slice (some ⟨b,off,none⟩) n cap) 9 ((A++[x]++Y++C).map zu)]) [4,8] mixed ?_;refine gz3 ?_;refine uB 3 rfl (ze (j:=A.length+[x].length+r) zaj zI rfl rfl (by simp;omega) (by simp;omega)) ?_;refine uM 4 rfl rfl (uW (zj (i:=0) (j:=A.length+[x].length+r) zI rfl rfl rfl (zeV hy) rfl rfl rfl ⟨rfl,rfl⟩)) ?_;refine gz2 ?_;refine uB 7 rfl (ze (j:=A.length+0) zaj zI rfl rfl uO uO) ?_;refine uM 8 rfl rfl (uW (zj (i:=0) (j:=A.length+0) zI rfl rfl rfl (zeU (X:=[x]) rfl) rfl rfl rfl ⟨rfl,rfl⟩)) ?_;refine uB 9 rfl (z7 hca rfl rfl (WeakL.refl _) (hp _ _)) ?_;refine gz2 ?_;refine uCo (fun h5=> ?_) fun h6=> ?_
 refine gz6 ?_;exact ⟨r+1,q,⟨by omega,hqY,fun z hz _=>by rw [AU,hy] at hz;rw [<-Ak hz];assumption,hQ⟩,uD,⟨zg uO,rfl,trivial⟩,uK,Ab _⟩;refine gz5 ?_;exact ⟨p,r,⟨by omega,by omega,hP,fun z hz=>by rw [hy] at hz;rw [<-Ak hz];omega⟩,uD,⟨rfl,zg uO,trivial⟩,uK,Ab _⟩;obtain rfl:p=q:=by omega
 refine gz2 ?_;refine zM ?_;refine gz8 ?_;refine uV1 [13,1,55,22] (fun (t:Nat)=>[(13,.int .i64 ((A.length+t:Nat):Int))]) (fun (t:Nat)=>[.arr (.slice (some ⟨b,off,none⟩) n cap) 9 ((wan A Y x C t).map zu)]) (fun (t:Nat)=>t<=p) (fun (t:Nat)=>p-t) (0) ?_ ?_ ?_ ?_;exact Ad _;exact ⟨zg uO,trivial⟩;exact zm (by rw [zon])
 intro t ht
 refine gz7 ?_;refine uCo (fun h7=> ?_) fun h8=> ?_
 obtain ⟨y,hy⟩: ∃y,Y[t]? =some y:=⟨_,Aa uO⟩
 refine gz4 ?_;refine zaC (fun M=>M=[.arr (.slice (some ⟨b,off,none⟩) n cap) 9 ((wan A Y x C t).map zu)]) [9,13] mixed ?_;refine gz8 ?_;refine uB 8 rfl (ze (j:=A.length+t+1) zaj zI rfl rfl uO uO) ?_;refine uM 9 rfl rfl (uW (zj (i:=0) (j:=A.length+t+1) zI rfl rfl rfl (zlJ hy) rfl rfl rfl ⟨rfl,rfl⟩)) ?_;refine gz2 ?_;refine uB 12 rfl (ze (j:=A.length+t) zaj zI rfl rfl uO uO) ?_;refine uM 13 rfl rfl (uW (zj (i:=0) (j:=A.length+t) zI rfl rfl rfl (zhU hy) rfl rfl rfl ⟨rfl,rfl⟩)) ?_;refine uB 14 rfl (ze (j:=A.length+t) zaj zI rfl rfl uO uO) ?_;refine uF 15 ?_;refine zF (zO (i:=0) (j:=A.length+t) (y:=x) (y':=y) zI rfl rfl rfl rfl (zhU hy) rfl rfl rfl ?_)
 refine ⟨fun _=> .inr (by simp [zS,Region.binds]),?_⟩
 refine uB 16 rfl (ze (j:=A.length+t+1) zaj zI rfl rfl uO uO) ?_;refine uF 17 ?_;refine zF (zO (i:=0) (j:=A.length+t+1) (y:=y) (y':=x) zI rfl rfl rfl rfl (zmT hy) rfl rfl rfl ?_)
 refine ⟨fun _=> .inr (by simp [zS,Region.binds]),?_⟩
 refine gz8 ?_;exact ⟨t+1,by omega,uD,⟨zg uO,trivial⟩,uK,zm (by rw [zpT hy];rfl)⟩;obtain rfl:t=p:=by omega
 refine gz2 ?_;refine zp ?_;refine gz3 ?_;exact zT rfl ⟨_,rfl,zn1 hc hY hqY (fun y hy=>by have h1:=hQ y hy;have:=hc.flip y x trivial trivial;have:=hc.flip x y trivial trivial;omega) (fun y hy h0=>by have:=hP y hy h0;omega),by simp [wan]⟩;refine gz9 ?_;refine uCo (fun h9=> ?_) fun h10=> ?_
 obtain ⟨y,rfl⟩: ∃y,Y=[y]:=List.length_eq_one_iff.1 uO
 simp only [Ao,Aq,A7] at*;refine zaD ?_;refine uV2 [14,3,83,24] (fun (p:Nat) (q:Nat)=>[(14,.int .i64 ((A.length+p:Nat):Int)),(15,.int .i64 ((A.length+q:Nat):Int))]) (fun (p:Nat) (q:Nat)=>[.arr (.slice (some ⟨b,off,none⟩) n cap) 9 ((A++X++[y]++C).map zu)]) (fun (p:Nat) (q:Nat)=>p<=q/\q<=X.length/\(∀x,X[p-1]? =some x->0<p->¬c y x<0)/\(∀x,X[q]? =some x->c y x<0)) (fun (p:Nat) (q:Nat)=>q-p) (0) (X.length) ?_ ?_ ?_ ?_;exact ⟨Ad _,Ae _,fun x _ h=>absurd h (A1 _),fun x h=>by have:=zo h;omega⟩;exact ⟨zg uO,zg uO,trivial⟩;exact Ab _
 intro p q hinv
 obtain ⟨hpq,hqX,hP,hQ⟩:=hinv;refine gz6 ?_;refine uCo (fun h11=> ?_) fun h12=> ?_
 refine gz7 ?_;refine dq (zaY ty3 zch rfl) ?_;refine dq (zdB rfl rfl uO) ?_;refine dq (zae (zaY zch ty3 rfl) (zey (i:=A.length+p) (j:=A.length+q) uO)) ?_;refine gz2 ?_;obtain ⟨r,hr⟩: ∃r,(A.length+p+(A.length+q))/2=A.length+r:=⟨(A.length+p+(A.length+q))/2-A.length,by omega⟩
 obtain ⟨x,hx⟩: ∃x,X[r]? =some x:=⟨_,Aa uO⟩
 refine zw (fun M=>M=[.arr (.slice (some ⟨b,off,none⟩) n cap) 9 ((A++X++[y]++C).map zu)]) [4,8] mixed ?_;refine gz3 ?_;refine uB 3 rfl (ze (j:=A.length+X.length+0) zaj zI rfl rfl uO (by simp at hn⊢;omega)) ?_;refine uM 4 rfl rfl (uW (zj (i:=0) (j:=A.length+X.length+0) zI rfl rfl rfl (zeV (Y:=[y]) rfl) rfl rfl rfl ⟨rfl,rfl⟩)) ?_;refine gz2 ?_;refine uB 7 rfl (ze (j:=A.length+r) zaj zI rfl rfl uO uO) ?_;refine uM 8 rfl rfl (uW (zj (i:=0) (j:=A.length+r) zI rfl rfl rfl (zeU hx) rfl rfl rfl ⟨rfl,rfl⟩)) ?_;refine uB 9 rfl (z7 hca rfl rfl (WeakL.refl _) (hp _ _)) ?_;refine gz3 ?_;refine uCo (fun h13=> ?_) fun h14=> ?_
 refine gz6 ?_;exact ⟨r+1,q,⟨by omega,hqX,fun z hz _=>by rw [AU,hx] at hz;rw [<-Ak hz];omega,hQ⟩,uD,⟨zg uO,rfl,trivial⟩,uK,Ab _⟩;refine gz5 ?_;exact ⟨p,r,⟨by omega,by omega,hP,fun z hz=>by rw [hx] at hz;rw [<-Ak hz];omega⟩,uD,⟨rfl,zg uO,trivial⟩,uK,Ab _⟩;obtain rfl:p=q:=by omega
 refine gz2 ?_;refine zM ?_;refine gz8 ?_;refine uV1 [17,1,108,21] (fun (t:Nat)=>[(17,.int .i64 ((A.length+t:Nat):Int))]) (fun (t:Nat)=>[.arr (.slice (some ⟨b,off,none⟩) n cap) 9 ((wan A X y C t).map zu)]) (fun (t:Nat)=>p<=t/\t<=X.length) (fun (t:Nat)=>t) (X.length) ?_ ?_ ?_ ?_;exact ⟨by omega,Ae _⟩;exact ⟨zg uO,trivial⟩;exact zm (by rw [zpS])
 intro t hinv
 obtain ⟨ht,htX⟩:=hinv;refine gz6 ?_;refine uCo (fun h15=> ?_) fun h16=> ?_
 obtain ⟨s,rfl⟩: ∃s,t=s+1:=⟨t-1,by omega⟩
 obtain ⟨x,hx⟩: ∃x,X[s]? =some x:=⟨_,Aa uO⟩
 refine gz4 ?_;refine zaC (fun M=>M=[.arr (.slice (some ⟨b,off,none⟩) n cap) 9 ((wan A X y C (s+1)).map zu)]) [9,13] mixed ?_;refine gz8 ?_;refine uB 8 rfl (ze (j:=A.length+s) zaj zI rfl rfl uO uO) ?_;refine uM 9 rfl rfl (uW (zj (i:=0) (j:=A.length+s) zI rfl rfl rfl (zgu hx).2 rfl rfl rfl ⟨rfl,rfl⟩)) ?_;refine gz2 ?_;refine uB 12 rfl (ze (j:=A.length+s+1) zaj zI rfl rfl uO uO) ?_;refine uM 13 rfl rfl (uW (zj (i:=0) (j:=A.length+s+1) zI rfl rfl rfl (zgu hx).1 rfl rfl rfl ⟨rfl,rfl⟩)) ?_;refine uB 14 rfl (ze (j:=A.length+s+1) zaj zI rfl rfl uO uO) ?_;refine uF 15 ?_;refine zF (zO (i:=0) (j:=A.length+s+1) (y:=y) (y':=x) zI rfl rfl rfl rfl (zgu hx).1 rfl rfl rfl ?_)
 refine ⟨fun _=> .inr (by simp [zS,Region.binds]),?_⟩
 refine uB 16 rfl (ze (j:=A.length+s) zaj zI rfl rfl uO uO) ?_;refine uF 17 ?_;refine zF (zO (i:=0) (j:=A.length+s) (y:=x) (y':=y) zI rfl rfl rfl rfl (zpR hx) rfl rfl rfl ?_)
 refine ⟨fun _=> .inr (by simp [zS,Region.binds]),?_⟩
 refine gz8 ?_;exact ⟨s,⟨by omega,by omega⟩,uD,⟨zg uO,trivial⟩,uK,zm (by rw [zol hx];rfl)⟩;obtain rfl:t=p:=by omega
 refine gz2 ?_;refine zp ?_;refine gz3 ?_;exact zT rfl ⟨_,rfl,zmK hc hX hqX (fun x hx h0=>by have h1:=hP x hx h0;have:=hc.flip y x trivial trivial;have:=hc.flip x y trivial trivial;omega) (fun x hx=>by have:=hQ x hx;omega),by simp [wan]⟩;refine gz6 ?_;refine dq (zaY ty3 zch rfl) ?_;refine dq (zdB rfl rfl uO) ?_;refine dq (zae (h':= .int .i64 (((A.length+(A.length+X.length+Y.length))/2:Nat):Int)) (zaY zch ty3 rfl) (by have e9:ia+ib=((A.length:Nat):Int)+((A.length+X.length+Y.length:Nat):Int):=uO;rw [e9];exact zey uO)) ?_;refine gz2 ?_;obtain ⟨d,hd⟩: ∃d:Nat,(A.length+(A.length+X.length+Y.length))/2=d:=⟨_,rfl⟩
 rw [hd];refine zaD ?_;refine uVj [20,2,138,9] (fun (s:Nat×Nat)=>[(20,.int .i64 (s.1:Int)),(21,.int .i64 (s.2:Int))]) (fun (s:Nat×Nat)=>[.arr (.slice (some ⟨b,off,none⟩) n cap) 9 ((A++X++Y++C).map zu)]) (fun (s:Nat×Nat)=>(A.length<=s.1/\s.1<=s.2/\s.2<=A.length+X.length/\s.2<=d/\d<=s.1+Y.length)/\(s.1=A.length\/d=s.1+Y.length)/\(s.2=A.length+X.length\/s.2=d)) ?_ ?_
 skip
 refine gz5 ?_;refine uCo (fun h17=> ?_) fun h18=> ?_
 refine zaD ?_;exact ⟨(d-Y.length,d),⟨⟨uD,uD,uD,uD,uD⟩,uD,uD⟩,⟨zg uO,rfl,trivial⟩,uK,Ab _⟩;refine gz8 ?_;exact ⟨(A.length,A.length+X.length),⟨⟨uD,uD,uD,uD,uD⟩,uD,uD⟩,⟨zg uO,zg uO,trivial⟩,uK,Ab _⟩
 intro s hs
 obtain ⟨s1,s2⟩:=s;dsimp only at hs⊢;obtain ⟨⟨hs3,hs4,hs5,hs6,hs7⟩,hs1,hs2⟩:=hs;refine gz7 ?_;refine uV2 [20,2,23,1,149,26] (fun (p:Nat) (q:Nat)=>[(20,.int .i64 (p:Int)),(21,.int .i64 (q:Int))]) (fun (p:Nat) (q:Nat)=>[.arr (.slice (some ⟨b,off,none⟩) n cap) 9 ((A++X++Y++C).map zu)]) (fun (p:Nat) (q:Nat)=>s1<=p/\p<=q/\q<=s2/\(∀x y,X[p-1-A.length]? =some x->Y[d-p]? =some y->s1<p->¬c y x<0)/\(∀x y,X[q-A.length]? =some x->Y[d-1-q]? =some y->q<s2->c y x<0)) (fun (p:Nat) (q:Nat)=>q-p) (s1) (s2) ?_ ?_ ?_ ?_;exact ⟨Ae _,by omega,Ae _,fun x y _ _ h=>absurd h (A1 _),fun x y _ _ h=>absurd h (A1 _)⟩;exact ⟨rfl,rfl,trivial⟩;exact Ab _
 intro p q hinv
 obtain ⟨hsp,hpq,hqs,hP,hQ⟩:=hinv;refine gz6 ?_;refine uCo (fun h19=> ?_) fun h20=> ?_
 refine gz7 ?_;refine dq (zaY ty3 zch rfl) ?_;refine dq (zdB rfl rfl uO) ?_;refine dq (zae (zaY zch ty3 rfl) (zey (i:=p) (j:=q) uO)) ?_;refine gz2 ?_;obtain ⟨g,hg⟩: ∃g,(p+q)/2=g:=⟨_,rfl⟩
 obtain ⟨u,hu⟩: ∃u,g=A.length+u:=⟨g-A.length,by omega⟩
 obtain ⟨r,hr⟩: ∃r,d=r+1+g:=⟨d-1-g,by omega⟩
 obtain ⟨x,hx⟩: ∃x,X[u]? =some x:=⟨_,Aa uO⟩
 obtain ⟨y,hy⟩: ∃y,Y[r]? =some y:=⟨_,Aa uO⟩
 refine zw (fun M=>M=[.arr (.slice (some ⟨b,off,none⟩) n cap) 9 ((A++X++Y++C).map zu)]) [6,10] mixed ?_;refine gz5 ?_;refine uB 5 rfl (ze (j:=A.length+X.length+r) zaj zI rfl rfl uO uO) ?_;refine uM 6 rfl rfl (uW (zj (i:=0) (j:=A.length+X.length+r) zI rfl rfl rfl (zeV hy) rfl rfl rfl ⟨rfl,rfl⟩)) ?_;refine gz2 ?_;refine uB 9 rfl (ze (j:=A.length+u) zaj zI rfl rfl uO uO) ?_;refine uM 10 rfl rfl (uW (zj (i:=0) (j:=A.length+u) zI rfl rfl rfl (zeU hx) rfl rfl rfl ⟨rfl,rfl⟩)) ?_;refine uB 11 rfl (z7 hca rfl rfl (WeakL.refl _) (hp _ _)) ?_;refine gz3 ?_;refine uCo (fun h21=> ?_) fun h22=> ?_
 refine gz6 ?_;exact ⟨g+1,q,⟨by omega,by omega,hqs,fun x2 y2 h1 h2 _=>by
  rw [show g+1-1-A.length=u by omega,hx] at h1;rw [show d-(g+1)=r by omega,hy] at h2;rw [<-Ak h1,<-Ak h2];omega,hQ⟩,uD,⟨zg uO,rfl,trivial⟩,uK,Ab _⟩
 refine gz5 ?_;exact ⟨p,g,⟨hsp,by omega,by omega,hP,fun x2 y2 h1 h2 _=>by
  rw [show g-A.length=u by omega,hx] at h1;rw [show d-1-g=r by omega,hy] at h2;rw [<-Ak h1,<-Ak h2];omega⟩,uD,⟨rfl,zg uO,trivial⟩,uK,Ab _⟩
 obtain rfl:p=q:=by omega
 have hpA:A.length<=p:=by omega
 refine gz2 ?_;refine zM ?_;refine gz2 ?_;obtain ⟨hk1,hk2⟩:=zof hc hP hQ hs1 hs2 hsp hqs hpA;refine gz6 ?_;refine uVj [178,14] (fun (z:Unit)=>[]) (fun (z:Unit)=>[.arr (.slice (some ⟨b,off,none⟩) n cap) 9 (((A++X.take (p-A.length))++Y.take (d-p)++X.drop (p-A.length)++(Y.drop (d-p)++C)).map zu)]) (fun (z:Unit)=>True) ?_ ?_
 skip
 refine zaD ?_;refine uCo (fun h23=> ?_) fun h24=> ?_
 refine zf (zP (M':=[.arr (.slice (some ⟨b,off,none⟩) n cap) 9 (((A++X.take (p-A.length))++X.drop (p-A.length)++Y.take (d-p)++(Y.drop (d-p)++C)).map zu)]) (by rw [zpP (k:=p-A.length) (j:=d-p)])) ?_;refine gz6 ?_;refine de rfl (za (i:=0) zzn rfl (WeakL.refl _) rfl (znc (P:=A++X.take (p-A.length)) (U:=X.drop (p-A.length)) (W:=Y.take (d-p)) (Q:=Y.drop (d-p)++C) (n:=n) (by simp;omega) (by simp;omega) (by simp;omega) (by simp;omega) (by simp;omega) (by simp;omega) hl) ?_)
 rintro _ _ ⟨rfl,rfl⟩;refine gz1 ?_;exact ⟨(),trivial,trivial,uK,Ab _⟩;refine gz1 ?_;exact ⟨(),trivial,trivial,uK,zm (by rw [zlF (k:=p-A.length) (j:=d-p) (by rcases Az p (A.length+X.length) with q|q;(have:=h24 uO;omega);omega)])⟩
 intro z _
 refine uVj [192,14] (fun (Z1:List Play)=>[]) (fun (Z1:List Play)=>[.arr (.slice (some ⟨b,off,none⟩) n cap) 9 ((A++Z1++(X.drop (p-A.length)++(Y.drop (d-p)++C))).map zu)]) (fun (Z1:List Play)=>Z1.Perm (X.take (p-A.length)++Y.take (d-p))/\Srt c Z1) ?_ ?_
 skip
 refine zaD ?_;refine uCo (fun h25=> ?_) fun h26=> ?_
 refine zf (zP (M':=[.arr (.slice (some ⟨b,off,none⟩) n cap) 9 ((A++X.take (p-A.length)++Y.take (d-p)++(X.drop (p-A.length)++(Y.drop (d-p)++C))).map zu)]) (by simp)) ?_;refine gz6 ?_;refine de rfl (za (i:=0) zqL rfl (WeakL.refl _) rfl (ih (A:=A) (X:=X.take (p-A.length)) (Y:=Y.take (d-p)) (C:=X.drop (p-A.length)++(Y.drop (d-p)++C)) (by simp;omega) (by simp;omega) (by simp;omega) (by simp;omega) uO (by simp;omega) (by simp;omega) (hX.take _) (hY.take _)) ?_)
 rintro _ _ ⟨Z1,rfl,⟨hz1,hz2⟩,rfl⟩;refine gz1 ?_;exact ⟨Z1,⟨hz1,hz2⟩,trivial,uK,Ab _⟩;refine gz1 ?_;exact ⟨X.take (p-A.length)++Y.take (d-p),⟨Ab _,zog hX hY (by rcases Az A.length p with q|q;(have:=h26 uO;omega);omega)⟩,trivial,uK,zm (by simp)⟩
 intro Z1 hinv
 obtain ⟨hz1,hz2⟩:=hinv;refine zaD ?_;refine uCo (fun h27=> ?_) fun h28=> ?_
 have hzl:=hz1.length_eq;simp only [Af,Ag] at hzl;refine zf (zP (M':=[.arr (.slice (some ⟨b,off,none⟩) n cap) 9 (((A++Z1)++X.drop (p-A.length)++Y.drop (d-p)++C).map zu)]) (by simp)) ?_;refine gz6 ?_;refine de rfl (za (i:=0) zqL rfl (WeakL.refl _) rfl (ih (A:=A++Z1) (X:=X.drop (p-A.length)) (Y:=Y.drop (d-p)) (C:=C) (by simp;omega) (by simp;omega) (by simp;omega) (by simp;omega) (by simp;omega) (by simp;omega) (by simp;omega) (hX.drop _) (hY.drop _)) ?_)
 rintro _ _ ⟨Z2,rfl,⟨hz3,hz4⟩,rfl⟩;refine gz1 ?_;exact zT rfl ⟨Z1++Z2,rfl,zgW hc hX hY uO uO hk1 hk2 hz1 hz3 hz2 hz4,by simp⟩;refine gz1 ?_;exact zT rfl ⟨Z1++(X.drop (p-A.length)++Y.drop (d-p)),rfl,zgW hc hX hY uO uO hk1 hk2 hz1 (Ab _) hz2 (zmR hX hY (by rcases Az p (A.length+X.length) with q|q;(have:=h28 uO;omega);omega)),by simp⟩
theorem zkP [Tracks] {N:Nat} {n b off cap:Nat} {fid:FuncId} {caps:List HVal} {c:Play->Play->Int} {A X Y C:List Play} {ia im ib:Int} (hca:Callable prog fid) (hp: ∀x y,ConP prog fid ([zu x,zu y]++caps) (.int .i64 (c x y))) (hc:Cmp c fun _=>True) (hl:n<=1000000) (hx0:0<X.length) (hy0:0<Y.length) (hN:X.length+Y.length<=N) (hn:A.length+X.length+Y.length+C.length=n) (hia:ia=(A.length:Int)) (him:im=(A.length:Int)+X.length) (hib:ib=(A.length:Int)+X.length+Y.length) (hX:Srt c X) (hY:Srt c Y):Con prog 301 [.raw (.slice (some ⟨b,off,none⟩) n cap),.int .i64 ia,.int .i64 im,.int .i64 ib,.fn (.func fid) [] caps] [.arr (.slice (some ⟨b,off,none⟩) n cap) 9 ((A++X++Y++C).map zu)] (fun x M'=> ∃Z:List Play,x= .tup []/\(Z.Perm (X++Y)/\Srt c Z)/\M'=[.arr (.slice (some ⟨b,off,none⟩) n cap) 9 ((A++Z++C).map zu)]):=by
 induction N using Nat.strongRecOn generalizing A X Y C ia im ib with
 |ind N ih=>
   exact zoF hca hp hc hx0 hy0 hN hn hia him hib hX hY hl (fun a1 a2 a3 a4 a5 a6 a7 a8 a9=>ih _ a3 a1 a2 (Ae _) a4 a5 a6 a7 a8 a9)
theorem znf [Tracks] {l:List Play} {n0:Int} {n b off cap:Nat} {fid:FuncId} {caps:List HVal} {c:Play->Play->Int} (hca:Callable prog fid) (hp: ∀x y,ConP prog fid ([zu x,zu y]++caps) (.int .i64 (c x y))) (hc:Cmp c fun _=>True) (hn:l.length=n) (hn0:n0=(n:Int)) (hl:n<=1000000):Con prog 243 [.raw (.slice (some ⟨b,off,none⟩) n cap),.int .i64 n0,.fn (.func fid) [] caps] [.arr (.slice (some ⟨b,off,none⟩) n cap) 9 ((l).map zu)] (fun x M'=> ∃Z:List Play,x= .tup []/\(Z.Perm l/\Srt c Z)/\M'=[.arr (.slice (some ⟨b,off,none⟩) n cap) 9 ((Z).map zu)]):=by
 refine uOb func243 ntmps243 ?_;refine zaD ?_;refine uV3 [7,2,11,12] (fun (a0:Nat) (k:Nat) (Z:List Play)=>[(7,.int .i64 (a0:Int)),(8,.int .i64 ((a0+20:Nat):Int))]) (fun (a0:Nat) (k:Nat) (Z:List Play)=>[.arr (.slice (some ⟨b,off,none⟩) n cap) 9 ((Z++l.drop a0).map zu)]) (fun (a0:Nat) (k:Nat) (Z:List Play)=>a0=20*k/\a0<=n/\Blk c 20 Z/\Z.length=a0/\Z.Perm (l.take a0)) (fun (a0:Nat) (k:Nat) (Z:List Play)=>n-a0) (0) (0) ([]) ?_ ?_ ?_ ?_;exact ⟨rfl,Ad _,Blk.nil,rfl,by simp⟩;exact ⟨rfl,rfl,trivial⟩;exact zm (by simp)
 intro a0 k Z hinv
 obtain ⟨ha0,ha1,hZ,hZl,hZp⟩:=hinv;refine gz6 ?_;refine uCo (fun h1=> ?_) fun h2=> ?_
 refine gz3 ?_;refine zf (zP (M':=[.arr (.slice (some ⟨b,off,none⟩) n cap) 9 ((Z++(l.drop a0).take 20++l.drop (a0+20)).map zu)]) (by rw [An Z,<-win])) ?_;refine gz5 ?_;refine de rfl (za (i:=0) zs5 rfl (WeakL.refl _) rfl (zjP (A:=Z) (X:=((l.drop a0).take 20)) (C:=(l.drop (a0+20))) (n:=n) hca hp (by simp;omega) uO (by simp;omega) hl) ?_)
 rintro _ _ ⟨rfl,rfl⟩;refine zcc ?_;exact ⟨a0+20,k+1,Z++zX c ((l.drop a0).take 20),⟨by omega,by omega,hZ.add (k:=k) uO (zbW hc _) (by rw [zay,Ag];omega),by rw [Af,zay,Ag,Au];omega,by rw [zcJ];exact hZp.append (zaU c _)⟩,uD,⟨zg uO,zg uO,trivial⟩,uK,Ab _⟩;refine gz2 ?_;refine zbX ?_;refine gz2 ?_;refine zf (zP (M':=[.arr (.slice (some ⟨b,off,none⟩) n cap) 9 ((Z++l.drop a0++[]).map zu)]) (by simp)) ?_;refine gz5 ?_;refine de rfl (za (i:=0) zs5 rfl (WeakL.refl _) rfl (zjP (A:=Z) (X:=(l.drop a0)) (C:=[]) (n:=n) hca hp (by simp;omega) uO (by simp;omega) hl) ?_)
 rintro _ _ ⟨rfl,rfl⟩;refine gz2 ?_;refine uV2 [6,4,28,35] (fun (bs:Nat) (D:List Play)=>[(6,.int .i64 (bs:Int))]) (fun (bs:Nat) (D:List Play)=>[.arr (.slice (some ⟨b,off,none⟩) n cap) 9 ((D).map zu)]) (fun (bs:Nat) (D:List Play)=>20<=bs/\bs<=2*n+20/\Blk c bs D/\D.Perm l) (fun (bs:Nat) (D:List Play)=>n-bs) (20) (Z++zX c (l.drop a0)) ?_ ?_ ?_ ?_;refine ⟨Ae _,by omega,hZ.add (k:=k) uO (zbW hc _) (by rw [zay,Au];omega),?_⟩
 have:=hZp.append (zaU c (l.drop a0))
 rwa [Am] at this
 exact ⟨rfl,trivial⟩;exact zm (by simp)
 intro bs D hinv
 obtain ⟨hb1,hb2,hD,hDp⟩:=hinv;have hDl:D.length=n:=by rw [hDp.length_eq];exact hn
 refine gz1 ?_
 skip
 refine gz5 ?_;refine uCo (fun h3=> ?_) fun h4=> ?_
 refine gz5 ?_;refine dq (zbP rfl rfl uO uO) ?_;refine gz5 ?_;refine uV3 [7,2,33,16] (fun (a0:Nat) (k:Nat) (Z:List Play)=>[(7,.int .i64 (a0:Int)),(8,.int .i64 ((a0+bs+bs:Nat):Int))]) (fun (a0:Nat) (k:Nat) (Z:List Play)=>[.arr (.slice (some ⟨b,off,none⟩) n cap) 9 ((Z++D.drop a0).map zu)]) (fun (a0:Nat) (k:Nat) (Z:List Play)=>a0=2*bs*k/\a0<=n/\Blk c (bs+bs) Z/\Z.length=a0/\Z.Perm (D.take a0)) (fun (a0:Nat) (k:Nat) (Z:List Play)=>n-a0) (0) (0) ([]) ?_ ?_ ?_ ?_;exact ⟨by simp,Ad _,Blk.nil,rfl,by simp⟩;exact ⟨rfl,zg uO,trivial⟩;exact zm (by simp)
 intro a0 k Z hinv
 obtain ⟨ha0,ha1,hZ,hZl,hZp⟩:=hinv;refine gz6 ?_;refine uCo (fun h5=> ?_) fun h6=> ?_
 refine gz3 ?_;refine zf (zP (M':=[.arr (.slice (some ⟨b,off,none⟩) n cap) 9 ((Z++(D.drop a0).take bs++(D.drop (a0+bs)).take bs++D.drop (a0+bs+bs)).map zu)]) (by rw [An (Z++_),<-win,An Z,<-win])) ?_;refine gz8 ?_;refine de rfl (za (i:=0) zqL rfl (WeakL.refl _) rfl (zkP (A:=Z) (X:=((D.drop a0).take bs)) (Y:=((D.drop (a0+bs)).take bs)) (C:=(D.drop (a0+bs+bs))) (n:=n) hca hp hc hl (by simp;omega) (by simp;omega) (Ae _) (by simp;omega) uO (by simp;omega) (by simp;omega) (hD.at (q:=2*k) (by rw [ha0,A2,AM])) (hD.at (q:=2*k+1) (by rw [ha0,BA,Bm,A2,AM]))) ?_)
 rintro _ _ ⟨Z43,rfl,⟨hz1,hz2⟩,rfl⟩;refine gz8 ?_;refine dq (zbP rfl rfl uO uO) ?_;refine gz4 ?_;refine ⟨a0+bs+bs,k+1,Z++Z43,⟨?_,by omega,hZ.add (k:=k) ?_ hz2 ?_,?_,?_⟩,uD,⟨zg uO,zg uO,trivial⟩,uK,zm (by simp)⟩
 rw [BA,Bm,<-ha0];omega;rw [hZl,ha0,BB];rw [hz1.length_eq];simp only [Af,Ag];omega;rw [Af,hz1.length_eq];simp only [Af,Ag,Au];omega;rw [AG,zcJ];refine hZp.append (hz1.trans ?_)
 rw [zcJ,AN];refine gz2 ?_;refine zbX ?_;refine gz2 ?_;refine uVj [9,1,49,12] (fun (D2:List Play)=>[]) (fun (D2:List Play)=>[.arr (.slice (some ⟨b,off,none⟩) n cap) 9 ((D2).map zu)]) (fun (D2:List Play)=>Blk c (bs+bs) D2/\D2.Perm l) ?_ ?_
 skip
 refine zbo ?_;refine uCo (fun h7=> ?_) fun h8=> ?_
 refine zf (zP (M':=[.arr (.slice (some ⟨b,off,none⟩) n cap) 9 ((Z++(D.drop a0).take bs++D.drop (a0+bs)++[]).map zu)]) (by rw [AW,An Z,<-win])) ?_;refine gz6 ?_;refine de rfl (za (i:=0) zqL rfl (WeakL.refl _) rfl (zkP (A:=Z) (X:=((D.drop a0).take bs)) (Y:=(D.drop (a0+bs))) (C:=[]) (n:=n) hca hp hc hl (by simp;omega) (by simp;omega) (Ae _) (by simp;omega) uO (by simp;omega) (by simp;omega) (hD.at (q:=2*k) (by rw [ha0,A2,AM])) (hD.last (q:=2*k+1) (by rw [ha0,BA,Bm,A2,AM]) uO)) ?_)
 rintro _ _ ⟨Z60,rfl,⟨hz1,hz2⟩,rfl⟩;refine gz1 ?_;refine ⟨Z++Z60,⟨hZ.add (k:=k) ?_ hz2 ?_,?_⟩,trivial,uK,zm (by simp)⟩
 rw [hZl,ha0,BB];rw [hz1.length_eq];simp only [Af,Ag,Au];omega;have h9:=hZp.append hz1;rw [<-win,Am] at h9;exact h9.trans hDp;refine gz1 ?_;refine ⟨Z++D.drop a0,⟨hZ.add (k:=k) ?_ (hD.last (q:=2*k) (by rw [ha0,A2,AM]) uO) ?_,?_⟩,trivial,uK,Ab _⟩
 rw [hZl,ha0,BB];simp only [Au];omega;have h9:=hZp.append_right (D.drop a0);rw [Am] at h9;exact h9.trans hDp
 intro D2 hD2
 refine gz2 ?_;refine dq (zbP rfl rfl uO uO) ?_;refine gz3 ?_;exact ⟨bs+bs,D2,⟨by omega,by omega,hD2.1,hD2.2⟩,uD,⟨zg uO,trivial⟩,uK,Ab _⟩;have hDs:=hD.all uO;refine gz2 ?_;refine zM ?_;refine gz1 ?_;exact zT rfl ⟨D,rfl,⟨hDp,hDs⟩,rfl⟩
theorem zoz [Tracks] {v:Value} {fid:FuncId} {caps:List HVal}:Con prog 300 [.raw v,.int .i64 0,.int .i64 0,.fn (.func fid) [] caps] [.arr v 9 []] (fun x M'=>x= .tup []/\M'=[.arr v 9 []]):=by
 refine uOb func300 ntmps300 ?_;refine gz6 ?_;refine uV1 [8,2,12,41] (fun (u:Unit)=>[(8,.int .i64 1)]) (fun (u:Unit)=>[.arr v 9 []]) (fun (u:Unit)=>True) (fun (u:Unit)=>0) (()) ?_ ?_ ?_ ?_
 ·trivial
 ·exact ⟨rfl,trivial⟩
 ·exact Ab _
 ·intro u hu
  refine gz6 ?_;refine zaf rfl (fun h1=> ?_) (fun h1=> ?_)
  ·exfalso
   try simp at h1
   all_goals omega
  ·try simp at h1
   refine gz2 ?_;refine zp ?_;refine gz1 ?_;exact zT rfl ⟨rfl,rfl⟩
theorem zmt [Tracks] {v:Value} {fid:FuncId} {caps:List HVal}:Con prog 243 [.raw v,.int .i64 0,.fn (.func fid) [] caps] [.arr v 9 []] (fun x M'=>x= .tup []/\M'=[.arr v 9 []]):=by
 refine uOb func243 ntmps243 ?_;refine zaD ?_;refine uV1 [7,2,11,12] (fun (u:Unit)=>[(7,.int .i64 0),(8,.int .i64 20)]) (fun (u:Unit)=>[.arr v 9 []]) (fun (u:Unit)=>True) (fun (u:Unit)=>0) (()) ?_ ?_ ?_ ?_
 ·trivial
 ·exact ⟨rfl,rfl,trivial⟩
 ·exact Ab _
 ·intro u hu
  refine gz6 ?_;refine zaf rfl (fun h1=> ?_) (fun h1=> ?_)
  ·exfalso
   try simp at h1
   all_goals omega
  ·try simp at h1
   refine gz2 ?_;refine zp ?_;refine gz7 ?_;refine de rfl (za (i:=0) zs5 rfl (WeakL.refl _) rfl zoz ?_)
   rintro _ _ ⟨rfl,rfl⟩;refine gz2 ?_;refine uV1 [6,4,28,35] (fun (u:Unit)=>[(6,.int .i64 20)]) (fun (u:Unit)=>[.arr v 9 []]) (fun (u:Unit)=>True) (fun (u:Unit)=>0) (()) ?_ ?_ ?_ ?_
   ·trivial
   ·exact ⟨rfl,trivial⟩
   ·exact Ab _
   ·intro u hu
    refine gz6 ?_;refine zaf rfl (fun h2=> ?_) (fun h2=> ?_)
    ·exfalso
     try simp at h2
     all_goals omega
    ·try simp at h2
     refine gz2 ?_;refine zp ?_;refine gz1 ?_;exact zT rfl ⟨rfl,rfl⟩
theorem zl0 [Tracks] {fid:FuncId} {caps:List HVal}:Con prog 169 [.raw (.slice none 0 0),.fn (.func fid) [] caps] [.arr (.slice none 0 0) 9 []] (fun x M'=>x= .tup []/\M'=[.arr (.slice none 0 0) 9 []]):=by
 refine uOb func169 ntmps169 ?_;refine gz3 ?_;refine dq (zar zaj rfl) ?_;refine gz1 ?_;refine de rfl (za (i:=0) zwh rfl (WeakL.refl _) rfl zmt ?_)
 rintro _ _ ⟨rfl,rfl⟩;refine gz1 ?_;exact zT rfl ⟨rfl,rfl⟩
theorem zl3 [Tracks] {l:List Play} {n b off cap:Nat} {fid:FuncId} {caps:List HVal} {c:Play->Play->Int} (hca:Callable prog fid) (hp: ∀x y,ConP prog fid ([zu x,zu y]++caps) (.int .i64 (c x y))) (hc:Cmp c fun _=>True) (hn:l.length=n) (hl:n<=1000000):Con prog 169 [.raw (.slice (some ⟨b,off,none⟩) n cap),.fn (.func fid) [] caps] [.arr (.slice (some ⟨b,off,none⟩) n cap) 9 ((l).map zu)] (fun x M'=> ∃Z:List Play,x= .tup []/\(Z.Perm l/\Srt c Z)/\M'=[.arr (.slice (some ⟨b,off,none⟩) n cap) 9 ((Z).map zu)]):=by
 refine uOb func169 ntmps169 ?_;refine gz3 ?_;refine dq (zar zaj rfl) ?_;refine gz1 ?_;refine de rfl (za (i:=0) zwh rfl (WeakL.refl _) rfl (znf hca hp hc hn rfl hl) ?_)
 rintro _ _ ⟨Z,rfl,hz,rfl⟩;refine gz1 ?_;exact zT rfl ⟨Z,rfl,hz,rfl⟩
theorem zmq [Tracks] {l:List Play} {v:Value} {fid:FuncId} {caps:List HVal} {c:Play->Play->Int} (hca:Callable prog fid) (hp: ∀x y,ConP prog fid ([zu x,zu y]++caps) (.int .i64 (c x y))) (hc:Cmp c fun _=>True) (hl:l.length<=1000000):Con prog 169 [.raw v,.fn (.func fid) [] caps] [.arr v 9 (l.map zu)] fun x M'=> ∃Z:List Play,x= .tup []/\(Z.Perm l/\Srt c Z)/\M'=[.arr v 9 (Z.map zu)]:=
 zhH (fun h1 h2=>by
  have h3:l=[]:=by first|exact List.map_eq_nil_iff.1 h2|simpa using h2
  subst h1 h3;exact zl0.mono fun x M' ⟨e1,e2⟩=>⟨[],e1,⟨Ab _,Srt.nil⟩,e2⟩)
  fun b off cap h1=>by
   rw [Aj] at h1;subst h1;exact zl3 hca hp hc rfl hl
end
section
open Go.Proofs.Tryz
open Go.HL
theorem zr3 [Tracks] {n:Nat} (hn:n<=1000000):Con prog 242 [.raw (.slice none 0 0),.int .i64 (n:Int)] [] (fun x M'=> ∃u,x= .raw u/\M'=[.arr u 9 []]):=by
 refine uOb func242 ntmps242 ?_;refine gz8 ?_;refine zaf rfl (fun h1=> ?_) (fun h1=> ?_)
 exfalso
 try simp at h1
 omega
 try simp at h1
 refine gz6 ?_;refine dq (zcW zaj rfl) ?_;refine gz1 ?_;refine dq (zar zaj rfl) ?_;refine gz8 ?_;refine uCo (fun h2=> ?_) fun h3=> ?_
 refine gz3 ?_;refine dq (zcW zaj rfl) ?_;refine dq (zik zaj zI rfl rfl) ?_;refine gz1 ?_;refine de rfl (zfI (n:=n) zaj zI ty3 rfl rfl rfl rfl uO uO uO fun b nc cells hnc hnm hcs=> ?_)
 refine gz1 ?_;refine dq (zar zaj rfl) ?_;refine dq (zb5 (h:=0) zaj zI rfl ⟨_,_,rfl,rfl⟩ uO) ?_;refine gz8 ?_;exact zag (zfp hcs hnm) rfl ⟨_,rfl,rfl⟩;refine gz7 ?_;exact zag (zG 9) rfl ⟨_,rfl,rfl⟩
theorem zqw [Tracks] {LL:List (List Play)} (hl:LL.length<=1000) (hs:LL.flatten.length<=100000):zeK prog 168 [.slice 1 (LL.map fun l=>HVal.slice 9 (l.map zu))] 9 (LL.flatten.map zu):=by
 refine uOb func168 ntmps168 ?_;refine gz9 ?_;refine dq (zaq (f:=fun l:List Play=>HVal.slice 9 (l.map zu)) (l:=LL) zpa rfl) ?_;refine gz3 ?_;refine uV1 [3,1,5,1,11,12] (fun (i:Nat)=>[(11,.int .i64 i),(3,.int .i64 ((LL.take i).flatten.length:Int))]) (fun (i:Nat)=>[]) (fun (i:Nat)=>i<=LL.length/\(True)) (fun (i:Nat)=>LL.length-i) (0) ?_ ?_ ?_ ?_;exact ⟨Ad _,trivial⟩;exact ⟨rfl,rfl,trivial⟩;exact Ab _
 intro i hinv
 obtain ⟨hi,-⟩:=hinv;refine gz4 ?_;refine uCo (fun h1=> ?_) fun h2=> ?_
 obtain ⟨x,hx⟩: ∃x,LL[i]? =some x:=⟨_,Aa h1⟩
 have hdx:=zi hx;refine gz5 ?_;refine dq (zl (f:=fun l:List Play=>HVal.slice 9 (l.map zu)) (l:=LL) (j:=i) (a:=x) zpa zaj rfl rfl rfl hx) ?_;refine gz7 ?_;have hfl:=zcl LL (i+1);have hfs:=za2 hx;refine gz7 ?_;refine zaf rfl (fun h3=> ?_) (fun h3=> ?_)
 exfalso
 try simp at h3
 omega
 try simp at h3
 refine gz7 ?_;exact ⟨i+1,⟨by omega,trivial⟩,uD,⟨rfl,zg (by rw [za2 hx];simp),trivial⟩,uK,Ab _⟩;have hni:LL.length<=i:=by omega
 obtain rfl:i=LL.length:=by omega
 refine gz2 ?_;refine zp ?_;refine gz2 ?_;rw [Al];refine gz2 ?_;refine de rfl (zeG (M1:=[]) (R:=[]) zyY rfl (WeakL.refl _) (Ab _) (zr3 (n:=LL.flatten.length) uO) ?_)
 rintro _ _ ⟨u24,rfl,rfl⟩;refine gz5 ?_;refine dq (zaq (f:=fun l:List Play=>HVal.slice 9 (l.map zu)) (l:=LL) zpa rfl) ?_;refine gz3 ?_;refine uV2 [6,1,8,1,27,8] (fun (j:Nat) (u:Value)=>[(27,.int .i64 j),(6,.raw u)]) (fun (j:Nat) (u:Value)=>[.arr u 9 ((LL.take j).flatten.map zu)]) (fun (j:Nat) (u:Value)=>j<=LL.length/\(True)) (fun (j:Nat) (u:Value)=>LL.length-j) (0) (u24) ?_ ?_ ?_ ?_;exact ⟨Ad _,trivial⟩;exact ⟨rfl,rfl,trivial⟩;exact Ab _
 intro j u hinv
 obtain ⟨hj,-⟩:=hinv;refine gz4 ?_;refine uCo (fun h4=> ?_) fun h5=> ?_
 obtain ⟨y,hy⟩: ∃y,LL[j]? =some y:=⟨_,Aa h4⟩
 have hdy:=zi hy;refine gz5 ?_;refine dq (zl (f:=fun l:List Play=>HVal.slice 9 (l.map zu)) (l:=LL) (j:=j) (a:=y) zpa zaj rfl rfl rfl hy) ?_;refine gz6 ?_;refine de rfl (zC (i:=0) zaj zI rfl rfl rfl rfl rfl (by simp [zal,zd]) (by have h1:=zcl LL (j+1);have h2:=za2 hy;simp only [Aj];omega) fun v33=> ?_)
 refine gz8 ?_;exact ⟨j+1,v33,⟨by omega,trivial⟩,uD,⟨rfl,rfl,trivial⟩,uK,zm (by dsimp only;rw [ze2 hy,Ap];rfl)⟩;have hnj:LL.length<=j:=by omega
 obtain rfl:j=LL.length:=by omega
 refine gz2 ?_;refine zM ?_;refine gz7 ?_;refine zdU rfl ?_;rw [Al]
theorem zr6 [Tracks] {c:Play->Play->Int} (hO:Go.Sort.SWO (Go.Proofs.ltOf c)) {g:FuncId} (hg:Callable prog g) {cap:List HVal} (hc: ∀x y, @ConP zda prog g (zu x::zu y::cap) (.int .i64 (c x y))) {l:List Play} (hl:l.length<=1000000) {v:Value}:
 Con prog 191 [.raw v,.fn (.func g) [] cap] [.arr v 9 (l.map zu)] fun x M'=> ∃l':List Play,x= .tup []/\l'.Perm l/\l'.Pairwise (fun a b=> ¬c b a<0)/\M'=[.arr v 9 (l'.map zu)]:=
 zfH (e:=zu) ztK (Tryz.isAgg110) (Tryz.sizeOf110) (fun _=>rfl) (fun _=>rfl) (fun _=>rfl) hO hg hc hl
theorem zgf [Tracks] {l:List Play} {v:Value} (hl:l.length<=1000000):Con prog 170 [.raw v] [.arr v 9 (l.map zu)] (fun x M'=> ∃u,x= .raw u/\M'=[.arr u 9 ((zv none l).map zu)]):=by
 refine uOb func170 ntmps170 ?_;refine gz6 ?_;refine de rfl (zaT (i:=0) zaj rfl rfl ?_)
 refine gz2 ?_;refine uCo (fun h1=> ?_) fun h2=> ?_
 refine gz5 ?_
 (refine zT rfl ⟨_,rfl,?_⟩
  rw [zdx uO])
 refine gz3 ?_;refine zb1 (i:=0) rfl (fun h0 he=> ?_) (fun b off cap hv hcap=> ?_)
 exfalso;have:=congrArg List.length he;simp at this;subst this;simp at h2
 rw [Aj] at hv hcap;subst hv;refine gz4 ?_;refine uV1 [2,4,10,50] (fun (k:Nat)=>[(3,.int .i64 (k:Int))]) (fun (k:Nat)=>[.arr (.slice (some ⟨b,off,none⟩) l.length cap) 9 (l.map zu)]) (fun (k:Nat)=>(1<=k/\k<=l.length)/\zv none (l.take k)=l.take k) (fun (k:Nat)=>l.length-k) (1) ?_ ?_ ?_ ?_;exact ⟨⟨by omega,by omega⟩,zdx (by simp;omega)⟩;exact ⟨rfl,trivial⟩;exact Ab _
 intro k hinv
 obtain ⟨⟨hk1,hk⟩,hu⟩:=hinv;refine gz4 ?_;refine de rfl (zaT (i:=0) zaj rfl rfl ?_)
 refine gz2 ?_;refine uCo (fun h3=> ?_) fun h4=> ?_
 obtain ⟨x,hx⟩: ∃x,l[k]? =some x:=⟨_,Aa uO⟩
 obtain ⟨y,hy⟩: ∃y,l[k-1]? =some y:=⟨_,Aa uO⟩
 refine gz4 ?_;refine zw (fun M=>M=[.arr (.slice (some ⟨b,off,none⟩) l.length cap) 9 (l.map zu)]) [3,8] mixed ?_;refine gz2 ?_;refine uB 2 rfl (ze (j:=k) zaj zI rfl rfl rfl uO) ?_;refine uM 3 rfl rfl (uW (zj (i:=0) (j:=k) zI rfl uO rfl hx rfl rfl rfl ⟨rfl,rfl⟩)) ?_;refine gz3 ?_;refine uB 7 rfl (ze (j:=k-1) zaj zI rfl rfl uO uO) ?_;refine uM 8 rfl rfl (uW (zj (i:=0) (j:=k-1) zI rfl uO rfl hy rfl rfl rfl ⟨rfl,rfl⟩)) ?_;refine uB 9 rfl (zgT zI zqO rfl rfl ⟨rfl,⟨_,_,_,_,ty9,rfl⟩,⟨rfl,⟨_,_,_,_,ty3,rfl⟩,⟨rfl,⟨_,_,_,_,ty3,rfl⟩,⟨rfl,⟨_,_,_,_,ty3,rfl⟩,⟨rfl,⟨_,_,_,_,ty9,rfl⟩,⟨rfl,⟨_,_,_,_,ty9,rfl⟩,⟨rfl,⟨_,_,_,_,ty9,rfl⟩,⟨rfl,⟨_,_,_,_,ty3,rfl⟩,⟨rfl,⟨_,_,_,_,ty3,rfl⟩,trivial⟩⟩⟩⟩⟩⟩⟩⟩⟩) ?_;refine gz1 ?_;refine uCo (fun h5=> ?_) fun h6=> ?_
 have hxy:x=y:=(zfJ _ _).1 (by simpa using h5);obtain ⟨hC0,hU0⟩:=CmpA.start hx hy uO hxy hu;refine gz3 ?_;refine dq (zcf (l:=k) (h:=l.length) zaj zI rfl ⟨_,_,rfl,rfl⟩ rfl uO uO hcap) ?_;refine gz2 ?_;rw [zg6 uO];refine gz5 ?_;refine uV2 [3,1,5,1,29,25] (fun (k2:Nat) (D:List Play)=>[(5,.int .i64 (k2:Int)),(3,.int .i64 ((zv none (l.take (k+k2))).length:Int))]) (fun (k2:Nat) (D:List Play)=>[.arr (.slice (some ⟨b,off,none⟩) l.length cap) 9 (D.map zu)]) (fun (k2:Nat) (D:List Play)=>(1<=k2/\k+k2<=l.length)/\CmpA l (k+k2) D) (fun (k2:Nat) (D:List Play)=>l.length-k2) (1) (l) ?_ ?_ ?_ ?_;exact ⟨⟨by omega,by have:=zo hx;omega⟩,hC0⟩;exact ⟨rfl,zg (by rw [hU0]),trivial⟩;exact Ab _
 intro k2 D hinv
 obtain ⟨⟨hk2,hkk⟩,hD⟩:=hinv;have hlt0:=hD.lt;have hle0:=hD.len;refine gz4 ?_;refine dq (zar zaj rfl) ?_;refine gz2 ?_;refine uCo (fun h7=> ?_) fun h8=> ?_
 obtain ⟨x2,hx2⟩: ∃x,l[k+k2]? =some x:=⟨_,Aa uO⟩
 obtain ⟨y2,hy2⟩: ∃y,l[k+k2-1]? =some y:=⟨_,Aa uO⟩
 have hDx:D[k+k2]? =some x2:=by rw [hD.hi _ uO,hx2]
 have hDy:D[k+k2-1]? =some y2:=by rw [hD.hi _ uO,hy2]
 refine gz4 ?_;refine zw (fun M=>M=[.arr (.slice (some ⟨b,off,none⟩) l.length cap) 9 (D.map zu)]) [3,8] mixed ?_;refine gz2 ?_;refine uB 2 rfl (ze (j:=k2) zaj zI rfl rfl rfl uO) ?_;refine uM 3 rfl rfl (uW (zj (i:=0) (j:=(k+k2)) zI rfl uO rfl hDx rfl rfl rfl ⟨rfl,rfl⟩)) ?_;refine gz3 ?_;refine uB 7 rfl (ze (j:=k2-1) zaj zI rfl rfl uO uO) ?_;refine uM 8 rfl rfl (uW (zj (i:=0) (j:=(k+k2-1)) zI rfl uO rfl hDy rfl rfl rfl ⟨rfl,rfl⟩)) ?_;refine uB 9 rfl (zbQ zI zqO rfl rfl ⟨rfl,⟨_,_,_,_,ty9,rfl⟩,⟨rfl,⟨_,_,_,_,ty3,rfl⟩,⟨rfl,⟨_,_,_,_,ty3,rfl⟩,⟨rfl,⟨_,_,_,_,ty3,rfl⟩,⟨rfl,⟨_,_,_,_,ty9,rfl⟩,⟨rfl,⟨_,_,_,_,ty9,rfl⟩,⟨rfl,⟨_,_,_,_,ty9,rfl⟩,⟨rfl,⟨_,_,_,_,ty3,rfl⟩,⟨rfl,⟨_,_,_,_,ty3,rfl⟩,trivial⟩⟩⟩⟩⟩⟩⟩⟩⟩) ?_;refine gz1 ?_;refine uCo (fun h9=> ?_) fun h10=> ?_
 refine gz5 ?_;refine dq (ze (j:=k2) zaj zI rfl rfl rfl uO) ?_;refine de rfl (zj (i:=0) (j:=(k+k2)) zI rfl uO rfl hDx rfl rfl rfl ?_)
 refine dq (ze (j:=(zv none (l.take (k+k2))).length) zaj zI rfl rfl rfl uO) ?_;refine de0 (zO (i:=0) (j:=(zv none (l.take (k+k2))).length) (y:=D[(zv none (l.take (k+k2))).length]'uO) (y':=x2) zI rfl rfl rfl rfl (Aa _) rfl rfl rfl ?_)
 refine zfL ?_;have hxy:x2≠y2:=fun q=>by have q2:=(zfJ _ _).2 q;simp_all
 obtain ⟨hC1,hU1⟩:=hD.more hx2 hy2 hxy;exact ⟨k2+1,_,⟨⟨by omega,by omega⟩,hC1⟩,uD,⟨rfl,zg (by rw [<-AG,hU1];rfl),trivial⟩,uK,Ab _⟩;refine gz8 ?_;have hxy:x2=y2:=(zfJ _ _).1 (by simpa using h10);obtain ⟨hC1,hU1⟩:=hD.same hx2 hy2 hxy;exact ⟨k2+1,D,⟨⟨by omega,by omega⟩,hC1⟩,uD,⟨rfl,zg (by rw [<-AG,hU1]),trivial⟩,uK,Ab _⟩;have hkl:k+k2=l.length:=by omega
 refine gz2 ?_;refine zM ?_;refine gz5 ?_;refine dq (zcf (l:=(zv none (l.take (k+k2))).length) (h:=l.length) zaj zI rfl ⟨_,_,rfl,rfl⟩ rfl uO uO hcap) ?_;refine de0 (zc3 (i:=0) (m:=(zv none (l.take (k+k2))).length) ((zv none (l.take (k+k2))).length) zaj zI rfl rfl rfl (zfS uO hcap) rfl uO (Ae _) (by rw [Aj,hD.len];omega) ?_)
 refine gz4 ?_;refine dq (zb5 (h:=(zv none (l.take (k+k2))).length) zaj zI rfl ⟨_,_,rfl,rfl⟩ uO) ?_;refine gz3 ?_
 (refine zT rfl ⟨_,rfl,?_⟩
  have hlo:=hD.lo;rw [hkl,Al] at hlo⊢;rw [<-Bq,hlo];rfl)
 refine gz8 ?_;have hxy:x≠y:=fun q=>by have q2:=(zfJ _ _).2 q;simp_all
 exact ⟨k+1,⟨⟨by omega,by omega⟩,by rw [zee hx hy uO,if_neg hxy,hu,zV hx]⟩,uD,⟨rfl,trivial⟩,uK,Ab _⟩;have hkl:k=l.length:=by omega
 rw [hkl,Al] at hu;refine gz2 ?_;refine zp ?_;refine gz7 ?_
 (refine zT rfl ⟨_,rfl,?_⟩
  rw [hu])
theorem zrg [Tracks] {a b:List Play} (ha:a.length<=100) (hb:b.length<=100):ConP prog 76 [zbk a,zbk b] (.tup [zbk (zcR a b),.int .i64 (ze7 a b)]):=by
 refine uOb func76 ntmps76 ?_;refine gz7 ?_;refine dq (uCl ztd rfl (zen (l:=a) uO)) ?_;refine gz1 ?_;refine dq (uCl ztd rfl (zen (l:=b) uO)) ?_;refine dq (zb (hs:=[_,_]) zdr zds rfl rfl (by decide) (by decide) rfl) ?_;refine dq (uCl zlj rfl (zcw (l:=[_,_]) (by simp))) ?_;refine gz6 ?_;refine uCo (fun h1=> ?_) fun h2=> ?_
 refine gz6 ?_;exact zhp rfl (zaX (by rw [zcR,if_pos (by simpa using h1)];exact zbY 9) (by rw [ze7,if_pos (by simpa using h1)];exact Weak.refl _));refine gz2 ?_;obtain ⟨ha0,hb0⟩:=zrJ h2;have hms:=ziP ha0;have hns:=ziP hb0;refine gz3 ?_;refine dq (zb (hs:=[_,_]) zpa zaj rfl rfl (by decide) (by decide) rfl) ?_;refine de rfl (zaA zx6 rfl (WeakL.refl _) (zqw (LL:=[a,b]) (by simp) (by simp;omega)) fun v22=> ?_)
 refine gz4 ?_;refine de rfl (za (i:=0) zx7 rfl (WeakL.refl _) rfl (zmq (l:=[a,b].flatten) (c:=byNo) zsY (fun _ _=>zkj) zgA (by simp;omega)) ?_)
 rintro _ _ ⟨Z,rfl,⟨hz1,hz2⟩,rfl⟩;have hz3:Z.Perm (a++b):=by simpa using hz1
 have hzl:=hz3.length_eq;rw [Af] at hzl;refine gz3 ?_;refine de rfl (za (i:=0) zx8 rfl (WeakL.refl _) rfl (zgf (l:=Z) uO) ?_)
 rintro _ _ ⟨u26,rfl,rfl⟩;refine gz3 ?_;refine zf (zaP 7 (i:=0) rfl rfl) ?_;have hul:=zdw Z none;refine gz4 ?_;refine uV1 [4,2,8,1,27,17] (fun (k:Nat)=>[(8,.int .i64 (k:Int))]) (fun (k:Nat)=>[]) (fun (k:Nat)=>1<=k/\∀(i:Nat) (x y:Play),i+1<k->(zv none Z)[i]? =some x->(zv none Z)[i+1]? =some y->byNo x y≠0) (fun (k:Nat)=>(zv none Z).length-k) (1) ?_ ?_ ?_ ?_;exact ⟨Ae _,fun i x y h=>by omega⟩;exact ⟨rfl,trivial⟩;exact zm rfl
 intro k hinv
 obtain ⟨hk,hadj⟩:=hinv;refine gz4 ?_;refine dq (zaq (f:=zu) (l:=(zv none Z)) zaj rfl) ?_;refine gz2 ?_;refine uCo (fun h3=> ?_) fun h4=> ?_
 obtain ⟨x,hx⟩: ∃x,(zv none Z)[k-1]? =some x:=⟨_,Aa uO⟩
 obtain ⟨y,hy⟩: ∃y,(zv none Z)[k]? =some y:=⟨_,Aa uO⟩
 refine gz4 ?_;refine zw (fun _=>True) [] mixed ?_;refine gz3 ?_;refine uB 3 rfl (zl (j:=k-1) (a:=x) zaj zI rfl rfl uO hx) ?_;refine gz3 ?_;refine uB 7 rfl (zl (j:=k) (a:=y) zaj zI rfl rfl rfl hy) ?_;refine gz1 ?_;refine uB 9 rfl (uCl zsY rfl zkj) ?_;refine gz2 ?_;refine uCo (fun h5=> ?_) fun h6=> ?_
 refine gz5 ?_
 (have hcf:=znY zgA hms hns hz3 hz2 hx (by rw [show k-1+1=k by omega];exact hy) (by assumption)
  exact zhp rfl (zaX (by rw [zcR,if_neg (by simpa using h2),if_pos hcf];exact zbY 9) (by rw [ze7,if_neg (by simpa using h2),if_pos hcf];exact Weak.refl _)))
 refine gz8 ?_;exact ⟨k+1,⟨by omega,fun i x2 y2 h3 h4 h5=>by
  rcases Az (i+1) k with q|q
  exact hadj i x2 y2 q h4 h5;obtain rfl:i=k-1:=by omega
  rw [hx] at h4;rw [show k-1+1=k by omega,hy] at h5;rw [<-Ak h4,<-Ak h5];assumption⟩,uD,⟨rfl,trivial⟩,uK,Ab _⟩
 obtain ⟨hcf,hme⟩:=znX zgA hms hns hz3 hz2 (fun i x y h1 h2=>hadj i x y (by have:=zo h2;omega) h1 h2);refine gz2 ?_;refine zp ?_;refine gz3 ?_;rw [hme];refine gz2 ?_;refine dq (uCl ztd rfl (zen (l:=(zcK byNo a b)) (AA (zgQ _ _ _) uO))) ?_;refine gz6 ?_;refine uCo (fun h7=> ?_) fun h8=> ?_
 refine gz6 ?_
 (have h9:=h7
  exact zhp rfl (zaX (by rw [zcR,if_neg (by simpa using h2),if_neg (by simp [hcf]),if_pos (by simpa using h9)];exact zbY 9) (by rw [ze7,if_neg (by simpa using h2),if_neg (by simp [hcf])];exact Weak.refl _)))
 refine gz8 ?_
 (have h9:zbJ (zcK byNo a b)=0:=by simpa using h8
  refine zx rfl ?_;rw [zcR,ze7,if_neg (by simpa using h2),if_neg (by simp [hcf]),if_neg (by simp [h9]),if_neg (by simpa using h2),if_neg (by simp [hcf]),h9];rfl)
theorem ziG [Tracks] {y x:Play}:ConP prog 190 [zu y,.vptr (zd (zu x)) 0] (.bool (decide (byNo x y=0))):=by
 refine uOb func190 ntmps190 ?_;refine gz7 ?_;refine dq (uCl zs0 rfl zfu) ?_;refine gz4 ?_;refine zx rfl ?_
 show HVal.bool _=_
 rfl
theorem zjE [Tracks] {a b:List Play} (ha:a.length<=100) (hb:b.length<=100) (hms:a.Pairwise fun x y=>byNo x y<0) (hns:b.Pairwise fun x y=>byNo x y<0) (hga: ∀x∈a,zcE x) (hgb: ∀x∈b,zcE x):ConP prog 83 [zbk a,zbk b] (.tup [zbk (mpL a b),.int .i64 (mpE a b)]):=by
 refine uOb func83 ntmps83 ?_;refine gz6 ?_;refine de rfl (zaA zv4 rfl (WeakL.refl _) (zdH (l:=a) uO) fun v12=> ?_)
 refine gz9 ?_;refine uV2 [4,3,8,2,15,22] (fun (k:Nat) (u:Value)=>[(15,.int .i64 k),(6,.raw u)]) (fun (k:Nat) (u:Value)=>[.arr u 9 ((zcZ byNo a (b.take k)).map zu)]) (fun (k:Nat) (u:Value)=>k<=b.length/\(zbC byNo a (b.take k)=false)) (fun (k:Nat) (u:Value)=>b.length-k) (0) (v12) ?_ ?_ ?_ ?_;exact ⟨Ad _,by simp [zbC]⟩;exact ⟨rfl,rfl,trivial⟩;exact zm (by simp [zcZ])
 intro k u hinv
 obtain ⟨hk,hcf⟩:=hinv;refine gz4 ?_;refine uCo (fun h1=> ?_) fun h2=> ?_
 obtain ⟨x,hx⟩: ∃x,b[k]? =some x:=⟨_,Aa h1⟩
 have hdx:=zi hx;refine gz5 ?_;refine dq (zl zaj zI rfl rfl rfl (by assumption)) ?_;refine gz1 ?_;refine de rfl (zq zI rfl fun b8=> ?_)
 refine de0 (zJ zI rfl rfl rfl rfl rfl ?_)
 refine gz1 ?_;refine zf (zA 8 rfl) ?_;refine gz3 ?_;refine dq (uCl zyo rfl (zfC (l:=a) (p:=fun y=>decide (byNo x y=0)) zyp (fun _=>ziG) uO)) ?_;refine gz8 ?_;refine uCo (fun h3=> ?_) fun h4=> ?_
 have hnone:(a.any fun y=>decide (byNo x y=0))=false:=by rw [<-zcu _ a 0 uO];simp;omega
 refine gz3 ?_;refine dq (zb (hs:=[_]) zaj zI rfl rfl (by decide) (by decide) rfl) ?_;refine de rfl (zC (i:=0) zaj zI rfl rfl rfl rfl rfl (by simp [zal,zd]) (by have:=zgy byNo a (b.take k);simp only [Aj,Ao,Aq,Ag] at*;omega) fun v28=> ?_)
 refine gz9 ?_;exact ⟨k+1,v28,⟨by omega,znK hx hnone hcf⟩,uD,⟨rfl,rfl,trivial⟩,uK,zm (by dsimp only;rw [znz hx hnone,Ap];rfl)⟩;obtain ⟨i0,hi0,hil,⟨z,hz,hpz⟩,_⟩:=zf4 (fun y=>decide (byNo x y=0)) a 0 uO uO;rw [Ca] at hi0;have hpz2:byNo x z=0:=by simpa using hpz
 have hzm:=Ac hz;have hany:(a.any fun y=>decide (byNo x y=0))=true:=List.any_eq_true.2 ⟨z,hzm,hpz⟩;refine zw (fun _=>True) [] mixed ?_;refine gz2 ?_;refine uB 2 rfl (zl (j:=i0) (a:=z) zaj zI rfl rfl (by rw [hi0]) hz) ?_;refine gz2 ?_;refine uB 5 rfl (zbQ zI zqO rfl rfl ⟨rfl,⟨_,_,_,_,ty9,rfl⟩,⟨rfl,⟨_,_,_,_,ty3,rfl⟩,⟨rfl,⟨_,_,_,_,ty3,rfl⟩,⟨rfl,⟨_,_,_,_,ty3,rfl⟩,⟨rfl,⟨_,_,_,_,ty9,rfl⟩,⟨rfl,⟨_,_,_,_,ty9,rfl⟩,⟨rfl,⟨_,_,_,_,ty9,rfl⟩,⟨rfl,⟨_,_,_,_,ty3,rfl⟩,⟨rfl,⟨_,_,_,_,ty3,rfl⟩,trivial⟩⟩⟩⟩⟩⟩⟩⟩⟩) ?_;refine gz2 ?_;refine uCo (fun h5=> ?_) fun h6=> ?_
 refine gz5 ?_
 (have hzx:x≠z:=fun q=>by have q2:=(zfJ _ _).2 q.symm;simp_all
  have hc1:=zpt (Ac hx) hzm hpz2 hzx;exact ⟨_,[],Ghost.clear,_,_,rfl,zaX (by rw [mpL,if_pos hc1];exact zbY 9) (by rw [mpE,if_pos hc1];exact Weak.refl _),rfl,rfl⟩)
 refine gz8 ?_;have hzx:z=x:=by
  refine (zfJ _ _).1 ?_
  simp_all
 exact ⟨k+1,u,⟨by omega,znL zgA hms hx hzm hpz2 hzx.symm hcf⟩,uD,⟨rfl,rfl,trivial⟩,uK,zm (by dsimp only;rw [zph hx hany])⟩;have hnk:b.length<=k:=by omega
 obtain rfl:k=b.length:=by omega
 rw [Al] at hcf;rw [Al];refine gz2 ?_;refine zM ?_;refine gz2 ?_;have hal:=zgy byNo a b;refine gz2 ?_;refine de rfl (za (i:=0) zyq rfl (WeakL.refl _) rfl (zr6 (c:=byNo) (zhT zgA) zs0 (fun _ _=> @zfu zda _ _) (l:=zcZ byNo a b) uO) ?_)
 rintro _ _ ⟨l',rfl,hp',hw',rfl⟩;obtain rfl:=zlw zgA hms hns hp' hw';refine gz2 ?_;refine zf (zaP 6 (i:=0) rfl rfl) ?_;refine gz2 ?_;refine dq (uCl ca62 rfl (zgl (l:=(zcK byNo a b)) (AA (zgQ _ _ _) uO) (fun x hx=>(zvh hx).elim (hga x) (hgb x)))) ?_;refine gz6 ?_;refine uCo (fun h7=> ?_) fun h8=> ?_
 refine gz6 ?_
 (refine zhp rfl (zaX ?_ ?_)
  rw [mpL,if_neg (by simp [hcf]),if_pos (by assumption)];exact zbY 9;rw [mpE,if_neg (by simp [hcf])];exact Weak.refl _)
 refine gz8 ?_
 (refine zx rfl ?_
  have h9:zbJ (zcK byNo a b)=0:=by assumption
  rw [mpL,mpE,if_neg (by simp [hcf]),if_neg (by simp [h9]),if_neg (by simp [hcf]),h9];rfl)
end
section
open Go.Proofs.Tryz
open Go.HL
theorem zr1 [Tracks] {n:Nat} (hn:n<=1000000):Con prog 244 [.raw (.slice none 0 0),.int .i64 (n:Int)] [] (fun x M'=> ∃u,x= .raw u/\M'=[.arr u 7 []]):=by
 refine uOb func244 ntmps244 ?_;refine gz8 ?_;refine zaf rfl (fun h1=> ?_) (fun h1=> ?_)
 exfalso
 try simp at h1
 omega
 try simp at h1
 refine gz6 ?_;refine dq (zcW zak rfl) ?_;refine gz1 ?_;refine dq (zar zak rfl) ?_;refine gz8 ?_;refine uCo (fun h2=> ?_) fun h3=> ?_
 refine gz3 ?_;refine dq (zcW zak rfl) ?_;refine dq (zik zak zN rfl rfl) ?_;refine gz1 ?_;refine de rfl (zfI (n:=n) zak zN ty3 rfl rfl rfl rfl uO uO uO fun b nc cells hnc hnm hcs=> ?_)
 refine gz1 ?_;refine dq (zar zak rfl) ?_;refine dq (zb5 (h:=0) zak zN rfl ⟨_,_,rfl,rfl⟩ uO) ?_;refine gz8 ?_;exact zag (zfp hcs hnm) rfl ⟨_,rfl,rfl⟩;refine gz7 ?_;exact zag (zG 7) rfl ⟨_,rfl,rfl⟩
theorem zqv [Tracks] {LL:List (List MendS)} (hl:LL.length<=1000) (hs:LL.flatten.length<=100000):zeK prog 171 [.slice 1 (LL.map fun l=>HVal.slice 7 (l.map zB))] 7 (LL.flatten.map zB):=by
 refine uOb func171 ntmps171 ?_;refine gz9 ?_;refine dq (zaq (f:=fun l:List MendS=>HVal.slice 7 (l.map zB)) (l:=LL) zpb rfl) ?_;refine gz3 ?_;refine uV1 [3,1,5,1,11,12] (fun (i:Nat)=>[(11,.int .i64 i),(3,.int .i64 ((LL.take i).flatten.length:Int))]) (fun (i:Nat)=>[]) (fun (i:Nat)=>i<=LL.length/\(True)) (fun (i:Nat)=>LL.length-i) (0) ?_ ?_ ?_ ?_;exact ⟨Ad _,trivial⟩;exact ⟨rfl,rfl,trivial⟩;exact Ab _
 intro i hinv
 obtain ⟨hi,-⟩:=hinv;refine gz4 ?_;refine uCo (fun h1=> ?_) fun h2=> ?_
 obtain ⟨x,hx⟩: ∃x,LL[i]? =some x:=⟨_,Aa h1⟩
 have hdx:=zi hx;refine gz5 ?_;refine dq (zl (f:=fun l:List MendS=>HVal.slice 7 (l.map zB)) (l:=LL) (j:=i) (a:=x) zpb zak rfl rfl rfl hx) ?_;refine gz7 ?_;have hfl:=zcl LL (i+1);have hfs:=za2 hx;refine gz7 ?_;refine zaf rfl (fun h3=> ?_) (fun h3=> ?_)
 exfalso
 try simp at h3
 omega
 try simp at h3
 refine gz7 ?_;exact ⟨i+1,⟨by omega,trivial⟩,uD,⟨rfl,zg (by rw [za2 hx];simp),trivial⟩,uK,Ab _⟩;have hni:LL.length<=i:=by omega
 obtain rfl:i=LL.length:=by omega
 refine gz2 ?_;refine zp ?_;refine gz2 ?_;rw [Al];refine gz2 ?_;refine de rfl (zeG (M1:=[]) (R:=[]) zyZ rfl (WeakL.refl _) (Ab _) (zr1 (n:=LL.flatten.length) uO) ?_)
 rintro _ _ ⟨u24,rfl,rfl⟩;refine gz5 ?_;refine dq (zaq (f:=fun l:List MendS=>HVal.slice 7 (l.map zB)) (l:=LL) zpb rfl) ?_;refine gz3 ?_;refine uV2 [6,1,8,1,27,8] (fun (j:Nat) (u:Value)=>[(27,.int .i64 j),(6,.raw u)]) (fun (j:Nat) (u:Value)=>[.arr u 7 ((LL.take j).flatten.map zB)]) (fun (j:Nat) (u:Value)=>j<=LL.length/\(True)) (fun (j:Nat) (u:Value)=>LL.length-j) (0) (u24) ?_ ?_ ?_ ?_;exact ⟨Ad _,trivial⟩;exact ⟨rfl,rfl,trivial⟩;exact Ab _
 intro j u hinv
 obtain ⟨hj,-⟩:=hinv;refine gz4 ?_;refine uCo (fun h4=> ?_) fun h5=> ?_
 obtain ⟨y,hy⟩: ∃y,LL[j]? =some y:=⟨_,Aa h4⟩
 have hdy:=zi hy;refine gz5 ?_;refine dq (zl (f:=fun l:List MendS=>HVal.slice 7 (l.map zB)) (l:=LL) (j:=j) (a:=y) zpb zak rfl rfl rfl hy) ?_;refine gz6 ?_;refine de rfl (zC (i:=0) zak zN rfl rfl rfl rfl rfl (by simp [zal,zd]) (by have h1:=zcl LL (j+1);have h2:=za2 hy;simp only [Aj];omega) fun v33=> ?_)
 refine gz8 ?_;exact ⟨j+1,v33,⟨by omega,trivial⟩,uD,⟨rfl,rfl,trivial⟩,uK,zm (by dsimp only;rw [ze2 hy,Ap];rfl)⟩;have hnj:LL.length<=j:=by omega
 obtain rfl:j=LL.length:=by omega
 refine gz2 ?_;refine zM ?_;refine gz7 ?_;refine zdU rfl ?_;rw [Al]
theorem zr4 [Tracks] {c:MendS->MendS->Int} (hO:Go.Sort.SWO (Go.Proofs.ltOf c)) {g:FuncId} (hg:Callable prog g) {cap:List HVal} (hc: ∀x y, @ConP zda prog g (zB x::zB y::cap) (.int .i64 (c x y))) {l:List MendS} (hl:l.length<=1000000) {v:Value}:
 Con prog 194 [.raw v,.fn (.func g) [] cap] [.arr v 7 (l.map zB)] fun x M'=> ∃l':List MendS,x= .tup []/\l'.Perm l/\l'.Pairwise (fun a b=> ¬c b a<0)/\M'=[.arr v 7 (l'.map zB)]:=
 zfH (e:=zB) ztL (Tryz.isAgg114) (Tryz.sizeOf114) (fun _=>rfl) (fun _=>rfl) (fun _=>rfl) hO hg hc hl
theorem zge [Tracks] {l:List MendS} {v:Value} (hl:l.length<=1000000):Con prog 173 [.raw v] [.arr v 7 (l.map zB)] (fun x M'=> ∃u,x= .raw u/\M'=[.arr u 7 ((zv none l).map zB)]):=by
 refine uOb func173 ntmps173 ?_;refine gz6 ?_;refine de rfl (zaT (i:=0) zak rfl rfl ?_)
 refine gz2 ?_;refine uCo (fun h1=> ?_) fun h2=> ?_
 refine gz5 ?_
 (refine zT rfl ⟨_,rfl,?_⟩
  rw [zdx uO])
 refine gz3 ?_;refine zb1 (i:=0) rfl (fun h0 he=> ?_) (fun b off cap hv hcap=> ?_)
 exfalso;have:=congrArg List.length he;simp at this;subst this;simp at h2
 rw [Aj] at hv hcap;subst hv;refine gz4 ?_;refine uV1 [2,4,10,50] (fun (k:Nat)=>[(3,.int .i64 (k:Int))]) (fun (k:Nat)=>[.arr (.slice (some ⟨b,off,none⟩) l.length cap) 7 (l.map zB)]) (fun (k:Nat)=>(1<=k/\k<=l.length)/\zv none (l.take k)=l.take k) (fun (k:Nat)=>l.length-k) (1) ?_ ?_ ?_ ?_;exact ⟨⟨by omega,by omega⟩,zdx (by simp;omega)⟩;exact ⟨rfl,trivial⟩;exact Ab _
 intro k hinv
 obtain ⟨⟨hk1,hk⟩,hu⟩:=hinv;refine gz4 ?_;refine de rfl (zaT (i:=0) zak rfl rfl ?_)
 refine gz2 ?_;refine uCo (fun h3=> ?_) fun h4=> ?_
 obtain ⟨x,hx⟩: ∃x,l[k]? =some x:=⟨_,Aa uO⟩
 obtain ⟨y,hy⟩: ∃y,l[k-1]? =some y:=⟨_,Aa uO⟩
 refine gz4 ?_;refine zw (fun M=>M=[.arr (.slice (some ⟨b,off,none⟩) l.length cap) 7 (l.map zB)]) [3,8] mixed ?_;refine gz2 ?_;refine uB 2 rfl (ze (j:=k) zak zN rfl rfl rfl uO) ?_;refine uM 3 rfl rfl (uW (zj (i:=0) (j:=k) zN rfl uO rfl hx rfl rfl rfl ⟨rfl,rfl⟩)) ?_;refine gz3 ?_;refine uB 7 rfl (ze (j:=k-1) zak zN rfl rfl uO uO) ?_;refine uM 8 rfl rfl (uW (zj (i:=0) (j:=k-1) zN rfl uO rfl hy rfl rfl rfl ⟨rfl,rfl⟩)) ?_;refine uB 9 rfl (zgT zN zqP rfl rfl ⟨rfl,⟨_,_,_,_,ty9,rfl⟩,⟨rfl,⟨_,_,_,_,ty3,rfl⟩,⟨rfl,⟨_,_,_,_,ty9,rfl⟩,⟨rfl,⟨_,_,_,_,ty3,rfl⟩,⟨rfl,⟨_,_,_,_,ty3,rfl⟩,⟨rfl,⟨_,_,_,_,ty3,rfl⟩,⟨rfl,⟨_,_,_,_,ty9,rfl⟩,trivial⟩⟩⟩⟩⟩⟩⟩) ?_;refine gz1 ?_;refine uCo (fun h5=> ?_) fun h6=> ?_
 have hxy:x=y:=(zeI _ _).1 (by simpa using h5);obtain ⟨hC0,hU0⟩:=CmpA.start hx hy uO hxy hu;refine gz3 ?_;refine dq (zcf (l:=k) (h:=l.length) zak zN rfl ⟨_,_,rfl,rfl⟩ rfl uO uO hcap) ?_;refine gz2 ?_;rw [zg6 uO];refine gz5 ?_;refine uV2 [3,1,5,1,29,25] (fun (k2:Nat) (D:List MendS)=>[(5,.int .i64 (k2:Int)),(3,.int .i64 ((zv none (l.take (k+k2))).length:Int))]) (fun (k2:Nat) (D:List MendS)=>[.arr (.slice (some ⟨b,off,none⟩) l.length cap) 7 (D.map zB)]) (fun (k2:Nat) (D:List MendS)=>(1<=k2/\k+k2<=l.length)/\CmpA l (k+k2) D) (fun (k2:Nat) (D:List MendS)=>l.length-k2) (1) (l) ?_ ?_ ?_ ?_;exact ⟨⟨by omega,by have:=zo hx;omega⟩,hC0⟩;exact ⟨rfl,zg (by rw [hU0]),trivial⟩;exact Ab _
 intro k2 D hinv
 obtain ⟨⟨hk2,hkk⟩,hD⟩:=hinv;have hlt0:=hD.lt;have hle0:=hD.len;refine gz4 ?_;refine dq (zar zak rfl) ?_;refine gz2 ?_;refine uCo (fun h7=> ?_) fun h8=> ?_
 obtain ⟨x2,hx2⟩: ∃x,l[k+k2]? =some x:=⟨_,Aa uO⟩
 obtain ⟨y2,hy2⟩: ∃y,l[k+k2-1]? =some y:=⟨_,Aa uO⟩
 have hDx:D[k+k2]? =some x2:=by rw [hD.hi _ uO,hx2]
 have hDy:D[k+k2-1]? =some y2:=by rw [hD.hi _ uO,hy2]
 refine gz4 ?_;refine zw (fun M=>M=[.arr (.slice (some ⟨b,off,none⟩) l.length cap) 7 (D.map zB)]) [3,8] mixed ?_;refine gz2 ?_;refine uB 2 rfl (ze (j:=k2) zak zN rfl rfl rfl uO) ?_;refine uM 3 rfl rfl (uW (zj (i:=0) (j:=(k+k2)) zN rfl uO rfl hDx rfl rfl rfl ⟨rfl,rfl⟩)) ?_;refine gz3 ?_;refine uB 7 rfl (ze (j:=k2-1) zak zN rfl rfl uO uO) ?_;refine uM 8 rfl rfl (uW (zj (i:=0) (j:=(k+k2-1)) zN rfl uO rfl hDy rfl rfl rfl ⟨rfl,rfl⟩)) ?_;refine uB 9 rfl (zbQ zN zqP rfl rfl ⟨rfl,⟨_,_,_,_,ty9,rfl⟩,⟨rfl,⟨_,_,_,_,ty3,rfl⟩,⟨rfl,⟨_,_,_,_,ty9,rfl⟩,⟨rfl,⟨_,_,_,_,ty3,rfl⟩,⟨rfl,⟨_,_,_,_,ty3,rfl⟩,⟨rfl,⟨_,_,_,_,ty3,rfl⟩,⟨rfl,⟨_,_,_,_,ty9,rfl⟩,trivial⟩⟩⟩⟩⟩⟩⟩) ?_;refine gz1 ?_;refine uCo (fun h9=> ?_) fun h10=> ?_
 refine gz5 ?_;refine dq (ze (j:=k2) zak zN rfl rfl rfl uO) ?_;refine de rfl (zj (i:=0) (j:=(k+k2)) zN rfl uO rfl hDx rfl rfl rfl ?_)
 refine dq (ze (j:=(zv none (l.take (k+k2))).length) zak zN rfl rfl rfl uO) ?_;refine de0 (zO (i:=0) (j:=(zv none (l.take (k+k2))).length) (y:=D[(zv none (l.take (k+k2))).length]'uO) (y':=x2) zN rfl rfl rfl rfl (Aa _) rfl rfl rfl ?_)
 refine zfL ?_;have hxy:x2≠y2:=fun q=>by have q2:=(zeI _ _).2 q;simp_all
 obtain ⟨hC1,hU1⟩:=hD.more hx2 hy2 hxy;exact ⟨k2+1,_,⟨⟨by omega,by omega⟩,hC1⟩,uD,⟨rfl,zg (by rw [<-AG,hU1];rfl),trivial⟩,uK,Ab _⟩;refine gz8 ?_;have hxy:x2=y2:=(zeI _ _).1 (by simpa using h10);obtain ⟨hC1,hU1⟩:=hD.same hx2 hy2 hxy;exact ⟨k2+1,D,⟨⟨by omega,by omega⟩,hC1⟩,uD,⟨rfl,zg (by rw [<-AG,hU1]),trivial⟩,uK,Ab _⟩;have hkl:k+k2=l.length:=by omega
 refine gz2 ?_;refine zM ?_;refine gz5 ?_;refine dq (zcf (l:=(zv none (l.take (k+k2))).length) (h:=l.length) zak zN rfl ⟨_,_,rfl,rfl⟩ rfl uO uO hcap) ?_;refine de0 (zc3 (i:=0) (m:=(zv none (l.take (k+k2))).length) ((zv none (l.take (k+k2))).length) zak zN rfl rfl rfl (zfS uO hcap) rfl uO (Ae _) (by rw [Aj,hD.len];omega) ?_)
 refine gz4 ?_;refine dq (zb5 (h:=(zv none (l.take (k+k2))).length) zak zN rfl ⟨_,_,rfl,rfl⟩ uO) ?_;refine gz3 ?_
 (refine zT rfl ⟨_,rfl,?_⟩
  have hlo:=hD.lo;rw [hkl,Al] at hlo⊢;rw [<-Bq,hlo];rfl)
 refine gz8 ?_;have hxy:x≠y:=fun q=>by have q2:=(zeI _ _).2 q;simp_all
 exact ⟨k+1,⟨⟨by omega,by omega⟩,by rw [zee hx hy uO,if_neg hxy,hu,zV hx]⟩,uD,⟨rfl,trivial⟩,uK,Ab _⟩;have hkl:k=l.length:=by omega
 rw [hkl,Al] at hu;refine gz2 ?_;refine zp ?_;refine gz7 ?_
 (refine zT rfl ⟨_,rfl,?_⟩
  rw [hu])
theorem zfB [Tracks] {l:List MendS} {fid:FuncId} {caps:List HVal} {p:MendS->Bool} (hca:Callable prog fid) (hp: ∀x,ConP prog fid ([zB x]++caps) (.bool (p x))) (hl:l.length<=1000000):ConP prog 192 [.slice 7 (l.map zB),.fn (.func fid) [] caps] (.int .i64 (zap p l 0)):=by
 refine uOb func192 ntmps192 ?_;refine zaD ?_;refine uV1 [4,2,8,11] (fun (k:Nat)=>[(8,.int .i64 k)]) (fun (k:Nat)=>[]) (fun (k:Nat)=>k<=l.length/\(zap p l 0=zap p (l.drop k) k)) (fun (k:Nat)=>l.length-k) (0) ?_ ?_ ?_ ?_;exact ⟨Ad _,rfl⟩;exact ⟨rfl,trivial⟩;exact Ab _
 intro k hinv
 obtain ⟨hk,hg⟩:=hinv;refine gz4 ?_;refine uCo (fun h1=> ?_) fun h2=> ?_
 obtain ⟨x,hx⟩: ∃x,l[k]? =some x:=⟨_,Aa h1⟩
 have hdx:=zi hx;rw [hdx] at hg;refine zcc ?_;refine dq (zl zak zN rfl rfl rfl (by assumption)) ?_;refine gz1 ?_;refine dq (z7 hca rfl rfl (WeakL.refl _) (hp _)) ?_;refine gz1 ?_;refine uCo (fun h3=> ?_) fun h4=> ?_
 refine gz5 ?_;refine uRp ?_
 (rw [hg];simp_all [zap])
 refine gz7 ?_;refine ⟨k+1,?_,?_,⟨rfl,trivial⟩,uK,Ab _⟩
 refine ⟨by omega,?_⟩
 rw [hg,zap,if_neg (by simp_all)];rfl
 dsimp only;omega
 have hnk:l.length<=k:=by omega
 obtain rfl:k=l.length:=by omega
 rw [zz (Ae _)] at hg;refine gz2 ?_;refine zp ?_;refine gz6 ?_;refine uRp ?_
 (rw [hg];rfl)
theorem zna [Tracks] {m n:List MendS} (hm:m.length<=100) (hn:n.length<=100):ConP prog 77 [zbj m,zbj n] (.tup [zbj (zd3 m n),.int .i64 (zg9 m n)]):=by
 refine uOb func77 ntmps77 ?_;refine gz7 ?_;refine dq (uCl zuR rfl (zgc (m:=m) uO)) ?_;refine gz1 ?_;refine dq (uCl zuR rfl (zgc (m:=n) uO)) ?_;refine dq (zb (hs:=[_,_]) zdr zds rfl rfl (by decide) (by decide) rfl) ?_;refine dq (uCl zlj rfl (zcw (l:=[_,_]) (by simp))) ?_;refine gz6 ?_;refine uCo (fun h1=> ?_) fun h2=> ?_
 refine gz6 ?_;exact zhp rfl (zaX (by rw [zd3,if_pos (by simpa using h1)];exact zbY 7) (by rw [zg9,if_pos (by simpa using h1)];exact Weak.refl _));refine gz2 ?_;obtain ⟨hm0,hn0⟩:=zrJ h2;obtain ⟨_,_,hms⟩:=zqh hm0;obtain ⟨_,_,hns⟩:=zqh hn0;refine gz3 ?_;refine dq (zb (hs:=[_,_]) zpb zak rfl rfl (by decide) (by decide) rfl) ?_;refine de rfl (zaA zx9 rfl (WeakL.refl _) (zqv (LL:=[m,n]) (by simp) (by simp;omega)) fun v21=> ?_)
 refine gz4 ?_;refine de rfl (za (i:=0) zya rfl (WeakL.refl _) rfl (zmo (l:=[m,n].flatten) (c:=zaI) zsZ (fun _ _=>zgF) zcG (by simp;omega)) ?_)
 rintro _ _ ⟨Z,rfl,⟨hz1,hz2⟩,rfl⟩;have hz3:Z.Perm (m++n):=by simpa using hz1
 have hzl:=hz3.length_eq;rw [Af] at hzl;refine gz3 ?_;refine de rfl (za (i:=0) zyb rfl (WeakL.refl _) rfl (zge (l:=Z) uO) ?_)
 rintro _ _ ⟨u25,rfl,rfl⟩;refine gz3 ?_;refine zf (zaP 7 (i:=0) rfl rfl) ?_;have hul:=zdw Z none;refine gz4 ?_;refine uV1 [4,2,8,1,26,17] (fun (k:Nat)=>[(8,.int .i64 (k:Int))]) (fun (k:Nat)=>[]) (fun (k:Nat)=>1<=k/\∀(i:Nat) (x y:MendS),i+1<k->(zv none Z)[i]? =some x->(zv none Z)[i+1]? =some y->zaI x y≠0) (fun (k:Nat)=>(zv none Z).length-k) (1) ?_ ?_ ?_ ?_;exact ⟨Ae _,fun i x y h=>by omega⟩;exact ⟨rfl,trivial⟩;exact zm rfl
 intro k hinv
 obtain ⟨hk,hadj⟩:=hinv;refine gz4 ?_;refine dq (zaq (f:=zB) (l:=(zv none Z)) zak rfl) ?_;refine gz2 ?_;refine uCo (fun h3=> ?_) fun h4=> ?_
 obtain ⟨x,hx⟩: ∃x,(zv none Z)[k-1]? =some x:=⟨_,Aa uO⟩
 obtain ⟨y,hy⟩: ∃y,(zv none Z)[k]? =some y:=⟨_,Aa uO⟩
 refine gz4 ?_;refine zw (fun _=>True) [] mixed ?_;refine gz3 ?_;refine uB 3 rfl (zl (j:=k-1) (a:=x) zak zN rfl rfl uO hx) ?_;refine gz3 ?_;refine uB 7 rfl (zl (j:=k) (a:=y) zak zN rfl rfl rfl hy) ?_;refine gz1 ?_;refine uB 9 rfl (uCl zsZ rfl zgF) ?_;refine gz2 ?_;refine uCo (fun h5=> ?_) fun h6=> ?_
 refine gz5 ?_
 (have hcf:=znY zcG hms hns hz3 hz2 hx (by rw [show k-1+1=k by omega];exact hy) (by assumption)
  exact zhp rfl (zaX (by rw [zd3,if_neg (by simpa using h2),if_pos hcf];exact zbY 7) (by rw [zg9,if_neg (by simpa using h2),if_pos hcf];exact Weak.refl _)))
 refine gz8 ?_;exact ⟨k+1,⟨by omega,fun i x2 y2 h3 h4 h5=>by
  rcases Az (i+1) k with q|q
  exact hadj i x2 y2 q h4 h5;obtain rfl:i=k-1:=by omega
  rw [hx] at h4;rw [show k-1+1=k by omega,hy] at h5;rw [<-Ak h4,<-Ak h5];assumption⟩,uD,⟨rfl,trivial⟩,uK,Ab _⟩
 obtain ⟨hcf,hme⟩:=znX zcG hms hns hz3 hz2 (fun i x y h1 h2=>hadj i x y (by have:=zo h2;omega) h1 h2);refine gz2 ?_;refine zp ?_;refine gz5 ?_;refine dq (zaq (f:=zB) (l:=(zv none Z)) zak rfl) ?_;refine gz2 ?_;refine zaf rfl (fun h7=> ?_) (fun h7=> ?_)
 exfalso
 try simp at h7
 omega
 try simp at h7
 refine gz8 ?_
 (refine zx rfl ?_
  rw [zd3,zg9,if_neg (by simpa using h2),if_neg (by simp [hcf]),if_neg (by simpa using h2),if_neg (by simp [hcf]),hme];rfl)
theorem ziF [Tracks] {y x:MendS}:ConP prog 193 [zB y,.vptr (zd (zB x)) 0] (.bool (decide (zaI x y=0))):=by
 refine uOb func193 ntmps193 ?_;refine gz7 ?_;refine dq (uCl zs2 rfl zft) ?_;refine gz4 ?_;refine zx rfl ?_
 show HVal.bool _=_
 rfl
theorem zjD [Tracks] {m n:List MendS} (hm:m.length<=100) (hn:n.length<=100) (hms:m.Pairwise fun x y=>zaI x y<0) (hns:n.Pairwise fun x y=>zaI x y<0):ConP prog 84 [zbj m,zbj n] (.tup [zbj (if zbC zaI m n then [] else zcK zaI m n),.int .i64 (if zbC zaI m n then 13 else 0)]):=by
 refine uOb func84 ntmps84 ?_;refine gz6 ?_;refine de rfl (zaA zv5 rfl (WeakL.refl _) (zdG (l:=m) uO) fun v11=> ?_)
 refine gz9 ?_;refine uV2 [4,3,8,2,14,22] (fun (k:Nat) (u:Value)=>[(14,.int .i64 k),(6,.raw u)]) (fun (k:Nat) (u:Value)=>[.arr u 7 ((zcZ zaI m (n.take k)).map zB)]) (fun (k:Nat) (u:Value)=>k<=n.length/\(zbC zaI m (n.take k)=false)) (fun (k:Nat) (u:Value)=>n.length-k) (0) (v11) ?_ ?_ ?_ ?_;exact ⟨Ad _,by simp [zbC]⟩;exact ⟨rfl,rfl,trivial⟩;exact zm (by simp [zcZ])
 intro k u hinv
 obtain ⟨hk,hcf⟩:=hinv;refine gz4 ?_;refine uCo (fun h1=> ?_) fun h2=> ?_
 obtain ⟨x,hx⟩: ∃x,n[k]? =some x:=⟨_,Aa h1⟩
 have hdx:=zi hx;refine gz5 ?_;refine dq (zl zak zN rfl rfl rfl (by assumption)) ?_;refine gz1 ?_;refine de rfl (zq zN rfl fun b8=> ?_)
 refine de0 (zJ zN rfl rfl rfl rfl rfl ?_)
 refine gz1 ?_;refine zf (zA 8 rfl) ?_;refine gz3 ?_;refine dq (uCl zyr rfl (zfB (l:=m) (p:=fun y=>decide (zaI x y=0)) zys (fun _=>ziF) uO)) ?_;refine gz8 ?_;refine uCo (fun h3=> ?_) fun h4=> ?_
 have hnone:(m.any fun y=>decide (zaI x y=0))=false:=by rw [<-zcu _ m 0 uO];simp;omega
 refine gz3 ?_;refine dq (zb (hs:=[_]) zak zN rfl rfl (by decide) (by decide) rfl) ?_;refine de rfl (zC (i:=0) zak zN rfl rfl rfl rfl rfl (by simp [zal,zd]) (by have:=zgy zaI m (n.take k);simp only [Aj,Ao,Aq,Ag] at*;omega) fun v27=> ?_)
 refine gz9 ?_;exact ⟨k+1,v27,⟨by omega,znK hx hnone hcf⟩,uD,⟨rfl,rfl,trivial⟩,uK,zm (by dsimp only;rw [znz hx hnone,Ap];rfl)⟩;obtain ⟨i0,hi0,hil,⟨z,hz,hpz⟩,_⟩:=zf4 (fun y=>decide (zaI x y=0)) m 0 uO uO;rw [Ca] at hi0;have hpz2:zaI x z=0:=by simpa using hpz
 have hzm:=Ac hz;have hany:(m.any fun y=>decide (zaI x y=0))=true:=List.any_eq_true.2 ⟨z,hzm,hpz⟩;refine zw (fun _=>True) [] mixed ?_;refine gz2 ?_;refine uB 2 rfl (zl (j:=i0) (a:=z) zak zN rfl rfl (by rw [hi0]) hz) ?_;refine gz2 ?_;refine uB 5 rfl (zbQ zN zqP rfl rfl ⟨rfl,⟨_,_,_,_,ty9,rfl⟩,⟨rfl,⟨_,_,_,_,ty3,rfl⟩,⟨rfl,⟨_,_,_,_,ty9,rfl⟩,⟨rfl,⟨_,_,_,_,ty3,rfl⟩,⟨rfl,⟨_,_,_,_,ty3,rfl⟩,⟨rfl,⟨_,_,_,_,ty3,rfl⟩,⟨rfl,⟨_,_,_,_,ty9,rfl⟩,trivial⟩⟩⟩⟩⟩⟩⟩) ?_;refine gz2 ?_;refine uCo (fun h5=> ?_) fun h6=> ?_
 refine gz5 ?_
 (have hzx:x≠z:=fun q=>by have q2:=(zeI _ _).2 q.symm;simp_all
  have hc1:=zpt (Ac hx) hzm hpz2 hzx;exact ⟨_,[],Ghost.clear,_,_,rfl,zaX (by rw [if_pos hc1];focus first|done|exact zbY 7) (by rw [if_pos hc1];focus first|done|exact Weak.refl _),rfl,rfl⟩)
 refine gz8 ?_;have hzx:z=x:=by
  refine (zeI _ _).1 ?_
  simp_all
 exact ⟨k+1,u,⟨by omega,znL zcG hms hx hzm hpz2 hzx.symm hcf⟩,uD,⟨rfl,rfl,trivial⟩,uK,zm (by dsimp only;rw [zph hx hany])⟩;have hnk:n.length<=k:=by omega
 obtain rfl:k=n.length:=by omega
 rw [Al] at hcf;rw [Al];refine gz2 ?_;refine zM ?_;refine gz3 ?_;have hal:=zgy zaI m n;refine gz2 ?_;refine de rfl (zaT (i:=0) (es:=(zcZ zaI m n)) zak rfl rfl ?_)
 refine gz2 ?_;refine zaf rfl (fun h7=> ?_) (fun h7=> ?_)
 exfalso
 try simp at h7
 omega
 try simp at h7
 refine gz4 ?_;refine de rfl (za (i:=0) zyt rfl (WeakL.refl _) rfl (zr4 (c:=zaI) (zhT zcG) zs2 (fun _ _=> @zft zda _ _) (l:=zcZ zaI m n) uO) ?_)
 rintro _ _ ⟨l',rfl,hp',hw',rfl⟩;obtain rfl:=zlw zcG hms hns hp' hw';refine gz7 ?_
 (refine zut (M:=[]) 4 rfl rfl ?_
  rw [if_neg (by simp [hcf]),if_neg (by simp [hcf])];rfl)
end
end Go.Proofs.YtbbpommdmnjfmaaGreatDoor
namespace Go.HL
section
open Go
variable {P:Program} {e:Env} {dst:Option Tmp} {ty:TypeId} {pos:String} {af:Array Edge} {g:Option (Nat×Bool)}
theorem zuq [Tracks] {x:Operand} {t el:TypeId} {n:Nat} {d:TD} {s1 by' b2:Nat} {z z2:Value} {cs:List HVal} (hf:Fits P t (.arr n el) s1 by' z) (hel:Fits P el d 1 b2 z2) (hx:zn e x=some (.vptr cs 0)) (hn:cs.length=n) (h1: ∀c∈cs,(zd c).length=1) (h2: ∀c∈cs,zd c=[c]):
 POp P e ⟨dst,.slice t x none none none,ty,pos,af,g⟩ (.slice 1 cs):=
 zL fun I a w ho=>by
  obtain ⟨b,base,rc,tl,fr,h3,h4,h5,h6⟩:=(ho.one (x:=x) (by simp [Op.operands]) hx).vptr_inv';have ht:=hf.arrD;subst hn;have hb:=zhr (P:=P) (lo:=none) (hi:=none) (l:=0) (h:=cs.length) (len:=cs.length) (cap:=cs.length) ho (by intro y hy;cases hy) (by intro y hy;cases hy) rfl rfl (Ad _) (Ae _) (Ae _) false w;have hv:V I (.slice 1 cs) (.slice (some ⟨b,base,none⟩) cs.length cs.length):=by
   refine V.slice h4 h1 (Ae _) (by omega) (fun i j e' c v q1 q2 q3=> ?_)
   have he:=h2 e' (Ac q1);rw [he] at q2
   cases j with
   |zero=>
     simp at q2;subst q2
     exact h6 i _ v q1 (by simpa using q3)
   |succ j=>simp at q2
  refine ⟨_,?_,hv⟩
  simp only [BV] at hb;simp only [execOp,Instr.sliceAt,BV];rw [h3]
  simp [Sem.run_bind,run_underlying ht,hb,hel.run_sizeOf,Instr.sureAddr]
  intro _;rfl
end
end Go.HL
namespace Go.Proofs.YtbbpommdmnjfmaaGreatDoor
set_option maxRecDepth 100000
set_option linter.unusedVariables false
set_option linter.unusedSimpArgs false
section
open Go.Proofs.Tryz
open Go.HL
theorem zpl [Tracks] {a b:BookS} (hT:Tracks.on=false) (ha:BookC a) (hb:BookC b):ConP prog 17 [zan a,zan b] (.tup [zan (zpg a b),.int .i64 (zq2 a b)]):=by
 have la1:=ha.l1;have la2:=ha.l2;have la3:=ha.l3;have la4:=ha.l4;have la5:=ha.l5;have lb1:=hb.l1;have lb2:=hb.l2;have lb3:=hb.l3;have lb4:=hb.l4;have lb5:=hb.l5;refine zbU func17 rfl ntmps17 rfl rfl ?_;refine gz3 ?_;refine de rfl (zq zaz rfl fun b4=> ?_)
 refine gz3 ?_;refine zw (fun _=>True) [] mixed ?_;refine uB 0 rfl (zad (h:=zan a) zaz rfl rfl rfl rfl) ?_;refine uB 1 rfl (uCl ca8 rfl (zfw (b:=a) hT ha.bb ha.hw)) ?_;refine uB 2 rfl (zad (h:=zan b) zaz rfl rfl rfl rfl) ?_;refine uB 3 rfl (uCl ca8 rfl (zfw (b:=b) hT hb.bb hb.hw)) ?_;refine uB 4 rfl (zb (hs:=[_,_]) zdr zds rfl rfl (by decide) (by decide) rfl) ?_;refine uB 5 rfl (uCl zlj rfl (zcw (l:=[_,_]) (by simp))) ?_;refine gz6 ?_;refine uCo (fun h1=> ?_) fun h2=> ?_
 ·refine gz1 ?_;refine dq (zas (cs:=[_,_,_,_,_,_,_,_,_,_,_,_,_,_,_,_,_,_,_]) zaz zn2 rfl) ?_;refine gz1 ?_;refine de0 (uY 0 ?_)
  refine gz3 ?_;exact ⟨_,_,zA 4 rfl,[_,_],_,⟨⟨_,_,_,_,_,rfl,zaz,.inr ⟨rfl,rfl,rfl⟩⟩,⟨rfl,trivial⟩⟩,zaX (by rw [(zm0 h1).2];exact zcX) (by rw [(zm0 h1).1];exact Weak.refl _),rfl,rfl⟩
 ·refine gz3 ?_;obtain ⟨hza,hzb⟩:=zrJ h2;have hra:=zfX hza;have hrb:=zfX hzb;have hms:=ziK hra.cho;have hns:=ziK hrb.cho;have h55:=zrH hra hrb;refine gz2 ?_;refine dq (zae (h':=zaE a.League) (zaB zax rfl rfl (Ah rfl)) rfl) ?_;refine gz1 ?_;refine dq (zae (h':=zaE b.League) (zaB zax rfl rfl (Ah rfl)) rfl) ?_;refine dq (uCl ca74 rfl (zlV (a:=a.League) (b:=b.League) ha.bb.lea)) ?_;refine gz2 ?_;refine uCo (fun h3=> ?_) fun h4=> ?_
  ·refine gz1 ?_;refine dq (zas (cs:=[_,_,_,_,_,_,_,_,_,_,_,_,_,_,_,_,_,_,_]) zaz zn2 rfl) ?_;refine de0 (uY 0 ?_)
   refine gz3 ?_;exact ⟨_,_,zA 4 rfl,[_,_],_,⟨⟨_,_,_,_,_,rfl,zaz,.inr ⟨rfl,rfl,rfl⟩⟩,⟨rfl,trivial⟩⟩,zaX (by rw [(zii h2).2,(zih h3).2];exact zcX) (by rw [(zii h2).1,(zih h3).1];exact Weak.refl _),rfl,rfl⟩
  ·refine gz4 ?_;refine dq (zae (h':=zaE a.League) (zaB zax rfl rfl (Ah rfl)) rfl) ?_;refine dq (zas (cs:=[_,_,_,_,_,_,_,_,_,_,_,_,_,_,_,_,_,_,_]) zaz zn2 rfl) ?_;refine de rfl (zq zaz rfl fun b7=> ?_)
   refine de0 (uY 0 ?_)
   refine gz2 ?_;refine de rfl (zq zlG rfl fun b8=> ?_)
   refine gz6 ?_;refine dq (uCl ca75 rfl (zpo (a:=a.Moves) (b:=b.Moves) uO uO)) ?_;refine gz4 ?_;refine de0 (uY 1 ?_)
   refine dq (zeA (j:=0) zlG zds rfl rfl rfl uO) ?_;refine de0 (uY 0 ?_)
   refine gz6 ?_;refine dq (uCl ca76 rfl (zrg (a:=a.Plays) (b:=b.Plays) uO uO)) ?_;refine gz4 ?_;refine de0 (uY 1 ?_)
   refine dq (zeA (j:=1) zlG zds rfl rfl rfl uO) ?_;refine de0 (uY 0 ?_)
   refine gz6 ?_;refine dq (uCl ca77 rfl (zna (m:=a.Mends) (n:=b.Mends) uO uO)) ?_;refine gz4 ?_;refine de0 (uY 1 ?_)
   refine dq (zeA (j:=2) zlG zds rfl rfl rfl uO) ?_;refine de0 (uY 0 ?_)
   refine gz9 ?_;refine dq (uCl ca78 rfl (zk7 (L:=a.League.Players) (a:=a.Health) (b:=b.Health) hT ha.bb.lea.pl ha.bb.lea.nm ha.bb.lea.po uO uO ha.hw hb.hw)) ?_;refine gz4 ?_;refine de0 (uY 1 ?_)
   refine dq (zeA (j:=3) zlG zds rfl rfl rfl uO) ?_;refine de0 (uY 0 ?_)
   refine gz6 ?_;refine dq (uCl ca79 rfl (zkE (a:=a.Choices) (b:=b.Choices) uO uO ha.bb.cp hb.bb.cp hms hns)) ?_;refine gz4 ?_;refine de0 (uY 1 ?_)
   refine dq (zeA (j:=4) zlG zds rfl rfl rfl uO) ?_;refine de0 (uY 0 ?_)
   refine gz2 ?_;refine zf (zca 8 (i:=0) rfl rfl) ?_;refine gz1 ?_;refine dq (zuq (cs:=[.int .i64 (MvE a.Moves b.Moves),.int .i64 (ze7 a.Plays b.Plays),.int .i64 (zg9 a.Mends b.Mends),.int .i64 (zjr a.League.Players a.Health b.Health),.int .i64 (zgO a.Choices b.Choices)]) zlG zds rfl rfl (by intro c hc;simp at hc;rcases hc with rfl|rfl|rfl|rfl|rfl<;>rfl) (by intro c hc;simp at hc;rcases hc with rfl|rfl|rfl|rfl|rfl<;>rfl)) ?_;refine dq (uCl zlj rfl (zcw (l:=[MvE a.Moves b.Moves,ze7 a.Plays b.Plays,zg9 a.Mends b.Mends,zjr a.League.Players a.Health b.Health,zgO a.Choices b.Choices]) (by simp))) ?_;refine gz6 ?_;refine uCo (fun h5=> ?_) fun h6=> ?_
   ·refine gz1 ?_;refine dq (zas (cs:=[_,_,_,_,_,_,_,_,_,_,_,_,_,_,_,_,_,_,_]) zaz zn2 rfl) ?_;refine gz1 ?_;refine de0 (uY 1 ?_)
    refine gz3 ?_;exact ⟨_,_,Ghost.drop.trans (zA 4 rfl),[_,_],_,⟨⟨_,_,_,_,_,rfl,zaz,.inr ⟨rfl,rfl,rfl⟩⟩,⟨rfl,trivial⟩⟩,zaX (by rw [(zii h2).2,(zm1 h4 (by rw [<-h55];exact h5)).2];exact zcX) (by rw [(zii h2).1,(zm1 h4 (by rw [<-h55];exact h5)).1,<-h55];exact Weak.refl _),rfl,rfl⟩
   ·refine gz2 ?_;refine zf (Ghost.perm (List.Perm.swap _ _ _)) ?_;refine gz1 ?_;refine de rfl (zbO (i:=1) (h:=zan ⟨a.League,MvL a.Moves b.Moves,zcR a.Plays b.Plays,zd3 a.Mends b.Mends,zhJ a.League.Players a.Health b.Health,zex a.Choices b.Choices⟩) zaz rfl rfl rfl rfl rfl ?_)
    refine dq (uCl ca80 rfl (zm7 (b:=⟨a.League,MvL a.Moves b.Moves,zcR a.Plays b.Plays,zd3 a.Mends b.Mends,zhJ a.League.Players a.Health b.Health,zex a.Choices b.Choices⟩) (zuk ha hb))) ?_;refine de0 (zJ (h:=zan ⟨a.League,MvL a.Moves b.Moves,zcR a.Plays b.Plays,zd3 a.Mends b.Mends,zhJ a.League.Players a.Health b.Health,zex a.Choices b.Choices⟩) zaz rfl rfl rfl rfl rfl ?_)
    refine gz3 ?_;exact ⟨_,_,(Ghost.perm (List.Perm.swap _ _ _)).trans (Ghost.drop.trans (zA 4 rfl)),[_,_],_,⟨⟨_,_,_,_,_,rfl,zaz,.inr ⟨rfl,rfl,rfl⟩⟩,⟨rfl,trivial⟩⟩,zaX (by rw [(zii h2).2,<-zrG hra hrb h4 (by rw [<-h55];exact h6)];exact Weak.refl _) (by rw [(zii h2).1,zn0 h4 (by rw [<-h55];exact h6)];exact Weak.refl _),rfl,rfl⟩
end
section
open Go.Proofs.Tryz
open Go.HL
theorem zjC [Tracks] {a b:BookS} (ha:BookC a) (hb:BookC b) (hra:BookR a) (hrb:BookR b):ConP prog 18 [zan a,zan b] (.tup [zan (zfj a b),.int .i64 (zgR a b)]):=by
 have la1:=ha.l1;have la2:=ha.l2;have la3:=ha.l3;have la4:=ha.l4;have la5:=ha.l5;have lb1:=hb.l1;have lb2:=hb.l2;have lb3:=hb.l3;have lb4:=hb.l4;have lb5:=hb.l5;have hps:=ziP hra.pla;have hqs:=ziP hrb.pla;have hmm:=zoO hra.men;have hnn:=zoO hrb.men;have hms:=ziK hra.cho;have hns:=ziK hrb.cho;refine zbU func18 rfl ntmps18 rfl rfl ?_;refine gz3 ?_;refine de rfl (zq zaz rfl fun b4=> ?_)
 refine gz3 ?_;refine dq (zas (cs:=[_,_,_,_,_,_,_,_,_,_,_,_,_,_,_,_,_,_,_]) zaz zn2 rfl) ?_;refine de rfl (zq zaz rfl fun b6=> ?_)
 refine de0 (uY 0 ?_)
 refine gz4 ?_;refine dq (zae (h':=zaE a.League) (zaB zax rfl rfl (Ah rfl)) rfl) ?_;refine gz1 ?_;refine dq (zae (h':=zaE b.League) (zaB zax rfl rfl (Ah rfl)) rfl) ?_;refine dq (uCl ca81 rfl (zgn (a:=a.League) (b:=b.League) ha.bb.lea)) ?_;refine gz2 ?_;refine uCo (fun h1=> ?_) fun h2=> ?_
 refine gz1 ?_;refine de rfl (zbO (i:=0) (h:=(.agg [.raw (.slice none 0 0),.raw (.slice none 0 0),.raw (.slice none 0 0),.raw (.slice none 0 0),.raw (.slice none 0 0),.int .i64 0,.int .i64 0,.int .i64 0,.int .i64 0,.raw (.slice none 0 0),.raw (.slice none 0 0),.raw (.slice none 0 0),.raw (.slice none 0 0),.int .i64 0,.raw (.slice none 0 0),.raw (.slice none 0 0),.raw (.slice none 0 0),.raw (.slice none 0 0),.raw (.slice none 0 0)])) zaz rfl rfl rfl rfl rfl ?_)
 refine de0 (uY 1 ?_)
 refine gz3 ?_;exact ⟨_,_,Ghost.drop.trans (zA 4 rfl),[_,_],_,⟨⟨_,_,_,_,_,rfl,zaz,.inr ⟨rfl,rfl,rfl⟩⟩,⟨rfl,trivial⟩⟩,zaX (by rw [(zih h1).2];exact zcX) (by rw [(zih h1).1];exact Weak.refl _),rfl,rfl⟩;refine gz7 ?_;refine dq (uCl ca82 rfl (zlS (a:=a.Moves) (b:=b.Moves) uO uO ha.mb hb.mb)) ?_;refine zbo ?_;refine uCo (fun h3=> ?_) fun h4=> ?_
 refine gz1 ?_;refine de rfl (zbO (i:=0) (h:=(.agg [.raw (.slice none 0 0),.raw (.slice none 0 0),.raw (.slice none 0 0),.raw (.slice none 0 0),.raw (.slice none 0 0),.int .i64 0,.int .i64 0,.int .i64 0,.int .i64 0,.raw (.slice none 0 0),.raw (.slice none 0 0),.raw (.slice none 0 0),.raw (.slice none 0 0),.int .i64 0,.raw (.slice none 0 0),.raw (.slice none 0 0),.raw (.slice none 0 0),.raw (.slice none 0 0),.raw (.slice none 0 0)])) zaz rfl rfl rfl rfl rfl ?_)
 refine gz1 ?_;refine de0 (uY 1 ?_)
 refine gz3 ?_;exact ⟨_,_,Ghost.drop.trans (zA 4 rfl),[_,_],_,⟨⟨_,_,_,_,_,rfl,zaz,.inr ⟨rfl,rfl,rfl⟩⟩,⟨rfl,trivial⟩⟩,zaX (by rw [(zeh (f:=ziv a.Moves b.Moves) h2 (by simp [h3]) (by rw [zdf];simp [h3])).2];exact zcX) (by rw [(zeh (f:=ziv a.Moves b.Moves) h2 (by simp [h3]) (by rw [zdf];simp [h3])).1];exact Weak.refl _),rfl,rfl⟩;refine gz7 ?_;refine dq (uCl ca83 rfl (zjE (a:=a.Plays) (b:=b.Plays) uO uO hps hqs ha.pg hb.pg)) ?_;refine zbo ?_;refine uCo (fun h5=> ?_) fun h6=> ?_
 refine gz1 ?_;refine de rfl (zbO (i:=0) (h:=(.agg [.raw (.slice none 0 0),.raw (.slice none 0 0),.raw (.slice none 0 0),.raw (.slice none 0 0),.raw (.slice none 0 0),.int .i64 0,.int .i64 0,.int .i64 0,.int .i64 0,.raw (.slice none 0 0),.raw (.slice none 0 0),.raw (.slice none 0 0),.raw (.slice none 0 0),.int .i64 0,.raw (.slice none 0 0),.raw (.slice none 0 0),.raw (.slice none 0 0),.raw (.slice none 0 0),.raw (.slice none 0 0)])) zaz rfl rfl rfl rfl rfl ?_)
 refine gz1 ?_;refine de0 (uY 1 ?_)
 refine gz3 ?_;exact ⟨_,_,Ghost.drop.trans (zA 4 rfl),[_,_],_,⟨⟨_,_,_,_,_,rfl,zaz,.inr ⟨rfl,rfl,rfl⟩⟩,⟨rfl,trivial⟩⟩,zaX (by rw [(zeh (f:=mpE a.Plays b.Plays) h2 (by simp [h5]) (by rw [zdf];simp [h4,h5])).2];exact zcX) (by rw [(zeh (f:=mpE a.Plays b.Plays) h2 (by simp [h5]) (by rw [zdf];simp [h4,h5])).1];exact Weak.refl _),rfl,rfl⟩;refine gz7 ?_;refine dq (uCl ca84 rfl (zjD (m:=a.Mends) (n:=b.Mends) uO uO hmm hnn)) ?_;refine zbo ?_;refine uCo (fun h7=> ?_) fun h8=> ?_
 refine gz1 ?_;refine de rfl (zbO (i:=0) (h:=(.agg [.raw (.slice none 0 0),.raw (.slice none 0 0),.raw (.slice none 0 0),.raw (.slice none 0 0),.raw (.slice none 0 0),.int .i64 0,.int .i64 0,.int .i64 0,.int .i64 0,.raw (.slice none 0 0),.raw (.slice none 0 0),.raw (.slice none 0 0),.raw (.slice none 0 0),.int .i64 0,.raw (.slice none 0 0),.raw (.slice none 0 0),.raw (.slice none 0 0),.raw (.slice none 0 0),.raw (.slice none 0 0)])) zaz rfl rfl rfl rfl rfl ?_)
 refine gz1 ?_;refine de0 (uY 1 ?_)
 refine gz3 ?_;exact ⟨_,_,Ghost.drop.trans (zA 4 rfl),[_,_],_,⟨⟨_,_,_,_,_,rfl,zaz,.inr ⟨rfl,rfl,rfl⟩⟩,⟨rfl,trivial⟩⟩,zaX (by rw [(zeh (f:=if zbC zaI a.Mends b.Mends=true then (13:Int) else 0) h2 (by simp [h7]) (by rw [zdf];simp [h4,h6,h7])).2];exact zcX) (by rw [(zeh (f:=if zbC zaI a.Mends b.Mends=true then (13:Int) else 0) h2 (by simp [h7]) (by rw [zdf];simp [h4,h6,h7])).1];exact Weak.refl _),rfl,rfl⟩;refine zaD ?_;refine de rfl (zeG (M1:=[]) (R:=[_,_]) ca85 rfl (WeakL.refl _) (Ab _) (zj9 (L:=a.League.Players) (a:=a.Health) (b:=b.Health) ha.bb.lea.pl uO uO ha.hw hb.hw hra.hea (by rw [zuu h2];exact hrb.hea)) ?_)
 rintro _ _ ⟨Z,⟨rfl,hZ⟩,rfl⟩;refine zbo ?_;refine uCo (fun h9=> ?_) fun h10=> ?_
 refine gz1 ?_;refine de rfl (zbO (i:=0) (h:=(.agg [.raw (.slice none 0 0),.raw (.slice none 0 0),.raw (.slice none 0 0),.raw (.slice none 0 0),.raw (.slice none 0 0),.int .i64 0,.int .i64 0,.int .i64 0,.int .i64 0,.raw (.slice none 0 0),.raw (.slice none 0 0),.raw (.slice none 0 0),.raw (.slice none 0 0),.int .i64 0,.raw (.slice none 0 0),.raw (.slice none 0 0),.raw (.slice none 0 0),.raw (.slice none 0 0),.raw (.slice none 0 0)])) zaz rfl rfl rfl rfl rfl ?_)
 refine gz1 ?_;refine de0 (uY 1 ?_)
 refine gz3 ?_;exact ⟨_,_,Ghost.drop.trans (zA 4 rfl),[_,_],_,⟨⟨_,_,_,_,_,rfl,zaz,.inr ⟨rfl,rfl,rfl⟩⟩,⟨rfl,trivial⟩⟩,zaX (by rw [(zeh (f:=zcd a.League.Players (zcm a.Health b.Health)) h2 (by simp [h9]) (by rw [zdf];simp [h4,h6,h8,h9])).2];exact zcX) (by rw [(zeh (f:=zcd a.League.Players (zcm a.Health b.Health)) h2 (by simp [h9]) (by rw [zdf];simp [h4,h6,h8,h9])).1];exact Weak.refl _),rfl,rfl⟩;refine gz7 ?_;refine dq (uCl ca86 rfl (zjF (a:=a.Choices) (b:=b.Choices) uO uO ha.bb.cp hms hns)) ?_;refine zbo ?_;refine uCo (fun h11=> ?_) fun h12=> ?_
 refine gz1 ?_;refine de rfl (zbO (i:=0) (h:=(.agg [.raw (.slice none 0 0),.raw (.slice none 0 0),.raw (.slice none 0 0),.raw (.slice none 0 0),.raw (.slice none 0 0),.int .i64 0,.int .i64 0,.int .i64 0,.int .i64 0,.raw (.slice none 0 0),.raw (.slice none 0 0),.raw (.slice none 0 0),.raw (.slice none 0 0),.int .i64 0,.raw (.slice none 0 0),.raw (.slice none 0 0),.raw (.slice none 0 0),.raw (.slice none 0 0),.raw (.slice none 0 0)])) zaz rfl rfl rfl rfl rfl ?_)
 refine gz1 ?_;refine de0 (uY 1 ?_)
 refine gz3 ?_;exact ⟨_,_,Ghost.drop.trans (zA 4 rfl),[_,_],_,⟨⟨_,_,_,_,_,rfl,zaz,.inr ⟨rfl,rfl,rfl⟩⟩,⟨rfl,trivial⟩⟩,zaX (by rw [(zeh (f:=zgO a.Choices b.Choices) h2 (by simp [h11]) (by rw [zdf];simp [h4,h6,h8,h10,h11])).2];exact zcX) (by rw [(zeh (f:=zgO a.Choices b.Choices) h2 (by simp [h11]) (by rw [zdf];simp [h4,h6,h8,h10,h11])).1];exact Weak.refl _),rfl,rfl⟩;refine gz4 ?_;refine dq (zae (h':=zaE a.League) (zaB zax rfl rfl (Ah rfl)) rfl) ?_;refine gz5 ?_;refine dq (zas (cs:=[_,_,_,_,_,_,_,_,_,_,_,_,_,_,_,_,_,_,_]) zaz zn2 rfl) ?_;refine de0 (uY 1 ?_)
 refine gz3 ?_;exact ⟨_,_,Ghost.drop.trans (zA 4 rfl),[_,_],_,⟨⟨_,_,_,_,_,rfl,zaz,.inr ⟨rfl,rfl,rfl⟩⟩,⟨rfl,trivial⟩⟩,zaX (by rw [zvj h2 (by rw [zdf];simp [h4,h6,h8,h10,h12]),hZ h10];exact Weak.refl _) (by rw [zn0 h2 (by rw [zdf];simp [h4,h6,h8,h10,h12])];exact Weak.refl _),rfl,rfl⟩
end
section
open Go.Proofs.Tryz
open Go.HL
theorem zxc [Tracks]:Weak (.agg [.raw (.slice none 0 0),.raw (.slice none 0 0),.raw (.slice none 0 0),.raw (.slice none 0 0),.slice 2 [.agg [.str [115,97],.slice 1 [.str [103,107]]]],.int .i64 3,.int .i64 0,.int .i64 5,.int .i64 0,.slice 1 [.str [116,97],.str [116,98]],.raw (.slice none 0 0),.raw (.slice none 0 0),.raw (.slice none 0 0),.int .i64 0]) (zaE g0L):=by
 refine zrZ rfl fun j h h' h1 h2=> ?_
 match j,h1,h2 with
 |0,h1,h2|1,h1,h2|2,h1,h2|3,h1,h2|10,h1,h2|11,h1,h2|12,h1,h2=>cases h1;cases h2;exact zbY _
 |4,h1,h2|5,h1,h2|6,h1,h2|7,h1,h2|8,h1,h2|9,h1,h2|13,h1,h2=>cases h1;cases h2;exact Weak.refl _
 |n+14,h1,h2=>cases h1
theorem zwD [Tracks]:(HVal.tup [.int .i64 (if zbe g0L≠0 then 0 else if zau 604800000=false then 0 else zbK g0L 604800000),.bool (if zbe g0L≠0 then false else if zau 604800000=false then false else decide (0<zbK g0L 604800000)),.int .i64 (if zbe g0L≠0 then zbe g0L else if zau 604800000=false then 1 else 0)])= .tup [.int .i64 2,.bool true,.int .i64 0]:=by
 rw [g0_E,g0_M,g0_W];rfl
theorem zi9 [Tracks] (hT:Tracks.on=false):ConP prog 20 [] (.bool true):=by
 refine uOb func20 ntmps20 ?_;refine gz4 ?_;refine dq (zb (hs:=[_]) zH ty9 rfl rfl (by decide) (by decide) rfl) ?_;refine dq (zas (cs:=[_,_]) zbE ztv rfl) ?_;refine dq (zb (hs:=[_]) zcn zbE rfl rfl (by decide) (by decide) rfl) ?_;refine dq (zas (cs:=[_,_,_,_]) zgj pl32 rfl) ?_;refine dq (zb (hs:=[_,_]) zH ty9 rfl rfl (by decide) (by decide) rfl) ?_;refine dq (zzI zax zju) ?_;refine de rfl (zq zax rfl fun b1=> ?_)
 refine de0 (zJ zax rfl rfl rfl rfl rfl ?_)
 refine gz1 ?_;refine zf (zA 1 rfl) ?_;refine gz1 ?_;refine dq (zad (h:= .agg [.raw (.slice none 0 0),.raw (.slice none 0 0),.raw (.slice none 0 0),.raw (.slice none 0 0),.slice 2 [.agg [.str [115,97],.slice 1 [.str [103,107]]]],.int .i64 3,.int .i64 0,.int .i64 5,.int .i64 0,.slice 1 [.str [116,97],.str [116,98]],.raw (.slice none 0 0),.raw (.slice none 0 0),.raw (.slice none 0 0),.int .i64 0]) zax rfl rfl rfl rfl) ?_;refine dq (zae (h':= .tup [.int .i64 2,.bool true,.int .i64 0]) (zcT (hs':=[zaE g0L,.int .i64 604800000]) ca10 rfl ⟨zxc,Weak.refl _,trivial⟩ (zjQ (g:=g0L) (a:=604800000) hT g0_b)) zwD) ?_;refine gz21 ?_;refine zx rfl ?_
 rfl
theorem zfr [Tracks] {l:List Int} (hT:Tracks.on=false):ConP prog 3 [.slice 1 (l.map (.int .i64))] (.bool true):=by
 refine uOb func3 ntmps3 ?_;refine gz5 ?_;refine dq (zas (cs:=[_,_]) ty25 pl25 rfl) ?_;refine de rfl (zpv rfl rfl fun b=> ?_)
 refine zxg (M':=[St b l 0]) rfl ?_;refine gz4 ?_;refine de rfl (za (i:=0) ca4 rfl (WeakL.refl _) rfl (zej uS) ?_)
 rintro _ _ ⟨k21,a21,rfl,hk21,ha21,rfl⟩;refine gz1 ?_;refine de rfl (za (i:=0) ca5 rfl (WeakL.refl _) rfl (zhx uS) ?_)
 rintro _ _ ⟨y23,rfl,hy23,rfl⟩;refine de rfl (zq zaz rfl fun b4=> ?_)
 refine de0 (zJ zaz rfl rfl rfl rfl rfl ?_)
 refine gz2 ?_;refine zf (zA 4 rfl) ?_;have hcb:=hk21.c;refine gz2 ?_;refine dq (zae (h':=zaE k21.League) (zaB zax rfl rfl (Ah rfl)) rfl) ?_;refine dq (uCl ca6 rfl (zf8 (g:=k21.League) hT hcb.bb.lea hcb.gw hcb.tr)) ?_;refine gz3 ?_;refine zw (fun _=>True) [] mixed ?_;refine gz1 ?_;refine uB 1 rfl (zae (h':=zaE k21.League) (zaB zax rfl rfl (Ah rfl)) rfl) ?_;refine uB 2 rfl (uCl ca7 rfl (zeM (g:=k21.League) hT hcb.bb.lea)) ?_;refine gz3 ?_;refine ahg 6 rfl rfl (by kernel_rfl) (by kernel_rfl) rfl (fun hc=>⟨_,OpenTo.refl _,zad (h:=zan k21) zaz rfl rfl rfl rfl⟩) ?_;refine ahg 7 rfl rfl (by kernel_rfl) (by kernel_rfl) rfl (fun hc=>⟨_,OpenTo.upd (t:=33) rfl (hc) (OpenTo.refl _),uCl ca8 rfl (zfw (b:=k21) hT hcb.bb hcb.hw)⟩) ?_;refine ahg 8 rfl rfl (by kernel_rfl) (by kernel_rfl) rfl (fun hc=>⟨_,OpenTo.refl _,zad (h:=zan k21) zaz rfl rfl rfl rfl⟩) ?_;refine ahg 9 rfl rfl (by kernel_rfl) (by kernel_rfl) rfl (fun hc=>⟨_,OpenTo.upd (t:=35) rfl (hc) (OpenTo.refl _),uCl ca9 rfl (zet (b:=k21) hT hcb)⟩) ?_;refine gz3 ?_;refine zaf rfl (fun h1=> ?_) (fun h1=> ?_)
 ·exfalso
  try simp at h1
  done
 ·try simp at h1
  refine gz4 ?_;refine dq (zae (h':=zaE k21.League) (zaB zax rfl rfl (Ah rfl)) rfl) ?_;refine gz1 ?_;refine dq (zae (h':= .tup [.int .i64 (wkN k21.League y23),.bool (decide (0<wkN k21.League y23)),.int .i64 (wkE k21.League y23)]) (uCl ca10 rfl (zjQ (g:=k21.League) (a:=y23) hT hcb.bb.lea)) (zxF _ _)) ?_;refine zbo ?_;refine dq (uCl zrj rfl zb8) ?_;refine dq (zb (hs:=[_,_]) zdr zds rfl rfl (by decide) (by decide) rfl) ?_;refine dq (zae (h':= .int .i64 (wkE k21.League y23)) (uCl zri rfl (zc1 (l:=[_,_]) (by simp))) (congrArg _ (zzK _ _))) ?_;refine gz3 ?_;refine uVj [11,1,52,6] (fun (z:Unit)=>[(11,.int .i64 (wkN k21.League y23))]) (fun (z:Unit)=>[St b l (a21+1+1)]) (fun (z:Unit)=>True) ?_ ?_
  ·skip
   refine gz4 ?_;refine uCo (fun h2=> ?_) fun h3=> ?_
   ·refine gz2 ?_;refine dq (zae (h':=zaE k21.League) (zaB zax rfl rfl (Ah rfl)) rfl) ?_;refine gz1 ?_;refine dq (uCl ca13 rfl (zmf (g:=k21.League) (a:=y23) hcb.bb.lea.sta)) ?_;refine gz2 ?_;exact ⟨(),trivial,⟨congrArg (fun z=>some (HVal.int .i64 z)) (zxG (by assumption)),trivial⟩,uK,Ab _⟩
   ·refine gz1 ?_;exact ⟨(),trivial,⟨congrArg (fun z=>some (HVal.int .i64 z)) (zzJ (by assumption)),trivial⟩,uK,Ab _⟩
  ·intro z _
   refine zrx ?_;refine dg rfl rfl (fun hc=>⟨_,OpenTo.upd (t:=69) rfl (hc) (OpenTo.upd (t:=67) rfl (hc) (OpenTo.refl _)),zrO ty4 rfl rfl⟩) ?_;refine gz2 ?_;refine zaf rfl (fun h4=> ?_) (fun h4=> ?_)
   ·exfalso
    try simp at h4
    done
   ·try simp at h4
    refine gz4 ?_;refine dq (zad (h:=zan k21) zaz rfl rfl rfl rfl) ?_;refine de rfl (za (i:=0) ca14 rfl (WeakL.refl _) rfl (zhw uS uS) ?_)
    rintro _ _ ⟨c75,d75,a75,rfl,hk75,ha75,rfl⟩;refine gz3 ?_;refine de rfl (zq zaz rfl fun b12=> ?_)
    refine de rfl (zq zaz rfl fun b13=> ?_)
    refine de0 (uY 1 ?_)
    refine de0 (uY 0 ?_)
    refine gz1 ?_;refine zf (zca 12 (i:=1) rfl rfl) ?_;refine zf (Ghost.perm (M':=[St b l a75,.cells b13 (zd (zan d75))]) uP) ?_;refine uVj [78,4] (fun (q:BookS×Nat)=>[]) (fun (q:BookS×Nat)=>[St b l q.2,.cells b13 (zd (zan q.1))]) (fun (q:BookS×Nat)=>BookG q.1/\q.2<=10013) ?_ ?_
    ·skip
     refine gz2 ?_;refine de rfl (za (i:=0) zdK rfl (WeakL.refl _) rfl (zK uS uS) ?_)
     rintro _ _ ⟨y79,rfl,rfl⟩;refine gz1 ?_;refine uCo (fun h5=> ?_) fun h6=> ?_
     ·refine gz2 ?_;refine de rfl (za (i:=0) ca4 rfl (WeakL.refl _) rfl (zej uS) ?_)
      rintro _ _ ⟨k81,a81,rfl,hk81,ha81,rfl⟩;refine de0 (uY 1 ?_)
      refine gz1 ?_;exact ⟨(k81,a81),⟨hk81,uD⟩,trivial,uK,uQ⟩
     ·refine gz1 ?_;exact ⟨(d75,a75+1),⟨hk75.2.2,uD⟩,trivial,uK,uQ⟩
    ·intro q hq
     obtain ⟨y1,a1⟩:=q;obtain ⟨hq1,ha1⟩:=hq;dsimp only at hq1 ha1;refine zvc [82,83,84,85,86,87,88,89,90,91,92,93,94,95,96,97] (fun (q:BookS×Nat)=>[]) (fun (q:BookS×Nat)=>[St b l q.2,.cells b13 (zd (zan q.1))]) (fun (q:BookS×Nat)=>BookG q.1/\q.2<=10015) ?_ ?_
     ·skip
      refine gz2 ?_;refine de rfl (uZ 1 ?_)
      refine dq (zaq (f:=zk) (l:=y1.Choices) zaa rfl) ?_;refine gz3 ?_;refine dgx (fun x M'=> ∃(y:Bool) (a3:Nat),x= .bool y/\a3<=a1+1/\M'=[St b l a3,.cells b13 (zd (zan y1))]) rfl rfl (fun hc=>⟨_,false,a1,rfl,by omega,rfl⟩) (fun hc=>⟨_,OpenTo.upd (t:=87) rfl (hc) (OpenTo.refl _),za (i:=0) zdK rfl (WeakL.refl _) rfl (zK (a:=a1) uO uO) (fun h M' hh=>by
       obtain ⟨y,h1,h2⟩:=hh;exact ⟨y,a1+1,h1,by omega,by rw [h2];rfl⟩)⟩) ?_
      rintro _ _ ⟨y,a3,rfl,ha3,rfl⟩;refine gz2 ?_;refine uCo (fun h7=> ?_) fun h8=> ?_
      ·refine gz2 ?_;refine de rfl (uZ 1 ?_)
       refine de rfl (zaA zuM rfl (WeakL.refl _) (zbV (l:=y1.Choices) (by have:=hq1.ch.len;omega)) fun v92=> ?_)
       refine gz1 ?_;refine de0 (uY 2 ?_)
       refine gz1 ?_;have ho0:0<y1.Choices.length:=by simp_all
       obtain ⟨x,hx⟩: ∃x,y1.Choices[0]? =some x:=⟨_,Aa ho0⟩
       refine zb1 (i:=0) rfl (fun h0 he=> ?_) (fun ob off cap hv hcap=> ?_)
       ·exfalso;have:=congrArg List.length he;simp at this;rw [this] at ho0;simp at ho0
       subst hv;refine gz2 ?_;refine de rfl (uZ 2 ?_)
       refine dq (ze (j:=0) zaa zR rfl rfl rfl (by simp;omega)) ?_;refine gz1 ?_;refine de0 (z8 (i:=0) (j:=0) (f:=4) (y:=zk x) (y':=zk ⟨x.Team,x.Week,x.At,x.Players,[122,111,101]⟩) ty9 rfl uO rfl rfl (za5 hx) rfl rfl (by simp [zd]) rfl ?_)
       refine gz1 ?_;refine zpx (zP (M':=[.arr (.slice (some ⟨ob,off,none⟩) (y1.Choices.map zk).length cap) 5 ((zpU y1 x).Choices.map zk),St b l a3,.cells b13 (bkC y1.League (zbB y1.Moves) (zbk y1.Plays) (zbj y1.Mends) (za1 y1.Health) (.raw (.slice (some ⟨ob,off,none⟩) (y1.Choices.map zk).length cap)))]) (by simp only [zpU,List.map_set];rfl)) ?_;refine zpx (zbM (i:=0) (k:=1) (j:=18) rfl rfl rfl) ?_;refine zpx (zP (M':=[St b l a3,.cells b13 (zd (zan (zpU y1 x)))]) rfl) ?_;exact zsu (zpU y1 x,a3) ⟨zvD hq1 hx,uD⟩ trivial uK uQ
      ·refine gz1 ?_;exact zsu (y1,a3) ⟨hq1,uD⟩ trivial uK uQ
     ·intro q hq
      obtain ⟨y2,a2⟩:=q;obtain ⟨hq2,ha2⟩:=hq;dsimp only at hq2 ha2;refine zf (zca 13 (i:=1) rfl rfl) ?_;have hcx:=hk75.2.1.c;have hcy:=hq2.c;have hbb:=zwV hcx hcy;refine gz1 ?_;refine dq (zad (h:=zan c75) zaz rfl rfl rfl rfl) ?_;refine dq (zad (h:=zan y2) zaz rfl rfl rfl rfl) ?_;refine dq (uCl ca17 rfl (zpl (a:=c75) (b:=y2) hT hcx hcy)) ?_;refine gz3 ?_;refine de rfl (zq zaz rfl fun b14=> ?_)
      refine de0 (zJ zaz rfl rfl rfl rfl rfl ?_)
      refine gz2 ?_;refine zf (zA 14 rfl) ?_;refine zw (fun _=>True) [] mixed ?_;refine uB 0 rfl (zad (h:=zan c75) zaz rfl rfl rfl rfl) ?_;refine uB 1 rfl (uCl ca9 rfl (zet (b:=c75) hT hcx)) ?_;refine uB 2 rfl (zad (h:=zan y2) zaz rfl rfl rfl rfl) ?_;refine uB 3 rfl (uCl ca9 rfl (zet (b:=y2) hT hcy)) ?_;refine uB 4 rfl (zb (hs:=[_,_]) zdr zds rfl rfl (by decide) (by decide) rfl) ?_;refine uB 5 rfl (uCl zri rfl (zc1 (l:=[zbS c75,zbS y2]) (by simp))) ?_;refine gz3 ?_;refine de rfl (zq zaz rfl fun b16=> ?_)
      refine gz6 ?_;refine zaf rfl (fun h9=> ?_) (fun h10=> ?_)
      ·(have hz:orI [zbS c75,zbS y2]=0:=(by simpa using h9);obtain ⟨e1,e2⟩:=zii hz;simp only [e1,e2];rw [e2] at hbb)
       try simp at h9
       refine gz1 ?_;refine dq (zad (h:=zan c75) zaz rfl rfl rfl rfl) ?_;refine dq (zad (h:=zan y2) zaz rfl rfl rfl rfl) ?_;refine dq (uCl ca18 rfl (zjC (a:=c75) (b:=y2) hcx hcy (zfX (zrJ hz).1) (zfX (zrJ hz).2))) ?_;refine gz3 ?_;refine de0 (uY 0 ?_)
       refine gz3 ?_;refine zf (zca 16 (i:=0) rfl rfl) ?_;refine gz5 ?_;refine dg rfl rfl (fun hc=>⟨_,OpenTo.refl _,(zad (h:=zan (zfj c75 y2)) zaz rfl rfl rfl rfl)⟩) ?_;refine dg rfl rfl (fun hc=>⟨_,OpenTo.refl _,(zad (h:=zan (zfj c75 y2)) zaz rfl rfl rfl rfl)⟩) ?_;refine dg rfl rfl (fun hc=>⟨_,OpenTo.upd (t:=123) rfl (hc) (OpenTo.upd (t:=122) rfl (hc) (OpenTo.refl _)),(zcT (hs':=[zan (zfj c75 y2),zan (zfj c75 y2)]) ca19 rfl (WeakL.refl _) (zha (a:=(zfj c75 y2)) (b:=(zfj c75 y2)) hbb.lea hbb.mv hbb.pl hbb.me hbb.he hbb.ch hbb.cp))⟩) ?_;refine gz2 ?_;refine dg rfl rfl (fun hc=>⟨_,OpenTo.refl _,uCl ca20 rfl (zi9 hT)⟩) ?_;refine gz4 ?_;refine zag Ghost.clear rfl ⟨?_,rfl⟩
       show HVal.bool _=_
       (simp [zo2];done)
      ·(obtain ⟨e1,e2⟩:=zm0 (a:=c75) (b:=y2) (by simpa using h10);simp only [e1,e2];rw [e2] at hbb)
       try simp at h10
       refine gz2 ?_;refine zf (zca 16 (i:=0) rfl rfl) ?_;refine gz5 ?_;refine dg rfl rfl (fun hc=>⟨_,OpenTo.refl _,(zad (h:=zan zfW) zaz rfl rfl rfl rfl)⟩) ?_;refine dg rfl rfl (fun hc=>⟨_,OpenTo.refl _,(zad (h:= .agg zgX) zaz rfl rfl rfl rfl)⟩) ?_;refine dg rfl rfl (fun hc=>⟨_,OpenTo.upd (t:=123) rfl (hc) (OpenTo.upd (t:=122) rfl (hc) (OpenTo.refl _)),(zcT (hs':=[zan zfW,zan zfW]) ca19 rfl ⟨Weak.refl _,zcX,trivial⟩ (zha (a:=zfW) (b:=zfW) hbb.lea hbb.mv hbb.pl hbb.me hbb.he hbb.ch hbb.cp))⟩) ?_;refine gz2 ?_;refine dg rfl rfl (fun hc=>⟨_,OpenTo.refl _,uCl ca20 rfl (zi9 hT)⟩) ?_;refine gz4 ?_;refine zag Ghost.clear rfl ⟨?_,rfl⟩
       show HVal.bool _=_
       (simp [zo2];done)
end
end Go.Proofs.YtbbpommdmnjfmaaGreatDoor
namespace Go.HL
section
open Go
theorem zt5 {P:Program} (h:P.funcs.toList.any Func.goes=false) (f:FuncId):P.goes f=false:=by
 have hf: ∀g:Nat,(P.funcs[g]?).any Func.goes=false:=fun g=>by
  cases hg:P.funcs[g]? with
  |none=>rfl
  |some fn=>
    have:fn∈P.funcs.toList:=by
     obtain ⟨hlt,rfl⟩:=Array.getElem?_eq_some_iff.1 hg
     simp
    have:=List.any_eq_false.1 h fn this
    simpa using this
 have ha:P.funcs.any Func.goes=false:=by rw [<-Array.any_toList];exact h
 unfold Program.goes;rw [ha,Bool.and_false,Bj];rw [List.any_eq_false]
 intro g _
 rw [hf g];simp
theorem goesBy_none {P:Program} {c:OpenClaim} (h:P.funcs.toList.any Func.goes=false):false=c.goesBy P:=by
 have hg:=zt5 h;unfold OpenClaim.goesBy Program.goesAt Program.goesFrom;have h1:(P.funcNamed c.func).any P.goes=false:=by
  cases P.funcNamed c.func with
  |none=>rfl
  |some f=>exact hg f
 have h2:P.inits.toList.any P.goes=false:=List.any_eq_false.2 fun x _=>by rw [hg x];simp
 rw [h1]
 cases c.start<;>simp [h2,hg]
end
section
open Go
theorem zqD {H:Type} {enc:TypeId×Value->H} {a:Assume} {C:Checked} {os:Os} {f:FuncId} {fn:Func} {s:ChangeSpec} {conds:List PathCond} {apart fresh handsOn again:Bool} {X:World->Array Value->Prop}
 (hX: ∀(w w':World) (args:Array Value),w.heap=w'.heap->X w args->X w' args)
 (own:ownKnob C.prog.godebug=none) (started:os.Started) (noInit:C.prog.inits.idxOf? f=none) (hfn:C.prog.funcs[f]? =some fn)
 (witness: ∃(w:World) (tape:Tape) (i:Input),w.os=os/\(w.forCall tape i).Shaped C.prog/\i.vars=[]/\Input.okWide C.prog (w.forCall tape i) .any w.heap.size f i/\
   ((s.pre enc C.prog fn conds apart (w.forCall tape i).memory i.args/\X (w.forCall tape i).memory i.args)/\sizedMet enc C.prog fn (OpenSpec.ofChange s) apart (w.forCall tape i).memory i.args)/\a.holds C.prog (lone (Frame.enter C.prog f i.args .normal) [] (w.forCall tape i)))
 (contract: ∀(W:World) (base:Nat) (args:Array Value) (ds gs:List (DataW H)) (before:List MemPlace),
   (∀(j:Nat) t v,fn.params[j]? =some t->args[j]? =some v->Value.okWide C.prog W .any base t v)->DataW.Whole enc C.prog fn.params.toList s.vars apart W args.toList ds gs before->
   X W args->W.ShapedOpen C.prog->Calls C.prog f args W fun e W'=> ∃v,e= .returned v/\s.post enc C.prog fn apart fresh handsOn again W args v W'):
 ReturnsInHanded a C os f .any (fun w args=>(s.pre enc C.prog fn conds apart w args/\X w args)/\sizedMet enc C.prog fn (OpenSpec.ofChange s) apart w args) (s.post enc C.prog fn apart fresh handsOn again):=by
 refine returnsInHanded_of_calls own started noInit witness fun w tape i _ hsh _ hok hpre _=> ?_
 obtain ⟨_,_,_,fn',hfn',_,_,_,_,hval⟩:=hok;obtain rfl:fn'=fn:=Ak (hfn'.symm.trans hfn);obtain ⟨⟨⟨ds,gs,before,hw,_⟩,hx⟩,_⟩:=hpre;refine (contract (w.forCall tape i) w.heap.size i.args ds gs before hval (DataW.Whole.of_heap (w':=w.forCall tape i) (by rfl) hw) (hX _ _ _ (by rfl) hx) hsh).mono fun e W' ⟨v,he,hp⟩=> ?_
 subst he;exact ChangeSpec.post_blind hp
end
section
open Go.Sort Go.Proofs Go.RowKit Go.Lib
variable {P:Program}
theorem zrY {W:World} {laid:List (String×DataW Unit)} {i3 i4 g3 g4 t5 t119 t138 t139:Nat} {fs:Array Field} (h:laidMet P laid W)
 (e3:laid[i3]? =some ("unicode/utf8.first",firstData)) (e4:laid[i4]? =some ("unicode/utf8.acceptRanges",acceptData))
 (n3:P.globalNamed "unicode/utf8.first" =some g3) (n4:P.globalNamed "unicode/utf8.acceptRanges" =some g4) (y3:(P.globals[g3]?).map (·.type)=some t119) (y4:(P.globals[g4]?).map (·.type)=some t139)
 (u5:P.underlying t5=some (.int .u8)) (u119:P.underlying t119=some (.array 256 t5)) (u138:P.underlying t138=some (.struct fs)) (u139:P.underlying t139=some (.array 16 t138))
 (c5:P.cellsOf t5=1) (c119:P.cellsOf t119=256) (c138:P.cellsOf t138=2) (hs:fs.size=2) (hf:(fs.toList.map fun f=>(f.type,f.offset))=[(t5,0),(t5,1)]):
 (∀c,c<256->W.cell? ⟨g3,c,none⟩=some (.int .u8 (Lib.firstT c)))/\(∀i,i<16->W.cell? ⟨g4,2*i,none⟩=some (.int .u8 (Lib.accLo i))/\W.cell? ⟨g4,2*i+1,none⟩=some (.int .u8 (Lib.accHi i))):=by
 obtain ⟨ps,h1,_⟩:=h;have h3:VarReads P W "unicode/utf8.first" firstData:=zpy h1 i3 e3;have h4:VarReads P W "unicode/utf8.acceptRanges" acceptData:=zpy h1 i4 e4;refine ⟨fun c hc=> ?_,fun i hi=> ?_⟩
 obtain ⟨g,t,cs,fuel,p,hg,hty,hvar,hd⟩:=h3;obtain rfl:=Ak (n3.symm.trans hg);obtain rfl:=Ak (y3.symm.trans hty);have hcs:=cells_of_tab u119 u5 c5 c119 hd;have:=World.var?_cell hg hvar c;rw [this,<-A4,hcs]
 simp [firstTab,hc]
 obtain ⟨g,t,cs,fuel,p,hg,hty,hvar,hd⟩:=h4;obtain rfl:=Ak (n4.symm.trans hg);obtain rfl:=Ak (y4.symm.trans hty);obtain ⟨fuel',d,q,hdi,he⟩:=array_elem u139 hd i hi;simp only [Av,BP hi,AT,AC] at hdi;subst hdi;rw [c138] at he;have hcs:=ints_of_struct u138 (fun j f hj=>by
  have hq:(fs.toList.map fun f=>(f.type,f.offset))[j]? =some (f.type,f.offset):=by rw [Av,A4,hj];rfl
  rw [hf] at hq
  match j,hq with
  |0,hq=>simp at hq;exact ⟨by rw [<-hq.1];exact u5,hq.2.symm,by rw [<-hq.1];exact c5⟩
  |1,hq=>simp at hq;exact ⟨by rw [<-hq.1];exact u5,hq.2.symm,by rw [<-hq.1];exact c5⟩
  |j+2,hq=>simp at hq) (by rw [c138,hs]) he
 have a0:=congrArg (·[0]?) hcs;have a1:=congrArg (·[1]?) hcs;simp only [Bf,AI] at a0 a1
 constructor
 rw [World.var?_cell hg hvar (2*i),<-A4]
 simpa [BF] using a0
 rw [World.var?_cell hg hvar (2*i+1),<-A4]
 simpa [BF] using a1
theorem zrV [Tracks] {W:World} (hp:P.globalNamed "internal/strconv.uint64pow10" =none)
 (hl: ∀g,P.globalNamed "internal/bytealg.MaxLen" =some g->∃m,W.cell? ⟨g,0,none⟩=some (.int .i64 m))
 (hu: ∀g3 g4,P.globalNamed "unicode/utf8.first" =some g3->P.globalNamed "unicode/utf8.acceptRanges" =some g4->(∀c,c<256->W.cell? ⟨g3,c,none⟩=some (.int .u8 (Lib.firstT c)))/\(∀i,i<16->W.cell? ⟨g4,2*i,none⟩=some (.int .u8 (Lib.accLo i))/\W.cell? ⟨g4,2*i+1,none⟩=some (.int .u8 (Lib.accHi i)))):TabI P (zcs W):=by
 refine ⟨fun g hg=>(by rw [hp] at hg;cases hg),fun g hg=> ?_,fun g3 g4 h3 h4=> ?_⟩
 obtain ⟨m,hm⟩:=hl g hg;unfold World.cell? at hm
 cases hh:W.heap[g]? with
 |none=>rw [hh] at hm;cases hm
 |some o=>
   rw [hh] at hm
   cases o with
   |cells c t fr=>exact ⟨c,t,fr,m,hh,by simpa using hm⟩
   |_=>cases hm
 obtain ⟨u1,u2⟩:=hu g3 g4 h3 h4;have key: ∀(g:Nat) (v:Value),W.cell? ⟨g,0,none⟩=some v->∃c t fr,W.heap[g]? =some (.cells c t fr):=fun g v hv=>by
  unfold World.cell? at hv
  cases hh:W.heap[g]? with
  |none=>rw [hh] at hv;cases hv
  |some o=>
    rw [hh] at hv
    cases o with
    |cells c t fr=>exact ⟨c,t,fr,rfl⟩
    |_=>cases hv
 obtain ⟨c3,t3,f3,x3⟩:=key g3 _ (u1 0 (by omega));obtain ⟨c4,t4,f4,x4⟩:=key g4 _ (u2 0 (by omega)).1;refine ⟨c3,t3,f3,c4,t4,f4,x3,x4,fun k hk=> ?_,fun i hi=> ?_⟩
 rw [<-zc8 x3];exact u1 k hk;exact ⟨by rw [<-zc8 x4];exact (u2 i hi).1,by rw [<-zc8 x4];exact (u2 i hi).2⟩
end
end Go.HL
