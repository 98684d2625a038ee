/- The statement is proved: the card of the law, out of its function's contract; no conditions. -/
import Derived.Test.YtbmggbfabohegaaGreatDoorQFieldedAreScorers5
import Derived.Calls
import Derived.Handed
import Derived.LaidMore
import Derived.Lay
import Derived.Lib.LaidU8
import Derived.OpenShut
import Derived.ProofKit
import Derived.SevenTiedAt
import Derived.Shelf.Vars
import Derived.Stop.Joined
import Derived.Test.YtbmggbfabohegaaGreatDoorCards
import Derived.Test.YtbmggbfabohegaaGreatDoorTie
import GoSem.ClaimGoes
set_option linter.unusedVariables false
set_option linter.unusedSimpArgs false
set_option maxHeartbeats 16000000
namespace Go.Proofs.YtbmggbfabohegaaGreatDoor
set_option maxRecDepth 100000
set_option linter.unusedVariables false
set_option linter.unusedSimpArgs false
section
open Go.Proofs.Tryz
open Go.HL
theorem zid [Tracks] {b:Nat} {l:List Int} {a:Nat} (ha:a<=500000):Con prog 20 [pAt b] [St b l a] (fun x M'=> ∃k a',x=zbx k/\BookG k/\a'<=a+2000/\M'=[St b l a']):=by
 refine zbb func20 rfl ntmps20 rfl rfl ?_;refine gz1 ?_;refine de rfl (zj zbt rfl fun b2=> ?_)
 refine gz3 ?_;refine de rfl (uCx 1 ca38 rfl rfl (ziT uS) ?_)
 rintro _ _ ⟨g13,a13,rfl,hg13,ha13,rfl⟩;refine gz1 ?_;refine de rfl (uCx 0 ca39 rfl rfl (zkt uS) ?_)
 rintro _ _ ⟨p15,a15,rfl,hp15,ha15,rfl⟩;refine gz1 ?_;refine de rfl (uCx 0 ca40 rfl rfl (zjZ uS) ?_)
 rintro _ _ ⟨m17,a17,rfl,hm17,ha17,rfl⟩;refine dq (zGw zbt pl43) ?_;refine de rfl (zj zbt rfl fun b3=> ?_)
 refine de0 (uY 0 ?_)
 refine zau ?_;refine de rfl (uCx 1 zeJ rfl rfl (zJ uS uS uS uS) ?_)
 rintro _ _ ⟨y20,rfl,hy20,rfl⟩;refine gz2 ?_;refine ze (zN 4) ?_;refine gz1 ?_;refine uV3 [5,1,21,24] (fun (n:Nat) (at1:Int) (q:GL MoveS)=>[(21,.int .i64 (n:Int)),(5,.int .i64 at1)]) (fun (n:Nat) (at1:Int) (q:GL MoveS)=>[St b l q.a,.cells b2 zjl,.cells b3 (bkC g13 (.raw q.u) (zb0 p15) (zct m17) (.raw (.slice none 0 0)) (.raw (.slice none 0 0))),.arr q.u 4 (q.out.map zdh)]) (fun (n:Nat) (at1:Int) (q:GL MoveS)=>(n:Int)<=y20/\(0<=at1/\at1<=20*n)/\GLok MovB n (a17+1+4*n) q) (fun (n:Nat) (at1:Int) (q:GL MoveS)=>y20.toNat-n) (0) (0) (⟨.slice none 0 0,[],a17+1⟩) ?_ ?_ ?_ ?_
 ·exact ⟨by omega,by omega,⟨by simp,by simp,uD⟩⟩
 ·exact ⟨rfl,rfl,trivial⟩
 ·exact by repeat (first|exact List.Perm.nil|refine zay 0 rfl ?_|refine zay 1 rfl ?_|refine zay 2 rfl ?_|refine zay 3 rfl ?_|refine zay 4 rfl ?_|refine zay 5 rfl ?_|(refine zap 0 rfl ?hq ?_;(case hq=>simp [zaC,zb];done))|(refine zap 1 rfl ?hq ?_;(case hq=>simp [zaC,zb];done))|(refine zap 2 rfl ?hq ?_;(case hq=>simp [zaC,zb];done))|(refine zap 3 rfl ?hq ?_;(case hq=>simp [zaC,zb];done))|(refine zap 4 rfl ?hq ?_;(case hq=>simp [zaC,zb];done))|(refine zap 5 rfl ?hq ?_;(case hq=>simp [zaC,zb];done))|fail)
 ·intro n at1 q hinv
  obtain ⟨hn,hat,hq⟩:=hinv;obtain ⟨u,out,a1⟩:=q;obtain ⟨g1,g2,g3⟩:=id hq;dsimp only at g1 g2 g3;refine gz4 ?_;refine uCo (fun h1=> ?_) fun h2=> ?_
  ·refine gz7 ?_;refine dq (za (hs:=[_,_,_,_]) z8 ty3 rfl rfl (by decide) (by decide) rfl) ?_;refine de rfl (uCx 0 ca6 rfl rfl (zf (L:=[_,_,_,_]) uS uS uS) ?_)
   rintro _ _ ⟨y26,rfl,hy26,rfl⟩;refine dq (zaX rfl rfl (by simp at hy26;omega) (by simp at hy26;omega)) ?_;refine gz2 ?_;refine zbj (fun M=> ∃i:Nat,M[i]? =some (.cells b3 (bkC g13 (.raw u) (zb0 p15) (zct m17) (.raw (.slice none 0 0)) (.raw (.slice none 0 0))))) [1] mixed ?_;refine gz1 ?_;refine uM 1 rfl ⟨2,rfl⟩ (fun M hM=>by obtain ⟨i,hi⟩:=hM;exact zan (i:=i) (h:= .raw u) zcq rfl hi (.inl ⟨rfl,rfl⟩) ⟨rfl,rfl⟩) ?_;refine gz2 ?_;refine uB 4 rfl (za (hs:=[_,_,_,_,_,_]) z8 ty3 rfl rfl (by decide) (by decide) rfl) ?_;refine uA 6 ?_;refine uB 7 rfl (za (hs:=[_,_]) zq ty9 rfl rfl (by decide) (by decide) rfl) ?_;refine uA 9 ?_;refine uB 10 rfl (za (hs:=[_,_,_,_,_]) zq ty9 rfl rfl (by decide) (by decide) rfl) ?_;refine uF 5 ?_;refine zv rfl (uCx 0 ca6 rfl rfl (zf (L:=[_,_,_,_,_,_]) uS uS uS) ?_)
   rintro _ _ ⟨y33,rfl,hy33,rfl⟩;refine ⟨uE,?_⟩
   refine uF 8 ?_;refine zv rfl (uCx 0 zbS rfl rfl (zo (L:=[_,_]) uS uS uS) ?_)
   rintro _ _ ⟨y36,rfl,hy36,rfl⟩;refine ⟨uE,?_⟩
   refine uF 11 ?_;refine zv rfl (uCx 0 zbS rfl rfl (zo (L:=[_,_,_,_,_]) uS uS uS) ?_)
   rintro _ _ ⟨y39,rfl,hy39,rfl⟩;refine ⟨uE,?_⟩
   refine uB 12 rfl (zF (cs:=[_,_,_,_]) zG zGc rfl) ?_;refine uB 13 rfl (za (hs:=[_]) zcq zG rfl rfl (by decide) (by decide) rfl) ?_;refine uF 14 ?_;refine zv rfl (zK (i:=3) zcq zG rfl rfl rfl rfl rfl (by simp [zar,zb]) (by first|omega|(simp;omega)) fun v42=> ?_)
   refine ⟨uE,?_⟩
   refine gz1 ?_;refine uF 16 ?_;refine zD (uY 2 ?_)
   refine ⟨uE,?_⟩
   refine gz7 ?_;exact ⟨n+1,at1+y26,⟨v42,out++[(⟨at1+y26,y33,y36,y39⟩:MoveS)],a1+1+1+1+1⟩,⟨by omega,by simp at hy26;omega,hq.add (x:=(⟨at1+y26,y33,y36,y39⟩:MoveS)) ⟨by simp at hy26;dsimp only;omega,by simp at hy33;dsimp only;omega⟩ uO⟩,uD,⟨rfl,rfl,trivial⟩,uK,uQ⟩
  ·refine gz2 ?_;refine zcI ?_;refine gz4 ?_;refine de rfl (uZ 2 ?_)
   refine de rfl (uCx 3 ca41 rfl rfl (zqr (l:=out) g2 uO) ?_)
   rintro _ _ ⟨Z,rfl,hzp,rfl⟩;have hzl:=hzp.length_eq;refine gz3 ?_;refine de rfl (uZ 3 ?_)
   refine de rfl (uCx 0 ca43 rfl rfl (zgD (l:=Z) uO) ?_)
   rintro _ _ ⟨u50,rfl,rfl⟩;refine gz1 ?_;refine de0 (uY 3 ?_)
   refine gz1 ?_;have hul:=zsU Z none;have hub: ∀x∈zai none Z,MovB x:=fun x hx=>g2 x (hzp.mem_iff.1 (zor Z none x hx))
   refine ze (Ghost.perm (M':=[St b l a1,.cells b2 zjl,.cells b3 (bkC g13 (.raw u50) (zb0 p15) (zct m17) (.raw (.slice none 0 0)) (.raw (.slice none 0 0))),.arr u50 4 ((zai none Z).map zdh)]) uQ) ?_;refine ze (ziF (i:=3) (k:=2) (j:=14) rfl rfl rfl) ?_;refine gz4 ?_;refine de rfl (uZ 2 ?_)
   refine de rfl (uCx 0 ca44 rfl rfl (ziS (a:=a1) (L:=g13.Players) uO (by have:=hg13.pl;omega)) ?_)
   rintro _ _ ⟨k56,a56,rfl,hk56,ha56,rfl⟩;refine gz1 ?_;refine de0 (uY 2 ?_)
   refine gz5 ?_;refine de rfl (uZ 2 ?_)
   refine dq (zao (f:=HVal.str) (l:=g13.Teams) zq rfl) ?_;refine gz2 ?_;refine ze (zN 5) ?_;refine gz1 ?_;refine uV2 [7,4,62,54] (fun (k:Nat) (q:GL ChoiceS)=>[(62,.int .i64 k)]) (fun (k:Nat) (q:GL ChoiceS)=>[St b l q.a,.cells b2 zjl,.cells b3 (bkC g13 (zcG (zai none Z)) (zb0 p15) (zct m17) (zcF k56) (.raw q.u)),.arr q.u 5 (q.out.map zam)]) (fun (k:Nat) (q:GL ChoiceS)=>k<=g13.Teams.length/\(GLok GoodC4 (4*k) (a56+28*k) q)) (fun (k:Nat) (q:GL ChoiceS)=>g13.Teams.length-k) (0) (⟨.slice none 0 0,[],a56⟩) ?_ ?_ ?_ ?_
   ·exact ⟨Ad _,⟨by simp,by simp,uD⟩⟩
   ·exact ⟨rfl,trivial⟩
   ·exact by repeat (first|exact List.Perm.nil|refine zay 0 rfl ?_|refine zay 1 rfl ?_|refine zay 2 rfl ?_|refine zay 3 rfl ?_|refine zay 4 rfl ?_|refine zay 5 rfl ?_|(refine zap 0 rfl ?hq ?_;(case hq=>simp [zaC,zb];done))|(refine zap 1 rfl ?hq ?_;(case hq=>simp [zaC,zb];done))|(refine zap 2 rfl ?hq ?_;(case hq=>simp [zaC,zb];done))|(refine zap 3 rfl ?hq ?_;(case hq=>simp [zaC,zb];done))|(refine zap 4 rfl ?hq ?_;(case hq=>simp [zaC,zb];done))|(refine zap 5 rfl ?hq ?_;(case hq=>simp [zaC,zb];done))|fail)
   ·intro k q hinv
    obtain ⟨hk,hq⟩:=hinv;obtain ⟨u,out,a2⟩:=q;obtain ⟨g1,g2,g3⟩:=id hq;dsimp only at g1 g2 g3;have htm:=hg13.tm;refine gz4 ?_;refine uCo (fun h3=> ?_) fun h4=> ?_
    ·obtain ⟨x,hx⟩: ∃x,g13.Teams[k]? =some x:=⟨_,Aa h3⟩
     have hdx:=zi hx;refine gz5 ?_;refine dq (zy (f:=HVal.str) (l:=g13.Teams) (j:=k) (a:=x) zq ty9 rfl rfl rfl hx) ?_;refine gz7 ?_;refine uV2 [8,3,66,49] (fun (w:Nat) (q2:GL ChoiceS)=>[(8,.int .i64 ((w:Int)+1))]) (fun (w:Nat) (q2:GL ChoiceS)=>[St b l q2.a,.cells b2 zjl,.cells b3 (bkC g13 (zcG (zai none Z)) (zb0 p15) (zct m17) (zcF k56) (.raw q2.u)),.arr q2.u 5 (q2.out.map zam)]) (fun (w:Nat) (q2:GL ChoiceS)=>w<=2/\GLok GoodC4 (4*k+2*w) (a56+28*k+14*w) q2) (fun (w:Nat) (q2:GL ChoiceS)=>2-w) (0) (⟨u,out,a2⟩) ?_ ?_ ?_ ?_
     ·exact ⟨by omega,hq.mono uO uO⟩
     ·exact ⟨zP uO,trivial⟩
     ·exact by repeat (first|exact List.Perm.nil|refine zay 0 rfl ?_|refine zay 1 rfl ?_|refine zay 2 rfl ?_|refine zay 3 rfl ?_|refine zay 4 rfl ?_|refine zay 5 rfl ?_|(refine zap 0 rfl ?hq ?_;(case hq=>simp [zaC,zb];done))|(refine zap 1 rfl ?hq ?_;(case hq=>simp [zaC,zb];done))|(refine zap 2 rfl ?hq ?_;(case hq=>simp [zaC,zb];done))|(refine zap 3 rfl ?hq ?_;(case hq=>simp [zaC,zb];done))|(refine zap 4 rfl ?hq ?_;(case hq=>simp [zaC,zb];done))|(refine zap 5 rfl ?hq ?_;(case hq=>simp [zaC,zb];done))|fail)
     ·intro w q2 hinv
      obtain ⟨hw,hq2⟩:=hinv;obtain ⟨u,out,a2⟩:=q2;obtain ⟨g1,g2,g3⟩:=id hq2;dsimp only at g1 g2 g3;refine gz5 ?_;refine uCo (fun h5=> ?_) fun h6=> ?_
      ·refine gz8 ?_;refine dq (za (hs:=[_,_,_]) z8 ty3 rfl rfl (by decide) (by decide) rfl) ?_;refine de rfl (uCx 0 ca6 rfl rfl (zf (L:=[_,_,_]) uS uS uS) ?_)
       rintro _ _ ⟨y74,rfl,hy74,rfl⟩;refine gz2 ?_;have hb74:0<=y74/\y74<=604799999:=by simp at hy74;omega
       refine gz2 ?_;refine dq (za (hs:=[_,_,_,_]) z8 ty3 rfl rfl (by decide) (by decide) rfl) ?_;refine de rfl (uCx 0 ca6 rfl rfl (zf (L:=[_,_,_,_]) uS uS uS) ?_)
       rintro _ _ ⟨y77,rfl,hy77,rfl⟩;refine gz2 ?_;have hb77:0<=y77/\y77<=2:=by simp at hy77;omega
       refine gz1 ?_;refine uV3 [9,2,78,37] (fun (n:Nat) (at2:Int) (q3:GL ChoiceS)=>[(78,.int .i64 (n:Int)),(9,.int .i64 at2)]) (fun (n:Nat) (at2:Int) (q3:GL ChoiceS)=>[St b l q3.a,.cells b2 zjl,.cells b3 (bkC g13 (zcG (zai none Z)) (zb0 p15) (zct m17) (zcF k56) (.raw q3.u)),.arr q3.u 5 (q3.out.map zam)]) (fun (n:Nat) (at2:Int) (q3:GL ChoiceS)=>(n:Int)<=y77/\(0<=at2/\at2<=604800000*((n:Int)+1))/\GLok GoodC4 (4*k+2*w+n) (a56+28*k+14*w+2+6*n) q3) (fun (n:Nat) (at2:Int) (q3:GL ChoiceS)=>y77.toNat-n) (0) (y74) (⟨u,out,a2+1+1⟩) ?_ ?_ ?_ ?_
       ·exact ⟨by omega,by omega,⟨uD,g2,uD⟩⟩
       ·exact ⟨rfl,rfl,trivial⟩
       ·exact by repeat (first|exact List.Perm.nil|refine zay 0 rfl ?_|refine zay 1 rfl ?_|refine zay 2 rfl ?_|refine zay 3 rfl ?_|refine zay 4 rfl ?_|refine zay 5 rfl ?_|(refine zap 0 rfl ?hq ?_;(case hq=>simp [zaC,zb];done))|(refine zap 1 rfl ?hq ?_;(case hq=>simp [zaC,zb];done))|(refine zap 2 rfl ?hq ?_;(case hq=>simp [zaC,zb];done))|(refine zap 3 rfl ?hq ?_;(case hq=>simp [zaC,zb];done))|(refine zap 4 rfl ?hq ?_;(case hq=>simp [zaC,zb];done))|(refine zap 5 rfl ?hq ?_;(case hq=>simp [zaC,zb];done))|fail)
       ·intro n at2 q3 hinv
        obtain ⟨hn,hat2,hq3⟩:=hinv;obtain ⟨u,out,a2⟩:=q3;obtain ⟨g1,g2,g3⟩:=id hq3;dsimp only at g1 g2 g3;refine gz4 ?_;refine uCo (fun h7=> ?_) fun h8=> ?_
        ·refine gz9 ?_;refine dq (za (hs:=[_,_,_,_]) zq ty9 rfl rfl (by decide) (by decide) rfl) ?_;refine de rfl (uCx 0 zbS rfl rfl (zo (L:=[_,_,_,_]) uS uS uS) ?_)
         rintro _ _ ⟨y85,rfl,hy85,rfl⟩;refine dq (zF (cs:=[_,_,_,_,_]) zeo zGd rfl) ?_;refine de rfl (zj zeo rfl fun b10=> ?_)
         refine de0 (uY 0 ?_)
         refine gz5 ?_;refine de rfl (uZ 3 ?_)
         refine dq (zao (f:=zbo) (l:=g13.Slots) zbG rfl) ?_;refine gz2 ?_;refine ze (zN 1) ?_;refine gz1 ?_;refine uV2 [91,11] (fun (j:Nat) (p:GL Str)=>[(91,.int .i64 j)]) (fun (j:Nat) (p:GL Str)=>[St b l p.a,.cells b10 [.str x,.int .i64 ((w:Int)+1),.int .i64 at2,.raw p.u,.str y85],.arr p.u 1 (p.out.map .str),.cells b2 zjl,.cells b3 (bkC g13 (zcG (zai none Z)) (zb0 p15) (zct m17) (zcF k56) (.raw u)),.arr u 5 (out.map zam)]) (fun (j:Nat) (p:GL Str)=>j<=g13.Slots.length/\(p.out.length=j/\(∀s∈p.out,Sh s)/\p.a=a2+1+j)) (fun (j:Nat) (p:GL Str)=>g13.Slots.length-j) (0) (⟨.slice none 0 0,[],a2+1⟩) ?_ ?_ ?_ ?_
         ·exact ⟨Ad _,rfl,by simp,rfl⟩
         ·exact ⟨rfl,trivial⟩
         ·exact by repeat (first|exact List.Perm.nil|refine zay 0 rfl ?_|refine zay 1 rfl ?_|refine zay 2 rfl ?_|refine zay 3 rfl ?_|refine zay 4 rfl ?_|refine zay 5 rfl ?_|(refine zap 0 rfl ?hq ?_;(case hq=>simp [zaC,zb];done))|(refine zap 1 rfl ?hq ?_;(case hq=>simp [zaC,zb];done))|(refine zap 2 rfl ?hq ?_;(case hq=>simp [zaC,zb];done))|(refine zap 3 rfl ?hq ?_;(case hq=>simp [zaC,zb];done))|(refine zap 4 rfl ?hq ?_;(case hq=>simp [zaC,zb];done))|(refine zap 5 rfl ?hq ?_;(case hq=>simp [zaC,zb];done))|fail)
         ·intro j p hinv
          obtain ⟨hj,hp⟩:=hinv;obtain ⟨v,ps,a5⟩:=p;dsimp only at hp;obtain ⟨hp1,hp2,hp3⟩:=hp;have hsl:=hg13.sl;refine gz4 ?_;refine uCo (fun h9=> ?_) fun h10=> ?_
          ·obtain ⟨z,hz⟩: ∃z,g13.Slots[j]? =some z:=⟨_,Aa h9⟩
           have hdz:=zi hz;refine gz4 ?_;refine zbj (fun M=> ∃i:Nat,M[i]? =some (.cells b10 [.str x,.int .i64 ((w:Int)+1),.int .i64 at2,.raw v,.str y85])) [1] mixed ?_;refine gz1 ?_;refine uM 1 rfl ⟨1,rfl⟩ (fun M hM=>by obtain ⟨i,hi⟩:=hM;exact zan (i:=i) (h:= .raw v) zq rfl hi (.inl ⟨rfl,rfl⟩) ⟨rfl,rfl⟩) ?_;refine gz1 ?_;refine uB 3 rfl (za (hs:=[_,_,_,_,_,_,_,_]) zq ty9 rfl rfl (by decide) (by decide) rfl) ?_;refine uF 4 ?_;refine zv rfl (uCx 0 zbS rfl rfl (zo (L:=[_,_,_,_,_,_,_,_]) uS uS uS) ?_)
           rintro _ _ ⟨y97,rfl,hy97,rfl⟩;refine ⟨uE,?_⟩
           refine uB 5 rfl (za (hs:=[_]) zq ty9 rfl rfl (by decide) (by decide) rfl) ?_;refine uF 6 ?_;refine zv rfl (zK (i:=2) zq ty9 rfl rfl rfl rfl rfl (by simp [zar,zb]) (by first|omega|(simp;omega)) fun v99=> ?_)
           refine ⟨uE,?_⟩
           refine gz1 ?_;refine uF 8 ?_;refine zD (uY 1 ?_)
           refine ⟨uE,?_⟩
           refine gz7 ?_;exact ⟨j+1,⟨v99,ps++[y97],a5+1⟩,⟨by omega,by simp;omega,fun s hs=>by
            rcases List.mem_append.1 hs with hs|hs
            ·exact hp2 s hs
            ·rw [List.mem_singleton.1 hs];simp at hy97;rcases hy97 with rfl|rfl|rfl|rfl|rfl|rfl|rfl|rfl<;>(unfold Sh;simp),uD⟩,uD,⟨rfl,trivial⟩,uK,uQ⟩
          ·have hnj:g13.Slots.length<=j:=by omega
           obtain rfl:j=g13.Slots.length:=by omega
           refine gz2 ?_;refine zM ?_;refine gz2 ?_;refine ze (ziF (i:=2) (k:=1) (j:=3) rfl rfl rfl) ?_;refine ze (zaQ (M':=[St b l a5,.cells b10 (zb (zam (⟨x,(w:Int)+1,at2,ps,y85⟩:ChoiceS))),.cells b2 zjl,.cells b3 (bkC g13 (zcG (zai none Z)) (zb0 p15) (zct m17) (zcF k56) (.raw u)),.arr u 5 (out.map zam)]) rfl) ?_;refine ze (zbr 10 (i:=1) rfl rfl) ?_;refine gz2 ?_;refine de rfl (uZ 2 ?_)
           refine gz1 ?_;refine dq (za (hs:=[_]) zge zeo rfl rfl (by decide) (by decide) rfl) ?_;refine de rfl (zK (i:=3) zge zeo rfl rfl rfl rfl rfl (by simp [zar,zb,zaz,za4]) uSo fun v106=> ?_)
           refine gz1 ?_;refine de0 (uY 2 ?_)
           refine gz5 ?_;refine dq (za (hs:=[_,_,_]) z8 ty3 rfl rfl (by decide) (by decide) rfl) ?_;refine de rfl (uCx 0 ca6 rfl rfl (zf (L:=[_,_,_]) uS uS uS) ?_)
           rintro _ _ ⟨y112,rfl,hy112,rfl⟩;refine dq (zaX rfl rfl (by simp at hy112;omega) (by simp at hy112;omega)) ?_;refine gz8 ?_;exact ⟨n+1,at2+y112,⟨v106,out++[(⟨x,(w:Int)+1,at2,ps,y85⟩:ChoiceS)],a5+1⟩,⟨by omega,by simp at hy112;omega,hq3.add (x:=(⟨x,(w:Int)+1,at2,ps,y85⟩:ChoiceS)) ⟨hp2,by simp at hy85;rcases hy85 with rfl|rfl|rfl|rfl<;>(unfold Sh;simp),by have:=hg13.sl;dsimp only;omega⟩ (by have:=hg13.sl;omega)⟩,uD,⟨rfl,rfl,trivial⟩,uK,uQ⟩
        ·refine gz2 ?_;refine zcI ?_;refine gz8 ?_;exact ⟨w+1,⟨u,out,a2⟩,⟨by omega,hq3.mono uO uO⟩,uD,⟨zP uO,trivial⟩,uK,uQ⟩
      ·refine gz2 ?_;refine zM ?_;refine gz7 ?_;exact ⟨k+1,⟨u,out,a2⟩,⟨by omega,hq2.mono uO uO⟩,uD,⟨rfl,trivial⟩,uK,uQ⟩
    ·have hnk:g13.Teams.length<=k:=by omega
     obtain rfl:k=g13.Teams.length:=by omega
     refine gz2 ?_;refine zM ?_;refine gz2 ?_;refine uVj [11,1,116,52] (fun (q5:List ChoiceS×Nat)=>[]) (fun (q5:List ChoiceS×Nat)=>[St b l q5.2,.cells b2 zjl,.cells b3 (bkC g13 (zcG (zai none Z)) (zb0 p15) (zct m17) (zcF k56) (.raw u)),.arr u 5 (q5.1.map zam)]) (fun (q5:List ChoiceS×Nat)=>GoodChs q5.1/\q5.2<=a2+10) ?_ ?_
     ·skip
      refine gz2 ?_;refine de rfl (uZ 2 ?_)
      refine de rfl (zaT (i:=3) (es:=out) zge rfl rfl ?_)
      refine gz3 ?_;refine dgx (fun x M'=> ∃(y:Bool) (a3:Nat),x= .bool y/\a3<=a2+1/\M'=[St b l a3,.cells b2 zjl,.cells b3 (bkC g13 (zcG (zai none Z)) (zb0 p15) (zct m17) (zcF k56) (.raw u)),.arr u 5 (out.map zam)]) rfl rfl (fun hc=>⟨_,false,a2,rfl,by omega,rfl⟩) (fun hc=>⟨_,OpenTo.upd (t:=121) rfl (hc) (OpenTo.refl _),uCx 0 zes rfl rfl (zI (a:=a2) uO uO) (fun h M' hh=>by
       obtain ⟨y,h1,h2⟩:=hh;exact ⟨y,a2+1,h1,by omega,by rw [h2];rfl⟩)⟩) ?_
      rintro _ _ ⟨y,a3,rfl,ha3,rfl⟩;refine gz2 ?_;refine uCo (fun h11=> ?_) fun h12=> ?_
      ·have ho0:0<out.length:=by simp_all
       refine zdi (i:=3) rfl (fun h0 he=> ?_) (fun ob off cap hv hcap=> ?_)
       ·exfalso;have:=congrArg List.length he;simp at this;subst this;simp at ho0
       subst hv;refine zbT (fun M=> ∃i:Nat,M[i]? =some (.cells b3 (bkC g13 (zcG (zai none Z)) (zb0 p15) (zct m17) (zcF k56) (.raw (.slice (some ⟨ob,off,none⟩) (out.map zam).length cap))))) [1,4] mixed ?_;refine gz1 ?_;refine uM 1 rfl ⟨2,rfl⟩ (fun M hM=>by obtain ⟨i,hi⟩:=hM;exact zan (i:=i) (h:= .raw (.slice (some ⟨ob,off,none⟩) (out.map zam).length cap)) zge rfl hi (.inl ⟨rfl,rfl⟩) ⟨rfl,rfl⟩) ?_;refine gz2 ?_;refine uM 4 rfl ⟨2,rfl⟩ (fun M hM=>by obtain ⟨i,hi⟩:=hM;exact zan (i:=i) (h:= .raw (.slice (some ⟨ob,off,none⟩) (out.map zam).length cap)) zge rfl hi (.inl ⟨rfl,rfl⟩) ⟨rfl,rfl⟩) ?_;refine uF 5 ?_;refine zv rfl (zaT (i:=3) (es:=out) zge rfl rfl ?_)
       refine ⟨fun _=> .inl ⟨2,rfl⟩,?_⟩
       refine uF 6 ?_;refine zv rfl (uCx 0 zjd rfl rfl (zak uS uS) ?_)
       rintro _ _ ⟨y130,rfl,hy130,rfl⟩;refine ⟨uE,?_⟩
       refine uB 7 rfl (zx (j:=y130) zge zeo rfl rfl rfl uSo) ?_;refine gz2 ?_;refine ze (Ghost.perm (M':=[St b l (a3+1),.arr (.slice (some ⟨ob,off,none⟩) (out.map zam).length cap) 5 (out.map zam),.cells b2 zjl,.cells b3 (bkC g13 (zcG (zai none Z)) (zb0 p15) (zct m17) (zcF k56) (.raw (.slice (some ⟨ob,off,none⟩) (out.map zam).length cap)))]) uQ) ?_;obtain ⟨x,hx⟩: ∃x,out[y130]? =some x:=⟨_,Aa uO⟩
       have hgx:=g2 x (Ab hx);dsimp only [GoodC4] at hgx;refine zbj (fun M=> ∃i:Nat,M[i]? =some (.arr (.slice (some ⟨ob,off,none⟩) (out.map zam).length cap) 5 (out.map zam))) [8,15,24] mixed ?_;refine gz8 ?_;refine uM 8 rfl ⟨1,rfl⟩ (fun M hM=>by obtain ⟨i,hi⟩:=hM;exact zaq (i:=i) (j:=y130) 0 ty9 rfl uO hi hx rfl rfl ⟨rfl,rfl⟩) ?_;refine uB 9 rfl (za (hs:=[_,_]) zq ty9 rfl rfl (by decide) (by decide) rfl) ?_;refine uA 11 ?_;refine gz3 ?_;refine uM 15 rfl ⟨1,rfl⟩ (fun M hM=>by obtain ⟨i,hi⟩:=hM;exact zaq (i:=i) (j:=y130) 1 ty3 rfl uO hi hx rfl rfl ⟨rfl,rfl⟩) ?_;refine uB 16 rfl (za (hs:=[_,_]) z8 ty3 rfl rfl (by decide) (by decide) rfl) ?_;refine uA 18 ?_;refine uB 19 rfl (za (hs:=[_,_]) zq ty9 rfl rfl (by decide) (by decide) rfl) ?_;refine uA 21 ?_;refine gz2 ?_;refine uM 24 rfl ⟨1,rfl⟩ (fun M hM=>by obtain ⟨i,hi⟩:=hM;exact zaq (i:=i) (j:=y130) 3 zq rfl uO hi hx rfl rfl ⟨rfl,rfl⟩) ?_;refine uB 26 rfl (za (hs:=[_]) zq ty9 rfl rfl (by decide) (by decide) rfl) ?_;refine uF 10 ?_;refine zv rfl (uCx 0 zbS rfl rfl (zo (L:=[_,_]) uS uS uS) ?_)
       rintro _ _ ⟨y142,rfl,hy142,rfl⟩;refine ⟨uE,?_⟩
       refine uF 17 ?_;refine zv rfl (uCx 0 ca6 rfl rfl (zf (L:=[_,_]) uS uS uS) ?_)
       rintro _ _ ⟨y149,rfl,hy149,rfl⟩;refine ⟨uE,?_⟩
       refine uF 20 ?_;refine zv rfl (uCx 0 zbS rfl rfl (zo (L:=[_,_]) uS uS uS) ?_)
       rintro _ _ ⟨y152,rfl,hy152,rfl⟩;refine ⟨uE,?_⟩
       refine uF 25 ?_;refine zv rfl (uCa zkc rfl (z7 uO) fun v157=> ?_)
       refine ⟨uE,?_⟩
       refine uF 27 ?_;refine zv rfl (zlA (N:=[St b l (a3+1+1+1+1),.arr (.slice (some ⟨ob,off,none⟩) (out.map zam).length cap) 5 (out.map zam),.cells b2 zjl,.cells b3 (bkC g13 (zcG (zai none Z)) (zb0 p15) (zct m17) (zcF k56) (.raw (.slice (some ⟨ob,off,none⟩) (out.map zam).length cap)))]) (sz:=1) (es:=(x.Players++[[97,110,110]]).map .str) 0 (zK (i:=0) zq ty9 rfl rfl rfl rfl rfl (by simp [zar,zb,zaz,za4]) uSo fun v=>⟨v,rfl,by simp [zaz,za4],rfl⟩) ?_)
       refine ⟨fun _=> .inl ⟨1,rfl⟩,?_⟩
       refine gz2 ?_;refine uF 30 ?_;refine zD (zQ (i:=1) (j:=y130) (f:=0) (y:=zam x) (y':=zam ⟨y142,x.Week,x.At,x.Players,x.Captain⟩) ty9 rfl uO rfl rfl (za9 hx) rfl rfl (by simp [zb]) rfl ?_)
       refine ⟨uE,?_⟩
       refine gz2 ?_;refine uF 33 ?_;refine zD (zQ (i:=1) (j:=y130) (f:=1) (y:=zam ⟨y142,x.Week,x.At,x.Players,x.Captain⟩) (y':=zam ⟨y142,y149,x.At,x.Players,x.Captain⟩) ty3 rfl uO rfl rfl (zaL (za9 hx)) rfl rfl (by simp [zb]) rfl ?_)
       refine ⟨uE,?_⟩
       refine gz2 ?_;refine uF 36 ?_;refine zD (zQ (i:=1) (j:=y130) (f:=4) (y:=zam ⟨y142,y149,x.At,x.Players,x.Captain⟩) (y':=zam ⟨y142,y149,x.At,x.Players,y152⟩) ty9 rfl uO rfl rfl (zaL (zaL (za9 hx))) rfl rfl (by simp [zb]) rfl ?_)
       refine ⟨uE,?_⟩
       refine gz2 ?_;refine uF 39 ?_;refine zD (zQ (i:=1) (j:=y130) (f:=3) (y:=zam ⟨y142,y149,x.At,x.Players,y152⟩) (y':=zam ⟨y142,y149,x.At,x.Players++[[97,110,110]],y152⟩) zq rfl uO rfl rfl (zaL (zaL (zaL (za9 hx)))) rfl rfl (by simp [zb]) rfl ?_)
       refine ⟨uE,?_⟩
       refine gz1 ?_;exact ⟨(out.set y130 (⟨y142,y149,x.At,x.Players++[[97,110,110]],y152⟩:ChoiceS),a3+1+1+1+1),⟨⟨by simp;omega,zfk (P:=ztM) (fun x hx=>(g2 x hx).up) ⟨fun s hs=>by
        rcases List.mem_append.1 hs with hs|hs
        ·exact hgx.1 s hs
        ·rw [List.mem_singleton.1 hs];unfold Sh;simp,by simp at hy152;rcases hy152 with rfl|rfl<;>(unfold Sh;simp),by simp;omega⟩⟩,uD⟩,trivial,uK,uQ⟩
      ·refine gz1 ?_;exact ⟨(out,a3),⟨⟨uD,fun x hx=>(g2 x hx).up⟩,uD⟩,trivial,uK,uQ⟩
     ·intro q5 hq5
      obtain ⟨k1,a6⟩:=q5;obtain ⟨hk1,ha6⟩:=hq5;dsimp only at hk1 ha6;refine ze (ziF (i:=3) (k:=2) (j:=18) rfl rfl rfl) ?_;refine ze (Ghost.perm (M':=[.cells b2 zjl,St b l a6,.cells b3 (zb (zbx (⟨g13,(zai none Z),p15,m17,k56,k1⟩:BookS)))]) uQ) ?_;refine gz1 ?_;refine de rfl (zi3 (i:=2) (h:=zbx (⟨g13,(zai none Z),p15,m17,k56,k1⟩:BookS)) zbt rfl rfl rfl rfl rfl ?_)
      refine de0 (zp (h:=zbx (⟨g13,(zai none Z),p15,m17,k56,k1⟩:BookS)) zbt rfl rfl rfl rfl rfl ?_)
      refine gz2 ?_;exact ⟨_,_,(zk 2 rfl).trans ((Ghost.perm (List.Perm.swap _ _ _)).trans Ghost.drop),[_],_,⟨⟨_,_,_,_,_,rfl,zbt,.inr ⟨rfl,rfl,rfl⟩⟩,trivial⟩,Weak.refl _,(⟨g13,(zai none Z),p15,m17,k56,k1⟩:BookS),a6,rfl,⟨hg13,uD,hub,hp15,hm17,hk56,hk1⟩,by omega,rfl⟩
end
section
open Go.Proofs.Tryz
open Go.HL
theorem zve [Tracks]:Weak (.agg [.raw (.slice none 0 0),.raw (.slice none 0 0),.raw (.slice none 0 0),.raw (.slice none 0 0),.slice 2 [.agg [.str [115,97],.slice 1 [.str [103,107]]]],.int .i64 3,.int .i64 0,.int .i64 5,.int .i64 0,.slice 1 [.str [116,97],.str [116,98]],.raw (.slice none 0 0),.raw (.slice none 0 0),.raw (.slice none 0 0),.int .i64 0,.raw (.slice none 0 0),.raw (.slice none 0 0),.raw (.slice none 0 0),.raw (.slice none 0 0),.raw (.slice none 0 0)]) (zbx g0B):=by
 refine zAP rfl fun j h h' h1 h2=> ?_
 match j,h1,h2 with
 |0,h1,h2|1,h1,h2|2,h1,h2|3,h1,h2|10,h1,h2|11,h1,h2|12,h1,h2|14,h1,h2|15,h1,h2|16,h1,h2|17,h1,h2|18,h1,h2=>cases h1;cases h2;exact zW _
 |4,h1,h2|5,h1,h2|6,h1,h2|7,h1,h2|8,h1,h2|9,h1,h2|13,h1,h2=>cases h1;cases h2;exact Weak.refl _
 |n+19,h1,h2=>cases h1
theorem zgC [Tracks] {b:Nat} {l:List Int} {a:Nat} (hT:Tracks.on=false) (ha:a<=100000):Con prog 5 [pAt b] [St b l a] (fun x M'=> ∃k a',x=zbx k/\zdW k=0/\BookC k/\a'<=a+24000/\M'=[St b l a']):=by
 refine zbb func5 rfl ntmps5 rfl rfl ?_;refine gz1 ?_;refine de rfl (zj zbt rfl fun b2=> ?_)
 refine gz6 ?_;refine uT2 [3,10] (fun i a1=>[(4,.int .i64 (i:Int))]) (fun i a1=>[.cells b2 [.raw (.slice none 0 0),.raw (.slice none 0 0),.raw (.slice none 0 0),.raw (.slice none 0 0),.raw (.slice none 0 0),.int .i64 0,.int .i64 0,.int .i64 0,.int .i64 0,.raw (.slice none 0 0),.raw (.slice none 0 0),.raw (.slice none 0 0),.raw (.slice none 0 0),.int .i64 0,.raw (.slice none 0 0),.raw (.slice none 0 0),.raw (.slice none 0 0),.raw (.slice none 0 0),.raw (.slice none 0 0)],St b l a1]) (fun i a1=>i<=12/\a1<=a+2000*i) (fun i a1=>12-i) (0) (a) ?_ ?_
 ·exact ⟨by omega,by omega⟩
 ·rintro i a1 ⟨hi,ha1⟩;refine gz4 ?_;refine uCo (fun h1=> ?_) fun h2=> ?_
  ·refine gz6 ?_;refine de rfl (uCx 1 ca20 rfl rfl (zid (a:=a1) uO) ?_)
   rintro _ _ ⟨k7,a7,rfl,hk7,ha7,rfl⟩;refine de rfl (zj zbt rfl fun b3=> ?_)
   refine de0 (zp zbt rfl rfl rfl rfl rfl ?_)
   refine gz1 ?_;refine ze (zk 3 rfl) ?_;refine gz1 ?_;refine dq (zaK (h:=zbx k7) zbt rfl rfl rfl rfl) ?_;refine dq (uCl ca21 rfl (zlG (b:=k7) hT hk7.c)) ?_;refine gz2 ?_;refine uCo (fun h3=> ?_) fun h4=> ?_
   ·refine gz1 ?_;refine dq (zaK (h:=zbx k7) zbt rfl rfl rfl rfl) ?_;refine de0 (uY 1 ?_)
    refine gz2 ?_
    first
    |exact ⟨_,_,(Ghost.perm (List.Perm.swap _ _ _)).trans ((zk 2 rfl)),[_],_,⟨⟨_,_,_,_,_,rfl,zbt,.inr ⟨rfl,rfl,rfl⟩⟩,trivial⟩,Weak.refl _,k7,a7,rfl,by assumption,hk7.c,by omega,rfl⟩
    |exact ⟨_,_,zk 2 rfl,[_],_,⟨⟨_,_,_,_,_,rfl,zbt,.inr ⟨rfl,rfl,rfl⟩⟩,trivial⟩,zve,g0B,a1,rfl,zBz,zBA,by omega,rfl⟩
   ·refine gz7 ?_;exact ⟨i+1,a7,⟨by omega,by omega⟩,uD,⟨rfl,trivial⟩,uK,uP⟩
  ·obtain rfl:i=12:=by omega
   refine gz2 ?_;refine zM ?_;refine gz3 ?_;refine dq (za (hs:=[_]) zq ty9 rfl rfl (by decide) (by decide) rfl) ?_;refine dq (zF (cs:=[_,_]) zce zAh rfl) ?_;refine dq (za (hs:=[_]) zbG zce rfl rfl (by decide) (by decide) rfl) ?_;refine dq (zF (cs:=[_,_,_,_]) zji pl32 rfl) ?_;refine dq (za (hs:=[_,_]) zq ty9 rfl rfl (by decide) (by decide) rfl) ?_;refine dq (zF (cs:=[_,_,_,_,_,_,_,_,_,_,_,_,_,_]) zaM zkm rfl) ?_;refine dq (zF (cs:=[_,_,_,_,_,_,_,_,_,_,_,_,_,_,_,_,_,_,_]) zbt pl43 rfl) ?_;refine de0 (uY 0 ?_)
   refine gz2 ?_
   first
   |exact ⟨_,_,(Ghost.perm (List.Perm.swap _ _ _)).trans ((zk 2 rfl)),[_],_,⟨⟨_,_,_,_,_,rfl,zbt,.inr ⟨rfl,rfl,rfl⟩⟩,trivial⟩,Weak.refl _,k7,a7,rfl,by assumption,hk7.c,by omega,rfl⟩
   |exact ⟨_,_,zk 2 rfl,[_],_,⟨⟨_,_,_,_,_,rfl,zbt,.inr ⟨rfl,rfl,rfl⟩⟩,trivial⟩,zve,g0B,a1,rfl,zBz,zBA,by omega,rfl⟩
end
section
open Go.Proofs.Tryz
open Go.HL
theorem ziR [Tracks] (hT:Tracks.on=false):ConP prog 8 [] (.bool true):=by
 refine uOb func8 ntmps8 ?_;refine gz4 ?_;refine dq (zF (cs:=[_,_,_,_,_,_,_,_,_]) zb1 zuM rfl) ?_;refine dq (za (hs:=[_]) zho zb1 rfl rfl (by decide) (by decide) rfl) ?_;refine dq (za (hs:=[_]) zq ty9 rfl rfl (by decide) (by decide) rfl) ?_;refine dq (zmS (hs':=[zb0 [zoW],eSs [[115]],.int .i64 1,.int .i64 5]) ca27 rfl (WeakL.refl _) (znQ hT (by decide) (by decide))) ?_;refine gz6 ?_;simp only [zCO,zCP];refine gz1 ?_;refine dq (za (hs:=[_,_]) zq ty9 rfl rfl (by decide) (by decide) rfl) ?_;refine dq (za (hs:=[_,_,_,_]) zq ty9 rfl rfl (by decide) (by decide) rfl) ?_;refine dq (zF (cs:=[_,_,_,_,_,_]) zxQ pl96 rfl) ?_;refine de rfl (zj zxQ rfl fun b3=> ?_)
 refine de0 (zp zxQ rfl rfl rfl rfl rfl ?_)
 refine gz1 ?_;refine ze (zk 3 rfl) ?_;refine gz2 ?_;refine dq (zmS (hs':=[zqx ztF,zn5 []]) ca28 rfl ⟨Weak.refl _,zW 3,trivial⟩ (zsZ (r:=ztF) (s:=[]) (by decide) (by decide) (by decide))) ?_;refine gz6 ?_;simp only [zvD,zAA];refine gz1 ?_;refine dq (zF (cs:=[_,_,_]) zcp zGa rfl) ?_;refine dq (za (hs:=[_]) zgx zcp rfl rfl (by decide) (by decide) rfl) ?_;refine dq (zF (cs:=[_,_]) zkX zGb rfl) ?_;refine dq (za (hs:=[_]) zxL zkX rfl rfl (by decide) (by decide) rfl) ?_;refine dq (zmS (hs':=[zjM [ziP],zoQ [zlW]]) ca29 rfl (WeakL.refl _) (zqt (l:=[ziP]) (p:=[zlW]) (by decide) (by decide))) ?_;refine gz8 ?_;simp only [zDB,zCz,zyN];refine zau ?_;refine uGr rfl (fun hc=>zy (j:=0) (a:=zxf) zm4 zbW rfl rfl rfl rfl) ?_;refine zcl ?_;refine uGr rfl (fun hc=>za (hs:=[_,_,_,_]) zq ty9 rfl rfl (by decide) (by decide) rfl) ?_;refine uGr rfl (fun hc=>uCl ca30 rfl (zin (l:=[[97],[98],[98],[97]]) (m:=[[97],[98],[98],[97]]) (by decide))) ?_;refine zdb ?_;refine zw rfl ?_
 rfl
theorem zg6 [Tracks] {y:ScorerS} {x:FillS}:ConP prog 18 [za6 y,.vptr (zb (zaF x)) 0] (.bool (y.Player==x.Player)):=by
 refine uOb func18 ntmps18 ?_;refine zd3 ?_;refine zw rfl ?_
 rfl
theorem zee [Tracks] {l:List Int} (hT:Tracks.on=false):ConP prog 4 [.slice 1 (l.map (.int .i64))] (.bool true):=by
 refine uOb func4 ntmps4 ?_;refine gz5 ?_;refine dq (zF (cs:=[_,_]) ty25 pl25 rfl) ?_;refine de rfl (zvP rfl rfl fun b=> ?_)
 refine zDb (M':=[St b l 0]) rfl ?_;refine gz4 ?_;refine de rfl (uCx 0 ca5 rfl rfl (zgC (a:=0) hT uO) ?_)
 rintro _ _ ⟨k21,a21,rfl,hz21,hc21,ha21,rfl⟩;refine gz1 ?_;refine dq (za (hs:=[_,_]) zq ty9 rfl rfl (by decide) (by decide) rfl) ?_
 focus first
 |refine de rfl (uCx 0 zbS rfl rfl (zo (L:=[_,_]) uS uS uS) ?_)
 |refine de rfl (uCx 1 zbS rfl rfl (zo (L:=[_,_]) uS uS uS) ?_)
 |refine de rfl (uCx 2 zbS rfl rfl (zo (L:=[_,_]) uS uS uS) ?_)
 |refine de rfl (uCx 3 zbS rfl rfl (zo (L:=[_,_]) uS uS uS) ?_)
 rintro _ _ ⟨y24,rfl,hy24,rfl⟩;refine gz1 ?_
 focus first
 |refine de rfl (uCx 0 zeJ rfl rfl (zJ uS uS uS uS) ?_)
 |refine de rfl (uCx 1 zeJ rfl rfl (zJ uS uS uS uS) ?_)
 |refine de rfl (uCx 2 zeJ rfl rfl (zJ uS uS uS uS) ?_)
 |refine de rfl (uCx 3 zeJ rfl rfl (zJ uS uS uS uS) ?_)
 rintro _ _ ⟨y26,rfl,hy26,rfl⟩;refine gz1 ?_;refine dq (za (hs:=[_,_,_,_]) z8 ty3 rfl rfl (by decide) (by decide) rfl) ?_
 focus first
 |refine de rfl (uCx 0 ca6 rfl rfl (zf (L:=[_,_,_,_]) uS uS uS) ?_)
 |refine de rfl (uCx 1 ca6 rfl rfl (zf (L:=[_,_,_,_]) uS uS uS) ?_)
 |refine de rfl (uCx 2 ca6 rfl rfl (zf (L:=[_,_,_,_]) uS uS uS) ?_)
 |refine de rfl (uCx 3 ca6 rfl rfl (zf (L:=[_,_,_,_]) uS uS uS) ?_)
 rintro _ _ ⟨y29,rfl,hy29,rfl⟩;refine de rfl (zj zbt rfl fun b4=> ?_)
 refine de0 (zp zbt rfl rfl rfl rfl rfl ?_)
 refine gz4 ?_;refine ze (zk 4 rfl) ?_;refine gz1 ?_;refine dq (zaK (h:=zbx k21) zbt rfl rfl rfl rfl) ?_;refine gz3 ?_;refine dq (uCl ca14 rfl (zpH (b:=k21) (t:=y24) (w:=y26) (n:=y29) hT hc21)) ?_;refine gz9 ?_;refine dq (zaK (h:=zbx k21) zbt rfl rfl rfl rfl) ?_;refine gz3 ?_;refine dq (uCl ca15 rfl (zpI (b:=k21) (t:=y24) (w:=y26) (n:=y29) hT hc21)) ?_;refine gz6 ?_;have hfs:=zGs (b:=k21) (t:=y24) (w:=y26) (n:=y29);refine gz9 ?_;refine uCo (fun h1=> ?_) fun h2=> ?_
 refine gz4 ?_;refine uGr rfl (fun hc=>uCl ca8 rfl (ziR hT)) ?_;refine gz4 ?_;refine zat Ghost.clear rfl ⟨?_,rfl⟩
 show HVal.bool _=_
 focus first|rfl|(by_cases q:TfE k21 y24 y26 y29=0<;>simp_all;done)|(rcases hcap with q|q<;>simp_all;done)|(simp_all;done)
 refine gz3 ?_;obtain ⟨hE0,hE1⟩:TfE k21 y24 y26 y29=0/\TsE k21 y24 y26 y29=0:=by simp_all
 obtain ⟨hF1,hF2,hF3,hF4⟩:=zDQ hE0;rw [hF1,hF2,hF3];obtain ⟨hte,hfe⟩:=zxJ hE0;obtain ⟨_,_,hsk⟩:=zqC hfe;have hW:=zx2 (zo5 hte).1;have hfo:=zuo hsk (fdC k21 y24 y26 y29) k21.League.Slots k21.League.Slots.length;have hfl:(fdF k21 y24 y26 y29).length=k21.League.Slots.length:=hfo.len;have hsl:=hW.sl;have hdl:(dsL k21 y24 y26 y29).length<=1000000:=by have q:=hsk.len;omega
 refine gz2 ?_;refine dq (zao (f:=zaF) (l:=(fdF k21 y24 y26 y29)) zgf rfl) ?_;refine dq ((by first|exact zg zbt rfl zaM (by decide) rfl|exact zd zbt rfl zaM (by decide) rfl)) ?_;refine dq ((by first|exact zg zaM rfl zbG (by decide) rfl|exact zd zaM rfl zbG (by decide) rfl)) ?_;refine dq (zO (h:=zbB k21.League.Slots) zbG rfl rfl rfl) ?_;refine dq (zao (f:=zbo) (l:=k21.League.Slots) zbG rfl) ?_;refine gz2 ?_;refine zX rfl (fun h3=> ?_) (fun h3=> ?_)
 exfalso
 try simp at h3
 omega
 try simp at h3
 refine gz5 ?_;refine ze (zN 1) ?_;refine gz3 ?_;refine dq (zao (f:=zaF) (l:=(fdF k21 y24 y26 y29)) zgf rfl) ?_;refine gz3 ?_;refine uV2 [2,1,13,3,67,34] (fun (k:Nat) (u:Value)=>[(67,.int .i64 k),(13,.raw u)]) (fun (k:Nat) (u:Value)=>[St b l (a21+1+1+1),.arr u 1 ((zgL (fdF k21 y24 y26 y29) k).map .str)]) (fun (k:Nat) (u:Value)=>k<=(fdF k21 y24 y26 y29).length/\(True)) (fun (k:Nat) (u:Value)=>(fdF k21 y24 y26 y29).length-k) (0) (.slice none 0 0) ?_ ?_ ?_ ?_;exact ⟨Ad _,trivial⟩;exact ⟨rfl,rfl,trivial⟩;exact uP
 intro k u hinv
 obtain ⟨hk,-⟩:=hinv;refine gz4 ?_;refine uCo (fun h4=> ?_) fun h5=> ?_
 obtain ⟨x,hx⟩: ∃x,(fdF k21 y24 y26 y29)[k]? =some x:=⟨_,Aa h4⟩
 have hdx:=zi hx;have hx0:=hx;have hkl:=zn hx;refine gz6 ?_;refine dq (zy (f:=zaF) (l:=(fdF k21 y24 y26 y29)) (j:=k) (a:=x) zgf zca rfl rfl rfl hx) ?_;refine dq (zaK (h:=zaF x) zca rfl rfl rfl rfl) ?_;refine de rfl (zj zca rfl fun b15=> ?_)
 refine gz1 ?_;refine de0 (zp zca rfl rfl rfl rfl rfl ?_)
 refine gz1 ?_;refine ze (zk 15 rfl) ?_;refine gz1 ?_;refine uDr mixed ?_;refine uB 0 rfl ((by first|exact zg zca rfl ty9 (by decide) rfl|exact zd zca rfl ty9 (by decide) rfl)) ?_;refine gz1 ?_;refine uB 2 rfl ((by first|exact zg zbt rfl zaM (by decide) rfl|exact zd zbt rfl zaM (by decide) rfl)) ?_;refine uB 3 rfl ((by first|exact zg zaM rfl zbG (by decide) rfl|exact zd zaM rfl zbG (by decide) rfl)) ?_;refine uB 4 rfl (zO (h:=zbB k21.League.Slots) zbG rfl rfl rfl) ?_;refine gz1 ?_;refine uB 6 rfl (zy (f:=zbo) (l:=k21.League.Slots) (j:=k) (a:=k21.League.Slots.getD k zbI) zbG zce rfl rfl rfl (getD_some uO)) ?_;refine uB 7 rfl ((by first|exact zg zce rfl ty9 (by decide) rfl|exact zd zce rfl ty9 (by decide) rfl)) ?_;refine gz3 ?_;refine zX rfl (fun h6=> ?_) (fun h6=> ?_)
 exfalso
 try simp at h6
 have q:=hfo.key k x hx0;simp_all
 try simp at h6
 refine gz4 ?_;refine dq ((by first|exact zg zca rfl ty9 (by decide) rfl|exact zd zca rfl ty9 (by decide) rfl)) ?_;refine gz3 ?_;refine uCo (fun h7=> ?_) fun h8=> ?_
 refine gz8 ?_;exact ⟨k+1,u,⟨by omega,trivial⟩,uD,⟨rfl,rfl,trivial⟩,uK,zm (by dsimp only;rw [zDS hx0 (by assumption)])⟩;refine gz3 ?_;obtain ⟨hno,y,hy,hcm⟩:=hfo.who k x hx0 (by assumption);have hwh:=zwu (f:=(fdF k21 y24 y26 y29)) (k:=k) (s:=x.Player) (by assumption);rw [hno] at hwh;have hwl:=zwv (fdF k21 y24 y26 y29) k;have hya:=zDI hy;refine gz2 ?_;refine dq ((by first|exact zg zca rfl ty9 (by decide) rfl|exact zd zca rfl ty9 (by decide) rfl)) ?_;refine gz1 ?_;refine de rfl (zeY (hs':=[.slice 1 ((zgL (fdF k21 y24 y26 y29) k).map .str),.str x.Player]) zfX rfl ⟨.arr (i:=1) rfl,.weak (Weak.refl _),trivial⟩ (zC (l:=zgL (fdF k21 y24 y26 y29) k) (s:=x.Player) uO) rfl ?_)
 refine gz3 ?_;refine uGr rfl (fun hc=>uCl ca17 rfl (zez (l:=(dsL k21 y24 y26 y29)) (p:=fun y=>y.Player==x.Player) ca18 (fun _=>zg6) hdl)) ?_;refine gz3 ?_;refine zX rfl (fun h9=> ?_) (fun h9=> ?_)
 exfalso
 try simp at h9
 obtain ⟨z,hz1,hz2⟩:=List.any_eq_true.1 hya
 replace hz2:z.Player=x.Player:=by simpa using hz2
 rcases h9 with q|q
 have q2:(zgL (fdF k21 y24 y26 y29) k).contains x.Player=true:=by simpa using q
 rw [hwh] at q2;cases q2;exact q z hz1 hz2
 try simp at h9
 refine gz4 ?_;refine dq ((by first|exact zg zca rfl ty9 (by decide) rfl|exact zd zca rfl ty9 (by decide) rfl)) ?_;refine gz1 ?_;refine dq (za (hs:=[_]) zq ty9 rfl rfl (by decide) (by decide) rfl) ?_;refine de rfl (zK (i:=1) zq ty9 rfl rfl rfl rfl rfl (by simp [zar,zb]) (by simp only [Ah,Ai,AB];omega) fun v99=> ?_)
 refine gz8 ?_;exact ⟨k+1,v99,⟨by omega,trivial⟩,uD,⟨rfl,rfl,trivial⟩,uK,zm (by dsimp only;rw [zC1 hx0 (by assumption),Az];rfl)⟩;have hnk:(fdF k21 y24 y26 y29).length<=k:=by omega
 obtain rfl:k=(fdF k21 y24 y26 y29).length:=by omega
 refine gz2 ?_;refine zM ?_;refine gz2 ?_;refine ze (zaJ 13 (i:=1) rfl rfl) ?_;have hwl:=zwv (fdF k21 y24 y26 y29) (fdF k21 y24 y26 y29).length;have hnn:=zDA (zF7 hW hfe);have hcap:fdP k21 y24 y26 y29=[]\/(zgL (fdF k21 y24 y26 y29) (fdF k21 y24 y26 y29).length).contains (fdP k21 y24 y26 y29)=true:=by
  by_cases q:fdP k21 y24 y26 y29=[]
  exact .inl q;refine .inr ?_;rw [zwu q,Ak];exact zC6 q
 refine gz1 ?_;refine dq (zaK (h:=zbx k21) zbt rfl rfl rfl rfl) ?_;refine gz3 ?_;refine dq (uCl ca19 rfl (zqj (b:=k21) (t:=y24) (w:=y26) (n:=y29) hT hc21)) ?_;refine gz3 ?_;refine de rfl (zj zav rfl fun b16=> ?_)
 refine de0 (zp zav rfl rfl rfl rfl rfl ?_)
 refine gz2 ?_;refine ze (zk 16 rfl) ?_;rw [hE0,hF4];refine gz4 ?_;refine uGr rfl (fun hc=>(by first|exact zg zav rfl ty3 (by decide) rfl|exact zd zav rfl ty3 (by decide) rfl)) ?_;refine gz9 ?_;refine uGr rfl (fun hc=>by have hq:=hc;(try simp at hq);exact uCl zfX rfl (zC (l:=zgL (fdF k21 y24 y26 y29) (fdF k21 y24 y26 y29).length) (s:=fdP k21 y24 y26 y29) uO)) ?_;refine gz3 ?_;refine uGr rfl (fun hc=>uCl ca8 rfl (ziR hT)) ?_;refine gz4 ?_;refine zat Ghost.clear rfl ⟨?_,rfl⟩
 show HVal.bool _=_
 focus first|rfl|(by_cases q:TfE k21 y24 y26 y29=0<;>simp_all;done)|(rcases hcap with q|q<;>simp_all;done)|(simp_all;done)
end
end Go.Proofs.YtbmggbfabohegaaGreatDoor
namespace Go.HL
section
open Go
theorem zyp {P:Program} (h:P.funcs.toList.any Func.goes=false) (f:FuncId):P.goes f=false:=by
 have hf: ∀g:Nat,(P.funcs[g]?).any Func.goes=false:=fun g=>by
  cases hg:P.funcs[g]? with
  |none=>rfl
  |some fn=>
    have:fn∈P.funcs.toList:=by
     obtain ⟨hlt,rfl⟩:=Array.getElem?_eq_some_iff.1 hg
     simp
    have:=List.any_eq_false.1 h fn this
    simpa using this
 have ha:P.funcs.any Func.goes=false:=by rw [<-Array.any_toList];exact h
 unfold Program.goes;rw [ha,Bool.and_false,Bp];rw [BH]
 intro g _
 rw [hf g];simp
theorem goesBy_none {P:Program} {c:OpenClaim} (h:P.funcs.toList.any Func.goes=false):false=c.goesBy P:=by
 have hg:=zyp h;unfold OpenClaim.goesBy Program.goesAt Program.goesFrom;have h1:(P.funcNamed c.func).any P.goes=false:=by
  cases P.funcNamed c.func with
  |none=>rfl
  |some f=>exact hg f
 have h2:P.inits.toList.any P.goes=false:=List.any_eq_false.2 fun x _=>by rw [hg x];simp
 rw [h1]
 cases c.start<;>simp [h2,hg]
end
section
open Go
theorem zte {H:Type} {enc:TypeId×Value->H} {a:Assume} {C:Checked} {os:Os} {f:FuncId} {fn:Func} {s:ChangeSpec} {conds:List PathCond} {apart fresh handsOn again:Bool} {X:World->Array Value->Prop}
 (hX: ∀(w w':World) (args:Array Value),w.heap=w'.heap->X w args->X w' args)
 (own:ownKnob C.prog.godebug=none) (started:os.Started) (noInit:C.prog.inits.idxOf? f=none) (hfn:C.prog.funcs[f]? =some fn)
 (witness: ∃(w:World) (tape:Tape) (i:Input),w.os=os/\(w.forCall tape i).Shaped C.prog/\i.vars=[]/\Input.okWide C.prog (w.forCall tape i) .any w.heap.size f i/\
   ((s.pre enc C.prog fn conds apart (w.forCall tape i).memory i.args/\X (w.forCall tape i).memory i.args)/\sizedMet enc C.prog fn (OpenSpec.ofChange s) apart (w.forCall tape i).memory i.args)/\a.holds C.prog (lone (Frame.enter C.prog f i.args .normal) [] (w.forCall tape i)))
 (contract: ∀(W:World) (base:Nat) (args:Array Value) (ds gs:List (DataW H)) (before:List MemPlace),
   (∀(j:Nat) t v,fn.params[j]? =some t->args[j]? =some v->Value.okWide C.prog W .any base t v)->DataW.Whole enc C.prog fn.params.toList s.vars apart W args.toList ds gs before->
   X W args->W.ShapedOpen C.prog->Calls C.prog f args W fun e W'=> ∃v,e= .returned v/\s.post enc C.prog fn apart fresh handsOn again W args v W'):
 ReturnsInHanded a C os f .any (fun w args=>(s.pre enc C.prog fn conds apart w args/\X w args)/\sizedMet enc C.prog fn (OpenSpec.ofChange s) apart w args) (s.post enc C.prog fn apart fresh handsOn again):=by
 refine returnsInHanded_of_calls own started noInit witness fun w tape i _ hsh _ hok hpre _=> ?_
 obtain ⟨_,_,_,fn',hfn',_,_,_,_,hval⟩:=hok;obtain rfl:fn'=fn:=Aw (hfn'.symm.trans hfn);obtain ⟨⟨⟨ds,gs,before,hw,_⟩,hx⟩,_⟩:=hpre;refine (contract (w.forCall tape i) w.heap.size i.args ds gs before hval (DataW.Whole.of_heap (w':=w.forCall tape i) (by rfl) hw) (hX _ _ _ (by rfl) hx) hsh).mono fun e W' ⟨v,he,hp⟩=> ?_
 subst he;exact ChangeSpec.post_blind hp
end
section
open Go.Sort Go.Proofs Go.RowKit Go.Lib
variable {P:Program}
theorem zvc {W:World} {laid:List (String×DataW Unit)} {i3 i4 g3 g4 t5 t119 t138 t139:Nat} {fs:Array Field} (h:laidMet P laid W)
 (e3:laid[i3]? =some ("unicode/utf8.first",firstData)) (e4:laid[i4]? =some ("unicode/utf8.acceptRanges",acceptData))
 (n3:P.globalNamed "unicode/utf8.first" =some g3) (n4:P.globalNamed "unicode/utf8.acceptRanges" =some g4) (y3:(P.globals[g3]?).map (·.type)=some t119) (y4:(P.globals[g4]?).map (·.type)=some t139)
 (u5:P.underlying t5=some (.int .u8)) (u119:P.underlying t119=some (.array 256 t5)) (u138:P.underlying t138=some (.struct fs)) (u139:P.underlying t139=some (.array 16 t138))
 (c5:P.cellsOf t5=1) (c119:P.cellsOf t119=256) (c138:P.cellsOf t138=2) (hs:fs.size=2) (hf:(fs.toList.map fun f=>(f.type,f.offset))=[(t5,0),(t5,1)]):
 (∀c,c<256->W.cell? ⟨g3,c,none⟩=some (.int .u8 (Lib.firstT c)))/\(∀i,i<16->W.cell? ⟨g4,2*i,none⟩=some (.int .u8 (Lib.accLo i))/\W.cell? ⟨g4,2*i+1,none⟩=some (.int .u8 (Lib.accHi i))):=by
 obtain ⟨ps,h1,_⟩:=h;have h3:VarReads P W "unicode/utf8.first" firstData:=zrK h1 i3 e3;have h4:VarReads P W "unicode/utf8.acceptRanges" acceptData:=zrK h1 i4 e4;refine ⟨fun c hc=> ?_,fun i hi=> ?_⟩
 obtain ⟨g,t,cs,fuel,p,hg,hty,hvar,hd⟩:=h3;obtain rfl:=Aw (n3.symm.trans hg);obtain rfl:=Aw (y3.symm.trans hty);have hcs:=cells_of_tab u119 u5 c5 c119 hd;have:=World.var?_cell hg hvar c;rw [this,<-AS,hcs]
 simp [firstTab,hc]
 obtain ⟨g,t,cs,fuel,p,hg,hty,hvar,hd⟩:=h4;obtain rfl:=Aw (n4.symm.trans hg);obtain rfl:=Aw (y4.symm.trans hty);obtain ⟨fuel',d,q,hdi,he⟩:=array_elem u139 hd i hi;simp only [Ag,Bm hi,AI,Ay] at hdi;subst hdi;rw [c138] at he;have hcs:=ints_of_struct u138 (fun j f hj=>by
  have hq:(fs.toList.map fun f=>(f.type,f.offset))[j]? =some (f.type,f.offset):=by rw [Ag,AS,hj];rfl
  rw [hf] at hq
  match j,hq with
  |0,hq=>simp at hq;exact ⟨by rw [<-hq.1];exact u5,hq.2.symm,by rw [<-hq.1];exact c5⟩
  |1,hq=>simp at hq;exact ⟨by rw [<-hq.1];exact u5,hq.2.symm,by rw [<-hq.1];exact c5⟩
  |j+2,hq=>simp at hq) (by rw [c138,hs]) he
 have a0:=congrArg (·[0]?) hcs;have a1:=congrArg (·[1]?) hcs;simp only [Bh,AK] at a0 a1
 constructor
 rw [World.var?_cell hg hvar (2*i),<-AS]
 simpa [BC] using a0
 rw [World.var?_cell hg hvar (2*i+1),<-AS]
 simpa [BC] using a1
theorem zu9 [Tracks] {W:World} (hp:P.globalNamed "internal/strconv.uint64pow10" =none)
 (hl: ∀g,P.globalNamed "internal/bytealg.MaxLen" =some g->∃m,W.cell? ⟨g,0,none⟩=some (.int .i64 m))
 (hu: ∀g3 g4,P.globalNamed "unicode/utf8.first" =some g3->P.globalNamed "unicode/utf8.acceptRanges" =some g4->(∀c,c<256->W.cell? ⟨g3,c,none⟩=some (.int .u8 (Lib.firstT c)))/\(∀i,i<16->W.cell? ⟨g4,2*i,none⟩=some (.int .u8 (Lib.accLo i))/\W.cell? ⟨g4,2*i+1,none⟩=some (.int .u8 (Lib.accHi i)))):TabI P (zcx W):=by
 refine ⟨fun g hg=>(by rw [hp] at hg;cases hg),fun g hg=> ?_,fun g3 g4 h3 h4=> ?_⟩
 obtain ⟨m,hm⟩:=hl g hg;unfold World.cell? at hm
 cases hh:W.heap[g]? with
 |none=>rw [hh] at hm;cases hm
 |some o=>
   rw [hh] at hm
   cases o with
   |cells c t fr=>exact ⟨c,t,fr,m,hh,by simpa using hm⟩
   |_=>cases hm
 obtain ⟨u1,u2⟩:=hu g3 g4 h3 h4;have key: ∀(g:Nat) (v:Value),W.cell? ⟨g,0,none⟩=some v->∃c t fr,W.heap[g]? =some (.cells c t fr):=fun g v hv=>by
  unfold World.cell? at hv
  cases hh:W.heap[g]? with
  |none=>rw [hh] at hv;cases hv
  |some o=>
    rw [hh] at hv
    cases o with
    |cells c t fr=>exact ⟨c,t,fr,rfl⟩
    |_=>cases hv
 obtain ⟨c3,t3,f3,x3⟩:=key g3 _ (u1 0 (by omega));obtain ⟨c4,t4,f4,x4⟩:=key g4 _ (u2 0 (by omega)).1;refine ⟨c3,t3,f3,c4,t4,f4,x3,x4,fun k hk=> ?_,fun i hi=> ?_⟩
 rw [<-zcj x3];exact u1 k hk;exact ⟨by rw [<-zcj x4];exact (u2 i hi).1,by rw [<-zcj x4];exact (u2 i hi).2⟩
end
end Go.HL
namespace Go.Proofs.YtbmggbfabohegaaGreatDoor
section
open Go.Proofs.Tryz
open Go.ChangeShapes Go.WideShapes Go.ChangeAt Go.RowKit Go.HL
theorem zmO:ownKnob prog.godebug=none:=by kernel_rfl
theorem zf8:laidOutB prog=true:=by kernel_rfl
theorem zlm:prog.cellsOf 3=1:=by kernel_rfl
theorem zm0 {W:World} (h:laidMetH prog Rows.fieldedAreScorersRow.laid W) (hsh:W.ShapedOpen prog):TabI prog (zcx W):=by
 rw [MakeChecks.laidMetH_plain _ _ _ (by kernel_rfl)] at h
 letI:Tracks:=⟨false⟩
 refine zu9 (by kernel_rfl) (fun g hg=> ?_) (fun g3 g4 h3 h4=> ?_)
 obtain rfl:0=g:=Aw ((show prog.globalNamed "internal/bytealg.MaxLen" =some 0 by kernel_rfl).symm.trans hg);exact Go.Proofs.cell_of_shapedOpen_int (zero:= #[.int .i64 0]) (t:=3) hsh (of_decide_eq_true (by kernel_rfl)) (by kernel_rfl) rfl (by kernel_rfl) (by kernel_rfl) underlying3;obtain rfl:1=g3:=Aw ((show prog.globalNamed "unicode/utf8.first" =some 1 by kernel_rfl).symm.trans h3);obtain rfl:2=g4:=Aw ((show prog.globalNamed "unicode/utf8.acceptRanges" =some 2 by kernel_rfl).symm.trans h4);exact zvc (i3:=1) (i4:=0) h (by kernel_rfl) (by kernel_rfl) (by kernel_rfl) (by kernel_rfl) (by kernel_rfl) (by kernel_rfl) underlying5 underlying381 underlying383 underlying384 (by kernel_rfl) (by kernel_rfl) (by kernel_rfl) rfl rfl
theorem zll {W:World} (ht:TabI prog (zcx W)) {a:Option Addr} {len cap:Nat} {H:Type} {enc:TypeId×Value->H} {d0:DataW H} {p:List MemPlace} (h:DataW.Trod enc prog W 0 (fun _=>true) true 22 (.slice a len cap) d0 p):
 Calls prog 4 #[.slice a len cap] W fun e W'=>e= .returned (.bool true)/\Below W.heap.size W W':=by
 obtain ⟨fuel,hf⟩:=h
 rcases open_ints underlying22 underlying3 zlm hf with ⟨hcs,hx⟩|⟨a',len',cap',zs,hcs,_,hl,hm,hz,hx,hcell,hwz⟩
 simp [Value.cells] at hcs
 obtain ⟨rfl,rfl,rfl⟩:=hcs
 letI:Tracks:=⟨false⟩
 exact zuh (l:=[]) (zee rfl) ht (.slice0 _ _ _)
 simp [Value.cells] at hcs
 obtain ⟨rfl,rfl,rfl⟩:=hcs;simp only [if_true] at hz
 letI:Tracks:=⟨false⟩
 exact zuh (l:=zs.take len) (zee rfl) ht (zDR hcell (by omega) hl)
set_option maxRecDepth 100000 in
theorem zkD (os:Os) (started:os.Started) (H:Type) (enc:TypeId×Value->H):
 ReturnsInHanded {} Tryz.checked os 4 .any (fun w args=>(Rows.fieldedAreScorersSpec.pre enc prog f4 Rows.fieldedAreScorersRow.domain false w args/\laidMetH prog Rows.fieldedAreScorersRow.laid w)/\sizedMet enc prog f4 (OpenSpec.ofChange Rows.fieldedAreScorersSpec) false w args)
  (Rows.fieldedAreScorersSpec.post enc prog f4 false true false false):=by
 refine zte (C:=Tryz.checked) (X:=fun w _=>laidMetH prog Rows.fieldedAreScorersRow.laid w) (fun _ _ _ hh h=>h.of_heap hh) zmO started (by kernel_rfl) func4
  (ChangeSpec.witness_shaped (enc:=enc) (C:=Tryz.checked) (os:=os) (X:=fun w _=>laidMetH prog Rows.fieldedAreScorersRow.laid w) false (World.laidAll prog os Rows.fieldedAreScorersRow.laid) #[.slice none 0 0] 8 (World.laidAll_os _ _ _)
    (World.shaped_of_ZipB (by kernel_rfl) (by kernel_rfl)) (by kernel_rfl) (by kernel_rfl) (by kernel_rfl)
    (by rw [MakeChecks.laidMetH_plain _ _ _ (by kernel_rfl)];exact laidMet_laidAll _ (by kernel_rfl) (by kernel_rfl))) ?_
 intro W base args ds gs before hval0 hW hL hsh
 have hval: ∀(j:Nat) t v,f4.params[j]? =some t->args[j]? =some v->Value.okWide prog W .any base t v:=hval0
 have hW':=hW;obtain ⟨p,q,hA0,hV,rfl,_,_⟩:=hW;have hA:DataW.TrodAll enc prog W 0 (fun _=>true) true f4.params.toList args.toList ds p:=hA0;rw [Tryz.params4] at hA hval;obtain ⟨v0,d0,rfl,rfl,h0⟩:=trodAll_one hA;obtain ⟨rfl,rfl⟩:=trodVars_none hV;obtain ⟨a0,len,cap,rfl⟩:=okWide_slice underlying22 (hval 0 22 v0 rfl rfl);simp only [Bb] at hW';have hlt: ∀x∈p,x.block<W.heap.size:=fun x hx=>by simpa using hW'.lt x hx
 refine (zll (zm0 hL hsh) h0).mono fun e W' ⟨he,hb⟩=> ?_
 subst he;have hargs:DataW.Trod enc prog W' 0 (fun b=>decide (b<W.heap.size)) true 22 (.slice a0 len cap) d0 p:=
  Below.trod zf8 (by kernel_rfl) (of_decide_eq_true (by kernel_rfl)) h0 hb hlt
 exact ⟨_,rfl,_,_,_,[],p,[],hW',trodAll_mk1 (shut_bool underlying4 _),trodAll_mk1 hargs,rfl,hb.frame _,fun h=>by cases h⟩
theorem zlU:mapsRowed prog=true:=by kernel_rfl
theorem zlQ:(Rows.fieldedAreScorersRow.inPlace==prog.inPlace 4)=true:=by kernel_rfl
theorem zl8:(Rows.fieldedAreScorersRow.unfollowed==prog.unfollowed 4)=true:=by kernel_rfl
theorem zlY:(Rows.fieldedAreScorersRow.recurses==prog.recurses 4)=true:=by kernel_rfl
theorem zl9:(Rows.fieldedAreScorersRow.named==prog.varsNamed 4)=true:=by kernel_rfl
theorem zlR:joinedFacts prog 4 f4 Rows.fieldedAreScorersSpec Rows.fieldedAreScorersRow=true:=by
 simp only [joinedFacts,A5]
 repeat' apply And.intro
 all_goals first
  |with_reducible exact zf8
  |with_reducible exact zlU
  |with_reducible exact zlQ
  |with_reducible exact zl8
  |with_reducible exact zlY
  |with_reducible exact zl9
  |kernel_rfl
theorem zlS:false=prog.looks []:=by kernel_rfl
theorem zlO:false=Rows.fieldedAreScorersRow.goesBy prog:=Go.HL.goesBy_none (by kernel_rfl)
theorem zma:Rows.fieldedAreScorersRow.wfByText (OpenSpec.ofChange Rows.fieldedAreScorersSpec)=true:=by kernel_rfl
theorem zlT:prog.mainIs=some ("cb67e88421544b3afad6264eacdb0cab502370205802fe8161058710a655bab7" |>fun h=>(true,h.toList)):=by kernel_rfl
theorem zl7:([22].all fun u=> !prog.wantsStandIn u)=true:=by kernel_rfl
theorem zhB:prog.funcNamed Rows.fieldedAreScorersRow.func=some 4:=by kernel_rfl
theorem zlr:Rows.FieldedAreScorersSaid:=
 OpenClaim.holds_of_wide 4 f4 rfl rfl rfl rfl rfl rfl rfl ⟨rfl,rfl,rfl,rfl,rfl⟩ rfl rfl rfl rfl rfl zhB func4 zlR
  (of_decide_eq_true (by kernel_rfl)) (by unfold Func.isWrapper;first|(rw [if_pos (by decide+kernel)];kernel_rfl)|(rw [if_neg (by decide+kernel)];exact ⟨rfl,rfl⟩))
  (fun os started H enc _=>zkD os started H enc)
theorem cardFieldedAreScorers:Rows.FieldedAreScorersCardSaid:=
 Claim7.holds_tied_plain_at .later [] [.data,.pinned] true (true,"cb67e88421544b3afad6264eacdb0cab502370205802fe8161058710a655bab7") false zlr (fun _ h=>by cases h) zma (fun _ h=>by cases h) fieldedAreScorers_row_tie rfl ⟨rfl,rfl⟩ zlT rfl
  (fun f fn hf hfn=>by
    obtain rfl:f=4:=Aw (zhB.symm.trans hf)|>.symm
    obtain rfl:fn=f4:=(Aw (func4.symm.trans hfn)).symm;exact ⟨zlS,fun j t ht=>by
     rw [Tryz.params4] at ht;have hm:t∈[22]:=by simpa using Array.mem_of_getElem? ht
     have hall:=zl7;exact (show prog.wantsStandIn t=false by simpa using List.all_eq_true.1 hall t hm)⟩)
  zlO
end
end Go.Proofs.YtbmggbfabohegaaGreatDoor
