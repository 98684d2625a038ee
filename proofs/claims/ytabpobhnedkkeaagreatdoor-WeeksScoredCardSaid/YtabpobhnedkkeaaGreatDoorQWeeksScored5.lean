/- Part 5 of the proof: a program logic, contracts of functions and plain facts; no conditions. -/
import Derived.Test.YtabpobhnedkkeaaGreatDoorQWeeksScored4
import Derived.OrdersIn
import Derived.RangeFuncCalls
import Derived.RangeFuncLeaves
import Derived.RangeFuncRecord
import Derived.Sort.LoopGhostIn
set_option linter.unusedVariables false
set_option linter.unusedSimpArgs false
set_option maxHeartbeats 16000000
namespace Go.Proofs.YtabpobhnedkkeaaGreatDoor
set_option maxRecDepth 100000
set_option linter.unusedVariables false
set_option linter.unusedSimpArgs false
section
open Go.Proofs.Tryz
open Go.HL
theorem zr3 [Tracks] {n d:Int} (hn: -1000000000000000<=n/\n<=1000000000000000) (hd:1<=d/\d<=1000000000000):ConP prog 257 [.agg [.int .i64 n,.int .i64 d]] (.bool (zoh n d)):=by
 refine uOb func257 ntmps257 ?_;refine gz4 ?_;refine uDr mixed ?_;refine gz2 ?_;refine uB 2 rfl (zP (zeE ty3 zs7 rfl) (congrArg (HVal.int .u64) (zvT uO uO))) ?_;refine gz2 ?_;refine uB 5 rfl (zP (zeE ty3 zs7 rfl) (congrArg (HVal.int .u64) (show IntKind.wrap .u64 d=((d.natAbs:Nat):Int) by rw [zvT uO uO,if_neg uO];omega))) ?_;refine gz3 ?_;refine uVj [3,1,11,5] (fun (z0:Unit)=>[(3,.int .u64 ((n.natAbs:Nat):Int))]) (fun (z0:Unit)=>[]) (fun (z0:Unit)=>True) ?_ ?_
 skip
 refine gz5 ?_;refine uCo (fun h1=> ?_) fun h2=> ?_
 refine gz2 ?_;refine dq (zP (zw6 rfl) (congrArg (HVal.int .u64) (show IntKind.wrap .u64 (-(if n<0 then n+18446744073709551616 else n))=((n.natAbs:Nat):Int) by rw [if_pos (by assumption),zBO uO uO];omega))) ?_;refine gz2 ?_;exact ⟨(),trivial,⟨rfl,trivial⟩,uK,Ac _⟩;refine gz1 ?_;exact ⟨(),trivial,⟨congrArg (fun q=>some (HVal.int .u64 q)) (show (if n<0 then n+18446744073709551616 else n)=((n.natAbs:Nat):Int) by rw [if_neg uO];omega),trivial⟩,uK,Ac _⟩
 intro z0 _
 refine gz2 ?_;refine uT2 [3,2,16,6] (fun a b=>[(3,.int .u64 ((a:Nat):Int)),(4,.int .u64 ((b:Nat):Int))]) (fun a b=>[]) (fun a b=>Nat.gcd a b=Nat.gcd n.natAbs d.natAbs) (fun a b=>b) (n.natAbs) (d.natAbs) ?_ ?_
 rfl
 intro a b hg
 refine gz5 ?_;refine uCo (fun h3=> ?_) fun h4=> ?_
 have hb0:0<b:=by omega
 refine gz3 ?_;refine zh8 mixed ?_;refine gz3 ?_;refine uB 3 rfl (zP (zdp rfl rfl uO) (congrArg (HVal.int .u64) (zrO a b))) ?_;refine gz4 ?_;refine ⟨b,a%b,?_,?_,⟨rfl,rfl,trivial⟩,uK,Ac _⟩
 exact zpG.trans hg
 dsimp only;exact B4 _ hb0
 obtain rfl:b=0:=by omega
 rw [Co] at hg;refine gz2 ?_;refine zQ ?_;refine gz8 ?_;refine zu rfl ?_
 show HVal.bool _=_
 unfold zoh;rw [<-hg]
 congr 1
 rw [AE]
 simp
 try omega
theorem zr0 [Tracks] {n d most:Int} (hn: -1000000000000000<=n/\n<=1000000000000000) (hd: -1000000000<=d/\d<=1000000000) (hm:0<=most/\most<=1000000):ConP prog 180 [.agg [.int .i64 n,.int .i64 d],.int .i64 most] (.int .i64 (za2 n d most)):=by
 refine uOb func180 ntmps180 ?_;refine zdf ?_;refine dg rfl rfl (fun hc=>by
  have hd1:1<=d:=by (have q:=hc;simp at q;omega)
  exact ⟨_,OpenTo.upd (t:=10) rfl uC (OpenTo.refl _),uCl zDV rfl (zr3 (n:=n) (d:=d) uO uO)⟩) ?_
 refine gz4 ?_;refine uCo (fun h1=> ?_) fun h2=> ?_
 refine gz4 ?_;refine uRp ?_;unfold za2
 focus first
 |(rw [if_pos uSa];done)
 |(rw [if_neg uSa,if_pos uSa];done)
 |(rw [if_neg uSa,if_neg uSa];done)
 have hd1:1<=d:=by (first|omega|(simp_all;omega))
 have hmd:=zsG (a:=most) (b:=d) (A:=1000000) (B:=1000000000) uO uO uO uO;have hmn: -most*d= -(most*d):=Bx _ _;refine gz3 ?_;refine dq (zdp rfl rfl uO) ?_;refine gz5 ?_;refine uGr rfl (fun hc=>by have hq:=hc;(try simp at hq);exact zgU rfl uO uO) ?_;refine gz2 ?_;refine uGr rfl (fun hc=>by have hq:=hc;(try simp at hq);exact zbu rfl rfl uO uO) ?_;refine gz3 ?_;refine uGr rfl (fun hc=>by have hq:=hc;(try simp at hq);exact zbu rfl rfl uO uO) ?_;refine uGr rfl (fun hc=>uCl zd9 rfl zaL) ?_;refine gz3 ?_;refine uCo (fun h3=> ?_) fun h4=> ?_
 refine gz4 ?_;refine uRp ?_;unfold za2
 focus first
 |(rw [if_pos uSa];done)
 |(rw [if_neg uSa,if_pos uSa];done)
 |(rw [if_neg uSa,if_neg uSa];done)
 refine gz7 ?_;refine uRp ?_;unfold za2
 focus first
 |(rw [if_pos uSa];done)
 |(rw [if_neg uSa,if_pos uSa];done)
 |(rw [if_neg uSa,if_neg uSa];done)
theorem zy5 [Tracks] {x y:Int} (hx:0<=x) (hy:0<=y):ConP prog 312 [.int .i64 x,.int .i64 y] (.int .i64 (zfz x y)):=by
 refine uOb func312 ntmps312 ?_;refine gz5 ?_;refine uU2 [0,2,5,6] (fun (a:Int) (b:Int)=>[(0,.int .i64 a),(1,.int .i64 b)]) (fun (a:Int) (b:Int)=>[]) (fun (a:Int) (b:Int)=>0<=a/\0<=b/\zfz a b=zfz x y) (fun (a:Int) (b:Int)=>b.toNat) (x) (y) ?_ ?_;exact ⟨hx,hy,rfl⟩;rintro a b ⟨ha,hb,hg⟩;refine gz5 ?_;refine uCo (fun h1=> ?_) fun h2=> ?_
 have hbn:b≠0:=by simpa using h1
 have hb0:0<b:=by omega
 have hm0:=CF b ha;have hm1:=B3 a hb0;refine gz3 ?_;refine zh8 mixed ?_;refine gz3 ?_;refine uB 3 rfl (zdp rfl rfl uO) ?_;refine gz4 ?_;refine ⟨b,a.tmod b,?_,?_,⟨rfl,rfl,trivial⟩,uK,Ac _⟩
 exact ⟨hb,hm0,by rw [zCf ha hb0];exact hg⟩
 dsimp only;omega
 have hb0:b=0:=by simpa using h2
 subst hb0;rw [zCe ha] at hg;refine gz2 ?_;refine zQ ?_;refine gz7 ?_;refine uRp ?_;rw [<-hg]
theorem zr2 [Tracks] {n d:Int} (hn: -9000000000000000000<=n/\n<=9000000000000000000) (hd:0<d/\d<=9000000000000000000):ConP prog 255 [.int .i64 n,.int .i64 d] (zkA (zpW n d)):=by
 refine zaQ func255 rfl ntmps255 rfl rfl ?_;refine gz1 ?_;refine de rfl (zg zaM rfl fun b4=> ?_)
 refine gz4 ?_;refine dq (zgU rfl uO uO) ?_;refine dq (zP (h':= .int .i64 (max n (-n))) (zqD rfl rfl) (congrArg (HVal.int .i64) zxS)) ?_;refine gz1 ?_;refine dq (uCl zID rfl (zy5 (x:=max n (-n)) (y:=d) uO uO)) ?_;refine gz2 ?_;have hgp:=zyh (a:=max n (-n)) hd.1;refine uDr mixed ?_;refine gz2 ?_;refine uB 2 rfl (zbZ rfl rfl uO uO uO) ?_;refine gz2 ?_;refine uB 5 rfl (zbZ rfl rfl uO uO uO) ?_;refine uB 6 rfl (zC (cs:=[_,_]) zaM zls rfl) ?_;refine uF 7 ?_;refine zI (zj zaM rfl rfl rfl rfl rfl ?_)
 refine ⟨uE,?_⟩
 refine gz2 ?_;refine ⟨_,_,zm 4 rfl,[_],_,⟨⟨_,_,_,_,_,rfl,zaM,.inr ⟨rfl,rfl,rfl⟩⟩,trivial⟩,Weak.refl _,?_,rfl⟩
 rfl
theorem zqG [Tracks] {n d:Int} (hd:1<=d/\d<=100) (hw: -1000000000000<=zew n d/\zew n d<=1000000000000):ConP prog 313 [.agg [.int .i64 n,.int .i64 d]] (.int .i64 (zew n d)):=by
 unfold zew at hw;refine uOb func313 ntmps313 ?_;refine gz4 ?_;refine uDr mixed ?_;refine gz4 ?_;refine uB 4 rfl (zbZ rfl rfl uO uO uO) ?_;refine uB 5 rfl (zbu rfl rfl uO uO) ?_;refine gz3 ?_;refine zu rfl ?_
 rfl
theorem zoQ [Tracks] {n:Int} (hn: -1000000000000000<=n/\n<=1000000000000000):ConP prog 177 [.int .i64 n] (zkA (ofH n)):=by
 refine zaQ func177 rfl ntmps177 rfl rfl ?_;refine gz1 ?_;refine de rfl (zg zaM rfl fun b2=> ?_)
 refine gz3 ?_;refine dq (uCl zH4 rfl (zr2 (n:=n) (d:=100) uO uO)) ?_;refine de0 (uY 0 ?_)
 refine gz2 ?_;exact ⟨_,_,zm 2 rfl,[_],_,⟨⟨_,_,_,_,_,rfl,zaM,.inr ⟨rfl,rfl,rfl⟩⟩,trivial⟩,Weak.refl _,rfl,rfl⟩
theorem zqU [Tracks] {x:LineS} (hx:LineOk x):ConP prog 254 [zaq x] (.int .i64 0):=by
 have hln:=hx.len;have hky:=hx.ky;have hwk:=hx.wk;refine uOb func254 ntmps254 ?_;refine gz9 ?_;refine dq (uCl zcG rfl zaz) ?_;refine gz3 ?_;refine zam rfl (fun h1=> ?_) (fun h1=> ?_)
 exfalso
 try simp at h1
 simp_all
 try simp at h1
 refine gz3 ?_;refine dq (uCl zli rfl zcL) ?_;refine gz3 ?_;refine zam rfl (fun h2=> ?_) (fun h2=> ?_)
 exfalso
 try simp at h2
 simp_all
 try simp at h2
 refine gz7 ?_;refine zam rfl (fun h3=> ?_) (fun h3=> ?_)
 exfalso
 try simp at h3
 omega
 try simp at h3
 refine zcg ?_;refine uT1 [2,3,23,30] (fun k=>[(23,.int .i64 k)]) (fun k=>[]) (fun k=>k<=x.Stats.length/\(True)) (fun k=>x.Stats.length-k) (0) ?_ ?_;exact ⟨Ad _,trivial⟩;rintro k ⟨hk,-⟩;refine gz4 ?_;refine uCo (fun h4=> ?_) fun h5=> ?_
 obtain ⟨y,hy⟩: ∃y,x.Stats[k]? =some y:=⟨_,Aa h4⟩
 have hdy:=zi hy;have hat:=hx.at hy;refine gz8 ?_;refine de rfl (zg zbD rfl fun b4=> ?_)
 refine gz1 ?_;refine de0 (zj zbD rfl rfl rfl rfl rfl ?_)
 refine gz1 ?_;refine zd (zm 4 rfl) ?_;refine gz4 ?_;refine dq (uCl zcG rfl zaz) ?_;refine gz3 ?_;refine zam rfl (fun h6=> ?_) (fun h6=> ?_)
 exfalso
 try simp at h6
 have q:=hat.1;simp_all
 try simp at h6
 refine gz3 ?_;refine dq (uCl zd9 rfl zaL) ?_;refine gz2 ?_;refine zam rfl (fun h7=> ?_) (fun h7=> ?_)
 exfalso
 try simp at h7
 have q:=hat.2.1;simp [out] at h7;omega
 try simp at h7
 refine uDr mixed ?_;refine gz9 ?_;refine uGy 9 rfl rfl (fun hc=>by have hq:=hc;(try simp at hq);exact zB (f:=zaG) (l:=x.Stats) (j:=k-1) (a:=x.Stats.getD (k-1) zeK) zdb zbD rfl rfl uO (getD_some uO)) ?_;refine gz6 ?_;refine zam rfl (fun h8=> ?_) (fun h8=> ?_)
 exfalso
 try simp at h8
 obtain ⟨q1,q2⟩:=h8;have q3:=hat.2.2 uO
 simp_all
 try simp at h8
 refine gz8 ?_;refine ⟨k+1,?_,?_,⟨rfl,trivial⟩,uK,Ac _⟩
 exact ⟨by omega,trivial⟩
 dsimp only;omega
 have hnk:x.Stats.length<=k:=by omega
 obtain rfl:k=x.Stats.length:=by omega
 refine gz2 ?_;refine zv ?_;refine gz6 ?_;refine zu rfl ?_
 rfl
theorem zvl [Tracks] {R:List RuleS} {pos:List Str} {l:List LineS} (hR:R.length<=1000000) (hb: ∀x∈R,((-1000000000<=x.Num/\x.Num<=1000000000)/\ -1000000000<=x.Den/\x.Den<=1000000000)) (hz:zhs R=0) (hp:zci pos=0) (hl:l.length<=1000000) (hxl: ∀x∈l,LineOk x):ConP prog 176 [zfv R,eSs pos,zbJ l] (.int .i64 0):=by
 obtain ⟨hp1,hp2⟩:=zBr hp;refine uOb func176 ntmps176 ?_;refine gz6 ?_;refine dq (uCl zDz rfl (zjN (l:=R) hR hb)) ?_;refine gz6 ?_;refine zam rfl (fun h1=> ?_) (fun h1=> ?_)
 ·exfalso
  try simp at h1
  simp_all
 ·try simp at h1
  refine gz8 ?_;refine zam rfl (fun h2=> ?_) (fun h2=> ?_)
  ·exfalso
   try simp at h2
   omega
  ·try simp at h2
   refine gz5 ?_;refine dq (uCl zzl rfl (zj3 (l:=pos) uO)) ?_;refine gz6 ?_;refine zam rfl (fun h3=> ?_) (fun h3=> ?_)
   ·exfalso
    try simp at h3
    simp_all
   ·try simp at h3
    refine gz9 ?_;refine uT1 [6,1,10,2,27,10] (fun k=>[(27,.int .i64 k)]) (fun k=>[]) (fun k=>k<=l.length/\(True)) (fun k=>l.length-k) (0) ?_ ?_
    ·exact ⟨Ad _,trivial⟩
    ·rintro k ⟨hk,-⟩;refine gz4 ?_;refine uCo (fun h4=> ?_) fun h5=> ?_
     ·obtain ⟨x,hx⟩: ∃x,l[k]? =some x:=⟨_,Aa h4⟩
      have hdx:=zi hx;have hx1:=hx;refine gz7 ?_;refine de rfl (zg zbg rfl fun b10=> ?_)
      refine de0 (zj zbg rfl rfl rfl rfl rfl ?_)
      refine gz1 ?_;refine zd (zm 10 rfl) ?_;refine gz1 ?_;refine dq (zZ (h:=zaq x) zbg rfl rfl rfl rfl) ?_;refine dq (uCl zH3 rfl (zqU (x:=x) (hxl x (Ab hx)))) ?_;refine gz6 ?_;refine zam rfl (fun h6=> ?_) (fun h6=> ?_)
      ·exfalso
       try simp at h6
       done
      ·try simp at h6
       refine gz7 ?_;refine ⟨k+1,?_,?_,⟨rfl,trivial⟩,uK,Ac _⟩
       ·exact ⟨by omega,trivial⟩
       ·dsimp only;omega
     ·have hnk:l.length<=k:=by omega
      obtain rfl:k=l.length:=by omega
      refine gz2 ?_;refine zv ?_;refine gz6 ?_;refine zu rfl ?_
      rfl
theorem zvm [Tracks] {r:RuleS} {pos:List Str} {x:LineS} (hr:RuleOk r) (hb:zjq x) (hpos:pos.length<=1000000) (hl:x.Stats.length<=1000000):ConP prog 256 [zl1 r,eSs pos,zaq x] (.int .i64 (zgp r pos x)):=by
 obtain ⟨hc1,hc2,hc3⟩:=zpJ hr hb;have hrd:=hr.dn;have hrw:=hr.w;refine uOb func256 ntmps256 ?_;refine zfe ?_;refine uGr rfl (fun hc=>za (hs:=[_]) zo ty9 rfl rfl (by decide) (by decide) rfl) ?_;refine gz1 ?_;refine uGr rfl (fun hc=>uCl zDF rfl (zoE (a:=[r.Position]) (b:=pos) (by simp) hpos)) ?_;refine gz3 ?_;refine uCo (fun h1=> ?_) fun h2=> ?_
 refine gz4 ?_;refine uRp ?_;unfold zgp
 focus first|(simp_all;done)|((repeat' split)<;>focus first|rfl|(exfalso;simp_all;done)|(exfalso;omega)|(simp_all;done))
 refine zfe ?_;refine uU2 [7,1,9,1,25,12] (fun (k:Nat) (n:Int)=>[(25,.int .i64 k),(7,.int .i64 n)]) (fun (k:Nat) (n:Int)=>[]) (fun (k:Nat) (n:Int)=>k<=x.Stats.length/\(zb3 r.Stat 0 x.Stats=zb3 r.Stat n (x.Stats.drop k))) (fun (k:Nat) (n:Int)=>x.Stats.length-k) (0) (0) ?_ ?_;exact ⟨Ad _,rfl⟩;rintro k n ⟨hk,hg⟩;refine gz4 ?_;refine uCo (fun h3=> ?_) fun h4=> ?_
 obtain ⟨y,hy⟩: ∃y,x.Stats[k]? =some y:=⟨_,Aa h3⟩
 have hdy:=zi hy;rw [zuk hy] at hg;refine gz7 ?_;refine de rfl (zg zbD rfl fun b9=> ?_)
 refine de0 (zj zbD rfl rfl rfl rfl rfl ?_)
 refine gz1 ?_;refine zd (zm 9 rfl) ?_;refine gz7 ?_;refine uCo (fun h5=> ?_) fun h6=> ?_
 refine zcg ?_;exact ⟨k+1,y.Count,⟨by omega,by rw [hg,if_pos (by assumption)]⟩,uD,⟨rfl,rfl,trivial⟩,uK,Ac _⟩;refine gz7 ?_;exact ⟨k+1,n,⟨by omega,by rw [hg,if_neg (by assumption)]⟩,uD,⟨rfl,rfl,trivial⟩,uK,Ac _⟩;have hnk:x.Stats.length<=k:=by omega
 obtain rfl:k=x.Stats.length:=by omega
 rw [zz (Ae _)] at hg
 replace hg:zb3 r.Stat 0 x.Stats=n:=hg
 subst hg;refine gz2 ?_;refine zQ ?_;refine gz4 ?_;refine dq (zP (h':= .agg [.int .i64 r.Num,.int .i64 r.Den]) (zav zaM rfl rfl (Ak rfl)) rfl) ?_;refine dq (uCl zIE rfl (zqG (n:=r.Num) (d:=r.Den) hrd uO)) ?_;refine zau ?_;refine uCo (fun h7=> ?_) fun h8=> ?_
 refine gz3 ?_;refine dq (zbu rfl rfl uO uO) ?_;refine gz3 ?_;refine uRp ?_;unfold zgp
 focus first|(simp_all;done)|((repeat' split)<;>focus first|rfl|(exfalso;simp_all;done)|(exfalso;omega)|(simp_all;done))
 refine gz6 ?_;refine uCo (fun h9=> ?_) fun h10=> ?_
 have hmm:=hr.mm uSa;obtain ⟨hc4,hc5⟩:=hc3 uSa;refine gz3 ?_;refine dq (zP (h':= .int .i64 (max (zb3 r.Stat 0 x.Stats) 0)) (zqD rfl rfl) (congrArg (HVal.int .i64) zCA)) ?_;refine gz2 ?_;refine dq (zbZ rfl rfl uO uO uO) ?_;refine dq (zbu rfl rfl uO uO) ?_;refine gz3 ?_;refine uRp ?_;unfold zgp
 focus first|(simp_all;done)|((repeat' split)<;>focus first|rfl|(exfalso;simp_all;done)|(exfalso;omega)|(simp_all;done))
 refine zfe ?_;refine uCo (fun h11=> ?_) fun h12=> ?_
 refine gz2 ?_;refine uCo (fun h13=> ?_) fun h14=> ?_
 refine gz5 ?_;refine uRp ?_;unfold zgp
 focus first|(simp_all;done)|((repeat' split)<;>focus first|rfl|(exfalso;simp_all;done)|(exfalso;omega)|(simp_all;done))
 refine gz7 ?_;refine uRp ?_;unfold zgp
 focus first|(simp_all;done)|((repeat' split)<;>focus first|rfl|(exfalso;simp_all;done)|(exfalso;omega)|(simp_all;done))
 refine zcg ?_;refine uCo (fun h15=> ?_) fun h16=> ?_
 refine gz5 ?_;refine uRp ?_;unfold zgp
 focus first|(simp_all;done)|((repeat' split)<;>focus first|rfl|(exfalso;simp_all;done)|(exfalso;omega)|(simp_all;done))
 refine gz7 ?_;refine uRp ?_;unfold zgp
 focus first|(simp_all;done)|((repeat' split)<;>focus first|rfl|(exfalso;simp_all;done)|(exfalso;omega)|(simp_all;done))
theorem zts [Tracks] {R:List RuleS} {pos:List Str} {x:LineS} (hl:R.length<=100) (hrr: ∀r∈R,RuleOk r) (hb:zjq x) (hpos:pos.length<=1000000) (hs:x.Stats.length<=1000000):ConP prog 178 [zfv R,eSs pos,zaq x] (.int .i64 (zeG R pos x)):=by
 refine uOb func178 ntmps178 ?_;refine zdw ?_;refine uT1 [7,1,9,1,12,11] (fun k=>[(12,.int .i64 k),(7,.int .i64 (zeG (R.take k) pos x))]) (fun k=>[]) (fun k=>k<=R.length/\(True)) (fun k=>R.length-k) (0) ?_ ?_;exact ⟨Ad _,trivial⟩;rintro k ⟨hk,-⟩;refine gz4 ?_;refine uCo (fun h1=> ?_) fun h2=> ?_
 obtain ⟨r,hr⟩: ∃r,R[k]? =some r:=⟨_,Aa h1⟩
 have hdr:=zi hr;have hp1:=zlt hl hrr hb pos k;have hp2:=zlt hl hrr hb pos (k+1);rw [zop hr] at hp2;refine gz7 ?_;refine de rfl (zg zfs rfl fun b9=> ?_)
 refine de0 (zj zfs rfl rfl rfl rfl rfl ?_)
 refine gz1 ?_;refine zd (zm 9 rfl) ?_;refine gz2 ?_;refine dq (zZ (h:=zl1 r) zfs rfl rfl rfl rfl) ?_;refine gz1 ?_;refine dq (zZ (h:=zaq x) zbg rfl rfl rfl rfl) ?_;refine dq (uCl zH5 rfl (zvm (r:=r) (pos:=pos) (x:=x) (hrr r (Ab hr)) hb hpos hs)) ?_;refine gz9 ?_;exact ⟨k+1,⟨by omega,trivial⟩,uD,⟨rfl,by rw [zop hr];rfl,trivial⟩,uK,Ac _⟩;have hnk:R.length<=k:=by omega
 obtain rfl:k=R.length:=by omega
 rw [Am];refine gz2 ?_;refine zv ?_;refine gz7 ?_;refine zu rfl ?_
 rfl
theorem ztr [Tracks] {R:List RuleS} {pos:List Str} {x:LineS} (hR:R.length<=1000000) (hb: ∀x∈R,((-1000000000<=x.Num/\x.Num<=1000000000)/\ -1000000000<=x.Den/\x.Den<=1000000000)) (hz:zhs R=0) (hp:zci pos=0) (hx:LineOk x):ConP prog 87 [zfv R,eSs pos,zaq x] (.tup [zkA (ofH (zeG R pos x)),.int .i64 0]):=by
 obtain ⟨hp1,hp2⟩:=zBr hp;obtain ⟨hr1,hr2⟩:=zxj hz;have hbd:=zlt hr1 hr2 hx.sb pos R.length;rw [Am] at hbd;have hsl:=hx.len;refine zaQ func87 rfl ntmps87 rfl rfl ?_;refine gz2 ?_;refine de rfl (zg zaM rfl fun b6=> ?_)
 refine gz6 ?_;refine dq (zZ (h:=zaq x) zbg rfl rfl rfl rfl) ?_;refine dq (za (hs:=[zaq x]) zeT zbg rfl rfl (by decide) (by decide) rfl) ?_;refine dq (uCl zHh rfl (zvl (R:=R) (pos:=pos) (l:=[x]) hR hb hz hp (by simp) (fun y hy=>by rw [List.mem_singleton.1 hy];exact hx))) ?_;refine gz6 ?_;refine zam rfl (fun h1=> ?_) (fun h1=> ?_)
 ·exfalso
  try simp at h1
  done
 ·try simp at h1
  refine gz5 ?_;refine dq (zZ (h:=zaq x) zbg rfl rfl rfl rfl) ?_;refine dq (uCl zHj rfl (zts (R:=R) (pos:=pos) (x:=x) hr1 hr2 hx.sb uO uO)) ?_;refine dq (uCl zHi rfl (zoQ (n:=zeG R pos x) uO)) ?_;refine de0 (zj (h:=zkA (ofH (zeG R pos x))) zaM rfl rfl rfl rfl rfl ?_)
  refine gz3 ?_;exact ⟨_,_,zm 6 rfl,[_,_],_,⟨⟨_,_,_,_,_,rfl,zaM,.inr ⟨rfl,rfl,rfl⟩⟩,⟨rfl,trivial⟩⟩,Weak.refl _,rfl,rfl⟩
theorem znQ [Tracks] {l:List ScorerS} (hl:l.length<=1000000) (hp: ∀x∈l,x.Positions.length<=1000000) (hb: ∀x∈l,(-1000000000000000<=x.Num/\x.Num<=1000000000000000)/\ -1000000000<=x.Den/\x.Den<=1000000000):ConP prog 88 [zcV l] (.int .i64 (zht l)):=by
 refine uOb func88 ntmps88 ?_;refine gz9 ?_;refine uCo (fun h1=> ?_) fun h2=> ?_
 refine gz4 ?_;refine uRp ?_
 focus first
 | (refine congrArg _ (zbn ?_)
    omega)
 | (refine congrArg _ (zba ?_ hg)
    omega)
 | (refine congrArg _ (zt (e:=5) ?_ hg ?_ ?_)
    omega
    unfold zaa;exact uT
    first|decide|assumption)
 | (refine congrArg _ (zt (e:=7) ?_ hg ?_ ?_)
    omega
    unfold zaa;exact uT
    first|decide|assumption)
 | (refine congrArg _ (zt (e:=(orI [zci x.Positions,za2 x.Num x.Den 10000])) ?_ hg ?_ ?_)
    omega
    unfold zaa;exact uT
    first|decide|assumption)
 refine gz9 ?_;refine uT1 [2,4,11,36] (fun k=>[(11,.int .i64 k)]) (fun k=>[]) (fun k=>k<=l.length/\(za9 zaa zbH l 0 l=za9 zaa zbH l k (l.drop k))) (fun k=>l.length-k) (0) ?_ ?_;exact ⟨Ad _,rfl⟩;rintro k ⟨hk,hg⟩;refine gz4 ?_;refine uCo (fun h3=> ?_) fun h4=> ?_
 obtain ⟨x,hx⟩: ∃x,l[k]? =some x:=⟨_,Aa h3⟩
 have hdx:=zi hx;rw [hdx] at hg;refine gz8 ?_;refine de rfl (zg zcz rfl fun b4=> ?_)
 refine gz1 ?_;refine de0 (zj zcz rfl rfl rfl rfl rfl ?_)
 refine gz1 ?_;refine zd (zm 4 rfl) ?_;refine gz5 ?_;refine dq (uCl zcG rfl zaz) ?_;refine gz3 ?_;refine uCo (fun h5=> ?_) fun h6=> ?_
 refine gz4 ?_;refine uRp ?_
 focus first
 | (refine congrArg _ (zbn ?_)
    omega)
 | (refine congrArg _ (zba ?_ hg)
    omega)
 | (refine congrArg _ (zt (e:=5) ?_ hg ?_ ?_)
    omega
    unfold zaa;exact uT
    first|decide|assumption)
 | (refine congrArg _ (zt (e:=7) ?_ hg ?_ ?_)
    omega
    unfold zaa;exact uT
    first|decide|assumption)
 | (refine congrArg _ (zt (e:=(orI [zci x.Positions,za2 x.Num x.Den 10000])) ?_ hg ?_ ?_)
    omega
    unfold zaa;exact uT
    first|decide|assumption)
 refine uDr mixed ?_;refine gz8 ?_;refine uGy 8 rfl rfl (fun hc=>by have hq:=hc;(try simp at hq);exact zB (j:=k-1) (a:=l.getD (k-1) zbH) zlA zcz rfl rfl uO (getD_some uO)) ?_;refine gz6 ?_;refine uCo (fun h7=> ?_) fun h8=> ?_
 refine gz4 ?_;refine uRp ?_
 focus first
 | (refine congrArg _ (zbn ?_)
    omega)
 | (refine congrArg _ (zba ?_ hg)
    omega)
 | (refine congrArg _ (zt (e:=5) ?_ hg ?_ ?_)
    omega
    unfold zaa;exact uT
    first|decide|assumption)
 | (refine congrArg _ (zt (e:=7) ?_ hg ?_ ?_)
    omega
    unfold zaa;exact uT
    first|decide|assumption)
 | (refine congrArg _ (zt (e:=(orI [zci x.Positions,za2 x.Num x.Den 10000])) ?_ hg ?_ ?_)
    omega
    unfold zaa;exact uT
    first|decide|assumption)
 refine gz3 ?_;refine uDr mixed ?_;refine gz2 ?_;refine uB 2 rfl (uCl zzd rfl (zhO (hp x (Ab hx)))) ?_;refine gz1 ?_;refine uB 4 rfl (zP (h':= .agg [.int .i64 x.Num,.int .i64 x.Den]) (zav zaM rfl rfl (Ak rfl)) rfl) ?_;refine uB 5 rfl (uCl zvB rfl (zr0 (n:=x.Num) (d:=x.Den) (most:=10000) (hb x (Ab hx)).1 (hb x (Ab hx)).2 uO)) ?_;refine uB 6 rfl (za (hs:=[_,_]) zg0 zhv rfl rfl (by decide) (by decide) rfl) ?_;refine uB 7 rfl (uCl zpt rfl (zdH (l:=[_,_]) (by simp))) ?_;refine gz6 ?_;refine uCo (fun h9=> ?_) fun h10=> ?_
 refine gz5 ?_;refine uRp ?_
 focus first
 | (refine congrArg _ (zbn ?_)
    omega)
 | (refine congrArg _ (zba ?_ hg)
    omega)
 | (refine congrArg _ (zt (e:=5) ?_ hg ?_ ?_)
    omega
    unfold zaa;exact uT
    first|decide|assumption)
 | (refine congrArg _ (zt (e:=7) ?_ hg ?_ ?_)
    omega
    unfold zaa;exact uT
    first|decide|assumption)
 | (refine congrArg _ (zt (e:=(orI [zci x.Positions,za2 x.Num x.Den 10000])) ?_ hg ?_ ?_)
    omega
    unfold zaa;exact uT
    first|decide|assumption)
 refine gz7 ?_;refine ⟨k+1,?_,?_,⟨rfl,trivial⟩,uK,Ac _⟩
 refine ⟨by omega,?_⟩
 rw [hg,za6 (by unfold zaa;(try clear hdx hg);(try simp only [Ag]);focus first|(simp_all;done)|((repeat' split)<;>focus first|rfl|(exfalso;omega)|(simp_all;done)|(exfalso;rcases ‹_\/_› with q|q<;>simp_all;done)|(exfalso;simp_all;omega)))]
 dsimp only;omega
 have hnk:l.length<=k:=by omega
 obtain rfl:k=l.length:=by omega
 rw [zz (Ae _)] at hg;refine gz2 ?_;refine zv ?_;refine gz6 ?_;refine uRp ?_
 focus first
 | (refine congrArg _ (zbn ?_)
    omega)
 | (refine congrArg _ (zba ?_ hg)
    omega)
 | (refine congrArg _ (zt (e:=5) ?_ hg ?_ ?_)
    omega
    unfold zaa;exact uT
    first|decide|assumption)
 | (refine congrArg _ (zt (e:=7) ?_ hg ?_ ?_)
    omega
    unfold zaa;exact uT
    first|decide|assumption)
 | (refine congrArg _ (zt (e:=(orI [zci x.Positions,za2 x.Num x.Den 10000])) ?_ hg ?_ ?_)
    omega
    unfold zaa;exact uT
    first|decide|assumption)
theorem zgB [Tracks] {l:List FillS} {fid:FuncId} {caps:List HVal} {p:FillS->Bool} (hca:Callable prog fid) (hp: ∀x,ConP prog fid ([zaw x]++caps) (.bool (p x))) (hl:l.length<=1000000):ConP prog 183 [.slice 2 (l.map zaw),.fn (.func fid) [] caps] (.int .i64 (zS p l 0)):=by
 refine uOb func183 ntmps183 ?_;refine zau ?_;refine uT1 [4,2,8,11] (fun k=>[(8,.int .i64 k)]) (fun k=>[]) (fun k=>k<=l.length/\(zS p l 0=zS p (l.drop k) k)) (fun k=>l.length-k) (0) ?_ ?_;exact ⟨Ad _,rfl⟩;rintro k ⟨hk,hg⟩;refine gz4 ?_;refine uCo (fun h1=> ?_) fun h2=> ?_
 obtain ⟨x,hx⟩: ∃x,l[k]? =some x:=⟨_,Aa h1⟩
 have hdx:=zi hx;rw [hdx] at hg;refine zdw ?_;refine dq (zag hca rfl rfl (WeakL.refl _) (hp _)) ?_;refine gz1 ?_;refine uCo (fun h3=> ?_) fun h4=> ?_
 refine gz5 ?_;refine uRp ?_
 first|(rw [hg];rfl)|(rw [hg];simp_all [zS])
 refine gz7 ?_;refine ⟨k+1,?_,?_,⟨rfl,trivial⟩,uK,Ac _⟩
 refine ⟨by omega,?_⟩
 rw [hg,zS,if_neg uSa];rfl
 dsimp only;omega
 have hnk:l.length<=k:=by omega
 obtain rfl:k=l.length:=by omega
 rw [zz (Ae _)] at hg;refine gz2 ?_;refine zv ?_;refine gz6 ?_;refine uRp ?_
 first|(rw [hg];rfl)|(rw [hg];simp_all [zS])
theorem zf1 [Tracks] {l:List FillS} {fid:FuncId} {caps:List HVal} {p:FillS->Bool} (hca:Callable prog fid) (hp: ∀x,ConP prog fid ([zaw x]++caps) (.bool (p x))) (hl:l.length<=1000000):ConP prog 91 [.slice 2 (l.map zaw),.fn (.func fid) [] caps] (.bool (l.any p)):=by
 refine uOb func91 ntmps91 ?_;refine gz6 ?_;refine dq (uCl zHl rfl (zgB hca hp hl)) ?_;refine gz4 ?_;refine zu rfl ?_
 congr 1;exact zb9 p l 0 uO
theorem zdd [Tracks] {l:List ScorerS} {fid:FuncId} {caps:List HVal} {p:ScorerS->Bool} (hca:Callable prog fid) (hp: ∀x,ConP prog fid ([zbm x]++caps) (.bool (p x))) (hl:l.length<=1000000):ConP prog 106 [.slice 5 (l.map zbm),.fn (.func fid) [] caps] (.int .i64 (zS p l 0)):=by
 refine uOb func106 ntmps106 ?_;refine zau ?_;refine uT1 [4,2,8,11] (fun k=>[(8,.int .i64 k)]) (fun k=>[]) (fun k=>k<=l.length/\(zS p l 0=zS p (l.drop k) k)) (fun k=>l.length-k) (0) ?_ ?_;exact ⟨Ad _,rfl⟩;rintro k ⟨hk,hg⟩;refine gz4 ?_;refine uCo (fun h1=> ?_) fun h2=> ?_
 obtain ⟨x,hx⟩: ∃x,l[k]? =some x:=⟨_,Aa h1⟩
 have hdx:=zi hx;rw [hdx] at hg;refine zdw ?_;refine dq (zag hca rfl rfl (WeakL.refl _) (hp _)) ?_;refine gz1 ?_;refine uCo (fun h3=> ?_) fun h4=> ?_
 refine gz5 ?_;refine uRp ?_
 first|(rw [hg];rfl)|(rw [hg];simp_all [zS])
 refine gz7 ?_;refine ⟨k+1,?_,?_,⟨rfl,trivial⟩,uK,Ac _⟩
 refine ⟨by omega,?_⟩
 rw [hg,zS,if_neg uSa];rfl
 dsimp only;omega
 have hnk:l.length<=k:=by omega
 obtain rfl:k=l.length:=by omega
 rw [zz (Ae _)] at hg;refine gz2 ?_;refine zv ?_;refine gz6 ?_;refine uRp ?_
 first|(rw [hg];rfl)|(rw [hg];simp_all [zS])
theorem zcp [Tracks] {l:List LineS} {fid:FuncId} {caps:List HVal} {p:LineS->Bool} (hca:Callable prog fid) (hp: ∀x,ConP prog fid ([zaq x]++caps) (.bool (p x))) (hl:l.length<=1000000):ConP prog 85 [.slice 3 (l.map zaq),.fn (.func fid) [] caps] (.int .i64 (zS p l 0)):=by
 refine uOb func85 ntmps85 ?_;refine zau ?_;refine uT1 [4,2,8,11] (fun k=>[(8,.int .i64 k)]) (fun k=>[]) (fun k=>k<=l.length/\(zS p l 0=zS p (l.drop k) k)) (fun k=>l.length-k) (0) ?_ ?_;exact ⟨Ad _,rfl⟩;rintro k ⟨hk,hg⟩;refine gz4 ?_;refine uCo (fun h1=> ?_) fun h2=> ?_
 obtain ⟨x,hx⟩: ∃x,l[k]? =some x:=⟨_,Aa h1⟩
 have hdx:=zi hx;rw [hdx] at hg;refine zdw ?_;refine dq (zag hca rfl rfl (WeakL.refl _) (hp _)) ?_;refine gz1 ?_;refine uCo (fun h3=> ?_) fun h4=> ?_
 refine gz5 ?_;refine uRp ?_
 first|(rw [hg];rfl)|(rw [hg];simp_all [zS])
 refine gz7 ?_;refine ⟨k+1,?_,?_,⟨rfl,trivial⟩,uK,Ac _⟩
 refine ⟨by omega,?_⟩
 rw [hg,zS,if_neg uSa];rfl
 dsimp only;omega
 have hnk:l.length<=k:=by omega
 obtain rfl:k=l.length:=by omega
 rw [zz (Ae _)] at hg;refine gz2 ?_;refine zv ?_;refine gz6 ?_;refine uRp ?_
 first|(rw [hg];rfl)|(rw [hg];simp_all [zS])
theorem zf2 [Tracks] {l:List LineS} {fid:FuncId} {caps:List HVal} {p:LineS->Bool} (hca:Callable prog fid) (hp: ∀x,ConP prog fid ([zaq x]++caps) (.bool (p x))) (hl:l.length<=1000000):ConP prog 192 [.slice 3 (l.map zaq),.fn (.func fid) [] caps] (.bool (l.any p)):=by
 refine uOb func192 ntmps192 ?_;refine gz6 ?_;refine dq (uCl zBZ rfl (zcp hca hp hl)) ?_;refine gz4 ?_;refine zu rfl ?_
 congr 1;exact zb9 p l 0 uO
end
end Go.Proofs.YtabpobhnedkkeaaGreatDoor
namespace Go.HL
section
open Go Op
structure BookX (b:BookS):Prop where
 w:BookW b
 gm: ∀x∈b.League.Games,zar x.Week=true/\b.League.Teams.contains x.Home=true/\b.League.Teams.contains x.Away=true/\x.Played=false
 st:0<=b.League.Start/\b.League.Start+36288000000<=345686400000
 ru:zhs b.League.Rules=0
 sl:zeS b.League.Slots=0
 pl:zb7 b.Plays=0
 tr:zcB b.League.Trust=0
 me:zbY b.Mends=0
 po: ∀p∈b.League.Players,zci p.Positions=0
theorem zpb {b:BookS} (h:zbz b=0):BookX b:=by
 obtain ⟨h1,h2⟩:=zwb h;have h3:=ziN (zvL h1);have hW:=zFL h;unfold zbQ at h1;rw [if_neg (fun q=>q (zvL h1))] at h1
 split at h1
 cases h1
 rename_i hp
 split at h1
 rename_i q;exact absurd h1 q
 rename_i h4
 split at h1
 cases h1
 rename_i h5
 rw [not_or] at h5;have h6:zgo b.League.Teams b.League.Games=0:=h3 _ (by simp);have h7:zff 1000 (zcP b.League.Teams) ze3 b.League.Games=0:=by
  unfold zgo at h6
  split at h6
  rename_i q;exact absurd h6 q
  unfold zeP at h6
  split at h6
  rename_i q;exact absurd h6 q
  rename_i q
  exact Decidable.not_not.1 q
 obtain ⟨_,h8⟩:=zhf h7;have h9:=ziN (l:=[zi6 b.League.Breaks,zcB b.League.Trust]) (Decidable.not_not.1 h4);refine ⟨hW,fun x hx=> ?_,?_,h3 _ (by simp),h3 _ (by simp),ziN h2 _ (by simp),h9 _ (by simp),ziN h2 _ (by simp),fun p hp=> ?_⟩
 obtain ⟨i,hi,rfl⟩:=AR hx;have h10:=h8 i _ (Aa hi);unfold zcP at h10
 split at h10
 cases h10
 rename_i a1
 split at h10
 cases h10
 rename_i a2
 rw [not_or] at a2;refine ⟨by simpa using a1,by simpa using a2.1,by simpa using a2.2,?_⟩
 have:zdy b.League.Games=false:=by simpa using hp
 unfold zdy at this;have:=List.any_eq_false.1 this _ hx
 simpa using this
 have:zN b.League.Start=true:=by simpa using h5.1
 unfold zN out at this
 simp at this
 omega
 obtain ⟨i,hi,rfl⟩:=AR hp;have h10:=(zhf hW.py).2 i _ (Aa hi);unfold zdo at h10
 split at h10
 cases h10
 split at h10
 cases h10
 exact h10
theorem zuh {b:BookS} (h:BookX b) {w:Int} (hw:zar w=true):zN (zaH b.League w)=true/\0<=zaH b.League w/\zaH b.League w<=345686400000/\zaH b.League (w+1)<=345686400000/\zaH b.League (w+1)=zaH b.League w+604800000:=by
 have h1:=h.st;have h2:1<=w/\w<=60:=by unfold zar out at hw;simp at hw;omega
 have h3:0<=zaH b.League w/\zaH b.League w+604800000<=345686400000:=by unfold zaH;omega
 refine ⟨?_,by omega,by omega,?_,?_⟩
 unfold zN out;simp;omega;unfold zaH;omega;unfold zaH;omega
/-! the lines of a week,and scorers-/
abbrev wlL (b:BookS) (w n:Int):List LineS:=knL b.Plays b.League.Trust (zdP b.Mends w) w n
abbrev wlE (b:BookS) (w n:Int):Int:=zf7 b.Plays b.League.Trust w n
def zlx (g:LeagueS) (L:List LineS) (s:Str):Option ScorerS:=
 match plO g.Players s with
 |none=>none
 |some p=>match L.find? (fun x=>x.Player==s) with
   |none=>some ⟨s,p.Positions,0,1,false⟩
   |some x=>some ⟨s,p.Positions,(ofH (zeG g.Rules p.Positions x)).Num,(ofH (zeG g.Rules p.Positions x)).Den,true⟩
def zjl (g:LeagueS) (L:List LineS) (own:List Str):List ScorerS:=own.filterMap (zlx g L)
theorem zly {g:LeagueS} {L:List LineS} {own:List Str} {k:Nat} {s:Str} (h:own[k]? =some s):zjl g L (own.take (k+1))=zjl g L (own.take k)++(zlx g L s).toList:=by
 unfold zjl;rw [zW h,List.filterMap_append]
 cases e:zlx g L s<;>simp [e]
theorem zkW (g:LeagueS) (L:List LineS) (own:List Str):(zjl g L own).length<=own.length:=List.length_filterMap_le _ _
theorem zGk {L:List PlayerS} {s:Str} (h: ∃x,x∈L/\x.Key=s): ∃p,plO L s=some p:=by
 obtain ⟨x,hx,e⟩:=h
 cases hq:plO L s with
 |none=>have:=List.find?_eq_none.1 hq x hx;simp [e] at this
 |some p=>exact ⟨p,rfl⟩
theorem zsX {g:LeagueS} {L:List LineS} {s:Str} (h:plO g.Players s=none):zlx g L s=none:=by unfold zlx;rw [h]
theorem zjm {g:LeagueS} {L:List LineS} {s:Str} {p:PlayerS} (h:plO g.Players s=some p) (h2:L.find? (fun x=>x.Player==s)=none):zlx g L s=some ⟨s,p.Positions,0,1,false⟩:=by
 unfold zlx;rw [h];dsimp only;rw [h2]
theorem zjn {g:LeagueS} {L:List LineS} {s:Str} {p:PlayerS} {x:LineS} (h:plO g.Players s=some p) (h2:L.find? (fun x=>x.Player==s)=some x):
 zlx g L s=some ⟨s,p.Positions,(ofH (zeG g.Rules p.Positions x)).Num,(ofH (zeG g.Rules p.Positions x)).Den,true⟩:=by
 unfold zlx;rw [h];dsimp only;rw [h2]
theorem zwH {l:List Play} {t:List Str} {w n:Int} (h1:zb7 l=0) (h2:zcB t=0) (h3:zar w=true) (h4:zN n=true):zmT l t w n=zdN l t w n/\zmS l t w n=zf7 l t w n:=by
 have e:orI [zb7 l,zcB t]=0:=by rw [zdx,h1,h2];rfl
 unfold zmT zmS;rw [e,h3,h4];exact ⟨rfl,rfl⟩
theorem zuK {l:List LineS} {m:List MendS} {n:Int} (h1:zap l=0) (h2:zbY m=0) (h3:zN n=true):zkP l m n=mdL l m n/\zkO l m n=0:=by
 have e:orI [zap l,zbY m]=0:=by rw [zdx,h1,h2];rfl
 unfold zkP zkO;rw [e,h3];exact ⟨rfl,rfl⟩
theorem zBD {g:LeagueS} {L:List LineS} {s:Str} {p:PlayerS} (h:plO g.Players s=some p): ∃sc,zlx g L s=some sc:=by
 cases hq:L.find? (fun x=>x.Player==s) with
 |none=>exact ⟨_,zjm h hq⟩
 |some x=>exact ⟨_,zjn h hq⟩
theorem zBE {g:LeagueS} {L:List LineS} {own:List Str} (hr:zhs g.Rules=0) (hL: ∀x∈L,zjq x): ∀y∈zjl g L own,(-1000000000000000<=y.Num/\y.Num<=1000000000000000)/\ -1000000000<=y.Den/\y.Den<=1000000000:=by
 intro y hy
 obtain ⟨s,_,he⟩:=List.mem_filterMap.1 hy;obtain ⟨r1,r2⟩:=zxj hr
 cases hp:plO g.Players s with
 |none=>rw [zsX hp] at he;cases he
 |some p=>
   cases hq:L.find? (fun x=>x.Player==s) with
   |none=>rw [zjm hp hq] at he;cases he;dsimp only;omega
   |some x=>
     rw [zjn hp hq] at he
     cases he
     have h1:=zlt r1 r2 (hL x (BG hq)) p.Positions g.Rules.length;rw [Am] at h1;have h2:=zGg h1
     dsimp only
     omega
theorem zt8 {g:LeagueS} {L:List LineS} {own:List Str} (hp: ∀p∈g.Players,p.Positions.length<=1000000): ∀y∈zjl g L own,y.Positions.length<=1000000:=by
 intro y hy
 obtain ⟨s,_,he⟩:=List.mem_filterMap.1 hy
 cases hq:plO g.Players s with
 |none=>rw [zsX hq] at he;cases he
 |some p=>
   have hm:=hp p (BG hq)
   cases hl:L.find? (fun x=>x.Player==s) with
   |none=>rw [zjm hq hl] at he;cases he;exact hm
   |some x=>rw [zjn hq hl] at he;cases he;exact hm
abbrev zdj (b:BookS) (t:Str) (w:Int):List Str:=rPl (zdY b.League.Bounds b.Moves (zaH b.League w)) t
abbrev dsL (b:BookS) (t:Str) (w n:Int):List ScorerS:=zjl b.League (wlL b w n) (zdj b t w)
def zfb (b:BookS) (t:Str) (w n:Int):List ScorerS:=if wlE b w n≠0 then [] else dsL b t w n
def fdE (b:BookS) (t:Str) (w n:Int):Int:=if wlE b w n≠0 then wlE b w n else zht (dsL b t w n)
abbrev fdC (b:BookS) (t:Str) (w n:Int):Option ChoiceS:=zpw b.Choices t w n (zaH b.League w)
abbrev fdF (b:BookS) (t:Str) (w n:Int):List FillS:=zae (dsL b t w n) (fdC b t w n) b.League.Slots b.League.Slots.length
abbrev fdP (b:BookS) (t:Str) (w n:Int):Str:=ztB (fdC b t w n) (fdF b t w n)
def FdL (b:BookS) (t:Str) (w n:Int):List ScorerS:=if fdE b t w n≠0 then [] else dsL b t w n
def FdF (b:BookS) (t:Str) (w n:Int):List FillS:=if fdE b t w n≠0 then [] else fdF b t w n
def FdP (b:BookS) (t:Str) (w n:Int):Str:=if fdE b t w n≠0 then [] else fdP b t w n
abbrev zcD (o:Option ChoiceS):ChoiceS:=o.getD zdU
theorem zrH {o:Option ChoiceS} (h:o.isSome=true):pCh o= .vptr (zb (zX (zcD o))) 0:=by
 cases o with
 |none=>cases h
 |some c=>rfl
theorem zEp {o:Option ChoiceS} {f:List FillS} (h1:o.isSome=true) (h2:(zcD o).Captain≠[]) (h3:f.any (fun x=>x.Player==(zcD o).Captain)=true):ztB o f=(zcD o).Captain:=by
 cases o with
 |none=>cases h1
 |some c=>exact if_pos ⟨h2,h3⟩
theorem znU {o:Option ChoiceS} {f:List FillS} (h:(o.isSome=true/\¬(zcD o).Captain=[])/\∃x,x∈f/\x.Player=(zcD o).Captain):ztB o f=(zcD o).Captain:=by
 obtain ⟨⟨h1,h2⟩,x,h3,h4⟩:=h;exact zEp h1 h2 (List.any_eq_true.2 ⟨x,h3,by simpa using h4⟩)
theorem zFM {o:Option ChoiceS} {f:List FillS} (h: ¬((o.isSome=true/\(zcD o).Captain≠[])/\f.any (fun x=>x.Player==(zcD o).Captain)=true)):ztB o f=[]:=by
 cases o with
 |none=>rfl
 |some c=>exact if_neg fun q=>h ⟨⟨rfl,q.1⟩,q.2⟩
theorem zqt {o:Option ChoiceS} {f:List FillS} (h:o.isSome=true->¬(zcD o).Captain=[]->∀x,x∈f->¬x.Player=(zcD o).Captain):ztB o f=[]:=by
 refine zFM fun q=> ?_
 obtain ⟨x,h3,h4⟩:=List.any_eq_true.1 q.2;exact h q.1.1 q.1.2 x h3 (by simpa using h4)
theorem zjS {b:BookS} {t:Str} {w n:Int} (h:wlE b w n≠0):fdE b t w n=wlE b w n:=by unfold fdE;rw [if_pos h]
theorem zhA {b:BookS} {t:Str} {w n:Int} (h:wlE b w n=0):fdE b t w n=zht (dsL b t w n):=by unfold fdE;rw [if_neg (fun q=>q h)]
theorem zyc {b:BookS} (hb:BookW b) {t:Str} {w n f:Int} {c:ChoiceS} (h:zpw b.Choices t w n f=some c):c.Players.length=b.League.Slots.length:=by
 rcases zzq h with q|q
 cases q
 exact (hb.ch c q.1).1
theorem zD6 {b:BookS} (hX:BookX b) (hb:BookC b) {w:Int} (hwk:zar w=true) (n:Int): ∀x∈wlL b w n,zjq x:=by
 have h1:=zgT b.Mends w;have h2:=hb.l2;have h3:=hb.l3;have h:=(zlp (t:=b.League.Trust) (m:=zdP b.Mends w) (week:=w) (n:=n) (zei hX.pl) h2 (by omega) hwk (zit (week:=w) hX.me)).1;exact fun x hx=>(zqA h hx).sb
end
end Go.HL
namespace Go.Proofs.YtabpobhnedkkeaaGreatDoor
set_option maxRecDepth 100000
set_option linter.unusedVariables false
set_option linter.unusedSimpArgs false
section
open Go.Proofs.Tryz
open Go.HL
theorem zlf [Tracks] {b:BookS} {w:Int} (hs: -1000000000000000<=b.League.Start/\b.League.Start<=1000000000000000) (hw: -1000<=w/\w<=1000):ConP prog 83 [.vptr (zy3 b) 0,.int .i64 w] (.int .i64 (zaH b.League w)):=by
 refine uOb func83 ntmps83 ?_;refine zau ?_;refine dq (zbu rfl rfl uO uO) ?_;refine gz4 ?_;refine zu rfl ?_
 rfl
theorem ztn [Tracks] {g:LeagueS} {w:Int} (hs: -1000000000000000<=g.Start/\g.Start<=1000000000000000) (hw: -1000<=w/\w<=1000):ConP prog 83 [.vptr (zx9 g) 0,.int .i64 w] (.int .i64 (zaH g w)):=by
 refine uOb func83 ntmps83 ?_;refine zau ?_;refine dq (zbu rfl rfl uO uO) ?_;refine gz4 ?_;refine zu rfl ?_
 rfl
theorem zi1 [Tracks] {b:BookS} {n w:Int} (hT:Tracks.on=false) (hb:BookC b) (hX:BookX b) (hwk:zar w=true) (hnm:zN n=true):ConP prog 32 [zkz b n,.int .i64 w] (.tup [zbJ (wlL b w n),.int .i64 (wlE b w n)]):=by
 have hla:=hb.bb.lea;have hok:=zei hX.pl;have hpl:=hb.l2;have hmd:=hb.l3;have hom:=zit (week:=w) hX.me;have hol:=zgT b.Mends w;have h40:=zof (l:=b.Plays) (t:=b.League.Trust) (m:=zdP b.Mends w) (week:=w) (n:=n) hok hpl uO;obtain ⟨hsl,hsn⟩:=zgP (t:=b.League.Trust) (week:=w) (n:=n) hok hpl;obtain ⟨hk1,hk2,hk3⟩:=zlp (t:=b.League.Trust) (m:=zdP b.Mends w) (week:=w) (n:=n) hok hpl uO hwk hom;have hwl:(wlL b w n).length<=40:=hk2;refine uOb func32 ntmps32 ?_;refine gz5 ?_;refine uDr mixed ?_;refine gz1 ?_;refine uB 1 rfl (zO (h:= .vptr (zb (zaP b)) 0) ziV rfl rfl rfl) ?_;refine gz2 ?_;refine uB 4 rfl (zO (h:=zbK b.Plays) zh7 rfl rfl rfl) ?_;refine gz1 ?_;refine uB 6 rfl (zO (h:= .vptr (zb (zaP b)) 0) ziV rfl rfl rfl) ?_;refine gz3 ?_;refine uB 10 rfl (zO (h:=eSs b.League.Trust) zo rfl rfl rfl) ?_;refine gz3 ?_;refine uB 14 rfl (zP (h':= .tup [zbJ (zdN b.Plays b.League.Trust w n),.int .i64 (wlE b w n)]) (uCl ca80 rfl (zwe (l:=b.Plays) (trust:=b.League.Trust) (week:=w) (n:=n) hT uO hla.tr)) (by rw [(zwH hX.pl hX.tr hwk hnm).1,(zwH hX.pl hX.tr hwk hnm).2])) ?_;refine zcg ?_;refine uCo (fun h1=> ?_) fun h2=> ?_
 refine gz6 ?_;exact zbV rfl (zbM (by rw [wlL,knL,if_pos (by simpa using h1)];exact zD 3) (Weak.refl _));refine gz5 ?_;refine zd (zJ 7) ?_;refine gz3 ?_;refine dq (zO (h:= .vptr (zb (zaP b)) 0) ziV rfl rfl rfl) ?_;refine gz2 ?_;refine dq (zO (h:=zcq b.Mends) zeg rfl rfl rfl) ?_;refine dq (zaE (f:=zbc) (l:=b.Mends) zeg rfl) ?_;refine gz3 ?_;refine uV2 [8,1,10,1,38,13] (fun (k:Nat) (u:Value)=>[(38,.int .i64 k),(8,.raw u)]) (fun (k:Nat) (u:Value)=>[.arr u 7 ((zdP (b.Mends.take k) w).map zbc)]) (fun (k:Nat) (u:Value)=>k<=b.Mends.length/\(True)) (fun (k:Nat) (u:Value)=>b.Mends.length-k) (0) (.slice none 0 0) ?_ ?_ ?_ ?_;exact ⟨Ad _,trivial⟩;exact ⟨rfl,rfl,trivial⟩;exact zl rfl
 intro k u hinv
 obtain ⟨hk,-⟩:=hinv;refine gz4 ?_;refine uCo (fun h3=> ?_) fun h4=> ?_
 obtain ⟨x,hx⟩: ∃x,b.Mends[k]? =some x:=⟨_,Aa h3⟩
 have hdx:=zi hx;refine gz5 ?_;refine dq (zB (f:=zbc) (l:=b.Mends) (j:=k) (a:=x) zeg zaY rfl rfl rfl hx) ?_;refine gz1 ?_;refine de rfl (zg zaY rfl fun b10=> ?_)
 refine de0 (zj zaY rfl rfl rfl rfl rfl ?_)
 refine gz1 ?_;refine zd (zm 10 rfl) ?_;refine gz6 ?_;refine uCo (fun h5=> ?_) fun h6=> ?_
 refine gz2 ?_;refine dq (zZ (h:=zbc x) zaY rfl rfl rfl rfl) ?_;refine dq (za (hs:=[_]) zeg zaY rfl rfl (by decide) (by decide) rfl) ?_;refine de rfl (zH (i:=0) zeg zaY rfl rfl rfl rfl rfl (by simp [zan,zb]) (by have:=zvu b.Mends w k;simp only [Af,Ah,Ar];omega) fun v49=> ?_)
 refine gz8 ?_;exact ⟨k+1,v49,⟨by omega,trivial⟩,uD,⟨rfl,rfl,trivial⟩,uK,zl (by dsimp only;rw [zCH hx (by assumption),Ay];rfl)⟩;refine gz7 ?_;exact ⟨k+1,u,⟨by omega,trivial⟩,uD,⟨rfl,rfl,trivial⟩,uK,zl (by dsimp only;rw [zE9 hx (by assumption)])⟩;have hnk:b.Mends.length<=k:=by omega
 obtain rfl:k=b.Mends.length:=by omega
 rw [Am];refine gz2 ?_;refine zQ ?_;refine gz2 ?_;refine zd (zay 8 (i:=0) rfl rfl) ?_;have hz:wlE b w n=0:=by simpa using h2
 refine gz5 ?_;refine dq (zP (h':= .tup [zbJ (wlL b w n),.int .i64 (wlE b w n)]) (uCl ca81 rfl (zvh (l:=(zdN b.Plays b.League.Trust w n)) (m:=zdP b.Mends w) (n:=n) uO uO (fun x hx=>An (hsn x hx).1 (by decide)) (fun _=>h40))) (by rw [hz,(zuK (zjv hok hpl hwk hz) hom hnm).1,(zuK (zjv hok hpl hwk hz) hom hnm).2,wlL,knL,if_neg (fun q=>q hz)])) ?_;refine gz6 ?_;exact zu rfl rfl
theorem zlM [Tracks] {x:LineS} {s:Str}:ConP prog 86 [zaq x,.vptr [.str s] 0] (.bool (x.Player==s)):=by
 refine uOb func86 ntmps86 ?_;refine zdf ?_;refine zu rfl ?_
 rfl
theorem zij [Tracks] {b:BookS} {n w:Int} {t:Str} (hT:Tracks.on=false) (hb:BookC b) (hX:BookX b) (hwk:zar w=true) (hnm:zN n=true) (htm:b.League.Teams.contains t=true):ConP prog 34 [zkz b n,.str t,.int .i64 w] (.tup [zcV (zfb b t w n),.int .i64 (wlE b w n)]):=by
 have hla:=hb.bb.lea;have hok:=zei hX.pl;have hpl:=hb.l2;have hmd:=hb.l3;have hom:=zit (week:=w) hX.me;have hol:=zgT b.Mends w;have h40:=zof (l:=b.Plays) (t:=b.League.Trust) (m:=zdP b.Mends w) (week:=w) (n:=n) hok hpl uO;obtain ⟨hsl,hsn⟩:=zgP (t:=b.League.Trust) (week:=w) (n:=n) hok hpl;obtain ⟨hk1,hk2,hk3⟩:=zlp (t:=b.League.Trust) (m:=zdP b.Mends w) (week:=w) (n:=n) hok hpl uO hwk hom;have hwl:(wlL b w n).length<=40:=hk2;obtain ⟨hbm,hb0,hb1,hb2,hb3⟩:=zuh hX hwk;have hW:=hX.w;have hwr:1<=w/\w<=60:=by unfold zar out at hwk;simp at hwk;omega
 have hok2:=zkV (b:=b.League.Bounds) (n:=zaH b.League w) hW.f.mo;have hown:(zdj b t w).length<=1000000:=by
  have q:=(hok2.p t).2
  show (rPl (zdY b.League.Bounds b.Moves (zaH b.League w)) t).length<=1000000
  omega
 have hask:zmk b.League.Bounds b.Moves t (zaH b.League w)=0:=by
  unfold zmk;rw [if_neg (by simp [orI,hW.f.bo,hW.f.mo]),if_neg (by rw [hW.tm t htm];simp),if_neg (by rw [hbm];simp)]
 refine uOb func34 ntmps34 ?_;refine gz6 ?_;refine dq (zZ (h:=zkz b n) zqk rfl rfl rfl rfl) ?_;refine gz1 ?_;refine dq (uCl ca32 rfl (zi1 (b:=b) (n:=n) (w:=w) hT hb hX hwk hnm)) ?_;refine zcg ?_;refine uCo (fun h1=> ?_) fun h2=> ?_
 ·refine gz6 ?_;exact zbV rfl (zbM (by rw [zfb,if_pos (by simpa using h1)];exact zD 5) (Weak.refl _))
 ·refine gz2 ?_;refine uDr mixed ?_;refine gz1 ?_;refine uB 1 rfl (zO (h:= .vptr (zb (zaP b)) 0) ziV rfl rfl rfl) ?_;refine gz3 ?_;refine uB 5 rfl (zP (h':=zet b.League.Bounds) (zav zkf rfl rfl (Ak rfl)) rfl) ?_;refine gz1 ?_;refine uB 7 rfl (zO (h:= .vptr (zb (zaP b)) 0) ziV rfl rfl rfl) ?_;refine gz2 ?_;refine uB 10 rfl (zO (h:=zcA b.Moves) zda rfl rfl rfl) ?_;refine gz2 ?_;refine uB 13 rfl (zO (h:= .vptr (zb (zaP b)) 0) ziV rfl rfl rfl) ?_;refine gz3 ?_;refine uB 17 rfl (uCl zBY rfl (zlf (b:=b) hla.sta uO)) ?_;refine uB 18 rfl (uCl ca82 rfl (zxF (b:=b.League.Bounds) (l:=b.Moves) (t:=t) (n:=zaH b.League w) hb.bb.mv hask)) ?_;refine gz3 ?_;refine uF 22 ?_;refine zw rfl (zg zdZ rfl fun b10=> ?_)
  refine ⟨uE,?_⟩
  refine uF 23 ?_;refine zI (zj zdZ rfl rfl rfl rfl rfl ?_)
  refine ⟨uE,?_⟩
  refine gz2 ?_;refine zd (zm 10 rfl) ?_;have hz:wlE b w n=0:=by simpa using h2
  refine gz3 ?_;refine zd (zJ 5) ?_;refine gz3 ?_;refine dq (zO (h:=eSs (zdj b t w)) zo rfl rfl rfl) ?_;refine dq (zaE (f:=HVal.str) (l:=(zdj b t w)) zo rfl) ?_;refine gz3 ?_;refine uV2 [6,2,9,1,12,1,14,4,52,50] (fun (k:Nat) (u:Value)=>[(52,.int .i64 k),(12,.raw u)]) (fun (k:Nat) (u:Value)=>[.arr u 5 ((zjl b.League (wlL b w n) ((zdj b t w).take k)).map zbm)]) (fun (k:Nat) (u:Value)=>k<=(zdj b t w).length/\(True)) (fun (k:Nat) (u:Value)=>(zdj b t w).length-k) (0) (.slice none 0 0) ?_ ?_ ?_ ?_
  ·exact ⟨Ad _,trivial⟩
  ·exact ⟨rfl,rfl,trivial⟩
  ·exact zl rfl
  ·intro k u hinv
   obtain ⟨hk,-⟩:=hinv;refine gz4 ?_;refine uCo (fun h3=> ?_) fun h4=> ?_
   ·obtain ⟨s,hs⟩: ∃s,(zdj b t w)[k]? =some s:=⟨_,Aa h3⟩
    have hds:=zi hs;refine gz5 ?_;refine dq (zB (f:=HVal.str) (l:=(zdj b t w)) (j:=k) (a:=s) zo ty9 rfl rfl rfl hs) ?_;refine gz1 ?_;refine de rfl (zg ty9 rfl fun b14=> ?_)
    refine de0 (zj ty9 rfl rfl rfl rfl rfl ?_)
    refine gz1 ?_;refine zd (zm 14 rfl) ?_;refine gz1 ?_;refine dq (zZ (h:=zkz b n) zqk rfl rfl rfl rfl) ?_;refine gz1 ?_;refine dq (uCl ca84 rfl (zpj (b:=b) (n:=n) (s:=s) hla.pl hW.so)) ?_;refine gz5 ?_;refine dq (zz3 (o:=(plO b.League.Players s).map fun p=>zb (zeU p)) zJf rfl rfl) ?_;refine gz1 ?_;refine uCo (fun h5=> ?_) fun h6=> ?_
    ·refine gz8 ?_;exact ⟨k+1,u,⟨by omega,trivial⟩,uD,⟨rfl,rfl,trivial⟩,uK,zl (by dsimp only;rw [zly hs,zsX uSa];simp)⟩
    ·refine gz2 ?_;obtain ⟨p,hp⟩:=zGk (L:=b.League.Players) (s:=s) (by assumption);have hpm:=BG hp;rw [hp];refine uVj [16,1,61,8] (fun (b16:Nat)=>[(16,pAt b16)]) (fun (b16:Nat)=>[.cells b16 [.str s,eSs p.Positions,.int .i64 0,.int .i64 1,.bool false],.arr u 5 ((zjl b.League (wlL b w n) ((zdj b t w).take k)).map zbm)]) (fun (b16:Nat)=>True) ?_ ?_
     ·skip
      refine zh8 mixed ?_;refine gz4 ?_;refine uB 4 rfl (zO (h:=eSs p.Positions) zo rfl rfl rfl) ?_;refine uB 6 rfl (zC (cs:=[_,_]) zaM zls rfl) ?_;refine zi4 5 8 rfl rfl (by kernel_rfl) ?_ ?_
      ·skip
       refine zw rfl (zo0 (uCa zlj rfl (zad (l:=p.Positions) (hla.po p hpm)) fun v=>⟨v,rfl,rfl⟩) ?_)
       refine ⟨uE,?_⟩
       refine uB 7 rfl (zC (cs:=[_,_,_,_,_]) zcz zCL rfl) ?_;refine uF 8 ?_;refine zw rfl (zg zcz rfl fun b16=> ?_)
       refine ⟨uE,?_⟩
       refine uF 9 ?_;refine zI (uY 0 ?_)
       refine ⟨uE,?_⟩
       refine uAz ?_;refine ⟨b16,?_,⟨rfl,trivial⟩,uK,zl rfl⟩
       ·trivial
      ·skip
       refine zw rfl (zg zcz rfl fun b16=> ?_)
       refine ⟨uE,?_⟩
       refine uF 5 ?_;refine zw rfl (zo0 (uCa zlj rfl (zad (l:=p.Positions) (hla.po p hpm)) fun v=>⟨v,rfl,rfl⟩) ?_)
       refine ⟨uE,?_⟩
       refine uB 7 rfl (zC (cs:=[_,_,_,_,_]) zcz zCL rfl) ?_;refine uF 9 ?_;refine zI (uY 0 ?_)
       refine ⟨uE,?_⟩
       refine uAz ?_;refine ⟨b16,?_,⟨rfl,trivial⟩,uK,zl rfl⟩
       ·trivial
     ·intro b16 _
      refine gz1 ?_;obtain ⟨sc,hsc⟩:=zBD (L:=wlL b w n) hp;refine gz3 ?_;refine dq (uCl zBZ rfl (zcp (l:=wlL b w n) (p:=fun x=>x.Player==s) ca86 (fun _=>zlM) uO)) ?_;refine gz6 ?_;refine uCo (fun h7=> ?_) fun h8=> ?_
      ·obtain ⟨i0,x0,e1,e2,e3⟩:=zpM (p:=fun x:LineS=>x.Player==s) (l:=wlL b w n) (by assumption);rw [e1];refine gz2 ?_;refine de0 (uY 0 ?_)
       refine gz1 ?_;refine uDr mixed ?_;refine gz1 ?_;refine uB 1 rfl (zO (h:= .vptr (zb (zaP b)) 0) ziV rfl rfl rfl) ?_;refine gz3 ?_;refine uB 5 rfl (zO (h:=zfv b.League.Rules) zrP rfl rfl rfl) ?_;refine gz3 ?_;refine uB 9 rfl (zO (h:=eSs p.Positions) zo rfl rfl rfl) ?_;refine gz2 ?_;refine uB 12 rfl (zB (f:=zaq) (l:=wlL b w n) (j:=i0) (a:=x0) zeT zbg rfl rfl rfl e2) ?_;refine uB 13 rfl (zZ (h:=zaq x0) zbg rfl rfl rfl rfl) ?_;refine uB 14 rfl (uCl ca87 rfl (ztr (R:=b.League.Rules) (pos:=p.Positions) (x:=x0) hla.ru hla.rw' hX.ru (hX.po p hpm) (zqA hk1 (Ab e2)))) ?_;refine gz4 ?_;refine uF 19 ?_;refine zI (uY 0 ?_)
       refine ⟨uE,?_⟩
       refine gz6 ?_;refine zam rfl (fun h9=> ?_) (fun h9=> ?_)
       ·exfalso
        try simp at h9
        done
       ·try simp at h9
        refine gz2 ?_;refine zd (Ghost.perm (M':=[.cells b16 (zb (zbm sc)),.arr u 5 ((zjl b.League (wlL b w n) ((zdj b t w).take k)).map zbm)]) (zl (by rw [zjn hp e3] at hsc;cases hsc;rfl))) ?_;refine zd (zaN 16 (i:=0) rfl rfl) ?_;refine gz2 ?_;refine dq (zZ (h:=zbm sc) zcz rfl rfl rfl rfl) ?_;refine dq (za (hs:=[_]) zlA zcz rfl rfl (by decide) (by decide) rfl) ?_;refine de rfl (zH (i:=0) zlA zcz rfl rfl rfl rfl rfl (by simp [zan,zb]) (by have:=zkW b.League (wlL b w n) ((zdj b t w).take k);simp only [Af,Ah,Ar,Az] at*;omega) fun v100=> ?_)
        refine gz8 ?_;exact ⟨k+1,v100,⟨by omega,trivial⟩,uD,⟨rfl,rfl,trivial⟩,uK,zl (by dsimp only;rw [zly hs,hsc];simp)⟩
      ·refine gz2 ?_;refine zd (Ghost.perm (M':=[.cells b16 (zb (zbm sc)),.arr u 5 ((zjl b.League (wlL b w n) ((zdj b t w).take k)).map zbm)]) (zl (by rw [zjm hp (zpN uO)] at hsc;cases hsc;rfl))) ?_;refine zd (zaN 16 (i:=0) rfl rfl) ?_;refine gz2 ?_;refine dq (zZ (h:=zbm sc) zcz rfl rfl rfl rfl) ?_;refine dq (za (hs:=[_]) zlA zcz rfl rfl (by decide) (by decide) rfl) ?_;refine de rfl (zH (i:=0) zlA zcz rfl rfl rfl rfl rfl (by simp [zan,zb]) (by have:=zkW b.League (wlL b w n) ((zdj b t w).take k);simp only [Af,Ah,Ar,Az] at*;omega) fun v100=> ?_)
       refine gz8 ?_;exact ⟨k+1,v100,⟨by omega,trivial⟩,uD,⟨rfl,rfl,trivial⟩,uK,zl (by dsimp only;rw [zly hs,hsc];simp)⟩
   ·have hnk:(zdj b t w).length<=k:=by omega
    obtain rfl:k=(zdj b t w).length:=by omega
    rw [Am];refine gz2 ?_;refine zQ ?_;refine gz8 ?_
    (refine zA (zay 6 (i:=0) rfl rfl) rfl ⟨?_,rfl⟩
     rw [zfb,if_neg (fun q=>q hz),hz]
     rfl)
end
section
open Go.Proofs.Tryz
open Go.HL
theorem zm1 [Tracks] {b:BoundS}:Con prog 195 [zet b] [] (fun x M'=> ∃ob pb ab,x= .raw (.pointer (some ⟨ob,0,none⟩))/\M'=zcs ob pb ab b [] []):=by
 refine uOb func195 ntmps195 ?_;refine gz6 ?_;refine de rfl (zax fun m4=> ?_)
 refine de rfl (zax fun m5=> ?_)
 refine dq (zC (cs:=[_,_,_,_,_,_]) zEg zI6 rfl) ?_;refine de rfl (ztG rfl rfl fun ob=> ?_)
 refine gz2 ?_;refine zd (Ghost.perm (M':=zcs ob m4 m5 b [] []) uQ) ?_;refine gz1 ?_;exact zaf rfl ⟨_,_,_,rfl,rfl⟩
theorem zii [Tracks] {ob pb ab:Nat} {b:BoundS} {W:List (Str×WhS)} {G:Grp Int} {p:Str}:Con prog 271 [.raw (.pointer (some ⟨ob,0,none⟩)),.str p] (zcs ob pb ab b W G) (fun x M'=>x=eWh (ofO (zbB W G) p)/\M'=(zcs ob pb ab b W G)):=by
 refine zaQ func271 rfl ntmps271 rfl rfl ?_;refine gz1 ?_;refine de rfl (zg zcU rfl fun b4=> ?_)
 refine gz3 ?_;refine dq ((by first|exact zL rfl|exact zx rfl)) ?_;refine gz1 ?_;refine de rfl (uZ 1 ?_)
 refine gz1 ?_;refine de rfl (ziH (i:=2) (f:=eWh) (L:=W) (z0:=whZ) zhj ty9 zcU rfl rfl rfl rfl ?_)
 refine gz3 ?_;refine de rfl (zg zcU rfl fun b5=> ?_)
 refine de0 (zj zcU rfl rfl rfl rfl rfl ?_)
 refine gz2 ?_;refine zd (zm 5 rfl) ?_;refine gz5 ?_;refine uCo (fun h1=> ?_) fun h2=> ?_
 refine gz1 ?_;refine dq (zC (cs:=[_,_,_]) zcU zzX rfl) ?_;refine de0 (zj (h:=eWh wh0) zcU rfl rfl rfl rfl rfl ?_)
 refine gz2 ?_;refine ⟨_,_,zaN 4 (i:=0) rfl rfl,[_],_,⟨⟨_,_,_,_,_,rfl,zcU,.inr ⟨rfl,rfl,rfl⟩⟩,trivial⟩,Weak.refl _,?_,rfl⟩
 show eWh _=eWh _
 focus first
 |(refine congrArg eWh (zD8 ?_).symm;simp_all;done)
 |(refine congrArg eWh (zBn ?_).symm;simp_all;done)
 refine gz3 ?_;refine dq (zZ (h:=eWh ((alk p W).getD whZ)) zcU rfl rfl rfl rfl) ?_;refine de0 (zj (h:=eWh ((alk p W).getD whZ)) zcU rfl rfl rfl rfl rfl ?_)
 refine gz2 ?_;refine ⟨_,_,zaN 4 (i:=0) rfl rfl,[_],_,⟨⟨_,_,_,_,_,rfl,zcU,.inr ⟨rfl,rfl,rfl⟩⟩,trivial⟩,Weak.refl _,?_,rfl⟩
 show eWh _=eWh _
 focus first
 |(refine congrArg eWh (zD8 ?_).symm;simp_all;done)
 |(refine congrArg eWh (zBn ?_).symm;simp_all;done)
theorem zeO [Tracks] {ob pb ab:Nat} {b:BoundS} {W:List (Str×WhS)} {G:Grp Int} {t:Str} {h:Bool} (hn:ANodup W) (hw:W.length<=1000000):Con prog 274 [.raw (.pointer (some ⟨ob,0,none⟩)),.str t,.bool h] (zcs ob pb ab b W G) (fun x M'=>x= .int .i64 (zqB (zbB W G) t h:Int)/\M'=(zcs ob pb ab b W G)):=by
 refine uOb func274 ntmps274 ?_;refine gz9 ?_;refine dq ((by first|exact zL rfl|exact zx rfl)) ?_;refine gz1 ?_;refine de rfl (uZ 0 ?_)
 refine de rfl (ziq (i:=1) zhj rfl rfl fun r=> ?_)
 refine gz2 ?_;refine uV2 [7,1,9,1,15,16] (fun (vis:List Nat) (E:List (Str×WhS))=>[(7,.int .i64 (zoj t h E:Int))]) (fun (vis:List Nat) (E:List (Str×WhS))=>[.cells ob (zy4 b pb ab),.iter r pb (sk (em eWh W)) vis,.map ab (sk (em fG G))]++grp 1 (HVal.int .i64) G) (fun (vis:List Nat) (E:List (Str×WhS))=>VisOk (W) vis E/\(True)) (fun (vis:List Nat) (E:List (Str×WhS))=>(W).length-vis.length) ([]) ([]) ?_ ?_ ?_ ?_;exact ⟨VisOk.nil _,trivial⟩;exact ⟨rfl,trivial⟩;exact zl rfl
 intro vis E hinv
 obtain ⟨hvis,-⟩:=hinv;have hml:=zF9 t h E;have hvl:=hvis.len;refine gz1 ?_;refine de rfl (zio (i:=1) (L:=W) (enc:=(fun p:Str×WhS=>(HVal.str p.1,eWh p.2))) rfl rfl (zmg _ _) hvis.nd hvis.lt fun cb R vis' hnx=> ?_)
 refine gz3 ?_;refine uCo (fun h1=> ?_) fun h2=> ?_
 obtain ⟨j,q,hq,hj,rfl⟩:=hnx.t h1;have hroom:=hvis.room hq hj;have hstep:=hvis.step hq hj;have hqm:=Ab hq;refine gz4 ?_;refine de rfl (zhb (i:=1) (L:=W) (enc:=(fun p:Str×WhS=>(HVal.str p.1,eWh p.2))) rfl rfl (zmg _ _) hq ?_)
 refine gz1 ?_;refine de rfl (zg zcU rfl fun b9=> ?_)
 refine de0 (zj zcU rfl rfl rfl rfl rfl ?_)
 refine gz1 ?_;refine zd (zm 9 rfl) ?_;refine gz1 ?_;refine dq ((by first|exact zk zcU rfl ty9 (by decide) rfl|exact zf zcU rfl ty9 (by decide) rfl)) ?_;refine gz4 ?_;refine uGr rfl (fun hc=>(by first|exact zk zcU rfl ty4 (by decide) rfl|exact zf zcU rfl ty4 (by decide) rfl)) ?_;refine gz2 ?_;refine uGr rfl (fun hc=>zoo ty4 rfl rfl) ?_;refine gz2 ?_;refine uCo (fun h3=> ?_) fun h4=> ?_
 refine gz6 ?_;exact ⟨_,E++[q],⟨hstep,trivial⟩,by dsimp only;rw [Ax];simp only [Ah,Ar];omega,⟨zU (by rw [zE2 (by simp_all [isO])];omega),trivial⟩,uK,zl rfl⟩;refine gz2 ?_;exact ⟨_,E++[q],⟨hstep,trivial⟩,by dsimp only;rw [Ax];simp only [Ah,Ar];omega,⟨zU (by rw [zGa (by simp_all [isO])]),trivial⟩,uK,zl rfl⟩;obtain ⟨rfl,hlen⟩:=hnx.f h2;have hEp:=hvis.done hlen;refine gz2 ?_;refine zQ ?_;refine gz2 ?_;refine zd (zg2 (i:=1) rfl) ?_;refine gz5 ?_;refine zaf rfl ⟨?_,rfl⟩
 rw [zCC hEp]
theorem zlc [Tracks] {ob pb ab:Nat} {b:BoundS} {W:List (Str×WhS)} {G:Grp Int} {t:Str} {n:Int} (hn:ANodup G) (hl:(gL t G).length<=1000000) (hb: ∀m∈gL t G,0<=m/\m<=345686399999) (hnb:0<=n/\n<=345686399999):Con prog 273 [.raw (.pointer (some ⟨ob,0,none⟩)),.str t,.int .i64 n] (zcs ob pb ab b W G) (fun x M'=>x= .int .i64 (zmU (zbB W G) t n:Int)/\M'=(zcs ob pb ab b W G)):=by
 refine uOb func273 ntmps273 ?_;refine gz7 ?_;refine zd (zmQ (A:=zwY ob pb ab b W G) (G:=G) (G':=G) (s:=t) hn rfl) ?_;refine gz2 ?_;refine dq ((by first|exact zL rfl|exact zx rfl)) ?_;refine gz1 ?_;refine de rfl (uZ 1 ?_)
 refine gz1 ?_;refine de rfl (zct (i:=3) (f:=fG) (L:=G) (z0:=gZ Int) zoB ty9 zab rfl rfl rfl rfl ?_)
 show Der _ _ _ _ _ (upd _ 15 (.raw (gV t G))) _
 refine de rfl (zbq (i:=0) (es:=gL t G) zab rfl rfl ?_)
 refine gz3 ?_;refine uT1 [7,1,9,1,17,12] (fun k=>[(17,.int .i64 k),(7,.int .i64 (((gL t G).take k).countP (zka n):Nat))]) (fun k=> .arr (gV t G) 1 ((gL t G).map (HVal.int .i64))::(zwY ob pb ab b W G++grp 1 (HVal.int .i64) (G.filter fun q=>decide (q.1≠t)))) (fun k=>k<=(gL t G).length/\(True)) (fun k=>(gL t G).length-k) (0) ?_ ?_;exact ⟨Ad _,trivial⟩;rintro k ⟨hk,-⟩;refine gz4 ?_;refine uCo (fun h1=> ?_) fun h2=> ?_
 obtain ⟨x,hx⟩: ∃x,(gL t G)[k]? =some x:=⟨_,Aa h1⟩
 have hdx:=zi hx;have hxb:=hb x (Ab hx);have hcl:=List.countP_le_length (p:=zka n) (l:=(gL t G).take k);rw [Az] at hcl;refine gz4 ?_;refine zc3 (i:=0) rfl (fun h0 he=> ?_) (fun bb off cap hv hcap=> ?_)
 exfalso;have q:=congrArg List.length he;rw [Af,Ar] at q;have:=zn hx;omega
 rw [Af] at hv hcap;rw [hv];refine gz1 ?_;refine dq (zM (j:=k) zab ty3 rfl rfl rfl uO) ?_;refine de rfl (zaC (i:=0) (j:=k) 0 ty3 rfl uO rfl hx rfl rfl ?_)
 refine gz4 ?_;refine dq (zbZ rfl rfl uO uO uO) ?_;refine gz1 ?_;refine dq (zbZ rfl rfl uO uO uO) ?_;refine gz2 ?_;refine uCo (fun h3=> ?_) fun h4=> ?_
 refine zcg ?_;exact ⟨k+1,⟨by omega,trivial⟩,uD,⟨rfl,zU (by rw [zwk hx,if_pos (by simp_all [zka])];omega),trivial⟩,uK,Ac _⟩;refine gz7 ?_;exact ⟨k+1,⟨by omega,trivial⟩,uD,⟨rfl,zU (by rw [zwk hx,if_neg (by simp_all [zka])];omega),trivial⟩,uK,Ac _⟩;have hnk:(gL t G).length<=k:=by omega
 obtain rfl:k=(gL t G).length:=by omega
 rw [Am];refine gz2 ?_;refine zv ?_;refine gz2 ?_;refine zd (ztf (A:=zwY ob pb ab b W G) hn) ?_;refine gz5 ?_;refine zaf rfl ⟨?_,rfl⟩
 rw [zmU,zmV]
end
end Go.Proofs.YtabpobhnedkkeaaGreatDoor
namespace Go.HL
section
open Go
theorem zgI [Tracks] {P:Program} {e:Env} {dst:Option Tmp} {ty:TypeId} {pos:String} {af:Array Edge} {g:Option (Nat×Bool)} {M M1 R:List MObj} {K:HVal->List MObj->Prop} {f:FuncId} {args:Array Operand} {ats:Array TypeId}
 {hs hs':List HVal} {h:HVal} (hc:Callable P f) (ha:zdE e args.toList=some hs) (hw:WeakL hs hs') (hm:M.Perm (M1++R)) (hp:Con P f hs' M1 fun x M'=>x=h/\M'=M1) (hk:K h M):
 EOp P e M ⟨dst,.call ⟨.value (.func f),args,ats⟩,ty,pos,af,g⟩ K:=
 zj1 (zaA hc ha hw hm hp (by rintro _ _ ⟨rfl,rfl⟩;exact ⟨M,hm.symm,hk⟩))
section
variable {P:Program} {e:Env} {dst:Option Tmp} {ty:TypeId} {pos:String} {af:Array Edge} {g:Option (Nat×Bool)}
theorem zuR [Tracks] {x:Operand} {t:TypeId} {fs:List (Nat×Nat)} {size bytes:Nat} {zero:Value} {f foff ft:Nat} {d:TD} {s2 b2:Nat} {z2:Value} {cs:List HVal} {h:HVal}
 (hf:Fits P t (.struct fs) size bytes zero) (hfs:fs[f]? =some (foff,ft)) (hft:Fits P ft d s2 b2 z2) (hd:d.isAgg=false) (hx:zh e x=some (.agg cs)) (hc:cs[foff]? =some h):
 POp P e ⟨dst,.field t x f,ty,pos,af,g⟩ h:=
 zF fun I a w ho=>by
  obtain ⟨vs,h1,h2,h3⟩:=(ho.one (x:=x) (by simp [Op.operands]) hx).agg_inv;obtain ⟨gs,h4,h5⟩:=hf.structD;have h6:(gs.toList.map fun f=>(f.offset,f.type))[f]? =some (foff,ft):=by rw [h5];exact hfs
  rw [Aj] at h6
  cases hg:gs.toList[f]? with
  |none=>rw [hg] at h6;simp at h6
  |some fl=>
    rw [hg] at h6
    simp at h6
    obtain ⟨h7,h8⟩:=h6;have hg':gs[f]? =some fl:=by simpa using hg
    have hl:foff<vs.size:=by have q1:=zn hc;have q2:=h2;rw [AM] at q2;omega
    refine ⟨vs[foff],?_,h3 foff h _ hc (by simp [hl])⟩
    simp [execOp,Instr.field,h1,run_underlying h4,hg',asAgg,part,h7,h8,hft.run_isAgg,hd,hl]
end
end
end Go.HL
namespace Go.Proofs.YtabpobhnedkkeaaGreatDoor
set_option maxRecDepth 100000
set_option linter.unusedVariables false
set_option linter.unusedSimpArgs false
section
open Go.Proofs.Tryz
open Go.HL
theorem zlK [Tracks] {ob pb ab:Nat} {b:BoundS} {W:List (Str×WhS)} {G:Grp Int} {p:Str} {n:Int} (hn:0<=n/\n<=345686399999) (hD: -1<=(ofO (zbB W G) p).dropped/\(ofO (zbB W G) p).dropped<=345686399999):Con prog 272 [.raw (.pointer (some ⟨ob,0,none⟩)),.str p,.int .i64 n] (zcs ob pb ab b W G) (fun x M'=>x= .bool (zsp b (zbB W G) p n)/\M'=(zcs ob pb ab b W G)):=by
 refine uOb func272 ntmps272 ?_;refine gz6 ?_;refine de rfl (zgI (M1:=(zcs ob pb ab b W G)) (R:=[]) zDW rfl (WeakL.refl _) (by rw [AV]) zii ?_)
 refine dq (zuR zcU rfl ty3 rfl rfl rfl) ?_;refine zau ?_;refine uGr rfl (fun hc=>(by first|exact zL rfl|exact zx rfl)) ?_;refine gz2 ?_;refine dgl rfl rfl (fun hc=>⟨_,OpenTo.upd (t:=21) rfl uC (OpenTo.refl _),zV (i:=0) ty3 rfl rfl (.inl ⟨rfl,rfl⟩) ⟨rfl,rfl⟩⟩) ?_;refine gz5 ?_;refine zaf rfl ⟨?_,rfl⟩
 show HVal.bool _=_
 unfold zsp
 split<;>focus first|(simp_all;done)|(simp_all;intro q;omega)
theorem zku [Tracks] {ob pb ab:Nat} {b:BoundS} {W:List (Str×WhS)} {G:Grp Int} {x:MoveS} (hx:0<=x.At/\x.At<=345686399999) (ho:OffW 2000 (zbB W G)) (hn:ANodup G):Con prog 196 [.raw (.pointer (some ⟨ob,0,none⟩)),zdD x] (zcs ob pb ab b W G) (fun x1 M'=> ∃n W' G',x1= .int .i64 n/\zbB W' G'=zgR b (zbB W G) x/\ANodup G'/\M'=zcs ob pb ab b W' G'):=by
 refine uOb func196 ntmps196 ?_;refine gz6 ?_;refine dq ((by first|exact zk zy rfl ty9 (by decide) rfl|exact zf zy rfl ty9 (by decide) rfl)) ?_;refine gz1 ?_;refine de rfl (zgI (M1:=(zcs ob pb ab b W G)) (R:=[]) zDW rfl (WeakL.refl _) (by rw [AV]) zii ?_)
 refine de rfl (zg zcU rfl fun b5=> ?_)
 focus first
 |refine de0 (uY 0 ?_)
 |refine de0 (uY 1 ?_)
 |refine de0 (uY 2 ?_)
 |refine de0 (uY 3 ?_)
 refine gz3 ?_
 focus first
 |refine de rfl (uZ 0 ?_)
 |refine de rfl (uZ 1 ?_)
 |refine de rfl (uZ 2 ?_)
 |refine de rfl (uZ 3 ?_)
 refine dq ((by first|exact zk zy rfl ty9 (by decide) rfl|exact zf zy rfl ty9 (by decide) rfl)) ?_;refine gz6 ?_;refine dq ((by first|exact zk zy rfl ty3 (by decide) rfl|exact zf zy rfl ty3 (by decide) rfl)) ?_;refine gz7 ?_;refine uCo (fun h1=> ?_) fun h2=> ?_
 refine gz6 ?_;refine uCo (fun h3=> ?_) fun h4=> ?_
 refine gz4 ?_
 focus first
 | (refine zA Ghost.drop rfl ⟨_,W,G,rfl,zdh ?_,hn,rfl⟩
    unfold zaD
    by_cases hk3:x.Kind=3
    have hb3:(x.Kind==3)=true:=by simp [hk3]
    focus first|(simp_all;done)|(simp_all;omega)|(simp_all;split<;>omega)
    have hb3:(x.Kind==3)=false:=by simp [hk3]
    focus first|(simp_all;done)|(simp_all;omega)|(simp_all;split<;>omega))
 | (refine zA Ghost.drop rfl ⟨_,_,(zp x.Team (v115,gL x.Team G++[x.At]) G),rfl,zdg (v:=v115) ?_ ?_,hn.put,rfl⟩
    unfold zaD
    by_cases hk3:x.Kind=3
    have hb3:(x.Kind==3)=true:=by simp [hk3]
    focus first|(simp_all;done)|(simp_all;omega)|(simp_all;split<;>omega)
    have hb3:(x.Kind==3)=false:=by simp [hk3]
    focus first|(simp_all;done)|(simp_all;omega)|(simp_all;split<;>omega)
    assumption)
 | (refine zA Ghost.drop rfl ⟨_,_,G,rfl,zcI ?_ ?_,hn,rfl⟩
    unfold zaD
    by_cases hk3:x.Kind=3
    have hb3:(x.Kind==3)=true:=by simp [hk3]
    focus first|(simp_all;done)|(simp_all;omega)|(simp_all;split<;>omega)
    have hb3:(x.Kind==3)=false:=by simp [hk3]
    focus first|(simp_all;done)|(simp_all;omega)|(simp_all;split<;>omega)
    assumption)
 | (refine zA Ghost.drop rfl ⟨_,_,G,rfl,zcJ ?_ ?_ ?_,hn,rfl⟩
    unfold zaD
    by_cases hk3:x.Kind=3
    have hb3:(x.Kind==3)=true:=by simp [hk3]
    focus first|(simp_all;done)|(simp_all;omega)|(simp_all;split<;>omega)
    have hb3:(x.Kind==3)=false:=by simp [hk3]
    focus first|(simp_all;done)|(simp_all;omega)|(simp_all;split<;>omega)
    assumption
    assumption)
 refine gz2 ?_
 focus first
 |refine de rfl (uZ 0 ?_)
 |refine de rfl (uZ 1 ?_)
 |refine de rfl (uZ 2 ?_)
 |refine de rfl (uZ 3 ?_)
 refine gz3 ?_;refine uCo (fun h5=> ?_) fun h6=> ?_
 refine gz4 ?_
 focus first
 | (refine zA Ghost.drop rfl ⟨_,W,G,rfl,zdh ?_,hn,rfl⟩
    unfold zaD
    by_cases hk3:x.Kind=3
    have hb3:(x.Kind==3)=true:=by simp [hk3]
    focus first|(simp_all;done)|(simp_all;omega)|(simp_all;split<;>omega)
    have hb3:(x.Kind==3)=false:=by simp [hk3]
    focus first|(simp_all;done)|(simp_all;omega)|(simp_all;split<;>omega))
 | (refine zA Ghost.drop rfl ⟨_,_,(zp x.Team (v115,gL x.Team G++[x.At]) G),rfl,zdg (v:=v115) ?_ ?_,hn.put,rfl⟩
    unfold zaD
    by_cases hk3:x.Kind=3
    have hb3:(x.Kind==3)=true:=by simp [hk3]
    focus first|(simp_all;done)|(simp_all;omega)|(simp_all;split<;>omega)
    have hb3:(x.Kind==3)=false:=by simp [hk3]
    focus first|(simp_all;done)|(simp_all;omega)|(simp_all;split<;>omega)
    assumption)
 | (refine zA Ghost.drop rfl ⟨_,_,G,rfl,zcI ?_ ?_,hn,rfl⟩
    unfold zaD
    by_cases hk3:x.Kind=3
    have hb3:(x.Kind==3)=true:=by simp [hk3]
    focus first|(simp_all;done)|(simp_all;omega)|(simp_all;split<;>omega)
    have hb3:(x.Kind==3)=false:=by simp [hk3]
    focus first|(simp_all;done)|(simp_all;omega)|(simp_all;split<;>omega)
    assumption)
 | (refine zA Ghost.drop rfl ⟨_,_,G,rfl,zcJ ?_ ?_ ?_,hn,rfl⟩
    unfold zaD
    by_cases hk3:x.Kind=3
    have hb3:(x.Kind==3)=true:=by simp [hk3]
    focus first|(simp_all;done)|(simp_all;omega)|(simp_all;split<;>omega)
    have hb3:(x.Kind==3)=false:=by simp [hk3]
    focus first|(simp_all;done)|(simp_all;omega)|(simp_all;split<;>omega)
    assumption
    assumption)
 refine gz2 ?_;refine dq ((by first|exact zk zy rfl ty9 (by decide) rfl|exact zf zy rfl ty9 (by decide) rfl)) ?_;refine gz1 ?_;refine dq ((by first|exact zk zy rfl ty3 (by decide) rfl|exact zf zy rfl ty3 (by decide) rfl)) ?_;refine gz1 ?_;refine de rfl (zgI (M1:=(zcs ob pb ab b W G)) (R:=[_]) zIi rfl (WeakL.refl _) (Bn (l₁:=[_]) (l₂:=(zcs ob pb ab b W G))) (zlK (p:=x.Player) (n:=x.At) hx (ho.dr x.Player)) ?_)
 refine gz2 ?_;refine uCo (fun h7=> ?_) fun h8=> ?_
 refine gz4 ?_
 focus first
 | (refine zA Ghost.drop rfl ⟨_,W,G,rfl,zdh ?_,hn,rfl⟩
    unfold zaD
    by_cases hk3:x.Kind=3
    have hb3:(x.Kind==3)=true:=by simp [hk3]
    focus first|(simp_all;done)|(simp_all;omega)|(simp_all;split<;>omega)
    have hb3:(x.Kind==3)=false:=by simp [hk3]
    focus first|(simp_all;done)|(simp_all;omega)|(simp_all;split<;>omega))
 | (refine zA Ghost.drop rfl ⟨_,_,(zp x.Team (v115,gL x.Team G++[x.At]) G),rfl,zdg (v:=v115) ?_ ?_,hn.put,rfl⟩
    unfold zaD
    by_cases hk3:x.Kind=3
    have hb3:(x.Kind==3)=true:=by simp [hk3]
    focus first|(simp_all;done)|(simp_all;omega)|(simp_all;split<;>omega)
    have hb3:(x.Kind==3)=false:=by simp [hk3]
    focus first|(simp_all;done)|(simp_all;omega)|(simp_all;split<;>omega)
    assumption)
 | (refine zA Ghost.drop rfl ⟨_,_,G,rfl,zcI ?_ ?_,hn,rfl⟩
    unfold zaD
    by_cases hk3:x.Kind=3
    have hb3:(x.Kind==3)=true:=by simp [hk3]
    focus first|(simp_all;done)|(simp_all;omega)|(simp_all;split<;>omega)
    have hb3:(x.Kind==3)=false:=by simp [hk3]
    focus first|(simp_all;done)|(simp_all;omega)|(simp_all;split<;>omega)
    assumption)
 | (refine zA Ghost.drop rfl ⟨_,_,G,rfl,zcJ ?_ ?_ ?_,hn,rfl⟩
    unfold zaD
    by_cases hk3:x.Kind=3
    have hb3:(x.Kind==3)=true:=by simp [hk3]
    focus first|(simp_all;done)|(simp_all;omega)|(simp_all;split<;>omega)
    have hb3:(x.Kind==3)=false:=by simp [hk3]
    focus first|(simp_all;done)|(simp_all;omega)|(simp_all;split<;>omega)
    assumption
    assumption)
 refine zbF (fun M=>M=(.cells b5 (zb (eWh (ofO (zbB W G) x.Player)))::(zcs ob pb ab b W G))) [10] mixed ?_;refine gz1 ?_;refine uB 1 rfl ((by first|exact zk zy rfl ty9 (by decide) rfl|exact zf zy rfl ty9 (by decide) rfl)) ?_;refine gz1 ?_;refine uB 3 rfl ((by first|exact zk zy rfl ty3 (by decide) rfl|exact zf zy rfl ty3 (by decide) rfl)) ?_;refine gz1 ?_;refine uA 6 ?_;refine uB 7 rfl ((by first|exact zL rfl|exact zx rfl)) ?_;refine gz2 ?_;refine uM 10 rfl rfl (fun M hM=>by subst hM;exact zV (i:=1) ty3 rfl rfl (.inl ⟨rfl,rfl⟩) ⟨rfl,rfl⟩) ?_;refine uF 5 ?_;refine zw rfl (zgI (M1:=(zcs ob pb ab b W G)) (R:=[_]) zIj rfl (WeakL.refl _) (Bn (l₁:=[_]) (l₂:=(zcs ob pb ab b W G))) (zlc (t:=x.Team) (n:=x.At) hn (by have:=ho.al x.Team;rw [zmV] at this;omega) (by have:=ho.ab x.Team;rw [zmV] at this;exact this) hx) ?_)
 refine ⟨fun _=> .inl rfl,?_⟩
 refine uA 11 ?_;refine gz2 ?_;refine uCo (fun h9=> ?_) fun h10=> ?_
 refine gz4 ?_
 focus first
 | (refine zA Ghost.drop rfl ⟨_,W,G,rfl,zdh ?_,hn,rfl⟩
    unfold zaD
    by_cases hk3:x.Kind=3
    have hb3:(x.Kind==3)=true:=by simp [hk3]
    focus first|(simp_all;done)|(simp_all;omega)|(simp_all;split<;>omega)
    have hb3:(x.Kind==3)=false:=by simp [hk3]
    focus first|(simp_all;done)|(simp_all;omega)|(simp_all;split<;>omega))
 | (refine zA Ghost.drop rfl ⟨_,_,(zp x.Team (v115,gL x.Team G++[x.At]) G),rfl,zdg (v:=v115) ?_ ?_,hn.put,rfl⟩
    unfold zaD
    by_cases hk3:x.Kind=3
    have hb3:(x.Kind==3)=true:=by simp [hk3]
    focus first|(simp_all;done)|(simp_all;omega)|(simp_all;split<;>omega)
    have hb3:(x.Kind==3)=false:=by simp [hk3]
    focus first|(simp_all;done)|(simp_all;omega)|(simp_all;split<;>omega)
    assumption)
 | (refine zA Ghost.drop rfl ⟨_,_,G,rfl,zcI ?_ ?_,hn,rfl⟩
    unfold zaD
    by_cases hk3:x.Kind=3
    have hb3:(x.Kind==3)=true:=by simp [hk3]
    focus first|(simp_all;done)|(simp_all;omega)|(simp_all;split<;>omega)
    have hb3:(x.Kind==3)=false:=by simp [hk3]
    focus first|(simp_all;done)|(simp_all;omega)|(simp_all;split<;>omega)
    assumption)
 | (refine zA Ghost.drop rfl ⟨_,_,G,rfl,zcJ ?_ ?_ ?_,hn,rfl⟩
    unfold zaD
    by_cases hk3:x.Kind=3
    have hb3:(x.Kind==3)=true:=by simp [hk3]
    focus first|(simp_all;done)|(simp_all;omega)|(simp_all;split<;>omega)
    have hb3:(x.Kind==3)=false:=by simp [hk3]
    focus first|(simp_all;done)|(simp_all;omega)|(simp_all;split<;>omega)
    assumption
    assumption)
 refine zbF (fun M=>M=(.cells b5 (zb (eWh (ofO (zbB W G) x.Player)))::(zcs ob pb ab b W G))) [8] mixed ?_;refine gz1 ?_;refine uB 1 rfl ((by first|exact zk zy rfl ty9 (by decide) rfl|exact zf zy rfl ty9 (by decide) rfl)) ?_;refine gz1 ?_;refine uA 4 ?_;refine uB 5 rfl ((by first|exact zL rfl|exact zx rfl)) ?_;refine gz2 ?_;refine uM 8 rfl rfl (fun M hM=>by subst hM;exact zV (i:=1) ty3 rfl rfl (.inl ⟨rfl,rfl⟩) ⟨rfl,rfl⟩) ?_;refine uF 3 ?_;refine zw rfl (zgI (M1:=(zcs ob pb ab b W G)) (R:=[_]) zzm rfl (WeakL.refl _) (Bn (l₁:=[_]) (l₂:=(zcs ob pb ab b W G))) (zeO (t:=x.Team) (h:=false) ho.nd (by have h9:W.length<=2000:=ho.wl;omega)) ?_)
 refine ⟨fun _=> .inl rfl,?_⟩
 refine uA 9 ?_;refine gz2 ?_;refine uCo (fun h11=> ?_) fun h12=> ?_
 refine gz4 ?_
 focus first
 | (refine zA Ghost.drop rfl ⟨_,W,G,rfl,zdh ?_,hn,rfl⟩
    unfold zaD
    by_cases hk3:x.Kind=3
    have hb3:(x.Kind==3)=true:=by simp [hk3]
    focus first|(simp_all;done)|(simp_all;omega)|(simp_all;split<;>omega)
    have hb3:(x.Kind==3)=false:=by simp [hk3]
    focus first|(simp_all;done)|(simp_all;omega)|(simp_all;split<;>omega))
 | (refine zA Ghost.drop rfl ⟨_,_,(zp x.Team (v115,gL x.Team G++[x.At]) G),rfl,zdg (v:=v115) ?_ ?_,hn.put,rfl⟩
    unfold zaD
    by_cases hk3:x.Kind=3
    have hb3:(x.Kind==3)=true:=by simp [hk3]
    focus first|(simp_all;done)|(simp_all;omega)|(simp_all;split<;>omega)
    have hb3:(x.Kind==3)=false:=by simp [hk3]
    focus first|(simp_all;done)|(simp_all;omega)|(simp_all;split<;>omega)
    assumption)
 | (refine zA Ghost.drop rfl ⟨_,_,G,rfl,zcI ?_ ?_,hn,rfl⟩
    unfold zaD
    by_cases hk3:x.Kind=3
    have hb3:(x.Kind==3)=true:=by simp [hk3]
    focus first|(simp_all;done)|(simp_all;omega)|(simp_all;split<;>omega)
    have hb3:(x.Kind==3)=false:=by simp [hk3]
    focus first|(simp_all;done)|(simp_all;omega)|(simp_all;split<;>omega)
    assumption)
 | (refine zA Ghost.drop rfl ⟨_,_,G,rfl,zcJ ?_ ?_ ?_,hn,rfl⟩
    unfold zaD
    by_cases hk3:x.Kind=3
    have hb3:(x.Kind==3)=true:=by simp [hk3]
    focus first|(simp_all;done)|(simp_all;omega)|(simp_all;split<;>omega)
    have hb3:(x.Kind==3)=false:=by simp [hk3]
    focus first|(simp_all;done)|(simp_all;omega)|(simp_all;split<;>omega)
    assumption
    assumption)
 refine gz3 ?_;refine zbF (fun M=> ∃i:Nat,M[i]? =some (.cells ob (zy4 b pb ab))) [3,9] mixed ?_;refine gz1 ?_;refine uB 1 rfl ((by first|exact zL rfl|exact zx rfl)) ?_;refine gz1 ?_;refine uM 3 rfl ⟨1,rfl⟩ (fun M hM=>by obtain ⟨i,hi⟩:=hM;exact zV (i:=i) zoB rfl hi (.inl ⟨rfl,rfl⟩) ⟨rfl,rfl⟩) ?_;refine uB 4 rfl ((by first|exact zk zy rfl ty9 (by decide) rfl|exact zf zy rfl ty9 (by decide) rfl)) ?_;refine gz2 ?_;refine uB 7 rfl ((by first|exact zL rfl|exact zx rfl)) ?_;refine gz1 ?_;refine uM 9 rfl ⟨1,rfl⟩ (fun M hM=>by obtain ⟨i,hi⟩:=hM;exact zV (i:=i) zoB rfl hi (.inl ⟨rfl,rfl⟩) ⟨rfl,rfl⟩) ?_;refine uB 10 rfl ((by first|exact zk zy rfl ty9 (by decide) rfl|exact zf zy rfl ty9 (by decide) rfl)) ?_;refine gz1 ?_;refine uB 13 rfl ((by first|exact zk zy rfl ty3 (by decide) rfl|exact zf zy rfl ty3 (by decide) rfl)) ?_;refine gz1 ?_;refine uB 15 rfl (za (hs:=[_]) zab ty3 rfl rfl (by decide) (by decide) rfl) ?_;refine uF 12 ?_;refine zw rfl (zct (i:=3) (f:=fG) (L:=G) (z0:=gZ Int) zoB ty9 zab rfl rfl rfl rfl ?_)
 refine ⟨fun _=> .inl ⟨1,rfl⟩,?_⟩
 refine uF 16 ?_;refine zw rfl (zm9 (A:=(.cells b5 (zb (eWh (ofO (zbB W G) x.Player)))::zwY ob pb ab b W G)) (G:=G) (s:=x.Team) (ys:=[x.At]) (eb:=HVal.int .i64) zab ty3 rfl rfl rfl rfl (by simp [zan,zb]) (by have:=ho.al x.Team;rw [zmV] at this;simp only [Ah,Ar];omega) fun v115=> ?_)
 refine ⟨fun _=> .inl ⟨1,rfl⟩,?_⟩
 refine uF 17 ?_;refine zI (zbj (i:=3) (f:=fG) (L:=G) (v:=(v115,gL x.Team G++[x.At])) zoB ty9 rfl rfl rfl rfl ?_)
 refine ⟨uE,?_⟩
 refine gz1 ?_;refine zbx (fun M=>M=(.cells b5 (zb (eWh (ofO (zbB W G) x.Player)))::(zcs ob pb ab b W (zp x.Team (v115,gL x.Team G++[x.At]) G)))) [3,9] mixed ?_;refine gz1 ?_;refine uB 1 rfl ((by first|exact zL rfl|exact zx rfl)) ?_;refine gz1 ?_;refine uM 3 rfl rfl (fun M hM=>by subst hM;exact zV (i:=1) zhj rfl rfl (.inl ⟨rfl,rfl⟩) ⟨rfl,rfl⟩) ?_;refine uB 4 rfl ((by first|exact zk zy rfl ty9 (by decide) rfl|exact zf zy rfl ty9 (by decide) rfl)) ?_;refine gz1 ?_;refine uB 6 rfl ((by first|exact zk zy rfl ty9 (by decide) rfl|exact zf zy rfl ty9 (by decide) rfl)) ?_;refine gz2 ?_;refine uM 9 rfl rfl (fun M hM=>by subst hM;exact zV (i:=0) ty3 rfl rfl (.inl ⟨rfl,rfl⟩) ⟨rfl,rfl⟩) ?_;refine uB 10 rfl (zC (cs:=[_,_,_]) zcU zzX rfl) ?_;refine uF 11 ?_;refine zI (zbj (i:=2) (f:=eWh) (L:=W) (v:=⟨x.Team,false,(ofO (zbB W G) x.Player).dropped⟩) zhj ty9 rfl rfl rfl rfl ?_)
 refine ⟨uE,?_⟩
 refine gz7 ?_
 focus first
 | (refine zA Ghost.drop rfl ⟨_,W,G,rfl,zdh ?_,hn,rfl⟩
    unfold zaD
    by_cases hk3:x.Kind=3
    have hb3:(x.Kind==3)=true:=by simp [hk3]
    focus first|(simp_all;done)|(simp_all;omega)|(simp_all;split<;>omega)
    have hb3:(x.Kind==3)=false:=by simp [hk3]
    focus first|(simp_all;done)|(simp_all;omega)|(simp_all;split<;>omega))
 | (refine zA Ghost.drop rfl ⟨_,_,(zp x.Team (v115,gL x.Team G++[x.At]) G),rfl,zdg (v:=v115) ?_ ?_,hn.put,rfl⟩
    unfold zaD
    by_cases hk3:x.Kind=3
    have hb3:(x.Kind==3)=true:=by simp [hk3]
    focus first|(simp_all;done)|(simp_all;omega)|(simp_all;split<;>omega)
    have hb3:(x.Kind==3)=false:=by simp [hk3]
    focus first|(simp_all;done)|(simp_all;omega)|(simp_all;split<;>omega)
    assumption)
 | (refine zA Ghost.drop rfl ⟨_,_,G,rfl,zcI ?_ ?_,hn,rfl⟩
    unfold zaD
    by_cases hk3:x.Kind=3
    have hb3:(x.Kind==3)=true:=by simp [hk3]
    focus first|(simp_all;done)|(simp_all;omega)|(simp_all;split<;>omega)
    have hb3:(x.Kind==3)=false:=by simp [hk3]
    focus first|(simp_all;done)|(simp_all;omega)|(simp_all;split<;>omega)
    assumption)
 | (refine zA Ghost.drop rfl ⟨_,_,G,rfl,zcJ ?_ ?_ ?_,hn,rfl⟩
    unfold zaD
    by_cases hk3:x.Kind=3
    have hb3:(x.Kind==3)=true:=by simp [hk3]
    focus first|(simp_all;done)|(simp_all;omega)|(simp_all;split<;>omega)
    have hb3:(x.Kind==3)=false:=by simp [hk3]
    focus first|(simp_all;done)|(simp_all;omega)|(simp_all;split<;>omega)
    assumption
    assumption)
 refine gz4 ?_;refine uCo (fun h13=> ?_) fun h14=> ?_
 refine gz5 ?_;refine uCo (fun h15=> ?_) fun h16=> ?_
 refine gz4 ?_
 focus first
 | (refine zA Ghost.drop rfl ⟨_,W,G,rfl,zdh ?_,hn,rfl⟩
    unfold zaD
    by_cases hk3:x.Kind=3
    have hb3:(x.Kind==3)=true:=by simp [hk3]
    focus first|(simp_all;done)|(simp_all;omega)|(simp_all;split<;>omega)
    have hb3:(x.Kind==3)=false:=by simp [hk3]
    focus first|(simp_all;done)|(simp_all;omega)|(simp_all;split<;>omega))
 | (refine zA Ghost.drop rfl ⟨_,_,(zp x.Team (v115,gL x.Team G++[x.At]) G),rfl,zdg (v:=v115) ?_ ?_,hn.put,rfl⟩
    unfold zaD
    by_cases hk3:x.Kind=3
    have hb3:(x.Kind==3)=true:=by simp [hk3]
    focus first|(simp_all;done)|(simp_all;omega)|(simp_all;split<;>omega)
    have hb3:(x.Kind==3)=false:=by simp [hk3]
    focus first|(simp_all;done)|(simp_all;omega)|(simp_all;split<;>omega)
    assumption)
 | (refine zA Ghost.drop rfl ⟨_,_,G,rfl,zcI ?_ ?_,hn,rfl⟩
    unfold zaD
    by_cases hk3:x.Kind=3
    have hb3:(x.Kind==3)=true:=by simp [hk3]
    focus first|(simp_all;done)|(simp_all;omega)|(simp_all;split<;>omega)
    have hb3:(x.Kind==3)=false:=by simp [hk3]
    focus first|(simp_all;done)|(simp_all;omega)|(simp_all;split<;>omega)
    assumption)
 | (refine zA Ghost.drop rfl ⟨_,_,G,rfl,zcJ ?_ ?_ ?_,hn,rfl⟩
    unfold zaD
    by_cases hk3:x.Kind=3
    have hb3:(x.Kind==3)=true:=by simp [hk3]
    focus first|(simp_all;done)|(simp_all;omega)|(simp_all;split<;>omega)
    have hb3:(x.Kind==3)=false:=by simp [hk3]
    focus first|(simp_all;done)|(simp_all;omega)|(simp_all;split<;>omega)
    assumption
    assumption)
 refine gz2 ?_;refine zbx (fun M=>M=(.cells b5 (zb (eWh (ofO (zbB W G) x.Player)))::(zcs ob pb ab b W G))) [3] mixed ?_;refine gz1 ?_;refine uB 1 rfl ((by first|exact zL rfl|exact zx rfl)) ?_;refine gz1 ?_;refine uM 3 rfl rfl (fun M hM=>by subst hM;exact zV (i:=1) zhj rfl rfl (.inl ⟨rfl,rfl⟩) ⟨rfl,rfl⟩) ?_;refine uB 4 rfl ((by first|exact zk zy rfl ty9 (by decide) rfl|exact zf zy rfl ty9 (by decide) rfl)) ?_;refine gz1 ?_;refine uB 6 rfl ((by first|exact zk zy rfl ty3 (by decide) rfl|exact zf zy rfl ty3 (by decide) rfl)) ?_;refine gz1 ?_;refine uB 8 rfl (zC (cs:=[_,_,_]) zcU zzX rfl) ?_;refine uF 9 ?_;refine zI (zbj (i:=2) (f:=eWh) (L:=W) (v:=⟨[],false,x.At⟩) zhj ty9 rfl rfl rfl rfl ?_)
 refine ⟨uE,?_⟩
 refine gz7 ?_
 focus first
 | (refine zA Ghost.drop rfl ⟨_,W,G,rfl,zdh ?_,hn,rfl⟩
    unfold zaD
    by_cases hk3:x.Kind=3
    have hb3:(x.Kind==3)=true:=by simp [hk3]
    focus first|(simp_all;done)|(simp_all;omega)|(simp_all;split<;>omega)
    have hb3:(x.Kind==3)=false:=by simp [hk3]
    focus first|(simp_all;done)|(simp_all;omega)|(simp_all;split<;>omega))
 | (refine zA Ghost.drop rfl ⟨_,_,(zp x.Team (v115,gL x.Team G++[x.At]) G),rfl,zdg (v:=v115) ?_ ?_,hn.put,rfl⟩
    unfold zaD
    by_cases hk3:x.Kind=3
    have hb3:(x.Kind==3)=true:=by simp [hk3]
    focus first|(simp_all;done)|(simp_all;omega)|(simp_all;split<;>omega)
    have hb3:(x.Kind==3)=false:=by simp [hk3]
    focus first|(simp_all;done)|(simp_all;omega)|(simp_all;split<;>omega)
    assumption)
 | (refine zA Ghost.drop rfl ⟨_,_,G,rfl,zcI ?_ ?_,hn,rfl⟩
    unfold zaD
    by_cases hk3:x.Kind=3
    have hb3:(x.Kind==3)=true:=by simp [hk3]
    focus first|(simp_all;done)|(simp_all;omega)|(simp_all;split<;>omega)
    have hb3:(x.Kind==3)=false:=by simp [hk3]
    focus first|(simp_all;done)|(simp_all;omega)|(simp_all;split<;>omega)
    assumption)
 | (refine zA Ghost.drop rfl ⟨_,_,G,rfl,zcJ ?_ ?_ ?_,hn,rfl⟩
    unfold zaD
    by_cases hk3:x.Kind=3
    have hb3:(x.Kind==3)=true:=by simp [hk3]
    focus first|(simp_all;done)|(simp_all;omega)|(simp_all;split<;>omega)
    have hb3:(x.Kind==3)=false:=by simp [hk3]
    focus first|(simp_all;done)|(simp_all;omega)|(simp_all;split<;>omega)
    assumption
    assumption)
 refine gz1 ?_;refine dq ((by first|exact zk zy rfl ty3 (by decide) rfl|exact zf zy rfl ty3 (by decide) rfl)) ?_;refine gz6 ?_;refine dq ((by first|exact zL rfl|exact zx rfl)) ?_;refine gz2 ?_;refine de rfl (uZ 1 ?_)
 refine gz6 ?_;refine uCo (fun h17=> ?_) fun h18=> ?_
 refine gz2 ?_;refine dq ((by first|exact zL rfl|exact zx rfl)) ?_;refine gz2 ?_;refine de rfl (uZ 1 ?_)
 refine zau ?_;refine dgl rfl rfl (fun hc=>⟨_,OpenTo.upd (t:=38) rfl uC (OpenTo.refl _),zV (i:=0) ty4 rfl rfl (.inl ⟨rfl,rfl⟩) ⟨rfl,rfl⟩⟩) ?_;refine gz1 ?_;refine uGr rfl (fun hc=>zoo ty4 rfl rfl) ?_;refine gz3 ?_;refine uCo (fun h19=> ?_) fun h20=> ?_
 refine gz4 ?_
 focus first
 | (refine zA Ghost.drop rfl ⟨_,W,G,rfl,zdh ?_,hn,rfl⟩
    unfold zaD
    by_cases hk3:x.Kind=3
    have hb3:(x.Kind==3)=true:=by simp [hk3]
    focus first|(simp_all;done)|(simp_all;omega)|(simp_all;split<;>omega)
    have hb3:(x.Kind==3)=false:=by simp [hk3]
    focus first|(simp_all;done)|(simp_all;omega)|(simp_all;split<;>omega))
 | (refine zA Ghost.drop rfl ⟨_,_,(zp x.Team (v115,gL x.Team G++[x.At]) G),rfl,zdg (v:=v115) ?_ ?_,hn.put,rfl⟩
    unfold zaD
    by_cases hk3:x.Kind=3
    have hb3:(x.Kind==3)=true:=by simp [hk3]
    focus first|(simp_all;done)|(simp_all;omega)|(simp_all;split<;>omega)
    have hb3:(x.Kind==3)=false:=by simp [hk3]
    focus first|(simp_all;done)|(simp_all;omega)|(simp_all;split<;>omega)
    assumption)
 | (refine zA Ghost.drop rfl ⟨_,_,G,rfl,zcI ?_ ?_,hn,rfl⟩
    unfold zaD
    by_cases hk3:x.Kind=3
    have hb3:(x.Kind==3)=true:=by simp [hk3]
    focus first|(simp_all;done)|(simp_all;omega)|(simp_all;split<;>omega)
    have hb3:(x.Kind==3)=false:=by simp [hk3]
    focus first|(simp_all;done)|(simp_all;omega)|(simp_all;split<;>omega)
    assumption)
 | (refine zA Ghost.drop rfl ⟨_,_,G,rfl,zcJ ?_ ?_ ?_,hn,rfl⟩
    unfold zaD
    by_cases hk3:x.Kind=3
    have hb3:(x.Kind==3)=true:=by simp [hk3]
    focus first|(simp_all;done)|(simp_all;omega)|(simp_all;split<;>omega)
    have hb3:(x.Kind==3)=false:=by simp [hk3]
    focus first|(simp_all;done)|(simp_all;omega)|(simp_all;split<;>omega)
    assumption
    assumption)
 refine gz2 ?_;refine dq ((by first|exact zk zy rfl ty9 (by decide) rfl|exact zf zy rfl ty9 (by decide) rfl)) ?_;refine gz2 ?_;refine de rfl (zgI (M1:=(zcs ob pb ab b W G)) (R:=[_]) zzm rfl (WeakL.refl _) (Bn (l₁:=[_]) (l₂:=(zcs ob pb ab b W G))) (zeO (t:=x.Team) (h:=x.Kind==3) ho.nd (by have h9:W.length<=2000:=ho.wl;omega)) ?_)
 refine gz4 ?_;refine uCo (fun h21=> ?_) fun h22=> ?_
 refine gz4 ?_
 focus first
 | (refine zA Ghost.drop rfl ⟨_,W,G,rfl,zdh ?_,hn,rfl⟩
    unfold zaD
    by_cases hk3:x.Kind=3
    have hb3:(x.Kind==3)=true:=by simp [hk3]
    focus first|(simp_all;done)|(simp_all;omega)|(simp_all;split<;>omega)
    have hb3:(x.Kind==3)=false:=by simp [hk3]
    focus first|(simp_all;done)|(simp_all;omega)|(simp_all;split<;>omega))
 | (refine zA Ghost.drop rfl ⟨_,_,(zp x.Team (v115,gL x.Team G++[x.At]) G),rfl,zdg (v:=v115) ?_ ?_,hn.put,rfl⟩
    unfold zaD
    by_cases hk3:x.Kind=3
    have hb3:(x.Kind==3)=true:=by simp [hk3]
    focus first|(simp_all;done)|(simp_all;omega)|(simp_all;split<;>omega)
    have hb3:(x.Kind==3)=false:=by simp [hk3]
    focus first|(simp_all;done)|(simp_all;omega)|(simp_all;split<;>omega)
    assumption)
 | (refine zA Ghost.drop rfl ⟨_,_,G,rfl,zcI ?_ ?_,hn,rfl⟩
    unfold zaD
    by_cases hk3:x.Kind=3
    have hb3:(x.Kind==3)=true:=by simp [hk3]
    focus first|(simp_all;done)|(simp_all;omega)|(simp_all;split<;>omega)
    have hb3:(x.Kind==3)=false:=by simp [hk3]
    focus first|(simp_all;done)|(simp_all;omega)|(simp_all;split<;>omega)
    assumption)
 | (refine zA Ghost.drop rfl ⟨_,_,G,rfl,zcJ ?_ ?_ ?_,hn,rfl⟩
    unfold zaD
    by_cases hk3:x.Kind=3
    have hb3:(x.Kind==3)=true:=by simp [hk3]
    focus first|(simp_all;done)|(simp_all;omega)|(simp_all;split<;>omega)
    have hb3:(x.Kind==3)=false:=by simp [hk3]
    focus first|(simp_all;done)|(simp_all;omega)|(simp_all;split<;>omega)
    assumption
    assumption)
 refine gz6 ?_
 focus first
 |refine de0 (uY 0 ?_)
 |refine de0 (uY 1 ?_)
 |refine de0 (uY 2 ?_)
 |refine de0 (uY 3 ?_)
 refine gz1 ?_;refine zbx (fun M=>M=(.cells b5 (zb (eWh ⟨(ofO (zbB W G) x.Player).team,x.Kind==3,(ofO (zbB W G) x.Player).dropped⟩))::(zcs ob pb ab b W G))) [3,6] mixed ?_;refine gz1 ?_;refine uB 1 rfl ((by first|exact zL rfl|exact zx rfl)) ?_;refine gz1 ?_;refine uM 3 rfl rfl (fun M hM=>by subst hM;exact zV (i:=1) zhj rfl rfl (.inl ⟨rfl,rfl⟩) ⟨rfl,rfl⟩) ?_;refine uB 4 rfl ((by first|exact zk zy rfl ty9 (by decide) rfl|exact zf zy rfl ty9 (by decide) rfl)) ?_;refine gz1 ?_;refine uM 6 rfl rfl (fun M hM=>by subst hM;exact zeh (i:=0) (h:=eWh ⟨(ofO (zbB W G) x.Player).team,x.Kind==3,(ofO (zbB W G) x.Player).dropped⟩) zcU rfl rfl rfl rfl rfl ⟨rfl,rfl⟩) ?_;refine uF 7 ?_;refine zI (zbj (i:=2) (f:=eWh) (L:=W) (v:=⟨(ofO (zbB W G) x.Player).team,x.Kind==3,(ofO (zbB W G) x.Player).dropped⟩) zhj ty9 rfl rfl rfl rfl ?_)
 refine ⟨uE,?_⟩
 refine gz7 ?_
 focus first
 | (refine zA Ghost.drop rfl ⟨_,W,G,rfl,zdh ?_,hn,rfl⟩
    unfold zaD
    by_cases hk3:x.Kind=3
    have hb3:(x.Kind==3)=true:=by simp [hk3]
    focus first|(simp_all;done)|(simp_all;omega)|(simp_all;split<;>omega)
    have hb3:(x.Kind==3)=false:=by simp [hk3]
    focus first|(simp_all;done)|(simp_all;omega)|(simp_all;split<;>omega))
 | (refine zA Ghost.drop rfl ⟨_,_,(zp x.Team (v115,gL x.Team G++[x.At]) G),rfl,zdg (v:=v115) ?_ ?_,hn.put,rfl⟩
    unfold zaD
    by_cases hk3:x.Kind=3
    have hb3:(x.Kind==3)=true:=by simp [hk3]
    focus first|(simp_all;done)|(simp_all;omega)|(simp_all;split<;>omega)
    have hb3:(x.Kind==3)=false:=by simp [hk3]
    focus first|(simp_all;done)|(simp_all;omega)|(simp_all;split<;>omega)
    assumption)
 | (refine zA Ghost.drop rfl ⟨_,_,G,rfl,zcI ?_ ?_,hn,rfl⟩
    unfold zaD
    by_cases hk3:x.Kind=3
    have hb3:(x.Kind==3)=true:=by simp [hk3]
    focus first|(simp_all;done)|(simp_all;omega)|(simp_all;split<;>omega)
    have hb3:(x.Kind==3)=false:=by simp [hk3]
    focus first|(simp_all;done)|(simp_all;omega)|(simp_all;split<;>omega)
    assumption)
 | (refine zA Ghost.drop rfl ⟨_,_,G,rfl,zcJ ?_ ?_ ?_,hn,rfl⟩
    unfold zaD
    by_cases hk3:x.Kind=3
    have hb3:(x.Kind==3)=true:=by simp [hk3]
    focus first|(simp_all;done)|(simp_all;omega)|(simp_all;split<;>omega)
    have hb3:(x.Kind==3)=false:=by simp [hk3]
    focus first|(simp_all;done)|(simp_all;omega)|(simp_all;split<;>omega)
    assumption
    assumption)
 refine gz9 ?_;refine dgl rfl rfl (fun hc=>⟨_,OpenTo.upd (t:=38) rfl uC (OpenTo.refl _),zV (i:=0) ty4 rfl rfl (.inl ⟨rfl,rfl⟩) ⟨rfl,rfl⟩⟩) ?_;refine gz1 ?_;refine uGr rfl (fun hc=>zoo ty4 rfl rfl) ?_;refine gz3 ?_;refine uCo (fun h23=> ?_) fun h24=> ?_
 refine gz4 ?_
 focus first
 | (refine zA Ghost.drop rfl ⟨_,W,G,rfl,zdh ?_,hn,rfl⟩
    unfold zaD
    by_cases hk3:x.Kind=3
    have hb3:(x.Kind==3)=true:=by simp [hk3]
    focus first|(simp_all;done)|(simp_all;omega)|(simp_all;split<;>omega)
    have hb3:(x.Kind==3)=false:=by simp [hk3]
    focus first|(simp_all;done)|(simp_all;omega)|(simp_all;split<;>omega))
 | (refine zA Ghost.drop rfl ⟨_,_,(zp x.Team (v115,gL x.Team G++[x.At]) G),rfl,zdg (v:=v115) ?_ ?_,hn.put,rfl⟩
    unfold zaD
    by_cases hk3:x.Kind=3
    have hb3:(x.Kind==3)=true:=by simp [hk3]
    focus first|(simp_all;done)|(simp_all;omega)|(simp_all;split<;>omega)
    have hb3:(x.Kind==3)=false:=by simp [hk3]
    focus first|(simp_all;done)|(simp_all;omega)|(simp_all;split<;>omega)
    assumption)
 | (refine zA Ghost.drop rfl ⟨_,_,G,rfl,zcI ?_ ?_,hn,rfl⟩
    unfold zaD
    by_cases hk3:x.Kind=3
    have hb3:(x.Kind==3)=true:=by simp [hk3]
    focus first|(simp_all;done)|(simp_all;omega)|(simp_all;split<;>omega)
    have hb3:(x.Kind==3)=false:=by simp [hk3]
    focus first|(simp_all;done)|(simp_all;omega)|(simp_all;split<;>omega)
    assumption)
 | (refine zA Ghost.drop rfl ⟨_,_,G,rfl,zcJ ?_ ?_ ?_,hn,rfl⟩
    unfold zaD
    by_cases hk3:x.Kind=3
    have hb3:(x.Kind==3)=true:=by simp [hk3]
    focus first|(simp_all;done)|(simp_all;omega)|(simp_all;split<;>omega)
    have hb3:(x.Kind==3)=false:=by simp [hk3]
    focus first|(simp_all;done)|(simp_all;omega)|(simp_all;split<;>omega)
    assumption
    assumption)
 refine gz2 ?_;refine dq ((by first|exact zk zy rfl ty9 (by decide) rfl|exact zf zy rfl ty9 (by decide) rfl)) ?_;refine gz2 ?_;refine de rfl (zgI (M1:=(zcs ob pb ab b W G)) (R:=[_]) zzm rfl (WeakL.refl _) (Bn (l₁:=[_]) (l₂:=(zcs ob pb ab b W G))) (zeO (t:=x.Team) (h:=x.Kind==3) ho.nd (by have h9:W.length<=2000:=ho.wl;omega)) ?_)
 refine gz4 ?_;refine uCo (fun h25=> ?_) fun h26=> ?_
 refine gz4 ?_
 focus first
 | (refine zA Ghost.drop rfl ⟨_,W,G,rfl,zdh ?_,hn,rfl⟩
    unfold zaD
    by_cases hk3:x.Kind=3
    have hb3:(x.Kind==3)=true:=by simp [hk3]
    focus first|(simp_all;done)|(simp_all;omega)|(simp_all;split<;>omega)
    have hb3:(x.Kind==3)=false:=by simp [hk3]
    focus first|(simp_all;done)|(simp_all;omega)|(simp_all;split<;>omega))
 | (refine zA Ghost.drop rfl ⟨_,_,(zp x.Team (v115,gL x.Team G++[x.At]) G),rfl,zdg (v:=v115) ?_ ?_,hn.put,rfl⟩
    unfold zaD
    by_cases hk3:x.Kind=3
    have hb3:(x.Kind==3)=true:=by simp [hk3]
    focus first|(simp_all;done)|(simp_all;omega)|(simp_all;split<;>omega)
    have hb3:(x.Kind==3)=false:=by simp [hk3]
    focus first|(simp_all;done)|(simp_all;omega)|(simp_all;split<;>omega)
    assumption)
 | (refine zA Ghost.drop rfl ⟨_,_,G,rfl,zcI ?_ ?_,hn,rfl⟩
    unfold zaD
    by_cases hk3:x.Kind=3
    have hb3:(x.Kind==3)=true:=by simp [hk3]
    focus first|(simp_all;done)|(simp_all;omega)|(simp_all;split<;>omega)
    have hb3:(x.Kind==3)=false:=by simp [hk3]
    focus first|(simp_all;done)|(simp_all;omega)|(simp_all;split<;>omega)
    assumption)
 | (refine zA Ghost.drop rfl ⟨_,_,G,rfl,zcJ ?_ ?_ ?_,hn,rfl⟩
    unfold zaD
    by_cases hk3:x.Kind=3
    have hb3:(x.Kind==3)=true:=by simp [hk3]
    focus first|(simp_all;done)|(simp_all;omega)|(simp_all;split<;>omega)
    have hb3:(x.Kind==3)=false:=by simp [hk3]
    focus first|(simp_all;done)|(simp_all;omega)|(simp_all;split<;>omega)
    assumption
    assumption)
 refine gz6 ?_
 focus first
 |refine de0 (uY 0 ?_)
 |refine de0 (uY 1 ?_)
 |refine de0 (uY 2 ?_)
 |refine de0 (uY 3 ?_)
 refine gz1 ?_;refine zbx (fun M=>M=(.cells b5 (zb (eWh ⟨(ofO (zbB W G) x.Player).team,x.Kind==3,(ofO (zbB W G) x.Player).dropped⟩))::(zcs ob pb ab b W G))) [3,6] mixed ?_;refine gz1 ?_;refine uB 1 rfl ((by first|exact zL rfl|exact zx rfl)) ?_;refine gz1 ?_;refine uM 3 rfl rfl (fun M hM=>by subst hM;exact zV (i:=1) zhj rfl rfl (.inl ⟨rfl,rfl⟩) ⟨rfl,rfl⟩) ?_;refine uB 4 rfl ((by first|exact zk zy rfl ty9 (by decide) rfl|exact zf zy rfl ty9 (by decide) rfl)) ?_;refine gz1 ?_;refine uM 6 rfl rfl (fun M hM=>by subst hM;exact zeh (i:=0) (h:=eWh ⟨(ofO (zbB W G) x.Player).team,x.Kind==3,(ofO (zbB W G) x.Player).dropped⟩) zcU rfl rfl rfl rfl rfl ⟨rfl,rfl⟩) ?_;refine uF 7 ?_;refine zI (zbj (i:=2) (f:=eWh) (L:=W) (v:=⟨(ofO (zbB W G) x.Player).team,x.Kind==3,(ofO (zbB W G) x.Player).dropped⟩) zhj ty9 rfl rfl rfl rfl ?_)
 refine ⟨uE,?_⟩
 refine gz7 ?_
 focus first
 | (refine zA Ghost.drop rfl ⟨_,W,G,rfl,zdh ?_,hn,rfl⟩
    unfold zaD
    by_cases hk3:x.Kind=3
    have hb3:(x.Kind==3)=true:=by simp [hk3]
    focus first|(simp_all;done)|(simp_all;omega)|(simp_all;split<;>omega)
    have hb3:(x.Kind==3)=false:=by simp [hk3]
    focus first|(simp_all;done)|(simp_all;omega)|(simp_all;split<;>omega))
 | (refine zA Ghost.drop rfl ⟨_,_,(zp x.Team (v115,gL x.Team G++[x.At]) G),rfl,zdg (v:=v115) ?_ ?_,hn.put,rfl⟩
    unfold zaD
    by_cases hk3:x.Kind=3
    have hb3:(x.Kind==3)=true:=by simp [hk3]
    focus first|(simp_all;done)|(simp_all;omega)|(simp_all;split<;>omega)
    have hb3:(x.Kind==3)=false:=by simp [hk3]
    focus first|(simp_all;done)|(simp_all;omega)|(simp_all;split<;>omega)
    assumption)
 | (refine zA Ghost.drop rfl ⟨_,_,G,rfl,zcI ?_ ?_,hn,rfl⟩
    unfold zaD
    by_cases hk3:x.Kind=3
    have hb3:(x.Kind==3)=true:=by simp [hk3]
    focus first|(simp_all;done)|(simp_all;omega)|(simp_all;split<;>omega)
    have hb3:(x.Kind==3)=false:=by simp [hk3]
    focus first|(simp_all;done)|(simp_all;omega)|(simp_all;split<;>omega)
    assumption)
 | (refine zA Ghost.drop rfl ⟨_,_,G,rfl,zcJ ?_ ?_ ?_,hn,rfl⟩
    unfold zaD
    by_cases hk3:x.Kind=3
    have hb3:(x.Kind==3)=true:=by simp [hk3]
    focus first|(simp_all;done)|(simp_all;omega)|(simp_all;split<;>omega)
    have hb3:(x.Kind==3)=false:=by simp [hk3]
    focus first|(simp_all;done)|(simp_all;omega)|(simp_all;split<;>omega)
    assumption
    assumption)
theorem znG [Tracks] {b:BoundS} {l:List MoveS} {n:Int} (hm:zfg l=0):Con prog 96 [zet b,zcA l,.int .i64 n] [] (fun x M'=> ∃ob pb ab W G,x= .raw (.pointer (some ⟨ob,0,none⟩))/\zbB W G=oAt b l n/\ANodup G/\M'=zcs ob pb ab b W G):=by
 obtain ⟨hl,hml⟩:=zyy hm;refine uOb func96 ntmps96 ?_;refine gz6 ?_;refine de rfl (zaA (M1:=[]) (R:=[]) zHu rfl (WeakL.refl _) (Ac _) (zm1 (b:=b)) ?_)
 rintro _ _ ⟨ob,pb,ab,rfl,rfl⟩;refine gz9 ?_;refine uU3 [9,1,14,12] (fun (k:Nat) (W1:List (Str×WhS)) (G1:Grp Int)=>[(14,.int .i64 k)]) (fun (k:Nat) (W1:List (Str×WhS)) (G1:Grp Int)=>zcs ob pb ab b W1 G1) (fun (k:Nat) (W1:List (Str×WhS)) (G1:Grp Int)=>k<=l.length/\(zbB W1 G1=ziL b n zwX (l.take k)/\ANodup G1)) (fun (k:Nat) (W1:List (Str×WhS)) (G1:Grp Int)=>l.length-k) (0) ([]) ([]) ?_ ?_;exact ⟨Ad _,rfl,Bb⟩;rintro k W1 G1 ⟨hk,he1,hn1⟩;refine gz4 ?_;refine uCo (fun h1=> ?_) fun h2=> ?_
 obtain ⟨x,hx⟩: ∃x,l[k]? =some x:=⟨_,Aa h1⟩
 have hdx:=zi hx;refine gz7 ?_;refine de rfl (zg zy rfl fun b9=> ?_)
 refine de0 (zj zy rfl rfl rfl rfl rfl ?_)
 refine gz1 ?_;refine zd (zm 9 rfl) ?_;refine gz6 ?_;refine uCo (fun h3=> ?_) fun h4=> ?_
 refine gz3 ?_;refine de rfl (zaA (M1:=zcs ob pb ab b W1 G1) (R:=[]) zHv rfl (WeakL.refl _) (by rw [AV]) (zku (hml x (Ab hx)).1 (by rw [he1];exact zGh hml hl k) hn1) ?_)
 rintro _ _ ⟨n24,W2,G2,rfl,he2,hn2,rfl⟩;refine gz7 ?_;exact ⟨k+1,W2,G2,⟨by omega,by rw [zp3 hx,if_pos (by assumption),<-he1];exact he2,hn2⟩,uD,⟨rfl,trivial⟩,uK,zl (by dsimp only;try rw [AV])⟩;refine gz7 ?_;exact ⟨k+1,W1,G1,⟨by omega,by rw [zp3 hx,if_neg uO];exact he1,hn1⟩,uD,⟨rfl,trivial⟩,uK,Ac _⟩;have hnk:l.length<=k:=by omega
 obtain rfl:k=l.length:=by omega
 rw [Am] at he1;refine gz2 ?_;refine zcE ?_;refine gz7 ?_;exact zaf rfl ⟨_,_,_,_,_,rfl,he1,hn1,rfl⟩
end
section
open Go.Proofs.Tryz
open Go.HL
theorem zkv [Tracks] {ob pb ab:Nat} {b:BoundS} {W:List (Str×WhS)} {G:Grp Int} {k:RosS} {n:Nat} {t:Str} (hr:Rel k (zbB W G)) (hk:RosOk n k) (ht:t≠[]) (hw:W.length<=1000000):Con prog 97 [.raw (.pointer (some ⟨ob,0,none⟩)),.str t] (zcs ob pb ab b W G) (fun x M'=>x=znX t (rPl k t) (rHu k t)/\M'=[]):=by
 have hn:ANodup W:=hr.nd;refine zaQ func97 rfl ntmps97 rfl rfl ?_;refine gz1 ?_;refine de rfl (zg zdZ rfl fun b4=> ?_)
 refine gz3 ?_;refine dq (zC (cs:=[_,_,_]) zdZ zEa rfl) ?_;refine de rfl (zg zdZ rfl fun b5=> ?_)
 refine de0 (uY 0 ?_)
 refine gz6 ?_;refine de rfl (uZ 2 ?_)
 refine de rfl (ziq (i:=3) zhj rfl rfl fun r=> ?_)
 refine gz1 ?_;refine zd (zJ 1) ?_;refine zd (zJ 1) ?_;refine gz1 ?_;refine zuv [6,7,15,16,17,18,19,20,21,22,23,24,25,26,27,28,29,30,31,32,33,34,35,36,37,38,39] (fun (vis:List Nat) (E:List (Str×WhS)) (u:Value) (v:Value)=>[]) (fun (vis:List Nat) (E:List (Str×WhS)) (u:Value) (v:Value)=>[.arr v 1 ((plE t true E).map HVal.str),.arr u 1 ((plE t false E).map HVal.str),.cells b5 [.str t,.raw u,.raw v],.cells b4 [.str [],.raw (.slice none 0 0),.raw (.slice none 0 0)],.cells ob (zy4 b pb ab),.iter r pb (sk (em eWh W)) vis,.map ab (sk (em fG G))]++grp 1 (HVal.int .i64) G) (fun (vis:List Nat) (E:List (Str×WhS)) (u:Value) (v:Value)=>VisOk (W) vis E/\(True)) (fun (vis:List Nat) (E:List (Str×WhS)) (u:Value) (v:Value)=>(W).length-vis.length) ([]) ([]) (.slice none 0 0) (.slice none 0 0) ?_ ?_ ?_ ?_;exact ⟨VisOk.nil _,trivial⟩;exact trivial;exact zl rfl
 intro vis E u v hinv
 obtain ⟨hvis,-⟩:=hinv;have hvl:=hvis.len;refine gz1 ?_;refine de rfl (zio (i:=5) (L:=W) (enc:=(fun p:Str×WhS=>(HVal.str p.1,eWh p.2))) rfl rfl (zmg _ _) hvis.nd hvis.lt fun cb R vis' hnx=> ?_)
 refine gz3 ?_;refine uCo (fun h1=> ?_) fun h2=> ?_
 obtain ⟨j,q,hq,hj,rfl⟩:=hnx.t h1;have hroom:=hvis.room hq hj;have hstep:=hvis.step hq hj;have hqm:=Ab hq;refine gz4 ?_;refine de rfl (zhb (i:=5) (L:=W) (enc:=(fun p:Str×WhS=>(HVal.str p.1,eWh p.2))) rfl rfl (zmg _ _) hq ?_)
 refine gz2 ?_;refine de rfl (zg zcU rfl fun b7=> ?_)
 refine gz1 ?_;refine de0 (zj zcU rfl rfl rfl rfl rfl ?_)
 refine gz1 ?_;refine zd (zm 7 rfl) ?_;refine gz8 ?_;refine uCo (fun h3=> ?_) fun h4=> ?_
 refine gz3 ?_;exact ⟨_,E++[q],u,v,⟨hstep,trivial⟩,by dsimp only;rw [Ax];simp only [Ah,Ar];omega,trivial,uK,zl (by dsimp only;rw [zsN (t:=t) (h:=false) (by simp_all [isO]),zsN (t:=t) (h:=true) (by simp_all [isO])];first|exact rfl|(simp only [Ay,Ao,A7];rfl))⟩;refine gz5 ?_;refine uCo (fun h5=> ?_) fun h6=> ?_
 refine gz2 ?_;refine de rfl (uZ 2 ?_)
 refine gz1 ?_;refine dq (za (hs:=[_]) zo ty9 rfl rfl (by decide) (by decide) rfl) ?_;refine de rfl (zH (i:=0) zo ty9 rfl rfl rfl rfl rfl (by simp [zan,zb]) (by have:=ziu t false E;have:=ziu t true E;have:=hvis.len;simp only [Af,Ah,Ar] at*;omega) fun v38=> ?_)
 refine gz1 ?_;refine de0 (uY 2 ?_)
 refine gz3 ?_;exact ⟨_,E++[q],u,v38,⟨hstep,trivial⟩,by dsimp only;rw [Ax];simp only [Ah,Ar];omega,trivial,uK,zl (by dsimp only;rw [zsN (t:=t) (h:=false) (by simp_all [isO]),zyB (t:=t) (h:=true) (by simp_all [isO])];first|exact rfl|(simp only [Ay,Ao,A7];rfl))⟩;refine gz2 ?_;refine de rfl (uZ 2 ?_)
 refine gz1 ?_;refine dq (za (hs:=[_]) zo ty9 rfl rfl (by decide) (by decide) rfl) ?_;refine de rfl (zH (i:=1) zo ty9 rfl rfl rfl rfl rfl (by simp [zan,zb]) (by have:=ziu t false E;have:=ziu t true E;have:=hvis.len;simp only [Af,Ah,Ar] at*;omega) fun v24=> ?_)
 refine gz1 ?_;refine de0 (uY 2 ?_)
 refine gz3 ?_;exact ⟨_,E++[q],v24,v,⟨hstep,trivial⟩,by dsimp only;rw [Ax];simp only [Ah,Ar];omega,trivial,uK,zl (by dsimp only;rw [zyB (t:=t) (h:=false) (by simp_all [isO]),zsN (t:=t) (h:=true) (by simp_all [isO])];first|exact rfl|(simp only [Ay,Ao,A7];rfl))⟩;obtain ⟨rfl,hlen⟩:=hnx.f h2;have hEp:=hvis.done hlen;refine gz2 ?_;refine zwN ?_;refine gz4 ?_;refine de rfl (uZ 2 ?_)
 refine de rfl (uCx 1 zzf rfl rfl (zj5 (l:=plE t false E) (by have:=ziu t false E;have:=ziu t true E;have:=hEp.length_eq;omega)) ?_)
 rintro _ _ ⟨rfl,rfl⟩;refine gz3 ?_;refine de rfl (uZ 2 ?_)
 refine de rfl (uCx 1 zzf rfl rfl (zj5 (l:=plE t true E) (by have:=ziu t false E;have:=ziu t true E;have:=hEp.length_eq;omega)) ?_)
 rintro _ _ ⟨rfl,rfl⟩;refine gz1 ?_;refine zd (zgb (i:=0) (k:=1) (j:=2) rfl rfl rfl) ?_;refine zd (zgb (i:=0) (k:=0) (j:=1) rfl rfl rfl) ?_;refine gz1 ?_;refine de rfl (zeh (i:=0) (h:=znX t (zaB (plE t false E)) (zaB (plE t true E))) zdZ rfl rfl rfl rfl rfl ?_)
 refine de0 (zfI (i:=1) (h:=znX t (zaB (plE t false E)) (zaB (plE t true E))) zdZ rfl rfl rfl rfl rfl (Ak rfl) ?_)
 refine gz2 ?_;refine ⟨_,_,(zaN 4 (i:=1) rfl rfl).trans Ghost.clear,[_],_,⟨⟨_,_,_,_,_,rfl,zdZ,.inr ⟨rfl,rfl,rfl⟩⟩,trivial⟩,Weak.refl _,?_,rfl⟩
 rw [<-zFw hr hk ht hEp,<-zFv hr hk ht hEp]
 rfl
theorem znE [Tracks] {b:BoundS} {l:List MoveS} {t:Str} {n:Int} (hm:zfg l=0) (ht:t≠[]):ConP prog 40 [zet b,zcA l,.str t,.int .i64 n] (znX t (rPl (zdY b l n) t) (rHu (zdY b l n) t)):=by
 obtain ⟨hr,hk,hw⟩:=zGl (b:=b) (n:=n) hm;refine zaQ func40 rfl ntmps40 rfl rfl ?_;refine gz2 ?_;refine de rfl (zg zdZ rfl fun b8=> ?_)
 refine gz5 ?_;refine de rfl (zaA (M1:=[]) (R:=[_]) ca96 rfl (WeakL.refl _) (Ac _) (znG (b:=b) (l:=l) (n:=n) hm) ?_)
 rintro _ _ ⟨ob,pb,ab,W,G,rfl,he,hn,rfl⟩;rw [<-he] at hr hw;refine gz1 ?_;refine de rfl (zaA (M1:=zcs ob pb ab b W G) (R:=[_]) ca97 rfl (WeakL.refl _) (Ac _) (zkv hr hk ht (An hw.wl (by decide))) ?_)
 rintro _ _ ⟨rfl,rfl⟩;refine de0 (zj (h:=znX t (rPl (zdY b l n) t) (rHu (zdY b l n) t)) zdZ rfl rfl rfl rfl rfl ?_)
 refine gz2 ?_;exact ⟨_,_,zm 8 rfl,[_],_,⟨⟨_,_,_,_,_,rfl,zdZ,.inr ⟨rfl,rfl,rfl⟩⟩,trivial⟩,Weak.refl _,rfl,rfl⟩
end
section
open Go.HL
set_option linter.unusedSimpArgs false
end
section
open Go.Proofs.Tryz
open Go.HL
theorem zmY [Tracks] {c:Bool}:ConP prog 27 [.bool c] (.int .i64 (if c=true then 8 else 0)):=by
 refine uOb func27 ntmps27 ?_;refine gz7 ?_;refine uCo (fun h1=> ?_) fun h2=> ?_
 refine gz4 ?_;refine uRp ?_
 simp_all
 refine gz6 ?_;refine uRp ?_
 simp_all
end
end Go.Proofs.YtabpobhnedkkeaaGreatDoor
namespace Go.HL
section
open Go
def RF (r:Option Nat):Fence:={fn:=fun _=>True,depth:=none,alive:=false,round:=r}
def NoDef (l:List Oper):Bool:=l.all fun o=>match o.op with| .defer _=>false|_=>true
theorem NoDef.at {l:List Oper} (h:NoDef l=true) {i:Nat} {o:Oper} (hi:l.toArray[i]? =some o): ∀c,o.op≠ .defer c:=fun c e=>by
 have h1:=List.all_eq_true.1 h o (Ab (by simpa using hi));rw [e] at h1;cases h1
section
variable {P:Program} {r:Option Nat} {m:Nat} {l:List Oper}
theorem zC5 {f:FuncId} {args:Array Value} {w:World} {R:Ending->World->Prop} (h:Calls P f args w R):CallsIn (RF r) m P f args w R:=by
 have h1:CallsIn Fence.wide m P f args w R:=callsIn_wide.2 h;exact h1
theorem zFr {row:String} {args:Array Value} {w:World} {R:Value->World->Prop} (h:Rows P row args w R):RowsIn (RF r) m P row args w R:=fun c cs _=>by
 obtain ⟨v,w',h1,h2⟩:=h c cs;exact ⟨v,w',h1,(stepsIn_wide (P:=P)).2 h2⟩
theorem zC7 {o:Oper} {a:Act} {w:World} {K K':Act->World->Prop} {Q:Exit->Act->World->Prop} (nd: ∀c,o.op≠ .defer c) (hk: ∀a w,K a w->K' a w) (h:o.wp P a w K NoQ):o.wpIn (RF r) m P a w K' Q:=by
 refine ⟨fun _ _=>trivial,?_⟩
 rw [Oper.semAt_eq _ _ _ nd];unfold Oper.wp at h
 generalize (execOp a.eval o).run P w=q at*
 cases q with
 |ok x w'=>
   cases x<;>simp only [Oper.upon,Oper.uponIn] at h⊢
   case value=>exact hk _ _ h
   case skip=>exact hk _ _ h
   case defer=>exact hk _ _ h
   case enter f args=>
    refine ⟨fun q=>by simp [RF] at q,zC5 (Calls.mono h fun e w'' he=> ?_)⟩
    cases e with
    |returned v=>exact hk _ _ he
    |panicked c=>exact (he:False).elim
    |outgrown=>obtain ⟨_,_,hf⟩:=he;exact (hf:False).elim
   case row row args=>exact ⟨fun q=>by simp [RF] at q,zFr (Rows.mono h fun _ _ he=>hk _ _ he)⟩
   all_goals exact h.elim
 |halt x w'=>
   cases x<;>simp only [Oper.upon,Oper.uponIn] at h⊢
   all_goals exact (h:False).elim
theorem HOp.soundG [Tracks] {n:Nat} {o:Oper} {e:Env} {M:List MObj} {K:Env->List MObj->Prop} (hnd:NoDef l=true) (h:HOp P l.toArray n o e M K)
 {i:Nat} (hi:l.toArray[i]? =some o) {Q:Exit->Act->World->Prop} {I:Imm} {F:List MObj} {a:Act} {w:World} {ds:List Deferred} (hd:a.defers=ds) (hn:a.tmps.size=n)
 (he:EnvV I e a.tmps) (hs:Sat P I (M++F) w) {K':Act->World->Prop}
 (hk: ∀J e' M' a' w',Le I J->K e' M'->a'.defers=ds->a'.tmps.size=n->EnvV J e' a'.tmps->Sat P J (M'++F) w'->K' a' w'):wpOpIn (RF r) m P l.toArray Q i K' a w:=by
 unfold wpOpIn;simp only [hi];obtain ⟨hdst,c,hw,ht,hf⟩:=h;rw [hw.real he]
 cases c with
 |false=>
   simp only [AU,if_false];obtain ⟨h,hh⟩:=hf rfl;exact ⟨fun _ _=>trivial,hk I _ M _ _ (.refl I) hh (by rw [ziP];exact hd) (by rw [zlu];exact hn) (he.put (by rw [hn];exact hdst) (.opt (fun h=>by cases h) (fun _=>rfl))) hs⟩
 |true=>
   simp only [if_true];refine zC7 (NoDef.at hnd hi) ?_ (ht rfl I F a w (he.opds o) hs)
   rintro a' w' ⟨v,x,M',J,rfl,h2,h3,h4,h5⟩;exact hk J _ M' _ _ h2 h3 (by rw [ziP];exact hd) (by rw [zlu];exact hn) ((he.mono h2).put (by rw [hn];exact hdst) h4) h5
theorem Der.soundG [Tracks] {n:Nat} {K:Env->List MObj->Prop} {I:Imm} {F:List MObj} {Q:Exit->Act->World->Prop} {ds:List Deferred} (hnd:NoDef l=true)
 (hq: ∀J e M a w,Le I J->K e M->a.defers=ds->a.tmps.size=n->EnvV J e a.tmps->Sat P J (M++F) w->Q .normal a w):
 ∀(q:List Oper) (k:Nat),(∀j,l.toArray[k+j]? =q[j]?)->∀(J:Imm) (e:Env) (M:List MObj) (a:Act) (w:World),Le I J->Der P l.toArray n K q e M->
  a.defers=ds->a.tmps.size=n->EnvV J e a.tmps->Sat P J (M++F) w->wpOpsIn (RF r) m P l.toArray Q (List.range' k q.length) a w:=by
 intro q
 induction q with
 |nil=>intro k _ J e M a w hl h hd hn he hs;exact hq J e M a w hl h hd hn he hs
 |cons o rest ih=>
   intro k hk J e M a w hl h hd hn he hs
   rw [Ah,Cz,wpOpsIn_cons];have hi:l.toArray[k]? =some o:=by simpa using hk 0
   refine HOp.soundG hnd h hi hd hn he hs fun J' e' M' a' w' hl' hK hd' hn' he' hs'=> ?_
   exact ih (k+1) (fun j=>by have:=hk (j+1);simp only [AN] at this;rw [<-this];congr 1;omega) J' e' M' a' w' (hl.trans hl') hK hd' hn' he' hs'
end
def PostG [Tracks] (P:Program) (n:Nat) (I:Imm) (F:List MObj) (Q:List Deferred->Exit->Env->List MObj->Prop):Exit->Act->World->Prop:=
 fun x a w=>a.tmps.size=n/\∃J e M,Le I J/\Q a.defers x e M/\EnvV J e a.tmps/\Sat P J (M++F) w
theorem PostG.le [Tracks] {P:Program} {n:Nat} {I J:Imm} {F:List MObj} {Q:List Deferred->Exit->Env->List MObj->Prop} {x:Exit} {a:Act} {w:World} (hl:Le I J) (h:PostG P n J F Q x a w):PostG P n I F Q x a w:=
 let ⟨h2,J',e,M,h3,h4⟩:=h;⟨h2,J',e,M,hl.trans h3,h4⟩
def zeM [Tracks] (P:Program) (r:Option Nat) (ds:List Deferred) (n:Nat) (c:Code) (e:Env) (M:List MObj) (Q:List Deferred->Exit->Env->List MObj->Prop):Prop:=
 ∀m I F a w,a.defers=ds->a.tmps.size=n->EnvV I e a.tmps->Sat P I (M++F) w->c.wpIn (RF r) m P (PostG P n I F Q) a w
def SeqG [Tracks] (P:Program) (r:Option Nat) (n:Nat) (c:Code) (Q:List Deferred->Exit->Env->List MObj->Prop):List Deferred->Exit->Env->List MObj->Prop
 |ds,.normal,e,M=>zeM P r ds n c e M Q
 |ds,x,e,M=>Q ds x e M
def zrT (id:Nat) (Q:List Deferred->Exit->Env->List MObj->Prop):List Deferred->Exit->Env->List MObj->Prop
 |ds,.exit id',e,M=>if id'=id then Q ds .normal e M else Q ds (.exit id') e M
 |ds,x,e,M=>Q ds x e M
section
variable {P:Program} {r:Option Nat} {ds:List Deferred} {n:Nat} {e e':Env} {M M':List MObj} {Q Q':List Deferred->Exit->Env->List MObj->Prop} {c c':Code} {id:Nat} {l:List Oper}
theorem zAW [Tracks] (hg:Ghost e M e' M') (h:zeM P r ds n c e' M' Q):zeM P r ds n c e M Q:=fun m I F a w h1 h2 h3 h4=>by
 obtain ⟨J,hl,he,hs⟩:=hg I F a.tmps w h3 h4;exact wpIn_mono (h m J F a w h1 h2 he hs) fun _ _ _ hp=>hp.le hl
theorem zyk [Tracks] (h:zeM P r ds n c e M (SeqG P r n c' Q)):zeM P r ds n (.seq c c') e M Q:=fun m I F a w h1 h2 h3 h4=>by
 refine wpIn_seq (wpIn_mono (h m I F a w h1 h2 h3 h4) ?_)
 rintro x a' w' ⟨p2,J,e',M',p3,p4,p5,p6⟩
 cases x with
 |normal=>exact wpIn_mono (p4 m J F a' w' rfl p2 p5 p6) fun _ _ _ hp=>hp.le p3
 |_=>exact ⟨p2,J,e',M',p3,p4,p5,p6⟩
theorem zn7 [Tracks] (h:Der P l.toArray n (fun e M=>Q ds .normal e M) l e M) (hn:NoDef l=true:=by rfl):zeM P r ds n (.region id l.toArray false) e M Q:=fun m I F a w h1 h2 h3 h4=>by
 refine wpIn_region ?_;have:=Der.soundG (r:=r) (m:=m) (K:=fun e M=>Q ds .normal e M) (I:=I) (F:=F) (Q:=PostG P n I F Q) hn
  (fun J e M a w hl hK hd hn he hs=>⟨hn,J,e,M,hl,by rw [hd];exact hK,he,hs⟩) l 0 (fun j=>by simp) I e M a w (.refl I) h h1 h2 h3 h4
 rw [Cc]
 simpa using this
theorem znd [Tracks] (h:Der P l.toArray n (fun e M=>zeM P r ds n c e M Q) l e M) (hn:NoDef l=true:=by rfl):zeM P r ds n (.seq (.region id l.toArray false) c) e M Q:=
 zyk (zn7 h hn)
theorem zrD [Tracks] (h:Q ds .normal e M):zeM P r ds n .skip e M Q:=fun m I F a w h1 h2 h3 h4=>wpIn_skip ⟨h2,I,e,M,.refl I,by rw [h1];exact h,h3,h4⟩
theorem zqx [Tracks] (h:Q ds .ret e M):zeM P r ds n .ret e M Q:=fun m I F a w h1 h2 h3 h4=>wpIn_ret ⟨h2,I,e,M,.refl I,by rw [h1];exact h,h3,h4⟩
theorem zCn [Tracks] (h:Q ds (.exit id) e M):zeM P r ds n (.exit id) e M Q:=fun m I F a w h1 h2 h3 h4=>wpIn_exit ⟨h2,I,e,M,.refl I,by rw [h1];exact h,h3,h4⟩
theorem zCm [Tracks] {x:Operand} {b:Bool} (hx:zh e x=some (.bool b)) (ht:b=true->zeM P r ds n c e M Q) (hf:b=false->zeM P r ds n c' e M Q):zeM P r ds n (.cond x c c') e M Q:=
 fun m I F a w h1 h2 h3 h4=>by
  have hv:=h3.eval hx;have:a.eval x= .bool b:=by generalize a.eval x=y at*;cases hv;rfl
  exact wpIn_cond_split this (fun h=>ht h m I F a w h1 h2 h3 h4) (fun h=>hf h m I F a w h1 h2 h3 h4)
theorem zux [Tracks] (h:zeM P r ds n c e M (zrT id Q)):zeM P r ds n (.block id c) e M Q:=fun m I F a w h1 h2 h3 h4=>by
 refine wpIn_block (wpIn_mono (h m I F a w h1 h2 h3 h4) ?_)
 rintro x a' w' ⟨p2,J,e',M',p3,p4,p5,p6⟩
 cases x with
 |exit id'=>
   simp only [Exit.inBlock,zrT] at*
   split
   rename_i hh;rw [if_pos hh] at p4;exact ⟨p2,J,e',M',p3,p4,p5,p6⟩
   rename_i hh;rw [if_neg hh] at p4;exact ⟨p2,J,e',M',p3,p4,p5,p6⟩
 |_=>exact ⟨p2,J,e',M',p3,p4,p5,p6⟩
end
end
section
open Go
section
variable {P:Program}
abbrev zqC (D:Nat):Deferred:={target:= .collected D,args:= #[]}
abbrev zkc (D:Nat):MObj:= .obj D (.deferred (some []))
theorem Sat.putObj [Tracks] {I:Imm} {M:List MObj} {b:Nat} {o:Obj} (o':Obj) {w:World} (h:Sat P I (.obj b o::M) w):Sat P I (.obj b o'::M) (w.putObj b o'):=by
 have hb:w.heap[b]? =some o:=h.obj _ Ai;exact h.change (fun x _ hn=>World.putObj_heap_other (by simpa [MObj.blocks] using hn)) (fun x hx=> .inl hx) (by simp [MObj.blocks]) (World.putObj_heap_same (Array.getElem?_eq_some_iff.1 hb).1) rfl rfl rfl
def ConI [Tracks] (P:Program) (I0:Imm) (f:FuncId) (hargs:List HVal) (M:List MObj) (Q:HVal->List MObj->Prop):Prop:=
 ∀m I F (w:World) (args:List Value),Le I0 I->VL I hargs args->Sat P I (M++F) w->CallsIn (RF none) m P f args.toArray w (fun e w'=> ∃v h M' J,e= .returned v/\Le I J/\Q h M'/\V J h v/\Sat P J (M'++F) w')
def zrY [Tracks] (P:Program) (I0:Imm) (l:Nat) (hs:List HVal) (M:List MObj) (Q:Bool->List MObj->Prop):Prop:=
 ∀m I F (w:World) (vs:List Value),Le I0 I->VL I hs vs->Sat P I (M++F) w->YieldAt (RF none) m P l vs.toArray w (fun e w'=> ∃b M' J,e= .returned (.bool b)/\Le I J/\Q b M'/\Sat P J (M'++F) w')
theorem zx3 [Tracks] {n m i d lp:Nat} {l:List Oper} {e:Env} {M:List MObj} {x:Operand} {xs:Array Operand} {ats:Array TypeId} {ty:TypeId} {pos:String} {af:Array Edge} {hs hs':List HVal} {Qy:Bool->List MObj->Prop}
 (hi:l.toArray[i]? =some ⟨some d,.call ⟨.value x,xs,ats⟩,ty,pos,af,none⟩) (hdn:d<n) (hx:zh e x=some (.raw (.func (.yield lp) #[] #[]))) (ha:zdE e xs.toList=some hs) (hw:WeakL hs hs') {I0:Imm}
 (hy:zrY P I0 lp hs' M Qy) {Q:Exit->Act->World->Prop} {I:Imm} (h0:Le I0 I) {F:List MObj} {a:Act} {w:World} {ds:List Deferred} (hd:a.defers=ds) (hn:a.tmps.size=n)
 (he:EnvV I e a.tmps) (hsat:Sat P I (M++F) w) {K':Act->World->Prop}
 (hk: ∀J b M' a' w',Le I J->Qy b M'->a'.defers=ds->a'.tmps.size=n->EnvV J (upd e d (.bool b)) a'.tmps->Sat P J (M'++F) w'->K' a' w'):wpOpIn (RF none) m P l.toArray Q i K' a w:=by
 unfold wpOpIn;simp only [hi];have hwant:Region.wanted (⟨some d,.call ⟨.value x,xs,ats⟩,ty,pos,af,none⟩:Oper) (yielded l.toArray a.tmps)=true:=rfl;rw [if_pos hwant];have ho:=he.opds (⟨some d,.call ⟨.value x,xs,ats⟩,ty,pos,af,none⟩:Oper);have h1:=(ho.one (x:=x) (by simp [Op.operands,Call.operands]) hx).raw_inv;have hv:=zjd (I:=I) (f:=a.eval) _ _ ha fun x hx h hh=>ho.one (by simp only [Op.operands,Call.operands];exact BO _ (by simpa using hx)) hh
 obtain ⟨fn,tmps,assign,body,hrun,hR⟩:=hy (m-1) I F w _ h0 (hw.vl hv) hsat;have hr:(execOp a.eval ⟨some d,.call ⟨.value x,xs,ats⟩,ty,pos,af,none⟩).run P w= .ok (.round lp fn tmps assign body) w:=by
  have e1:(xs.toList.map a.eval).toArray=xs.map a.eval:=by apply CE;simp
  rw [e1] at hrun
  simp [execOp,resolve,h1,Deferred.ofValue,invoke,hrun]
 refine ⟨fun _ _=>trivial,?_⟩
 rw [Oper.semAt_eq _ _ _ (by intro c q;cases q),hr];refine ⟨fun q=>by simp [RF] at q,hR.mono ?_⟩
 rintro e' w' ⟨b,M',J,rfl,h2,h3,h4⟩;exact hk J b M' _ _ h2 h3 (by rw [ziP];exact hd) (by rw [zlu];exact hn) ((he.mono h2).put (d:=some d) (by intro t ht;cases ht;rw [hn];exact hdn) (.bool b)) h4
def zxb (e:Env):List Tmp->List HVal->Env
 |p::ps,h::hs=>zxb (upd e p h) ps hs
 |_,_=>e
theorem zul [Tracks] {I:Imm}: ∀{ps:List Tmp} {hs:List HVal} {vs:List Value} {e:Env} {tmps:Array Value},EnvV I e tmps->VL I hs vs->(∀p∈ps,p<tmps.size)->
 EnvV I (zxb e ps hs) ((ps.zip vs).foldl (fun t (q:Tmp×Value)=>t.setIfInBounds q.1 q.2) tmps)/\((ps.zip vs).foldl (fun t (q:Tmp×Value)=>t.setIfInBounds q.1 q.2) tmps).size=tmps.size
 |[],hs,vs,e,tmps,he,_,_=>⟨by unfold zxb;cases hs<;>exact he,rfl⟩
 |p::ps,[],vs,e,tmps,he,hv,_=>by
   have:vs=[]:=by have:=hv.1;simpa using this
   subst this;exact ⟨by unfold zxb;exact he,rfl⟩
 |p::ps,h::hs,[],e,tmps,he,hv,_=>by have:=hv.1;simp at this
 |p::ps,h::hs,v::vs,e,tmps,he,hv,hp=>by
   have h1:EnvV I (upd e p h) (tmps.setIfInBounds p v):=by
    have:=EnvV.put (a:={tmps:=tmps,defers:=[]}) (d:=some p) he (by intro t ht;cases ht;exact hp p Ai) hv.head;exact this
   have h2:=zul (ps:=ps) (hs:=hs) (vs:=vs) h1 hv.tail (fun q hq=>by rw [Cj];exact hp q (Al _ hq));refine ⟨h2.1,?_⟩
   have:=h2.2;rw [Cj] at this;exact this
def zxd (fn:FuncId) (tmps:Array Value) (ps:Array Tmp) (assign body:Code) (D:Nat) (st:LoopState) (pe:Option Code):Obj:= .loop {state:=st,pending:=pe,fn,tmps,params:=ps,assign,body,defers:=D}
def zFJ (Y:List MObj->Prop) (X:Code->List MObj->Prop):List Deferred->Exit->Env->List MObj->Prop
 |_,.normal,_,M=>Y M
 |_,.ret,_,M=>X .ret M
 |_,.exit id,_,M=>X (.exit id) M
 |_,.goto t,_,M=>X (.goto t) M
 |_,_,_,_=>False
theorem zAX [Tracks] {g:Operand} {ps:Array Tmp} {assign body:Code} {n N:Nat} {e:Env} {Q:List Deferred->Exit->Env->List MObj->Prop} {gf:FuncId} {cap:List HVal} (Y:Nat->List MObj) (YP:Nat->Prop) (X:Code->List MObj->Prop) (enc:Nat->List HVal) (hN:YP N)
 (hc:Callable P gf) (hg:zh e g=some (.fn (.func gf) [] cap)) (hpn: ∀p∈ps.toList,p<n) (hps: ∀k,(enc k).length=ps.size)
 (hit: ∀I0 l (Y':Nat->List MObj) (X':List MObj->Prop),(∀k,k<N->YP (k+1)->zrY P I0 l (enc k) (Y' (k+1)) (fun b M'=>(b=true/\M'=Y' k/\YP k)\/(b=false/\X' M')))->ConI P I0 gf (.raw (.func (.yield l) #[] #[])::cap) (Y' N) (fun _ M'=>(M'=Y' 0/\YP 0)\/X' M'))
 (hround: ∀l k,k<N->YP (k+1)->zeM P (some l) [] n assign (zxb e ps.toList (enc k)) (Y (k+1)) (fun d1 x e1 M1=>x= .normal/\zeM P (some l) d1 n body e1 M1 (zFJ (fun M=>M=Y k/\YP k) X)))
 (hdone:YP 0->∀D,Q [zqC D] .normal e (zkc D::Y 0))
 (hstop: ∀D c M',X c M'->zeM P none [zqC D] n c e (zkc D::M') Q):
 zeM P none [] n (.rangeFunc g ps assign body) e (Y N) Q:=fun m I F a w hd hn he hs=>by
 refine wpIn_rangeFunc ?_
 intro fn hfn
 obtain ⟨v1,v2,h1,h2,h3⟩:=(he.eval hg).fn_inv;obtain rfl:v1= #[]:=by have:=h2.1;exact BH (by simpa using this)
 obtain ⟨D,hD⟩: ∃D,D=w.heap.size:=⟨_,rfl⟩
 obtain ⟨rec,hrec⟩: ∃rec:LoopState->Option Code->Obj,rec=zxd fn a.tmps ps assign body D:=⟨_,rfl⟩
 obtain ⟨W1,hW1⟩: ∃W1,(w.alloc (.deferred (some []))).alloc (rec .ready none)=W1:=⟨_,rfl⟩
 have hs1:Sat P I (zkc D::(Y N++F)) (push w (.deferred (some []))):=hs.new_own _ _ (by rw [hD];rfl) (by show (push w _).heap[D]? =_;rw [hD];simp [push]);have hs2:Sat P I (.obj (D+1) (rec .ready none)::zkc D::(Y N++F)) W1:=by
  rw [<-hW1];have hsz:(push w (.deferred (some []))).heap.size=D+1:=by rw [hD];simp [push]
  exact hs1.new_own (rec .ready none) (.obj (D+1) (rec .ready none)) (by rw [hsz];rfl) (by show (push (push w _) _).heap[D+1]? =_;rw [<-hsz];exact Array.getElem?_push_size)
 refine ⟨D+1,[zqC D],W1,{target:= .fn (.func gf) v2,args:= #[.func (.yield (D+1)) #[] #[]]},W1,gf,#[.func (.yield (D+1)) #[] #[]]++v2,W1,?_,?_,?_,?_,fun q=>by simp [RF] at q,?_⟩
 rw [<-hW1,hrec,hD];exact run_enterLoop_outer _ _ _ _ _;simp only [resolve,h1]
 simp [go_sem]
 intro f' hf';trivial
 simp [invoke,zgW hc]
 have hcon:=hit I (D+1) (fun k=> .obj (D+1) (rec .ready none)::zkc D::Y k) (fun M'=> ∃c M'',M'= .obj (D+1) (rec .done (some c))::zkc D::M''/\X c M'') (fun k hk hyp=> ?_);have hargs:VL I (.raw (.func (.yield (D+1)) #[] #[])::cap) (.func (.yield (D+1)) #[] #[]::v2.toList):=VL.cons (.raw _ rfl) h3;have hcall:=hcon (m-1) I F W1 _ (.refl I) hargs hs2;have e1:(Value.func (.yield (D+1)) #[] #[]::v2.toList).toArray= #[.func (.yield (D+1)) #[] #[]]++v2:=by apply CE;simp
 rw [e1] at hcall;refine hcall.mono ?_;rintro x w' ⟨v,h,M',J,rfl,hl,hq,hvv,hs'⟩
 rcases hq with ⟨rfl,hy0⟩|⟨c,M'',rfl,hx⟩
 have hlo:w'.heap[D+1]? =some (rec .ready none):=hs'.obj _ Ai;refine ⟨none,_,by rw [hrec] at hlo;exact run_endLoop hlo (by simp),?_⟩
 refine ⟨hn,J,e,_,hl,?_,he.mono hl,(hs'.putObj _).drop⟩
 show Q ([zqC D]++a.defers) _ _ _
 rw [hd];exact hdone hy0 D;have hlo:w'.heap[D+1]? =some (rec .done (some c)):=hs'.obj _ Ai;refine ⟨some c,_,by rw [hrec] at hlo;exact run_endLoop hlo (by simp),?_⟩
 refine wpIn_mono (hstop D c M'' hx m J F _ _ (by show [zqC D]++a.defers=_;rw [hd];rfl) hn (he.mono hl) (hs'.putObj _).drop) fun _ _ _ hp=>hp.le hl
 intro m' I' F' w' vs h0 hvl hs'
 have hlo:w'.heap[D+1]? =some (rec .ready none):=hs'.obj _ Ai;have hsz:vs.toArray.size=ps.size:=by have:=hvl.1;rw [hps] at this;simpa using this
 have hy:=run_yield (P:=P) (args:=vs.toArray) (by rw [hrec] at hlo;exact hlo) hsz;refine ⟨fn,_,assign,body,hy,roundIn_of_wpIn trivial ?_⟩
 have hen:=zul (ps:=ps.toList) (vs:=vs) (he.mono h0) hvl (by intro p hp;rw [hn];exact hpn p hp);have hfold:(ps.zip vs.toArray).foldl (fun tmps (q:Tmp×Value)=>tmps.setIfInBounds q.1 q.2) a.tmps=(ps.toList.zip vs).foldl (fun t (q:Tmp×Value)=>t.setIfInBounds q.1 q.2) a.tmps:=by
  rw [<-Array.foldl_toList];simp
 have hsF:Sat P I' (Y (k+1)++(.obj (D+1) (rec .ready none)::zkc D::F')) w':=hs'.perm (by
  show (_::_::(Y (k+1)++F')).Perm _
  exact (List.perm_middle.trans (List.perm_middle.cons _)).symm)
 refine wpIn_mono (hround (D+1) k hk hyp m' I' _ {tmps:=_,defers:=[]} w' rfl (by show Array.size _=_;rw [hfold,hen.2,hn]) (by rw [hfold];exact hen.1) hsF) ?_;rintro x a1 w1 ⟨p2,J,e1,M1,p3,⟨rfl,hbody⟩,p5,p6⟩;have hsA:=p6.perm (N:= .obj (D+1) (rec .ready none)::(M1++(zkc D::F'))) Bh;have hlo1:w1.heap[D+1]? =some (rec .ready none):=hsA.obj _ Ai;have hsB:=(hsA.putObj (rec .busy none)).perm (N:=M1++(.obj (D+1) (rec .busy none)::zkc D::F')) List.perm_middle.symm;refine ⟨_,run_beginRound (by rw [hrec] at hlo1;exact hlo1) rfl,?_⟩
 refine wpIn_mono (hbody m' J _ a1 _ rfl p2 p5 (by rw [hrec] at hsB;exact hsB)) ?_;rintro x2 a2 w2 ⟨q2,J2,e2,M2,q3,q4,q5,q6⟩;have hsC:=q6.perm (N:= .obj (D+1) (rec .busy none)::(M2++(zkc D::F'))) (by rw [hrec];exact Bh);have hlo2:w2.heap[D+1]? =some (rec .busy none):=hsC.obj _ Ai;have hlo2':=hlo2;rw [hrec] at hlo2';have hfin: ∀o:Obj,Sat P J2 ((.obj (D+1) o::zkc D::M2)++F') (w2.putObj (D+1) o):=fun o=>(hsC.putObj o).perm (List.Perm.cons _ Bh)
 have hl2:=p3.trans q3
 cases x2 with
 |normal=>
   obtain ⟨rfl,hyk⟩:M2=Y k/\YP k:=q4;refine ⟨_,_,run_endRound none hlo2',true,_,J2,rfl,hl2,.inl ⟨rfl,rfl,hyk⟩,?_⟩
   subst hrec;exact hfin (zxd fn a.tmps ps assign body D .ready none)
 |ret=>
   refine ⟨_,_,run_endRound (some .ret) hlo2',false,_,J2,rfl,hl2,.inr ⟨rfl,_,M2,rfl,q4⟩,?_⟩
   subst hrec;exact hfin (zxd fn a.tmps ps assign body D .done (some .ret))
 |exit id=>
   refine ⟨_,_,run_endRound (some (.exit id)) hlo2',false,_,J2,rfl,hl2,.inr ⟨rfl,_,M2,rfl,q4⟩,?_⟩
   subst hrec;exact hfin (zxd fn a.tmps ps assign body D .done (some (.exit id)))
 |goto t=>
   refine ⟨_,_,run_endRound (some (.goto t)) hlo2',false,_,J2,rfl,hl2,.inr ⟨rfl,_,M2,rfl,q4⟩,?_⟩
   subst hrec;exact hfin (zxd fn a.tmps ps assign body D .done (some (.goto t)))
 |panic=>exact q4.elim
 |outgrown=>exact q4.elim
end
end
section
open Go
section
variable {P:Program}
theorem zJe [Tracks] {I:Imm}: ∀{l:List HVal} {vs:List Value},VL I l vs->V I (zAj l) (if h:vs.length=1 then vs[0] else .tuple vs.toArray)
 |[],vs,h4=>by
   have:vs=[]:=by have:=h4.1;simpa using this
   subst this;exact .tup (by simp) (fun j c v h _=>by simp at h)
 |[x],vs,h4=>by
   have hl1:vs.length=1:=by have:=h4.1;simpa using this
   match vs,hl1,h4 with
   |[v],_,h4=>exact h4.head
 |x::y::r,vs,h4=>by
   have hl1:vs.length=r.length+2:=by have:=h4.1;simpa using this
   rw [dif_neg (by omega)];exact .tup (by simp [hl1]) (fun j c v h1 h2=>h4.2 j c v h1 (by simpa using h2))
def zyV [Tracks] (P:Program) (rs:List ResultVar) (Q:HVal->List MObj->Prop):List Deferred->Exit->Env->List MObj->Prop:=
 fun ds x e M=>(x= .normal\/x= .ret)/\((ds=[]/\zyU P rs Q .ret e M)\/∃D M0,ds=[zqC D]/\M=zkc D::M0/\zyU P rs Q .ret e M0)
theorem zyI [Tracks] {fn:Func} {tmps:Array Value} {J:Imm} {e:Env} {M F:List MObj} {w:World} {Q:HVal->List MObj->Prop} (hr:zyU P fn.results.toList Q .ret e M) (he:EnvV J e tmps) (hs:Sat P J (M++F) w):
 ∃v,(results fn tmps).run P w= .ok v w/\∃v_1 h M' J',Ending.returned v=Ending.returned v_1/\Le J J'/\Q h M'/\V J' h v_1/\Sat P J' (M'++F) w:=by
 obtain ⟨e',M'',hg,l,h',hr,hw,hq⟩:=hr;obtain ⟨J2,hl2,he2,hs2⟩:=hg J F tmps w he hs;obtain ⟨vs,h3,h4⟩:=zxg he2 hs2 _ _ hr;have hrun:(results fn tmps).run P w= .ok (if h:vs.length=1 then vs[0] else .tuple vs.toArray) w:=by
  rw [zor];have hm:(fn.results.mapM (ziQ tmps)).run P w= .ok vs.toArray w:=by
   rw [BU];simp only [Sem.run_map,h3,Result.andThen_ok]
  simp only [Sem.run_bind,Sem.run_pure];rw [hm]
  simp
 exact ⟨_,hrun,_,h',M'',J2,rfl,hl2,hq,hw _ _ (zJe h4),hs2⟩
theorem zz8 [Tracks] {m:Nat} {fn:Func} {tmps:Array Value} {ds:List Deferred} {x:Exit} {I J:Imm} {e:Env} {M F:List MObj} {w:World} {Q:HVal->List MObj->Prop} (hl:Le I J) (h:zyV P fn.results.toList Q ds x e M) (he:EnvV J e tmps) (hs:Sat P J (M++F) w):
 LeavesInM (RF none) m P fn tmps (fun e w'=> ∃v h M' J',e= .returned v/\Le I J'/\Q h M'/\V J' h v/\Sat P J' (M'++F) w') ds .returning w:=by
 obtain ⟨_,⟨rfl,hr⟩|⟨D,M0,rfl,rfl,hr⟩⟩:=h;obtain ⟨v,h1,v1,h,M',J',h2,h3,h4,h5,h6⟩:=zyI hr he hs;exact ⟨v,h1,v1,h,M',J',h2,hl.trans h3,h4,h5,h6⟩;have hlo:w.heap[D]? =some (.deferred (some [])):=hs.obj _ Ai;refine ⟨by simp,.inl ⟨D,_,rfl,run_takeDeferred hlo,?_⟩⟩
 obtain ⟨v,h1,v1,h,M',J',h2,h3,h4,h5,h6⟩:=zyI hr he (hs.putObj (.deferred none)).drop;exact ⟨v,h1,v1,h,M',J',h2,hl.trans h3,h4,h5,h6⟩
theorem zxi [Tracks] {m n:Nat} {fn:Func} {I:Imm} {F:List MObj} {Q:HVal->List MObj->Prop} {x:Exit} {a:Act} {w:World} (h:PostG P n I F (zyV P fn.results.toList Q) x a w):
 bodyPostM (RF none) m P fn (fun e w'=> ∃v h M' J',e= .returned v/\Le I J'/\Q h M'/\V J' h v/\Sat P J' (M'++F) w') x a w:=by
 obtain ⟨_,J,e,M,h1,h2,h3,h4⟩:=h;have:=zz8 (m:=m) h1 h2 h3 h4
 rcases h2.1 with rfl|rfl<;>exact this
theorem zv8 [Tracks] {I:Imm} {hargs:List HVal} {args:List Value} {k:Nat} (h1:VL I hargs args):EnvV I (zlR hargs) (args.toArray++Array.replicate k undef):=by
 intro t x hx
 obtain ⟨v,h3,h4⟩:=h1.get hx;have hlt:t<args.length:=zn h3;refine ⟨v,?_,h4⟩
 rw [AF (by simpa using hlt)]
 simpa using h3
theorem zvU [Tracks] {f:FuncId} {fn:Func} {c:Code} {hargs:List HVal} {M:List MObj} {Q:HVal->List MObj->Prop}
 {n:Nat} (hf:P.funcs[f]? =some fn) (hb:fn.body=some c) (hnt:fn.ntmps=n) (hn':Nat.ble hargs.length n=true) {rs:List ResultVar} (hrs:fn.results.toList=rs) (h:zeM P none [] n c (zlR hargs) M (zyV P rs Q)):Con P f hargs M Q:=by
 have hn:=Ak hn';subst hnt hrs
 intro I F w args h1 h2
 refine (callsIn_wide (n:=0)).1 ?_
 show CallsIn (RF none) 0 P f args.toArray w _
 have hlen:=h1.1;exact callsIn_of_wp_marks hf hb trivial (wpIn_mono (h 0 I F _ w rfl (by simp;omega) (zv8 h1) h2) fun _ _ _ hp=>zxi hp)
def zhl [Tracks] (P:Program) (I0:Imm) (n:Nat) (c:Code) (e:Env) (M:List MObj) (Q:List Deferred->Exit->Env->List MObj->Prop):Prop:=
 ∀m I F a w,Le I0 I->a.defers=[]->a.tmps.size=n->EnvV I e a.tmps->Sat P I (M++F) w->c.wpIn (RF none) m P (PostG P n I F Q) a w
theorem ConI.of_body [Tracks] {I0:Imm} {f:FuncId} {fn:Func} {c:Code} {hargs:List HVal} {M:List MObj} {Q:HVal->List MObj->Prop}
 {n:Nat} (hf:P.funcs[f]? =some fn) (hb:fn.body=some c) (hnt:fn.ntmps=n) (hn':Nat.ble hargs.length n=true) {rs:List ResultVar} (hrs:fn.results.toList=rs) (h:zhl P I0 n c (zlR hargs) M (zyV P rs Q)):ConI P I0 f hargs M Q:=by
 have hn:=Ak hn';subst hnt hrs
 intro m I F w args h0 h1 h2
 have hlen:=h1.1;exact callsIn_of_wp_marks hf hb trivial (wpIn_mono (h m I F _ w h0 rfl (by simp;omega) (zv8 h1) h2) fun _ _ _ hp=>zxi hp)
variable {I0:Imm} {n:Nat} {e e':Env} {M M':List MObj} {Q:List Deferred->Exit->Env->List MObj->Prop} {c c':Code} {id:Nat} {l:List Oper}
theorem zss [Tracks] (h:zeM P none [] n c e M Q):zhl P I0 n c e M Q:=fun m I F a w _=>h m I F a w
theorem zym [Tracks] (h:zhl P I0 n c e M fun d x e M=>d=[]/\((x= .normal/\zhl P I0 n c' e M Q)\/(x≠ .normal/\Q d x e M))):zhl P I0 n (.seq c c') e M Q:=fun m I F a w h0 h1 h2 h3 h4=>by
 refine wpIn_seq (wpIn_mono (h m I F a w h0 h1 h2 h3 h4) ?_)
 rintro x a' w' ⟨p2,J,e',M',p3,⟨p0,p4⟩,p5,p6⟩
 rcases p4 with ⟨rfl,p4⟩|⟨hx,p4⟩
 exact wpIn_mono (p4 m J F a' w' (h0.trans p3) p0 p2 p5 p6) fun _ _ _ hp=>hp.le p3
 cases x with
 |normal=>exact absurd rfl hx
 |_=>exact ⟨p2,J,e',M',p3,p4,p5,p6⟩
theorem zwz [Tracks] {x:Operand} {b:Bool} (hx:zh e x=some (.bool b)) (ht:b=true->zhl P I0 n c e M Q) (hf:b=false->zhl P I0 n c' e M Q):zhl P I0 n (.cond x c c') e M Q:=
 fun m I F a w h0 h1 h2 h3 h4=>by
  have hv:=h3.eval hx;have:a.eval x= .bool b:=by generalize a.eval x=y at*;cases hv;rfl
  exact wpIn_cond_split this (fun h=>ht h m I F a w h0 h1 h2 h3 h4) (fun h=>hf h m I F a w h0 h1 h2 h3 h4)
theorem zuy [Tracks] (h:zhl P I0 n c e M (zrT id Q)):zhl P I0 n (.block id c) e M Q:=fun m I F a w h0 h1 h2 h3 h4=>by
 refine wpIn_block (wpIn_mono (h m I F a w h0 h1 h2 h3 h4) ?_)
 rintro x a' w' ⟨p2,J,e',M',p3,p4,p5,p6⟩
 cases x with
 |exit id'=>
   simp only [Exit.inBlock,zrT] at*
   split
   rename_i hh;rw [if_pos hh] at p4;exact ⟨p2,J,e',M',p3,p4,p5,p6⟩
   rename_i hh;rw [if_neg hh] at p4;exact ⟨p2,J,e',M',p3,p4,p5,p6⟩
 |_=>exact ⟨p2,J,e',M',p3,p4,p5,p6⟩
theorem zCo [Tracks] {ι:Type} (E:ι->Env) (MM:ι->List MObj) (Iv:ι->Prop) (μ:ι->Nat) (i:ι) (h00:Iv i) (hg:Ghost e M (E i) (MM i))
 (hb: ∀i,Iv i->zhl P I0 n c (E i) (MM i) fun d x e M=>(x= .normal/\d=[]/\∃j,Iv j/\μ j<μ i/\Ghost e M (E j) (MM j))\/(x≠ .normal/\Q d x e M)):zhl P I0 n (.loop c) e M Q:=fun m I F a w h0 h1 h2 h3 h4=>by
 obtain ⟨J0,hl0,he0,hs0⟩:=hg I F a.tmps w h3 h4;refine wpIn_loop_ghost (fun k a w=> ∃i J,μ i=k/\Iv i/\Le I J/\a.defers=[]/\a.tmps.size=n/\EnvV J (E i) a.tmps/\Sat P J (MM i++F) w) (μ i)
  ⟨i,J0,rfl,h00,hl0,h1,h2,he0,hs0⟩ ?_
 rintro k a w ⟨i,J,rfl,hi,hl,h1,h2,h3,h4⟩;refine wpIn_mono (hb i hi m J F a w (h0.trans hl) h1 h2 h3 h4) ?_;rintro x a' w' ⟨p2,J',e',M',p3,p4,p5,p6⟩
 rcases p4 with ⟨rfl,hd,j,hj,hlt,hg'⟩|⟨hx,hq⟩
 obtain ⟨J2,hl2,he2,hs2⟩:=hg' J' F a'.tmps w' p5 p6;exact ⟨μ j,hlt,j,J2,rfl,hj,(hl.trans p3).trans hl2,hd,p2,he2,hs2⟩
 cases x with
 |normal=>exact absurd rfl hx
 |_=>exact ⟨p2,J',e',M',hl.trans p3,hq,p5,p6⟩
theorem znq [Tracks] {m:Nat} {K:Env->List MObj->Prop} {I:Imm} {F:List MObj} {Q:Exit->Act->World->Prop} {ds:List Deferred} (hnd:NoDef l=true) {R:List Nat}
 (hq: ∀J e M a w,Le I J->K e M->a.defers=ds->a.tmps.size=n->EnvV J e a.tmps->Sat P J (M++F) w->wpOpsIn (RF none) m P l.toArray Q R a w):
 ∀(q:List Oper) (k:Nat),(∀j o,q[j]? =some o->l.toArray[k+j]? =some o)->∀(J:Imm) (e:Env) (M:List MObj) (a:Act) (w:World),Le I J->Der P l.toArray n K q e M->
  a.defers=ds->a.tmps.size=n->EnvV J e a.tmps->Sat P J (M++F) w->wpOpsIn (RF none) m P l.toArray Q (List.range' k q.length++R) a w:=by
 intro q
 induction q with
 |nil=>intro k _ J e M a w hl h hd hn he hs;exact hq J e M a w hl h hd hn he hs
 |cons o rest ih=>
   intro k hk J e M a w hl h hd hn he hs
   rw [Ah,Cz,A0,wpOpsIn_cons];have hi:l.toArray[k]? =some o:=by simpa using hk 0 o rfl
   refine HOp.soundG hnd h hi hd hn he hs fun J' e' M' a' w' hl' hK hd' hn' he' hs'=> ?_
   exact ih (k+1) (fun j o ho=>by have:=hk (j+1) o (by simpa using ho);rw [<-this];congr 1;omega) J' e' M' a' w' (hl.trans hl') hK hd' hn' he' hs'
theorem zyl [Tracks] (h:Der P l.toArray n (fun e M=>zhl P I0 n c e M Q) l e M) (hn:NoDef l=true:=by rfl):zhl P I0 n (.seq (.region id l.toArray false) c) e M Q:=fun m I F a w h0 h1 h2 h3 h4=>by
 refine wpIn_seq (wpIn_region ?_)
 have hr:List.range l.toArray.size=List.range' 0 l.length++[]:=by rw [Cc];simp
 rw [hr];refine znq hn (I:=I) (F:=F) (ds:=[]) ?_ l 0 (fun j o ho=>by simpa using ho) I e M a w (.refl I) h h1 h2 h3 h4
 intro J3 e3 M3 a3 w3 hl3 hK hd3 hn3 he3 hs3
 exact wpIn_mono (hK m J3 F a3 w3 (h0.trans hl3) hd3 hn3 he3 hs3) fun _ _ _ hp=>hp.le hl3
theorem zAY [Tracks] {d lp:Nat} (pre post:List Oper) {x:Operand} {xs:Array Operand} {ats:Array TypeId} {ty:TypeId} {pos:String} {af:Array Edge} {hs':List HVal} {Y:List MObj} {Qy:Bool->List MObj->Prop}
 (hl:l=pre++⟨some d,.call ⟨.value x,xs,ats⟩,ty,pos,af,none⟩::post) (hdn:Nat.blt d n=true) (hy:zrY P I0 lp hs' Y Qy)
 (h:Der P l.toArray n (fun e1 M1=>zh e1 x=some (.raw (.func (.yield lp) #[] #[]))/\(∃hs,zdE e1 xs.toList=some hs/\WeakL hs hs')/\M1=Y/\
   ∀b M',Qy b M'->Der P l.toArray n (fun e M=>zhl P I0 n c e M Q) post (upd e1 d (.bool b)) M') pre e M) (hnd:NoDef l=true:=by rfl):
 zhl P I0 n (.seq (.region id l.toArray false) c) e M Q:=fun m I F a w h0 h1 h2 h3 h4=>by
 refine wpIn_seq (wpIn_region ?_)
 have hr:List.range l.toArray.size=List.range' 0 pre.length++(pre.length::(List.range' (pre.length+1) post.length++[])):=by
  rw [Cc,hl];simp only [BJ,Ax,Ah,AV];rw [<-List.range'_append_1,Bk,Cz]
 rw [hr];refine znq hnd (I:=I) (F:=F) (ds:=[]) ?_ pre 0 (fun j o ho=> ?_) I e M a w (.refl I) h h1 h2 h3 h4
 rintro J e1 M1 a1 w1 hl1 ⟨hx,⟨hs,ha,hw⟩,rfl,hpost⟩ hd hn he1 hs1;rw [wpOpsIn_cons];have hi:l.toArray[pre.length]? =some ⟨some d,.call ⟨.value x,xs,ats⟩,ty,pos,af,none⟩:=by rw [hl];simp
 refine zx3 hi (zgx hdn) hx ha hw hy (h0.trans hl1) hd hn he1 hs1 fun J2 b M2 a2 w2 hl2 hq hd2 hn2 he2 hs2=> ?_
 refine znq hnd (I:=J2) (F:=F) (ds:=[]) ?_ post (pre.length+1) (fun j o ho=> ?_) J2 _ M2 a2 w2 (.refl J2) (hpost b M2 hq) hd2 hn2 he2 hs2
 intro J3 e3 M3 a3 w3 hl3 hK hd3 hn3 he3 hs3
 exact wpIn_mono (hK m J3 F a3 w3 (((h0.trans hl1).trans hl2).trans hl3) hd3 hn3 he3 hs3) fun _ _ _ hp=>hp.le ((hl1.trans hl2).trans hl3)
 rw [hl];simp only [A8];rw [Au (by omega),show pre.length+1+j-pre.length=j+1 by omega];exact ho;rw [hl];simp only [A8,Bk];rw [Aw (zn ho)];exact ho
end
end
end Go.HL
namespace Go.Proofs.YtabpobhnedkkeaaGreatDoor
set_option maxRecDepth 100000
set_option linter.unusedVariables false
set_option linter.unusedSimpArgs false
section
open Go.Proofs.Tryz
open Go.HL
abbrev ztF (l:List ChoiceS) (k:Nat):List HVal:=[.int .i64 (k:Int),zX (l.getD k zdU)]
theorem zva [Tracks] {x y:HVal} {e:Env} (h0:e 0=some x) (h1:e 1=some y):Sub (zlR [x,y]) e:=fun t h ht=>by
 match t,ht with
 |0,ht=>cases ht;exact h0
 |1,ht=>cases ht;exact h1
 |t+2,ht=>cases ht
theorem zxt [Tracks] {b e:Env} {t:Nat} {x:HVal} (hb:Sub b e) (h:e t=some x):Sub (upd b t x) e:=fun s y hs=>by
 unfold upd at hs
 cases q:Nat.beq s t with
 |true=>
   rw [q] at hs;have:=BF q;subst this
   cases hs;exact h
 |false=>
   rw [q] at hs;exact hb s y hs
theorem ztt [Tracks] {l:List ChoiceS} (hl:l.length<=1000000) (I0:Imm) (lp:Nat) (Y:Nat->List MObj) (YP:Nat->Prop) (hN:YP l.length) (X:List MObj->Prop)
 (hy: ∀k,k<l.length->YP (k+1)->zrY prog I0 lp (ztF l k) (Y (k+1)) (fun b M'=>(b=true/\M'=Y k/\YP k)\/(b=false/\X M'))):
 ConI prog I0 203 [.raw (.func (.yield lp) #[] #[]),.vptr [zd1 l] 0] (Y l.length) (fun _ M'=>(M'=Y 0/\YP 0)\/X M'):=by
 refine ConI.of_body func203 rfl ntmps203 rfl rfl ?_;refine zyl ?_;refine dq (zO (h:=zd1 l) zfj rfl rfl rfl) ?_;refine gz3 ?_;refine zuy ?_;refine zCo (ι:=Nat) (fun k=>upd (zlR [.raw (.func (.yield lp) #[] #[]),.vptr [zd1 l] 0]) 3 (.int .i64 ((k:Int)-1))) Y (fun k=>k<=l.length/\YP k) id l.length ⟨Ae _,hN⟩ (Ghost.sub (zxt (zva rfl rfl) rfl)) ?_;rintro k ⟨hk,hyk⟩;refine zym ?_;refine zyl ?_;refine gz2 ?_;refine zwz rfl (fun h1=> ?_) (fun h2=> ?_)
 refine zss (zrD ⟨rfl,.inl ⟨rfl,?_⟩⟩)
 obtain ⟨j,rfl⟩: ∃j,k=j+1:=⟨k-1,by simp at h1;omega⟩
 have e9:((j+1:Nat):Int)-1=(j:Int):=by omega
 obtain ⟨x,hx⟩: ∃x,l[j]? =some x:=⟨_,Aa uO⟩
 have hE:ztF l j=[.int .i64 (j:Int),zX x]:=by simp [ztF,Ag,hx]
 have hyj:=hy j uO hyk;rw [hE] at hyj;rw [e9];refine zym ?_;refine zuy ?_;refine zAY [_,_,_,_,_,_] [_] rfl rfl hyj ?_;refine gz2 ?_;refine dq (zO (h:=zd1 l) zfj rfl rfl rfl) ?_;refine gz1 ?_;refine dq (zB (f:=zX) (l:=l) (j:=j) (a:=x) zfj za8 rfl rfl rfl hx) ?_;refine dq (zZ (h:=zX x) za8 rfl rfl rfl rfl) ?_;refine ⟨rfl,⟨_,rfl,WeakL.refl _⟩,rfl,fun b M' hq=> ?_⟩
 refine gz1 ?_;refine zwz rfl (fun h3=> ?_) (fun h4=> ?_)
 rcases hq with ⟨rfl,_⟩|⟨rfl,hX⟩
 cases h3
 exact zss (zqx ⟨rfl,.inr ⟨by simp,.inr ⟨by simp,⟨.inr rfl,.inl ⟨rfl,_,_,Ghost.sub (Sub.refl _),[],_,trivial,Weak.refl _,.inr hX⟩⟩⟩⟩⟩)
 rcases hq with ⟨rfl,rfl,hyj2⟩|⟨rfl,hX⟩
 refine zss (zrD ⟨rfl,.inl ⟨rfl,?_⟩⟩)
 refine zss (zn7 ?_)
 refine gz3 ?_;exact .inl ⟨rfl,rfl,j,⟨by omega,hyj2⟩,by simp,Ghost.sub (zxt (zva rfl rfl) rfl)⟩
 cases h4
 have hk0:k=0:=by simp at h2;omega
 subst hk0;exact zss (zCn ⟨rfl,.inr ⟨by simp,.inr ⟨by simp,⟨.inl rfl,.inl ⟨rfl,_,_,Ghost.sub (Sub.refl _),[],_,trivial,Weak.refl _,.inl ⟨rfl,hyk⟩⟩⟩⟩⟩⟩)
theorem zf0 [Tracks] {l:List ChoiceS}:ConP prog 105 [zd1 l] (.fn (.func 203) [] [.vptr [zd1 l] 0]):=by
 refine uOb func105 ntmps105 ?_;refine gz9 ?_;refine zu rfl ?_
 rfl
end
section
open Go.Proofs.Tryz
open Go.HL
theorem zpe [Tracks] {b:BookS} {t:Str} {w:Int} {p:Int->Bool} {fid:FuncId} {caps:List HVal} (hca:Callable prog fid) (hp: ∀a,ConP prog fid ([.int .i64 a]++caps) (.bool (p a))) (hl:b.Choices.length<=1000000):
 Con prog 45 [zaP b,.str t,.int .i64 w,.fn (.func fid) [] caps] [] (fun x M'=>x= .tup [zX ((zfQ (chQ t w p) none b.Choices).getD zdU),.bool (zfQ (chQ t w p) none b.Choices).isSome]/\M'=[]):=by
 refine zvU func45 rfl ntmps45 rfl rfl ?_;refine znd ?_;refine gz4 ?_;refine de rfl (zg za8 rfl fun b8=> ?_)
 refine de rfl (zg ty4 rfl fun b9=> ?_)
 refine zyk ?_;refine znd ?_;refine gz1 ?_;refine dq (zO (h:=zd1 b.Choices) zfj rfl rfl rfl) ?_;refine dq (uCl zGE rfl (zf0 (l:=b.Choices))) ?_;refine zux ?_;refine zAX (N:=b.Choices.length) (fun _=>[.cells b9 [.bool false],.cells b8 [.str [],.int .i64 0,.int .i64 0,.raw (.slice none 0 0),.str []]]) (fun k=> ∀(j:Nat) (x:ChoiceS),k<=j->b.Choices[j]? =some x->chQ t w p x=false)
  (fun c M'=>c= .ret/\∃(k:Nat) (x:ChoiceS),b.Choices[k]? =some x/\chQ t w p x=true/\(∀(j:Nat) (y:ChoiceS),k<j->b.Choices[j]? =some y->chQ t w p y=false)/\M'=[.cells b9 [.bool true],.cells b8 (zb (zX x))])
  (ztF b.Choices) (fun j x hj hx=>absurd (zn hx) uO) zHw rfl (by decide) (fun _=>rfl) (fun I0 lp Y' X' hy=>ztt hl I0 lp Y' (fun k=> ∀(j:Nat) (x:ChoiceS),k<=j->b.Choices[j]? =some x->chQ t w p x=false) (fun j x hj hx=>absurd (zn hx) uO) X' hy) ?_ ?_ ?_
 intro lp k hk hyk
 obtain ⟨x,hx⟩: ∃x,b.Choices[k]? =some x:=⟨_,Aa hk⟩
 have hE:ztF b.Choices k=[.int .i64 (k:Int),zX x]:=by simp [ztF,Ag,hx]
 rw [hE];refine zn7 ?_;refine de rfl (zg za8 rfl fun b11=> ?_)
 refine de0 (zj (h:=zX x) za8 rfl rfl rfl rfl rfl ?_)
 refine ⟨rfl,?_⟩
 refine zAW (zm 11 rfl) ?_;refine zux ?_;refine znd ?_;refine zdw ?_;refine uGr rfl (fun hc=>zag hca rfl rfl (WeakL.refl _) (hp _)) ?_;refine gz1 ?_;refine zCm rfl (fun h1=> ?_) (fun h2=> ?_)
 refine znd ?_;refine dq (zZ (h:=zX x) za8 rfl rfl rfl rfl) ?_;refine de0 (zfI (i:=1) (h:=zX x) za8 rfl rfl rfl rfl rfl (Ak rfl) ?_)
 refine de0 (uY 0 ?_)
 refine zqx ?_;exact ⟨rfl,k,x,hx,by unfold chQ;simp_all,fun j y hj hy=>hyk j y hj hy,rfl⟩;refine zrD ⟨rfl,fun j y hj hy=> ?_⟩
 by_cases e:j=k
 subst e;rw [hx] at hy;obtain rfl:=As hy;unfold chQ;simp_all;exact hyk j y uO hy
 intro hy0 D
 refine znd ?_;refine dq (zw7 zBM (zC (cs:=[_,_,_,_,_]) za8 zEb rfl)) ?_;refine de0 (zfI (i:=2) (h:=zX zdU) za8 rfl rfl rfl rfl rfl (Ak rfl) ?_)
 refine de0 (uY 1 ?_)
 refine zqx ⟨.inr rfl,.inr ⟨D,_,rfl,rfl,?_⟩⟩
 refine ⟨_,_,(zaN 8 (i:=1) rfl rfl).trans (zaN 9 (i:=0) rfl rfl),[_,_],_,⟨⟨_,_,_,_,_,rfl,za8,.inr ⟨rfl,rfl,rfl⟩⟩,⟨_,_,_,_,_,rfl,ty4,.inl ⟨rfl,rfl⟩⟩,trivial⟩,Weak.refl _,?_,rfl⟩
 rw [zpV fun j x hx=>hy0 j x (Ad j) hx]
 rfl
 rintro D c M' ⟨rfl,k,x,hx,hq,hkj,rfl⟩;refine zqx ⟨.inr rfl,.inr ⟨D,_,rfl,rfl,?_⟩⟩
 refine ⟨_,_,(zaN 8 (i:=1) rfl rfl).trans (zaN 9 (i:=0) rfl rfl),[_,_],_,⟨⟨_,_,_,_,_,rfl,za8,.inr ⟨rfl,rfl,rfl⟩⟩,⟨_,_,_,_,_,rfl,ty4,.inl ⟨rfl,rfl⟩⟩,trivial⟩,Weak.refl _,?_,rfl⟩
 rw [zys hq hx hkj]
 rfl
end
section
open Go.Proofs.Tryz
open Go.HL
theorem znA [Tracks] {s:Str} {l:List Str} (hl:l.length<=1000000):ConP prog 109 [.str s,.vptr [eSs l] 0] (.bool (l.contains s)):=by
 refine uOb func109 ntmps109 ?_;refine gz4 ?_;refine dq (zO (h:=eSs l) zo rfl rfl rfl) ?_;refine gz1 ?_;refine dq (uCl zgG rfl (zG uS)) ?_;refine gz3 ?_;refine zu rfl ?_
 rfl
theorem zpg [Tracks] {a b:List Str} (ha:a.length<=1000000) (hb:b.length<=1000000):ConP prog 48 [eSs a,eSs b] (.bool (zhy a b)):=by
 refine uOb func48 ntmps48 ?_;refine gz7 ?_;refine dq (uCl zy8 rfl (zdS (l:=a) (p:=fun s=>b.contains s) zGG (fun _=>znA hb) ha)) ?_;refine gz3 ?_;refine zu rfl ?_
 rfl
theorem zm0 [Tracks] {g:LeagueS} {t:Str} (hT:g.Teams.length<=1000000):ConP prog 8 [zcj g,.str t] (.int .i64 (if g.Teams.contains t=true then 0 else 8)):=by
 refine uOb func8 ntmps8 ?_;refine gz6 ?_;refine dq (zO (h:=eSs g.Teams) zo rfl rfl rfl) ?_;refine gz1 ?_;refine dq (uCl zgG rfl (zG uS)) ?_;refine gz1 ?_;refine dq (uCl ca27 rfl zmY) ?_;refine gz3 ?_;refine uRp ?_
 cases g.Teams.contains t<;>rfl
end
section
open Go.HL
set_option linter.unusedSimpArgs false
end
end Go.Proofs.YtabpobhnedkkeaaGreatDoor
namespace Go.HL
section
section
variable {P:Program} {e:Env} {dst:Option Tmp} {ty:TypeId} {pos:String} {af:Array Edge} {g:Option (Nat×Bool)} {M:List MObj} {K:HVal->List MObj->Prop}
end
end
end Go.HL
namespace Go.Proofs.YtabpobhnedkkeaaGreatDoor
set_option maxRecDepth 100000
set_option linter.unusedVariables false
set_option linter.unusedSimpArgs false
section
open Go.Proofs.Tryz
open Go.HL
theorem zgD [Tracks] {l:List MendS} {fid:FuncId} {caps:List HVal} {p:MendS->Bool} (hca:Callable prog fid) (hp: ∀x,ConP prog fid ([zbc x]++caps) (.bool (p x))) (hl:l.length<=1000000):ConP prog 93 [.slice 7 (l.map zbc),.fn (.func fid) [] caps] (.int .i64 (zS p l 0)):=by
 refine uOb func93 ntmps93 ?_;refine zau ?_;refine uT1 [4,2,8,11] (fun k=>[(8,.int .i64 k)]) (fun k=>[]) (fun k=>k<=l.length/\(zS p l 0=zS p (l.drop k) k)) (fun k=>l.length-k) (0) ?_ ?_;exact ⟨Ad _,rfl⟩;rintro k ⟨hk,hg⟩;refine gz4 ?_;refine uCo (fun h1=> ?_) fun h2=> ?_
 obtain ⟨x,hx⟩: ∃x,l[k]? =some x:=⟨_,Aa h1⟩
 have hdx:=zi hx;rw [hdx] at hg;refine zdw ?_;refine dq (zag hca rfl rfl (WeakL.refl _) (hp _)) ?_;refine gz1 ?_;refine uCo (fun h3=> ?_) fun h4=> ?_
 refine gz5 ?_;refine uRp ?_
 (rw [hg];simp_all [zS])
 refine gz7 ?_;refine ⟨k+1,?_,?_,⟨rfl,trivial⟩,uK,Ac _⟩
 refine ⟨by omega,?_⟩
 rw [hg,zS,if_neg uSa];rfl
 dsimp only;omega
 have hnk:l.length<=k:=by omega
 obtain rfl:k=l.length:=by omega
 rw [zz (Ae _)] at hg;refine gz2 ?_;refine zv ?_;refine gz6 ?_;refine uRp ?_
 (rw [hg];rfl)
theorem zhV [Tracks] {l:List MendS} (hl:l.length<=1000000):zrf prog 37 [.slice 7 (l.map zbc)] 7 (l.map zbc):=by
 refine uOb func37 ntmps37 ?_;refine gz6 ?_;refine de rfl (zl4 zeg rfl rfl fun b4 hb4=> ?_)
 refine gz1 ?_;refine uCo (fun h1=> ?_) fun h2=> ?_
 refine gz4 ?_;exact zA (zJ 7) rfl ⟨_,rfl,by simp_all⟩;refine gz3 ?_;refine de rfl (zqv zeg zaY fun v5=> ?_)
 refine gz1 ?_;refine de rfl (zH (i:=0) zeg zaY rfl rfl rfl rfl rfl (by simp [zan,zb]) uSo fun v7=> ?_)
 refine gz3 ?_;exact zsU rfl rfl
end
section
open Go.Proofs.Tryz
open Go.HL
theorem zoR [Tracks] {l:List Play} {trust:List Str} {week n:Int} (hok:zb7 l=0) (ht:trust.length<=1000000):ConP prog 94 [zbK l,eSs trust,.int .i64 week,.int .i64 n] (.tup [zbJ (znf l trust week n),.int .i64 (zne l trust week n)]):=by
 have hone:=zBp hok;have hpf:=zei hok;have hl3:=(zme hok).1;have hl:l.length<=1000000:=by omega
 refine uOb func94 ntmps94 ?_;refine gz7 ?_;refine de rfl (zaA (M1:=[]) (R:=[]) zHm rfl (WeakL.refl _) (Ac _) (znB (l:=l) (n:=n) hl) ?_)
 rintro _ _ ⟨U,rfl,⟨hUl,hU⟩,rfl⟩;refine gz3 ?_;refine de rfl (zax fun m22=> ?_)
 refine gz5 ?_;refine zd (zJ 1) ?_;refine gz7 ?_;refine uV3 [12,3,25,61] (fun (k:Nat) (G:GrM Str) (u:Value)=>[(25,.int .i64 k),(12,.raw u)]) (fun (k:Nat) (G:GrM Str) (u:Value)=>[MObj.map m22 (sk (em fM (zd7 G))),.arr u 1 ((zaI l trust week n (l.take k)).S.map .str)]++grm HVal.str G) (fun (k:Nat) (G:GrM Str) (u:Value)=>k<=l.length/\(GrOk (zaI l trust week n (l.take k)).S (zaI l trust week n (l.take k)).c G)) (fun (k:Nat) (G:GrM Str) (u:Value)=>l.length-k) (0) ([]) (.slice none 0 0) ?_ ?_ ?_ ?_
 ·exact ⟨Ad _,GrOk.nil⟩
 ·exact ⟨rfl,rfl,trivial⟩
 ·exact List.Perm.swap _ _ _
 ·intro k G u hinv
  obtain ⟨hk,hG⟩:=hinv;refine gz4 ?_;refine uCo (fun h1=> ?_) fun h2=> ?_
  ·obtain ⟨x,hx⟩: ∃x,l[k]? =some x:=⟨_,Aa h1⟩
   have hdx:=zi hx;have hpx:=hpf x (Ab hx);obtain ⟨_,_,_,_,_,hcb,_⟩:=zeC hpx;have hlk:=zog (l:=l) (m:=l.take k) (trust:=trust) (week:=week) (n:=n) (fun y hy=>hpf y (AS hy));have hSl:=hlk.Sl;have hlt:((l.take k).length:Int)<=3000:=by rw [Az];omega
   refine gz6 ?_;refine dq (zB zh7 zbf rfl rfl rfl (by assumption)) ?_;refine gz1 ?_;refine de rfl (zg zbf rfl fun b14=> ?_)
   refine gz1 ?_;refine de0 (zj zbf rfl rfl rfl rfl rfl ?_)
   refine gz1 ?_;refine zd (zm 14 rfl) ?_;refine gz1 ?_;refine uDr mixed ?_;refine zrB ?_;refine ahg 16 rfl rfl (by kernel_rfl) (by kernel_rfl) rfl (fun hc=>⟨_,OpenTo.upd (t:=45) rfl (hc) (OpenTo.upd (t:=44) rfl (hc) (OpenTo.upd (t:=42) rfl (hc) (OpenTo.upd (t:=41) rfl (hc) (OpenTo.refl _)))),uCl zHn rfl (znz (m:=x.Match) hl ht)⟩) ?_;refine gz7 ?_;refine uGy 24 rfl rfl (fun hc=>uCl zze rfl (zd8 (l:=U) (z:=(k:Int)) hUl)) ?_;refine gz7 ?_;refine uCo (fun h3=> ?_) fun h4=> ?_
   ·refine gz8 ?_;have hin:zhC l trust week n x=false:=by
     rw [<-znj hone hU hx,Bool.not_eq_eq_eq_not,Cp];simp only [A1,bne_iff_ne,ne_eq,decide_eq_true_eq,Bd];exact h3
    have hgo:zaI l trust week n (l.take (k+1))=(zaI l trust week n (l.take k)):=by rw [zl9 hx,ze9,if_neg (by rw [hin];simp)]
    exact ⟨k+1,G,u,⟨by omega,by rw [hgo];exact hG⟩,uD,⟨rfl,rfl,trivial⟩,uK,zl (by dsimp only;rw [hgo])⟩
   ·refine gz2 ?_;refine uVj [12,1,61,14] (fun (p:GrM Str×Value)=>[(12,.raw p.2)]) (fun (p:GrM Str×Value)=>[MObj.map m22 (sk (em fM (zd7 p.1))),.arr p.2 1 ((zbW x.Player (zaI l trust week n (l.take k)).S).map .str)]++grm HVal.str p.1) (fun (p:GrM Str×Value)=>GrOk (zbW x.Player (zaI l trust week n (l.take k)).S) (zaI l trust week n (l.take k)).c p.1/\∃b L,alk x.Player p.1=some (b,L)) ?_ ?_
    ·skip
     refine gz4 ?_;refine de rfl (zct (i:=0) (f:=fM) (z0:=none) zvQ ty9 zcT rfl rfl rfl rfl ?_)
     refine dq (zz2 zcT rfl rfl) ?_;refine gz1 ?_;refine uCo (fun h5=> ?_) fun h6=> ?_
     ·refine gz4 ?_;refine de rfl (zax fun m69=> ?_)
      refine de0 (zbj (i:=1) (f:=fM) (v:=some m69) zvQ ty9 rfl rfl rfl rfl ?_)
      refine gz5 ?_;refine dq (za (hs:=[_]) zo ty9 rfl rfl (by decide) (by decide) rfl) ?_;refine de rfl (zH (i:=2) zo ty9 rfl rfl rfl rfl rfl (by simp [zan,zb]) uSo fun v74=> ?_)
      refine gz2 ?_;have hnone:=zzS (by simpa using h5);have hns:=hG.none.1 hnone;exact ⟨(zp x.Player (m69,[]) G,v74),⟨hG.add m69 hnone,m69,[],by rw [za3,if_pos rfl]⟩,⟨rfl,trivial⟩,uK,by dsimp only;rw [<-zuP (L:=[]),zC9 hns,Ay];exact zEG (ek:=HVal.str) (A:=[_,_]) (b:=m69) (L:=[]) hG.anodup hnone⟩
     ·refine gz1 ?_;obtain ⟨b0,L0,hb0⟩:=zzT (by simpa using h6);have hins:=hG.mem hb0;exact ⟨(G,u),⟨by rw [zxk hins];exact hG,b0,L0,hb0⟩,⟨rfl,trivial⟩,uK,zl (by dsimp only;rw [zxk hins])⟩
    ·intro p hp
     have hin:zhC l trust week n x=true:=by rw [<-znj hone hU hx];simpa using h4
     have hgo:zaI l trust week n (l.take (k+1))=zvM (zaI l trust week n (l.take k)) x:=by rw [zl9 hx,ze9,if_pos hin]
     obtain ⟨G1,u1⟩:=p;dsimp only at hp;obtain ⟨hG1,b1,L1,hb⟩:=hp;have hL:=hG1.get hb;have hvb:=hlk.val (x.Player,x.Stat);rw [<-zl6,<-hL] at hvb;refine zd (Ghost.perm (zrA (ek:=HVal.str) (A:=[_,_]) hG1.anodup hb)) ?_;refine gz4 ?_;refine de rfl (zct (i:=1) (f:=fM) (z0:=none) zvQ ty9 zcT rfl rfl rfl rfl ?_)
     rw [zjX,hb];refine gz2 ?_;refine de rfl (zct (i:=0) (f:=HVal.int .i64) (L:=L1) (z0:=(0:Int)) zcT ty9 ty3 rfl rfl rfl rfl ?_)
     refine gz3 ?_;refine de0 (zbj (i:=0) (f:=HVal.int .i64) (L:=L1) (s:=x.Stat) (v:=(alk x.Stat L1).getD 0+x.Count) zcT ty9 rfl rfl rfl rfl ?_)
     refine gz7 ?_;exact ⟨k+1,zp x.Player (b1,zp x.Stat ((alk x.Stat L1).getD 0+x.Count) L1) G1,u1,⟨by omega,by rw [hgo];unfold zvM;rw [<-zl6,<-hL];exact hG1.put hb _ _⟩,uD,⟨rfl,rfl,trivial⟩,uK,by dsimp only;rw [hgo,zsL hb];exact zyj (ek:=HVal.str) (A:=[_,_]) hG1.anodup⟩
  ·have hnk:l.length<=k:=by omega
   obtain rfl:k=l.length:=by omega
   rw [Am] at hG⊢;have hlk:=zog (l:=l) (m:=l) (trust:=trust) (week:=week) (n:=n) hpf;have hlk1:=hlk.cl;have hlk2:=hlk.Sl;have hlk3:=zuO (zaI l trust week n l).S;refine gz2 ?_;refine zcE ?_;refine gz5 ?_;refine zd (zJ 3) ?_;refine gz1 ?_;refine zd (zay 12 (i:=2) rfl rfl) ?_;refine zd (zbv (M':=[MObj.arr (.slice none 0 0) 3 [],.map m22 (sk (em fM (zd7 G)))]++grm HVal.str G) rfl) ?_;refine gz2 ?_;refine de rfl (zo0 (uCa zHo rfl (zro (l:=(zaI l trust week n l).S) uO) fun v=>⟨v,rfl,rfl⟩) ?_)
   refine dq (zaE (f:=HVal.str) (l:=zdX (zaI l trust week n l).S) zo rfl) ?_;refine gz3 ?_;refine uU2 [15,1,17,1,89,15] (fun (k:Nat) (u:Value)=>[(89,.int .i64 k),(15,.raw u)]) (fun (k:Nat) (u:Value)=>[MObj.arr u 3 ((((zdX (zaI l trust week n l).S).take k).map (zzF (zaI l trust week n l) week)).map zaq),.map m22 (sk (em fM (zd7 G)))]++grm HVal.str G) (fun (k:Nat) (u:Value)=>k<=(zdX (zaI l trust week n l).S).length/\(True)) (fun (k:Nat) (u:Value)=>(zdX (zaI l trust week n l).S).length-k) (0) (.slice none 0 0) ?_ ?_
   ·exact ⟨Ad _,trivial⟩
   ·rintro k u ⟨hk,-⟩;refine gz4 ?_;refine uCo (fun h7=> ?_) fun h8=> ?_
    ·obtain ⟨x,hx⟩: ∃x,(zdX (zaI l trust week n l).S)[k]? =some x:=⟨_,Aa h7⟩
     have hdx:=zi hx;have hxS:=zpX.1 (Ab hx);obtain ⟨b1,L1,hb⟩:=hG.find hxS;have hL:=hG.get hb;subst hL;refine gz5 ?_;refine dq (zB (f:=HVal.str) (l:=zdX (zaI l trust week n l).S) (j:=k) (a:=x) zo ty9 rfl rfl rfl hx) ?_;refine gz9 ?_;refine de rfl (zct (i:=1) (f:=fM) (z0:=none) zvQ ty9 zcT rfl rfl rfl rfl ?_)
     rw [zjX,hb];refine de rfl (zaA (M1:=[.map b1 (sk (em (HVal.int .i64) (zbN (zaI l trust week n l).c x)))]) (R:=[MObj.arr u 3 ((((zdX (zaI l trust week n l).S).take k).map (zzF (zaI l trust week n l) week)).map zaq),.map m22 (sk (em fM (zd7 G)))]++grm HVal.str (G.filter fun q=>decide (q.1≠x))) zDG rfl (WeakL.refl _) (zrA hG.anodup hb) (zkj (c:=zbN (zaI l trust week n l).c x) (zxM hlk.c x) (An (zuz _ _) uO)) ?_)
     rintro _ _ ⟨rfl,rfl⟩;refine dq (zC (cs:=[_,_,_]) zbg zzZ rfl) ?_;refine dq (za (hs:=[_]) zeT zbg rfl rfl (by decide) (by decide) rfl) ?_;refine de rfl (zH (i:=1) zeT zbg rfl rfl rfl rfl rfl (by simp [zan,zb]) uSo fun v102=> ?_)
     refine gz8 ?_;exact ⟨k+1,v102,⟨by omega,trivial⟩,uD,⟨rfl,rfl,trivial⟩,uK,by dsimp only;rw [zW hx,Ay,Ay];exact (zrA (ek:=HVal.str) (A:=[_,_]) hG.anodup hb).symm⟩
    ·have hnk:(zdX (zaI l trust week n l).S).length<=k:=by omega
     obtain rfl:k=(zdX (zaI l trust week n l).S).length:=by omega
     refine gz2 ?_;refine zQ ?_;refine gz3 ?_;rw [Am];refine zd (zay 15 (i:=0) rfl rfl) ?_;refine gz2 ?_;refine dq (uCl zHp rfl (zrn (l:=zfi (zaI l trust week n l) week) (An zxc uO) (fun y hy=>An (zt2 y hy) uO))) ?_;refine gz6 ?_;refine uCo (fun h9=> ?_) fun h10=> ?_
     ·refine gz6 ?_;exact ⟨_,[],Ghost.clear,_,_,rfl,zbM (zD 3) (Weak.refl _),by rw [znf,zne,if_pos (by simpa using h9),if_pos (by simpa using h9)];rfl,rfl⟩
     ·refine gz8 ?_
      (refine zA Ghost.clear rfl ⟨?_,rfl⟩
       rw [znf,zne,if_neg (by simpa using h10),if_neg (by simpa using h10)];rfl)
end
section
open Go.HL
set_option linter.unusedSimpArgs false
end
section
open Go.HL
set_option linter.unusedSimpArgs false
end
section
open Go.HL
set_option linter.unusedSimpArgs false
end
section
open Go.HL
set_option linter.unusedSimpArgs false
end
section
open Go.HL
set_option linter.unusedSimpArgs false
end
section
open Go.HL
set_option linter.unusedSimpArgs false
end
section
open Go.HL
set_option linter.unusedSimpArgs false
end
section
open Go.Proofs.Tryz
open Go.HL
theorem zhX [Tracks] {l m:List StatS} (hl:l.length<=1000000):ConP prog 50 [zpz l,zpz m] (.bool (zea zaG l m)):=by
 refine uOb func50 ntmps50 ?_;refine zcg ?_;refine uCo (fun h1=> ?_) fun h2=> ?_
 refine gz4 ?_;refine zu rfl ?_
 show HVal.bool _=_
 (congr 1;symm;exact zjR uO)
 refine gz9 ?_;refine uT1 [4,2,13,13] (fun k=>[(13,.int .i64 k)]) (fun k=>[]) (fun k=>k<=l.length/\(l.length=m.length/\zea zaG l m=zea zaG (l.drop k) (m.drop k))) (fun k=>l.length-k) (0) ?_ ?_;refine ⟨Ad _,?_,rfl⟩
 omega
 rintro k ⟨hk,hg⟩;refine gz4 ?_;refine uCo (fun h3=> ?_) fun h4=> ?_
 obtain ⟨x,hx⟩: ∃x,l[k]? =some x:=⟨_,Aa h3⟩
 have hdx:=zi hx;obtain ⟨y,hy⟩: ∃y,m[k]? =some y:=⟨_,Aa uO⟩
 rw [hdx,zi hy] at hg;refine gz8 ?_;refine uDr mixed ?_;refine gz8 ?_;refine uB 8 rfl (zgV zbD zIO rfl rfl ⟨rfl,⟨_,_,_,_,ty9,rfl⟩,⟨rfl,⟨_,_,_,_,ty3,rfl⟩,trivial⟩⟩) ?_;refine gz1 ?_;refine uCo (fun h5=> ?_) fun h6=> ?_
 refine gz4 ?_;refine zu rfl ?_
 show HVal.bool _=_
 (rw [hg.2,zea,show zn0 zaG x y=false from h5];rfl)
 refine gz7 ?_;refine ⟨k+1,?_,?_,⟨rfl,trivial⟩,uK,Ac _⟩
 refine ⟨by omega,hg.1,?_⟩
 rw [hg.2,zea,show zn0 zaG x y=true from h6];rfl
 dsimp only;omega
 have hnk:l.length<=k:=by omega
 obtain rfl:k=l.length:=by omega
 rw [zz (Ae _)] at hg;refine gz2 ?_;refine zv ?_;refine gz6 ?_;refine zu rfl ?_
 show HVal.bool _=_
 (rw [hg.2,zz (Bj hg.1.symm)];rfl)
theorem zjH [Tracks] {a b:LineS}:ConP prog 49 [zaq a,zaq b] (.int .i64 (zBU a b)):=by
 refine uOb func49 ntmps49 ?_;refine gz5 ?_;refine uDr mixed ?_;refine gz4 ?_;refine uB 4 rfl (uCl zcO rfl zR) ?_;refine gz4 ?_;refine uB 9 rfl (uCl zdT rfl z6) ?_;refine uB 10 rfl (za (hs:=[_,_]) zab ty3 rfl rfl (by decide) (by decide) rfl) ?_;refine uB 11 rfl (uCl zg7 rfl (zbP (l:=[_,_]) (by simp))) ?_;refine gz3 ?_;refine zu rfl ?_
 rfl
theorem znx [Tracks] {x:LineS} (hs:x.Stats.length<=1000000):ConP prog 16 [zaq x,zaq x] (.bool true):=by
 refine uOb func16 ntmps16 ?_;refine gz8 ?_;refine dq (uCl ca49 rfl zjH) ?_;refine gz6 ?_;refine uGr rfl (fun hc=>uCl ca50 rfl (zhX (l:=x.Stats) (m:=x.Stats) hs)) ?_;refine gz4 ?_;refine zu rfl ?_
 show HVal.bool _=_
 simp [zAA,zpD]
theorem zdu [Tracks] {l:List LineS} (hl:l.length<=1000000) (hs: ∀y∈l,y.Stats.length<=1000000):ConP prog 15 [zbJ l,zbJ l,.fn (.func 16) [] []] (.bool true):=by
 refine uOb func15 ntmps15 ?_;refine zcg ?_;refine zam rfl (fun h1=> ?_) (fun h1=> ?_)
 ·exfalso
  try simp at h1
  done
 ·try simp at h1
  refine gz9 ?_;refine uT1 [6,4,17,15] (fun k=>[(17,.int .i64 k)]) (fun k=>[]) (fun k=>k<=l.length/\(True)) (fun k=>l.length-k) (0) ?_ ?_
  ·exact ⟨Ad _,trivial⟩
  ·rintro k ⟨hk,-⟩;refine gz4 ?_;refine uCo (fun h2=> ?_) fun h3=> ?_
   ·obtain ⟨x,hx⟩: ∃x,l[k]? =some x:=⟨_,Aa h2⟩
    have hdx:=zi hx;refine gz8 ?_;refine de rfl (zg zbg rfl fun b8=> ?_)
    refine gz1 ?_;refine de0 (zj zbg rfl rfl rfl rfl rfl ?_)
    refine gz1 ?_;refine zd (zm 8 rfl) ?_;refine gz3 ?_;refine dq (zB (j:=k) (a:=x) zeT zbg rfl rfl rfl hx) ?_;refine gz1 ?_;refine de rfl (zg zbg rfl fun b9=> ?_)
    refine de0 (zj zbg rfl rfl rfl rfl rfl ?_)
    refine gz1 ?_;refine zd (zm 9 rfl) ?_;refine gz4 ?_;refine dq (zag ca16 rfl rfl (WeakL.refl _) (znx (hs x (Ab hx)))) ?_;refine gz2 ?_;refine zam rfl (fun h4=> ?_) (fun h4=> ?_)
    ·exfalso
     try simp at h4
     done
    ·try simp at h4
     refine gz7 ?_;refine ⟨k+1,?_,?_,⟨rfl,trivial⟩,uK,Ac _⟩
     ·exact ⟨by omega,trivial⟩
     ·dsimp only;omega
   ·have hnk:l.length<=k:=by omega
    obtain rfl:k=l.length:=by omega
    refine gz2 ?_;refine zv ?_;refine gz6 ?_;refine zu rfl ?_
    rfl
end
section
open Go.Proofs.Tryz
open Go.HL
theorem zhU [Tracks] {l:List LineS} (hl:l.length<=1000000):zrf prog 190 [.slice 3 (l.map zaq)] 3 (l.map zaq):=by
 refine uOb func190 ntmps190 ?_;refine gz6 ?_;refine de rfl (zl4 zeT rfl rfl fun b4 hb4=> ?_)
 refine gz1 ?_;refine uCo (fun h1=> ?_) fun h2=> ?_
 refine gz4 ?_;exact zA (zJ 3) rfl ⟨_,rfl,by simp_all⟩;refine gz3 ?_;refine de rfl (zqv zeT zbg fun v5=> ?_)
 refine gz1 ?_;refine de rfl (zH (i:=0) zeT zbg rfl rfl rfl rfl rfl (by simp [zan,zb]) uSo fun v7=> ?_)
 refine gz3 ?_;exact zsU rfl rfl
theorem zqJ [Tracks] {x:LineS} {p:Str} {w:Int}:ConP prog 269 [zaq x,.vptr [.str p] 0,.vptr [.int .i64 w] 0] (.bool (zi5 p w x)):=by
 refine uOb func269 ntmps269 ?_;refine zCi ?_;refine zu rfl ?_
 show HVal.bool _=_
 unfold zi5
 cases x.Player==p<;>simp_all
theorem zr4 [Tracks] {v:Value} {l:List LineS} {p s:Str} {w n:Int} (hl:l.length<=1000) (hs: ∀x∈l,x.Stats.length<=1000):Con prog 191 [.raw v,.str p,.int .i64 w,.str s,.int .i64 n] [.arr v 3 (l.map zaq)] (fun x M'=> ∃u,x= .raw u/\M'=[.arr u 3 ((zhr p w s n l).map zaq)]):=by
 refine uOb func191 ntmps191 ?_;refine gz5 ?_;refine zEI (i:=0) rfl (fun va vc hv=> ?_)
 rw [Af] at hv;subst hv;refine gz3 ?_;refine de rfl (ze1 (hs':=[.slice 3 (l.map zaq),.fn (.func 269) [] [.vptr [.str p] 0,.vptr [.int .i64 w] 0]]) zBZ rfl ⟨.arr (i:=0) rfl,.weak (Weak.refl _),trivial⟩ (zcp (l:=l) (p:=zi5 p w) zIh (fun _=>zqJ) uO) rfl ?_)
 refine gz2 ?_;refine uVj [0,1,11,1,18,10] (fun (q:Value×List LineS×Nat)=>[(0,.raw q.1),(11,.int .i64 (q.2.2:Int))]) (fun (q:Value×List LineS×Nat)=>[.arr q.1 3 (q.2.1.map zaq)]) (fun (q:Value×List LineS×Nat)=> ∃stL:List StatS,q.2.1[q.2.2]? =some ⟨p,w,stL⟩/\stL.length<=1000/\q.2.1.set q.2.2 ⟨p,w,zeJ stL s n⟩=zhr p w s n l/\q.2.1.length<=1001) ?_ ?_
 skip
 refine gz4 ?_;refine uCo (fun h1=> ?_) fun h2=> ?_
 refine gz4 ?_;refine dq (zw7 (zAn p w) (zC (cs:=[_,_,_]) zbg zzZ rfl)) ?_;refine dq (za (hs:=[_]) zeT zbg rfl rfl (by decide) (by decide) rfl) ?_;refine de rfl (zH (i:=0) zeT zbg rfl rfl rfl rfl rfl (by simp [zan,zb]) (by simp only [Af,Ah,Ar];omega) fun v25=> ?_)
 refine gz1 ?_;refine dq (zfh zeT rfl) ?_;refine gz3 ?_;exact ⟨(v25,l++[⟨p,w,[]⟩],l.length),⟨[],by simp,by simp,zFm (by simpa using h1),by simp;omega⟩,⟨rfl,zU (by dsimp only),trivial⟩,uK,zl (by simp)⟩;refine gz1 ?_;obtain ⟨i0,st0,hi0,hi1,hi2,hi3⟩:=zFn (s:=s) (n:=n) (l:=l) (p:=p) (w:=w) (by simpa using h2);exact ⟨(_,l,i0),⟨st0,hi2,hs _ (Ab hi2),hi3,uD⟩,⟨rfl,zU hi0,trivial⟩,uK,Ac _⟩
 intro q hq
 obtain ⟨v1,l1,k⟩:=q;dsimp only at hq⊢;obtain ⟨stL,hk,hst,ztJ,hl1⟩:=hq;have hkl:=zn hk;refine gz1 ?_;refine de rfl (zax fun m28=> ?_)
 refine gz3 ?_;refine zc3 (i:=1) rfl (fun h0 he=> ?_) (fun b off cap hv hcap=> ?_)
 exfalso;have:=congrArg List.length he;simp at this;subst this;simp at hkl
 rw [Af] at hv hcap;subst hv;refine gz3 ?_;refine dq (zM (j:=k) zeT zbg rfl rfl rfl uO) ?_;refine gz1 ?_;refine de rfl (zaC (i:=1) (j:=k) 2 zdb rfl uO rfl hk rfl rfl ?_)
 refine dq (zaE (f:=zaG) (l:=stL) zdb rfl) ?_;refine gz3 ?_;refine uV1 [14,1,35,10] (fun (j:Nat)=>[(35,.int .i64 j)]) (fun (j:Nat)=>[.map m28 (sk (em (HVal.int .i64) (stP (stL.take j)))),.arr (.slice (some ⟨b,off,none⟩) l1.length cap) 3 (l1.map zaq)]) (fun (j:Nat)=>j<=stL.length/\(True)) (fun (j:Nat)=>stL.length-j) (0) ?_ ?_ ?_ ?_;exact ⟨Ad _,trivial⟩;exact ⟨rfl,trivial⟩;exact zl rfl
 intro j hinv
 obtain ⟨hj,-⟩:=hinv;refine gz4 ?_;refine uCo (fun h3=> ?_) fun h4=> ?_
 obtain ⟨z,hz⟩: ∃z,stL[j]? =some z:=⟨_,Aa h3⟩
 have hdz:=zi hz;refine gz5 ?_;refine dq (zB (f:=zaG) (l:=stL) (j:=j) (a:=z) zdb zbD rfl rfl rfl hz) ?_;refine gz1 ?_;refine de rfl (zg zbD rfl fun b14=> ?_)
 refine de0 (zj zbD rfl rfl rfl rfl rfl ?_)
 refine gz1 ?_;refine zd (zm 14 rfl) ?_;refine gz6 ?_;refine de0 (zbj (i:=0) (f:=(HVal.int .i64)) (s:=z.Name) (v:=z.Count) zcT ty9 rfl rfl rfl rfl ?_)
 refine gz7 ?_;exact ⟨j+1,⟨by omega,trivial⟩,uD,⟨rfl,trivial⟩,uK,zl (by dsimp only;rw [zDe hz];rfl)⟩;have hnj:stL.length<=j:=by omega
 obtain rfl:j=stL.length:=by omega
 rw [Am];refine gz2 ?_;refine zv ?_;refine gz6 ?_;refine de0 (zbj (i:=0) (f:=(HVal.int .i64)) (s:=s) (v:=n) zcT ty9 rfl rfl rfl rfl ?_)
 refine gz5 ?_;refine de rfl (zaA (M1:=[.map m28 (sk (em (HVal.int .i64) (zp s n (stP stL))))]) (R:=[.arr (.slice (some ⟨b,off,none⟩) l1.length cap) 3 (l1.map zaq)]) zDG rfl (WeakL.refl _) (Ac _) (zkj (c:=zp s n (stP stL)) (zu7 stL).put (An (zia _ _ _) (by have:=zyR stL;omega))) ?_)
 rintro _ _ ⟨rfl,rfl⟩;refine dq (zM (j:=k) zeT zbg rfl rfl rfl uO) ?_;refine gz1 ?_;refine de0 (zac (i:=1) (j:=k) (f:=2) (y:=zaq ⟨p,w,stL⟩) (y':=zaq ⟨p,w,zeJ stL s n⟩) zdb rfl uO rfl rfl (zbG hk) rfl rfl (by simp [zb]) rfl ?_)
 refine gz6 ?_;exact zA Ghost.drop rfl ⟨_,rfl,by rw [<-ztJ,List.map_set];rfl⟩
theorem zml [Tracks] {x:LineS}:ConP prog 193 [zaq x] (.bool (decide (40<x.Stats.length))):=by
 refine uOb func193 ntmps193 ?_;refine zdf ?_;refine zu rfl ?_
 show HVal.bool _=_
 refine congrArg _ (decide_eq_decide.2 ?_)
 omega
end
section
open Go.Proofs.Tryz
open Go.HL
theorem zaF [Tracks] {b:Nat} {l:List Int} {a:Nat} (ha:a<=800000):Con prog 119 [pAt b] [St b l a] (fun x M'=> ∃t a',x=eSs t/\GoodTr t/\a'<=a+10/\M'=[St b l a']):=by
 refine uOb func119 ntmps119 ?_;refine gz6 ?_;refine zd (zJ 1) ?_;refine gz3 ?_;refine de rfl (uCx 1 zDN rfl rfl (zgy (n:=3) uO uO uO) ?_)
 rintro _ _ ⟨L7,a7,rfl,hL7,ha7,rfl⟩;refine gz3 ?_;obtain ⟨hLn,hLb⟩:=hL7;refine gz1 ?_;refine uV2 [3,1,5,1,9,15] (fun (k:Nat) (q:GL Str)=>[(9,.int .i64 k),(3,.raw q.u)]) (fun (k:Nat) (q:GL Str)=>[St b l q.a,.arr q.u 1 (q.out.map .str)]) (fun (k:Nat) (q:GL Str)=>k<=L7.length/\(GLok Sh k (a7+k) q)) (fun (k:Nat) (q:GL Str)=>L7.length-k) (0) (⟨.slice none 0 0,[],a7⟩) ?_ ?_ ?_ ?_;exact ⟨Ad _,⟨by simp,by simp,uD⟩⟩;exact ⟨rfl,rfl,trivial⟩;exact uP
 intro k q hinv
 obtain ⟨hk,hq⟩:=hinv;obtain ⟨u,out,a2⟩:=q;obtain ⟨g1,g2,g3⟩:=id hq;dsimp only at g1 g2 g3;refine gz4 ?_;refine uCo (fun h1=> ?_) fun h2=> ?_
 obtain ⟨y,hy⟩: ∃y,L7[k]? =some y:=⟨_,Aa h1⟩
 have hdy:=zi hy;refine zcg ?_;refine de rfl (uCx 0 zfd rfl rfl (zK uSo uO) ?_)
 rintro _ _ ⟨y14,rfl,rfl⟩;refine gz2 ?_;refine uCo (fun h3=> ?_) fun h4=> ?_
 refine gz2 ?_;refine dq (za (hs:=[_,_,_]) zo ty9 rfl rfl (by decide) (by decide) rfl) ?_;refine gz1 ?_;refine dq (zB (f:=HVal.str) (l:=zhu) (j:=y.toNat) (a:=zhu.getD y.toNat []) zo ty9 rfl rfl (by have:=hLb y (Ab hy);omega) (getD_some (by have:=hLb y (Ab hy);simp [zhu];omega))) ?_;refine gz1 ?_;refine dq (za (hs:=[_]) zo ty9 rfl rfl (by decide) (by decide) rfl) ?_;refine de rfl (zH (i:=1) zo ty9 rfl rfl rfl rfl rfl (by simp [zan,zb]) uSo fun v22=> ?_)
 refine gz8 ?_;exact ⟨k+1,⟨v22,out++[zhu.getD y.toNat []],a2+1⟩,⟨by omega,hq.add (x:=zhu.getD y.toNat []) (znn _ (zCg (by have:=hLb y (Ab hy);simp [zhu];omega))) uO⟩,uD,⟨rfl,rfl,trivial⟩,uK,uP⟩;refine gz7 ?_;exact ⟨k+1,⟨u,out,a2+1⟩,⟨by omega,hq.same uO⟩,uD,⟨rfl,rfl,trivial⟩,uK,uP⟩;have hnk:L7.length<=k:=by omega
 obtain rfl:k=L7.length:=by omega
 refine gz2 ?_;refine zQ ?_;refine gz3 ?_
 dsimp only
 refine gz2 ?_;refine de rfl (uCx 0 zfd rfl rfl (zK uO uO) ?_)
 rintro _ _ ⟨y25,rfl,rfl⟩;refine gz1 ?_;refine uCo (fun h5=> ?_) fun h6=> ?_
 refine gz3 ?_;refine dq (za (hs:=[_,_,_]) zo ty9 rfl rfl (by decide) (by decide) rfl) ?_;refine de rfl (uCx 0 zcC rfl rfl (zq (L:=[_,_,_]) uO uSa uSa) ?_)
 rintro _ _ ⟨y29,rfl,hy29,rfl⟩;refine dq (za (hs:=[_]) zo ty9 rfl rfl (by decide) (by decide) rfl) ?_;refine de rfl (zH (i:=1) zo ty9 rfl rfl rfl rfl rfl (by simp [zan,zb]) uSo fun v31=> ?_)
 refine gz8 ?_;exact zA (zay 2 (i:=1) rfl rfl) rfl ⟨out++[y29],_,by simp,⟨by simp;omega,fun s hs=>by
  rcases List.mem_append.1 hs with hs|hs
  exact g2 s hs;rw [List.mem_singleton.1 hs];simp at hy29;rcases hy29 with rfl|rfl|rfl<;>(unfold Sh;simp)⟩,by omega,rfl⟩
 refine gz7 ?_;exact zA (zay 2 (i:=1) rfl rfl) rfl ⟨out,_,rfl,⟨by omega,g2⟩,by omega,rfl⟩
theorem zlC [Tracks] {b:Nat} {l:List Int} {a:Nat} (ha:a<=700000):Con prog 54 [pAt b] [St b l a] (fun x M'=> ∃k a',x=zbK k/\GoodPl k/\a'<=a+500/\M'=[St b l a']):=by
 refine uOb func54 ntmps54 ?_;refine gz6 ?_;refine zd (zJ 9) ?_;refine gz2 ?_;refine dq (za (hs:=[_,_,_]) zo ty9 rfl rfl (by decide) (by decide) rfl) ?_;refine dq (zaE (f:=HVal.str) (l:=zhu) zo rfl) ?_;refine gz3 ?_;refine uV2 [3,1,5,5,11,1,15,97] (fun (k:Nat) (q:GL Play)=>[(15,.int .i64 k),(3,.raw q.u)]) (fun (k:Nat) (q:GL Play)=>[St b l q.a,.arr q.u 9 (q.out.map zak)]) (fun (k:Nat) (q:GL Play)=>k<=zhu.length/\(GLok zdR (5*k) (a+130*k) q)) (fun (k:Nat) (q:GL Play)=>zhu.length-k) (0) (⟨.slice none 0 0,[],a⟩) ?_ ?_ ?_ ?_;exact ⟨by decide,⟨by simp,by simp,uD⟩⟩;exact ⟨rfl,rfl,trivial⟩;exact uP
 intro k q hinv
 obtain ⟨hk,hq⟩:=hinv;obtain ⟨u,out,a1⟩:=q;obtain ⟨g1,g2,g3⟩:=id hq;dsimp only at g1 g2 g3;have h3:zhu.length=3:=rfl;refine gz4 ?_;refine uCo (fun h1=> ?_) fun h2=> ?_
 obtain ⟨x,hx⟩: ∃x,zhu[k]? =some x:=⟨_,Aa h1⟩
 have hdx:=zi hx;refine gz5 ?_;refine dq (zB (f:=HVal.str) (l:=zhu) (j:=k) (a:=x) zo ty9 rfl rfl rfl hx) ?_;refine gz5 ?_;refine dq (za (hs:=[_,_]) zab ty3 rfl rfl (by decide) (by decide) rfl) ?_;refine de rfl (uCx 0 zaZ rfl rfl (ze (L:=[_,_]) uSo uSa uSa) ?_)
 rintro _ _ ⟨y21,rfl,hy21,rfl⟩;refine gz5 ?_;refine de rfl (uCx 0 zho rfl rfl (zT uSo uO uO uO) ?_)
 rintro _ _ ⟨y23,rfl,hy23,rfl⟩;refine gz3 ?_;refine zuv (3::6::7::8::9::11::24::25::26::27::28::29::30::31::32::33::34::35::36::37::38::39::40::41::42::43::44::45::46::47::48::49::50::51::52::53::54::55::56::57::58::59::60::61::62::63::64::65::66::67::68::69::70::71::72::73::74::75::76::77::78::79::80::81::82::83::84::85::86::87::88::89::90::91::92::93::94::95::96::97::98::99::100::101::102::103::104::105::106::107::108::109::110::[]) (fun (n:Nat) (no:Int) (at1:Int) (q2:GL Play)=>[(24,.int .i64 (n:Int)),(6,.int .i64 no),(7,.int .i64 at1),(3,.raw q2.u)]) (fun (n:Nat) (no:Int) (at1:Int) (q2:GL Play)=>[St b l q2.a,.arr q2.u 9 (q2.out.map zak)]) (fun (n:Nat) (no:Int) (at1:Int) (q2:GL Play)=>(n:Int)<=y23/\(0<=no/\no<=2*n)/\(0<=at1/\at1<=5+40*n)/\GLok zdR (5*k+n) (a1+2+25*n) q2) (fun (n:Nat) (no:Int) (at1:Int) (q2:GL Play)=>y23.toNat-n) (0) (0) (y21) (⟨u,out,a1+2⟩) ?_ ?_ ?_ ?_;exact ⟨by omega,⟨by omega,by omega⟩,⟨by simp at hy21;omega,by simp at hy21;omega⟩,⟨uD,g2,uD⟩⟩;exact ⟨rfl,rfl,rfl,rfl,trivial⟩;exact uP
 intro n no at1 q2 hinv
 obtain ⟨hn,hno,hat,hq2⟩:=hinv;obtain ⟨u,out,a2⟩:=q2;obtain ⟨g1,g2,g3⟩:=id hq2;dsimp only at g1 g2 g3;refine gz4 ?_;refine uCo (fun h3=> ?_) fun h4=> ?_
 refine gz7 ?_;refine dq (za (hs:=[_,_,_]) zab ty3 rfl rfl (by decide) (by decide) rfl) ?_;refine de rfl (uCx 0 zaZ rfl rfl (ze (L:=[_,_,_]) uSo uSa uSa) ?_)
 rintro _ _ ⟨y29,rfl,hy29,rfl⟩;refine dq (zbt rfl rfl (by simp at hy29;omega) (by simp at hy29;omega)) ?_;refine gz4 ?_;refine de rfl (uCx 0 zj7 rfl rfl (zao uSo uO) ?_)
 rintro _ _ ⟨y32,rfl,hy32,rfl⟩;refine gz2 ?_;have hyb:1<=y29/\y29<=2:=by simp at hy29;omega
 refine uVj [9,1,33,21] (fun (q9:Nat×Play)=>[(9,pAt q9.1)]) (fun (q9:Nat×Play)=>[St b l (a2+5),.arr u 9 (out.map zak),.cells q9.1 (zb (zak q9.2))]) (fun (q9:Nat×Play)=>zdR q9.2) ?_ ?_
 skip
 refine zh8 mixed ?_;refine gz3 ?_;refine uB 3 rfl (za (hs:=[_,_,_]) zab ty3 rfl rfl (by decide) (by decide) rfl) ?_;refine gz1 ?_;refine uB 5 rfl (zB (f:=HVal.int .i64) (l:=zoD) (j:=y32) (a:=zoD.getD y32 0) zab ty3 rfl rfl rfl (getD_some (by simp [zoD];omega))) ?_;refine gz1 ?_;refine uB 7 rfl (za (hs:=[_,_,_]) zo ty9 rfl rfl (by decide) (by decide) rfl) ?_;refine gz1 ?_;refine uB 9 rfl (zB (f:=HVal.str) (l:=zf8) (j:=y32) (a:=zf8.getD y32 []) zo ty9 rfl rfl rfl (getD_some (by simp [zf8];omega))) ?_;refine gz2 ?_;refine uB 12 rfl (za (hs:=[_,_,_]) zo ty9 rfl rfl (by decide) (by decide) rfl) ?_;refine uA 14 ?_;refine uB 15 rfl (za (hs:=[_,_,_,_]) zo ty9 rfl rfl (by decide) (by decide) rfl) ?_;refine uA 17 ?_;refine uB 18 rfl (za (hs:=[_,_,_,_,_]) zab ty3 rfl rfl (by decide) (by decide) rfl) ?_;refine zi4 13 21 rfl rfl (by kernel_rfl) ?_ ?_
 skip
 refine zw rfl (uCx 0 zcC rfl rfl (zq (L:=[_,_,_]) uSo uSa uSa) ?_)
 rintro _ _ ⟨y46,rfl,hy46,rfl⟩;refine ⟨uE,?_⟩
 refine zi4 16 21 rfl rfl (by kernel_rfl) ?_ ?_
 skip
 refine zw rfl (uCx 0 zcC rfl rfl (zq (L:=[_,_,_,_]) uSo uSa uSa) ?_)
 rintro _ _ ⟨y49,rfl,hy49,rfl⟩;refine ⟨uE,?_⟩
 refine zi4 19 21 rfl rfl (by kernel_rfl) ?_ ?_
 skip
 refine zw rfl (uCx 0 zaZ rfl rfl (ze (L:=[_,_,_,_,_]) uSo uSa uSa) ?_)
 rintro _ _ ⟨y52,rfl,hy52,rfl⟩;refine ⟨uE,?_⟩
 refine uB 20 rfl (zC (cs:=[_,_,_,_,_,_,_,_,_]) zbf zvP rfl) ?_;refine uF 21 ?_;refine zw rfl (zg zbf rfl fun b9=> ?_)
 refine ⟨uE,?_⟩
 refine uF 22 ?_;refine zI (uY 0 ?_)
 refine ⟨uE,?_⟩
 refine uAz ?_;refine ⟨(b9,(⟨x,no+y29,at1,zoD.getD y32 0,zf8.getD y32 [],y46,y49,y52,0⟩:Play)),?_,⟨rfl,trivial⟩,uK,?_⟩
 exact ⟨znn x (Ab hx),zma y32,by simp at hy46;rcases hy46 with rfl|rfl|rfl<;>(unfold Sh;simp),by simp at hy49;rcases hy49 with rfl|rfl|rfl<;>(unfold Sh;simp)⟩;exact uP
 skip
 refine zw rfl (zg zbf rfl fun b9=> ?_)
 refine ⟨uE,?_⟩
 refine uF 19 ?_;refine zw rfl (uCx 1 zaZ rfl rfl (ze (L:=[_,_,_,_,_]) uSo uSa uSa) ?_)
 rintro _ _ ⟨y52,rfl,hy52,rfl⟩;refine ⟨uE,?_⟩
 refine uB 20 rfl (zC (cs:=[_,_,_,_,_,_,_,_,_]) zbf zvP rfl) ?_;refine uF 22 ?_;refine zI (uY 1 ?_)
 refine ⟨uE,?_⟩
 refine uAz ?_;refine ⟨(b9,(⟨x,no+y29,at1,zoD.getD y32 0,zf8.getD y32 [],y46,y49,y52,0⟩:Play)),?_,⟨rfl,trivial⟩,uK,?_⟩
 exact ⟨znn x (Ab hx),zma y32,by simp at hy46;rcases hy46 with rfl|rfl|rfl<;>(unfold Sh;simp),by simp at hy49;rcases hy49 with rfl|rfl|rfl<;>(unfold Sh;simp)⟩;exact uP
 skip
 refine zw rfl (zg zbf rfl fun b9=> ?_)
 refine ⟨uE,?_⟩
 refine uF 16 ?_;refine zw rfl (uCx 1 zcC rfl rfl (zq (L:=[_,_,_,_]) uSo uSa uSa) ?_)
 rintro _ _ ⟨y49,rfl,hy49,rfl⟩;refine ⟨uE,?_⟩
 refine uF 19 ?_;refine zw rfl (uCx 0 zaZ rfl rfl (ze (L:=[_,_,_,_,_]) uSo uSa uSa) ?_)
 rintro _ _ ⟨y52,rfl,hy52,rfl⟩;refine ⟨uE,?_⟩
 refine uB 20 rfl (zC (cs:=[_,_,_,_,_,_,_,_,_]) zbf zvP rfl) ?_;refine uF 22 ?_;refine zI (uY 1 ?_)
 refine ⟨uE,?_⟩
 refine uAz ?_;refine ⟨(b9,(⟨x,no+y29,at1,zoD.getD y32 0,zf8.getD y32 [],y46,y49,y52,0⟩:Play)),?_,⟨rfl,trivial⟩,uK,?_⟩
 exact ⟨znn x (Ab hx),zma y32,by simp at hy46;rcases hy46 with rfl|rfl|rfl<;>(unfold Sh;simp),by simp at hy49;rcases hy49 with rfl|rfl|rfl<;>(unfold Sh;simp)⟩;exact uP
 skip
 refine zw rfl (zg zbf rfl fun b9=> ?_)
 refine ⟨uE,?_⟩
 refine uF 13 ?_;refine zw rfl (uCx 1 zcC rfl rfl (zq (L:=[_,_,_]) uSo uSa uSa) ?_)
 rintro _ _ ⟨y46,rfl,hy46,rfl⟩;refine ⟨uE,?_⟩
 refine uF 16 ?_;refine zw rfl (uCx 0 zcC rfl rfl (zq (L:=[_,_,_,_]) uSo uSa uSa) ?_)
 rintro _ _ ⟨y49,rfl,hy49,rfl⟩;refine ⟨uE,?_⟩
 refine uF 19 ?_;refine zw rfl (uCx 0 zaZ rfl rfl (ze (L:=[_,_,_,_,_]) uSo uSa uSa) ?_)
 rintro _ _ ⟨y52,rfl,hy52,rfl⟩;refine ⟨uE,?_⟩
 refine uB 20 rfl (zC (cs:=[_,_,_,_,_,_,_,_,_]) zbf zvP rfl) ?_;refine uF 22 ?_;refine zI (uY 1 ?_)
 refine ⟨uE,?_⟩
 refine uAz ?_;refine ⟨(b9,(⟨x,no+y29,at1,zoD.getD y32 0,zf8.getD y32 [],y46,y49,y52,0⟩:Play)),?_,⟨rfl,trivial⟩,uK,?_⟩
 exact ⟨znn x (Ab hx),zma y32,by simp at hy46;rcases hy46 with rfl|rfl|rfl<;>(unfold Sh;simp),by simp at hy49;rcases hy49 with rfl|rfl|rfl<;>(unfold Sh;simp)⟩;exact uP
 intro q9 hq9
 obtain ⟨b9,x9⟩:=q9;dsimp only at hq9;refine uVj [11,1,54,47] (fun (q4:Play×Nat)=>[]) (fun (q4:Play×Nat)=>[St b l q4.2,.arr u 9 (out.map zak),.cells b9 (zb (zak q4.1))]) (fun (q4:Play×Nat)=>zdR q4.1/\q4.2<=a2+22) ?_ ?_
 skip
 refine gz5 ?_;refine dgx (fun x M'=> ∃(y:Bool) (a3:Nat),x= .bool y/\a3<=(a2+5)+1/\M'=[St b l a3,.arr u 9 (out.map zak),.cells b9 (zb (zak x9))]) rfl rfl (fun hc=>⟨_,false,(a2+5),rfl,by omega,rfl⟩) (fun hc=>⟨_,OpenTo.upd (t:=57) rfl (hc) (OpenTo.refl _),uCx 0 zfd rfl rfl (zK (a:=(a2+5)) uO uO) (fun h M' hh=>by
  obtain ⟨y,h1,h2⟩:=hh;exact ⟨y,(a2+5)+1,h1,by omega,by rw [h2];rfl⟩)⟩) ?_
 rintro _ _ ⟨y10,a310,rfl,ha310,rfl⟩;refine gz2 ?_;refine uCo (fun h5=> ?_) fun h6=> ?_
 refine gz4 ?_;refine de rfl (uCx 0 zho rfl rfl (zT uO uO uO uO) ?_)
 rintro _ _ ⟨y63,rfl,hy63,rfl⟩;refine gz1 ?_;refine de0 (uY 2 ?_)
 refine gz1 ?_;refine de0 (uY 2 ?_)
 refine gz1 ?_;obtain ⟨s9,n9,t9,w9,m9,p9,st9,c9,u9⟩:=x9;refine zd (Ghost.perm (M':=[St b l (a310+1),.arr u 9 (out.map zak),.cells b9 (zb (zak ⟨s9,n9,t9,w9,m9,p9,st9,0,y63⟩))]) uP) ?_;refine gz2 ?_;refine de rfl (zbq (i:=1) (es:=out) zh7 rfl rfl ?_)
 refine gz3 ?_;refine uV2 [11,1,68,33] (fun (j:Nat) (q3:Play×Nat)=>[(68,.int .i64 j)]) (fun (j:Nat) (q3:Play×Nat)=>[St b l q3.2,.arr u 9 (out.map zak),.cells b9 (zb (zak q3.1))]) (fun (j:Nat) (q3:Play×Nat)=>j<=out.length/\(zdR q3.1/\q3.2<=a310+1+j)) (fun (j:Nat) (q3:Play×Nat)=>out.length-j) (0) ((⟨s9,n9,t9,w9,m9,p9,st9,0,y63⟩,a310+1)) ?_ ?_ ?_ ?_;exact ⟨Ad _,hq9,uD⟩;exact ⟨rfl,trivial⟩;exact uP
 intro j q3 hinv
 obtain ⟨hj,hq3⟩:=hinv;obtain ⟨⟨s3,n3,t3,w3,m3,p3,st3,c3,u3⟩,a4⟩:=q3;obtain ⟨hs3,ha4⟩:=hq3;dsimp only at hs3 ha4;refine gz4 ?_;refine uCo (fun h7=> ?_) fun h8=> ?_
 obtain ⟨z,hz⟩: ∃z,out[j]? =some z:=⟨_,Aa h7⟩
 have hdz:=zi hz;have hgz:=g2 z (Ab hz);refine zc3 (i:=1) rfl (fun h0 he=> ?_) (fun ob off cap hv hcap=> ?_)
 exfalso;have:=congrArg List.length he;simp at this;subst this;simp at hz
 subst hv;refine gz5 ?_;refine dq (zM (j:=j) zh7 zbf rfl rfl rfl uSo) ?_;refine de rfl (zas (i:=1) (j:=j) (f:=zak) (es:=out) zbf rfl rfl rfl hz rfl rfl rfl ?_)
 refine de rfl (zg zbf rfl fun b11=> ?_)
 refine de0 (zj zbf rfl rfl rfl rfl rfl ?_)
 refine gz1 ?_;refine zd (zm 11 rfl) ?_;refine gz9 ?_;refine dgl rfl rfl (fun hc=>⟨_,OpenTo.upd (t:=79) rfl (hc) (OpenTo.refl _),zV (i:=2) ty3 rfl rfl (.inl ⟨rfl,rfl⟩) ⟨rfl,rfl⟩⟩) ?_;refine gz4 ?_;refine dgx (fun x M'=> ∃(y:Bool) (a3:Nat),x= .bool y/\a3<=a4+1/\M'=[St b l a3,.arr (.slice (some ⟨ob,off,none⟩) (out.map zak).length cap) 9 (out.map zak),.cells b9 (zb (zak ⟨s3,n3,t3,w3,m3,p3,st3,c3,u3⟩))]) rfl rfl (fun hc=>⟨_,false,a4,rfl,by omega,rfl⟩) (fun hc=>⟨_,OpenTo.upd (t:=84) rfl (hc) (OpenTo.refl _),uCx 0 zfd rfl rfl (zK (a:=a4) uO uO) (fun h M' hh=>by
  obtain ⟨y,h1,h2⟩:=hh;exact ⟨y,a4+1,h1,by omega,by rw [h2];rfl⟩)⟩) ?_
 rintro _ _ ⟨y6,a36,rfl,ha36,rfl⟩;refine gz3 ?_;refine uCo (fun h9=> ?_) fun h10=> ?_
 refine zh8 mixed ?_;refine gz9 ?_;refine uF 9 ?_;refine zI (uY 2 ?_)
 refine ⟨uE,?_⟩
 refine gz1 ?_;refine uF 11 ?_;refine zI (uY 2 ?_)
 refine ⟨uE,?_⟩
 refine gz1 ?_;refine uF 13 ?_;refine zI (uY 2 ?_)
 refine ⟨uE,?_⟩
 refine gz1 ?_;refine uF 15 ?_;refine zI (uY 2 ?_)
 refine ⟨uE,?_⟩
 refine gz7 ?_;exact ⟨j+1,(⟨s3,n3,t3,z.Week,z.Match,z.Player,z.Stat,c3,u3⟩,a36),⟨by omega,⟨hs3.1,hgz.2.1,hgz.2.2.1,hgz.2.2.2⟩,uD⟩,uD,⟨rfl,trivial⟩,uK,uP⟩;refine gz7 ?_;exact ⟨j+1,(⟨s3,n3,t3,w3,m3,p3,st3,c3,u3⟩,a36),⟨by omega,hs3,uD⟩,uD,⟨rfl,trivial⟩,uK,uP⟩;have hnj:out.length<=j:=by omega
 obtain rfl:j=out.length:=by omega
 refine gz2 ?_;refine zQ ?_;refine gz1 ?_;exact ⟨(⟨s3,n3,t3,w3,m3,p3,st3,c3,u3⟩,a4),⟨hs3,uD⟩,trivial,uK,uP⟩;refine gz1 ?_;exact ⟨(x9,a310),⟨hq9,uD⟩,trivial,uK,uP⟩
 intro q4 hq4
 obtain ⟨x5,a5⟩:=q4;obtain ⟨hx5,ha5⟩:=hq4;dsimp only at hx5 ha5;refine zd (zaN 9 (i:=2) rfl rfl) ?_;refine gz3 ?_;refine dq (za (hs:=[_]) zh7 zbf rfl rfl (by decide) (by decide) rfl) ?_;refine de rfl (zH (i:=1) zh7 zbf rfl rfl rfl rfl rfl (by simp [zan,zb]) uSo fun v104=> ?_)
 refine gz5 ?_;refine dq (za (hs:=[_,_,_,_]) zab ty3 rfl rfl (by decide) (by decide) rfl) ?_;refine de rfl (uCx 0 zaZ rfl rfl (ze (L:=[_,_,_,_]) uO uSa uSa) ?_)
 rintro _ _ ⟨y108,rfl,hy108,rfl⟩;refine dq (zbt rfl rfl (by simp at hy108;omega) (by simp at hy108;omega)) ?_;refine gz8 ?_;exact ⟨n+1,no+y29,at1+y108,⟨v104,out++[x5],a5+1⟩,⟨by omega,⟨by simp at hy29;omega,by simp at hy29;omega⟩,⟨by simp at hy108;omega,by simp at hy108;omega⟩,hq2.add (x:=x5) hx5 uO⟩,uD,⟨rfl,rfl,rfl,rfl,trivial⟩,uK,uP⟩;refine gz2 ?_;refine zwN ?_;refine gz7 ?_;exact ⟨k+1,⟨u,out,a2⟩,⟨by omega,⟨uD,g2,uD⟩⟩,uD,⟨rfl,rfl,trivial⟩,uK,uP⟩;have hnk:zhu.length<=k:=by omega
 obtain rfl:k=zhu.length:=by omega
 refine gz2 ?_;refine zQ ?_;refine gz2 ?_;refine uVj [12,1,112,111] (fun (q5:List Play×Nat)=>[]) (fun (q5:List Play×Nat)=>[St b l q5.2,.arr u 9 (q5.1.map zak)]) (fun (q5:List Play×Nat)=>q5.1.length<=15/\(∀x∈q5.1,zdR x)/\q5.2<=a+500) ?_ ?_
 skip
 refine gz2 ?_;refine de rfl (zbq (i:=1) zh7 rfl rfl ?_)
 refine gz3 ?_;refine dgx (fun x M'=> ∃(y:Bool) (a3:Nat),x= .bool y/\a3<=a1+1/\M'=[St b l a3,.arr u 9 (out.map zak)]) rfl rfl (fun hc=>⟨_,false,a1,rfl,by omega,rfl⟩) (fun hc=>⟨_,OpenTo.upd (t:=116) rfl (hc) (OpenTo.refl _),uCx 0 zfd rfl rfl (zK (a:=a1) uO uO) (fun h M' hh=>by
  obtain ⟨y,h1,h2⟩:=hh;exact ⟨y,a1+1,h1,by omega,by rw [h2];rfl⟩)⟩) ?_
 rintro _ _ ⟨y,a3,rfl,ha3,rfl⟩;refine gz2 ?_;refine uCo (fun h11=> ?_) fun h12=> ?_
 have ho0:0<out.length:=by simp_all
 refine zc3 (i:=1) rfl (fun h0 he=> ?_) (fun ob off cap hv hcap=> ?_)
 exfalso;have:=congrArg List.length he;simp at this;subst this;simp at ho0
 subst hv;refine gz4 ?_;refine de rfl (zbq (i:=1) zh7 rfl rfl ?_)
 refine de rfl (uCx 0 zj7 rfl rfl (zao uO uO) ?_)
 rintro _ _ ⟨y123,rfl,hy123,rfl⟩;refine dq (zM (j:=y123) zh7 zbf rfl rfl rfl uSo) ?_;refine gz2 ?_;obtain ⟨x,hx⟩: ∃x,out[y123]? =some x:=⟨_,Aa uO⟩
 refine gz2 ?_;refine de rfl (uCx 0 zj7 rfl rfl (zao uO uO) ?_)
 rintro _ _ ⟨y126,rfl,hy126,rfl⟩;refine gz6 ?_;refine uCo (fun h13=> ?_) fun h14=> ?_
 refine zbx (fun M=> ∃i:Nat,M[i]? =some (.arr (.slice (some ⟨ob,off,none⟩) (out.map zak).length cap) 9 (out.map zak))) [6,13] mixed ?_;refine gz6 ?_;refine uM 6 rfl ⟨1,rfl⟩ (fun M hM=>by obtain ⟨i,hi⟩:=hM;exact zaC (i:=i) (j:=y123) 0 ty9 rfl uO hi hx rfl rfl ⟨rfl,rfl⟩) ?_;refine uB 7 rfl (za (hs:=[_,_,_]) zo ty9 rfl rfl (by decide) (by decide) rfl) ?_;refine uA 9 ?_;refine gz3 ?_;refine uM 13 rfl ⟨1,rfl⟩ (fun M hM=>by obtain ⟨i,hi⟩:=hM;exact zaC (i:=i) (j:=y123) 1 ty3 rfl uO hi hx rfl rfl ⟨rfl,rfl⟩) ?_;refine uB 14 rfl (za (hs:=[_,_,_,_]) zab ty3 rfl rfl (by decide) (by decide) rfl) ?_;refine uF 8 ?_;refine zw rfl (uCx 0 zcC rfl rfl (zq (L:=[_,_,_]) uO uSa uSa) ?_)
 rintro _ _ ⟨y167,rfl,hy167,rfl⟩;refine ⟨uE,?_⟩
 refine uF 15 ?_;refine zw rfl (uCx 0 zaZ rfl rfl (ze (L:=[_,_,_,_]) uO uSa uSa) ?_)
 rintro _ _ ⟨y174,rfl,hy174,rfl⟩;refine ⟨uE,?_⟩
 refine gz2 ?_;refine uF 18 ?_;refine zI (zac (i:=1) (j:=y123) (f:=0) (y:=zak x) (y':=zak ⟨y167,x.No,x.At,x.Week,x.Match,x.Player,x.Stat,x.Count,x.Undo⟩) ty9 rfl uO rfl rfl (zbG hx) rfl rfl (by simp [zb]) rfl ?_)
 refine ⟨uE,?_⟩
 refine gz2 ?_;refine uF 21 ?_;refine zI (zac (i:=1) (j:=y123) (f:=1) (y:=zak ⟨y167,x.No,x.At,x.Week,x.Match,x.Player,x.Stat,x.Count,x.Undo⟩) (y':=zak ⟨y167,y174,x.At,x.Week,x.Match,x.Player,x.Stat,x.Count,x.Undo⟩) ty3 rfl uO rfl rfl (za1 (zbG hx)) rfl rfl (by simp [zb]) rfl ?_)
 refine ⟨uE,?_⟩
 refine gz2 ?_;exact ⟨(out.set y123 ⟨y167,y174,x.At,x.Week,x.Match,x.Player,x.Stat,x.Count,x.Undo⟩,a3+4),⟨by simp;omega,zgd (P:=zdR) g2 (by
  have hgx:=g2 x (Ab hx);exact ⟨by simp at hy167;rcases hy167 with rfl|rfl|rfl;exact hgx.1;exact zsK;(unfold Sh;simp),hgx.2.1,hgx.2.2.1,hgx.2.2.2⟩),uD⟩,trivial,uK,uP⟩
 refine gz4 ?_;refine uCo (fun h15=> ?_) fun h16=> ?_
 refine zbx (fun M=> ∃i:Nat,M[i]? =some (.arr (.slice (some ⟨ob,off,none⟩) (out.map zak).length cap) 9 (out.map zak))) [6,13] mixed ?_;refine gz6 ?_;refine uM 6 rfl ⟨1,rfl⟩ (fun M hM=>by obtain ⟨i,hi⟩:=hM;exact zaC (i:=i) (j:=y123) 3 ty3 rfl uO hi hx rfl rfl ⟨rfl,rfl⟩) ?_;refine uB 7 rfl (za (hs:=[_,_,_]) zab ty3 rfl rfl (by decide) (by decide) rfl) ?_;refine uA 9 ?_;refine gz3 ?_;refine uM 13 rfl ⟨1,rfl⟩ (fun M hM=>by obtain ⟨i,hi⟩:=hM;exact zaC (i:=i) (j:=y123) 4 ty9 rfl uO hi hx rfl rfl ⟨rfl,rfl⟩) ?_;refine uB 14 rfl (za (hs:=[_,_]) zo ty9 rfl rfl (by decide) (by decide) rfl) ?_;refine uF 8 ?_;refine zw rfl (uCx 0 zaZ rfl rfl (ze (L:=[_,_,_]) uO uSa uSa) ?_)
 rintro _ _ ⟨y189,rfl,hy189,rfl⟩;refine ⟨uE,?_⟩
 refine uF 15 ?_;refine zw rfl (uCx 0 zcC rfl rfl (zq (L:=[_,_]) uO uSa uSa) ?_)
 rintro _ _ ⟨y196,rfl,hy196,rfl⟩;refine ⟨uE,?_⟩
 refine gz2 ?_;refine uF 18 ?_;refine zI (zac (i:=1) (j:=y123) (f:=3) (y:=zak x) (y':=zak ⟨x.Source,x.No,x.At,y189,x.Match,x.Player,x.Stat,x.Count,x.Undo⟩) ty3 rfl uO rfl rfl (zbG hx) rfl rfl (by simp [zb]) rfl ?_)
 refine ⟨uE,?_⟩
 refine gz2 ?_;refine uF 21 ?_;refine zI (zac (i:=1) (j:=y123) (f:=4) (y:=zak ⟨x.Source,x.No,x.At,y189,x.Match,x.Player,x.Stat,x.Count,x.Undo⟩) (y':=zak ⟨x.Source,x.No,x.At,y189,y196,x.Player,x.Stat,x.Count,x.Undo⟩) ty9 rfl uO rfl rfl (za1 (zbG hx)) rfl rfl (by simp [zb]) rfl ?_)
 refine ⟨uE,?_⟩
 refine gz2 ?_;exact ⟨(out.set y123 ⟨x.Source,x.No,x.At,y189,y196,x.Player,x.Stat,x.Count,x.Undo⟩,a3+4),⟨by simp;omega,zgd (P:=zdR) g2 (by
  have hgx:=g2 x (Ab hx);exact ⟨hgx.1,by simp at hy196;rcases hy196 with rfl|rfl;exact hgx.2.1;exact zsK,hgx.2.2.1,hgx.2.2.2⟩),uD⟩,trivial,uK,uP⟩
 refine gz4 ?_;refine uCo (fun h17=> ?_) fun h18=> ?_
 refine zbx (fun M=> ∃i:Nat,M[i]? =some (.arr (.slice (some ⟨ob,off,none⟩) (out.map zak).length cap) 9 (out.map zak))) [6,13] mixed ?_;refine gz6 ?_;refine uM 6 rfl ⟨1,rfl⟩ (fun M hM=>by obtain ⟨i,hi⟩:=hM;exact zaC (i:=i) (j:=y123) 7 ty3 rfl uO hi hx rfl rfl ⟨rfl,rfl⟩) ?_;refine uB 7 rfl (za (hs:=[_,_,_]) zab ty3 rfl rfl (by decide) (by decide) rfl) ?_;refine uA 9 ?_;refine gz3 ?_;refine uM 13 rfl ⟨1,rfl⟩ (fun M hM=>by obtain ⟨i,hi⟩:=hM;exact zaC (i:=i) (j:=y123) 8 ty3 rfl uO hi hx rfl rfl ⟨rfl,rfl⟩) ?_;refine uB 14 rfl (za (hs:=[_,_,_]) zab ty3 rfl rfl (by decide) (by decide) rfl) ?_;refine uF 8 ?_;refine zw rfl (uCx 0 zaZ rfl rfl (ze (L:=[_,_,_]) uO uSa uSa) ?_)
 rintro _ _ ⟨y211,rfl,hy211,rfl⟩;refine ⟨uE,?_⟩
 refine uF 15 ?_;refine zw rfl (uCx 0 zaZ rfl rfl (ze (L:=[_,_,_]) uO uSa uSa) ?_)
 rintro _ _ ⟨y218,rfl,hy218,rfl⟩;refine ⟨uE,?_⟩
 refine gz2 ?_;refine uF 18 ?_;refine zI (zac (i:=1) (j:=y123) (f:=7) (y:=zak x) (y':=zak ⟨x.Source,x.No,x.At,x.Week,x.Match,x.Player,x.Stat,y211,x.Undo⟩) ty3 rfl uO rfl rfl (zbG hx) rfl rfl (by simp [zb]) rfl ?_)
 refine ⟨uE,?_⟩
 refine gz2 ?_;refine uF 21 ?_;refine zI (zac (i:=1) (j:=y123) (f:=8) (y:=zak ⟨x.Source,x.No,x.At,x.Week,x.Match,x.Player,x.Stat,y211,x.Undo⟩) (y':=zak ⟨x.Source,x.No,x.At,x.Week,x.Match,x.Player,x.Stat,y211,y218⟩) ty3 rfl uO rfl rfl (za1 (zbG hx)) rfl rfl (by simp [zb]) rfl ?_)
 refine ⟨uE,?_⟩
 refine gz2 ?_;exact ⟨(out.set y123 ⟨x.Source,x.No,x.At,x.Week,x.Match,x.Player,x.Stat,y211,y218⟩,a3+4),⟨by simp;omega,zgd (P:=zdR) g2 (by
  have hgx:=g2 x (Ab hx);exact ⟨hgx.1,hgx.2.1,hgx.2.2.1,hgx.2.2.2⟩),uD⟩,trivial,uK,uP⟩
 refine zbx (fun M=> ∃i:Nat,M[i]? =some (.arr (.slice (some ⟨ob,off,none⟩) (out.map zak).length cap) 9 (out.map zak))) [7,14,21] mixed ?_;refine gz7 ?_;refine uM 7 rfl ⟨1,rfl⟩ (fun M hM=>by obtain ⟨i,hi⟩:=hM;exact zaC (i:=i) (j:=y123) 5 ty9 rfl uO hi hx rfl rfl ⟨rfl,rfl⟩) ?_;refine uB 8 rfl (za (hs:=[_,_]) zo ty9 rfl rfl (by decide) (by decide) rfl) ?_;refine uA 10 ?_;refine gz3 ?_;refine uM 14 rfl ⟨1,rfl⟩ (fun M hM=>by obtain ⟨i,hi⟩:=hM;exact zaC (i:=i) (j:=y123) 6 ty9 rfl uO hi hx rfl rfl ⟨rfl,rfl⟩) ?_;refine uB 15 rfl (za (hs:=[_,_]) zo ty9 rfl rfl (by decide) (by decide) rfl) ?_;refine uA 17 ?_;refine gz3 ?_;refine uM 21 rfl ⟨1,rfl⟩ (fun M hM=>by obtain ⟨i,hi⟩:=hM;exact zaC (i:=i) (j:=y123) 2 ty3 rfl uO hi hx rfl rfl ⟨rfl,rfl⟩) ?_;refine uB 22 rfl (za (hs:=[_,_]) zab ty3 rfl rfl (by decide) (by decide) rfl) ?_;refine uF 9 ?_;refine zw rfl (uCx 0 zcC rfl rfl (zq (L:=[_,_]) uO uSa uSa) ?_)
 rintro _ _ ⟨y136,rfl,hy136,rfl⟩;refine ⟨uE,?_⟩
 refine uF 16 ?_;refine zw rfl (uCx 0 zcC rfl rfl (zq (L:=[_,_]) uO uSa uSa) ?_)
 rintro _ _ ⟨y143,rfl,hy143,rfl⟩;refine ⟨uE,?_⟩
 refine uF 23 ?_;refine zw rfl (uCx 0 zaZ rfl rfl (ze (L:=[_,_]) uO uSa uSa) ?_)
 rintro _ _ ⟨y150,rfl,hy150,rfl⟩;refine ⟨uE,?_⟩
 refine gz2 ?_;refine uF 26 ?_;refine zI (zac (i:=1) (j:=y123) (f:=5) (y:=zak x) (y':=zak ⟨x.Source,x.No,x.At,x.Week,x.Match,y136,x.Stat,x.Count,x.Undo⟩) ty9 rfl uO rfl rfl (zbG hx) rfl rfl (by simp [zb]) rfl ?_)
 refine ⟨uE,?_⟩
 refine gz2 ?_;refine uF 29 ?_;refine zI (zac (i:=1) (j:=y123) (f:=6) (y:=zak ⟨x.Source,x.No,x.At,x.Week,x.Match,y136,x.Stat,x.Count,x.Undo⟩) (y':=zak ⟨x.Source,x.No,x.At,x.Week,x.Match,y136,y143,x.Count,x.Undo⟩) ty9 rfl uO rfl rfl (za1 (zbG hx)) rfl rfl (by simp [zb]) rfl ?_)
 refine ⟨uE,?_⟩
 refine gz2 ?_;refine uF 32 ?_;refine zI (zac (i:=1) (j:=y123) (f:=2) (y:=zak ⟨x.Source,x.No,x.At,x.Week,x.Match,y136,y143,x.Count,x.Undo⟩) (y':=zak ⟨x.Source,x.No,y150,x.Week,x.Match,y136,y143,x.Count,x.Undo⟩) ty3 rfl uO rfl rfl (za1 (za1 (zbG hx))) rfl rfl (by simp [zb]) rfl ?_)
 refine ⟨uE,?_⟩
 refine gz2 ?_;exact ⟨(out.set y123 ⟨x.Source,x.No,y150,x.Week,x.Match,y136,y143,x.Count,x.Undo⟩,a3+5),⟨by simp;omega,zgd (P:=zdR) g2 (by
  have hgx:=g2 x (Ab hx);exact ⟨hgx.1,hgx.2.1,by simp at hy136;rcases hy136 with rfl|rfl;exact hgx.2.2.1;(unfold Sh;simp),by simp at hy143;rcases hy143 with rfl|rfl;exact hgx.2.2.2;exact zsK⟩),uD⟩,trivial,uK,uP⟩
 refine gz1 ?_;exact ⟨(out,a3),⟨uD,g2,uD⟩,trivial,uK,uP⟩
 intro q5 hq5
 obtain ⟨k1,a4⟩:=q5;dsimp only at hq5;obtain ⟨q1,q2,q3⟩:=hq5;refine gz5 ?_;exact zA (zay 2 (i:=1) rfl rfl) rfl ⟨k1,a4,rfl,⟨by omega,q2⟩,by omega,rfl⟩
end
section
open Go.Proofs.Tryz
open Go.HL
theorem zep [Tracks] {b:Nat} {l:List Int} {a:Nat} (ha:a<=800000):Con prog 207 [pAt b] [St b l a] (fun x M'=> ∃t a',x=eSs t/\t.length<=4/\a'<=a+5/\M'=[St b l a']):=by
 refine uOb func207 ntmps207 ?_;refine gz6 ?_;refine zd (zJ 1) ?_;refine gz2 ?_;refine dq (za (hs:=[_,_,_,_]) zo ty9 rfl rfl (by decide) (by decide) rfl) ?_;refine dq (zaE (f:=HVal.str) (l:=sp4) zo rfl) ?_;refine gz3 ?_;refine uV2 [3,1,5,1,8,11] (fun (k:Nat) (q:GL Str)=>[(8,.int .i64 k),(3,.raw q.u)]) (fun (k:Nat) (q:GL Str)=>[St b l q.a,.arr q.u 1 (q.out.map HVal.str)]) (fun (k:Nat) (q:GL Str)=>k<=sp4.length/\(GLok (fun _=>True) (k) (a+k) q)) (fun (k:Nat) (q:GL Str)=>sp4.length-k) (0) (⟨.slice none 0 0,[],a⟩) ?_ ?_ ?_ ?_
 ·exact ⟨Ad _,⟨by simp,by simp,uD⟩⟩
 ·exact ⟨rfl,rfl,trivial⟩
 ·exact uP
 ·intro k q hinv
  obtain ⟨hk,hq⟩:=hinv;have hlen:sp4.length=4:=rfl;obtain ⟨u,out,a2⟩:=q;obtain ⟨g1,g2,g3⟩:=id hq;dsimp only at g1 g2 g3;refine gz4 ?_;refine uCo (fun h1=> ?_) fun h2=> ?_
  ·obtain ⟨x,hx⟩: ∃x,sp4[k]? =some x:=⟨_,Aa h1⟩
   have hdx:=zi hx;refine gz5 ?_;refine dq (zB (f:=HVal.str) (l:=sp4) (j:=k) (a:=x) zo ty9 rfl rfl rfl hx) ?_;refine gz5 ?_;refine de rfl (uCx 0 zfd rfl rfl (zK uS uS) ?_)
   rintro _ _ ⟨y13,rfl,rfl⟩;refine gz1 ?_;refine uCo (fun h3=> ?_) fun h4=> ?_
   ·refine gz3 ?_;refine dq (za (hs:=[_]) zo ty9 rfl rfl (by decide) (by decide) rfl) ?_;refine de rfl (zH (i:=1) zo ty9 rfl rfl rfl rfl rfl (by simp [zan,zb,zaT,zbw]) uSo fun v17=> ?_)
    refine gz8 ?_;exact ⟨k+1,⟨v17,out++[x],a2+1⟩,⟨by omega,hq.add (x:=x) trivial uO⟩,uD,⟨rfl,rfl,trivial⟩,uK,zl (by dsimp only;first|rfl|(rw [Ay];rfl))⟩
   ·refine gz7 ?_;exact ⟨k+1,⟨u,out,a2+1⟩,⟨by omega,hq.same uO⟩,uD,⟨rfl,rfl,trivial⟩,uK,zl (by dsimp only;first|rfl|(rw [Ay];rfl))⟩
  ·have hnk:sp4.length<=k:=by omega
   obtain rfl:k=sp4.length:=by omega
   refine gz2 ?_;refine zQ ?_;refine gz5 ?_;refine de rfl (zbq (i:=1) zo rfl rfl ?_)
   refine gz2 ?_;refine uCo (fun h5=> ?_) fun h6=> ?_
   ·refine gz2 ?_;refine dq (za (hs:=[_,_,_]) zo ty9 rfl rfl (by decide) (by decide) rfl) ?_;refine de rfl (uCx 0 zcC rfl rfl (zq (L:=[_,_,_]) uS uS uS) ?_)
    rintro _ _ ⟨y24,rfl,hy24,rfl⟩;refine dq (za (hs:=[_]) zo ty9 rfl rfl (by decide) (by decide) rfl) ?_;refine gz3 ?_;exact zA ((zbv (M':=[St b l (a2+1),.arr u 1 (out.map HVal.str)]) rfl).trans ((Ghost.perm (List.Perm.swap _ _ _)).trans Ghost.drop)) rfl ⟨[y24],_,rfl,by simp,by omega,rfl⟩
   ·refine gz7 ?_;exact zA (zay 2 (i:=1) rfl rfl) rfl ⟨out,a2,rfl,by omega,by omega,rfl⟩
theorem zeL [Tracks] {b:Nat} {l:List Int} {a:Nat} (ha:a<=700000):Con prog 113 [pAt b] [St b l a] (fun x M'=> ∃k a',x=zbp k/\GoodPys k/\a'<=a+40/\M'=[St b l a']):=by
 refine uOb func113 ntmps113 ?_;refine gz6 ?_;refine zd (zJ 3) ?_;refine gz2 ?_;refine dq (za (hs:=[_,_,_,_,_]) zo ty9 rfl rfl (by decide) (by decide) rfl) ?_;refine dq (zaE (f:=HVal.str) (l:=nm5) zo rfl) ?_;refine gz3 ?_;refine uV2 [3,1,5,1,8,17] (fun (k:Nat) (q:GL PlayerS)=>[(8,.int .i64 k),(3,.raw q.u)]) (fun (k:Nat) (q:GL PlayerS)=>[St b l q.a,.arr q.u 3 (q.out.map zeU)]) (fun (k:Nat) (q:GL PlayerS)=>k<=nm5.length/\(GLok (GoodPy) (k) (a+8*k) q)) (fun (k:Nat) (q:GL PlayerS)=>nm5.length-k) (0) (⟨.slice none 0 0,[],a⟩) ?_ ?_ ?_ ?_;exact ⟨Ad _,⟨by simp,by simp,uD⟩⟩;exact ⟨rfl,rfl,trivial⟩;exact uP
 intro k q hinv
 obtain ⟨hk,hq⟩:=hinv;have hlen:nm5.length=5:=rfl;obtain ⟨u,out,a2⟩:=q;obtain ⟨g1,g2,g3⟩:=id hq;dsimp only at g1 g2 g3;refine gz4 ?_;refine uCo (fun h1=> ?_) fun h2=> ?_
 obtain ⟨x,hx⟩: ∃x,nm5[k]? =some x:=⟨_,Aa h1⟩
 have hdx:=zi hx;refine gz5 ?_;refine dq (zB (f:=HVal.str) (l:=nm5) (j:=k) (a:=x) zo ty9 rfl rfl rfl hx) ?_;refine gz6 ?_;refine de rfl (uCx 0 zfd rfl rfl (zK uS uS) ?_)
 rintro _ _ ⟨y13,rfl,rfl⟩;refine gz1 ?_;refine uCo (fun h3=> ?_) fun h4=> ?_
 refine gz8 ?_;exact ⟨k+1,⟨u,out,a2+1⟩,⟨by omega,hq.same uO⟩,uD,⟨rfl,rfl,trivial⟩,uK,zl (by dsimp only;first|rfl|(rw [Ay];rfl))⟩;refine gz6 ?_;refine dq (za (hs:=[_,_,_,_,_,_]) zo ty9 rfl rfl (by decide) (by decide) rfl) ?_;refine de rfl (uCx 0 zcC rfl rfl (zq (L:=[_,_,_,_,_,_]) uS uS uS) ?_)
 rintro _ _ ⟨y18,rfl,hy18,rfl⟩;refine gz1 ?_;refine de rfl (uCx 0 zzh rfl rfl (zep uS) ?_)
 rintro _ _ ⟨t20,a20,rfl,ht20,ha20,rfl⟩;refine dq (zC (cs:=[_,_,_]) zhi zI1 rfl) ?_;refine dq (za (hs:=[_]) zke zhi rfl rfl (by decide) (by decide) rfl) ?_;refine de rfl (zH (i:=1) zke zhi rfl rfl rfl rfl rfl (by simp [zan,zb,zaT,zbw]) uSo fun v23=> ?_)
 refine gz8 ?_;exact ⟨k+1,⟨v23,out++[(⟨x,y18,t20⟩:PlayerS)],a20⟩,⟨by omega,hq.add (x:=(⟨x,y18,t20⟩:PlayerS)) ⟨by exact hy18,ht20⟩ (by dsimp only at ha20;omega)⟩,uD,⟨rfl,rfl,trivial⟩,uK,zl (by dsimp only;first|rfl|(rw [Ay];rfl))⟩;have hnk:nm5.length<=k:=by omega
 obtain rfl:k=nm5.length:=by omega
 refine gz2 ?_;refine zQ ?_;refine gz7 ?_;exact zA (zay 2 (i:=1) rfl rfl) rfl ⟨out,a2,rfl,⟨by omega,g2⟩,by omega,rfl⟩
theorem za4 [Tracks] {b:Nat} {l:List Int} {a:Nat} (ha:a<=800000):Con prog 117 [pAt b] [St b l a] (fun x M'=> ∃y:BoundS,x=zet y/\M'=[St b l (a+4)]):=by
 refine zaQ func117 rfl ntmps117 rfl rfl ?_;refine gz1 ?_;refine de rfl (zg zkf rfl fun b2=> ?_)
 refine gz3 ?_;refine dq (za (hs:=[_,_,_,_]) zab ty3 rfl rfl (by decide) (by decide) rfl) ?_;refine de rfl (uCx 1 zaZ rfl rfl (ze (L:=[_,_,_,_]) uS uS uS) ?_)
 rintro _ _ ⟨y5,rfl,hy5,rfl⟩;refine gz1 ?_;refine dq (za (hs:=[_,_,_]) zab ty3 rfl rfl (by decide) (by decide) rfl) ?_;refine de rfl (uCx 0 zaZ rfl rfl (ze (L:=[_,_,_]) uS uS uS) ?_)
 rintro _ _ ⟨y8,rfl,hy8,rfl⟩;refine gz1 ?_;refine dq (za (hs:=[_,_,_,_]) zab ty3 rfl rfl (by decide) (by decide) rfl) ?_;refine de rfl (uCx 0 zaZ rfl rfl (ze (L:=[_,_,_,_]) uS uS uS) ?_)
 rintro _ _ ⟨y11,rfl,hy11,rfl⟩;refine gz1 ?_;refine dq (za (hs:=[_,_,_,_]) zab ty3 rfl rfl (by decide) (by decide) rfl) ?_;refine de rfl (uCx 0 zaZ rfl rfl (ze (L:=[_,_,_,_]) uS uS uS) ?_)
 rintro _ _ ⟨y14,rfl,hy14,rfl⟩;refine dq (zC (cs:=[_,_,_,_]) zkf pl32 rfl) ?_;refine de0 (uY 1 ?_)
 refine gz2 ?_;exact ⟨_,_,zaN 2 (i:=1) rfl rfl,[_],_,⟨⟨_,_,_,_,_,rfl,zkf,.inr ⟨rfl,rfl,rfl⟩⟩,trivial⟩,Weak.refl _,⟨y5,y8,y11,y14⟩,rfl,rfl⟩
theorem zbI [Tracks] {b:Nat} {l:List Int} {a:Nat} (ha:a<=700000):Con prog 116 [pAt b] [St b l a] (fun x M'=> ∃k a',x=zgH k/\GoodS4s k/\0<k.length/\a'<=a+25/\M'=[St b l a']):=by
 refine uOb func116 ntmps116 ?_;refine gz6 ?_;refine zd (zJ 2) ?_;refine gz2 ?_;refine dq (za (hs:=[_,_,_,_]) zo ty9 rfl rfl (by decide) (by decide) rfl) ?_;refine gz1 ?_;refine de rfl (uCx 1 zho rfl rfl (zT uS uS uS uS) ?_)
 rintro _ _ ⟨y8,rfl,hy8,rfl⟩;refine dq (zbC (es:=sl4) (f:=HVal.str) (h:=y8.toNat) zo ty9 rfl rfl ⟨_,_,rfl,by omega⟩ uO (by simp [sl4];omega)) ?_;refine dq (zaE (f:=HVal.str) (l:=(sl4.take y8.toNat)) zo rfl) ?_;refine gz2 ?_;have hlen:(sl4.take y8.toNat).length=y8.toNat:=by simp [sl4];omega
 refine gz1 ?_;refine uV2 [3,1,5,1,11,12] (fun (k:Nat) (q:GL SlotS)=>[(11,.int .i64 k),(3,.raw q.u)]) (fun (k:Nat) (q:GL SlotS)=>[St b l q.a,.arr q.u 2 (q.out.map zcm)]) (fun (k:Nat) (q:GL SlotS)=>k<=(sl4.take y8.toNat).length/\(q.out.length=k/\GLok zmR k (a+1+5*k) q)) (fun (k:Nat) (q:GL SlotS)=>(sl4.take y8.toNat).length-k) (0) (⟨.slice none 0 0,[],a+1⟩) ?_ ?_ ?_ ?_;exact ⟨Ad _,rfl,⟨by simp,by simp,uD⟩⟩;exact ⟨rfl,rfl,trivial⟩;exact uP
 intro k q hinv
 obtain ⟨hk,⟨hn,hq⟩⟩:=hinv;obtain ⟨u,out,a2⟩:=q;obtain ⟨g1,g2,g3⟩:=id hq;dsimp only at g1 g2 g3;dsimp only at hn;refine gz4 ?_;refine uCo (fun h1=> ?_) fun h2=> ?_
 obtain ⟨x,hx⟩: ∃x,(sl4.take y8.toNat)[k]? =some x:=⟨_,Aa (by simpa using h1)⟩
 have hdx:=zi hx;refine gz5 ?_;refine dq (zB (f:=HVal.str) (l:=(sl4.take y8.toNat)) (j:=k) (a:=x) zo ty9 rfl rfl rfl hx) ?_;refine gz7 ?_;refine de rfl (uCx 0 zzh rfl rfl (zep uS) ?_)
 rintro _ _ ⟨t18,a18,rfl,ht18,ha18,rfl⟩;refine dq (zC (cs:=[_,_]) zcf zzV rfl) ?_;refine dq (za (hs:=[_]) zfC zcf rfl rfl (by decide) (by decide) rfl) ?_;refine de rfl (zH (i:=1) zfC zcf rfl rfl rfl rfl rfl (by simp [zan,zb,zaT,zbw]) uSo fun v21=> ?_)
 refine gz8 ?_;exact ⟨k+1,⟨v21,out++[(⟨x,t18⟩:SlotS)],a18⟩,⟨by omega,by simp;omega,hq.add (x:=(⟨x,t18⟩:SlotS)) (by show t18.length<=4;omega) (by dsimp only at ha18;omega)⟩,uD,⟨rfl,rfl,trivial⟩,uK,zl (by dsimp only;first|rfl|(rw [Ay];rfl))⟩;have hnk:(sl4.take y8.toNat).length<=k:=by simpa using h2
 obtain rfl:k=(sl4.take y8.toNat).length:=by omega
 refine gz2 ?_;refine zQ ?_;refine gz7 ?_;exact zA (zay 2 (i:=1) rfl rfl) rfl ⟨out,a2,rfl,⟨by omega,g2⟩,by omega,by omega,rfl⟩
end
section
open Go.Proofs.Tryz
open Go.HL
theorem zhn [Tracks] {l:List MoveS} {v:Value} (hl:l.length<=1000000):Con prog 59 [.raw v] [.arr v 4 (l.map zdD)] (fun x M'=> ∃u,x= .raw u/\M'=[.arr u 4 ((zal none l).map zdD)]):=by
 refine uOb func59 ntmps59 ?_;refine gz6 ?_;refine de rfl (zbq (i:=0) zda rfl rfl ?_)
 refine gz2 ?_;refine uCo (fun h1=> ?_) fun h2=> ?_
 refine gz5 ?_
 (refine zaf rfl ⟨_,rfl,?_⟩
  rw [zvd uO])
 refine gz3 ?_;refine zc3 (i:=0) rfl (fun h0 he=> ?_) (fun b off cap hv hcap=> ?_)
 exfalso;have:=congrArg List.length he;simp at this;subst this;simp at h2
 rw [Af] at hv hcap;subst hv;refine gz4 ?_;refine uT1 [2,4,10,50] (fun k=>[(3,.int .i64 (k:Int))]) (fun k=>[.arr (.slice (some ⟨b,off,none⟩) l.length cap) 4 (l.map zdD)]) (fun k=>(1<=k/\k<=l.length)/\zal none (l.take k)=l.take k) (fun k=>l.length-k) (1) ?_ ?_;exact ⟨⟨by omega,by omega⟩,zvd uSo⟩;rintro k ⟨⟨hk1,hk⟩,hu⟩;refine gz4 ?_;refine de rfl (zbq (i:=0) zda rfl rfl ?_)
 refine gz2 ?_;refine uCo (fun h3=> ?_) fun h4=> ?_
 obtain ⟨x,hx⟩: ∃x,l[k]? =some x:=⟨_,Aa uO⟩
 obtain ⟨y,hy⟩: ∃y,l[k-1]? =some y:=⟨_,Aa uO⟩
 refine gz4 ?_;refine zbF (fun M=>M=[.arr (.slice (some ⟨b,off,none⟩) l.length cap) 4 (l.map zdD)]) [3,8] mixed ?_;refine gz2 ?_;refine uB 2 rfl (zM (j:=k) zda zy rfl rfl rfl uO) ?_;refine uM 3 rfl rfl (uW (zas (i:=0) (j:=k) zy rfl uO rfl hx rfl rfl rfl ⟨rfl,rfl⟩)) ?_;refine gz3 ?_;refine uB 7 rfl (zM (j:=k-1) zda zy rfl rfl uO uO) ?_;refine uM 8 rfl rfl (uW (zas (i:=0) (j:=k-1) zy rfl uO rfl hy rfl rfl rfl ⟨rfl,rfl⟩)) ?_;refine uB 9 rfl (zw2 zy zD3 rfl rfl ⟨rfl,⟨_,_,_,_,ty3,rfl⟩,⟨rfl,⟨_,_,_,_,ty3,rfl⟩,⟨rfl,⟨_,_,_,_,ty9,rfl⟩,⟨rfl,⟨_,_,_,_,ty9,rfl⟩,trivial⟩⟩⟩⟩) ?_;refine gz1 ?_;refine uCo (fun h5=> ?_) fun h6=> ?_
 have hxy:x=y:=(zjQ _ _).1 (by simpa using h5);obtain ⟨hC0,hU0⟩:=CmpA.start hx hy uO hxy hu;refine gz3 ?_;refine dq (zfa (l:=k) (h:=l.length) zda zy rfl ⟨_,_,rfl,rfl⟩ rfl uO uO hcap) ?_;refine gz2 ?_;rw [zu5 uO];refine gz5 ?_;refine uV2 [3,1,5,1,29,25] (fun (k2:Nat) (D:List MoveS)=>[(5,.int .i64 (k2:Int)),(3,.int .i64 ((zal none (l.take (k+k2))).length:Int))]) (fun (k2:Nat) (D:List MoveS)=>[.arr (.slice (some ⟨b,off,none⟩) l.length cap) 4 (D.map zdD)]) (fun (k2:Nat) (D:List MoveS)=>(1<=k2/\k+k2<=l.length)/\CmpA l (k+k2) D) (fun (k2:Nat) (D:List MoveS)=>l.length-k2) (1) (l) ?_ ?_ ?_ ?_;exact ⟨⟨by omega,by have:=zn hx;omega⟩,hC0⟩;exact ⟨rfl,zU (by rw [hU0]),trivial⟩;exact Ac _
 intro k2 D hinv
 obtain ⟨⟨hk2,hkk⟩,hD⟩:=hinv;have hlt0:=hD.lt;have hle0:=hD.len;refine gz4 ?_;refine dq (zfh zda rfl) ?_;refine gz2 ?_;refine uCo (fun h7=> ?_) fun h8=> ?_
 obtain ⟨x2,hx2⟩: ∃x,l[k+k2]? =some x:=⟨_,Aa uO⟩
 obtain ⟨y2,hy2⟩: ∃y,l[k+k2-1]? =some y:=⟨_,Aa uO⟩
 have hDx:D[k+k2]? =some x2:=by rw [hD.hi _ uO,hx2]
 have hDy:D[k+k2-1]? =some y2:=by rw [hD.hi _ uO,hy2]
 refine gz4 ?_;refine zbF (fun M=>M=[.arr (.slice (some ⟨b,off,none⟩) l.length cap) 4 (D.map zdD)]) [3,8] mixed ?_;refine gz2 ?_;refine uB 2 rfl (zM (j:=k2) zda zy rfl rfl rfl uO) ?_;refine uM 3 rfl rfl (uW (zas (i:=0) (j:=(k+k2)) zy rfl uO rfl hDx rfl rfl rfl ⟨rfl,rfl⟩)) ?_;refine gz3 ?_;refine uB 7 rfl (zM (j:=k2-1) zda zy rfl rfl uO uO) ?_;refine uM 8 rfl rfl (uW (zas (i:=0) (j:=(k+k2-1)) zy rfl uO rfl hDy rfl rfl rfl ⟨rfl,rfl⟩)) ?_;refine uB 9 rfl (zgV zy zD3 rfl rfl ⟨rfl,⟨_,_,_,_,ty3,rfl⟩,⟨rfl,⟨_,_,_,_,ty3,rfl⟩,⟨rfl,⟨_,_,_,_,ty9,rfl⟩,⟨rfl,⟨_,_,_,_,ty9,rfl⟩,trivial⟩⟩⟩⟩) ?_;refine gz1 ?_;refine uCo (fun h9=> ?_) fun h10=> ?_
 refine gz5 ?_;refine dq (zM (j:=k2) zda zy rfl rfl rfl uO) ?_;refine de rfl (zas (i:=0) (j:=(k+k2)) zy rfl uO rfl hDx rfl rfl rfl ?_)
 refine dq (zM (j:=(zal none (l.take (k+k2))).length) zda zy rfl rfl rfl uO) ?_;refine de0 (zby (i:=0) (j:=(zal none (l.take (k+k2))).length) (y:=D[(zal none (l.take (k+k2))).length]'uO) (y':=x2) zy rfl rfl rfl rfl (Aa _) rfl rfl rfl ?_)
 refine zfe ?_;have hxy:x2≠y2:=fun q=>by have q2:=(zjQ _ _).2 q;simp_all
 obtain ⟨hC1,hU1⟩:=hD.more hx2 hy2 hxy;exact ⟨k2+1,_,⟨⟨by omega,by omega⟩,hC1⟩,uD,⟨rfl,zU (by rw [<-Bc,hU1];rfl),trivial⟩,uK,Ac _⟩;refine gz8 ?_;have hxy:x2=y2:=(zjQ _ _).1 (by simpa using h10);obtain ⟨hC1,hU1⟩:=hD.same hx2 hy2 hxy;exact ⟨k2+1,D,⟨⟨by omega,by omega⟩,hC1⟩,uD,⟨rfl,zU (by rw [<-Bc,hU1]),trivial⟩,uK,Ac _⟩;have hkl:k+k2=l.length:=by omega
 refine gz2 ?_;refine zQ ?_;refine gz5 ?_;refine dq (zfa (l:=(zal none (l.take (k+k2))).length) (h:=l.length) zda zy rfl ⟨_,_,rfl,rfl⟩ rfl uO uO hcap) ?_;refine de0 (zeu (i:=0) (m:=(zal none (l.take (k+k2))).length) ((zal none (l.take (k+k2))).length) zda zy rfl rfl rfl (zh5 uO hcap) rfl uO (Ae _) (by rw [Af,hD.len];omega) ?_)
 refine gz4 ?_;refine dq (zfU (h:=(zal none (l.take (k+k2))).length) zda zy rfl ⟨_,_,rfl,rfl⟩ uO) ?_;refine gz3 ?_
 (refine zaf rfl ⟨_,rfl,?_⟩
  have hlo:=hD.lo;rw [hkl,Am] at hlo⊢;rw [<-BR,hlo];rfl)
 refine gz8 ?_;have hxy:x≠y:=fun q=>by have q2:=(zjQ _ _).2 q;simp_all
 exact ⟨k+1,⟨⟨by omega,by omega⟩,by rw [zkN hx hy uO,if_neg hxy,hu,zW hx]⟩,uD,⟨rfl,trivial⟩,uK,Ac _⟩;have hkl:k=l.length:=by omega
 rw [hkl,Am] at hu;refine gz2 ?_;refine zv ?_;refine gz7 ?_
 (refine zaf rfl ⟨_,rfl,?_⟩
  rw [hu])
theorem zfN [Tracks] {l:List HealthS} {fid:FuncId} {caps:List HVal} {p:HealthS->Bool} (hca:Callable prog fid) (hp: ∀x,ConP prog fid ([zc1 x]++caps) (.bool (p x))) (hl:l.length<=1000000):ConP prog 292 [.slice 4 (l.map zc1),.fn (.func fid) [] caps] (.int .i64 (zS p l 0)):=by
 refine uOb func292 ntmps292 ?_;refine zau ?_;refine uT1 [4,2,8,11] (fun k=>[(8,.int .i64 k)]) (fun k=>[]) (fun k=>k<=l.length/\(zS p l 0=zS p (l.drop k) k)) (fun k=>l.length-k) (0) ?_ ?_;exact ⟨Ad _,rfl⟩;rintro k ⟨hk,hg⟩;refine gz4 ?_;refine uCo (fun h1=> ?_) fun h2=> ?_
 obtain ⟨x,hx⟩: ∃x,l[k]? =some x:=⟨_,Aa h1⟩
 have hdx:=zi hx;rw [hdx] at hg;refine zdw ?_;refine dq (zag hca rfl rfl (WeakL.refl _) (hp _)) ?_;refine gz1 ?_;refine uCo (fun h3=> ?_) fun h4=> ?_
 refine gz5 ?_;refine uRp ?_
 (rw [hg];simp_all [zS])
 refine gz7 ?_;refine ⟨k+1,?_,?_,⟨rfl,trivial⟩,uK,Ac _⟩
 refine ⟨by omega,?_⟩
 rw [hg,zS,if_neg uSa];rfl
 dsimp only;omega
 have hnk:l.length<=k:=by omega
 obtain rfl:k=l.length:=by omega
 rw [zz (Ae _)] at hg;refine gz2 ?_;refine zv ?_;refine gz6 ?_;refine uRp ?_
 (rw [hg];rfl)
end
section
open Go.Proofs.Tryz
open Go.HL
theorem zi7 [Tracks] {b:Nat} {l:List Int} {a:Nat} {lo hi:Int} (ha:a<=900000) (hlh:lo<=hi) (h0: -1000000000<=lo) (h1:hi<=1000000000):Con prog 127 [pAt b,.int .i64 lo,.int .i64 hi] [St b l a] (fun x M'=> ∃y:Int,x= .int .i64 y/\(-2000000000000<=y/\y<=2000000000000)/\M'=[St b l (a+2)]):=by
 refine uOb func127 ntmps127 ?_;refine gz6 ?_;refine de rfl (uCx 0 zfd rfl rfl (zK uS uS) ?_)
 rintro _ _ ⟨y8,rfl,rfl⟩;refine gz1 ?_;refine uCo (fun h1=> ?_) fun h2=> ?_
 refine gz8 ?_;refine dq (za (hs:=[_,_,_,_,_,_]) zab ty3 rfl rfl (by decide) (by decide) rfl) ?_;refine de rfl (uCx 0 zaZ rfl rfl (ze (L:=[_,_,_,_,_,_]) uS uS uS) ?_)
 rintro _ _ ⟨y17,rfl,hy17,rfl⟩;refine gz3 ?_;exact zaf rfl ⟨_,rfl,by simp at hy17;rcases hy17 with rfl|rfl|rfl|rfl|rfl|rfl<;>omega,rfl⟩;refine gz6 ?_;refine de rfl (uCx 0 zho rfl rfl (zT uS uS uS uS) ?_)
 rintro _ _ ⟨y21,rfl,hy21,rfl⟩;refine gz3 ?_;exact zaf rfl ⟨_,rfl,by omega,rfl⟩
theorem zfE [Tracks] {l:List HealthS} {fid:FuncId} {caps:List HVal} {p:HealthS->Bool} {v:Value} (hca:Callable prog fid) (hp: ∀x,ConP prog fid ([zc1 x]++caps) (.bool (p x))) (hl:l.length<=1000000):Con prog 223 [.raw v,.fn (.func fid) [] caps] [.arr v 4 (l.map zc1)] (fun x M'=> ∃u,x= .raw u/\M'=[.arr u 4 ((l.filter (fun x=> !p x)).map zc1)]):=by
 refine uOb func223 ntmps223 ?_;refine gz6 ?_;refine de rfl (ze1 (hs':=[.slice 4 (l.map zc1),.fn (.func fid) [] caps]) zIp rfl ⟨.arr (i:=0) rfl,.weak (Weak.refl _),trivial⟩ (zfN (p:=p) hca hp hl) rfl ?_)
 refine gz7 ?_;refine uCo (fun h1=> ?_) fun h2=> ?_
 ·refine gz5 ?_
  (refine zaf rfl ⟨_,rfl,?_⟩
   rw [zir p l 0 uO h1]
   done)
 ·refine gz3 ?_;obtain ⟨i0,hi0,hil,⟨x0,hx0,hp0⟩,hb0⟩:=ze6 p l 0 uO h2;rw [Ck] at hi0;obtain ⟨hD0,hn0⟩:=DelInv.start (p:=p) hil hx0 hp0 hb0;refine zc3 (i:=0) rfl (fun h0 he=> ?_) (fun b off cap hv hcap=> ?_)
  ·exfalso;have:=congrArg List.length he;simp at this;subst this;simp at hil
  rw [Af] at hv hcap;subst hv;refine gz2 ?_;refine dq (zP (zbt rfl rfl (by rw [hi0];omega) (by rw [hi0];omega)) (congrArg _ (by rw [hi0]))) ?_;refine gz3 ?_;refine uV2 [5,3,16,20] (fun (j:Nat) (D:List HealthS)=>[(6,.int .i64 (j:Int)),(5,.int .i64 (((l.take j).filter (fun x=> !p x)).length:Int))]) (fun (j:Nat) (D:List HealthS)=>[.arr (.slice (some ⟨b,off,none⟩) l.length cap) 4 (D.map zc1)]) (fun (j:Nat) (D:List HealthS)=>DelInv p l j D) (fun (j:Nat) (D:List HealthS)=>l.length-j) (i0+1) (l) ?_ ?_ ?_ ?_
  ·exact hD0
  ·exact ⟨rfl,zU (by rw [hn0,hi0]),trivial⟩
  ·exact Ac _
  ·intro j D hD
   have hlt0:=hD.lt;have hle0:=hD.len;refine gz4 ?_;refine de rfl (zbq (i:=0) zkg rfl rfl ?_)
   refine gz2 ?_;refine uCo (fun h3=> ?_) fun h4=> ?_
   ·obtain ⟨x,hx⟩: ∃x,l[j]? =some x:=⟨_,Aa uO⟩
    refine gz7 ?_;refine dq (zM (j:=j) zkg zc8 rfl rfl rfl uO) ?_;refine de rfl (zas (i:=0) (j:=j) zc8 rfl rfl rfl (hD.get hx) rfl rfl rfl ?_)
    refine de rfl (zg zc8 rfl fun b7=> ?_)
    refine de0 (zj zc8 rfl rfl rfl rfl rfl ?_)
    refine gz1 ?_;refine zd (zm 7 rfl) ?_;refine gz3 ?_;refine dq (zag hca rfl rfl (WeakL.refl _) (hp _)) ?_;refine gz2 ?_;refine uCo (fun h5=> ?_) fun h6=> ?_
    ·refine gz4 ?_;refine dq (zM (j:=((l.take j).filter (fun x=> !p x)).length) zkg zc8 rfl rfl rfl (by have:=hD.lt;omega)) ?_;refine de0 (zby (i:=0) (j:=((l.take j).filter (fun x=> !p x)).length) (y:=D[((l.take j).filter (fun x=> !p x)).length]'(by have:=hD.lt;have:=hD.len;omega)) (y':=x) zc8 rfl rfl rfl rfl (Aa _) rfl rfl rfl ?_)
     refine gz3 ?_;refine dq (zbt rfl rfl uO (by have:=hD.lt;omega)) ?_;refine gz9 ?_;exact ⟨j+1,_,(hD.keep hx uSa).1,uD,⟨rfl,zU (by rw [(hD.keep hx uSa).2];rfl),trivial⟩,uK,Ac _⟩
    ·refine gz8 ?_;exact ⟨j+1,_,(hD.skip hx uSa).1,uD,⟨rfl,zU (by rw [(hD.skip hx uSa).2]),trivial⟩,uK,Ac _⟩
   ·obtain rfl:j=l.length:=by have:=hD.jle;omega
    have hend:=hD.done;refine gz2 ?_;refine zQ ?_;refine gz5 ?_;refine dq (zfa (l:=((l.take l.length).filter (fun x=> !p x)).length) zkg zc8 rfl ⟨_,_,rfl,rfl⟩ rfl uO uO hcap) ?_;refine de0 (zeu (i:=0) (m:=((l.take l.length).filter (fun x=> !p x)).length) (((l.take l.length).filter (fun x=> !p x)).length) zkg zc8 rfl rfl rfl (zh5 uO hcap) rfl uO (Ae _) (by rw [Af,hD.len];omega) ?_)
    refine gz4 ?_;refine dq (zfU (h:=((l.take l.length).filter (fun x=> !p x)).length) zkg zc8 rfl ⟨_,_,rfl,rfl⟩ uO) ?_;refine gz3 ?_
    (refine zaf rfl ⟨_,rfl,?_⟩
     rw [Am,<-BR,hend];rfl)
theorem zgl [Tracks] {l:List StintS} {fid:FuncId} {caps:List HVal} {p:StintS->Bool} (hca:Callable prog fid) (hp: ∀x,ConP prog fid ([zdM x]++caps) (.bool (p x))) (hl:l.length<=1000000):ConP prog 337 [.slice 3 (l.map zdM),.fn (.func fid) [] caps] (.int .i64 (zS p l 0)):=by
 refine uOb func337 ntmps337 ?_;refine zau ?_;refine uT1 [4,2,8,11] (fun k=>[(8,.int .i64 k)]) (fun k=>[]) (fun k=>k<=l.length/\(zS p l 0=zS p (l.drop k) k)) (fun k=>l.length-k) (0) ?_ ?_;exact ⟨Ad _,rfl⟩;rintro k ⟨hk,hg⟩;refine gz4 ?_;refine uCo (fun h1=> ?_) fun h2=> ?_
 obtain ⟨x,hx⟩: ∃x,l[k]? =some x:=⟨_,Aa h1⟩
 have hdx:=zi hx;rw [hdx] at hg;refine zdw ?_;refine dq (zag hca rfl rfl (WeakL.refl _) (hp _)) ?_;refine gz1 ?_;refine uCo (fun h3=> ?_) fun h4=> ?_
 refine gz5 ?_;refine uRp ?_
 (rw [hg];simp_all [zS])
 refine gz7 ?_;refine ⟨k+1,?_,?_,⟨rfl,trivial⟩,uK,Ac _⟩
 refine ⟨by omega,?_⟩
 rw [hg,zS,if_neg uSa];rfl
 dsimp only;omega
 have hnk:l.length<=k:=by omega
 obtain rfl:k=l.length:=by omega
 rw [zz (Ae _)] at hg;refine gz2 ?_;refine zv ?_;refine gz6 ?_;refine uRp ?_
 (rw [hg];rfl)
theorem zf5 [Tracks] {l:List StintS} {fid:FuncId} {caps:List HVal} {p:StintS->Bool} {v:Value} (hca:Callable prog fid) (hp: ∀x,ConP prog fid ([zdM x]++caps) (.bool (p x))) (hl:l.length<=1000000):Con prog 279 [.raw v,.fn (.func fid) [] caps] [.arr v 3 (l.map zdM)] (fun x M'=> ∃u,x= .raw u/\M'=[.arr u 3 ((l.filter (fun x=> !p x)).map zdM)]):=by
 refine uOb func279 ntmps279 ?_;refine gz6 ?_;refine de rfl (ze1 (hs':=[.slice 3 (l.map zdM),.fn (.func fid) [] caps]) zII rfl ⟨.arr (i:=0) rfl,.weak (Weak.refl _),trivial⟩ (zgl (p:=p) hca hp hl) rfl ?_)
 refine gz7 ?_;refine uCo (fun h1=> ?_) fun h2=> ?_
 ·refine gz5 ?_
  (refine zaf rfl ⟨_,rfl,?_⟩
   rw [zir p l 0 uO h1]
   done)
 ·refine gz3 ?_;obtain ⟨i0,hi0,hil,⟨x0,hx0,hp0⟩,hb0⟩:=ze6 p l 0 uO h2;rw [Ck] at hi0;obtain ⟨hD0,hn0⟩:=DelInv.start (p:=p) hil hx0 hp0 hb0;refine zc3 (i:=0) rfl (fun h0 he=> ?_) (fun b off cap hv hcap=> ?_)
  ·exfalso;have:=congrArg List.length he;simp at this;subst this;simp at hil
  rw [Af] at hv hcap;subst hv;refine gz2 ?_;refine dq (zP (zbt rfl rfl (by rw [hi0];omega) (by rw [hi0];omega)) (congrArg _ (by rw [hi0]))) ?_;refine gz3 ?_;refine uV2 [5,3,16,20] (fun (j:Nat) (D:List StintS)=>[(6,.int .i64 (j:Int)),(5,.int .i64 (((l.take j).filter (fun x=> !p x)).length:Int))]) (fun (j:Nat) (D:List StintS)=>[.arr (.slice (some ⟨b,off,none⟩) l.length cap) 3 (D.map zdM)]) (fun (j:Nat) (D:List StintS)=>DelInv p l j D) (fun (j:Nat) (D:List StintS)=>l.length-j) (i0+1) (l) ?_ ?_ ?_ ?_
  ·exact hD0
  ·exact ⟨rfl,zU (by rw [hn0,hi0]),trivial⟩
  ·exact Ac _
  ·intro j D hD
   have hlt0:=hD.lt;have hle0:=hD.len;refine gz4 ?_;refine de rfl (zbq (i:=0) zh6 rfl rfl ?_)
   refine gz2 ?_;refine uCo (fun h3=> ?_) fun h4=> ?_
   ·obtain ⟨x,hx⟩: ∃x,l[j]? =some x:=⟨_,Aa uO⟩
    refine gz7 ?_;refine dq (zM (j:=j) zh6 zdn rfl rfl rfl uO) ?_;refine de rfl (zas (i:=0) (j:=j) zdn rfl rfl rfl (hD.get hx) rfl rfl rfl ?_)
    refine de rfl (zg zdn rfl fun b7=> ?_)
    refine de0 (zj zdn rfl rfl rfl rfl rfl ?_)
    refine gz1 ?_;refine zd (zm 7 rfl) ?_;refine gz3 ?_;refine dq (zag hca rfl rfl (WeakL.refl _) (hp _)) ?_;refine gz2 ?_;refine uCo (fun h5=> ?_) fun h6=> ?_
    ·refine gz4 ?_;refine dq (zM (j:=((l.take j).filter (fun x=> !p x)).length) zh6 zdn rfl rfl rfl (by have:=hD.lt;omega)) ?_;refine de0 (zby (i:=0) (j:=((l.take j).filter (fun x=> !p x)).length) (y:=D[((l.take j).filter (fun x=> !p x)).length]'(by have:=hD.lt;have:=hD.len;omega)) (y':=x) zdn rfl rfl rfl rfl (Aa _) rfl rfl rfl ?_)
     refine gz3 ?_;refine dq (zbt rfl rfl uO (by have:=hD.lt;omega)) ?_;refine gz9 ?_;exact ⟨j+1,_,(hD.keep hx uSa).1,uD,⟨rfl,zU (by rw [(hD.keep hx uSa).2];rfl),trivial⟩,uK,Ac _⟩
    ·refine gz8 ?_;exact ⟨j+1,_,(hD.skip hx uSa).1,uD,⟨rfl,zU (by rw [(hD.skip hx uSa).2]),trivial⟩,uK,Ac _⟩
   ·obtain rfl:j=l.length:=by have:=hD.jle;omega
    have hend:=hD.done;refine gz2 ?_;refine zQ ?_;refine gz5 ?_;refine dq (zfa (l:=((l.take l.length).filter (fun x=> !p x)).length) zh6 zdn rfl ⟨_,_,rfl,rfl⟩ rfl uO uO hcap) ?_;refine de0 (zeu (i:=0) (m:=((l.take l.length).filter (fun x=> !p x)).length) (((l.take l.length).filter (fun x=> !p x)).length) zh6 zdn rfl rfl rfl (zh5 uO hcap) rfl uO (Ae _) (by rw [Af,hD.len];omega) ?_)
    refine gz4 ?_;refine dq (zfU (h:=((l.take l.length).filter (fun x=> !p x)).length) zh6 zdn rfl ⟨_,_,rfl,rfl⟩ uO) ?_;refine gz3 ?_
    (refine zaf rfl ⟨_,rfl,?_⟩
     rw [Am,<-BR,hend];rfl)
theorem zfk [Tracks] {x:HealthS}:ConP prog 129 [zc1 x] (.str x.Player):=by
 refine uOb func129 ntmps129 ?_;refine zau ?_;refine zu rfl ?_
 rfl
theorem zpm [Tracks] {L:List PlayerS} {x:HealthS} (hL:L.length<=1000000):ConP prog 224 [zc1 x,.vptr [zbp L] 0,.vptr [.fn (.func 129) [] []] 0] (.bool (ofB L x.Player)):=by
 refine uOb func224 ntmps224 ?_;refine gz4 ?_;refine uDr mixed ?_;refine gz3 ?_;refine uB 3 rfl (zag zDv rfl rfl (WeakL.refl _) (zfk (x:=x))) ?_;refine uB 4 rfl (uCl zwg rfl (zdc (l:=L) (s:=x.Player) hL)) ?_;refine gz4 ?_;refine uGy 9 rfl rfl (fun hc=>zag zDv rfl rfl (WeakL.refl _) (zfk (x:=x))) ?_;refine gz5 ?_;refine zu rfl ?_;refine congrArg _ ?_;unfold ofB
 cases decide (zS (fun x_1:PlayerS=>x_1.Key==x.Player) L 0<0)
 rfl
 rfl
theorem zrs [Tracks] {L:List PlayerS} {l:List HealthS} {v:Value} (hL:L.length<=1000000) (hl:l.length<=1000000):Con prog 128 [zbp L,.raw v,.fn (.func 129) [] []] [.arr v 4 (l.map zc1)] (fun x M'=> ∃u,x= .raw u/\M'=[.arr u 4 ((l.filter fun x=> !(ofB L x.Player)).map zc1)]):=by
 refine uOb func128 ntmps128 ?_;refine gz8 ?_;refine de rfl (uCx 0 zHG rfl rfl (zfE (l:=l) (p:=fun x=>ofB L x.Player) zHH (fun _=>zpm hL) hl) ?_)
 rintro _ _ ⟨u9,rfl,rfl⟩;refine gz3 ?_;exact zaf rfl ⟨u9,rfl,rfl⟩
theorem zfl [Tracks] {x:StintS}:ConP prog 217 [zdM x] (.str x.Player):=by
 refine uOb func217 ntmps217 ?_;refine zau ?_;refine zu rfl ?_
 rfl
theorem zqP [Tracks] {L:List PlayerS} {x:StintS} (hL:L.length<=1000000):ConP prog 280 [zdM x,.vptr [zbp L] 0,.vptr [.fn (.func 217) [] []] 0] (.bool (ofB L x.Player)):=by
 refine uOb func280 ntmps280 ?_;refine gz4 ?_;refine uDr mixed ?_;refine gz3 ?_;refine uB 3 rfl (zag zDO rfl rfl (WeakL.refl _) (zfl (x:=x))) ?_;refine uB 4 rfl (uCl zwg rfl (zdc (l:=L) (s:=x.Player) hL)) ?_;refine gz4 ?_;refine uGy 9 rfl rfl (fun hc=>zag zDO rfl rfl (WeakL.refl _) (zfl (x:=x))) ?_;refine gz5 ?_;refine zu rfl ?_;refine congrArg _ ?_;unfold ofB
 cases decide (zS (fun x_1:PlayerS=>x_1.Key==x.Player) L 0<0)
 rfl
 rfl
theorem zr8 [Tracks] {L:List PlayerS} {l:List StintS} {v:Value} (hL:L.length<=1000000) (hl:l.length<=1000000):Con prog 215 [zbp L,.raw v,.fn (.func 217) [] []] [.arr v 3 (l.map zdM)] (fun x M'=> ∃u,x= .raw u/\M'=[.arr u 3 ((l.filter fun x=> !(ofB L x.Player)).map zdM)]):=by
 refine uOb func215 ntmps215 ?_;refine gz8 ?_;refine de rfl (uCx 0 zIm rfl rfl (zf5 (l:=l) (p:=fun x=>ofB L x.Player) zIn (fun _=>zqP hL) hl) ?_)
 rintro _ _ ⟨u9,rfl,rfl⟩;refine gz3 ?_;exact zaf rfl ⟨u9,rfl,rfl⟩
theorem zjD [Tracks] {b:Nat} {l:List Int} {a:Nat} {L:List PlayerS} (ha:a<=700000) (hL:L.length<=1000000):Con prog 60 [pAt b,zbp L] [St b l a] (fun x M'=> ∃k a',x=zde k/\GoodHes k/\a'<=a+150/\M'=[St b l a']):=by
 refine uOb func60 ntmps60 ?_;refine gz6 ?_;refine zd (zJ 4) ?_;refine gz2 ?_;refine dq (za (hs:=[_,_,_,_,_]) zo ty9 rfl rfl (by decide) (by decide) rfl) ?_;refine dq (zaE (f:=HVal.str) (l:=nm5) zo rfl) ?_;refine gz3 ?_;refine uV2 [5,1,7,3,12,47] (fun (k:Nat) (q:GL HealthS)=>[(12,.int .i64 k),(5,.raw q.u)]) (fun (k:Nat) (q:GL HealthS)=>[St b l q.a,.arr q.u 4 (q.out.map zc1)]) (fun (k:Nat) (q:GL HealthS)=>k<=nm5.length/\(GLok zvW (2*k) (a+24*k) q)) (fun (k:Nat) (q:GL HealthS)=>nm5.length-k) (0) (⟨.slice none 0 0,[],a⟩) ?_ ?_ ?_ ?_;exact ⟨Ad _,⟨by simp,by simp,uD⟩⟩;exact ⟨rfl,rfl,trivial⟩;exact uP
 intro k q hinv
 obtain ⟨hk,hq⟩:=hinv;have hlen:nm5.length=5:=rfl;obtain ⟨u,out,a2⟩:=q;obtain ⟨g1,g2,g3⟩:=id hq;dsimp only at g1 g2 g3;refine gz4 ?_;refine uCo (fun h1=> ?_) fun h2=> ?_
 obtain ⟨x,hx⟩: ∃x,nm5[k]? =some x:=⟨_,Aa h1⟩
 have hdx:=zi hx;refine gz5 ?_;refine dq (zB (f:=HVal.str) (l:=nm5) (j:=k) (a:=x) zo ty9 rfl rfl rfl hx) ?_;refine gz5 ?_;refine de rfl (uCx 0 zho rfl rfl (zT uS uS uS uS) ?_)
 rintro _ _ ⟨y17,rfl,hy17,rfl⟩;refine gz4 ?_;refine de rfl (uCx 0 zho rfl rfl (zT uS uS uS uS) ?_)
 rintro _ _ ⟨y19,rfl,hy19,rfl⟩;refine gz3 ?_;refine uV3 [5,1,8,2,20,38] (fun (n:Nat) (wk:Int) (q2:GL HealthS)=>[(20,.int .i64 (n:Int)),(8,.int .i64 wk),(5,.raw q2.u)]) (fun (n:Nat) (wk:Int) (q2:GL HealthS)=>[St b l q2.a,.arr q2.u 4 (q2.out.map zc1)]) (fun (n:Nat) (wk:Int) (q2:GL HealthS)=>(n:Int)<=y19/\(1<=wk/\wk<=3+4*n)/\GLok zvW (2*k+n) (a+24*k+2+11*n) q2) (fun (n:Nat) (wk:Int) (q2:GL HealthS)=>y19.toNat-n) (0) (y17) (⟨u,out,a2+2⟩) ?_ ?_ ?_ ?_;exact ⟨by omega,by omega,⟨uD,g2,uD⟩⟩;exact ⟨rfl,rfl,rfl,trivial⟩;exact uP
 intro n wk q2 hinv
 obtain ⟨hn,hw,hq2⟩:=hinv;obtain ⟨u,out,a2⟩:=q2;obtain ⟨g1,g2,g3⟩:=id hq2;dsimp only at g1 g2 g3;refine gz4 ?_;refine uCo (fun h3=> ?_) fun h4=> ?_
 refine gz9 ?_;refine de rfl (uCx 0 zho rfl rfl (zT uS uS uS uS) ?_)
 rintro _ _ ⟨y26,rfl,hy26,rfl⟩;refine gz2 ?_;refine dq (za (hs:=[_,_]) zab ty3 rfl rfl (by decide) (by decide) rfl) ?_;refine de rfl (uCx 0 zaZ rfl rfl (ze (L:=[_,_]) uS uS uS) ?_)
 rintro _ _ ⟨y30,rfl,hy30,rfl⟩;refine dq (zC (cs:=[_,_,_,_]) zc8 zI5 rfl) ?_;refine de rfl (zg zc8 rfl fun b9=> ?_)
 refine de0 (uY 0 ?_)
 refine gz1 ?_;refine zbF (fun M=> ∃i:Nat,M[i]? =some (.cells b9 (zb (zc1 (⟨x,wk,wk+y26,y30⟩:HealthS))))) [1] mixed ?_;refine gz1 ?_;refine uM 1 rfl ⟨0,rfl⟩ (fun M hM=>by obtain ⟨i,hi⟩:=hM;exact zV (i:=i) (h:= .int .i64 (wk+y26)) ty3 rfl hi (.inl ⟨rfl,rfl⟩) ⟨rfl,rfl⟩) ?_;refine gz1 ?_;refine uF 3 ?_;refine zw rfl (uCx 1 zho rfl rfl (zT uS uS uS uS) ?_)
 rintro _ _ ⟨y35,rfl,hy35,rfl⟩;refine ⟨uE,?_⟩
 refine gz3 ?_;refine uVj [37,16] (fun (q4:HealthS×Nat)=>[]) (fun (q4:HealthS×Nat)=>[St b l q4.2,.arr u 4 (out.map zc1),.cells b9 (zb (zc1 q4.1))]) (fun (q4:HealthS×Nat)=>zvW q4.1/\q4.2<=a2+11) ?_ ?_
 skip
 refine gz2 ?_;refine de rfl (uCx 0 zfd rfl rfl (zK uS uS) ?_)
 rintro _ _ ⟨y38,rfl,rfl⟩;refine gz1 ?_;refine uCo (fun h5=> ?_) fun h6=> ?_
 refine gz3 ?_;refine dq (za (hs:=[_,_]) zo ty9 rfl rfl (by decide) (by decide) rfl) ?_;refine de rfl (uCx 0 zcC rfl rfl (zq (L:=[_,_]) uS uS uS) ?_)
 rintro _ _ ⟨y42,rfl,hy42,rfl⟩;refine gz1 ?_;refine de rfl (uCx 0 znT rfl rfl (zi7 uS uS uS uS) ?_)
 rintro _ _ ⟨y44,rfl,hy44,rfl⟩;refine gz1 ?_;refine de rfl (uCx 0 znT rfl rfl (zi7 uS uS uS uS) ?_)
 rintro _ _ ⟨y46,rfl,hy46,rfl⟩;refine gz1 ?_;refine de rfl (uCx 0 znT rfl rfl (zi7 uS uS uS uS) ?_)
 rintro _ _ ⟨y48,rfl,hy48,rfl⟩;refine gz1 ?_;refine de0 (uY 1 ?_)
 refine gz1 ?_;refine de0 (uY 1 ?_)
 refine gz1 ?_;refine de0 (uY 1 ?_)
 refine gz1 ?_;refine de0 (uY 1 ?_)
 refine gz1 ?_;exact ⟨((⟨y42,y44,y46,y48⟩:HealthS),a2+11),⟨⟨uD,uD⟩,uD⟩,trivial,uK,uP⟩;refine gz1 ?_;exact ⟨((⟨x,wk,wk+y26,y30⟩:HealthS),a2+4),⟨⟨uD,uD⟩,uD⟩,trivial,uK,uP⟩
 intro q4 hq4
 obtain ⟨x5,a5⟩:=q4;obtain ⟨hx5,ha5⟩:=hq4;dsimp only at hx5 ha5;refine zd (zaN 9 (i:=2) rfl rfl) ?_;refine gz3 ?_;refine dq (za (hs:=[_]) zkg zc8 rfl rfl (by decide) (by decide) rfl) ?_;refine de rfl (zH (i:=1) zkg zc8 rfl rfl rfl rfl rfl (by simp [zan,zb,zaT,zbw]) uSo fun v56=> ?_)
 refine gz8 ?_;exact ⟨n+1,wk+y26+y35,⟨v56,out++[x5],a5⟩,⟨by omega,⟨by omega,by omega⟩,hq2.add (x:=x5) hx5 uO⟩,uD,⟨rfl,rfl,rfl,trivial⟩,uK,uP⟩;refine gz2 ?_;refine zcE ?_;refine gz7 ?_;exact ⟨k+1,⟨u,out,a2⟩,⟨by omega,hq2.mono uO uO⟩,uD,⟨rfl,rfl,trivial⟩,uK,uP⟩;have hnk:nm5.length<=k:=by omega
 obtain rfl:k=nm5.length:=by omega
 refine gz2 ?_;refine zQ ?_;refine gz5 ?_;refine de rfl (uCx 1 zGK rfl rfl (zrs (L:=L) (l:=out) hL uO) ?_)
 rintro _ _ ⟨u61,rfl,rfl⟩;refine gz3 ?_;exact zA (zay 4 (i:=0) rfl rfl) rfl ⟨_,a2,rfl,GoodHes.filter uO g2,by omega,rfl⟩
theorem zkq [Tracks] {b:Nat} {l:List Int} {a:Nat} (ha:a<=700000):Con prog 216 [pAt b] [St b l a] (fun x M'=> ∃(u:Value) (k:List StintS) (a':Nat),x= .raw u/\k.length<=10/\a'<=a+100/\M'=[.arr u 3 (k.map zdM),St b l a']):=by
 refine uOb func216 ntmps216 ?_;refine gz6 ?_;refine zd (zJ 3) ?_;refine gz2 ?_;refine dq (za (hs:=[_,_,_,_,_]) zo ty9 rfl rfl (by decide) (by decide) rfl) ?_;refine dq (zaE (f:=HVal.str) (l:=nm5) zo rfl) ?_;refine gz3 ?_;refine uV2 [3,1,5,3,10,40] (fun (k:Nat) (q:GL StintS)=>[(10,.int .i64 k),(3,.raw q.u)]) (fun (k:Nat) (q:GL StintS)=>[St b l q.a,.arr q.u 3 (q.out.map zdM)]) (fun (k:Nat) (q:GL StintS)=>k<=nm5.length/\(GLok (fun _=>True) (2*k) (a+20*k) q)) (fun (k:Nat) (q:GL StintS)=>nm5.length-k) (0) (⟨.slice none 0 0,[],a⟩) ?_ ?_ ?_ ?_
 ·exact ⟨Ad _,⟨by simp,by simp,uD⟩⟩
 ·exact ⟨rfl,rfl,trivial⟩
 ·exact uP
 ·intro k q hinv
  obtain ⟨hk,hq⟩:=hinv;have hlen:nm5.length=5:=rfl;obtain ⟨u,out,a2⟩:=q;obtain ⟨g1,g2,g3⟩:=id hq;dsimp only at g1 g2 g3;refine gz4 ?_;refine uCo (fun h1=> ?_) fun h2=> ?_
  ·obtain ⟨x,hx⟩: ∃x,nm5[k]? =some x:=⟨_,Aa h1⟩
   have hdx:=zi hx;refine gz5 ?_;refine dq (zB (f:=HVal.str) (l:=nm5) (j:=k) (a:=x) zo ty9 rfl rfl rfl hx) ?_;refine gz5 ?_;refine de rfl (uCx 0 zho rfl rfl (zT uS uS uS uS) ?_)
   rintro _ _ ⟨y15,rfl,hy15,rfl⟩;refine gz4 ?_;refine de rfl (uCx 0 zho rfl rfl (zT uS uS uS uS) ?_)
   rintro _ _ ⟨y17,rfl,hy17,rfl⟩;refine gz3 ?_;refine uV3 [3,1,6,2,18,31] (fun (n:Nat) (wk:Int) (q2:GL StintS)=>[(18,.int .i64 (n:Int)),(6,.int .i64 wk),(3,.raw q2.u)]) (fun (n:Nat) (wk:Int) (q2:GL StintS)=>[St b l q2.a,.arr q2.u 3 (q2.out.map zdM)]) (fun (n:Nat) (wk:Int) (q2:GL StintS)=>(n:Int)<=y17/\(1<=wk/\wk<=2+3*n)/\GLok (fun _=>True) (2*k+n) (a+20*k+2+9*n) q2) (fun (n:Nat) (wk:Int) (q2:GL StintS)=>y17.toNat-n) (0) (y15) (⟨u,out,a2+2⟩) ?_ ?_ ?_ ?_
   ·exact ⟨by omega,by omega,⟨uD,g2,uD⟩⟩
   ·exact ⟨rfl,rfl,rfl,trivial⟩
   ·exact uP
   ·intro n wk q2 hinv
    obtain ⟨hn,hw,hq2⟩:=hinv;obtain ⟨u,out,a2⟩:=q2;obtain ⟨g1,g2,g3⟩:=id hq2;dsimp only at g1 g2 g3;refine gz4 ?_;refine uCo (fun h3=> ?_) fun h4=> ?_
    ·refine gz7 ?_;refine dq (za (hs:=[_,_,_,_]) zo ty9 rfl rfl (by decide) (by decide) rfl) ?_;refine de rfl (uCx 0 zcC rfl rfl (zq (L:=[_,_,_,_]) uS uS uS) ?_)
     rintro _ _ ⟨y23,rfl,hy23,rfl⟩;refine gz1 ?_;refine dq (zC (cs:=[_,_,_]) zdn zI8 rfl) ?_;refine de rfl (zg zdn rfl fun b7=> ?_)
     refine de0 (uY 0 ?_)
     refine gz1 ?_;refine uVj [26,14] (fun (q4:StintS×Nat)=>[]) (fun (q4:StintS×Nat)=>[St b l q4.2,.arr u 3 (out.map zdM),.cells b7 (zb (zdM q4.1))]) (fun (q4:StintS×Nat)=>q4.2<=a2+8) ?_ ?_
     ·skip
      refine gz2 ?_;refine de rfl (uCx 1 zfd rfl rfl (zK uS uS) ?_)
      rintro _ _ ⟨y27,rfl,rfl⟩;refine gz1 ?_;refine uCo (fun h5=> ?_) fun h6=> ?_
      ·refine gz3 ?_;refine dq (za (hs:=[_,_,_]) zo ty9 rfl rfl (by decide) (by decide) rfl) ?_;refine de rfl (uCx 0 zcC rfl rfl (zq (L:=[_,_,_]) uS uS uS) ?_)
       rintro _ _ ⟨y31,rfl,hy31,rfl⟩;refine gz1 ?_;refine dq (za (hs:=[_,_]) zo ty9 rfl rfl (by decide) (by decide) rfl) ?_;refine de rfl (uCx 0 zcC rfl rfl (zq (L:=[_,_]) uS uS uS) ?_)
       rintro _ _ ⟨y34,rfl,hy34,rfl⟩;refine gz1 ?_;refine de rfl (uCx 0 znT rfl rfl (zi7 uS uS uS uS) ?_)
       rintro _ _ ⟨y36,rfl,hy36,rfl⟩;refine gz1 ?_;refine de0 (uY 1 ?_)
       refine gz1 ?_;refine de0 (uY 1 ?_)
       refine gz1 ?_;refine de0 (uY 1 ?_)
       refine gz1 ?_;exact ⟨((⟨y31,y34,y36⟩:StintS),a2+6),uD,trivial,uK,uP⟩
      ·refine gz1 ?_;exact ⟨((⟨x,y23,wk⟩:StintS),a2+2),uD,trivial,uK,uP⟩
     ·intro q4 ha5
      obtain ⟨x5,a5⟩:=q4;dsimp only at ha5;refine zd (zaN 7 (i:=2) rfl rfl) ?_;refine gz3 ?_;refine dq (za (hs:=[_]) zh6 zdn rfl rfl (by decide) (by decide) rfl) ?_;refine de rfl (zH (i:=1) zh6 zdn rfl rfl rfl rfl rfl (by simp [zan,zb,zaT,zbw]) uSo fun v43=> ?_)
      refine gz5 ?_;refine de rfl (uCx 0 zho rfl rfl (zT uS uS uS uS) ?_)
      rintro _ _ ⟨y46,rfl,hy46,rfl⟩;refine gz9 ?_;exact ⟨n+1,wk+y46,⟨v43,out++[x5],a5+1⟩,⟨by omega,⟨by omega,by omega⟩,hq2.add (x:=x5) trivial uO⟩,uD,⟨rfl,rfl,rfl,trivial⟩,uK,uP⟩
    ·refine gz2 ?_;refine zcE ?_;refine gz7 ?_;exact ⟨k+1,⟨u,out,a2⟩,⟨by omega,hq2.mono uO uO⟩,uD,⟨rfl,rfl,trivial⟩,uK,uP⟩
  ·have hnk:nm5.length<=k:=by omega
   obtain rfl:k=nm5.length:=by omega
   refine gz2 ?_;refine zQ ?_;refine gz7 ?_;exact zA (Ghost.perm (List.Perm.swap _ _ _)) rfl ⟨_,out,a2,rfl,by omega,by omega,rfl⟩
theorem zjF [Tracks] {b:Nat} {l:List Int} {a:Nat} {L:List PlayerS} (ha:a<=700000) (hL:L.length<=1000000):Con prog 120 [pAt b,zbp L] [St b l a] (fun x M'=> ∃k a',x=zgf k/\k.length<=10/\a'<=a+100/\M'=[St b l a']):=by
 refine uOb func120 ntmps120 ?_;refine gz6 ?_;refine de rfl (uCx 0 zHE rfl rfl (zkq (b:=b) (l:=l) (a:=a) ha) ?_)
 rintro _ _ ⟨u7,k7,a7,rfl,hk7,ha7,rfl⟩;refine de rfl (uCx 0 zHD rfl rfl (zr8 (L:=L) (l:=k7) hL uO) ?_)
 rintro _ _ ⟨u8,rfl,rfl⟩;refine gz3 ?_;exact zA (zay 4 (i:=0) rfl rfl) rfl ⟨_,a7,rfl,An (AK _ _) hk7,by omega,rfl⟩
end
section
open Go.Proofs.Tryz
open Go.HL
theorem zph [Tracks] {n d:Int} (hn: -1000000<=n/\n<=1000000) (hd:1<=d/\d<=1000000):ConP prog 199 [.int .i64 n,.int .i64 d] (.agg [.int .i64 (n.tdiv (zeR n d)),.int .i64 (d.tdiv (zeR n d))]):=by
 have hg0:=zyw (n:=n) hd.1;refine zaQ func199 rfl ntmps199 rfl rfl ?_;refine gz1 ?_;refine de rfl (zg zaM rfl fun b4=> ?_)
 refine gz4 ?_;refine dq (uCl zvD rfl (zi0 (n:=n) (d:=d) uO uO)) ?_;refine gz2 ?_;refine uDr mixed ?_;refine gz2 ?_;refine uB 2 rfl (zbZ (n:=zeR n d) rfl rfl uO uO uO) ?_;refine gz2 ?_;refine uB 5 rfl (zbZ (n:=zeR n d) rfl rfl uO uO uO) ?_;refine uB 6 rfl (zC (cs:=[_,_]) zaM zls rfl) ?_;refine uF 7 ?_;refine zI (uY 0 ?_)
 refine ⟨uE,?_⟩
 refine gz2 ?_;exact ⟨_,_,zm 4 rfl,[_],_,⟨⟨_,_,_,_,_,rfl,zaM,.inr ⟨rfl,rfl,rfl⟩⟩,trivial⟩,Weak.refl _,rfl,rfl⟩
theorem zk8 [Tracks] {n:Int} (hn: -1000000<=n/\n<=1000000):ConP prog 101 [.int .i64 n] (.agg [.int .i64 (n.tdiv (zeR n 100)),.int .i64 ((100:Int).tdiv (zeR n 100))]):=by
 refine zaQ func101 rfl ntmps101 rfl rfl ?_;refine gz1 ?_;refine de rfl (zg zaM rfl fun b2=> ?_)
 refine gz3 ?_;refine dq (uCl zDI rfl (zph (n:=n) (d:=100) hn uO)) ?_;refine de0 (uY 0 ?_)
 refine gz2 ?_;exact ⟨_,_,zm 2 rfl,[_],_,⟨⟨_,_,_,_,_,rfl,zaM,.inr ⟨rfl,rfl,rfl⟩⟩,trivial⟩,Weak.refl _,rfl,rfl⟩
theorem ztl [Tracks] {b:Nat} {l:List Int} {a:Nat} (ha:a<=700000):Con prog 116 [pAt b] [St b l a] (fun x M'=> ∃(u:Value) (k:List SlotS) (a':Nat),x= .raw u/\GoodS4s k/\0<k.length/\a'<=a+25/\M'=[.arr u 2 (k.map zcm),St b l a']):=by
 refine uOb func116 ntmps116 ?_;refine gz6 ?_;refine zd (zJ 2) ?_;refine gz2 ?_;refine dq (za (hs:=[_,_,_,_]) zo ty9 rfl rfl (by decide) (by decide) rfl) ?_;refine gz1 ?_;refine de rfl (uCx 1 zho rfl rfl (zT uS uS uS uS) ?_)
 rintro _ _ ⟨y8,rfl,hy8,rfl⟩;refine dq (zbC (es:=sl4) (f:=HVal.str) (h:=y8.toNat) zo ty9 rfl rfl ⟨_,_,rfl,by omega⟩ uO (by simp [sl4];omega)) ?_;refine dq (zaE (f:=HVal.str) (l:=(sl4.take y8.toNat)) zo rfl) ?_;refine gz2 ?_;have hlen:(sl4.take y8.toNat).length=y8.toNat:=by simp [sl4];omega
 refine gz1 ?_;refine uV2 [3,1,5,1,11,12] (fun (k:Nat) (q:GL SlotS)=>[(11,.int .i64 k),(3,.raw q.u)]) (fun (k:Nat) (q:GL SlotS)=>[St b l q.a,.arr q.u 2 (q.out.map zcm)]) (fun (k:Nat) (q:GL SlotS)=>k<=(sl4.take y8.toNat).length/\(q.out.length=k/\GLok zmR k (a+1+5*k) q)) (fun (k:Nat) (q:GL SlotS)=>(sl4.take y8.toNat).length-k) (0) (⟨.slice none 0 0,[],a+1⟩) ?_ ?_ ?_ ?_
 ·exact ⟨Ad _,rfl,⟨by simp,by simp,uD⟩⟩
 ·exact ⟨rfl,rfl,trivial⟩
 ·exact uP
 ·intro k q hinv
  obtain ⟨hk,⟨hn,hq⟩⟩:=hinv;obtain ⟨u,out,a2⟩:=q;obtain ⟨g1,g2,g3⟩:=id hq;dsimp only at g1 g2 g3;dsimp only at hn;refine gz4 ?_;refine uCo (fun h1=> ?_) fun h2=> ?_
  ·obtain ⟨x,hx⟩: ∃x,(sl4.take y8.toNat)[k]? =some x:=⟨_,Aa (by simpa using h1)⟩
   have hdx:=zi hx;refine gz5 ?_;refine dq (zB (f:=HVal.str) (l:=(sl4.take y8.toNat)) (j:=k) (a:=x) zo ty9 rfl rfl rfl hx) ?_;refine gz7 ?_;refine de rfl (uCx 0 zzh rfl rfl (zep uS) ?_)
   rintro _ _ ⟨t18,a18,rfl,ht18,ha18,rfl⟩;refine dq (zC (cs:=[_,_]) zcf zzV rfl) ?_;refine dq (za (hs:=[_]) zfC zcf rfl rfl (by decide) (by decide) rfl) ?_;refine de rfl (zH (i:=1) zfC zcf rfl rfl rfl rfl rfl (by simp [zan,zb,zaT,zbw]) uSo fun v21=> ?_)
   refine gz8 ?_;exact ⟨k+1,⟨v21,out++[(⟨x,t18⟩:SlotS)],a18⟩,⟨by omega,by simp;omega,hq.add (x:=(⟨x,t18⟩:SlotS)) (by show t18.length<=4;omega) (by dsimp only at ha18;omega)⟩,uD,⟨rfl,rfl,trivial⟩,uK,zl (by dsimp only;first|rfl|(rw [Ay];rfl))⟩
  ·have hnk:(sl4.take y8.toNat).length<=k:=by simpa using h2
   obtain rfl:k=(sl4.take y8.toNat).length:=by omega
   refine gz2 ?_;refine zQ ?_;refine gz7 ?_;exact zA (Ghost.perm (List.Perm.swap _ _ _)) rfl ⟨_,out,a2,rfl,⟨by omega,g2⟩,by omega,by omega,rfl⟩
theorem zcl [Tracks] {b:Nat} {l:List Int} {a:Nat} (ha:a<=700000):Con prog 115 [pAt b] [St b l a] (fun x M'=> ∃k a',x=zfv k/\GoodRus k/\a'<=a+40/\M'=[St b l a']):=by
 refine uOb func115 ntmps115 ?_;refine gz6 ?_;refine zd (zJ 7) ?_;refine gz2 ?_;refine dq (za (hs:=[_,_,_,_,_]) zo ty9 rfl rfl (by decide) (by decide) rfl) ?_;refine dq (zaE (f:=HVal.str) (l:=ru5) zo rfl) ?_;refine gz3 ?_;refine uV2 [3,1,5,2,9,37] (fun (k:Nat) (q:GL RuleS)=>[(9,.int .i64 k),(3,.raw q.u)]) (fun (k:Nat) (q:GL RuleS)=>[St b l q.a,.arr q.u 7 (q.out.map zl1)]) (fun (k:Nat) (q:GL RuleS)=>k<=ru5.length/\(GLok zBP k (a+8*k) q)) (fun (k:Nat) (q:GL RuleS)=>ru5.length-k) (0) (⟨.slice none 0 0,[],a⟩) ?_ ?_ ?_ ?_;exact ⟨Ad _,⟨by simp,by simp,uD⟩⟩;exact ⟨rfl,rfl,trivial⟩;exact uP
 intro k q hinv
 obtain ⟨hk,hq⟩:=hinv;have hlen:ru5.length=5:=rfl;obtain ⟨u,out,a2⟩:=q;obtain ⟨g1,g2,g3⟩:=id hq;dsimp only at g1 g2 g3;refine gz4 ?_;refine uCo (fun h1=> ?_) fun h2=> ?_
 obtain ⟨x,hx⟩: ∃x,ru5[k]? =some x:=⟨_,Aa h1⟩
 have hdx:=zi hx;refine gz5 ?_;refine dq (zB (f:=HVal.str) (l:=ru5) (j:=k) (a:=x) zo ty9 rfl rfl rfl hx) ?_;refine gz6 ?_;refine de rfl (uCx 0 zfd rfl rfl (zK uS uS) ?_)
 rintro _ _ ⟨y14,rfl,rfl⟩;refine gz1 ?_;refine uCo (fun h3=> ?_) fun h4=> ?_
 refine gz8 ?_;exact ⟨k+1,⟨u,out,a2+1⟩,⟨by omega,hq.same uO⟩,uD,⟨rfl,rfl,trivial⟩,uK,uP⟩;refine gz5 ?_;refine dq (za (hs:=[_,_,_,_]) zo ty9 rfl rfl (by decide) (by decide) rfl) ?_;refine de rfl (uCx 0 zcC rfl rfl (zq (L:=[_,_,_,_]) uS uS uS) ?_)
 rintro _ _ ⟨y18,rfl,hy18,rfl⟩;refine gz1 ?_;refine dq (za (hs:=[_,_,_,_]) zo ty9 rfl rfl (by decide) (by decide) rfl) ?_;refine de rfl (uCx 0 zcC rfl rfl (zq (L:=[_,_,_,_]) uS uS uS) ?_)
 rintro _ _ ⟨y21,rfl,hy21,rfl⟩;refine gz1 ?_;refine de rfl (uCx 0 zho rfl rfl (zT uS uS uS uS) ?_)
 rintro _ _ ⟨y23,rfl,hy23,rfl⟩;refine gz1 ?_;refine dq (za (hs:=[_,_,_,_,_,_]) zab ty3 rfl rfl (by decide) (by decide) rfl) ?_;refine de rfl (uCx 0 zaZ rfl rfl (ze (L:=[_,_,_,_,_,_]) uS uS uS) ?_)
 rintro _ _ ⟨y26,rfl,hy26,rfl⟩;refine dq (uCl zDp rfl (zk8 (n:=y26) (by simp at hy26;omega))) ?_;refine dq (zC (cs:=[_,_,_,_,_,_,_]) zfs zI3 rfl) ?_;refine de rfl (zg zfs rfl fun b6=> ?_)
 refine de0 (uY 0 ?_)
 refine gz1 ?_;have hb1:=zyd (n:=y26) (g:=zeR y26 100) (by simp at hy26;omega);have hb2:=zyd (n:=100) (g:=zeR y26 100) uO;refine uVj [29,12] (fun (q4:RuleS×Nat)=>[]) (fun (q4:RuleS×Nat)=>[St b l q4.2,.arr u 7 (out.map zl1),.cells b6 (zb (zl1 q4.1))]) (fun (q4:RuleS×Nat)=>zBP q4.1/\q4.2<=a2+7) ?_ ?_
 skip
 refine gz2 ?_;refine de rfl (uZ 0 ?_)
 refine gz3 ?_;refine dgl rfl rfl (fun hc=>⟨_,OpenTo.upd (t:=33) rfl (hc) (OpenTo.refl _),zV (i:=0) ty3 rfl rfl (.inl ⟨rfl,rfl⟩) ⟨rfl,rfl⟩⟩) ?_;refine gz3 ?_;refine uCo (fun h5=> ?_) fun h6=> ?_
 refine gz2 ?_;refine dq (za (hs:=[_,_,_,_,_]) zab ty3 rfl rfl (by decide) (by decide) rfl) ?_;refine de rfl (uCx 1 zaZ rfl rfl (ze (L:=[_,_,_,_,_]) uS uS uS) ?_)
 rintro _ _ ⟨y39,rfl,hy39,rfl⟩;refine gz1 ?_;refine de0 (uY 1 ?_)
 refine gz1 ?_;exact ⟨((⟨x,y18,y21,y23,y39,y26.tdiv (zeR y26 100),(100:Int).tdiv (zeR y26 100)⟩:RuleS),a2+6),⟨⟨hb1,hb2⟩,uD⟩,trivial,uK,uP⟩;refine gz1 ?_;exact ⟨((⟨x,y18,y21,y23,0,y26.tdiv (zeR y26 100),(100:Int).tdiv (zeR y26 100)⟩:RuleS),a2+5),⟨⟨hb1,hb2⟩,uD⟩,trivial,uK,uP⟩
 intro q4 hq4
 obtain ⟨x5,a5⟩:=q4;obtain ⟨hx5,ha5⟩:=hq4;dsimp only at hx5 ha5;refine zd (zaN 6 (i:=2) rfl rfl) ?_;refine gz3 ?_;refine dq (za (hs:=[_]) zrP zfs rfl rfl (by decide) (by decide) rfl) ?_;refine de rfl (zH (i:=1) zrP zfs rfl rfl rfl rfl rfl (by simp [zan,zb,zaT,zbw]) uSo fun v44=> ?_)
 refine gz8 ?_;exact ⟨k+1,⟨v44,out++[x5],a5⟩,⟨by omega,hq.add (x:=x5) hx5 uO⟩,uD,⟨rfl,rfl,trivial⟩,uK,uP⟩;have hnk:ru5.length<=k:=by omega
 obtain rfl:k=ru5.length:=by omega
 refine gz2 ?_;refine zQ ?_;refine gz7 ?_;exact zA (zay 2 (i:=1) rfl rfl) rfl ⟨out,a2,rfl,⟨by omega,g2⟩,by omega,rfl⟩
theorem zk5 [Tracks] {b:Nat} {l:List Int} {a:Nat} (ha:a<=600000):Con prog 124 [pAt b] [St b l a] (fun x M'=> ∃k a',x=zgH k/\GoodSlos k/\a'<=a+40/\M'=[St b l a']):=by
 refine uOb func124 ntmps124 ?_;refine gz5 ?_;refine de rfl (uCx 0 zqr rfl rfl (ztl uS) ?_)
 rintro _ _ ⟨u6,k6,a6,rfl,hk6,hn6,ha6,rfl⟩;refine gz2 ?_;have hl6:=hk6.len;have hg6:=hk6.all;refine zd (zbv (M':=[.arr u6 2 (k6.map zcm),St b l a6]) rfl) ?_;refine zd (Ghost.perm (List.Perm.swap _ _ _)) ?_;refine uVj [4,1,7,31] (fun (q:List SlotS×Nat)=>[]) (fun (q:List SlotS×Nat)=>[St b l q.2,.arr u6 2 (q.1.map zcm)]) (fun (q:List SlotS×Nat)=>GoodSlos q.1/\q.2<=a6+5) ?_ ?_
 ·skip
  refine gz2 ?_;refine de rfl (uCx 0 zfd rfl rfl (zK uS uS) ?_)
  rintro _ _ ⟨y8,rfl,rfl⟩;refine gz1 ?_;refine uCo (fun h1=> ?_) fun h2=> ?_
  ·refine zc3 (i:=1) rfl (fun h0 he=> ?_) (fun ob off cap hv hcap=> ?_)
   ·exfalso;have:=congrArg List.length he;simp at this;subst this;simp at hn6
   subst hv;refine gz4 ?_;refine de rfl (zbq (i:=1) (es:=k6) zfC rfl rfl ?_)
   refine de rfl (uCx 0 zj7 rfl rfl (zao uS uS) ?_)
   rintro _ _ ⟨y13,rfl,hy13,rfl⟩;refine dq (zM (j:=y13) zfC zcf rfl rfl rfl uSo) ?_;refine gz2 ?_;obtain ⟨x,hx⟩: ∃x,k6[y13]? =some x:=⟨_,Aa uO⟩
   have hgx:=hg6 x (Ab hx);dsimp only [zmR] at hgx;refine zbx (fun M=> ∃i:Nat,M[i]? =some (.arr (.slice (some ⟨ob,off,none⟩) (k6.map zcm).length cap) 2 (k6.map zcm))) [6,12] mixed ?_;refine gz6 ?_;refine uM 6 rfl ⟨1,rfl⟩ (fun M hM=>by obtain ⟨i,hi⟩:=hM;exact zaC (i:=i) (j:=y13) 0 ty9 rfl uO hi hx rfl rfl ⟨rfl,rfl⟩) ?_;refine uB 7 rfl (za (hs:=[_,_,_]) zo ty9 rfl rfl (by decide) (by decide) rfl) ?_;refine uA 9 ?_;refine gz2 ?_;refine uM 12 rfl ⟨1,rfl⟩ (fun M hM=>by obtain ⟨i,hi⟩:=hM;exact zaC (i:=i) (j:=y13) 1 zo rfl uO hi hx rfl rfl ⟨rfl,rfl⟩) ?_;refine uA 14 ?_;refine uB 15 rfl (za (hs:=[_,_,_]) zo ty9 rfl rfl (by decide) (by decide) rfl) ?_;refine uF 8 ?_;refine zw rfl (uCx 0 zcC rfl rfl (zq (L:=[_,_,_]) uS uS uS) ?_)
   rintro _ _ ⟨y23,rfl,hy23,rfl⟩;refine ⟨uE,?_⟩
   refine uF 13 ?_;refine zw rfl (uCa zlj rfl (zad uO) fun v28=> ?_)
   refine ⟨uE,?_⟩
   refine uF 16 ?_;refine zw rfl (uCx 1 zcC rfl rfl (zq (L:=[_,_,_]) uS uS uS) ?_)
   rintro _ _ ⟨y31,rfl,hy31,rfl⟩;refine ⟨uE,?_⟩
   refine uB 17 rfl (za (hs:=[_]) zo ty9 rfl rfl (by decide) (by decide) rfl) ?_;refine uF 18 ?_;refine zw rfl (zmP (N:=[St b l (a6+1+1+1+1),.arr (.slice (some ⟨ob,off,none⟩) (k6.map zcm).length cap) 2 (k6.map zcm)]) (sz:=1) (es:=(x.Positions++[y31]).map .str) 1 (zH (i:=1) zo ty9 rfl rfl rfl rfl rfl (by simp [zan,zb]) uSo fun v=>⟨v,rfl,by simp,rfl⟩) ?_)
   refine ⟨fun _=> .inl ⟨1,rfl⟩,?_⟩
   refine gz2 ?_;refine uF 21 ?_;refine zI (zac (i:=1) (j:=y13) (f:=0) (y:=zcm x) (y':=zcm ⟨y23,x.Positions⟩) ty9 rfl uO rfl rfl (zbG hx) rfl rfl (by simp [zb]) rfl ?_)
   refine ⟨uE,?_⟩
   refine gz2 ?_;refine uF 24 ?_;refine zI (zac (i:=1) (j:=y13) (f:=1) (y:=zcm ⟨y23,x.Positions⟩) (y':=zcm ⟨y23,x.Positions++[y31]⟩) zo rfl uO rfl rfl (za1 (zbG hx)) rfl rfl (by simp [zb]) rfl ?_)
   refine ⟨uE,?_⟩
   refine gz1 ?_;exact ⟨(k6.set y13 ⟨y23,x.Positions++[y31]⟩,a6+4),⟨⟨by simp;omega,zgd (P:=zqm) hk6.up.all (by dsimp only [zqm];simp;omega)⟩,uD⟩,trivial,uK,uP⟩
  ·refine gz1 ?_;exact ⟨(k6,a6+1),⟨hk6.up,uD⟩,trivial,uK,uP⟩
 ·intro q hq3
  obtain ⟨k1,a4⟩:=q;obtain ⟨q1,q3⟩:=hq3;dsimp only at q1 q3;refine gz3 ?_;refine de rfl (uCx 0 zfd rfl rfl (zK uS uS) ?_)
  rintro _ _ ⟨y39,rfl,rfl⟩;refine gz1 ?_;refine uCo (fun h3=> ?_) fun h4=> ?_
  ·refine gz4 ?_;exact ⟨_,_,(zbv (M':=[St b l (a4+1),.arr u6 2 (k1.map zcm)]) rfl).trans ((Ghost.perm (List.Perm.swap _ _ _)).trans Ghost.drop),_,.slice 2 [],rfl,zD 2,[],a4+1,rfl,⟨by simp,by simp⟩,by omega,rfl⟩
  ·refine gz7 ?_;exact zA (zay 2 (i:=1) rfl rfl) rfl ⟨k1,a4+1,rfl,q1,by omega,rfl⟩
theorem zaR [Tracks] {b:Nat} {l:List Int} {a:Nat} (ha:a<=600000):Con prog 118 [pAt b] [St b l a] (fun x M'=> ∃k a',x=eIs k/\k.length<=6/\a'<=a+20/\M'=[St b l a']):=by
 refine uOb func118 ntmps118 ?_;refine gz6 ?_;refine zd (zJ 1) ?_;refine gz3 ?_;refine de rfl (uCx 1 zDN rfl rfl (zgy (n:=5) uO uO uO) ?_)
 rintro _ _ ⟨L7,a7,rfl,hL7,ha7,rfl⟩;refine gz1 ?_;refine de rfl (uCx 0 zho rfl rfl (zT uS uS uS uS) ?_)
 rintro _ _ ⟨y9,rfl,hy9,rfl⟩;refine dq (zbC (es:=L7) (f:=HVal.int .i64) (h:=y9.toNat) zab ty3 rfl rfl ⟨_,_,rfl,by omega⟩ uO (by have:=hL7.1;omega)) ?_;refine dq (zaE (f:=HVal.int .i64) (l:=L7.take y9.toNat) zab rfl) ?_;refine gz2 ?_;obtain ⟨hLn,hLb⟩:=hL7;have hlen:(L7.take y9.toNat).length=y9.toNat:=by simp;omega
 refine gz1 ?_;refine uV2 [3,1,5,1,12,10] (fun (k:Nat) (q:GL Int)=>[(12,.int .i64 k),(3,.raw q.u)]) (fun (k:Nat) (q:GL Int)=>[St b l (a7+1),.arr q.u 1 (q.out.map (.int .i64))]) (fun (k:Nat) (q:GL Int)=>k<=(L7.take y9.toNat).length/\(q.out.length<=k)) (fun (k:Nat) (q:GL Int)=>(L7.take y9.toNat).length-k) (0) (⟨.slice none 0 0,[],a⟩) ?_ ?_ ?_ ?_;exact ⟨Ad _,by simp⟩;exact ⟨rfl,rfl,trivial⟩;exact uP
 intro k q hinv
 obtain ⟨hk,hq⟩:=hinv;obtain ⟨u,out,a2⟩:=q;dsimp only at hq;refine gz4 ?_;refine uCo (fun h1=> ?_) fun h2=> ?_
 obtain ⟨y,hy⟩: ∃y,(L7.take y9.toNat)[k]? =some y:=⟨_,Aa (by simpa using h1)⟩
 have hdy:=zi hy;refine gz5 ?_;refine dq (zB (f:=HVal.int .i64) (l:=L7.take y9.toNat) (j:=k) (a:=y) zab ty3 rfl rfl rfl hy) ?_;refine gz6 ?_;refine dq (zbt rfl rfl (by have:=hLb y (AS (Ab hy));omega) (by have:=hLb y (AS (Ab hy));omega)) ?_;refine dq (za (hs:=[_]) zab ty3 rfl rfl (by decide) (by decide) rfl) ?_;refine de rfl (zH (i:=1) zab ty3 rfl rfl rfl rfl rfl (by simp [zan,zb,zaT,zbw]) uSo fun v20=> ?_)
 refine gz8 ?_;exact ⟨k+1,⟨v20,out++[y+1],a⟩,⟨by omega,by simp;omega⟩,uD,⟨rfl,rfl,trivial⟩,uK,uP⟩;have hnk:(L7.take y9.toNat).length<=k:=by simpa using h2
 obtain rfl:k=(L7.take y9.toNat).length:=by omega
 refine gz2 ?_;refine zQ ?_;refine gz5 ?_;refine de rfl (uCx 0 zfd rfl rfl (zK uS uS) ?_)
 rintro _ _ ⟨y23,rfl,rfl⟩;refine gz1 ?_;refine uCo (fun h3=> ?_) fun h4=> ?_
 refine gz3 ?_;refine de rfl (uCx 0 znT rfl rfl (zi7 uS uS uS uS) ?_)
 rintro _ _ ⟨y26,rfl,hy26,rfl⟩;refine dq (za (hs:=[_]) zab ty3 rfl rfl (by decide) (by decide) rfl) ?_;refine de rfl (zH (i:=1) zab ty3 rfl rfl rfl rfl rfl (by simp [zan,zb,zaT,zbw]) uSo fun v28=> ?_)
 refine gz8 ?_;exact zA (zay 2 (i:=1) rfl rfl) rfl ⟨out++[y26],_,by simp,by simp;omega,by omega,rfl⟩;refine gz7 ?_;exact zA (zay 2 (i:=1) rfl rfl) rfl ⟨out,_,rfl,by omega,by omega,rfl⟩
end
end Go.Proofs.YtabpobhnedkkeaaGreatDoor
namespace Go.HL
section
section
variable {fit:Nat->Nat->Bool} {w:Nat->Int} {T:Nat->Bool} {fr m:Nat}
end
section
variable {fit:Nat->Nat->Bool} {w:Nat->Int} {n N:Nat} {T:Nat->Bool} {fr:Nat}
end
end
section
open Go Op
end
section
open Go
section
variable {P:Program} {e:Env} {dst:Option Tmp} {ty:TypeId} {pos:String} {af:Array Edge} {g:Option (Nat×Bool)} {M:List MObj} {K:HVal->List MObj->Prop}
end
end
section
open Go Op
def TfE (b:BookS) (t:Str) (w n:Int):Int:=if zc7 b t w n≠0 then zc7 b t w n else fdE b t w n
def TfF (b:BookS) (t:Str) (w n:Int):List FillS:=if zc7 b t w n≠0 then [] else FdF b t w n
def TfP (b:BookS) (t:Str) (w n:Int):Str:=if zc7 b t w n≠0 then [] else FdP b t w n
def TsE (b:BookS) (t:Str) (w n:Int):Int:=if zc7 b t w n≠0 then zc7 b t w n else wlE b w n
def TsL (b:BookS) (t:Str) (w n:Int):List ScorerS:=if zc7 b t w n≠0 then [] else zfb b t w n
end
section
open Go Op
/-! a scorer out of all lines-/
def zot (g:LeagueS) (q:ScorerS):List LineS->ScorerS
 |[]=>q
 |x::r=>zot g (if x.Player=q.Player then ⟨q.Player,q.Positions,(ofH (zeG g.Rules q.Positions x)).Num,(ofH (zeG g.Rules q.Positions x)).Den,true⟩ else q) r
theorem zyN {g:LeagueS}: ∀{L:List LineS} {q:ScorerS},(∀x∈L,x.Player≠q.Player)->zot g q L=q
 |[],_,_=>rfl
 |x::r,q,h=>by
   rw [zot,if_neg (h x Ai)];exact zyN fun y hy=>h y (Al _ hy)
theorem zxo {g:LeagueS} {s:Str} {p:PlayerS} (hp:plO g.Players s=some p): ∀{L:List LineS},L.Pairwise (fun a b=>a.Player≠b.Player)->some (zot g ⟨s,p.Positions,0,1,false⟩ L)=zlx g L s
 |[],_=>(zjm hp rfl).symm
 |x::r,h=>by
   obtain ⟨h1,h2⟩:=List.pairwise_cons.1 h;rw [zot]
   by_cases e:x.Player=s
   rw [if_pos e,zyN (fun y hy=>by have:=h1 y hy;rw [e] at this;exact fun q=>this q.symm)];exact (zjn hp (by rw [Cw];simpa using e)).symm;rw [if_neg e,zxo hp h2];have hf:(x::r).find? (fun y=>y.Player==s)=r.find? (fun y=>y.Player==s):=Cv (by simpa using e)
   cases hq:r.find? (fun y=>y.Player==s) with
   |none=>rw [zjm hp hq,zjm hp (by rw [hf];exact hq)]
   |some y=>rw [zjn hp hq,zjn hp (by rw [hf];exact hq)]
theorem zxQ {l:List LineS} {w:Int} (h:zap l=0) (hw: ∀y∈l,y.Week=w):l.Pairwise fun a b=>a.Player≠b.Player:=by
 have h3:=(zeb h).2.2;have h4:l.Pairwise fun a b=>(a∈l/\b∈l)/\zco a b<0:=by
  have:=List.pairwise_iff_getElem.1 h3;exact List.pairwise_iff_getElem.2 fun i j hi hj hij=>⟨⟨Bg hi,Bg hj⟩,this i j hi hj hij⟩
 refine h4.imp fun {a b} q e=> ?_
 obtain ⟨⟨ha,hb⟩,q2⟩:=q;have e3:zco a b=zco b b:=by unfold zco;rw [e,hw a ha,hw b hb]
 have e4:=zfM.flip b b trivial trivial
 omega
/-! who is in a line-up-/
def zbS (f:List FillS):List Str:=(f.filter fun x=> !(x.Player==[])).map (·.Player)
theorem zDl {f:List FillS} {k s:Str} (h:s≠[]):zbS (f++[⟨k,s⟩])=zbS f++[s]:=by
 unfold zbS;rw [AX];simp [h]
theorem zFH {f:List FillS} {k:Str}:zbS (f++[⟨k,[]⟩])=zbS f:=by
 unfold zbS;rw [AX];simp
theorem zxA (f:List FillS):(zbS f).length<=f.length:=by
 unfold zbS;rw [Af];exact AK _ _
theorem zxB {f:List FillS} {s:Str}:s∈zbS f↔s≠[]/\∃x∈f,x.Player=s:=by
 unfold zbS;rw [B8]
 constructor
 rintro ⟨x,hx,rfl⟩;obtain ⟨h1,h2⟩:=List.mem_filter.1 hx;exact ⟨by simpa using h2,x,h1,rfl⟩;rintro ⟨h,x,hx,rfl⟩;exact ⟨x,List.mem_filter.2 ⟨hx,by simpa using h⟩,rfl⟩
theorem zDc {l:List ScorerS} (h:ScoOk l) (c:Option ChoiceS) (S:List SlotS) (n:Nat) (s:Str):(zb5 l c S n).2.contains s=(zbS (zae l c S n)).contains s:=by
 rcases zEy (l:=l) c S n with q|⟨y,hy,e⟩
 rw [AE,BI,BI,decide_eq_true_eq,decide_eq_true_eq,q.1 s,zxB];exact absurd e (zA3 (h.ky y hy))
theorem zyz {l:List ScorerS} (h:ScoOk l) {c:ChoiceS} {S:List SlotS} {k:Nat} {z:Int} {i0:Nat}
 (h2:0<=z->z=(i0:Int)/\l[i0]? =some (l.getD i0 zbH)/\scO l (zcN c k)=some (l.getD i0 zbH)) (h3:z<0->scO l (zcN c k)=none):
 okF l (some c) S (zb5 l (some c) S k).2 k=(decide (0<=z)&&(zhy (l.getD i0 zbH).Positions (S.getD k zfr).Positions&& !((zbS (zae l (some c) S k)).contains (zcN c k)))):=by
 rw [ztT h2 h3,zDc h,Bool.and_comm (!_)]
theorem zGx {l:List ScorerS} (h:ScoOk l) {s:Str} {y:ScorerS} (hy:scO l s=some y):s≠[]:=by
 obtain ⟨h1,h2⟩:=zxm hy;rw [<-h2];exact zA3 (h.ky y h1)
theorem zxL {l:List ScorerS} (h:ScoOk l) {c:Option ChoiceS} {S:List SlotS} {k:Nat} (hk:okF l c S (zb5 l c S k).2 k=true):
 zae l c S (k+1)=zae l c S k++[⟨(S.getD k zfr).Key,zkh c k⟩]/\zbS (zae l c S (k+1))=zbS (zae l c S k)++[zkh c k]:=by
 obtain ⟨y,hy,_⟩:=zwZ hk;have e:zae l c S (k+1)=zae l c S k++[⟨(S.getD k zfr).Key,zkh c k⟩]:=by unfold zae;rw [zqw hk]
 exact ⟨e,by rw [e,zDl (zGx h hy)]⟩
theorem zsj {l:List ScorerS} {c:Option ChoiceS} {S:List SlotS} {k:Nat} (hk:okF l c S (zb5 l c S k).2 k=false):
 zae l c S (k+1)=zae l c S k++[⟨(S.getD k zfr).Key,[]⟩]/\zbS (zae l c S (k+1))=zbS (zae l c S k):=by
 have e:zae l c S (k+1)=zae l c S k++[⟨(S.getD k zfr).Key,[]⟩]:=by unfold zae;rw [zpE hk]
 exact ⟨e,by rw [e,zFH]⟩
theorem zqu {c:Option ChoiceS} {f:List FillS}:ztB c f=if (zbS f).contains (zcD c).Captain=true then (zcD c).Captain else []:=by
 have e:(zbS f).contains (zcD c).Captain=true↔(zcD c).Captain≠[]/\∃x∈f,x.Player=(zcD c).Captain:=by rw [BI,decide_eq_true_eq,zxB]
 cases c with
 |none=>
   show ([]:Str)=if (zbS f).contains (zcD none).Captain=true then (zcD none).Captain else []
   split
   rename_i q;exact absurd rfl (e.1 q).1
   rfl
 |some c=>
   have e':(zbS f).contains c.Captain=true↔c.Captain≠[]/\∃x∈f,x.Player=c.Captain:=e
   show (if c.Captain≠[]/\f.any (fun x=>x.Player==c.Captain)=true then c.Captain else [])=if (zbS f).contains c.Captain=true then c.Captain else []
   by_cases q:(zbS f).contains c.Captain=true
   rw [if_pos q,if_pos ⟨(e'.1 q).1,by obtain ⟨x,hx,h2⟩:=(e'.1 q).2;exact List.any_eq_true.2 ⟨x,hx,by simpa using h2⟩⟩];rw [if_neg q,if_neg fun p=>q (e'.2 ⟨p.1,by obtain ⟨x,hx,h2⟩:=List.any_eq_true.1 p.2;exact ⟨x,hx,by simpa using h2⟩⟩)]
/-! what the reference's points are made of-/
theorem zCy (n:Int):(⟨n.tdiv (zeR n 100),(100:Int).tdiv (zeR n 100)⟩:FracS)=ofH n:=by
 have e:zeR n 100=zfz (max n (-n)) 100:=by
  unfold zeR zfz
  congr 1
  rw [show (max n (-n)).toNat=n.natAbs by omega]
  rfl
 unfold ofH zpW;rw [e]
theorem znb {r:RuleS} (h:RuleOk r) (pos:List Str) (x:LineS):zgp r pos x=
 (if r.Position≠[]/\pos.contains r.Position=false then 0 else (if r.Kind=1 then zb3 r.Stat 0 x.Stats else if r.Kind=2/\0<zb3 r.Stat 0 x.Stats then (zb3 r.Stat 0 x.Stats).tdiv r.Many
   else if (r.Kind=3/\r.Many<=zb3 r.Stat 0 x.Stats)\/(r.Kind=4/\zb3 r.Stat 0 x.Stats=0) then 1 else 0)*zew r.Num r.Den):=by
 unfold zgp;have e:zhy [r.Position] pos=pos.contains r.Position:=by
  unfold zhy
  simp
 rw [e]
 by_cases h1:r.Position≠[]/\pos.contains r.Position=false
 rw [if_pos h1,if_pos h1];rw [if_neg h1,if_neg h1]
 by_cases h2:r.Kind=1
 rw [if_pos h2,if_pos h2,Int.mul_comm];rw [if_neg h2,if_neg h2]
 by_cases h3:r.Kind=2
 rw [if_pos h3]
 by_cases h4:0<zb3 r.Stat 0 x.Stats
 rw [if_pos ⟨h3,h4⟩,Int.mul_comm,show max (zb3 r.Stat 0 x.Stats) 0=zb3 r.Stat 0 x.Stats by omega];rw [if_neg (fun q=>h4 q.2),if_neg (fun q=>by omega),show max (zb3 r.Stat 0 x.Stats) 0=0 by omega]
 simp
 rw [if_neg h3,if_neg (c:=r.Kind=2/\0<zb3 r.Stat 0 x.Stats) (fun q=>h3 q.1)]
 split
 rw [Int.one_mul];rw [Int.zero_mul]
theorem zfK {a b:Int} (h1: -100000<=a/\a<=100000) (h2: -1000000<=b/\b<=1000000): -9223372036854775808<=a*b/\a*b<=9223372036854775807:=by
 have:=ztR h1 h2 (by decide) (by decide)
 omega
theorem zCW {n m:Int} (h: -100000<=n/\n<=100000): -100000<=n.tdiv m/\n.tdiv m<=100000:=by
 have h1:(n.tdiv m).natAbs<=n.natAbs:=by rw [Int.natAbs_tdiv];exact Nat.div_le_self _ _
 omega
theorem zFO {t:Str} {w n f:Int} {l:List ChoiceS}:zfQ (chQ t w fun a=>decide (a<f)&&decide (a<=n)) none l=zpw l t w n f:=by
 unfold zpw;rw [zwi];refine zsx fun x _=> ?_
 show ((x.Team==t&&x.Week==w)&&(decide (x.At<f)&&decide (x.At<=n)))=(((x.Team==t&&x.Week==w)&&decide (x.At<=n))&&decide (x.At<f))
 rw [Bool.and_comm (decide (x.At<f)),Bool.and_assoc (x.Team==t&&x.Week==w)]
/-! equal scorers-/
def zf9 (a b:ScorerS):Bool:=((a.Player==b.Player&&a.Positions==b.Positions)&&(a.Num==b.Num&&a.Den==b.Den))&&(a.Played==b.Played)
theorem zgi (l:List ScorerS):zj8 zf9 l l=true:=by
 induction l with
 |nil=>rfl
 |cons x r ih=>rw [zj8,ih];simp [zf9]
end
end Go.HL
