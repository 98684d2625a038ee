/- Part 6 of the proof: contracts of functions and plain facts; no conditions. -/
import Derived.Test.YtabpobhnedkkeaaGreatDoorQWeeksScored5
import Derived.Calls
import Derived.Handed
import Derived.LaidMore
import Derived.Lay
import Derived.Lib.LaidU8
import Derived.OpenShut
import Derived.ProofKit
import Derived.SevenTiedAt
import Derived.Shelf.Vars
import Derived.Stop.Joined
import GoSem.ClaimGoes
set_option linter.unusedVariables false
set_option linter.unusedSimpArgs false
set_option maxHeartbeats 16000000
namespace Go.Proofs.YtabpobhnedkkeaaGreatDoor
set_option maxRecDepth 100000
set_option linter.unusedVariables false
set_option linter.unusedSimpArgs false
section
open Go.Proofs.Tryz
open Go.HL
theorem zih [Tracks] {n d:Int} (hn: -1000000000000000<=n/\n<=1000000000000000) (hd:0<=d/\d<=1000000000000000):ConP prog 202 [.int .i64 n,.int .i64 d] (.int .i64 ((Nat.gcd n.natAbs d.natAbs:Nat):Int)):=by
 refine uOb func202 ntmps202 ?_;refine gz5 ?_;refine uU2 [0,2,5,6] (fun (a:Int) (b:Int)=>[(0,.int .i64 a),(1,.int .i64 b)]) (fun (a:Int) (b:Int)=>[]) (fun (a:Int) (b:Int)=>(-1000000000000000<=a/\a<=1000000000000000)/\(-1000000000000000<=b/\b<=1000000000000000)/\Nat.gcd a.natAbs b.natAbs=Nat.gcd n.natAbs d.natAbs) (fun (a:Int) (b:Int)=>b.natAbs) (n) (d) ?_ ?_;exact ⟨hn,by omega,rfl⟩;rintro a b ⟨ha,hb,hg⟩;refine gz5 ?_;refine uCo (fun h1=> ?_) fun h2=> ?_
 have hb0:b≠0:=by simpa using h1
 obtain ⟨m1,m2,m3⟩:=zrN (a:=a) hb0;refine gz3 ?_;refine zh8 mixed ?_;refine gz3 ?_;refine uB 3 rfl (zdp rfl rfl uO) ?_;refine gz4 ?_;refine ⟨b,a.tmod b,?_,?_,⟨rfl,rfl,trivial⟩,uK,Ac _⟩
 exact ⟨hb,by omega,by rw [zxw];exact hg⟩
 dsimp only;exact m3
 obtain rfl:b=0:=by simpa using h2
 rw [show (0:Int).natAbs=0 from rfl,Co] at hg;refine gz2 ?_;refine zQ ?_;refine gz5 ?_;refine dq (zgU rfl uO uO) ?_;refine dq (zqD rfl rfl) ?_;refine gz3 ?_;refine uRp ?_;rw [<-hg]
 congr 1
 omega
theorem znC [Tracks] {n d:Int} (hn: -1000000000000000<=n/\n<=1000000000000000) (hd:1<=d/\d<=1000000):ConP prog 199 [.int .i64 n,.int .i64 d] (.agg [.int .i64 (n.tdiv (zeR n d)),.int .i64 (d.tdiv (zeR n d))]):=by
 have hg0:=zyw (n:=n) hd.1;refine zaQ func199 rfl ntmps199 rfl rfl ?_;refine gz1 ?_;refine de rfl (zg zaM rfl fun b4=> ?_)
 refine gz4 ?_;refine dq (uCl zvD rfl (zih (n:=n) (d:=d) uO uO)) ?_;refine gz2 ?_;refine uDr mixed ?_;refine gz2 ?_;refine uB 2 rfl (zbZ (n:=zeR n d) rfl rfl uO uO uO) ?_;refine gz2 ?_;refine uB 5 rfl (zbZ (n:=zeR n d) rfl rfl uO uO uO) ?_;refine uB 6 rfl (zC (cs:=[_,_]) zaM zls rfl) ?_;refine uF 7 ?_;refine zI (uY 0 ?_)
 refine ⟨uE,?_⟩
 refine gz2 ?_;exact ⟨_,_,zm 4 rfl,[_],_,⟨⟨_,_,_,_,_,rfl,zaM,.inr ⟨rfl,rfl,rfl⟩⟩,trivial⟩,Weak.refl _,rfl,rfl⟩
theorem zkt [Tracks] {n d most:Int} (hn: -1000000000000000<=n/\n<=1000000000000000) (hd: -1000000000<=d/\d<=1000000000) (hm:0<=most/\most<=1000000):ConP prog 104 [.agg [.int .i64 n,.int .i64 d],.int .i64 most] (.int .i64 (za2 n d most)):=by
 refine uOb func104 ntmps104 ?_;refine zjf ?_;refine dg rfl rfl (fun hc=>by
  have hd1:1<=d:=by (have q:=hc;simp at q;omega)
  exact ⟨_,OpenTo.upd (t:=13) rfl uC (OpenTo.upd (t:=11) rfl uC (OpenTo.refl _)),uCl zvD rfl (zih (n:=n) (d:=d) uO uO)⟩) ?_
 refine gz4 ?_;refine uCo (fun h1=> ?_) fun h2=> ?_
 have hp3:=pts3 (n:=n) (d:=d) (by assumption);refine gz4 ?_;refine uRp ?_;unfold za2
 focus first
 |(rw [if_pos hp3];done)
 |(rw [if_neg (by rw [hp0];simp;omega),if_pos hp1];done)
 |(rw [if_neg (by rw [hp0];simp;omega),if_neg hp2];done)
 have hp0:=pts0 (n:=n) (d:=d) (by first|assumption|simp_all);have hd1:1<=d:=by (focus first|omega|(simp_all;done)|(simp_all;omega))
 have hmd:=zsG (a:=most) (b:=d) (A:=1000000) (B:=1000000000) uO uO uO uO;have hmn: -most*d= -(most*d):=Bx _ _;refine gz3 ?_;refine dq (zdp rfl rfl uO) ?_;refine gz5 ?_;refine uGr rfl (fun hc=>by have hq:=hc;(try simp at hq);exact zgU rfl uO uO) ?_;refine gz2 ?_;refine uGr rfl (fun hc=>by have hq:=hc;(try simp at hq);exact zbu rfl rfl uO uO) ?_;refine gz8 ?_;refine uGr rfl (fun hc=>by have hq:=hc;(try simp at hq);exact zbu rfl rfl uO uO) ?_;refine gz4 ?_;refine uCo (fun h3=> ?_) fun h4=> ?_
 have hp1:=pts1 (n:=n) (d:=d) (m:=most) (by assumption);refine gz4 ?_;refine uRp ?_;unfold za2
 focus first
 |(rw [if_pos hp3];done)
 |(rw [if_neg (by rw [hp0];simp;omega),if_pos hp1];done)
 |(rw [if_neg (by rw [hp0];simp;omega),if_neg hp2];done)
 refine gz3 ?_;have hp2:=pts2 (n:=n) (d:=d) (m:=most) (by assumption);refine gz4 ?_;refine uRp ?_;unfold za2
 focus first
 |(rw [if_pos hp3];done)
 |(rw [if_neg (by rw [hp0];simp;omega),if_pos hp1];done)
 |(rw [if_neg (by rw [hp0];simp;omega),if_neg hp2];done)
theorem zj4 [Tracks] {n:Int} (hn: -1000000000000000<=n/\n<=1000000000000000):ConP prog 101 [.int .i64 n] (zkA (ofH n)):=by
 refine zaQ func101 rfl ntmps101 rfl rfl ?_;refine gz1 ?_;refine de rfl (zg zaM rfl fun b2=> ?_)
 refine gz3 ?_;refine dq (zP (h':=zkA (ofH n)) (uCl zDI rfl (znC (n:=n) (d:=100) hn uO)) (congrArg zkA (zCy n))) ?_;refine de0 (uY 0 ?_)
 refine gz2 ?_;exact ⟨_,_,zm 2 rfl,[_],_,⟨⟨_,_,_,_,_,rfl,zaM,.inr ⟨rfl,rfl,rfl⟩⟩,trivial⟩,Weak.refl _,rfl,rfl⟩
theorem zdC [Tracks] {n d:Int} (hd:1<=d/\d<=100) (hw: -1000000000000<=zew n d/\zew n d<=1000000000000):ConP prog 198 [.agg [.int .i64 n,.int .i64 d]] (.int .i64 (zew n d)):=by
 unfold zew at hw;refine uOb func198 ntmps198 ?_;refine gz4 ?_;refine uDr mixed ?_;refine gz4 ?_;refine uB 4 rfl (zbZ rfl rfl uO uO uO) ?_;refine uB 5 rfl (zbu rfl rfl uO uO) ?_;refine gz3 ?_;refine zu rfl ?_
 rfl
theorem zoU [Tracks] {r:RuleS} {pos:List Str} {x:LineS} (hr:RuleOk r) (hb:zjq x) (hpos:pos.length<=1000000) (hl:x.Stats.length<=1000000):ConP prog 100 [zl1 r,eSs pos,zaq x] (.int .i64 (zgp r pos x)):=by
 obtain ⟨hc1,hc2,hc3⟩:=zpJ hr hb;have hrd:=hr.dn;have hrw:=hr.w;refine uOb func100 ntmps100 ?_;refine zrB ?_;refine uU2 [7,1,9,1,14,12] (fun (k:Nat) (n:Int)=>[(14,.int .i64 k),(7,.int .i64 n)]) (fun (k:Nat) (n:Int)=>[]) (fun (k:Nat) (n:Int)=>k<=x.Stats.length/\(zb3 r.Stat 0 x.Stats=zb3 r.Stat n (x.Stats.drop k))) (fun (k:Nat) (n:Int)=>x.Stats.length-k) (0) (0) ?_ ?_;exact ⟨Ad _,rfl⟩;rintro k n ⟨hk,hg⟩;refine gz4 ?_;refine uCo (fun h1=> ?_) fun h2=> ?_
 obtain ⟨y,hy⟩: ∃y,x.Stats[k]? =some y:=⟨_,Aa h1⟩
 have hdy:=zi hy;rw [zuk hy] at hg;refine gz7 ?_;refine de rfl (zg zbD rfl fun b9=> ?_)
 refine de0 (zj zbD rfl rfl rfl rfl rfl ?_)
 refine gz1 ?_;refine zd (zm 9 rfl) ?_;refine gz7 ?_;refine uCo (fun h3=> ?_) fun h4=> ?_
 refine zcg ?_;exact ⟨k+1,y.Count,⟨by omega,by rw [hg,if_pos (by assumption)]⟩,uD,⟨rfl,rfl,trivial⟩,uK,Ac _⟩;refine gz7 ?_;exact ⟨k+1,n,⟨by omega,by rw [hg,if_neg (by assumption)]⟩,uD,⟨rfl,rfl,trivial⟩,uK,Ac _⟩;have hnk:x.Stats.length<=k:=by omega
 obtain rfl:k=x.Stats.length:=by omega
 rw [zz (Ae _)] at hg
 replace hg:zb3 r.Stat 0 x.Stats=n:=hg
 subst hg;refine gz2 ?_;refine zQ ?_;refine zjf ?_;refine uGr rfl (fun hc=>by have hq:=hc;(try simp at hq);exact uCl zgG rfl (zG uS)) ?_;refine gz4 ?_;refine uCo (fun h5=> ?_) fun h6=> ?_
 refine gz4 ?_;refine uRp ?_;rw [znb hr]
 focus first|(simp_all;done)|((repeat' split)<;>focus first|rfl|(exfalso;simp_all;done)|(exfalso;omega)|(simp_all;done))
 refine gz6 ?_;refine uCo (fun h7=> ?_) fun h8=> ?_
 refine gz9 ?_;refine dq (zP (h':= .agg [.int .i64 r.Num,.int .i64 r.Den]) (zav zaM rfl rfl (Ak rfl)) rfl) ?_;refine dq (uCl zvC rfl (zdC (n:=r.Num) (d:=r.Den) hrd uO)) ?_;refine dq (zbu rfl rfl (zfK (by first|omega|exact hcq) uO).1 (zfK (by first|omega|exact hcq) uO).2) ?_;refine gz3 ?_;refine uRp ?_;rw [znb hr]
 focus first|(simp_all;done)|((repeat' split)<;>focus first|rfl|(exfalso;simp_all;done)|(exfalso;omega)|(simp_all;done))
 refine zau ?_;refine uCo (fun h9=> ?_) fun h10=> ?_
 have hmm:=hr.mm uSa;have hcq:=zCW (m:=r.Many) hc1;refine gz4 ?_;refine dq (zbZ rfl rfl uO uO uO) ?_;refine gz7 ?_;refine dq (zP (h':= .agg [.int .i64 r.Num,.int .i64 r.Den]) (zav zaM rfl rfl (Ak rfl)) rfl) ?_;refine dq (uCl zvC rfl (zdC (n:=r.Num) (d:=r.Den) hrd uO)) ?_;refine dq (zbu rfl rfl (zfK (by first|omega|exact hcq) uO).1 (zfK (by first|omega|exact hcq) uO).2) ?_;refine gz3 ?_;refine uRp ?_;rw [znb hr]
 focus first|(simp_all;done)|((repeat' split)<;>focus first|rfl|(exfalso;simp_all;done)|(exfalso;omega)|(simp_all;done))
 refine gz21 ?_;refine uCo (fun h11=> ?_) fun h12=> ?_
 refine gz8 ?_;refine dq (zP (h':= .agg [.int .i64 r.Num,.int .i64 r.Den]) (zav zaM rfl rfl (Ak rfl)) rfl) ?_;refine dq (uCl zvC rfl (zdC (n:=r.Num) (d:=r.Den) hrd uO)) ?_;refine dq (zbu rfl rfl (zfK (by first|omega|exact hcq) uO).1 (zfK (by first|omega|exact hcq) uO).2) ?_;refine gz3 ?_;refine uRp ?_;rw [znb hr]
 focus first|(simp_all;done)|((repeat' split)<;>focus first|rfl|(exfalso;simp_all;done)|(exfalso;omega)|(simp_all;done))
 refine gz6 ?_;refine dq (zP (h':= .agg [.int .i64 r.Num,.int .i64 r.Den]) (zav zaM rfl rfl (Ak rfl)) rfl) ?_;refine dq (uCl zvC rfl (zdC (n:=r.Num) (d:=r.Den) hrd uO)) ?_;refine dq (zbu rfl rfl (zfK (by first|omega|exact hcq) uO).1 (zfK (by first|omega|exact hcq) uO).2) ?_;refine gz3 ?_;refine uRp ?_;rw [znb hr]
 focus first|(simp_all;done)|((repeat' split)<;>focus first|rfl|(exfalso;simp_all;done)|(exfalso;omega)|(simp_all;done))
theorem znD [Tracks] {R:List RuleS} {pos:List Str} {x:LineS} (hl:R.length<=100) (hrr: ∀r∈R,RuleOk r) (hb:zjq x) (hpos:pos.length<=1000000) (hs:x.Stats.length<=1000000):ConP prog 43 [zfv R,eSs pos,zaq x] (zkA (ofH (zeG R pos x))):=by
 refine zaQ func43 rfl ntmps43 rfl rfl ?_;refine gz2 ?_;refine de rfl (zg zaM rfl fun b6=> ?_)
 refine zcg ?_;refine uT1 [7,1,9,1,12,11] (fun k=>[(12,.int .i64 k),(7,.int .i64 (zeG (R.take k) pos x))]) (fun k=>[.cells b6 [.int .i64 0,.int .i64 0]]) (fun k=>k<=R.length/\(True)) (fun k=>R.length-k) (0) ?_ ?_;exact ⟨Ad _,trivial⟩;rintro k ⟨hk,-⟩;refine gz4 ?_;refine uCo (fun h1=> ?_) fun h2=> ?_
 obtain ⟨r,hr⟩: ∃r,R[k]? =some r:=⟨_,Aa h1⟩
 have hdr:=zi hr;have hp1:=zlt hl hrr hb pos k;have hp2:=zlt hl hrr hb pos (k+1);rw [zop hr] at hp2;refine gz7 ?_;refine de rfl (zg zfs rfl fun b9=> ?_)
 refine de0 (zj zfs rfl rfl rfl rfl rfl ?_)
 refine gz1 ?_;refine zd (zm 9 rfl) ?_;refine gz2 ?_;refine dq (zZ (h:=zl1 r) zfs rfl rfl rfl rfl) ?_;refine gz1 ?_;refine dq (zZ (h:=zaq x) zbg rfl rfl rfl rfl) ?_;refine dq (uCl zGD rfl (zoU (r:=r) (pos:=pos) (x:=x) (hrr r (Ab hr)) hb hpos hs)) ?_;refine gz9 ?_;exact ⟨k+1,⟨by omega,trivial⟩,uD,⟨rfl,by rw [zop hr];rfl,trivial⟩,uK,Ac _⟩;have hnk:R.length<=k:=by omega
 obtain rfl:k=R.length:=by omega
 have hbd:=zlt hl hrr hb pos R.length;rw [Am] at hbd⊢;refine gz2 ?_;refine zv ?_;refine gz4 ?_;refine dq (uCl zDp rfl (zj4 (n:=zeG R pos x) uO)) ?_;refine de0 (zj (h:=zkA (ofH (zeG R pos x))) zaM rfl rfl rfl rfl rfl ?_)
 refine gz2 ?_;exact ⟨_,_,zm 6 rfl,[_],_,⟨⟨_,_,_,_,_,rfl,zaM,.inr ⟨rfl,rfl,rfl⟩⟩,trivial⟩,Weak.refl _,rfl,rfl⟩
theorem zla [Tracks] {l:List ScorerS} (hl:l.length<=1000000) (hp: ∀x∈l,x.Positions.length<=1000000) (hb: ∀x∈l,(-1000000000000000<=x.Num/\x.Num<=1000000000000000)/\ -1000000000<=x.Den/\x.Den<=1000000000):ConP prog 44 [zcV l] (.int .i64 (zht l)):=by
 refine uOb func44 ntmps44 ?_;refine gz9 ?_;refine uCo (fun h1=> ?_) fun h2=> ?_
 refine gz4 ?_;refine uRp ?_
 focus first
 | (refine congrArg _ (zbn ?_)
    omega)
 | (refine congrArg _ (zba ?_ hg)
    omega)
 | (refine congrArg _ (zt (e:=5) ?_ hg ?_ ?_)
    omega
    unfold zaa;exact uT
    first|decide|assumption)
 | (refine congrArg _ (zt (e:=7) ?_ hg ?_ ?_)
    omega
    unfold zaa;exact uT
    first|decide|assumption)
 | (refine congrArg _ (zt (e:=(zci x.Positions)) ?_ hg ?_ ?_)
    omega
    unfold zaa;exact uT
    first|decide|assumption)
 | (refine congrArg _ (zt (e:=(za2 x.Num x.Den 10000)) ?_ hg ?_ ?_)
    omega
    unfold zaa;exact uT
    first|decide|assumption)
 refine zdf ?_;refine uT1 [2,2,5,3,13,27] (fun k=>[(13,.int .i64 k),(3,.str (zob ScorerS.Player zbH l k))]) (fun k=>[]) (fun k=>k<=l.length/\(za9 zaa zbH l 0 l=za9 zaa zbH l k (l.drop k))) (fun k=>l.length-k) (0) ?_ ?_;exact ⟨Ad _,rfl⟩;rintro k ⟨hk,hg⟩;refine gz4 ?_;refine uCo (fun h3=> ?_) fun h4=> ?_
 obtain ⟨x,hx⟩: ∃x,l[k]? =some x:=⟨_,Aa h3⟩
 have hdx:=zi hx;rw [hdx] at hg;refine gz7 ?_;refine de rfl (zg zcz rfl fun b5=> ?_)
 refine de0 (zj zcz rfl rfl rfl rfl rfl ?_)
 refine gz1 ?_;refine zd (zm 5 rfl) ?_;refine gz4 ?_;refine dq (uCl zhH rfl zbo) ?_;refine gz2 ?_;refine uCo (fun h5=> ?_) fun h6=> ?_
 refine gz4 ?_;refine uRp ?_
 focus first
 | (refine congrArg _ (zbn ?_)
    omega)
 | (refine congrArg _ (zba ?_ hg)
    omega)
 | (refine congrArg _ (zt (e:=5) ?_ hg ?_ ?_)
    omega
    unfold zaa;exact uT
    first|decide|assumption)
 | (refine congrArg _ (zt (e:=7) ?_ hg ?_ ?_)
    omega
    unfold zaa;exact uT
    first|decide|assumption)
 | (refine congrArg _ (zt (e:=(zci x.Positions)) ?_ hg ?_ ?_)
    omega
    unfold zaa;exact uT
    first|decide|assumption)
 | (refine congrArg _ (zt (e:=(za2 x.Num x.Den 10000)) ?_ hg ?_ ?_)
    omega
    unfold zaa;exact uT
    first|decide|assumption)
 refine gz3 ?_;have hkx:key x.Player=true:=by simp_all
 have hll:=ztN (f:=ScorerS.Player) (d:=zbH) (l:=l) (k:=k) (x:=x) hkx;refine gz6 ?_;refine uCo (fun h7=> ?_) fun h8=> ?_
 refine gz4 ?_;refine uRp ?_
 focus first
 | (refine congrArg _ (zbn ?_)
    omega)
 | (refine congrArg _ (zba ?_ hg)
    omega)
 | (refine congrArg _ (zt (e:=5) ?_ hg ?_ ?_)
    omega
    unfold zaa;exact uT
    first|decide|assumption)
 | (refine congrArg _ (zt (e:=7) ?_ hg ?_ ?_)
    omega
    unfold zaa;exact uT
    first|decide|assumption)
 | (refine congrArg _ (zt (e:=(zci x.Positions)) ?_ hg ?_ ?_)
    omega
    unfold zaa;exact uT
    first|decide|assumption)
 | (refine congrArg _ (zt (e:=(za2 x.Num x.Den 10000)) ?_ hg ?_ ?_)
    omega
    unfold zaa;exact uT
    first|decide|assumption)
 refine gz6 ?_;refine dq (uCl zy7 rfl (zft (hp x (Ab hx)))) ?_;refine gz6 ?_;refine uCo (fun h9=> ?_) fun h10=> ?_
 have hpe:orI [zci x.Positions,za2 x.Num x.Den 10000]=zci x.Positions:=by rw [zdx];simp_all
 refine gz5 ?_;refine uRp ?_
 focus first
 | (refine congrArg _ (zbn ?_)
    omega)
 | (refine congrArg _ (zba ?_ hg)
    omega)
 | (refine congrArg _ (zt (e:=5) ?_ hg ?_ ?_)
    omega
    unfold zaa;exact uT
    first|decide|assumption)
 | (refine congrArg _ (zt (e:=7) ?_ hg ?_ ?_)
    omega
    unfold zaa;exact uT
    first|decide|assumption)
 | (refine congrArg _ (zt (e:=(zci x.Positions)) ?_ hg ?_ ?_)
    omega
    unfold zaa;exact uT
    first|decide|assumption)
 | (refine congrArg _ (zt (e:=(za2 x.Num x.Den 10000)) ?_ hg ?_ ?_)
    omega
    unfold zaa;exact uT
    first|decide|assumption)
 refine gz5 ?_;refine dq (zP (h':= .agg [.int .i64 x.Num,.int .i64 x.Den]) (zav zaM rfl rfl (Ak rfl)) rfl) ?_;refine dq (uCl zvz rfl (zkt (n:=x.Num) (d:=x.Den) (most:=10000) (hb x (Ab hx)).1 (hb x (Ab hx)).2 uO)) ?_;refine gz6 ?_;refine uCo (fun h11=> ?_) fun h12=> ?_
 have hpe:orI [zci x.Positions,za2 x.Num x.Den 10000]=za2 x.Num x.Den 10000:=by rw [zdx];simp_all
 refine gz5 ?_;refine uRp ?_
 focus first
 | (refine congrArg _ (zbn ?_)
    omega)
 | (refine congrArg _ (zba ?_ hg)
    omega)
 | (refine congrArg _ (zt (e:=5) ?_ hg ?_ ?_)
    omega
    unfold zaa;exact uT
    first|decide|assumption)
 | (refine congrArg _ (zt (e:=7) ?_ hg ?_ ?_)
    omega
    unfold zaa;exact uT
    first|decide|assumption)
 | (refine congrArg _ (zt (e:=(zci x.Positions)) ?_ hg ?_ ?_)
    omega
    unfold zaa;exact uT
    first|decide|assumption)
 | (refine congrArg _ (zt (e:=(za2 x.Num x.Den 10000)) ?_ hg ?_ ?_)
    omega
    unfold zaa;exact uT
    first|decide|assumption)
 refine gz2 ?_;have hpe:orI [zci x.Positions,za2 x.Num x.Den 10000]=0:=by rw [zdx];simp_all
 refine zcg ?_;exact ⟨k+1,⟨by omega,by rw [hg,za6 (by unfold zaa;(try clear hdx hg);(try simp only [Ag]);focus first|(simp_all;done)|((repeat' split)<;>focus first|rfl|(exfalso;omega)|(simp_all;done)|(exfalso;rcases ‹_\/_› with q|q<;>simp_all;done)|(exfalso;simp_all;omega)))]⟩,uD,⟨rfl,congrArg (fun q=>some (HVal.str q)) (zpU hx).symm,trivial⟩,uK,Ac _⟩;have hnk:l.length<=k:=by omega
 obtain rfl:k=l.length:=by omega
 rw [zz (Ae _)] at hg;refine gz2 ?_;refine zv ?_;refine gz6 ?_;refine uRp ?_
 focus first
 | (refine congrArg _ (zbn ?_)
    omega)
 | (refine congrArg _ (zba ?_ hg)
    omega)
 | (refine congrArg _ (zt (e:=5) ?_ hg ?_ ?_)
    omega
    unfold zaa;exact uT
    first|decide|assumption)
 | (refine congrArg _ (zt (e:=7) ?_ hg ?_ ?_)
    omega
    unfold zaa;exact uT
    first|decide|assumption)
 | (refine congrArg _ (zt (e:=(zci x.Positions)) ?_ hg ?_ ?_)
    omega
    unfold zaa;exact uT
    first|decide|assumption)
 | (refine congrArg _ (zt (e:=(za2 x.Num x.Den 10000)) ?_ hg ?_ ?_)
    omega
    unfold zaa;exact uT
    first|decide|assumption)
theorem zmw [Tracks] {x:ScorerS} {s:Str}:ConP prog 107 [zbm x,.vptr [.str s] 0] (.bool (x.Player==s)):=by
 refine uOb func107 ntmps107 ?_;refine zdf ?_;refine zu rfl ?_
 rfl
theorem znF [Tracks] {l:List ScorerS} {s:Str} (hl:l.length<=1000000):ConP prog 47 [zcV l,.str s] (.int .i64 (zS (fun x:ScorerS=>x.Player==s) l 0)):=by
 refine uOb func47 ntmps47 ?_;refine gz7 ?_;refine dq (uCl zDq rfl (zdd (l:=l) (p:=fun x=>x.Player==s) zGF (fun _=>zmw) hl)) ?_;refine gz3 ?_;refine zu rfl ?_
 rfl
theorem zgv [Tracks] {l:List MendS} {fid:FuncId} {caps:List HVal} {p:MendS->Bool} {v:Value} (hca:Callable prog fid) (hp: ∀x,ConP prog fid ([zbc x]++caps) (.bool (p x))) (hl:l.length<=1000000):Con prog 36 [.raw v,.fn (.func fid) [] caps] [.arr v 7 (l.map zbc)] (fun x M'=> ∃u,x= .raw u/\M'=[.arr u 7 ((l.filter (fun x=> !p x)).map zbc)]):=by
 refine uOb func36 ntmps36 ?_;refine gz6 ?_;refine de rfl (ze1 (hs':=[.slice 7 (l.map zbc),.fn (.func fid) [] caps]) ca93 rfl ⟨.arr (i:=0) rfl,.weak (Weak.refl _),trivial⟩ (zgD (p:=p) hca hp hl) rfl ?_)
 refine gz7 ?_;refine uCo (fun h1=> ?_) fun h2=> ?_
 ·refine gz5 ?_
  (refine zaf rfl ⟨_,rfl,?_⟩
   rw [zir p l 0 uO h1]
   done)
 ·refine gz3 ?_;obtain ⟨i0,hi0,hil,⟨x0,hx0,hp0⟩,hb0⟩:=ze6 p l 0 uO h2;rw [Ck] at hi0;obtain ⟨hD0,hn0⟩:=DelInv.start (p:=p) hil hx0 hp0 hb0;refine zc3 (i:=0) rfl (fun h0 he=> ?_) (fun b off cap hv hcap=> ?_)
  ·exfalso;have:=congrArg List.length he;simp at this;subst this;simp at hil
  rw [Af] at hv hcap;subst hv;refine gz2 ?_;refine dq (zP (zbt rfl rfl (by rw [hi0];omega) (by rw [hi0];omega)) (congrArg _ (by rw [hi0]))) ?_;refine gz3 ?_;refine uV2 [5,3,16,20] (fun (j:Nat) (D:List MendS)=>[(6,.int .i64 (j:Int)),(5,.int .i64 (((l.take j).filter (fun x=> !p x)).length:Int))]) (fun (j:Nat) (D:List MendS)=>[.arr (.slice (some ⟨b,off,none⟩) l.length cap) 7 (D.map zbc)]) (fun (j:Nat) (D:List MendS)=>DelInv p l j D) (fun (j:Nat) (D:List MendS)=>l.length-j) (i0+1) (l) ?_ ?_ ?_ ?_
  ·exact hD0
  ·exact ⟨rfl,zU (by rw [hn0,hi0]),trivial⟩
  ·exact Ac _
  ·intro j D hD
   have hlt0:=hD.lt;have hle0:=hD.len;refine gz4 ?_;refine de rfl (zbq (i:=0) zeg rfl rfl ?_)
   refine gz2 ?_;refine uCo (fun h3=> ?_) fun h4=> ?_
   ·obtain ⟨x,hx⟩: ∃x,l[j]? =some x:=⟨_,Aa uO⟩
    refine gz7 ?_;refine dq (zM (j:=j) zeg zaY rfl rfl rfl uO) ?_;refine de rfl (zas (i:=0) (j:=j) zaY rfl rfl rfl (hD.get hx) rfl rfl rfl ?_)
    refine de rfl (zg zaY rfl fun b7=> ?_)
    refine de0 (zj zaY rfl rfl rfl rfl rfl ?_)
    refine gz1 ?_;refine zd (zm 7 rfl) ?_;refine gz3 ?_;refine dq (zag hca rfl rfl (WeakL.refl _) (hp _)) ?_;refine gz2 ?_;refine uCo (fun h5=> ?_) fun h6=> ?_
    ·refine gz4 ?_;refine dq (zM (j:=((l.take j).filter (fun x=> !p x)).length) zeg zaY rfl rfl rfl (by have:=hD.lt;omega)) ?_;refine de0 (zby (i:=0) (j:=((l.take j).filter (fun x=> !p x)).length) (y:=D[((l.take j).filter (fun x=> !p x)).length]'(by have:=hD.lt;have:=hD.len;omega)) (y':=x) zaY rfl rfl rfl rfl (Aa _) rfl rfl rfl ?_)
     refine gz3 ?_;refine dq (zbt rfl rfl uO (by have:=hD.lt;omega)) ?_;refine gz9 ?_;exact ⟨j+1,_,(hD.keep hx uSa).1,uD,⟨rfl,zU (by rw [(hD.keep hx uSa).2];rfl),trivial⟩,uK,Ac _⟩
    ·refine gz8 ?_;exact ⟨j+1,_,(hD.skip hx uSa).1,uD,⟨rfl,zU (by rw [(hD.skip hx uSa).2]),trivial⟩,uK,Ac _⟩
   ·obtain rfl:j=l.length:=by have:=hD.jle;omega
    have hend:=hD.done;refine gz2 ?_;refine zQ ?_;refine gz5 ?_;refine dq (zfa (l:=((l.take l.length).filter (fun x=> !p x)).length) zeg zaY rfl ⟨_,_,rfl,rfl⟩ rfl uO uO hcap) ?_;refine de0 (zeu (i:=0) (m:=((l.take l.length).filter (fun x=> !p x)).length) (((l.take l.length).filter (fun x=> !p x)).length) zeg zaY rfl rfl rfl (zh5 uO hcap) rfl uO (Ae _) (by rw [Af,hD.len];omega) ?_)
    refine gz4 ?_;refine dq (zfU (h:=((l.take l.length).filter (fun x=> !p x)).length) zeg zaY rfl ⟨_,_,rfl,rfl⟩ uO) ?_;refine gz3 ?_
    (refine zaf rfl ⟨_,rfl,?_⟩
     rw [Am,<-BR,hend];rfl)
theorem zmm [Tracks] {l:List LineS} {m:List MendS} {n:Int} (hl:l.length<=15) (hs: ∀x∈l,x.Stats.length<=15) (hm:m.length<=24) (h0:zap l=0):ConP prog 95 [zbJ l,zcq m,.int .i64 n] (.tup [zbJ (mdL l m n),.int .i64 0]):=by
 refine uOb func95 ntmps95 ?_;refine gz6 ?_;refine de rfl (uCa zHq rfl (zhU (l:=l) uO) fun v12=> ?_)
 refine gz9 ?_;refine uV2 [8,1,10,1,15,19] (fun (k:Nat) (u:Value)=>[(15,.int .i64 k),(8,.raw u)]) (fun (k:Nat) (u:Value)=>[.arr u 3 ((zec l (m.take k) n).map zaq)]) (fun (k:Nat) (u:Value)=>k<=m.length/\(True)) (fun (k:Nat) (u:Value)=>m.length-k) (0) (v12) ?_ ?_ ?_ ?_;exact ⟨Ad _,trivial⟩;exact ⟨rfl,rfl,trivial⟩;exact zl rfl
 intro k u hinv
 obtain ⟨hk,-⟩:=hinv;have hrl:=zC4 (m.take k) n l;have hrs:=zAa (m.take k) n l hs;rw [Az] at hrl hrs;refine gz4 ?_;refine uCo (fun h1=> ?_) fun h2=> ?_
 obtain ⟨x,hx⟩: ∃x,m[k]? =some x:=⟨_,Aa h1⟩
 have hdx:=zi hx;refine gz7 ?_;refine de rfl (zg zaY rfl fun b10=> ?_)
 refine de0 (zj zaY rfl rfl rfl rfl rfl ?_)
 refine gz1 ?_;refine zd (zm 10 rfl) ?_;refine gz1 ?_;refine dq ((by first|exact zk zaY rfl ty3 (by decide) rfl|exact zf zaY rfl ty3 (by decide) rfl)) ?_;refine gz4 ?_;refine uCo (fun h3=> ?_) fun h4=> ?_
 refine gz2 ?_;refine dq ((by first|exact zk zaY rfl ty9 (by decide) rfl|exact zf zaY rfl ty9 (by decide) rfl)) ?_;refine gz1 ?_;refine dq ((by first|exact zk zaY rfl ty3 (by decide) rfl|exact zf zaY rfl ty3 (by decide) rfl)) ?_;refine gz1 ?_;refine dq ((by first|exact zk zaY rfl ty9 (by decide) rfl|exact zf zaY rfl ty9 (by decide) rfl)) ?_;refine gz1 ?_;refine dq ((by first|exact zk zaY rfl ty3 (by decide) rfl|exact zf zaY rfl ty3 (by decide) rfl)) ?_;refine gz1 ?_;refine de rfl (uCx 0 zHr rfl rfl (zr4 (l:=zec l (m.take k) n) uO (fun y hy=>by have:=hrs y hy;omega)) ?_)
 rintro _ _ ⟨u32,rfl,rfl⟩;refine gz8 ?_;exact ⟨k+1,u32,⟨by omega,trivial⟩,uD,⟨rfl,rfl,trivial⟩,uK,zl (by dsimp only;rw [zuY hx,zeH,if_pos (by assumption)];rfl)⟩;refine gz7 ?_;exact ⟨k+1,u,⟨by omega,trivial⟩,uD,⟨rfl,rfl,trivial⟩,uK,zl (by dsimp only;rw [zuY hx,zeH,if_neg uO])⟩;have hnk:m.length<=k:=by omega
 obtain rfl:k=m.length:=by omega
 rw [Am] at hrl hrs⊢;refine gz2 ?_;refine zQ ?_;refine gz5 ?_;refine de rfl (zbq (i:=0) (es:=zec l m n) zeT rfl rfl ?_)
 refine gz3 ?_;refine dgx (fun x M'=>x= .bool ((zec l m n).any fun x=>decide (40<x.Stats.length))/\M'=[.arr u 3 ((zec l m n).map zaq)]) rfl rfl (fun hc=>⟨_,rfl,rfl⟩) (fun hc=>⟨_,OpenTo.upd (t:=38) rfl uC (OpenTo.refl _),ze1 (hs':=[zbJ (zec l m n),.fn (.func 193) [] []]) zHs rfl ⟨.arr (i:=0) rfl,.weak (Weak.refl _),trivial⟩ (zf2 (l:=zec l m n) (p:=fun x=>decide (40<x.Stats.length)) zHt (fun _=>zml) uO) rfl ⟨rfl,rfl⟩⟩) ?_;rintro _ _ ⟨rfl,rfl⟩;refine gz2 ?_;refine zam rfl (fun h5=> ?_) (fun h5=> ?_)
 exfalso
 try simp at h5
 rcases h5 with q|⟨y,hy,q⟩
 omega
 have:=hrs y hy;omega
 try simp at h5
 refine gz4 ?_;refine de rfl (uCx 0 zDH rfl rfl (zq0 (c:=zco) (zkZ zfM) ca49 (fun _ _=> @zjH zgj _ _) (l:=zec l m n) uO) ?_)
 rintro _ _ ⟨l',rfl,hp',hw',rfl⟩;obtain rfl:=zBA h0 hp' hw';refine gz7 ?_;exact zxh (M:=[]) 6 rfl rfl rfl
theorem zqI [Tracks] {l:List Play} {trust:List Str} {m:List MendS} {week n:Int} (hp0:zb7 l=0) (ht0:zcB trust=0) (hl:l.length<=15) (ht:trust.length<=1000000) (hm:m.length<=24) (hw0:zar week=true) (hmm:zbY m=0):ConP prog 39 [zbK l,eSs trust,zcq m,.int .i64 week,.int .i64 n] (.tup [zbJ (knL l trust m week n),.int .i64 (zf7 l trust week n)]):=by
 have hok:=zei hp0;obtain ⟨hr1,hr2⟩:=zA6 (trust:=trust) (week:=week) (n:=n) hok;obtain ⟨hsl,hsn⟩:=zgP (t:=trust) (week:=week) (n:=n) hok hl;refine uOb func39 ntmps39 ?_;refine gz9 ?_;refine dq (uCl ca94 rfl (zoR hp0 ht)) ?_;refine gz6 ?_;simp only [hr1,hr2];refine gz5 ?_;refine uCo (fun h1=> ?_) fun h2=> ?_
 refine gz6 ?_
 (refine zbV rfl (zbM ?_ (Weak.refl _))
  rw [knL,if_pos (by simpa using h1)];exact zD 3)
 refine gz6 ?_;refine dq (uCl ca95 rfl (zmm (l:=zdN l trust week n) (m:=m) (n:=n) uO (fun x hx=>(hsn x hx).1) hm (zjv hok hl hw0 h2))) ?_;refine gz6 ?_
 (refine zu rfl ?_
  have hz:zf7 l trust week n=0:=by simpa using h2
  rw [knL,if_neg (by simpa using h2),hz])
theorem zlF [Tracks] {x:MendS} {w:Int}:ConP prog 38 [zbc x,.vptr [.int .i64 w] 0] (.bool (!(x.Week==w))):=by
 refine uOb func38 ntmps38 ?_;refine zdf ?_;refine zu rfl ?_
 rfl
theorem zie [Tracks] {b:BookS} {n w:Int} (hb:BookC b) (hX:BookX b) (hwk:zar w=true) (hnm:zN n=true):ConP prog 12 [zaP b,.int .i64 w,.int .i64 n] (.tup [zbJ (wlL b w n),.int .i64 (wlE b w n)]):=by
 have hla:=hb.bb.lea;have hmd:=hb.l3;have hpl:=hb.l2;have hol:=zgT b.Mends w;have hom:=zit (week:=w) hX.me;refine uOb func12 ntmps12 ?_;refine gz8 ?_;refine dq (zO (h:=zcq b.Mends) zeg rfl rfl rfl) ?_;refine de rfl (uCa ca37 rfl (zhV (l:=b.Mends) uO) fun v11=> ?_)
 refine gz1 ?_;refine de rfl (uCx 0 ca36 rfl rfl (zgv (l:=b.Mends) (p:=fun x=> !(x.Week==w)) ca38 (fun x=>zlF) uO) ?_)
 rintro _ _ ⟨u13,rfl,rfl⟩;refine gz2 ?_;refine zd (zbv (M':=[.arr u13 7 ((zdP b.Mends w).map zbc)]) (by rw [<-zzU];rfl)) ?_;refine zd (zay 8 (i:=0) rfl rfl) ?_;refine gz2 ?_;refine dq (zO (h:=zbK b.Plays) zh7 rfl rfl rfl) ?_;refine gz2 ?_;refine dq (zO (h:=eSs b.League.Trust) zo rfl rfl rfl) ?_;refine gz3 ?_;refine dq (uCl ca39 rfl (zqI (l:=b.Plays) (trust:=b.League.Trust) (m:=zdP b.Mends w) (week:=w) (n:=n) hX.pl hX.tr hpl hla.tr uO hwk hom)) ?_;refine gz6 ?_;exact zA Ghost.clear rfl ⟨rfl,rfl⟩
theorem zic [Tracks] {b:BookS} {n w:Int} {t:Str} (hb:BookC b) (hX:BookX b) (hwk:zar w=true) (hnm:zN n=true) (ht:t≠[]):ConP prog 13 [zaP b,.str t,.int .i64 w,.int .i64 n] (.tup [zcV (zfb b t w n),.int .i64 (wlE b w n)]):=by
 have hla:=hb.bb.lea;have hok:=zei hX.pl;have hpl:=hb.l2;have hmd:=hb.l3;have hom:=zit (week:=w) hX.me;have hol:=zgT b.Mends w;have h40:=zof (l:=b.Plays) (t:=b.League.Trust) (m:=zdP b.Mends w) (week:=w) (n:=n) hok hpl uO;obtain ⟨hsl,hsn⟩:=zgP (t:=b.League.Trust) (week:=w) (n:=n) hok hpl;obtain ⟨hk1,hk2,hk3⟩:=zlp (t:=b.League.Trust) (m:=zdP b.Mends w) (week:=w) (n:=n) hok hpl uO hwk hom;have hwl:(wlL b w n).length<=40:=hk2;obtain ⟨hbm,hb0,hb1,hb2,hb3⟩:=zuh hX hwk;have hW:=hX.w;have hwr:1<=w/\w<=60:=by unfold zar out at hwk;simp at hwk;omega
 have hok2:=zkV (b:=b.League.Bounds) (n:=zaH b.League w) hW.f.mo;have hown:(zdj b t w).length<=1000000:=by
  have q:=(hok2.p t).2
  show (rPl (zdY b.League.Bounds b.Moves (zaH b.League w)) t).length<=1000000
  omega
 have hap:=zxQ hk1 (zEW (week:=w) (n:=n) (m:=b.Mends) (t:=b.League.Trust) hok hpl);obtain ⟨hr1,hr2⟩:=zxj hX.ru;refine uOb func13 ntmps13 ?_;refine gz6 ?_;refine dq (zZ (h:=zaP b) zdr rfl rfl rfl rfl) ?_;refine gz2 ?_;refine dq (uCl ca12 rfl (zie (b:=b) (n:=n) (w:=w) hb hX hwk hnm)) ?_;refine zcg ?_;refine uCo (fun h1=> ?_) fun h2=> ?_
 refine gz6 ?_;exact zbV rfl (zbM (by rw [zfb,if_pos (by simpa using h1)];exact zD 5) (Weak.refl _));refine gz2 ?_;have hz:wlE b w n=0:=by simpa using h2
 refine gz2 ?_;refine dq (zP (h':=zcj b.League) (zav zbE rfl rfl (Ak rfl)) rfl) ?_;refine de rfl (zg zbE rfl fun b12=> ?_)
 refine de0 (zj zbE rfl rfl rfl rfl rfl ?_)
 refine gz1 ?_;refine zd (zm 12 rfl) ?_;refine gz3 ?_;refine zd (zJ 5) ?_;refine gz1 ?_;refine uDr mixed ?_;refine gz1 ?_;refine uB 1 rfl (zP (h':=zet b.League.Bounds) (zav zkf rfl rfl (Ak rfl)) rfl) ?_;refine gz1 ?_;refine uB 3 rfl (zO (h:=zcA b.Moves) zda rfl rfl rfl) ?_;refine gz1 ?_;refine uB 5 rfl (zZ (h:=zcj b.League) zbE rfl rfl rfl rfl) ?_;refine gz1 ?_;refine uB 7 rfl (uCl ca41 rfl (zjG (g:=b.League) (w:=w) hla.sta uO)) ?_;refine uB 8 rfl (uCl ca40 rfl (znE (b:=b.League.Bounds) (l:=b.Moves) (t:=t) (n:=zaH b.League w) hW.f.mo ht)) ?_;refine uB 9 rfl (zuR zdZ rfl zo rfl rfl rfl) ?_;refine uB 10 rfl (zaE (f:=HVal.str) (l:=(zdj b t w)) zo rfl) ?_;refine gz3 ?_;refine uV2 [13,1,15,3,19,1,43,43] (fun (k:Nat) (u:Value)=>[(43,.int .i64 k),(13,.raw u)]) (fun (k:Nat) (u:Value)=>[.arr u 5 ((zjl b.League (wlL b w n) ((zdj b t w).take k)).map zbm)]) (fun (k:Nat) (u:Value)=>k<=(zdj b t w).length/\(True)) (fun (k:Nat) (u:Value)=>(zdj b t w).length-k) (0) (.slice none 0 0) ?_ ?_ ?_ ?_;exact ⟨Ad _,trivial⟩;exact ⟨rfl,rfl,trivial⟩;exact zl rfl
 intro k u hinv
 obtain ⟨hk,-⟩:=hinv;refine gz4 ?_;refine uCo (fun h3=> ?_) fun h4=> ?_
 obtain ⟨s,hs⟩: ∃s,(zdj b t w)[k]? =some s:=⟨_,Aa h3⟩
 have hds:=zi hs;refine gz5 ?_;refine dq (zB zo ty9 rfl rfl rfl (by assumption)) ?_;refine dq (zO (h:= .str s) ty9 rfl rfl rfl) ?_;refine gz4 ?_;refine dq (zO (h:=zbp b.League.Players) zke rfl rfl rfl) ?_;refine gz1 ?_;refine dq (uCl zwg rfl (zdc (l:=b.League.Players) (s:=s) hla.pl)) ?_;refine gz7 ?_;refine uCo (fun h5=> ?_) fun h6=> ?_
 refine gz8 ?_;exact ⟨k+1,u,⟨by omega,trivial⟩,uD,⟨rfl,rfl,trivial⟩,uK,zl (by dsimp only;rw [zly hs,zsX (zpN uO)];simp)⟩;refine gz2 ?_;obtain ⟨i0,p,e1,hip,hp⟩:=zpM (p:=fun x:PlayerS=>x.Key==s) (l:=b.League.Players) (by assumption);have hpm:=Ab hip;rw [e1];refine gz3 ?_;refine dq (zO (h:=zbp b.League.Players) zke rfl rfl rfl) ?_;refine gz1 ?_;refine dq (zB (f:=zeU) (l:=b.League.Players) (j:=i0) (a:=p) zke zhi rfl rfl rfl hip) ?_;refine gz1 ?_;refine dq (zO (h:=eSs p.Positions) zo rfl rfl rfl) ?_;refine dq (zC (cs:=[_,_]) zaM zls rfl) ?_;refine dq (zC (cs:=[_,_,_,_,_]) zcz zCL rfl) ?_;refine de rfl (zg zcz rfl fun b17=> ?_)
 refine de0 (uY 0 ?_)
 refine gz4 ?_;refine dq (zaE (f:=zaq) (l:=(wlL b w n)) zeT rfl) ?_;refine gz3 ?_;refine uV2 [19,1,64,17] (fun (j:Nat) (q:ScorerS)=>[(64,.int .i64 j)]) (fun (j:Nat) (q:ScorerS)=>[.cells b17 (zb (zbm q)),.arr u 5 ((zjl b.League (wlL b w n) ((zdj b t w).take k)).map zbm)]) (fun (j:Nat) (q:ScorerS)=>j<=(wlL b w n).length/\((zot b.League ⟨s,p.Positions,0,1,false⟩ (wlL b w n)=zot b.League q ((wlL b w n).drop j))/\q.Player=s/\q.Positions=p.Positions)) (fun (j:Nat) (q:ScorerS)=>(wlL b w n).length-j) (0) (⟨s,p.Positions,0,1,false⟩) ?_ ?_ ?_ ?_;exact ⟨Ad _,rfl,rfl,rfl⟩;exact ⟨rfl,trivial⟩;exact zl rfl
 intro j q hinv
 obtain ⟨hj,hq0,hq1,hq2⟩:=hinv;refine gz4 ?_;refine uCo (fun h7=> ?_) fun h8=> ?_
 obtain ⟨y,hy⟩: ∃y,(wlL b w n)[j]? =some y:=⟨_,Aa h7⟩
 have hdy:=zi hy;rw [zi hy,zot] at hq0;refine gz5 ?_;refine dq (zB zeT zbg rfl rfl rfl (by assumption)) ?_;refine gz1 ?_;refine de rfl (zg zbg rfl fun b19=> ?_)
 refine de0 (zj zbg rfl rfl rfl rfl rfl ?_)
 refine gz1 ?_;refine zd (zm 19 rfl) ?_;refine gz6 ?_;refine uCo (fun h9=> ?_) fun h10=> ?_
 refine gz2 ?_;refine dq (zO (h:=zfv b.League.Rules) zrP rfl rfl rfl) ?_;refine gz1 ?_;refine de rfl (uZ 0 ?_)
 refine dq (zZ (h:=zaq y) zbg rfl rfl rfl rfl) ?_;refine dq (uCl ca43 rfl (znD (R:=b.League.Rules) (pos:=q.Positions) (x:=y) hr1 hr2 (zqA hk1 (Ab hy)).sb (by rw [hq2];exact hla.po p hpm) (by have:=(zqA hk1 (Ab hy)).len;omega))) ?_;refine gz1 ?_;refine de0 (uY 0 ?_)
 refine gz1 ?_;refine de0 (uY 0 ?_)
 refine gz7 ?_;exact ⟨j+1,⟨q.Player,q.Positions,(ofH (zeG b.League.Rules q.Positions y)).Num,(ofH (zeG b.League.Rules q.Positions y)).Den,true⟩,⟨by omega,hq0.trans (by rw [if_pos (by rw [hq1];assumption)]),hq1,hq2⟩,uD,⟨rfl,trivial⟩,uK,zl rfl⟩;refine gz7 ?_;exact ⟨j+1,q,⟨by omega,hq0.trans (by rw [if_neg (by rw [hq1];assumption)]),hq1,hq2⟩,uD,⟨rfl,trivial⟩,uK,zl rfl⟩;have hnj:(wlL b w n).length<=j:=by omega
 obtain rfl:j=(wlL b w n).length:=by omega
 rw [zz (Ae _)] at hq0;rw [zot] at hq0;refine gz2 ?_;refine zQ ?_;refine gz2 ?_;obtain ⟨sc,hsc⟩:=zBD (L:=(wlL b w n)) hp;have hq9:=zxo hp hap;rw [hq0,hsc] at hq9;obtain rfl:=As hq9;refine zd (zaN 17 (i:=0) rfl rfl) ?_;refine gz2 ?_;refine dq (zZ (h:=zbm q) zcz rfl rfl rfl rfl) ?_;refine dq (za (hs:=[_]) zlA zcz rfl rfl (by decide) (by decide) rfl) ?_;refine de rfl (zH (i:=0) zlA zcz rfl rfl rfl rfl rfl (by simp [zan,zb]) (by have:=zkW b.League (wlL b w n) ((zdj b t w).take k);simp only [Af,Ah,Ar,Az] at*;omega) fun v84=> ?_)
 refine gz8 ?_;exact ⟨k+1,v84,⟨by omega,trivial⟩,uD,⟨rfl,rfl,trivial⟩,uK,zl (by dsimp only;rw [zly hs,hsc];simp)⟩;have hnk:(zdj b t w).length<=k:=by omega
 obtain rfl:k=(zdj b t w).length:=by omega
 rw [Am];refine gz2 ?_;refine zQ ?_;refine gz8 ?_
 (refine zA (zay 8 (i:=0) rfl rfl) rfl ⟨?_,rfl⟩
  rw [zfb,if_neg (fun q=>q hz),hz]
  rfl)
end
section
open Go.Proofs.Tryz
open Go.HL
theorem zrr [Tracks] {x:ScorerS} {s:Str}:ConP prog 181 [zbm x,.vptr [.str s] 0] (.bool (x.Player==s)):=by
 refine uOb func181 ntmps181 ?_;refine zdf ?_;refine zu rfl ?_
 rfl
theorem zto [Tracks] {S:List SlotS} {l:List ScorerS} {c:Option ChoiceS} (hS:S.length<=1000000) (hsp: ∀x∈S,x.Positions.length<=1000000) (hl:l.length<=1000000) (hlp: ∀x∈l,x.Positions.length<=1000000) (hcl: ∀c0,c=some c0->c0.Players.length=S.length):ConP prog 90 [zgH S,zcV l,pCh c] (zf6 (zae l c S S.length)):=by
 refine uOb func90 ntmps90 ?_;refine gz6 ?_;refine zd (zJ 2) ?_;refine gz1 ?_;refine de rfl (zax fun m14=> ?_)
 refine gz9 ?_;refine uV2 [7,1,9,5,17,47] (fun (k:Nat) (u:Value)=>[(17,.int .i64 k),(7,.raw u)]) (fun (k:Nat) (u:Value)=>[.arr u 2 ((zae l c S k).map zaw),.map m14 (sk (zbd (zb5 l c S k).2))]) (fun (k:Nat) (u:Value)=>k<=S.length/\(True)) (fun (k:Nat) (u:Value)=>S.length-k) (0) (.slice none 0 0) ?_ ?_ ?_ ?_;exact ⟨Ad _,trivial⟩;exact ⟨rfl,rfl,trivial⟩;exact uP
 intro k u hinv
 obtain ⟨hk,-⟩:=hinv;refine gz4 ?_;refine uCo (fun h1=> ?_) fun h2=> ?_
 obtain ⟨x,hx⟩: ∃x,S[k]? =some x:=⟨_,Aa h1⟩
 have hdx:=zi hx;have hx0:=hx;have hxl:=zn hx;have hsk:S.getD k zfr=x:=by rw [Ag,hx];rfl
 refine gz8 ?_;refine de rfl (zg zcf rfl fun b10=> ?_)
 refine gz1 ?_;refine de0 (zj zcf rfl rfl rfl rfl rfl ?_)
 refine gz1 ?_;refine zd (zm 10 rfl) ?_;refine gz1 ?_;refine dq ((by first|exact zk zcf rfl ty9 (by decide) rfl|exact zf zcf rfl ty9 (by decide) rfl)) ?_;refine gz1 ?_;refine dq (zC (cs:=[_,_]) zgq pl74 rfl) ?_;refine de rfl (zg zgq rfl fun b11=> ?_)
 focus first
 |refine de0 (uY 0 ?_)
 |refine de0 (uY 1 ?_)
 |refine de0 (uY 2 ?_)
 |refine de0 (uY 3 ?_)
 refine gz4 ?_;refine dq (zyD (o:=c.map fun c=>zb (zX c)) zkL rfl rfl) ?_;refine gz1 ?_;refine uCo (fun h3=> ?_) fun h4=> ?_
 obtain ⟨c0,hc0⟩: ∃c0,c=some c0:=by
  cases c with
  |none=>simp_all
  |some c0=>exact ⟨c0,rfl⟩
 subst hc0;have hcn:=hcl c0 rfl;refine gz2 ?_;refine dq ((by first|exact zL rfl|exact zx rfl)) ?_;refine dq ((by first|exact zk za8 rfl zo (by decide) rfl|exact zf za8 rfl zo (by decide) rfl)) ?_;refine dq (zO (h:=eSs c0.Players) zo rfl rfl rfl) ?_;refine gz1 ?_;refine dq (zB (f:=HVal.str) (l:=c0.Players) (j:=k) (a:=zcN c0 k) zo ty9 rfl rfl rfl (getD_some uO)) ?_;refine gz1 ?_;refine de rfl (zg ty9 rfl fun b12=> ?_)
 refine de0 (zj ty9 rfl rfl rfl rfl rfl ?_)
 refine gz1 ?_;refine zd (zm 12 rfl) ?_;refine gz3 ?_;refine dq (uCl zDq rfl (zdd (l:=l) (p:=fun x=>x.Player==zcN c0 k) zHk (fun _=>zrr) hl)) ?_;refine gz2 ?_;obtain ⟨z,i0,hz1,hz2,hz3⟩:=zwB l (zcN c0 k);rw [hz1];refine zbF (fun M=>M=[.cells b11 [.str x.Key,.str []],.arr u 2 ((zae l (some c0) S k).map zaw),.map m14 (sk (zbd (zb5 l (some c0) S k).2))]) [5] mixed ?_;refine gz5 ?_;refine ztg 5 rfl rfl (by kernel_rfl) (by kernel_rfl) (by simp) rfl rfl (fun hc=>⟨_,OpenTo.upd (t:=41) rfl uC (OpenTo.upd (t:=40) rfl uC (OpenTo.refl _)),fun M hM=>by
  subst hM;exact ztH (i:=2) zjy ty9 ty4 rfl rfl rfl ⟨rfl,rfl⟩
  ⟩) ?_
 refine gz5 ?_;refine ahg 11 rfl rfl (by kernel_rfl) (by kernel_rfl) rfl (fun hc=>by
  have hq:0<=z:=by (have q:=hc;simp at q;omega)
  exact ⟨_,OpenTo.upd (t:=47) rfl uC (OpenTo.upd (t:=46) rfl uC (OpenTo.refl _)),zB (f:=zbm) (l:=l) (j:=i0) (a:=l.getD i0 zbH) zlA zcz rfl (by rw [<-(hz2 hq).1];rfl) rfl (hz2 hq).2.1⟩) ?_
 refine uGy 12 rfl rfl (fun hc=>(by first|exact zk zcz rfl zo (by decide) rfl|exact zf zcz rfl zo (by decide) rfl)) ?_;refine uGy 13 rfl rfl (fun hc=>zO (h:=eSs (l.getD i0 zbH).Positions) zo rfl rfl rfl) ?_;refine uGy 14 rfl rfl (fun hc=>(by first|exact zk zcf rfl zo (by decide) rfl|exact zf zcf rfl zo (by decide) rfl)) ?_;refine uGy 15 rfl rfl (fun hc=>zO (h:=eSs x.Positions) zo rfl rfl rfl) ?_;refine ahg 16 rfl rfl (by kernel_rfl) (by kernel_rfl) rfl (fun hc=>by
  have hq:0<=z:=by (have q:=hc;simp at q;omega)
  exact ⟨_,OpenTo.upd (t:=52) rfl uC (OpenTo.upd (t:=50) rfl uC (OpenTo.refl _)),uCl zDF rfl (zoE (a:=(l.getD i0 zbH).Positions) (b:=x.Positions) (hlp _ (Ab (hz2 hq).2.1)) (hsp x (Ab hx0)))⟩) ?_
 refine gz2 ?_;refine uCo (fun h5=> ?_) fun h6=> ?_
 refine zh8 mixed ?_;refine gz4 ?_;refine uF 4 ?_
 focus first
 |refine zI (uY 0 ?_)
 |refine zI (uY 1 ?_)
 |refine zI (uY 2 ?_)
 |refine zI (uY 3 ?_)
 refine ⟨uE,?_⟩
 refine uF 5 ?_
 focus first
 |refine zI (zdv (i:=0) zjy ty9 rfl rfl rfl rfl ?_)
 |refine zI (zdv (i:=1) zjy ty9 rfl rfl rfl rfl ?_)
 |refine zI (zdv (i:=2) zjy ty9 rfl rfl rfl rfl ?_)
 |refine zI (zdv (i:=3) zjy ty9 rfl rfl rfl rfl ?_)
 refine ⟨uE,?_⟩
 refine gz2 ?_
 focus first
 |refine zd (Ghost.perm (M':=[.cells b11 (zb (zaw ⟨x.Key,zcN c0 k⟩)),.arr u 2 ((zae l (some c0) S k).map zaw),.map m14 (sk (zbd (zbW (zcN c0 k) (zb5 l (some c0) S k).2)))]) (zl rfl)) ?_
 |refine zd (Ghost.perm (M':=[.cells b11 (zb (zaw ⟨x.Key,[]⟩)),.arr u 2 ((zae l (some c0) S k).map zaw),.map m14 (sk (zbd (zb5 l (some c0) S k).2))]) (zl rfl)) ?_
 |refine zd (Ghost.perm (M':=[.cells b11 (zb (zaw ⟨x.Key,[]⟩)),.arr u 2 ((zae l c S k).map zaw),.map m14 (sk (zbd (zb5 l c S k).2))]) (zl rfl)) ?_
 refine zd (zaN 11 (i:=0) rfl rfl) ?_
 first|have hfn:=zcr l (some c0) S k|have hfn:=zcr l c S k
 refine gz3 ?_;refine dq (za (hs:=[_]) zjp zgq rfl rfl (by decide) (by decide) rfl) ?_;refine de rfl (zH (i:=0) zjp zgq rfl rfl rfl rfl rfl (by simp [zan,zb]) (by simp only [Af,Ah,Ar];omega) fun v62=> ?_)
 refine gz8 ?_;have hyes:=zqw (l:=l) (c:=some c0) (S:=S) (n:=k) (by rw [ztT hz2 hz3,hsk];clear hz2 hz3 hz1 hsp hlp hcl;simp_all);exact ⟨k+1,v62,⟨by omega,trivial⟩,uD,⟨rfl,rfl,trivial⟩,uK,zl (by dsimp only;unfold zae;rw [hyes,hsk];simp only [Ay];try rfl)⟩;refine gz2 ?_
 focus first
 |refine zd (Ghost.perm (M':=[.cells b11 (zb (zaw ⟨x.Key,zcN c0 k⟩)),.arr u 2 ((zae l (some c0) S k).map zaw),.map m14 (sk (zbd (zbW (zcN c0 k) (zb5 l (some c0) S k).2)))]) (zl rfl)) ?_
 |refine zd (Ghost.perm (M':=[.cells b11 (zb (zaw ⟨x.Key,[]⟩)),.arr u 2 ((zae l (some c0) S k).map zaw),.map m14 (sk (zbd (zb5 l (some c0) S k).2))]) (zl rfl)) ?_
 |refine zd (Ghost.perm (M':=[.cells b11 (zb (zaw ⟨x.Key,[]⟩)),.arr u 2 ((zae l c S k).map zaw),.map m14 (sk (zbd (zb5 l c S k).2))]) (zl rfl)) ?_
 refine zd (zaN 11 (i:=0) rfl rfl) ?_
 first|have hfn:=zcr l (some c0) S k|have hfn:=zcr l c S k
 refine gz3 ?_;refine dq (za (hs:=[_]) zjp zgq rfl rfl (by decide) (by decide) rfl) ?_;refine de rfl (zH (i:=0) zjp zgq rfl rfl rfl rfl rfl (by simp [zan,zb]) (by simp only [Af,Ah,Ar];omega) fun v62=> ?_)
 refine gz8 ?_;have hno:=zpE (l:=l) (c:=some c0) (S:=S) (n:=k) (by rw [ztT hz2 hz3,hsk];clear hz2 hz3 hz1 hsp hlp hcl;simp_all);exact ⟨k+1,v62,⟨by omega,trivial⟩,uD,⟨rfl,rfl,trivial⟩,uK,zl (by dsimp only;unfold zae;rw [hno,hsk];simp only [Ay];try rfl)⟩;refine gz2 ?_
 focus first
 |refine zd (Ghost.perm (M':=[.cells b11 (zb (zaw ⟨x.Key,zcN c0 k⟩)),.arr u 2 ((zae l (some c0) S k).map zaw),.map m14 (sk (zbd (zbW (zcN c0 k) (zb5 l (some c0) S k).2)))]) (zl rfl)) ?_
 |refine zd (Ghost.perm (M':=[.cells b11 (zb (zaw ⟨x.Key,[]⟩)),.arr u 2 ((zae l (some c0) S k).map zaw),.map m14 (sk (zbd (zb5 l (some c0) S k).2))]) (zl rfl)) ?_
 |refine zd (Ghost.perm (M':=[.cells b11 (zb (zaw ⟨x.Key,[]⟩)),.arr u 2 ((zae l c S k).map zaw),.map m14 (sk (zbd (zb5 l c S k).2))]) (zl rfl)) ?_
 refine zd (zaN 11 (i:=0) rfl rfl) ?_
 first|have hfn:=zcr l (some c0) S k|have hfn:=zcr l c S k
 refine gz3 ?_;refine dq (za (hs:=[_]) zjp zgq rfl rfl (by decide) (by decide) rfl) ?_;refine de rfl (zH (i:=0) zjp zgq rfl rfl rfl rfl rfl (by simp [zan,zb]) (by simp only [Af,Ah,Ar];omega) fun v62=> ?_)
 refine gz8 ?_;have hcn:c=none:=by cases c with|none=>rfl|some c0=>simp_all
 subst hcn;have hno:=zpE (l:=l) (c:=none) (S:=S) (n:=k) rfl;exact ⟨k+1,v62,⟨by omega,trivial⟩,uD,⟨rfl,rfl,trivial⟩,uK,zl (by dsimp only;unfold zae;rw [hno,hsk];simp only [Ay];try rfl)⟩;have hnk:S.length<=k:=by omega
 obtain rfl:k=S.length:=by omega
 refine gz2 ?_;refine zQ ?_;refine gz7 ?_;exact zA ((zay 6 (i:=0) rfl rfl).trans Ghost.clear) rfl ⟨rfl,rfl⟩
theorem zlL [Tracks] {x:FillS} {o:Option ChoiceS} (hq:o.isSome=true):ConP prog 92 [zaw x,.vptr [pCh o] 0] (.bool (x.Player==(zcD o).Captain)):=by
 refine uOb func92 ntmps92 ?_;refine gz4 ?_;refine uDr mixed ?_;refine gz2 ?_;refine uB 2 rfl (zP (h':= .vptr (zb (zX (zcD o))) 0) (zO (h:=pCh o) zkL rfl rfl rfl) (zrH hq)) ?_;refine gz7 ?_;refine zu rfl ?_
 rfl
theorem zm3 [Tracks] {b:BookS} {n w:Int} {t:Str} (hT:Tracks.on=false) (hb:BookC b) (hX:BookX b) (hwk:zar w=true) (hnm:zN n=true) (htm:b.League.Teams.contains t=true):ConP prog 35 [zkz b n,.str t,.int .i64 w] (.tup [zcV (FdL b t w n),zf6 (FdF b t w n),.str (FdP b t w n),.int .i64 (fdE b t w n)]):=by
 have hW:=hX.w;have hla:=hb.bb.lea;have hdn: ∀y∈dsL b t w n,(-1000000000000000<=y.Num/\y.Num<=1000000000000000)/\ -1000000000<=y.Den/\y.Den<=1000000000:=zBE hX.ru (zD6 hX hb hwk n)
 have hdp: ∀y∈dsL b t w n,y.Positions.length<=1000000:=zt8 hla.po
 have hdl:(dsL b t w n).length<=1000000:=An (zkW b.League (wlL b w n) (zdj b t w)) (by
  have q2:=((zkV (b:=b.League.Bounds) (n:=zaH b.League w) hW.f.mo).p t).2
  show (rPl (zdY b.League.Bounds b.Moves (zaH b.League w)) t).length<=1000000
  omega)
 have hsl:=hW.sl;have hwr:1<=w/\w<=60:=by unfold zar out at hwk;simp at hwk;omega
 refine uOb func35 ntmps35 ?_;refine gz8 ?_;refine dq (zZ (h:=zkz b n) zqk rfl rfl rfl rfl) ?_;refine gz2 ?_;refine dq (uCl ca34 rfl (zij (b:=b) (n:=n) (w:=w) (t:=t) hT hb hX hwk hnm htm)) ?_;refine zcg ?_;refine uCo (fun h1=> ?_) fun h2=> ?_
 refine gz8 ?_
 focus first
 | (have q1:fdE b t w n=wlE b w n:=zjS (by simpa using h1)
    have q2:fdE b t w n≠0:=by rw [q1];simpa using h1
    refine zbV rfl (zcb (by rw [FdL,if_pos q2];exact zD 5) (by rw [FdF,if_pos q2];exact zD 2) (by rw [FdP,if_pos q2];exact Weak.refl _) (by rw [q1];exact Weak.refl _)))
 | (have q1:fdE b t w n=zht (dsL b t w n):=zhA hz
    have q2:fdE b t w n≠0:=by rw [q1];simpa using h3
    refine zbV rfl (zcb (by rw [FdL,if_pos q2];exact zD 5) (by rw [FdF,if_pos q2];exact zD 2) (by rw [FdP,if_pos q2];exact Weak.refl _) (by rw [q1];exact Weak.refl _)))
 | (refine zu rfl ?_
    rw [FdL,FdF,FdP,if_neg (fun q=>q hfz),if_neg (fun q=>q hfz),if_neg (fun q=>q hfz),hfz]
    focus first
    |(rw [show fdP b t w n=(zcD (fdC b t w n)).Captain from znU h5];focus first|done|rfl)
    | (rw [show fdP b t w n=[] from zqt h6];focus first|done|rfl))
 refine gz3 ?_;have hz:wlE b w n=0:=by simpa using h2
 rw [zfb,if_neg (fun q=>q hz)];refine gz2 ?_;refine dq (uCl ca88 rfl (znQ (l:=dsL b t w n) hdl hdp hdn)) ?_;refine gz6 ?_;refine uCo (fun h3=> ?_) fun h4=> ?_
 refine gz8 ?_
 focus first
 | (have q1:fdE b t w n=wlE b w n:=zjS (by simpa using h1)
    have q2:fdE b t w n≠0:=by rw [q1];simpa using h1
    refine zbV rfl (zcb (by rw [FdL,if_pos q2];exact zD 5) (by rw [FdF,if_pos q2];exact zD 2) (by rw [FdP,if_pos q2];exact Weak.refl _) (by rw [q1];exact Weak.refl _)))
 | (have q1:fdE b t w n=zht (dsL b t w n):=zhA hz
    have q2:fdE b t w n≠0:=by rw [q1];simpa using h3
    refine zbV rfl (zcb (by rw [FdL,if_pos q2];exact zD 5) (by rw [FdF,if_pos q2];exact zD 2) (by rw [FdP,if_pos q2];exact Weak.refl _) (by rw [q1];exact Weak.refl _)))
 | (refine zu rfl ?_
    rw [FdL,FdF,FdP,if_neg (fun q=>q hfz),if_neg (fun q=>q hfz),if_neg (fun q=>q hfz),hfz]
    focus first
    |(rw [show fdP b t w n=(zcD (fdC b t w n)).Captain from znU h5];focus first|done|rfl)
    | (rw [show fdP b t w n=[] from zqt h6];focus first|done|rfl))
 refine gz2 ?_;have hs0:zht (dsL b t w n)=0:=by simp_all
 have hfz:fdE b t w n=0:=(zhA hz).trans hs0;have hfl:(fdF b t w n).length=b.League.Slots.length:=zcr (dsL b t w n) (fdC b t w n) b.League.Slots b.League.Slots.length;refine uDr mixed ?_;refine uB 0 rfl (zZ (h:=zkz b n) zqk rfl rfl rfl rfl) ?_;refine gz3 ?_;refine uB 4 rfl (zO (h:= .vptr (zb (zaP b)) 0) ziV rfl rfl rfl) ?_;refine uB 5 rfl ((by first|exact zL rfl|exact zx rfl)) ?_;refine gz2 ?_;refine uB 8 rfl (uCl zBY rfl (zlf (b:=b) hla.sta uO)) ?_;refine uB 9 rfl (uCl ca89 rfl (znJ (b:=b) (n:=n) (w:=w) (t:=t) (f:=zaH b.League w) hb.bb.ch)) ?_;refine uF 10 ?_;refine zw rfl (zg zkL rfl fun b10=> ?_)
 refine ⟨uE,?_⟩
 refine uF 11 ?_;refine zI (zj (h:=pCh (fdC b t w n)) zkL rfl rfl (zE7 _) (zAQ _) rfl ?_)
 refine ⟨uE,?_⟩
 refine gz1 ?_;refine zd (zm 10 rfl) ?_;rw [show zb (pCh (fdC b t w n))=[pCh (fdC b t w n)] from zzp _];refine uDr mixed ?_;refine gz1 ?_;refine uB 1 rfl (zO (h:= .vptr (zb (zaP b)) 0) ziV rfl rfl rfl) ?_;refine uB 2 rfl ((by first|exact zL rfl|exact zx rfl)) ?_;refine gz2 ?_;refine uB 5 rfl (zO (h:=zgH b.League.Slots) zfC rfl rfl rfl) ?_;refine gz2 ?_;refine uB 8 rfl (uCl ca90 rfl (zto (S:=b.League.Slots) (l:=dsL b t w n) (c:=(fdC b t w n)) hla.sl hla.sp hdl hdp (fun c0 e=>zyc hW e))) ?_;refine gz4 ?_;refine dq (zO (h:=pCh (fdC b t w n)) zkL rfl rfl rfl) ?_;refine dq (zyD (o:=(fdC b t w n).map fun c=>zb (zX c)) zkL rfl rfl) ?_;refine gz1 ?_;refine dg rfl rfl (fun hc=>by
  have hq:(fdC b t w n).isSome=true:=by (have q:=hc;cases hv:(fdC b t w n)<;>simp_all)
  exact ⟨_,OpenTo.refl _,zP (h':= .vptr (zb (zX (zcD (fdC b t w n)))) 0) (zO (h:=pCh (fdC b t w n)) zkL rfl rfl rfl) (zrH hq)⟩) ?_
 refine uGr rfl (fun hc=>(by first|exact zL rfl|exact zx rfl)) ?_;refine gz7 ?_;refine dg rfl rfl (fun hc=>by
  have hq:(fdC b t w n).isSome=true:=by (have q:=hc;cases hv:(fdC b t w n)<;>simp_all)
  exact ⟨_,OpenTo.upd (t:=56) rfl uC (OpenTo.upd (t:=55) rfl uC (OpenTo.refl _)),uCl ca91 rfl (zf1 (l:=fdF b t w n) (p:=fun x=>x.Player==(zcD (fdC b t w n)).Captain) ca92 (fun _=>zlL hq) uO)⟩) ?_
 refine gz2 ?_;refine uCo (fun h5=> ?_) fun h6=> ?_
 have hq:(fdC b t w n).isSome=true:=by cases hv:(fdC b t w n)<;>simp_all
 refine gz1 ?_;refine dq (zP (h':= .vptr (zb (zX (zcD (fdC b t w n)))) 0) (zO (h:=pCh (fdC b t w n)) zkL rfl rfl rfl) (zrH hq)) ?_;refine dq ((by first|exact zL rfl|exact zx rfl)) ?_;refine zjf ?_
 focus first
 | (have q1:fdE b t w n=wlE b w n:=zjS (by simpa using h1)
    have q2:fdE b t w n≠0:=by rw [q1];simpa using h1
    refine zbV rfl (zcb (by rw [FdL,if_pos q2];exact zD 5) (by rw [FdF,if_pos q2];exact zD 2) (by rw [FdP,if_pos q2];exact Weak.refl _) (by rw [q1];exact Weak.refl _)))
 | (have q1:fdE b t w n=zht (dsL b t w n):=zhA hz
    have q2:fdE b t w n≠0:=by rw [q1];simpa using h3
    refine zbV rfl (zcb (by rw [FdL,if_pos q2];exact zD 5) (by rw [FdF,if_pos q2];exact zD 2) (by rw [FdP,if_pos q2];exact Weak.refl _) (by rw [q1];exact Weak.refl _)))
 | (refine zu rfl ?_
    rw [FdL,FdF,FdP,if_neg (fun q=>q hfz),if_neg (fun q=>q hfz),if_neg (fun q=>q hfz),hfz]
    focus first
    |(rw [show fdP b t w n=(zcD (fdC b t w n)).Captain from znU h5];focus first|done|rfl)
    | (rw [show fdP b t w n=[] from zqt h6];focus first|done|rfl))
 refine zdf ?_
 focus first
 | (have q1:fdE b t w n=wlE b w n:=zjS (by simpa using h1)
    have q2:fdE b t w n≠0:=by rw [q1];simpa using h1
    refine zbV rfl (zcb (by rw [FdL,if_pos q2];exact zD 5) (by rw [FdF,if_pos q2];exact zD 2) (by rw [FdP,if_pos q2];exact Weak.refl _) (by rw [q1];exact Weak.refl _)))
 | (have q1:fdE b t w n=zht (dsL b t w n):=zhA hz
    have q2:fdE b t w n≠0:=by rw [q1];simpa using h3
    refine zbV rfl (zcb (by rw [FdL,if_pos q2];exact zD 5) (by rw [FdF,if_pos q2];exact zD 2) (by rw [FdP,if_pos q2];exact Weak.refl _) (by rw [q1];exact Weak.refl _)))
 | (refine zu rfl ?_
    rw [FdL,FdF,FdP,if_neg (fun q=>q hfz),if_neg (fun q=>q hfz),if_neg (fun q=>q hfz),hfz]
    focus first
    |(rw [show fdP b t w n=(zcD (fdC b t w n)).Captain from znU h5];focus first|done|rfl)
    | (rw [show fdP b t w n=[] from zqt h6];focus first|done|rfl))
end
section
open Go.Proofs.Tryz
open Go.HL
theorem zrp [Tracks] {b:BookS} {t:Str} {w n:Int} (hT:Tracks.on=false) (hb:BookC b):ConP prog 11 [zaP b,.str t,.int .i64 w,.int .i64 n] (.tup [zf6 (TfF b t w n),.str (TfP b t w n),.int .i64 (TfE b t w n)]):=by
 refine uOb func11 ntmps11 ?_;refine zcg ?_;refine dq (uCl ca33 rfl (zjM (b:=b) (t:=t) (w:=w) (n:=n) hT hb)) ?_;refine gz6 ?_;refine uCo (fun h1=> ?_) fun h2=> ?_
 refine gz7 ?_;exact zbV rfl (zBN (by rw [TfF,if_pos (by simpa using h1)];exact zD 2) (by rw [TfP,if_pos (by simpa using h1)];exact Weak.refl _) (by rw [TfE,if_pos (by simpa using h1)];exact Weak.refl _));refine gz2 ?_;have hz:zc7 b t w n=0:=by simp_all
 obtain ⟨hbz,htm,hwk,hnm⟩:=zqF hz;have hX:=zpb hbz;refine gz2 ?_;refine dq (zC (cs:=[_,_]) zqk zCM rfl) ?_;refine gz2 ?_;refine dq (uCl ca35 rfl (zm3 (b:=b) (n:=n) (w:=w) (t:=t) hT hb hX hwk hnm htm)) ?_;refine gz19 ?_
 (refine zu rfl ?_
  rw [TfF,TfP,TfE,if_neg (fun q=>q hz),if_neg (fun q=>q hz),if_neg (fun q=>q hz)])
theorem zrq [Tracks] {b:BookS} {t:Str} {w n:Int} (hT:Tracks.on=false) (hb:BookC b):ConP prog 10 [zaP b,.str t,.int .i64 w,.int .i64 n] (.tup [zcV (TsL b t w n),.int .i64 (TsE b t w n)]):=by
 refine uOb func10 ntmps10 ?_;refine zau ?_;refine dq (uCl ca33 rfl (zjM (b:=b) (t:=t) (w:=w) (n:=n) hT hb)) ?_;refine gz6 ?_;refine uCo (fun h1=> ?_) fun h2=> ?_
 refine gz6 ?_;exact zbV rfl (zbM (by rw [TsL,if_pos (by simpa using h1)];exact zD 5) (by rw [TsE,if_pos (by simpa using h1)];exact Weak.refl _));refine gz2 ?_;have hz:zc7 b t w n=0:=by simp_all
 obtain ⟨hbz,htm,hwk,hnm⟩:=zqF hz;have hX:=zpb hbz;refine gz2 ?_;refine dq (zC (cs:=[_,_]) zqk zCM rfl) ?_;refine gz2 ?_;refine dq (uCl ca34 rfl (zij (b:=b) (n:=n) (w:=w) (t:=t) hT hb hX hwk hnm htm)) ?_;refine gz6 ?_
 (refine zu rfl ?_
  rw [TsL,TsE,if_neg (fun q=>q hz),if_neg (fun q=>q hz)])
end
end Go.Proofs.YtabpobhnedkkeaaGreatDoor
namespace Go.HL
section
open Go Op
abbrev lnO (b:BookS) (w n:Int):Int:=orI [zbz b,if zar w=true then 0 else 1,if zN n=true then 0 else 1]
def LnE (b:BookS) (w n:Int):Int:=if lnO b w n≠0 then lnO b w n else wlE b w n
def LnL (b:BookS) (w n:Int):List LineS:=if lnO b w n≠0 then [] else wlL b w n
theorem zwK {b:BookS} {w n:Int} (h:zbz b≠0):lnO b w n=zbz b:=by
 unfold lnO;rw [orI,if_pos h]
theorem zwL {b:BookS} {w n:Int} (h:zbz b=0):lnO b w n=if zar w=true/\zN n=true then 0 else 1:=by
 unfold lnO;rw [h]
 cases zar w<;>cases zN n<;>decide
theorem ztQ {b:BookS} {w n:Int} (h:zbz b≠0):LnE b w n=zbz b/\LnL b w n=[]:=by
 have e:lnO b w n=zbz b:=zwK h;unfold LnE LnL;rw [e,if_pos h,if_pos h];exact ⟨rfl,rfl⟩
theorem ztP {b:BookS} {w n:Int} (h:zbz b=0) (h2: ¬(zar w=true/\zN n=true)):LnE b w n=1/\LnL b w n=[]:=by
 have e:lnO b w n=1:=by rw [zwL h,if_neg h2]
 unfold LnE LnL;rw [e];exact ⟨rfl,rfl⟩
theorem zBa {b:BookS} {w n:Int} (h:lnO b w n=0):LnE b w n=wlE b w n/\LnL b w n=wlL b w n:=by
 unfold LnE LnL;rw [if_neg (fun q=>q h),if_neg (fun q=>q h)];exact ⟨rfl,rfl⟩
theorem zng {b:BookS} {w n:Int} (h:lnO b w n≠0):LnE b w n=lnO b w n/\LnL b w n=[]:=by
 unfold LnE LnL;rw [if_pos h,if_pos h];exact ⟨rfl,rfl⟩
theorem zA9 {b:BookS} {w n:Int} (h:lnO b w n=0):zbz b=0/\zar w=true/\zN n=true:=by
 have h1:zbz b=0:=by
  refine Decidable.not_not.1 fun q=> ?_
  have:=zwK (w:=w) (n:=n) q
  omega
 rw [zwL h1] at h
 by_cases q:zar w=true/\zN n=true
 exact ⟨h1,q⟩;rw [if_neg q] at h;cases h
theorem zwM {b:BookS} {w n:Int} (h:zbz b=0) (h1:zar w=true) (h2:zN n=true):lnO b w n=0:=by
 rw [zwL h,if_pos ⟨h1,h2⟩]
theorem zGv {b:BookS} {t:Str} {w n:Int} (h:zc7 b t w n=0):TsE b t w n=wlE b w n/\TsL b t w n=zfb b t w n/\TfE b t w n=fdE b t w n/\TfF b t w n=FdF b t w n/\TfP b t w n=FdP b t w n:=by
 unfold TsE TsL TfE TfF TfP;rw [if_neg (fun q=>q h),if_neg (fun q=>q h),if_neg (fun q=>q h),if_neg (fun q=>q h),if_neg (fun q=>q h)];exact ⟨rfl,rfl,rfl,rfl,rfl⟩
theorem zAi {b:BookS} {t:Str} {w n:Int} (h:zc7 b t w n≠0):TsE b t w n=zc7 b t w n/\TsL b t w n=[]/\TfE b t w n=zc7 b t w n/\TfF b t w n=[]/\TfP b t w n=[]:=by
 unfold TsE TsL TfE TfF TfP;rw [if_pos h,if_pos h,if_pos h,if_pos h,if_pos h];exact ⟨rfl,rfl,rfl,rfl,rfl⟩
theorem zDb {b:BookS} {t:Str} {w n:Int} (hp: ∀p∈b.League.Players,p.Positions.length<=1000000): ∀y∈zfb b t w n,y.Positions.length<=1000000:=by
 intro y hy
 unfold zfb at hy
 split at hy
 cases hy
 exact zt8 hp y hy
theorem zEx (b:BookS) (t:Str) (w n:Int):(FdF b t w n).length<=b.League.Slots.length:=by
 unfold FdF
 split
 exact Ad _;exact Bj (zcr _ _ _ _)
theorem zDa {b:BookS} {t:Str} {w n:Int} (hX:BookX b):(zfb b t w n).length<=1000000:=by
 unfold zfb
 split
 exact Ad _;refine An (zkW b.League (wlL b w n) (zdj b t w)) ?_;have q2:=((zkV (b:=b.League.Bounds) (n:=zaH b.League w) hX.w.f.mo).p t).2
 show (rPl (zdY b.League.Bounds b.Moves (zaH b.League w)) t).length<=1000000
 omega
theorem zfx (l:List FillS):zea zaw l l=true:=by
 induction l with
 |nil=>rfl
 |cons x r ih=>rw [zea,ih];simp [zn0,zb,zfy,eqH]
end
end Go.HL
namespace Go.Proofs.YtabpobhnedkkeaaGreatDoor
set_option maxRecDepth 100000
set_option linter.unusedVariables false
set_option linter.unusedSimpArgs false
section
open Go.Proofs.Tryz
open Go.HL
theorem zlD [Tracks] {b:BookS} {w n a:Int} (hs: -1000000000000000<=b.League.Start/\b.League.Start<=1000000000000000) (hw: -1000<=w/\w<=1000):ConP prog 46 [.int .i64 a,.vptr (zb (zaP b)) 0,.vptr [.int .i64 w] 0,.vptr [.int .i64 n] 0] (.bool (decide (a<zaH b.League w)&&decide (a<=n))):=by
 refine uOb func46 ntmps46 ?_;refine gz6 ?_;refine dq (zP (h':=zcj b.League) (zav zbE rfl rfl (Ak rfl)) rfl) ?_;refine gz1 ?_;refine dq (uCl ca41 rfl (zjG (g:=b.League) (w:=w) hs hw)) ?_;refine gz9 ?_;refine zu rfl ?_
 show HVal.bool _=_
 congr 1
 cases decide (a<zaH b.League w)<;>rfl
theorem zmX [Tracks] {b:BookS} {n w:Int} {t:Str} (hb:BookC b) (hX:BookX b) (hwk:zar w=true) (hnm:zN n=true) (ht:t≠[]):ConP prog 14 [zaP b,.str t,.int .i64 w,.int .i64 n] (.tup [zf6 (FdF b t w n),.str (FdP b t w n),zcV (FdL b t w n),.int .i64 (fdE b t w n)]):=by
 have hW:=hX.w;have hla:=hb.bb.lea;have hdn: ∀y∈dsL b t w n,(-1000000000000000<=y.Num/\y.Num<=1000000000000000)/\ -1000000000<=y.Den/\y.Den<=1000000000:=zBE hX.ru (zD6 hX hb hwk n)
 have hdp: ∀y∈dsL b t w n,y.Positions.length<=1000000:=zt8 hla.po
 have hdl:(dsL b t w n).length<=1000000:=An (zkW b.League (wlL b w n) (zdj b t w)) (by
  have q2:=((zkV (b:=b.League.Bounds) (n:=zaH b.League w) hW.f.mo).p t).2
  show (rPl (zdY b.League.Bounds b.Moves (zaH b.League w)) t).length<=1000000
  omega)
 have hsl:=hW.sl;have hsp0:=hla.sp;have hwr:1<=w/\w<=60:=by unfold zar out at hwk;simp at hwk;omega
 refine uOb func14 ntmps14 ?_;refine zau ?_;refine dq (zZ (h:=zaP b) zdr rfl rfl rfl rfl) ?_;refine gz3 ?_;refine dq (uCl ca13 rfl (zic (b:=b) (n:=n) (w:=w) (t:=t) hb hX hwk hnm ht)) ?_;refine zcg ?_;refine uCo (fun h1=> ?_) fun h2=> ?_
 ·have hz:wlE b w n=0:=by simpa using h1
  rw [zfb,if_neg (fun q=>q hz)];refine gz2 ?_;refine dq (uCl ca44 rfl (zla (l:=(dsL b t w n)) hdl hdp hdn)) ?_;refine gz8 ?_;refine uCo (fun h3=> ?_) fun h4=> ?_
  ·refine gz8 ?_
   first
   | (have q1:fdE b t w n=wlE b w n:=zjS (by simpa using h2)
      have q2:fdE b t w n≠0:=by rw [q1];simpa using h2
      refine zbV rfl (zcb (by rw [FdF,if_pos q2];exact zD 2) (by rw [FdP,if_pos q2];exact Weak.refl _) (by rw [FdL,if_pos q2];exact zD 5) (by rw [q1];exact Weak.refl _)))
   | (have q1:fdE b t w n=zht (dsL b t w n):=zhA hz
      have q2:fdE b t w n≠0:=by rw [q1];simpa using h3
      refine zbV rfl (zcb (by rw [FdF,if_pos q2];exact zD 2) (by rw [FdP,if_pos q2];exact Weak.refl _) (by rw [FdL,if_pos q2];exact zD 5) (by rw [q1];exact Weak.refl _)))
   | (refine zA ((zay 8 (i:=1) rfl rfl).trans Ghost.clear) rfl ⟨?_,rfl⟩
      rw [FdL,FdF,FdP,if_neg (fun q=>q hfz),if_neg (fun q=>q hfz),if_neg (fun q=>q hfz),hfz];unfold fdP fdF fdC;rw [hC,zqu]
      rcases BX ((zbS (zae (dsL b t w n) C b.League.Slots b.League.Slots.length)).contains (zcD C).Captain) with q7|q7
      ·rw [if_pos q7];first|done|rfl|(exfalso;simp_all)
      ·rw [if_neg (by rw [q7];simp)];first|done|rfl|(exfalso;simp_all))
  ·refine gz2 ?_;have hs0:zht (dsL b t w n)=0:=by simp_all
   have hsk:=zGn hs0;have hfz:fdE b t w n=0:=(zhA hz).trans hs0;refine gz1 ?_;refine dq (zZ (h:=zaP b) zdr rfl rfl rfl rfl) ?_;refine gz3 ?_;refine de rfl (zaA (M1:=[]) (R:=[]) ca45 rfl (WeakL.refl _) (Ac _) (zpe (b:=b) (t:=t) (w:=w) (p:=fun a=>decide (a<zaH b.League w)&&decide (a<=n)) ca46 (fun _=>zlD hla.sta uO) hb.bb.ch) ?_)
   rintro _ _ ⟨rfl,rfl⟩;rw [zFO];refine gz3 ?_;refine de rfl (zg za8 rfl fun b14=> ?_)
   refine de0 (zj za8 rfl rfl rfl rfl rfl ?_)
   refine gz2 ?_;refine zd (zm 14 rfl) ?_;have hCl: ∀c0,(zpw b.Choices t w n (zaH b.League w))=some c0->c0.Players.length=b.League.Slots.length:=fun c0 e=>zyc hW e
   generalize hC:(zpw b.Choices t w n (zaH b.League w))=C at hCl⊢
   refine gz6 ?_;refine zd (zJ 2) ?_;refine zd (zJ 1) ?_;refine gz2 ?_;refine dq ((by first|exact zk zdr rfl zbE (by decide) rfl|exact zf zdr rfl zbE (by decide) rfl)) ?_;refine dq ((by first|exact zk zbE rfl zfC (by decide) rfl|exact zf zbE rfl zfC (by decide) rfl)) ?_;refine dq (zO (h:=zgH b.League.Slots) zfC rfl rfl rfl) ?_;refine dq (zaE (f:=zcm) (l:=b.League.Slots) zfC rfl) ?_;refine gz3 ?_;refine uV3 [16,6,50,54] (fun (k:Nat) (u:Value) (v:Value)=>[(50,.int .i64 k),(16,.raw u),(17,.raw v)]) (fun (k:Nat) (u:Value) (v:Value)=>[.arr v 1 ((zbS (zae (dsL b t w n) C b.League.Slots k)).map .str),.arr u 2 ((zae (dsL b t w n) C b.League.Slots k).map zaw)]) (fun (k:Nat) (u:Value) (v:Value)=>k<=b.League.Slots.length/\(True)) (fun (k:Nat) (u:Value) (v:Value)=>b.League.Slots.length-k) (0) (.slice none 0 0) (.slice none 0 0) ?_ ?_ ?_ ?_
   ·exact ⟨Ad _,trivial⟩
   ·exact ⟨rfl,rfl,rfl,trivial⟩
   ·exact zl rfl
   ·intro k u v hinv
    obtain ⟨hk,-⟩:=hinv;refine gz4 ?_;refine uCo (fun h5=> ?_) fun h6=> ?_
    ·obtain ⟨x,hx⟩: ∃x,b.League.Slots[k]? =some x:=⟨_,Aa h5⟩
     have hdx:=zi hx;have hx0:=hx;have hxl:=zn hx;have hsx:b.League.Slots.getD k zfr=x:=by rw [Ag,hx];rfl
     refine gz6 ?_;refine dq (zB (f:=zcm) (l:=b.League.Slots) (j:=k) (a:=x) zfC zcf rfl rfl rfl hx) ?_;refine gz1 ?_;refine de rfl (zg zcf rfl fun b19=> ?_)
     refine gz1 ?_;refine de0 (zj zcf rfl rfl rfl rfl rfl ?_)
     refine gz1 ?_;refine zd (zm 19 rfl) ?_;refine gz1 ?_;refine dq ((by first|exact zk zcf rfl ty9 (by decide) rfl|exact zf zcf rfl ty9 (by decide) rfl)) ?_;refine gz1 ?_;refine dq (zC (cs:=[_,_]) zgq pl74 rfl) ?_;refine de rfl (zg zgq rfl fun b20=> ?_)
     first
     |refine de0 (uY 0 ?_)
     |refine de0 (uY 1 ?_)
     |refine de0 (uY 2 ?_)
     |refine de0 (uY 3 ?_)
     refine gz5 ?_;refine uCo (fun h7=> ?_) fun h8=> ?_
     ·obtain ⟨c0,rfl⟩: ∃c0,C=some c0:=by
       cases C with
       |none=>simp_all
       |some c0=>exact ⟨c0,rfl⟩
      have hcn:=hCl c0 rfl;have hwn:=zxA (zae (dsL b t w n) (some c0) b.League.Slots k);have hfn:(zae (dsL b t w n) (some c0) b.League.Slots k).length=k:=zcr (dsL b t w n) (some c0) b.League.Slots k;refine gz2 ?_;refine dq ((by first|exact zk za8 rfl zo (by decide) rfl|exact zf za8 rfl zo (by decide) rfl)) ?_;refine dq (zO (h:=eSs c0.Players) zo rfl rfl rfl) ?_;refine gz1 ?_;refine dq (zB (f:=HVal.str) (l:=c0.Players) (j:=k) (a:=(zcN c0 k)) zo ty9 rfl rfl rfl (getD_some uO)) ?_;refine gz1 ?_;refine dq (uCl ca47 rfl (znF (l:=(dsL b t w n)) (s:=(zcN c0 k)) hdl)) ?_;refine gz2 ?_;obtain ⟨z,i0,hz1,hz2,hz3⟩:=zwB (dsL b t w n) (zcN c0 k);rw [hz1];refine zbF (fun M=>M=[.cells b20 [.str x.Key,.str []],.arr v 1 ((zbS (zae (dsL b t w n) (some c0) b.League.Slots k)).map .str),.arr u 2 ((zae (dsL b t w n) (some c0) b.League.Slots k).map zaw)]) [19] mixed ?_;refine gz5 ?_;refine ahg 5 rfl rfl (by kernel_rfl) (by kernel_rfl) rfl (fun hc=>by
       have hq:0<=z:=by (have q:=hc;simp at q;omega)
       exact ⟨_,OpenTo.upd (t:=70) rfl uC (OpenTo.upd (t:=69) rfl uC (OpenTo.refl _)),zB (f:=zbm) (l:=(dsL b t w n)) (j:=i0) (a:=(dsL b t w n).getD i0 zbH) zlA zcz rfl (by rw [<-(hz2 hq).1];rfl) rfl (hz2 hq).2.1⟩) ?_
      refine uGy 6 rfl rfl (fun hc=>(by first|exact zk zcz rfl zo (by decide) rfl|exact zf zcz rfl zo (by decide) rfl)) ?_;refine uGy 7 rfl rfl (fun hc=>zO (h:=eSs ((dsL b t w n).getD i0 zbH).Positions) zo rfl rfl rfl) ?_;refine uGy 8 rfl rfl (fun hc=>(by first|exact zk zcf rfl zo (by decide) rfl|exact zf zcf rfl zo (by decide) rfl)) ?_;refine uGy 9 rfl rfl (fun hc=>zO (h:=eSs x.Positions) zo rfl rfl rfl) ?_;refine ahg 10 rfl rfl (by kernel_rfl) (by kernel_rfl) rfl (fun hc=>by
       have hq:0<=z:=by (have q:=hc;simp at q;omega)
       exact ⟨_,OpenTo.upd (t:=75) rfl uC (OpenTo.upd (t:=73) rfl uC (OpenTo.refl _)),uCl ca48 rfl (zpg (a:=((dsL b t w n).getD i0 zbH).Positions) (b:=x.Positions) (hdp _ (Ab (hz2 hq).2.1)) (hsp0 x (Ab hx0)))⟩) ?_
      refine gz3 ?_;refine uGy 14 rfl rfl (fun hc=>(by first|exact zk za8 rfl zo (by decide) rfl|exact zf za8 rfl zo (by decide) rfl)) ?_;refine uGy 15 rfl rfl (fun hc=>zO (h:=eSs c0.Players) zo rfl rfl rfl) ?_;refine gz1 ?_;refine uGy 17 rfl rfl (fun hc=>by have hq:=hc;(try simp at hq);exact zB (f:=HVal.str) (l:=c0.Players) (j:=k) (a:=(zcN c0 k)) zo ty9 rfl rfl rfl (getD_some uO)) ?_;refine gz1 ?_;refine ztg 19 rfl rfl (by kernel_rfl) (by kernel_rfl) (by simp) rfl rfl (fun hc=>⟨_,OpenTo.upd (t:=84) rfl uC (OpenTo.upd (t:=79) rfl uC (OpenTo.refl _)),fun M hM=>by
       subst hM;exact ze1 (hs':=[.slice 1 ((zbS (zae (dsL b t w n) (some c0) b.League.Slots k)).map .str),.str (zcN c0 k)]) zgG rfl ⟨.arr (i:=1) rfl,.weak (Weak.refl _),trivial⟩ (zG (l:=zbS (zae (dsL b t w n) (some c0) b.League.Slots k)) (s:=(zcN c0 k)) uO) rfl ⟨rfl,rfl⟩
       ⟩) ?_
      refine gz1 ?_;refine uB 21 rfl (zuS rfl (.inr ⟨_,rfl,fun h=>beq_iff_eq.2 h⟩) (.inl rfl)) ?_;refine gz1 ?_;refine uCo (fun h9=> ?_) fun h10=> ?_
      ·refine gz1 ?_;refine dq ((by first|exact zk za8 rfl zo (by decide) rfl|exact zf za8 rfl zo (by decide) rfl)) ?_;refine dq (zO (h:=eSs c0.Players) zo rfl rfl rfl) ?_;refine gz1 ?_;refine dq (zB (f:=HVal.str) (l:=c0.Players) (j:=k) (a:=(zcN c0 k)) zo ty9 rfl rfl rfl (getD_some uO)) ?_;refine gz2 ?_
       first
       |refine de0 (uY 0 ?_)
       |refine de0 (uY 1 ?_)
       |refine de0 (uY 2 ?_)
       |refine de0 (uY 3 ?_)
       refine gz4 ?_
       first
       |refine de rfl (uZ 0 ?_)
       |refine de rfl (uZ 1 ?_)
       |refine de rfl (uZ 2 ?_)
       |refine de rfl (uZ 3 ?_)
       refine dq (za (hs:=[_]) zo ty9 rfl rfl (by decide) (by decide) rfl) ?_;refine de rfl (zH (i:=1) zo ty9 rfl rfl rfl rfl rfl (by simp [zan,zb]) (by simp only [Af,Ah,Ar];omega) fun v98=> ?_)
       refine gz3 ?_
       first
       |refine zd (Ghost.perm (M':=[.cells b20 (zb (zaw ⟨x.Key,(zcN c0 k)⟩)),.arr v98 1 ((zbS (zae (dsL b t w n) (some c0) b.League.Slots k)).map .str++[.str (zcN c0 k)]),.arr u 2 ((zae (dsL b t w n) (some c0) b.League.Slots k).map zaw)]) (zl rfl)) ?_
       |refine zd (Ghost.perm (M':=[.cells b20 (zb (zaw ⟨x.Key,[]⟩)),.arr v 1 ((zbS (zae (dsL b t w n) (some c0) b.League.Slots k)).map .str),.arr u 2 ((zae (dsL b t w n) (some c0) b.League.Slots k).map zaw)]) (zl rfl)) ?_
       |refine zd (Ghost.perm (M':=[.cells b20 (zb (zaw ⟨x.Key,[]⟩)),.arr v 1 ((zbS (zae (dsL b t w n) C b.League.Slots k)).map .str),.arr u 2 ((zae (dsL b t w n) C b.League.Slots k).map zaw)]) (zl rfl)) ?_
       refine zd (zaN 20 (i:=0) rfl rfl) ?_
       first|have hfn2:(zae (dsL b t w n) (some c0) b.League.Slots k).length=k:=zcr (dsL b t w n) (some c0) b.League.Slots k|have hfn2:(zae (dsL b t w n) C b.League.Slots k).length=k:=zcr (dsL b t w n) C b.League.Slots k
       refine gz3 ?_;refine dq (za (hs:=[_]) zjp zgq rfl rfl (by decide) (by decide) rfl) ?_;refine de rfl (zH (i:=1) zjp zgq rfl rfl rfl rfl rfl (by simp [zan,zb]) (by simp only [Af,Ah,Ar];omega) fun v102=> ?_)
       refine gz8 ?_;have hyes:=zxL (c:=some c0) (S:=b.League.Slots) (k:=k) hsk (by rw [zyz hsk hz2 hz3,hsx];clear hz2 hz3 hz1 hdl hdp hdn;simp_all);exact ⟨k+1,v102,v98,⟨by omega,trivial⟩,uD,⟨rfl,rfl,rfl,trivial⟩,uK,zl (by dsimp only;rw [hyes.2,hyes.1,hsx];simp only [Ay];try rfl)⟩
      ·refine gz2 ?_
       first
       |refine zd (Ghost.perm (M':=[.cells b20 (zb (zaw ⟨x.Key,(zcN c0 k)⟩)),.arr v98 1 ((zbS (zae (dsL b t w n) (some c0) b.League.Slots k)).map .str++[.str (zcN c0 k)]),.arr u 2 ((zae (dsL b t w n) (some c0) b.League.Slots k).map zaw)]) (zl rfl)) ?_
       |refine zd (Ghost.perm (M':=[.cells b20 (zb (zaw ⟨x.Key,[]⟩)),.arr v 1 ((zbS (zae (dsL b t w n) (some c0) b.League.Slots k)).map .str),.arr u 2 ((zae (dsL b t w n) (some c0) b.League.Slots k).map zaw)]) (zl rfl)) ?_
       |refine zd (Ghost.perm (M':=[.cells b20 (zb (zaw ⟨x.Key,[]⟩)),.arr v 1 ((zbS (zae (dsL b t w n) C b.League.Slots k)).map .str),.arr u 2 ((zae (dsL b t w n) C b.League.Slots k).map zaw)]) (zl rfl)) ?_
       refine zd (zaN 20 (i:=0) rfl rfl) ?_
       first|have hfn2:(zae (dsL b t w n) (some c0) b.League.Slots k).length=k:=zcr (dsL b t w n) (some c0) b.League.Slots k|have hfn2:(zae (dsL b t w n) C b.League.Slots k).length=k:=zcr (dsL b t w n) C b.League.Slots k
       refine gz3 ?_;refine dq (za (hs:=[_]) zjp zgq rfl rfl (by decide) (by decide) rfl) ?_;refine de rfl (zH (i:=1) zjp zgq rfl rfl rfl rfl rfl (by simp [zan,zb]) (by simp only [Af,Ah,Ar];omega) fun v102=> ?_)
       refine gz8 ?_;have hno:=zsj (c:=some c0) (S:=b.League.Slots) (k:=k) (by rw [zyz hsk hz2 hz3,hsx];clear hz2 hz3 hz1 hdl hdp hdn;simp_all);exact ⟨k+1,v102,v,⟨by omega,trivial⟩,uD,⟨rfl,rfl,rfl,trivial⟩,uK,zl (by dsimp only;rw [hno.2,hno.1,hsx];simp only [Ay];try rfl)⟩
     ·refine gz2 ?_
      first
      |refine zd (Ghost.perm (M':=[.cells b20 (zb (zaw ⟨x.Key,(zcN c0 k)⟩)),.arr v98 1 ((zbS (zae (dsL b t w n) (some c0) b.League.Slots k)).map .str++[.str (zcN c0 k)]),.arr u 2 ((zae (dsL b t w n) (some c0) b.League.Slots k).map zaw)]) (zl rfl)) ?_
      |refine zd (Ghost.perm (M':=[.cells b20 (zb (zaw ⟨x.Key,[]⟩)),.arr v 1 ((zbS (zae (dsL b t w n) (some c0) b.League.Slots k)).map .str),.arr u 2 ((zae (dsL b t w n) (some c0) b.League.Slots k).map zaw)]) (zl rfl)) ?_
      |refine zd (Ghost.perm (M':=[.cells b20 (zb (zaw ⟨x.Key,[]⟩)),.arr v 1 ((zbS (zae (dsL b t w n) C b.League.Slots k)).map .str),.arr u 2 ((zae (dsL b t w n) C b.League.Slots k).map zaw)]) (zl rfl)) ?_
      refine zd (zaN 20 (i:=0) rfl rfl) ?_
      first|have hfn2:(zae (dsL b t w n) (some c0) b.League.Slots k).length=k:=zcr (dsL b t w n) (some c0) b.League.Slots k|have hfn2:(zae (dsL b t w n) C b.League.Slots k).length=k:=zcr (dsL b t w n) C b.League.Slots k
      refine gz3 ?_;refine dq (za (hs:=[_]) zjp zgq rfl rfl (by decide) (by decide) rfl) ?_;refine de rfl (zH (i:=1) zjp zgq rfl rfl rfl rfl rfl (by simp [zan,zb]) (by simp only [Af,Ah,Ar];omega) fun v102=> ?_)
      refine gz8 ?_;have hcn:C=none:=by cases C with|none=>rfl|some c0=>simp_all
      subst hcn;have hno:=zsj (l:=(dsL b t w n)) (c:=none) (S:=b.League.Slots) (k:=k) rfl;exact ⟨k+1,v102,v,⟨by omega,trivial⟩,uD,⟨rfl,rfl,rfl,trivial⟩,uK,zl (by dsimp only;rw [hno.2,hno.1,hsx];simp only [Ay];try rfl)⟩
    ·have hnk:b.League.Slots.length<=k:=by omega
     obtain rfl:k=b.League.Slots.length:=by omega
     refine gz2 ?_;refine zcE ?_;refine gz2 ?_;have hwn0:=zxA (zae (dsL b t w n) C b.League.Slots b.League.Slots.length);have hfn0:(zae (dsL b t w n) C b.League.Slots b.League.Slots.length).length=b.League.Slots.length:=zcr (dsL b t w n) C b.League.Slots b.League.Slots.length;refine gz6 ?_;refine dq ((by first|exact zk za8 rfl ty9 (by decide) rfl|exact zf za8 rfl ty9 (by decide) rfl)) ?_;refine gz1 ?_;refine de rfl (ze1 (hs':=[.slice 1 ((zbS (zae (dsL b t w n) C b.League.Slots b.League.Slots.length)).map .str),.str (zcD C).Captain]) zgG rfl ⟨.arr (i:=0) rfl,.weak (Weak.refl _),trivial⟩ (zG (l:=zbS (zae (dsL b t w n) C b.League.Slots b.League.Slots.length)) (s:=(zcD C).Captain) uO) rfl ?_)
     refine gz1 ?_;refine uCo (fun h11=> ?_) fun h12=> ?_
     ·refine gz1 ?_;refine dq ((by first|exact zk za8 rfl ty9 (by decide) rfl|exact zf za8 rfl ty9 (by decide) rfl)) ?_;refine zdw ?_
      first
      | (have q1:fdE b t w n=wlE b w n:=zjS (by simpa using h2)
         have q2:fdE b t w n≠0:=by rw [q1];simpa using h2
         refine zbV rfl (zcb (by rw [FdF,if_pos q2];exact zD 2) (by rw [FdP,if_pos q2];exact Weak.refl _) (by rw [FdL,if_pos q2];exact zD 5) (by rw [q1];exact Weak.refl _)))
      | (have q1:fdE b t w n=zht (dsL b t w n):=zhA hz
         have q2:fdE b t w n≠0:=by rw [q1];simpa using h3
         refine zbV rfl (zcb (by rw [FdF,if_pos q2];exact zD 2) (by rw [FdP,if_pos q2];exact Weak.refl _) (by rw [FdL,if_pos q2];exact zD 5) (by rw [q1];exact Weak.refl _)))
      | (refine zA ((zay 8 (i:=1) rfl rfl).trans Ghost.clear) rfl ⟨?_,rfl⟩
         rw [FdL,FdF,FdP,if_neg (fun q=>q hfz),if_neg (fun q=>q hfz),if_neg (fun q=>q hfz),hfz];unfold fdP fdF fdC;rw [hC,zqu]
         rcases BX ((zbS (zae (dsL b t w n) C b.League.Slots b.League.Slots.length)).contains (zcD C).Captain) with q7|q7
         ·rw [if_pos q7];first|done|rfl|(exfalso;simp_all)
         ·rw [if_neg (by rw [q7];simp)];first|done|rfl|(exfalso;simp_all))
     ·refine zdf ?_
      first
      | (have q1:fdE b t w n=wlE b w n:=zjS (by simpa using h2)
         have q2:fdE b t w n≠0:=by rw [q1];simpa using h2
         refine zbV rfl (zcb (by rw [FdF,if_pos q2];exact zD 2) (by rw [FdP,if_pos q2];exact Weak.refl _) (by rw [FdL,if_pos q2];exact zD 5) (by rw [q1];exact Weak.refl _)))
      | (have q1:fdE b t w n=zht (dsL b t w n):=zhA hz
         have q2:fdE b t w n≠0:=by rw [q1];simpa using h3
         refine zbV rfl (zcb (by rw [FdF,if_pos q2];exact zD 2) (by rw [FdP,if_pos q2];exact Weak.refl _) (by rw [FdL,if_pos q2];exact zD 5) (by rw [q1];exact Weak.refl _)))
      | (refine zA ((zay 8 (i:=1) rfl rfl).trans Ghost.clear) rfl ⟨?_,rfl⟩
         rw [FdL,FdF,FdP,if_neg (fun q=>q hfz),if_neg (fun q=>q hfz),if_neg (fun q=>q hfz),hfz];unfold fdP fdF fdC;rw [hC,zqu]
         rcases BX ((zbS (zae (dsL b t w n) C b.League.Slots b.League.Slots.length)).contains (zcD C).Captain) with q7|q7
         ·rw [if_pos q7];first|done|rfl|(exfalso;simp_all)
         ·rw [if_neg (by rw [q7];simp)];first|done|rfl|(exfalso;simp_all))
 ·refine gz7 ?_;refine zam rfl (fun h13=> ?_) (fun h13=> ?_)
  ·try simp at h13
   refine gz8 ?_
   first
   | (have q1:fdE b t w n=wlE b w n:=zjS (by simpa using h2)
      have q2:fdE b t w n≠0:=by rw [q1];simpa using h2
      refine zbV rfl (zcb (by rw [FdF,if_pos q2];exact zD 2) (by rw [FdP,if_pos q2];exact Weak.refl _) (by rw [FdL,if_pos q2];exact zD 5) (by rw [q1];exact Weak.refl _)))
   | (have q1:fdE b t w n=zht (dsL b t w n):=zhA hz
      have q2:fdE b t w n≠0:=by rw [q1];simpa using h3
      refine zbV rfl (zcb (by rw [FdF,if_pos q2];exact zD 2) (by rw [FdP,if_pos q2];exact Weak.refl _) (by rw [FdL,if_pos q2];exact zD 5) (by rw [q1];exact Weak.refl _)))
   | (refine zA ((zay 8 (i:=1) rfl rfl).trans Ghost.clear) rfl ⟨?_,rfl⟩
      rw [FdL,FdF,FdP,if_neg (fun q=>q hfz),if_neg (fun q=>q hfz),if_neg (fun q=>q hfz),hfz];unfold fdP fdF fdC;rw [hC,zqu]
      rcases BX ((zbS (zae (dsL b t w n) C b.League.Slots b.League.Slots.length)).contains (zcD C).Captain) with q7|q7
      ·rw [if_pos q7];first|done|rfl|(exfalso;simp_all)
      ·rw [if_neg (by rw [q7];simp)];first|done|rfl|(exfalso;simp_all))
  ·exfalso
   try simp at h13
   simp_all
theorem zfc [Tracks] {a b:ScorerS} (ha:a.Positions.length<=1000000):ConP prog 18 [zbm a,zbm b] (.bool (zf9 a b)):=by
 refine uOb func18 ntmps18 ?_;refine zfe ?_;refine uGr rfl (fun hc=>zO (h:=eSs a.Positions) zo rfl rfl rfl) ?_;refine gz1 ?_;refine uGr rfl (fun hc=>zO (h:=eSs b.Positions) zo rfl rfl rfl) ?_;refine uGr rfl (fun hc=>uCl ca51 rfl (zi8 (l:=a.Positions) (m:=b.Positions) ha)) ?_;refine gz3 ?_;refine uGr rfl (fun hc=>zP (h':= .agg [.int .i64 a.Num,.int .i64 a.Den]) (zav zaM rfl rfl (Ak rfl)) rfl) ?_;refine gz1 ?_;refine uGr rfl (fun hc=>zP (h':= .agg [.int .i64 b.Num,.int .i64 b.Den]) (zav zaM rfl rfl (Ak rfl)) rfl) ?_;refine uGr rfl (fun hc=>zw2 zaM zwu rfl rfl ⟨rfl,⟨_,_,_,_,ty3,rfl⟩,⟨rfl,⟨_,_,_,_,ty3,rfl⟩,trivial⟩⟩) ?_;refine gz6 ?_;refine uGr rfl (fun hc=>zoo ty4 rfl rfl) ?_;refine gz4 ?_;refine zu rfl ?_
 show HVal.bool _=_
 unfold zf9
 focus first|rfl|(simp [zfy,eqH];done)|(cases a.Player==b.Player<;>cases a.Positions==b.Positions<;>simp_all [zfy,eqH])
theorem zcY [Tracks] {l m:List ScorerS} {fid:FuncId} (hca:Callable prog fid) (hp: ∀x∈l,∀y,ConP prog fid [zbm x,zbm y] (.bool (zf9 x y))) (hl:l.length<=1000000):ConP prog 17 [.slice 5 (l.map zbm),.slice 5 (m.map zbm),.fn (.func fid) [] []] (.bool (zj8 zf9 l m)):=by
 refine uOb func17 ntmps17 ?_;refine zcg ?_;refine uCo (fun h1=> ?_) fun h2=> ?_
 refine gz4 ?_;refine zu rfl ?_
 show HVal.bool _=_
 first|(congr 1;symm;exact znZ uO)|(rw [hg.2,zj8,show zf9 x y=false by simpa using h5];rfl)|(rw [hg.2,zz (Bj hg.1.symm)];rfl)
 refine gz9 ?_;refine uT1 [6,4,17,15] (fun k=>[(17,.int .i64 k)]) (fun k=>[]) (fun k=>k<=l.length/\(l.length=m.length/\zj8 zf9 l m=zj8 zf9 (l.drop k) (m.drop k))) (fun k=>l.length-k) (0) ?_ ?_;refine ⟨Ad _,?_,rfl⟩
 omega
 rintro k ⟨hk,hg⟩;refine gz4 ?_;refine uCo (fun h3=> ?_) fun h4=> ?_
 obtain ⟨x,hx⟩: ∃x,l[k]? =some x:=⟨_,Aa h3⟩
 have hdx:=zi hx;obtain ⟨y,hy⟩: ∃y,m[k]? =some y:=⟨_,Aa uO⟩
 rw [hdx,zi hy] at hg;refine gz8 ?_;refine de rfl (zg zcz rfl fun b8=> ?_)
 refine gz1 ?_;refine de0 (zj zcz rfl rfl rfl rfl rfl ?_)
 refine gz1 ?_;refine zd (zm 8 rfl) ?_;refine gz3 ?_;refine dq (zB (j:=k) (a:=y) zlA zcz rfl rfl rfl hy) ?_;refine gz1 ?_;refine de rfl (zg zcz rfl fun b9=> ?_)
 refine de0 (zj zcz rfl rfl rfl rfl rfl ?_)
 refine gz1 ?_;refine zd (zm 9 rfl) ?_;refine gz2 ?_;refine dq (zZ (h:=zbm x) zcz rfl rfl rfl rfl) ?_;refine dq (zZ (h:=zbm y) zcz rfl rfl rfl rfl) ?_;refine dq (zag hca rfl rfl (WeakL.refl _) (hp _ (Ab hx) _)) ?_;refine gz2 ?_;refine uCo (fun h5=> ?_) fun h6=> ?_
 refine gz4 ?_;refine zu rfl ?_
 show HVal.bool _=_
 first|(congr 1;symm;exact znZ uO)|(rw [hg.2,zj8,show zf9 x y=false by simpa using h5];rfl)|(rw [hg.2,zz (Bj hg.1.symm)];rfl)
 refine gz7 ?_;refine ⟨k+1,?_,?_,⟨rfl,trivial⟩,uK,Ac _⟩
 refine ⟨by omega,hg.1,?_⟩
 rw [hg.2,zj8,show zf9 x y=true by simpa using h6];rfl
 dsimp only;omega
 have hnk:l.length<=k:=by omega
 obtain rfl:k=l.length:=by omega
 rw [zz (Ae _)] at hg;refine gz2 ?_;refine zv ?_;refine gz6 ?_;refine zu rfl ?_
 show HVal.bool _=_
 first|(congr 1;symm;exact znZ uO)|(rw [hg.2,zj8,show zf9 x y=false by simpa using h5];rfl)|(rw [hg.2,zz (Bj hg.1.symm)];rfl)
theorem zaV [Tracks] {l m:List FillS} (hl:l.length<=1000000):ConP prog 19 [zf6 l,zf6 m] (.bool (zea zaw l m)):=by
 refine uOb func19 ntmps19 ?_;refine zcg ?_;refine uCo (fun h1=> ?_) fun h2=> ?_
 refine gz4 ?_;refine zu rfl ?_
 show HVal.bool _=_
 first|(congr 1;symm;exact zjR uO)|(rw [hg.2,zea,show zn0 zaw x y=false from h5];rfl)|(rw [hg.2,zz (Bj hg.1.symm)];rfl)
 refine gz9 ?_;refine uT1 [4,2,13,13] (fun k=>[(13,.int .i64 k)]) (fun k=>[]) (fun k=>k<=l.length/\(l.length=m.length/\zea zaw l m=zea zaw (l.drop k) (m.drop k))) (fun k=>l.length-k) (0) ?_ ?_;refine ⟨Ad _,?_,rfl⟩
 omega
 rintro k ⟨hk,hg⟩;refine gz4 ?_;refine uCo (fun h3=> ?_) fun h4=> ?_
 obtain ⟨x,hx⟩: ∃x,l[k]? =some x:=⟨_,Aa h3⟩
 have hdx:=zi hx;obtain ⟨y,hy⟩: ∃y,m[k]? =some y:=⟨_,Aa uO⟩
 rw [hdx,zi hy] at hg;refine gz8 ?_;refine uDr mixed ?_;refine gz8 ?_;refine uB 8 rfl (zgV zgq eq74 rfl rfl ⟨rfl,⟨_,_,_,_,ty9,rfl⟩,⟨rfl,⟨_,_,_,_,ty9,rfl⟩,trivial⟩⟩) ?_;refine gz1 ?_;refine uCo (fun h5=> ?_) fun h6=> ?_
 refine gz4 ?_;refine zu rfl ?_
 show HVal.bool _=_
 first|(congr 1;symm;exact zjR uO)|(rw [hg.2,zea,show zn0 zaw x y=false from h5];rfl)|(rw [hg.2,zz (Bj hg.1.symm)];rfl)
 refine gz7 ?_;refine ⟨k+1,?_,?_,⟨rfl,trivial⟩,uK,Ac _⟩
 refine ⟨by omega,hg.1,?_⟩
 rw [hg.2,zea,show zn0 zaw x y=true from h6];rfl
 dsimp only;omega
 have hnk:l.length<=k:=by omega
 obtain rfl:k=l.length:=by omega
 rw [zz (Ae _)] at hg;refine gz2 ?_;refine zv ?_;refine gz6 ?_;refine zu rfl ?_
 show HVal.bool _=_
 first|(congr 1;symm;exact zjR uO)|(rw [hg.2,zea,show zn0 zaw x y=false from h5];rfl)|(rw [hg.2,zz (Bj hg.1.symm)];rfl)
theorem ztm [Tracks] {b:BookS} {n w:Int} (hT:Tracks.on=false) (hb:BookC b):ConP prog 9 [zaP b,.int .i64 w,.int .i64 n] (.tup [zbJ (LnL b w n),.int .i64 (LnE b w n)]):=by
 refine uOb func9 ntmps9 ?_;refine gz7 ?_;refine dq (zZ (h:=zaP b) zdr rfl rfl rfl rfl) ?_;refine dq (uCl ca29 rfl (zjL (b:=b) hT hb.bb hb.hw)) ?_;refine gz6 ?_;refine uCo (fun h1=> ?_) fun h2=> ?_
 refine gz6 ?_
 focus first
 | (obtain ⟨q1,q2⟩:=ztQ (w:=w) (n:=n) (by simpa using h1)
    exact zbV rfl (zbM (by rw [q2];exact zD 3) (by rw [q1];exact Weak.refl _)))
 | (have hbz:zbz b=0:=by simpa using h2
    obtain ⟨q1,q2⟩:=ztP (w:=w) (n:=n) hbz (fun q=>by obtain ⟨q3,q4⟩:=q;rw [q3,q4] at h3;simp at h3);exact zbV rfl (zbM (by rw [q2];exact zD 3) (by rw [q1];exact Weak.refl _)))
 | (refine zu rfl ?_
    rw [hlz,hll])
 refine gz5 ?_;refine dq (uCl zli rfl zcL) ?_;refine gz3 ?_;refine uGr rfl (fun hc=>uCl zj6 rfl zbO) ?_;refine gz3 ?_;refine uCo (fun h3=> ?_) fun h4=> ?_
 refine gz5 ?_
 focus first
 | (obtain ⟨q1,q2⟩:=ztQ (w:=w) (n:=n) (by simpa using h1)
    exact zbV rfl (zbM (by rw [q2];exact zD 3) (by rw [q1];exact Weak.refl _)))
 | (have hbz:zbz b=0:=by simpa using h2
    obtain ⟨q1,q2⟩:=ztP (w:=w) (n:=n) hbz (fun q=>by obtain ⟨q3,q4⟩:=q;rw [q3,q4] at h3;simp at h3);exact zbV rfl (zbM (by rw [q2];exact zD 3) (by rw [q1];exact Weak.refl _)))
 | (refine zu rfl ?_
    rw [hlz,hll])
 refine gz2 ?_;have hbz:zbz b=0:=by simp_all
 have hX:=zpb hbz;obtain ⟨hwk,hnm⟩:zar w=true/\zN n=true:=by simp_all
 obtain ⟨hlz,hll⟩:=zBa (zwM hbz hwk hnm);refine gz2 ?_;refine dq (zC (cs:=[_,_]) zqk zCM rfl) ?_;refine gz1 ?_;refine dq (uCl ca32 rfl (zi1 (b:=b) (n:=n) (w:=w) hT hb hX hwk hnm)) ?_;refine gz6 ?_
 focus first
 | (obtain ⟨q1,q2⟩:=ztQ (w:=w) (n:=n) (by simpa using h1)
    exact zbV rfl (zbM (by rw [q2];exact zD 3) (by rw [q1];exact Weak.refl _)))
 | (have hbz:zbz b=0:=by simpa using h2
    obtain ⟨q1,q2⟩:=ztP (w:=w) (n:=n) hbz (fun q=>by obtain ⟨q3,q4⟩:=q;rw [q3,q4] at h3;simp at h3);exact zbV rfl (zbM (by rw [q2];exact zD 3) (by rw [q1];exact Weak.refl _)))
 | (refine zu rfl ?_
    rw [hlz,hll])
end
section
open Go.Proofs.Tryz
open Go.HL
theorem zpp [Tracks] {l:List GameS} (hb: ∀x∈l,GamB x) (hl:l.length<=1000000) {v:Value}:
 Con prog 122 [.raw v,.fn (.func 123) [] []] [.arr v 8 (l.map zbb)] fun x M'=> ∃l':List GameS,x= .tup []/\l'.Perm l/\l'.Pairwise (fun a b=> ¬zg5 b a<0)/\M'=[.arr v 8 (l'.map zbb)]:=by
 have h:=zpy (e:=fun x:{m:GameS//GamB m}=>zbb x.1) zAq (Tryz.isAgg192) (Tryz.sizeOf192) (fun _=>rfl) (fun _=>rfl) (fun _=>rfl) (c:=fun x y=>zg5 x.1 y.1) (zkZ zy1) zDt (fun x y=> @zif zgj x.1 y.1 x.2.week y.2.week) (l:=l.attachWith _ hb) (by simpa using hl) (v:=v);rw [zrZ hb zbb] at h;refine h.mono fun x M' ⟨l',e1,hp,hw,e2⟩=>⟨l'.map Subtype.val,e1,?_,?_,?_⟩
 have h9:=hp.map Subtype.val;rw [znt hb] at h9;exact h9;exact List.pairwise_map.2 hw;rw [e2,AW];rfl
theorem zgz [Tracks] {T:List Str} {W p n:Int} (hT:T.length<=1000000) (hW:1<=W/\W<=10) (hp:0<=p/\p<=10) (hn:2<=n/\n<=10):ConP prog 218 [.int .i64 W,.int .i64 p,.vptr [.int .i64 n] 0,.vptr [eSs T] 0] (.str (onS T W p n)):=by
 obtain ⟨o1,o2,o3⟩:=zIZ (W:=W) hp hn;refine uOb func218 ntmps218 ?_;refine gz7 ?_;refine uVj [7,1,9,17] (fun (i1:Int)=>[(7,.int .i64 i1)]) (fun (i1:Int)=>[]) (fun (i1:Int)=>i1=onI W p n) ?_ ?_
 skip
 refine gz4 ?_;refine uCo (fun h1=> ?_) fun h2=> ?_
 refine zh8 mixed ?_;refine gz7 ?_;refine uB 7 rfl (zdp (n:=n-1) rfl rfl uO) ?_;refine gz5 ?_;refine uB 13 rfl (zdp (n:=n-1) rfl rfl uO) ?_;refine gz3 ?_;exact ⟨1+((p-1-(W-1)).tmod (n-1)+(n-1)).tmod (n-1),by rw [onI,if_pos h1],⟨rfl,trivial⟩,uK,Ac _⟩;refine gz1 ?_;exact ⟨p,by rw [onI,if_neg uO],⟨rfl,trivial⟩,uK,Ac _⟩
 intro i1 hi1
 have hi0:0<=i1:=by rw [hi1];exact o3
 refine gz7 ?_;refine uCo (fun h3=> ?_) fun h4=> ?_
 refine gz4 ?_;refine zu rfl ?_
 show HVal.str _=_
 (rw [onS,if_pos uO])
 refine gz5 ?_;refine dq (zB (f:=HVal.str) (l:=T) (j:=i1.toNat) (a:=T.getD i1.toNat []) zo ty9 rfl rfl uO (getD_some uO)) ?_;refine gz4 ?_;refine zu rfl ?_
 show HVal.str _=_
 (rw [onS,if_neg uO,<-hi1])
theorem zmv [Tracks] {T:List Str} (hT:2<=T.length/\T.length<=4):Con prog 121 [eSs T,.int .i64 3] [] (fun x M'=> ∃k,x=zm8 k/\GoodGas k/\M'=[]):=by
 obtain ⟨n1,n2,n3,n4⟩:=zGd hT;refine uOb func121 ntmps121 ?_;refine gz9 ?_;refine dq (zdp rfl rfl uO) ?_;refine dq (zP (h':= .int .i64 (nOf T)) (zbt rfl rfl uO uO) rfl) ?_;refine de rfl (zg ty3 rfl fun b5=> ?_)
 refine de0 (uY 0 ?_)
 refine gz1 ?_;refine zd (zaN 5 (i:=0) rfl rfl) ?_;refine gz7 ?_;refine zd (zJ 8) ?_;refine gz5 ?_;refine uV2 [7,5,19,56] (fun (w:Nat) (q:GL GameS)=>[(8,.int .i64 ((w:Int)+1)),(7,.raw q.u)]) (fun (w:Nat) (q:GL GameS)=>[.arr q.u 8 (q.out.map zbb)]) (fun (w:Nat) (q:GL GameS)=>w<=3/\GLok GamB (2*w) 0 q) (fun (w:Nat) (q:GL GameS)=>3-w) (0) (⟨.slice none 0 0,[],0⟩) ?_ ?_ ?_ ?_;exact ⟨by omega,⟨by simp,by simp,by simp⟩⟩;exact ⟨zU uO,rfl,trivial⟩;exact Ac _
 intro w q hinv
 obtain ⟨hw,hq⟩:=hinv;obtain ⟨u,out,a2⟩:=q;obtain ⟨g1,g2,g3⟩:=id hq;dsimp only at g1 g2 g3;refine gz6 ?_;refine uCo (fun h1=> ?_) fun h2=> ?_
 refine gz6 ?_;refine dq (zP (h':= .int .i64 (mOf T)) (zbZ rfl rfl uO uO uO) rfl) ?_;refine gz3 ?_;refine uU2 [7,1,9,3,26,49] (fun (j:Nat) (q2:GL GameS)=>[(26,.int .i64 (j:Int)),(7,.raw q2.u)]) (fun (j:Nat) (q2:GL GameS)=>[.arr q2.u 8 (q2.out.map zbb)]) (fun (j:Nat) (q2:GL GameS)=>(j:Int)<=mOf T/\GLok GamB (2*w+j) 0 q2) (fun (j:Nat) (q2:GL GameS)=>(mOf T).toNat-j) (0) (⟨u,out,0⟩) ?_ ?_;exact ⟨by omega,⟨uD,g2,by simp⟩⟩;rintro j q2 ⟨hj,hq2⟩;obtain ⟨u,out,a2⟩:=q2;obtain ⟨g1,g2,g3⟩:=id hq2;dsimp only at g1 g2 g3;refine gz4 ?_;refine uCo (fun h3=> ?_) fun h4=> ?_
 refine gz8 ?_;refine uDr mixed ?_;refine gz4 ?_;refine uB 4 rfl (zag zDP rfl rfl (WeakL.refl _) (zgz (T:=T) (W:=((w:Int)+1)) (p:=(j:Int)) (n:=nOf T) uO uO uO uO)) ?_;refine gz3 ?_;refine uB 8 rfl (ziv (m:=nOf T) rfl rfl uO uO) ?_;refine gz1 ?_;refine uB 10 rfl (ziv (m:=nOf T-1) rfl rfl uO uO) ?_;refine uB 11 rfl (zag zDP rfl rfl (WeakL.refl _) (zgz (T:=T) (W:=((w:Int)+1)) (p:=(nOf T-1-j)) (n:=nOf T) uO uO uO uO)) ?_;refine uB 12 rfl (zC (cs:=[_,_,_,_,_,_,_,_]) zcS zI4 rfl) ?_;refine uF 13 ?_;refine zw rfl (zg zcS rfl fun b10=> ?_)
 refine ⟨uE,?_⟩
 refine uF 14 ?_;refine zI (uY 0 ?_)
 refine ⟨uE,?_⟩
 refine gz3 ?_;refine dq (zdp rfl rfl uO) ?_;refine gz3 ?_;refine uVj [11,1,45,10] (fun (tn:Bool)=>[(11,.bool tn)]) (fun (tn:Bool)=>[.cells b10 (zb (zbb (⟨(w:Int)+1,onS T ((w:Int)+1) j (nOf T),onS T ((w:Int)+1) (nOf T-1-j) (nOf T),false,0,0,0,0⟩:GameS))),.arr u 8 (out.map zbb)]) (fun (tn:Bool)=>True) ?_ ?_
 skip
 refine gz4 ?_;refine uCo (fun h5=> ?_) fun h6=> ?_
 refine gz4 ?_;refine dq (ziv (m:=nOf T) rfl rfl uO uO) ?_;refine dq (zbZ (n:=nOf T-1) rfl rfl uO uO uO) ?_;refine dq (zdp rfl rfl uO) ?_;refine gz1 ?_;refine dq (zCU ty4 rfl rfl) ?_;refine gz2 ?_;exact ⟨_,trivial,⟨rfl,trivial⟩,uK,zl rfl⟩;refine gz1 ?_;exact ⟨_,trivial,⟨rfl,trivial⟩,uK,zl rfl⟩
 intro tn _
 refine uVj [55,7] (fun (g5:GameS)=>[]) (fun (g5:GameS)=>[.cells b10 (zb (zbb g5)),.arr u 8 (out.map zbb)]) (fun (g5:GameS)=>GamB g5) ?_ ?_
 skip
 refine gz3 ?_;refine uCo (fun h7=> ?_) fun h8=> ?_
 refine gz2 ?_;refine de rfl (uZ 0 ?_)
 refine gz1 ?_;refine de rfl (uZ 0 ?_)
 refine gz1 ?_;refine de0 (uY 0 ?_)
 refine gz1 ?_;refine de0 (uY 0 ?_)
 refine gz1 ?_;exact ⟨(⟨(w:Int)+1,onS T ((w:Int)+1) (nOf T-1-j) (nOf T),onS T ((w:Int)+1) j (nOf T),false,0,0,0,0⟩:GameS),zyg uO,trivial,uK,zl rfl⟩;refine gz1 ?_;exact ⟨(⟨(w:Int)+1,onS T ((w:Int)+1) j (nOf T),onS T ((w:Int)+1) (nOf T-1-j) (nOf T),false,0,0,0,0⟩:GameS),zyg uO,trivial,uK,zl rfl⟩
 intro g5 hg5
 refine gz2 ?_;refine de rfl (uZ 0 ?_)
 refine gz3 ?_;refine dgl rfl rfl (fun hc=>⟨_,OpenTo.upd (t:=66) rfl (hc) (OpenTo.refl _),zV (i:=0) ty9 rfl rfl (.inl ⟨rfl,rfl⟩) ⟨rfl,rfl⟩⟩) ?_;refine gz3 ?_;refine uCo (fun h9=> ?_) fun h10=> ?_
 refine gz2 ?_;refine de rfl (zeh (i:=0) (h:=zbb g5) zcS rfl rfl rfl rfl rfl ?_)
 refine dq (za (hs:=[_]) zgZ zcS rfl rfl (by decide) (by decide) rfl) ?_;refine de rfl (zH (i:=1) zgZ zcS rfl rfl rfl rfl rfl (by simp [zan,zb,zaT,zbw]) uSo fun v73=> ?_)
 refine gz4 ?_;refine zd Ghost.drop ?_;refine gz4 ?_;exact ⟨j+1,⟨v73,out++[g5],0⟩,⟨by omega,hq2.add (x:=g5) hg5 uO⟩,uD,⟨rfl,rfl,trivial⟩,uK,zl (by dsimp only;rw [Ay];rfl)⟩;refine gz3 ?_;refine zd Ghost.drop ?_;refine gz4 ?_;exact ⟨j+1,⟨u,out,0⟩,⟨by omega,hq2.same uO⟩,uD,⟨rfl,rfl,trivial⟩,uK,zl rfl⟩;refine gz2 ?_;refine zQ ?_;refine gz8 ?_;exact ⟨w+1,⟨u,out,0⟩,⟨by omega,⟨uD,g2,by simp⟩⟩,uD,⟨zU uO,rfl,trivial⟩,uK,zl rfl⟩;refine gz2 ?_;refine zQ ?_;refine gz4 ?_;refine de rfl (uCx 0 zDs rfl rfl (zpp (l:=out) g2 uO) ?_)
 rintro _ _ ⟨Z,rfl,hz1,hz2,rfl⟩;have hzl:=hz1.length_eq;refine gz6 ?_;exact zA (zay 4 (i:=0) rfl rfl) rfl ⟨Z,rfl,⟨by omega,fun x hx=>g2 x (hz1.mem_iff.1 hx)⟩,rfl⟩
end
section
open Go.Proofs.Tryz
open Go.HL
theorem znH [Tracks] {a b:Str}:ConP prog 278 [.str a,.str b] (.int .i64 (zY a b)):=by
 refine uOb func278 ntmps278 ?_;refine gz5 ?_;refine dq (uCl zvE rfl ze0) ?_;refine gz4 ?_;refine dq (uCl zvE rfl ze0) ?_;refine gz6 ?_;refine ze5 rfl ?_;refine gz6 ?_;refine ze5 rfl ?_;refine gz8 ?_;refine uCo (fun h1=> ?_) fun h2=> ?_
 refine gz4 ?_;refine uRp ?_;rw [zha]
 (rw [if_pos (by assumption)])
 refine gz8 ?_;refine uCo (fun h3=> ?_) fun h4=> ?_
 refine gz4 ?_;refine uRp ?_;rw [zha]
 (rw [if_neg uSa,if_neg uSa])
 refine gz6 ?_;refine uRp ?_;rw [zha]
 (rw [if_neg uSa];simp_all)
theorem ziD [Tracks] {l m:List Str} (hl:l.length<=1000000) (hm:m.length<=1000000):ConP prog 211 [eSs l,eSs m] (.int .i64 (zhY l m)):=by
 refine uOb func211 ntmps211 ?_;refine zau ?_;refine uT1 [4,5,11,20] (fun k=>[(11,.int .i64 k)]) (fun k=>[]) (fun k=>k<=l.length/\(k<=m.length/\zhY l m=zhY (l.drop k) (m.drop k))) (fun k=>l.length-k) (0) ?_ ?_;exact ⟨Ad _,Ad _,rfl⟩;rintro k ⟨hk,⟨hkm,hg⟩⟩;refine gz4 ?_;refine uCo (fun h1=> ?_) fun h2=> ?_
 obtain ⟨x,hx⟩: ∃x,l[k]? =some x:=⟨_,Aa h1⟩
 have hdx:=zi hx;rw [hdx] at hg;refine zCi ?_;refine uCo (fun h3=> ?_) fun h4=> ?_
 refine gz4 ?_;refine uRp ?_
 (rw [hg,zB2 (.inr (BP uO)) (by simp)])
 refine gz5 ?_;refine dq (zB (j:=k) (a:=m.getD k []) zo ty9 rfl rfl rfl (getD_some uO)) ?_;refine gz6 ?_;refine dq (uCl zIl rfl znH) ?_;refine gz6 ?_;refine uCo (fun h5=> ?_) fun h6=> ?_
 refine gz5 ?_;refine uRp ?_
 (rw [hg,znV (m:=m) (k:=k) h4,zAF (by rw [Ag];exact h5)])
 refine gz7 ?_;refine ⟨k+1,?_,?_,⟨rfl,trivial⟩,uK,Ac _⟩
 refine ⟨by omega,by omega,?_⟩
 rw [hg,znV (m:=m) (k:=k) h4];exact zAE (by rw [Ag];exact h6)
 dsimp only;omega
 have hnk:l.length<=k:=by omega
 obtain rfl:k=l.length:=by omega
 rw [zz (Ae _)] at hg;refine gz2 ?_;refine zv ?_;refine zau ?_;refine uCo (fun h7=> ?_) fun h8=> ?_
 refine gz4 ?_;refine uRp ?_
 (rw [hg,zwj,if_pos uO])
 refine gz6 ?_;refine uRp ?_
 (rw [hg,zwj,if_neg uO])
theorem znw [Tracks] {l:List FixS} {v:Value} {fid:FuncId} {caps:List HVal} {p:FixS->FixS->Bool} (hca:Callable prog fid) (hp: ∀x y,ConP prog fid ([zbl x,zbl y]++caps) (.bool (p x y))) (hl:l.length<=1000000):Con prog 212 [.raw v,.fn (.func fid) [] caps] [.arr v 4 (l.map zbl)] (fun x M'=> ∃(u:Value) (D:List FixS),x= .raw u/\(D.length<=l.length/\∀x∈D,x∈l)/\M'=[.arr u 4 (D.map zbl)]):=by
 refine uOb func212 ntmps212 ?_;refine gz6 ?_;refine de rfl (zbq (i:=0) zdB rfl rfl ?_)
 refine gz2 ?_;refine uCo (fun h1=> ?_) fun h2=> ?_
 refine gz5 ?_;exact zaf rfl ⟨_,l,rfl,⟨Ae _,fun _ q=>q⟩,rfl⟩;refine gz3 ?_;refine zc3 (i:=0) rfl (fun h0 he=> ?_) (fun b off cap hv hcap=> ?_)
 exfalso;have:=congrArg List.length he;simp at this;subst this;simp at h2
 rw [Af] at hv hcap;subst hv;refine gz4 ?_;refine uT1 [4,4,12,53] (fun k=>[(5,.int .i64 (k:Int))]) (fun k=>[.arr (.slice (some ⟨b,off,none⟩) l.length cap) 4 (l.map zbl)]) (fun k=>1<=k/\k<=l.length) (fun k=>l.length-k) (1) ?_ ?_;exact ⟨by omega,by omega⟩;rintro k ⟨hk1,hk⟩;refine gz4 ?_;refine de rfl (zbq (i:=0) zdB rfl rfl ?_)
 refine gz2 ?_;refine uCo (fun h3=> ?_) fun h4=> ?_
 obtain ⟨x,hx⟩: ∃x,l[k]? =some x:=⟨_,Aa uO⟩
 obtain ⟨y,hy⟩: ∃y,l[k-1]? =some y:=⟨_,Aa uO⟩
 refine gz4 ?_;refine zbF (fun M=>M=[.arr (.slice (some ⟨b,off,none⟩) l.length cap) 4 (l.map zbl)]) [4,9] mixed ?_;refine gz3 ?_;refine uB 3 rfl (zM (j:=k) zdB zaX rfl rfl rfl uO) ?_;refine uM 4 rfl rfl (uW (zas (i:=0) (j:=k) zaX rfl uO rfl hx rfl rfl rfl ⟨rfl,rfl⟩)) ?_;refine gz3 ?_;refine uB 8 rfl (zM (j:=k-1) zdB zaX rfl rfl uO uO) ?_;refine uM 9 rfl rfl (uW (zas (i:=0) (j:=k-1) zaX rfl uO rfl hy rfl rfl rfl ⟨rfl,rfl⟩)) ?_;refine uB 10 rfl (zag hca rfl rfl (WeakL.refl _) (hp x y)) ?_;refine gz1 ?_;refine uCo (fun h5=> ?_) fun h6=> ?_
 refine gz3 ?_;refine dq (zfa (l:=k) (h:=l.length) zdB zaX rfl ⟨_,_,rfl,rfl⟩ rfl uO uO hcap) ?_;refine gz2 ?_;rw [zu5 uO];refine gz5 ?_;refine uU3 [5,1,7,1,32,27] (fun (k2:Nat) (kk:Nat) (D:List FixS)=>[(7,.int .i64 (k2:Int)),(5,.int .i64 (kk:Int))]) (fun (k2:Nat) (kk:Nat) (D:List FixS)=>[.arr (.slice (some ⟨b,off,none⟩) l.length cap) 4 (D.map zbl)]) (fun (k2:Nat) (kk:Nat) (D:List FixS)=>(1<=k2/\k+k2<=l.length)/\(k<=kk/\kk+1<=k+k2)/\D.length=l.length/\∀x∈D,x∈l) (fun (k2:Nat) (kk:Nat) (D:List FixS)=>l.length-k2) (1) (k) (l) ?_ ?_;exact ⟨⟨by omega,by have:=zn hx;omega⟩,⟨by omega,by omega⟩,rfl,fun _ q=>q⟩;rintro k2 kk D ⟨⟨hk2,hkk⟩,⟨hc1,hc2⟩,hDl,hDm⟩;refine gz4 ?_;refine dq (zfh zdB rfl) ?_;refine gz2 ?_;refine uCo (fun h7=> ?_) fun h8=> ?_
 obtain ⟨x2,hDx⟩: ∃x,D[k+k2]? =some x:=⟨_,Aa uO⟩
 obtain ⟨y2,hDy⟩: ∃y,D[k+k2-1]? =some y:=⟨_,Aa uO⟩
 refine gz4 ?_;refine zbF (fun M=>M=[.arr (.slice (some ⟨b,off,none⟩) l.length cap) 4 (D.map zbl)]) [4,9] mixed ?_;refine gz3 ?_;refine uB 3 rfl (zM (j:=k2) zdB zaX rfl rfl rfl uO) ?_;refine uM 4 rfl rfl (uW (zas (i:=0) (j:=(k+k2)) zaX rfl uO rfl hDx rfl rfl rfl ⟨rfl,rfl⟩)) ?_;refine gz3 ?_;refine uB 8 rfl (zM (j:=k2-1) zdB zaX rfl rfl uO uO) ?_;refine uM 9 rfl rfl (uW (zas (i:=0) (j:=(k+k2-1)) zaX rfl uO rfl hDy rfl rfl rfl ⟨rfl,rfl⟩)) ?_;refine uB 10 rfl (zag hca rfl rfl (WeakL.refl _) (hp x2 y2)) ?_;refine gz2 ?_;refine uCo (fun h9=> ?_) fun h10=> ?_
 refine gz5 ?_;refine dq (zM (j:=k2) zdB zaX rfl rfl rfl uO) ?_;refine de rfl (zas (i:=0) (j:=(k+k2)) zaX rfl uO rfl hDx rfl rfl rfl ?_)
 refine dq (zM (j:=kk) zdB zaX rfl rfl rfl uO) ?_;refine de0 (zby (i:=0) (j:=kk) (y:=D[kk]'uO) (y':=x2) zaX rfl rfl rfl rfl (Aa _) rfl rfl rfl ?_)
 refine zfe ?_;exact ⟨k2+1,kk+1,D.set kk x2,⟨⟨by omega,by omega⟩,⟨by omega,by omega⟩,by simp;omega,fun z hz=>(Ch hz).elim (hDm z) (fun q=>by rw [q];exact hDm x2 (Ab hDx))⟩,uD,⟨rfl,zU uO,trivial⟩,uK,Ac _⟩;refine gz8 ?_;exact ⟨k2+1,kk,D,⟨⟨by omega,by omega⟩,⟨by omega,by omega⟩,hDl,hDm⟩,uD,⟨rfl,rfl,trivial⟩,uK,Ac _⟩;refine gz2 ?_;refine zcE ?_;refine gz5 ?_;refine dq (zfa (l:=kk) (h:=l.length) zdB zaX rfl ⟨_,_,rfl,rfl⟩ rfl uO uO hcap) ?_;refine de0 (zeu (i:=0) (m:=kk) (kk) zdB zaX rfl rfl rfl (zh5 uO hcap) rfl uO (Ae _) (by rw [Af,hDl];omega) ?_)
 refine gz4 ?_;refine dq (zfU (h:=kk) zdB zaX rfl ⟨_,_,rfl,rfl⟩ uO) ?_;refine gz3 ?_;exact zaf rfl ⟨_,D.take kk,rfl,⟨by simp;omega,fun z hz=>hDm z (AS hz)⟩,by rw [BR];rfl⟩;refine gz8 ?_;exact ⟨k+1,⟨by omega,by omega⟩,uD,⟨rfl,trivial⟩,uK,Ac _⟩;refine gz2 ?_;refine zv ?_;refine gz7 ?_;exact zaf rfl ⟨_,l,rfl,⟨Ae _,fun _ q=>q⟩,rfl⟩
theorem zjK [Tracks] {A X C:List FixS} {ia ib:Int} {n b off cap:Nat} {fid:FuncId} {caps:List HVal} {c:FixS->FixS->Int} (hca:Callable prog fid) (hp: ∀x y,ConP prog fid ([zbl x,zbl y]++caps) (.int .i64 (c x y))) (hn:A.length+X.length+C.length=n) (hia:ia=(A.length:Int)) (hib:ib=(A.length:Int)+X.length) (hl:n<=1000000):Con prog 334 [.raw (.slice (some ⟨b,off,none⟩) n cap),.int .i64 ia,.int .i64 ib,.fn (.func fid) [] caps] [.arr (.slice (some ⟨b,off,none⟩) n cap) 4 ((A++X++C).map zbl)] (fun x M'=>x= .tup []/\M'=[.arr (.slice (some ⟨b,off,none⟩) n cap) 4 ((A++zah c X++C).map zbl)]):=by
 refine uOb func334 ntmps334 ?_;refine gz6 ?_;refine uV1 [8,2,12,41] (fun (k:Nat)=>[(8,.int .i64 ((A.length+k:Nat):Int))]) (fun (k:Nat)=>[.arr (.slice (some ⟨b,off,none⟩) n cap) 4 ((A++(zah c (X.take k)++X.drop k)++C).map zbl)]) (fun (k:Nat)=>1<=k) (fun (k:Nat)=>X.length-k) (1) ?_ ?_ ?_ ?_;exact Ae _;exact ⟨zU uO,trivial⟩;exact zl (by rw [zq3])
 intro k hk
 refine gz6 ?_;refine uCo (fun h1=> ?_) fun h2=> ?_
 obtain ⟨x,hx⟩: ∃x,X[k]? =some x:=⟨_,Aa uO⟩
 refine gz9 ?_;refine uV2 [9,1,18,35] (fun (D:List FixS) (B:List FixS)=>[(9,.int .i64 ((A.length+D.length:Nat):Int))]) (fun (D:List FixS) (B:List FixS)=>[.arr (.slice (some ⟨b,off,none⟩) n cap) 4 (((A++D)++x::(B++X.drop (k+1)++C)).map zbl)]) (fun (D:List FixS) (B:List FixS)=>D.length+B.length=k/\zeQ c x (zah c (X.take k))=zeQ c x D++B) (fun (D:List FixS) (B:List FixS)=>D.length) (zah c (X.take k)) ([]) ?_ ?_ ?_ ?_;exact ⟨by simp [zbX];omega,by simp⟩;exact ⟨zU (by simp [zbX];omega),trivial⟩;exact zl (by rw [zi hx];simp)
 intro D B hinv
 obtain ⟨hA,hB⟩:=hinv;have hlA:D.length<X.length:=by omega
 refine gz1 ?_;refine zbF (fun M=>M=[.arr (.slice (some ⟨b,off,none⟩) n cap) 4 (((A++D)++x::(B++X.drop (k+1)++C)).map zbl)]) [8,13] mixed ?_;refine gz7 ?_;refine ahg 7 rfl rfl (by kernel_rfl) (by kernel_rfl) rfl (fun hc=>by
  have hq:0<D.length:=by simp at hc;omega
  exact ⟨_,OpenTo.upd (t:=24) rfl (hc) (OpenTo.upd (t:=23) rfl (hc) (OpenTo.refl _)),zM (j:=(A++D).length) zdB zaX rfl rfl (by simp) uSo⟩) ?_
 refine ztg 8 rfl rfl (by kernel_rfl) (by kernel_rfl) (by simp) rfl rfl (fun hc=>⟨_,OpenTo.upd (t:=25) rfl (hc) (OpenTo.refl _),fun M hM=>by
  subst hM;exact zas (i:=0) (j:=(A++D).length) zaX rfl rfl rfl zkS rfl rfl rfl ⟨rfl,rfl⟩
  ⟩) ?_
 refine gz2 ?_;refine ahg 11 rfl rfl (by kernel_rfl) (by kernel_rfl) rfl (fun hc=>by
  have hq:0<D.length:=by simp at hc;omega
  exact ⟨_,OpenTo.upd (t:=28) rfl (hc) (OpenTo.refl _),ziv rfl rfl uO uO⟩) ?_
 refine ahg 12 rfl rfl (by kernel_rfl) (by kernel_rfl) rfl (fun hc=>by
  have hq:0<D.length:=by simp at hc;omega
  exact ⟨_,OpenTo.upd (t:=29) rfl (hc) (OpenTo.upd (t:=27) rfl (hc) (OpenTo.refl _)),zM (j:=(A++D).length-1) zdB zaX rfl rfl uSo uSo⟩) ?_
 refine ztg 13 rfl rfl (by kernel_rfl) (by kernel_rfl) (by simp) rfl rfl (fun hc=>⟨_,OpenTo.upd (t:=30) rfl (hc) (OpenTo.refl _),fun M hM=>by
  have hq:0<D.length:=by simp at hc;omega
  subst hM;exact zas (i:=0) (j:=(A++D).length-1) zaX rfl rfl rfl (zsn uSo) rfl rfl rfl ⟨rfl,rfl⟩
  ⟩) ?_
 refine uGy 14 rfl rfl (fun hc=>zag hca rfl rfl (WeakL.refl _) (hp _ _)) ?_;refine gz3 ?_;refine uCo (fun h3=> ?_) fun h4=> ?_
 obtain ⟨hA0,hcx⟩:=h3;obtain ⟨D1,y,rfl⟩:=zt9 (A:=D) uO;rw [zwE] at hcx;have hD1:(D1++[y]).length=D1.length+1:=by simp
 refine gz4 ?_;refine zbx (fun M=>M=[.arr (.slice (some ⟨b,off,none⟩) n cap) 4 (((A++(D1++[y]))++x::(B++X.drop (k+1)++C)).map zbl)]) [9,13] mixed ?_;refine gz8 ?_;refine uB 8 rfl (zM (j:=(A++(D1++[y])).length-1) zdB zaX rfl rfl uSo uSo) ?_;refine uM 9 rfl rfl (uW (zas (i:=0) (j:=(A++(D1++[y])).length-1) zaX rfl rfl rfl (zoc) rfl rfl rfl ⟨rfl,rfl⟩)) ?_;refine gz2 ?_;refine uB 12 rfl (zM (j:=(A++(D1++[y])).length) zdB zaX rfl rfl (by simp) uSo) ?_;refine uM 13 rfl rfl (uW (zas (i:=0) (j:=(A++(D1++[y])).length) zaX rfl rfl rfl zkS rfl rfl rfl ⟨rfl,rfl⟩)) ?_;refine uB 14 rfl (zM (j:=(A++(D1++[y])).length) zdB zaX rfl rfl (by simp) uSo) ?_;refine uF 15 ?_;refine zI (zby (i:=0) (j:=(A++(D1++[y])).length) (y:=x) (y':=y) zaX rfl rfl rfl rfl zkS rfl rfl rfl ?_)
 refine ⟨uE,?_⟩
 refine uB 16 rfl (zM (j:=(A++(D1++[y])).length-1) zdB zaX rfl rfl uSo uSo) ?_;refine uF 17 ?_;refine zI (zby (i:=0) (j:=(A++(D1++[y])).length-1) (y:=y) (y':=x) zaX rfl rfl rfl rfl (by rw [BW (by simp)];exact zoc) rfl rfl rfl ?_)
 refine ⟨uE,?_⟩
 refine gz8 ?_;exact ⟨D1,y::B,⟨by simp at hA⊢;omega,zwD hB hcx⟩,uD,⟨zU uO,trivial⟩,uK,zl (by rw [<-A9,zxu];simp)⟩;have hins:=zwC (l:=X) (k:=k) hx hB (by intro h0;have h9:=h4 uO;rw [zpT h0] at h9;omega);refine gz2 ?_;refine zQ ?_;refine gz8 ?_;exact ⟨k+1,by omega,uD,⟨zU uO,trivial⟩,uK,zl (by rw [zyq hins])⟩;have hend:zah c (X.take k)++X.drop k=zah c X:=by rw [Bz uO,zz uO];simp
 refine gz2 ?_;refine zv ?_;refine gz1 ?_;exact zaf rfl ⟨rfl,by rw [hend]⟩
theorem znS [Tracks] {l:List FixS} {n0:Int} {n b off cap:Nat} {fid:FuncId} {caps:List HVal} {c:FixS->FixS->Int} (hca:Callable prog fid) (hp: ∀x y,ConP prog fid ([zbl x,zbl y]++caps) (.int .i64 (c x y))) (hc:Cmp c fun _=>True) (hn:l.length=n) (hn0:n0=(n:Int)) (hl:n<=20):Con prog 277 [.raw (.slice (some ⟨b,off,none⟩) n cap),.int .i64 n0,.fn (.func fid) [] caps] [.arr (.slice (some ⟨b,off,none⟩) n cap) 4 ((l).map zbl)] (fun x M'=> ∃Z:List FixS,x= .tup []/\(Z.Perm l/\Srt c Z)/\M'=[.arr (.slice (some ⟨b,off,none⟩) n cap) 4 ((Z).map zbl)]):=by
 refine uOb func277 ntmps277 ?_;refine zau ?_;refine uV3 [7,2,11,12] (fun (a0:Nat) (k:Nat) (Z:List FixS)=>[(7,.int .i64 (a0:Int)),(8,.int .i64 ((a0+20:Nat):Int))]) (fun (a0:Nat) (k:Nat) (Z:List FixS)=>[.arr (.slice (some ⟨b,off,none⟩) n cap) 4 ((Z++l.drop a0).map zbl)]) (fun (a0:Nat) (k:Nat) (Z:List FixS)=>a0=20*k/\a0<=n/\Blk c 20 Z/\Z.length=a0/\Z.Perm (l.take a0)) (fun (a0:Nat) (k:Nat) (Z:List FixS)=>n-a0) (0) (0) ([]) ?_ ?_ ?_ ?_
 ·exact ⟨rfl,Ad _,Blk.nil,rfl,by simp⟩
 ·exact ⟨rfl,rfl,trivial⟩
 ·exact zl (by simp)
 ·intro a0 k Z hinv
  obtain ⟨ha0,ha1,hZ,hZl,hZp⟩:=hinv;refine gz6 ?_;refine uCo (fun h1=> ?_) fun h2=> ?_
  ·refine gz3 ?_;refine zd (zbv (M':=[.arr (.slice (some ⟨b,off,none⟩) n cap) 4 ((Z++(l.drop a0).take 20++l.drop (a0+20)).map zbl)]) (by rw [A9 Z,<-win])) ?_;refine gz5 ?_;refine de rfl (uCx 0 zzn rfl rfl (zjK (A:=Z) (X:=((l.drop a0).take 20)) (C:=(l.drop (a0+20))) (n:=n) hca hp (by first|omega|(simp;omega)) uO (by first|omega|(simp;omega)) uO) ?_)
   rintro _ _ ⟨rfl,rfl⟩;refine zdf ?_;exact ⟨a0+20,k+1,Z++zah c ((l.drop a0).take 20),⟨by omega,by omega,hZ.add (k:=k) uO (zl7 hc _) (by rw [zbX,Az];omega),by rw [Ax,zbX,Az,BB];omega,by rw [zvb];exact hZp.append (za5 c _)⟩,uD,⟨zU uO,zU uO,trivial⟩,uK,Ac _⟩
  ·refine gz2 ?_;refine zcE ?_;refine gz2 ?_;refine zd (zbv (M':=[.arr (.slice (some ⟨b,off,none⟩) n cap) 4 ((Z++l.drop a0++[]).map zbl)]) (by simp)) ?_;refine gz5 ?_;refine de rfl (uCx 0 zzn rfl rfl (zjK (A:=Z) (X:=(l.drop a0)) (C:=[]) (n:=n) hca hp (by first|omega|(simp;omega)) uO (by first|omega|(simp;omega)) uO) ?_)
   rintro _ _ ⟨rfl,rfl⟩;refine gz2 ?_;refine uV2 [6,4,28,35] (fun (bs:Nat) (D:List FixS)=>[(6,.int .i64 (bs:Int))]) (fun (bs:Nat) (D:List FixS)=>[.arr (.slice (some ⟨b,off,none⟩) n cap) 4 ((D).map zbl)]) (fun (bs:Nat) (D:List FixS)=>20<=bs/\bs<=2*n+20/\Blk c bs D/\D.Perm l) (fun (bs:Nat) (D:List FixS)=>n-bs) (20) (Z++zah c (l.drop a0)) ?_ ?_ ?_ ?_
   ·refine ⟨Ae _,by omega,hZ.add (k:=k) uO (zl7 hc _) (by rw [zbX,BB];omega),?_⟩
    have:=hZp.append (za5 c (l.drop a0))
    rwa [Bo] at this
   ·exact ⟨rfl,trivial⟩
   ·exact zl (by simp)
   ·intro bs D hinv
    obtain ⟨hb1,hb2,hD,hDp⟩:=hinv;have hDl:D.length=n:=by rw [hDp.length_eq];exact hn
    refine gz6 ?_;refine zam rfl (fun h3=> ?_) (fun h3=> ?_)
    ·exfalso
     try simp at h3
     all_goals omega
    ·try simp at h3
     refine gz2 ?_;refine zQ ?_;refine gz1 ?_;have hDs:=hD.all uO;exact zaf rfl ⟨D,rfl,⟨hDp,hDs⟩,rfl⟩
theorem zpi [Tracks] {v:Value} {fid:FuncId} {caps:List HVal}:Con prog 334 [.raw v,.int .i64 0,.int .i64 0,.fn (.func fid) [] caps] [.arr v 4 []] (fun x M'=>x= .tup []/\M'=[.arr v 4 []]):=by
 refine uOb func334 ntmps334 ?_;refine gz6 ?_;refine uU1 [8,2,12,41] (fun (u:Unit)=>[(8,.int .i64 1)]) (fun (u:Unit)=>[.arr v 4 []]) (fun (u:Unit)=>True) (fun (u:Unit)=>0) (()) ?_ ?_
 ·trivial
 ·intro u hu
  refine gz6 ?_;refine zam rfl (fun h1=> ?_) (fun h1=> ?_)
  ·exfalso
   try simp at h1
   all_goals omega
  ·try simp at h1
   refine gz2 ?_;refine zv ?_;refine gz1 ?_;exact zaf rfl ⟨rfl,rfl⟩
theorem zm5 [Tracks] {v:Value} {fid:FuncId} {caps:List HVal}:Con prog 277 [.raw v,.int .i64 0,.fn (.func fid) [] caps] [.arr v 4 []] (fun x M'=>x= .tup []/\M'=[.arr v 4 []]):=by
 refine uOb func277 ntmps277 ?_;refine zau ?_;refine uU1 [7,2,11,12] (fun (u:Unit)=>[(7,.int .i64 0),(8,.int .i64 20)]) (fun (u:Unit)=>[.arr v 4 []]) (fun (u:Unit)=>True) (fun (u:Unit)=>0) (()) ?_ ?_
 ·trivial
 ·intro u hu
  refine gz6 ?_;refine zam rfl (fun h1=> ?_) (fun h1=> ?_)
  ·exfalso
   try simp at h1
   all_goals omega
  ·try simp at h1
   refine gz2 ?_;refine zv ?_;refine gz7 ?_;refine de rfl (uCx 0 zzn rfl rfl zpi ?_)
   rintro _ _ ⟨rfl,rfl⟩;refine gz2 ?_;refine uU1 [6,4,28,35] (fun (u:Unit)=>[(6,.int .i64 20)]) (fun (u:Unit)=>[.arr v 4 []]) (fun (u:Unit)=>True) (fun (u:Unit)=>0) (()) ?_ ?_
   ·trivial
   ·intro u hu
    refine gz6 ?_;refine zam rfl (fun h2=> ?_) (fun h2=> ?_)
    ·exfalso
     try simp at h2
     all_goals omega
    ·try simp at h2
     refine gz2 ?_;refine zv ?_;refine gz1 ?_;exact zaf rfl ⟨rfl,rfl⟩
theorem zmC [Tracks] {fid:FuncId} {caps:List HVal}:Con prog 208 [.raw (.slice none 0 0),.fn (.func fid) [] caps] [.arr (.slice none 0 0) 4 []] (fun x M'=>x= .tup []/\M'=[.arr (.slice none 0 0) 4 []]):=by
 refine uOb func208 ntmps208 ?_;refine gz3 ?_;refine dq (zfh zdB rfl) ?_;refine gz1 ?_;refine de rfl (uCx 0 zDX rfl rfl zm5 ?_)
 rintro _ _ ⟨rfl,rfl⟩;refine gz1 ?_;exact zaf rfl ⟨rfl,rfl⟩
theorem zmD [Tracks] {l:List FixS} {n b off cap:Nat} {fid:FuncId} {caps:List HVal} {c:FixS->FixS->Int} (hca:Callable prog fid) (hp: ∀x y,ConP prog fid ([zbl x,zbl y]++caps) (.int .i64 (c x y))) (hc:Cmp c fun _=>True) (hn:l.length=n) (hl:n<=20):Con prog 208 [.raw (.slice (some ⟨b,off,none⟩) n cap),.fn (.func fid) [] caps] [.arr (.slice (some ⟨b,off,none⟩) n cap) 4 ((l).map zbl)] (fun x M'=> ∃Z:List FixS,x= .tup []/\(Z.Perm l/\Srt c Z)/\M'=[.arr (.slice (some ⟨b,off,none⟩) n cap) 4 ((Z).map zbl)]):=by
 refine uOb func208 ntmps208 ?_;refine gz3 ?_;refine dq (zfh zdB rfl) ?_;refine gz1 ?_;refine de rfl (uCx 0 zDX rfl rfl (znS hca hp hc hn rfl hl) ?_)
 rintro _ _ ⟨Z,rfl,hz,rfl⟩;refine gz1 ?_;exact zaf rfl ⟨Z,rfl,hz,rfl⟩
theorem zm4 [Tracks] {l:List FixS} {v:Value} {fid:FuncId} {caps:List HVal} {c:FixS->FixS->Int} (hca:Callable prog fid) (hp: ∀x y,ConP prog fid ([zbl x,zbl y]++caps) (.int .i64 (c x y))) (hc:Cmp c fun _=>True) (hl:l.length<=20):Con prog 208 [.raw v,.fn (.func fid) [] caps] [.arr v 4 (l.map zbl)] fun x M'=> ∃Z:List FixS,x= .tup []/\(Z.Perm l/\Srt c Z)/\M'=[.arr v 4 (Z.map zbl)]:=
 zwn (fun h1 h2=>by
  have h3:l=[]:=by first|exact List.map_eq_nil_iff.1 h2|simpa using h2
  subst h1 h3;exact zmC.mono fun x M' ⟨e1,e2⟩=>⟨[],e1,⟨Ac _,Srt.nil⟩,e2⟩)
  fun b off cap h1=>by
   rw [Af] at h1;subst h1;exact zmD hca hp hc rfl hl
theorem ziW [Tracks] {x y:FixS}:ConP prog 209 [zbl x,zbl y] (.int .i64 (zri x y)):=by
 refine uOb func209 ntmps209 ?_;refine zcg ?_;refine dq (za (hs:=[_,_]) zab ty3 rfl rfl (by decide) (by decide) rfl) ?_;refine gz4 ?_;refine dq (za (hs:=[_,_]) zab ty3 rfl rfl (by decide) (by decide) rfl) ?_;refine dq (uCl zDM rfl (zgA (a:=[x.Week,x.At]) (b:=[y.Week,y.At]) (by simp) (by simp))) ?_;refine gz6 ?_;refine uCo (fun h1=> ?_) fun h2=> ?_
 refine gz5 ?_;refine uRp ?_
 (rw [zri,if_pos (by assumption)])
 refine gz5 ?_;refine dq (za (hs:=[_]) zo ty9 rfl rfl (by decide) (by decide) rfl) ?_;refine gz2 ?_;refine dq (za (hs:=[_]) zo ty9 rfl rfl (by decide) (by decide) rfl) ?_;refine dq (uCl zHA rfl (ziD (l:=[x.Home]) (m:=[y.Home]) (by simp) (by simp))) ?_;refine gz3 ?_;refine uRp ?_
 (rw [zri,if_neg uO])
theorem ziX [Tracks] {x y:FixS}:ConP prog 213 [zbl x,zbl y] (.bool (bif (bif x.Week==y.Week then x.At==y.At else false) then x.Home==y.Home else false)):=by
 refine uOb func213 ntmps213 ?_;refine gz28 ?_;refine zu rfl ?_
 rfl
theorem zdI [Tracks] {b:Nat} {l:List Int} {a:Nat} (ha:a<=700000):Con prog 114 [pAt b] [St b l a] (fun x M'=> ∃k a',x=znW k/\k.length<=12/\a'<=a+150/\M'=[St b l a']):=by
 refine uOb func114 ntmps114 ?_;refine gz6 ?_;refine zd (zJ 4) ?_;refine gz5 ?_;refine uV2 [3,58] (fun (w:Nat) (q:GL FixS)=>[(4,.int .i64 ((w:Int)+1)),(3,.raw q.u)]) (fun (w:Nat) (q:GL FixS)=>[St b l q.a,.arr q.u 4 (q.out.map zbl)]) (fun (w:Nat) (q:GL FixS)=>w<=4/\GLok (fun _=>True) (3*w) (a+32*w) q) (fun (w:Nat) (q:GL FixS)=>4-w) (0) (⟨.slice none 0 0,[],a⟩) ?_ ?_ ?_ ?_;exact ⟨by omega,⟨by simp,by simp,uD⟩⟩;exact ⟨zU uO,rfl,trivial⟩;exact uP
 intro w q hinv
 obtain ⟨hw,hq⟩:=hinv;obtain ⟨u,out,a2⟩:=q;obtain ⟨g1,g2,g3⟩:=id hq;dsimp only at g1 g2 g3;refine gz5 ?_;refine uCo (fun h1=> ?_) fun h2=> ?_
 refine gz6 ?_;refine dq (zbu rfl rfl uO uO) ?_;refine gz4 ?_;refine de rfl (uCx 0 zho rfl rfl (zT uS uS uS uS) ?_)
 rintro _ _ ⟨y14,rfl,hy14,rfl⟩;refine gz3 ?_;refine uV3 [3,1,5,2,15,46] (fun (n:Nat) (at1:Int) (q2:GL FixS)=>[(15,.int .i64 (n:Int)),(5,.int .i64 at1),(3,.raw q2.u)]) (fun (n:Nat) (at1:Int) (q2:GL FixS)=>[St b l q2.a,.arr q2.u 4 (q2.out.map zbl)]) (fun (n:Nat) (at1:Int) (q2:GL FixS)=>(n:Int)<=y14/\(0<=at1/\at1<=1000+20*n)/\GLok (fun _=>True) (3*w+n) (a+32*w+1+10*n) q2) (fun (n:Nat) (at1:Int) (q2:GL FixS)=>y14.toNat-n) (0) (100*((w:Int)+1)) (⟨u,out,a2+1⟩) ?_ ?_ ?_ ?_;exact ⟨by omega,by omega,⟨uD,g2,uD⟩⟩;exact ⟨rfl,rfl,rfl,trivial⟩;exact uP
 intro n at1 q2 hinv
 obtain ⟨hn,hat,hq2⟩:=hinv;obtain ⟨u,out,a2⟩:=q2;obtain ⟨g1,g2,g3⟩:=id hq2;dsimp only at g1 g2 g3;refine gz4 ?_;refine uCo (fun h3=> ?_) fun h4=> ?_
 refine gz7 ?_;refine dq (za (hs:=[_,_,_]) zab ty3 rfl rfl (by decide) (by decide) rfl) ?_;refine de rfl (uCx 0 zaZ rfl rfl (ze (L:=[_,_,_]) uS uS uS) ?_)
 rintro _ _ ⟨y20,rfl,hy20,rfl⟩;refine dq (zbt rfl rfl (by simp at hy20;omega) (by simp at hy20;omega)) ?_;refine gz6 ?_;refine dq (za (hs:=[_,_,_]) zo ty9 rfl rfl (by decide) (by decide) rfl) ?_;refine de rfl (uCx 0 zcC rfl rfl (zq (L:=[_,_,_]) uS uS uS) ?_)
 rintro _ _ ⟨y26,rfl,hy26,rfl⟩;refine gz1 ?_;refine dq (za (hs:=[_,_,_]) zo ty9 rfl rfl (by decide) (by decide) rfl) ?_;refine de rfl (uCx 0 zcC rfl rfl (zq (L:=[_,_,_]) uS uS uS) ?_)
 rintro _ _ ⟨y29,rfl,hy29,rfl⟩;refine dq (zC (cs:=[_,_,_,_]) zaX zI7 rfl) ?_;refine de rfl (zg zaX rfl fun b6=> ?_)
 refine de0 (uY 0 ?_)
 refine gz1 ?_;refine uVj [31,11] (fun (q3:FixS×Nat)=>[]) (fun (q3:FixS×Nat)=>[St b l q3.2,.arr u 4 (out.map zbl),.cells b6 (zb (zbl q3.1))]) (fun (q3:FixS×Nat)=>q3.2<=a2+4) ?_ ?_
 skip
 refine zd (Ghost.perm (M':=[St b l (a2+3),.cells b6 (zb (zbl (⟨(w:Int)+1,at1+y20,y26,y29⟩:FixS))),.arr u 4 (out.map zbl)]) uP) ?_;refine gz2 ?_;refine de rfl (uZ 1 ?_)
 refine gz1 ?_;refine de rfl (uZ 1 ?_)
 refine gz3 ?_;refine dgx (fun xq M'=> ∃(y:Bool) (a4:Nat),xq= .bool y/\a4<=a2+4/\M'=[St b l a4,.cells b6 (zb (zbl (⟨(w:Int)+1,at1+y20,y26,y29⟩:FixS))),.arr u 4 (out.map zbl)]) rfl rfl (fun hc=>⟨_,false,a2+3,rfl,by omega,rfl⟩) (fun hc=>⟨_,OpenTo.upd (t:=37) rfl (hc) (OpenTo.refl _),uCx 0 zfd rfl rfl (zK (a:=a2+3) uO uO) (fun h M' hh=>by
  obtain ⟨y,h1,h2⟩:=hh;exact ⟨y,a2+4,h1,by omega,by rw [h2];rfl⟩)⟩) ?_
 rintro _ _ ⟨y38,a4,rfl,ha4,rfl⟩;refine gz3 ?_;refine uCo (fun h5=> ?_) fun h6=> ?_
 refine gz2 ?_;refine de0 (uY 1 ?_)
 refine gz1 ?_;exact ⟨((⟨(w:Int)+1,at1+y20,y26,[112,105,110,107]⟩:FixS),a4),ha4,trivial,uK,uP⟩;refine gz1 ?_;exact ⟨((⟨(w:Int)+1,at1+y20,y26,y29⟩:FixS),a4),ha4,trivial,uK,uP⟩
 intro q3 ha4
 obtain ⟨x4,a4⟩:=q3;dsimp only at ha4;refine uVj [42,14] (fun (q4:FixS×Nat)=>[]) (fun (q4:FixS×Nat)=>[St b l q4.2,.arr u 4 (out.map zbl),.cells b6 (zb (zbl q4.1))]) (fun (q4:FixS×Nat)=>q4.2<=a2+10) ?_ ?_
 skip
 refine gz2 ?_;refine de rfl (uCx 0 zfd rfl rfl (zK uS uS) ?_)
 rintro _ _ ⟨y43,rfl,rfl⟩;refine gz1 ?_;refine uCo (fun h7=> ?_) fun h8=> ?_
 refine zbx (fun M=> ∃i:Nat,M[i]? =some (.cells b6 (zb (zbl x4)))) [6] mixed ?_;refine gz1 ?_;refine gx2 [2,4] ?_;refine gz1 ?_;refine uM 6 rfl (⟨2,rfl⟩) (fun M hM=>by obtain ⟨i,hi⟩:=hM;exact zV (i:=i) ty9 rfl hi (.inl ⟨rfl,rfl⟩) ⟨rfl,rfl⟩) ?_;refine uB 7 rfl (za (hs:=[_,_]) zo ty9 rfl rfl (by decide) (by decide) rfl) ?_;refine uF 1 ?_;refine zw rfl (uCx 0 znT rfl rfl (zi7 uS uS uS uS) ?_)
 rintro _ _ ⟨y45,rfl,hy45,rfl⟩;refine ⟨uE,?_⟩
 refine uA 9 ?_;refine uF 3 ?_;refine zw rfl (uCx 0 znT rfl rfl (zi7 uS uS uS uS) ?_)
 rintro _ _ ⟨y47,rfl,hy47,rfl⟩;refine ⟨uE,?_⟩
 refine uF 8 ?_;refine zw rfl (uCx 0 zcC rfl rfl (zq (L:=[_,_]) uS uS uS) ?_)
 rintro _ _ ⟨y52,rfl,hy52,rfl⟩;refine ⟨uE,?_⟩
 refine uF 10 ?_;refine zI (uY 2 ?_)
 refine ⟨uE,?_⟩
 refine gz1 ?_;refine uF 12 ?_;refine zI (uY 2 ?_)
 refine ⟨uE,?_⟩
 refine gz1 ?_;refine uF 14 ?_;refine zI (uY 2 ?_)
 refine ⟨uE,?_⟩
 refine gz1 ?_;exact ⟨((⟨y45,y47,y52,x4.Away⟩:FixS),a4+6),uD,trivial,uK,uP⟩;refine gz1 ?_;exact ⟨(x4,a4+1),uD,trivial,uK,uP⟩
 intro q4 ha5
 obtain ⟨x5,a5⟩:=q4;dsimp only at ha5;refine zd (zaN 6 (i:=2) rfl rfl) ?_;refine gz3 ?_;refine dq (za (hs:=[_]) zdB zaX rfl rfl (by decide) (by decide) rfl) ?_;refine de rfl (zH (i:=1) zdB zaX rfl rfl rfl rfl rfl (by simp [zan,zb,zaT,zbw]) uSo fun v59=> ?_)
 refine gz8 ?_;exact ⟨n+1,at1+y20,⟨v59,out++[x5],a5⟩,⟨by omega,by simp at hy20;omega,hq2.add (x:=x5) trivial uO⟩,uD,⟨rfl,rfl,rfl,trivial⟩,uK,uP⟩;refine gz2 ?_;refine zcE ?_;refine gz8 ?_;exact ⟨w+1,⟨u,out,a2⟩,⟨by omega,hq2.mono uO uO⟩,uD,⟨zU uO,rfl,trivial⟩,uK,uP⟩;refine gz2 ?_;refine zQ ?_;refine gz4 ?_;refine de rfl (uCx 1 zHy rfl rfl (zm4 (l:=out) (c:=zri) zHz (fun _ _=>ziW) zBT uO) ?_)
 rintro _ _ ⟨Z,rfl,⟨hz1,hz2⟩,rfl⟩;have hzl:=hz1.length_eq;refine gz3 ?_;refine de rfl (uCx 0 zHB rfl rfl (znw (l:=Z) zHC (fun _ _=>ziX) uO) ?_)
 rintro _ _ ⟨u64,D64,rfl,⟨hD1,hD2⟩,rfl⟩;refine gz3 ?_;exact zA (zay 2 (i:=0) rfl rfl) rfl ⟨D64,a2,rfl,by omega,by omega,rfl⟩
end
end Go.Proofs.YtabpobhnedkkeaaGreatDoor
namespace Go.HL
section
open Go
theorem zb1 {e:Env} {places:List (Nat×Nat)} {cs cs' out:List HVal} {i off sz:Nat} {x:Operand} {h:HVal} {r:List (Nat×Operand)} (h1:places[i]? =some (off,sz)) (h2:zh e x=some h) (h3:zeA sz h=true)
 (h4:Nat.ble (off+sz) cs.length=true) (h5:zaO cs off (zb h)=cs') (k:zhc e places cs' r=some out):zhc e places cs ((i,x)::r)=some out:=by
 rw [zhc,h1,h2];simp only [h3,h4];rw [h5];exact k
theorem zn1 {e:Env} {places:List (Nat×Nat)} {cs:List HVal}:zhc e places cs []=some cs:=rfl
theorem zon [Tracks] {P:Program} {e:Env} {dst:Option Tmp} {ty:TypeId} {pos:String} {af:Array Edge} {g:Option (Nat×Bool)} {t:TypeId} {fs:List (Nat×Nat)} {size bytes:Nat} {zs:Array Value} {parts:Array (Nat×Operand)} {ps:List (Nat×Operand)} {places:List (Nat×Nat)} {cs zc:List HVal}
 (hf:Fits P t (.struct fs) size bytes (.agg zs)) (hp:Places P fs places) (hz:zs.toList.map zbw=zc) (hps:parts.toList=ps)
 (hr:zhc e places zc ps=some cs):POp P e ⟨dst,.build t parts,ty,pos,af,g⟩ (.agg cs):=
 zC hf hp (by rw [hz,hps];exact hr)
theorem zjA [Tracks] {P:Program} {e:Env} {dst:Option Tmp} {ty:TypeId} {pos:String} {af:Array Edge} {g:Option (Nat×Bool)} {t:TypeId} {fs:List (Nat×Nat)} {size bytes:Nat} {zs:Array Value} {parts:Array (Nat×Operand)} {ps:List (Nat×Operand)} {places:List (Nat×Nat)} {cs zc:List HVal}
 (hf:Fits P t (.struct fs) size bytes (.agg zs)) (hp:Places P fs places) (hz:zs.toList.map zbw=zc:=by exact (show _=[_,_,_,_,_,_,_,_,_,_,_,_,_,_] from rfl)) (hps:parts.toList=ps:=by exact (show _=[_,_,_,_,_,_,_,_,_] from rfl))
 (hr:zhc e places zc ps=some cs:=by exact zb1 (cs':=[_,_,_,_,_,_,_,_,_,_,_,_,_,_]) rfl rfl rfl rfl rfl (zb1 (cs':=[_,_,_,_,_,_,_,_,_,_,_,_,_,_]) rfl rfl rfl rfl rfl (zb1 (cs':=[_,_,_,_,_,_,_,_,_,_,_,_,_,_]) rfl rfl rfl rfl rfl (zb1 (cs':=[_,_,_,_,_,_,_,_,_,_,_,_,_,_]) rfl rfl rfl rfl rfl (zb1 (cs':=[_,_,_,_,_,_,_,_,_,_,_,_,_,_]) rfl rfl rfl rfl rfl (zb1 (cs':=[_,_,_,_,_,_,_,_,_,_,_,_,_,_]) rfl rfl rfl rfl rfl (zb1 (cs':=[_,_,_,_,_,_,_,_,_,_,_,_,_,_]) rfl rfl rfl rfl rfl (zb1 (cs':=[_,_,_,_,_,_,_,_,_,_,_,_,_,_]) rfl rfl rfl rfl rfl (zb1 (cs':=[_,_,_,_,_,_,_,_,_,_,_,_,_,_]) rfl rfl rfl rfl rfl (zn1)))))))))):POp P e ⟨dst,.build t parts,ty,pos,af,g⟩ (.agg cs):=zon hf hp hz hps hr
theorem zJj [Tracks] {P:Program} {e:Env} {dst:Option Tmp} {ty:TypeId} {pos:String} {af:Array Edge} {g:Option (Nat×Bool)} {t:TypeId} {fs:List (Nat×Nat)} {size bytes:Nat} {zs:Array Value} {parts:Array (Nat×Operand)} {ps:List (Nat×Operand)} {places:List (Nat×Nat)} {cs zc:List HVal}
 (hf:Fits P t (.struct fs) size bytes (.agg zs)) (hp:Places P fs places) (hz:zs.toList.map zbw=zc:=by exact (show _=[_,_,_,_,_,_,_,_,_,_,_,_,_,_] from rfl)) (hps:parts.toList=ps:=by exact (show _=[_,_,_] from rfl))
 (hr:zhc e places zc ps=some cs:=by exact zb1 (cs':=[_,_,_,_,_,_,_,_,_,_,_,_,_,_]) rfl rfl rfl rfl rfl (zb1 (cs':=[_,_,_,_,_,_,_,_,_,_,_,_,_,_]) rfl rfl rfl rfl rfl (zb1 (cs':=[_,_,_,_,_,_,_,_,_,_,_,_,_,_]) rfl rfl rfl rfl rfl (zn1)))):POp P e ⟨dst,.build t parts,ty,pos,af,g⟩ (.agg cs):=zon hf hp hz hps hr
theorem zJi [Tracks] {P:Program} {e:Env} {dst:Option Tmp} {ty:TypeId} {pos:String} {af:Array Edge} {g:Option (Nat×Bool)} {t:TypeId} {fs:List (Nat×Nat)} {size bytes:Nat} {zs:Array Value} {parts:Array (Nat×Operand)} {ps:List (Nat×Operand)} {places:List (Nat×Nat)} {cs zc:List HVal}
 (hf:Fits P t (.struct fs) size bytes (.agg zs)) (hp:Places P fs places) (hz:zs.toList.map zbw=zc:=by exact (show _=[_,_,_,_,_,_,_,_,_,_,_,_,_,_,_,_,_,_,_] from rfl)) (hps:parts.toList=ps:=by exact (show _=[_,_,_] from rfl))
 (hr:zhc e places zc ps=some cs:=by exact zb1 (cs':=[_,_,_,_,_,_,_,_,_,_,_,_,_,_,_,_,_,_,_]) rfl rfl rfl rfl rfl (zb1 (cs':=[_,_,_,_,_,_,_,_,_,_,_,_,_,_,_,_,_,_,_]) rfl rfl rfl rfl rfl (zb1 (cs':=[_,_,_,_,_,_,_,_,_,_,_,_,_,_,_,_,_,_,_]) rfl rfl rfl rfl rfl (zn1)))):POp P e ⟨dst,.build t parts,ty,pos,af,g⟩ (.agg cs):=zon hf hp hz hps hr
end
section
open Op
abbrev zxC:List HVal:=[.raw (.slice none 0 0),.raw (.slice none 0 0),.raw (.slice none 0 0),.raw (.slice none 0 0),.raw (.slice none 0 0),.int .i64 0,.int .i64 0,.int .i64 0,.int .i64 0,.raw (.slice none 0 0),.raw (.slice none 0 0),.raw (.slice none 0 0),.raw (.slice none 0 0),.int .i64 0]
abbrev zki:List HVal:=[.raw (.slice none 0 0),.raw (.slice none 0 0),.raw (.slice none 0 0),.raw (.slice none 0 0),.raw (.slice none 0 0),.int .i64 0,.int .i64 0,.int .i64 0,.int .i64 0,.raw (.slice none 0 0),.raw (.slice none 0 0),.raw (.slice none 0 0),.raw (.slice none 0 0),.int .i64 0,.raw (.slice none 0 0),.raw (.slice none 0 0),.raw (.slice none 0 0),.raw (.slice none 0 0),.raw (.slice none 0 0)]
abbrev lgC (p:List PlayerS) (st:HVal) (f:List FixS) (r:List RuleS) (s:List SlotS) (b:BoundS) (t:List Str) (ga:HVal) (br:List Int) (tr:List Str) (w:Int):List HVal:=[zbp p,st,znW f,zfv r,zgH s,.int .i64 b.Most,.int .i64 b.Hurt,.int .i64 b.Adds,.int .i64 b.Hold,eSs t,ga,eIs br,eSs tr,.int .i64 w]
abbrev bkC (g:LeagueS) (mv pl me he ch:HVal):List HVal:=[zbp g.Players,zgf g.Stints,znW g.Fixtures,zfv g.Rules,zgH g.Slots,.int .i64 g.Bounds.Most,.int .i64 g.Bounds.Hurt,.int .i64 g.Bounds.Adds,.int .i64 g.Bounds.Hold,eSs g.Teams,zm8 g.Games,eIs g.Breaks,eSs g.Trust,.int .i64 g.Start,mv,pl,me,he,ch]
end
end Go.HL
namespace Go.Proofs.YtabpobhnedkkeaaGreatDoor
set_option maxRecDepth 100000
set_option linter.unusedVariables false
set_option linter.unusedSimpArgs false
section
open Go.Proofs.Tryz
open Go.HL
theorem zjE [Tracks] {b:Nat} {l:List Int} {a:Nat} (ha:a<=500000):Con prog 53 [pAt b] [St b l a] (fun x M'=> ∃g a',x=zcj g/\LeaC g/\a'<=a+500/\M'=[St b l a']):=by
 refine zaQ func53 rfl ntmps53 rfl rfl ?_;refine gz1 ?_;refine de rfl (zg zbE rfl fun b2=> ?_)
 refine gz1 ?_;refine uVj [3,1,6,23] (fun (q:Nat×LeagueS×Nat)=>[(3,pAt q.1)]) (fun (q:Nat×LeagueS×Nat)=>[.cells q.1 (lgC q.2.1.Players (.raw (.slice none 0 0)) q.2.1.Fixtures q.2.1.Rules q.2.1.Slots q.2.1.Bounds q.2.1.Teams (.raw (.slice none 0 0)) q.2.1.Breaks q.2.1.Trust q.2.1.Start),.cells b2 zxC,St b l q.2.2]) (fun (q:Nat×LeagueS×Nat)=>LeaD q.2.1/\q.2.2<=a+300) ?_ ?_
 ·skip
  refine zh8 mixed ?_;refine gz1 ?_;refine gx4 [2,4,6,8] ?_;refine uB 10 rfl (za (hs:=[_,_,_,_]) zo ty9 rfl rfl (by decide) (by decide) rfl) ?_;refine gz1 ?_;refine uB 12 rfl (za (hs:=[_,_,_]) zab ty3 rfl rfl (by decide) (by decide) rfl) ?_;refine gx3 [15,17,19] ?_;refine uB 20 rfl (za (hs:=[_,_,_]) zab ty3 rfl rfl (by decide) (by decide) rfl) ?_;refine zi4 1 23 rfl rfl (by kernel_rfl) ?_ ?_
  ·skip
   refine zw rfl (uCx 1 zDr rfl rfl (zeL uS) ?_)
   rintro _ _ ⟨k7,a7,rfl,hk7,ha7,rfl⟩;refine ⟨uE,?_⟩
   refine zi4 3 23 rfl rfl (by kernel_rfl) ?_ ?_
   ·skip
    refine zw rfl (uCx 0 zy9 rfl rfl (zdI uS) ?_)
    rintro _ _ ⟨k9,a9,rfl,hk9,ha9,rfl⟩;refine ⟨uE,?_⟩
    refine zi4 5 23 rfl rfl (by kernel_rfl) ?_ ?_
    ·skip
     refine zw rfl (uCx 0 zvA rfl rfl (zcl uS) ?_)
     rintro _ _ ⟨k11,a11,rfl,hk11,ha11,rfl⟩;refine ⟨uE,?_⟩
     refine zi4 7 23 rfl rfl (by kernel_rfl) ?_ ?_
     ·skip
      refine zw rfl (uCx 0 zqr rfl rfl (zbI uS) ?_)
      rintro _ _ ⟨k13,a13,rfl,hk13,hn13,ha13,rfl⟩;refine ⟨uE,?_⟩
      refine zi4 9 23 rfl rfl (by kernel_rfl) ?_ ?_
      ·skip
       refine zw rfl (uCx 0 zqs rfl rfl (za4 uS) ?_)
       rintro _ _ ⟨y15,rfl,rfl⟩;refine ⟨uE,?_⟩
       refine zi4 13 23 rfl rfl (by kernel_rfl) ?_ ?_
       ·skip
        refine zw rfl (uCx 0 zaZ rfl rfl (ze (L:=[_,_,_]) uS uS uS) ?_)
        rintro _ _ ⟨y19,rfl,hy19,rfl⟩;refine ⟨uE,?_⟩
        refine uB 14 rfl (zbC (es:=tm4) (f:=HVal.str) (h:=y19.toNat) zo ty9 rfl rfl ⟨_,_,rfl,by simp at hy19;omega⟩ uO (by simp [tm4];simp at hy19;omega)) ?_;refine zi4 16 23 rfl rfl (by kernel_rfl) ?_ ?_
        ·skip
         refine zw rfl (uCx 0 zlY rfl rfl (zaR uS) ?_)
         rintro _ _ ⟨k22,a22,rfl,hk22,ha22,rfl⟩;refine ⟨uE,?_⟩
         refine zi4 18 23 rfl rfl (by kernel_rfl) ?_ ?_
         ·skip
          refine zw rfl (uCx 0 zkw rfl rfl (zaF uS) ?_)
          rintro _ _ ⟨t24,a24,rfl,ht24,ha24,rfl⟩;refine ⟨uE,?_⟩
          refine zi4 21 23 rfl rfl (by kernel_rfl) ?_ ?_
          ·skip
           refine zw rfl (uCx 0 zaZ rfl rfl (ze (L:=[_,_,_]) uS uS uS) ?_)
           rintro _ _ ⟨y27,rfl,hy27,rfl⟩;refine ⟨uE,?_⟩
           refine uB 22 rfl (zjA zbE zlr) ?_;refine uF 23 ?_;refine zw rfl (zg zbE rfl fun b3=> ?_)
           refine ⟨uE,?_⟩
           refine uF 24 ?_;refine zI (uY 0 ?_)
           refine ⟨uE,?_⟩
           refine uAz ?_;refine ⟨(b3,⟨k7,[],k9,k11,k13,y15,(tm4.take y19.toNat),[],k22,t24,y27⟩,a24+1),?_,⟨rfl,trivial⟩,uK,?_⟩
           ·exact ⟨⟨hk7,hk9,hk11,hk13,⟨by dsimp only;simp [tm4];simp at hy19;omega,by dsimp only;simp [tm4];simp at hy19;omega⟩,hk22,ht24,by simp at hy27;dsimp only;omega,zgc (by simp at hy19;omega)⟩,uD⟩
           ·exact uP
          ·skip
           refine zw rfl (zg zbE rfl fun b3=> ?_)
           refine ⟨uE,?_⟩
           refine uF 21 ?_;refine zw rfl (uCx 1 zaZ rfl rfl (ze (L:=[_,_,_]) uS uS uS) ?_)
           rintro _ _ ⟨y27,rfl,hy27,rfl⟩;refine ⟨uE,?_⟩
           refine uB 22 rfl (zjA zbE zlr) ?_;refine uF 24 ?_;refine zI (uY 1 ?_)
           refine ⟨uE,?_⟩
           refine uAz ?_;refine ⟨(b3,⟨k7,[],k9,k11,k13,y15,(tm4.take y19.toNat),[],k22,t24,y27⟩,a24+1),?_,⟨rfl,trivial⟩,uK,?_⟩
           ·exact ⟨⟨hk7,hk9,hk11,hk13,⟨by dsimp only;simp [tm4];simp at hy19;omega,by dsimp only;simp [tm4];simp at hy19;omega⟩,hk22,ht24,by simp at hy27;dsimp only;omega,zgc (by simp at hy19;omega)⟩,uD⟩
           ·exact uP
         ·skip
          refine zw rfl (zg zbE rfl fun b3=> ?_)
          refine ⟨uE,?_⟩
          refine uF 18 ?_;refine zw rfl (uCx 1 zkw rfl rfl (zaF uS) ?_)
          rintro _ _ ⟨t24,a24,rfl,ht24,ha24,rfl⟩;refine ⟨uE,?_⟩
          refine uF 21 ?_;refine zw rfl (uCx 0 zaZ rfl rfl (ze (L:=[_,_,_]) uS uS uS) ?_)
          rintro _ _ ⟨y27,rfl,hy27,rfl⟩;refine ⟨uE,?_⟩
          refine uB 22 rfl (zjA zbE zlr) ?_;refine uF 24 ?_;refine zI (uY 1 ?_)
          refine ⟨uE,?_⟩
          refine uAz ?_;refine ⟨(b3,⟨k7,[],k9,k11,k13,y15,(tm4.take y19.toNat),[],k22,t24,y27⟩,a24+1),?_,⟨rfl,trivial⟩,uK,?_⟩
          ·exact ⟨⟨hk7,hk9,hk11,hk13,⟨by dsimp only;simp [tm4];simp at hy19;omega,by dsimp only;simp [tm4];simp at hy19;omega⟩,hk22,ht24,by simp at hy27;dsimp only;omega,zgc (by simp at hy19;omega)⟩,uD⟩
          ·exact uP
        ·skip
         refine zw rfl (zg zbE rfl fun b3=> ?_)
         refine ⟨uE,?_⟩
         refine uF 16 ?_;refine zw rfl (uCx 1 zlY rfl rfl (zaR uS) ?_)
         rintro _ _ ⟨k22,a22,rfl,hk22,ha22,rfl⟩;refine ⟨uE,?_⟩
         refine uF 18 ?_;refine zw rfl (uCx 0 zkw rfl rfl (zaF uS) ?_)
         rintro _ _ ⟨t24,a24,rfl,ht24,ha24,rfl⟩;refine ⟨uE,?_⟩
         refine uF 21 ?_;refine zw rfl (uCx 0 zaZ rfl rfl (ze (L:=[_,_,_]) uS uS uS) ?_)
         rintro _ _ ⟨y27,rfl,hy27,rfl⟩;refine ⟨uE,?_⟩
         refine uB 22 rfl (zjA zbE zlr) ?_;refine uF 24 ?_;refine zI (uY 1 ?_)
         refine ⟨uE,?_⟩
         refine uAz ?_;refine ⟨(b3,⟨k7,[],k9,k11,k13,y15,(tm4.take y19.toNat),[],k22,t24,y27⟩,a24+1),?_,⟨rfl,trivial⟩,uK,?_⟩
         ·exact ⟨⟨hk7,hk9,hk11,hk13,⟨by dsimp only;simp [tm4];simp at hy19;omega,by dsimp only;simp [tm4];simp at hy19;omega⟩,hk22,ht24,by simp at hy27;dsimp only;omega,zgc (by simp at hy19;omega)⟩,uD⟩
         ·exact uP
       ·skip
        refine zw rfl (zg zbE rfl fun b3=> ?_)
        refine ⟨uE,?_⟩
        refine uF 13 ?_;refine zw rfl (uCx 1 zaZ rfl rfl (ze (L:=[_,_,_]) uS uS uS) ?_)
        rintro _ _ ⟨y19,rfl,hy19,rfl⟩;refine ⟨uE,?_⟩
        refine uB 14 rfl (zbC (es:=tm4) (f:=HVal.str) (h:=y19.toNat) zo ty9 rfl rfl ⟨_,_,rfl,by simp at hy19;omega⟩ uO (by simp [tm4];simp at hy19;omega)) ?_;refine uF 16 ?_;refine zw rfl (uCx 0 zlY rfl rfl (zaR uS) ?_)
        rintro _ _ ⟨k22,a22,rfl,hk22,ha22,rfl⟩;refine ⟨uE,?_⟩
        refine uF 18 ?_;refine zw rfl (uCx 0 zkw rfl rfl (zaF uS) ?_)
        rintro _ _ ⟨t24,a24,rfl,ht24,ha24,rfl⟩;refine ⟨uE,?_⟩
        refine uF 21 ?_;refine zw rfl (uCx 0 zaZ rfl rfl (ze (L:=[_,_,_]) uS uS uS) ?_)
        rintro _ _ ⟨y27,rfl,hy27,rfl⟩;refine ⟨uE,?_⟩
        refine uB 22 rfl (zjA zbE zlr) ?_;refine uF 24 ?_;refine zI (uY 1 ?_)
        refine ⟨uE,?_⟩
        refine uAz ?_;refine ⟨(b3,⟨k7,[],k9,k11,k13,y15,(tm4.take y19.toNat),[],k22,t24,y27⟩,a24+1),?_,⟨rfl,trivial⟩,uK,?_⟩
        ·exact ⟨⟨hk7,hk9,hk11,hk13,⟨by dsimp only;simp [tm4];simp at hy19;omega,by dsimp only;simp [tm4];simp at hy19;omega⟩,hk22,ht24,by simp at hy27;dsimp only;omega,zgc (by simp at hy19;omega)⟩,uD⟩
        ·exact uP
      ·skip
       refine zw rfl (zg zbE rfl fun b3=> ?_)
       refine ⟨uE,?_⟩
       refine uF 9 ?_;refine zw rfl (uCx 1 zqs rfl rfl (za4 uS) ?_)
       rintro _ _ ⟨y15,rfl,rfl⟩;refine ⟨uE,?_⟩
       refine uF 13 ?_;refine zw rfl (uCx 0 zaZ rfl rfl (ze (L:=[_,_,_]) uS uS uS) ?_)
       rintro _ _ ⟨y19,rfl,hy19,rfl⟩;refine ⟨uE,?_⟩
       refine uB 14 rfl (zbC (es:=tm4) (f:=HVal.str) (h:=y19.toNat) zo ty9 rfl rfl ⟨_,_,rfl,by simp at hy19;omega⟩ uO (by simp [tm4];simp at hy19;omega)) ?_;refine uF 16 ?_;refine zw rfl (uCx 0 zlY rfl rfl (zaR uS) ?_)
       rintro _ _ ⟨k22,a22,rfl,hk22,ha22,rfl⟩;refine ⟨uE,?_⟩
       refine uF 18 ?_;refine zw rfl (uCx 0 zkw rfl rfl (zaF uS) ?_)
       rintro _ _ ⟨t24,a24,rfl,ht24,ha24,rfl⟩;refine ⟨uE,?_⟩
       refine uF 21 ?_;refine zw rfl (uCx 0 zaZ rfl rfl (ze (L:=[_,_,_]) uS uS uS) ?_)
       rintro _ _ ⟨y27,rfl,hy27,rfl⟩;refine ⟨uE,?_⟩
       refine uB 22 rfl (zjA zbE zlr) ?_;refine uF 24 ?_;refine zI (uY 1 ?_)
       refine ⟨uE,?_⟩
       refine uAz ?_;refine ⟨(b3,⟨k7,[],k9,k11,k13,y15,(tm4.take y19.toNat),[],k22,t24,y27⟩,a24+1),?_,⟨rfl,trivial⟩,uK,?_⟩
       ·exact ⟨⟨hk7,hk9,hk11,hk13,⟨by dsimp only;simp [tm4];simp at hy19;omega,by dsimp only;simp [tm4];simp at hy19;omega⟩,hk22,ht24,by simp at hy27;dsimp only;omega,zgc (by simp at hy19;omega)⟩,uD⟩
       ·exact uP
     ·skip
      refine zw rfl (zg zbE rfl fun b3=> ?_)
      refine ⟨uE,?_⟩
      refine uF 7 ?_;refine zw rfl (uCx 1 zqr rfl rfl (zbI uS) ?_)
      rintro _ _ ⟨k13,a13,rfl,hk13,hn13,ha13,rfl⟩;refine ⟨uE,?_⟩
      refine uF 9 ?_;refine zw rfl (uCx 0 zqs rfl rfl (za4 uS) ?_)
      rintro _ _ ⟨y15,rfl,rfl⟩;refine ⟨uE,?_⟩
      refine uF 13 ?_;refine zw rfl (uCx 0 zaZ rfl rfl (ze (L:=[_,_,_]) uS uS uS) ?_)
      rintro _ _ ⟨y19,rfl,hy19,rfl⟩;refine ⟨uE,?_⟩
      refine uB 14 rfl (zbC (es:=tm4) (f:=HVal.str) (h:=y19.toNat) zo ty9 rfl rfl ⟨_,_,rfl,by simp at hy19;omega⟩ uO (by simp [tm4];simp at hy19;omega)) ?_;refine uF 16 ?_;refine zw rfl (uCx 0 zlY rfl rfl (zaR uS) ?_)
      rintro _ _ ⟨k22,a22,rfl,hk22,ha22,rfl⟩;refine ⟨uE,?_⟩
      refine uF 18 ?_;refine zw rfl (uCx 0 zkw rfl rfl (zaF uS) ?_)
      rintro _ _ ⟨t24,a24,rfl,ht24,ha24,rfl⟩;refine ⟨uE,?_⟩
      refine uF 21 ?_;refine zw rfl (uCx 0 zaZ rfl rfl (ze (L:=[_,_,_]) uS uS uS) ?_)
      rintro _ _ ⟨y27,rfl,hy27,rfl⟩;refine ⟨uE,?_⟩
      refine uB 22 rfl (zjA zbE zlr) ?_;refine uF 24 ?_;refine zI (uY 1 ?_)
      refine ⟨uE,?_⟩
      refine uAz ?_;refine ⟨(b3,⟨k7,[],k9,k11,k13,y15,(tm4.take y19.toNat),[],k22,t24,y27⟩,a24+1),?_,⟨rfl,trivial⟩,uK,?_⟩
      ·exact ⟨⟨hk7,hk9,hk11,hk13,⟨by dsimp only;simp [tm4];simp at hy19;omega,by dsimp only;simp [tm4];simp at hy19;omega⟩,hk22,ht24,by simp at hy27;dsimp only;omega,zgc (by simp at hy19;omega)⟩,uD⟩
      ·exact uP
    ·skip
     refine zw rfl (zg zbE rfl fun b3=> ?_)
     refine ⟨uE,?_⟩
     refine uF 5 ?_;refine zw rfl (uCx 1 zvA rfl rfl (zcl uS) ?_)
     rintro _ _ ⟨k11,a11,rfl,hk11,ha11,rfl⟩;refine ⟨uE,?_⟩
     refine uF 7 ?_;refine zw rfl (uCx 0 zqr rfl rfl (zbI uS) ?_)
     rintro _ _ ⟨k13,a13,rfl,hk13,hn13,ha13,rfl⟩;refine ⟨uE,?_⟩
     refine uF 9 ?_;refine zw rfl (uCx 0 zqs rfl rfl (za4 uS) ?_)
     rintro _ _ ⟨y15,rfl,rfl⟩;refine ⟨uE,?_⟩
     refine uF 13 ?_;refine zw rfl (uCx 0 zaZ rfl rfl (ze (L:=[_,_,_]) uS uS uS) ?_)
     rintro _ _ ⟨y19,rfl,hy19,rfl⟩;refine ⟨uE,?_⟩
     refine uB 14 rfl (zbC (es:=tm4) (f:=HVal.str) (h:=y19.toNat) zo ty9 rfl rfl ⟨_,_,rfl,by simp at hy19;omega⟩ uO (by simp [tm4];simp at hy19;omega)) ?_;refine uF 16 ?_;refine zw rfl (uCx 0 zlY rfl rfl (zaR uS) ?_)
     rintro _ _ ⟨k22,a22,rfl,hk22,ha22,rfl⟩;refine ⟨uE,?_⟩
     refine uF 18 ?_;refine zw rfl (uCx 0 zkw rfl rfl (zaF uS) ?_)
     rintro _ _ ⟨t24,a24,rfl,ht24,ha24,rfl⟩;refine ⟨uE,?_⟩
     refine uF 21 ?_;refine zw rfl (uCx 0 zaZ rfl rfl (ze (L:=[_,_,_]) uS uS uS) ?_)
     rintro _ _ ⟨y27,rfl,hy27,rfl⟩;refine ⟨uE,?_⟩
     refine uB 22 rfl (zjA zbE zlr) ?_;refine uF 24 ?_;refine zI (uY 1 ?_)
     refine ⟨uE,?_⟩
     refine uAz ?_;refine ⟨(b3,⟨k7,[],k9,k11,k13,y15,(tm4.take y19.toNat),[],k22,t24,y27⟩,a24+1),?_,⟨rfl,trivial⟩,uK,?_⟩
     ·exact ⟨⟨hk7,hk9,hk11,hk13,⟨by dsimp only;simp [tm4];simp at hy19;omega,by dsimp only;simp [tm4];simp at hy19;omega⟩,hk22,ht24,by simp at hy27;dsimp only;omega,zgc (by simp at hy19;omega)⟩,uD⟩
     ·exact uP
   ·skip
    refine zw rfl (zg zbE rfl fun b3=> ?_)
    refine ⟨uE,?_⟩
    refine uF 3 ?_;refine zw rfl (uCx 1 zy9 rfl rfl (zdI uS) ?_)
    rintro _ _ ⟨k9,a9,rfl,hk9,ha9,rfl⟩;refine ⟨uE,?_⟩
    refine uF 5 ?_;refine zw rfl (uCx 0 zvA rfl rfl (zcl uS) ?_)
    rintro _ _ ⟨k11,a11,rfl,hk11,ha11,rfl⟩;refine ⟨uE,?_⟩
    refine uF 7 ?_;refine zw rfl (uCx 0 zqr rfl rfl (zbI uS) ?_)
    rintro _ _ ⟨k13,a13,rfl,hk13,hn13,ha13,rfl⟩;refine ⟨uE,?_⟩
    refine uF 9 ?_;refine zw rfl (uCx 0 zqs rfl rfl (za4 uS) ?_)
    rintro _ _ ⟨y15,rfl,rfl⟩;refine ⟨uE,?_⟩
    refine uF 13 ?_;refine zw rfl (uCx 0 zaZ rfl rfl (ze (L:=[_,_,_]) uS uS uS) ?_)
    rintro _ _ ⟨y19,rfl,hy19,rfl⟩;refine ⟨uE,?_⟩
    refine uB 14 rfl (zbC (es:=tm4) (f:=HVal.str) (h:=y19.toNat) zo ty9 rfl rfl ⟨_,_,rfl,by simp at hy19;omega⟩ uO (by simp [tm4];simp at hy19;omega)) ?_;refine uF 16 ?_;refine zw rfl (uCx 0 zlY rfl rfl (zaR uS) ?_)
    rintro _ _ ⟨k22,a22,rfl,hk22,ha22,rfl⟩;refine ⟨uE,?_⟩
    refine uF 18 ?_;refine zw rfl (uCx 0 zkw rfl rfl (zaF uS) ?_)
    rintro _ _ ⟨t24,a24,rfl,ht24,ha24,rfl⟩;refine ⟨uE,?_⟩
    refine uF 21 ?_;refine zw rfl (uCx 0 zaZ rfl rfl (ze (L:=[_,_,_]) uS uS uS) ?_)
    rintro _ _ ⟨y27,rfl,hy27,rfl⟩;refine ⟨uE,?_⟩
    refine uB 22 rfl (zjA zbE zlr) ?_;refine uF 24 ?_;refine zI (uY 1 ?_)
    refine ⟨uE,?_⟩
    refine uAz ?_;refine ⟨(b3,⟨k7,[],k9,k11,k13,y15,(tm4.take y19.toNat),[],k22,t24,y27⟩,a24+1),?_,⟨rfl,trivial⟩,uK,?_⟩
    ·exact ⟨⟨hk7,hk9,hk11,hk13,⟨by dsimp only;simp [tm4];simp at hy19;omega,by dsimp only;simp [tm4];simp at hy19;omega⟩,hk22,ht24,by simp at hy27;dsimp only;omega,zgc (by simp at hy19;omega)⟩,uD⟩
    ·exact uP
  ·skip
   refine zw rfl (zg zbE rfl fun b3=> ?_)
   refine ⟨uE,?_⟩
   refine uF 1 ?_;refine zw rfl (uCx 2 zDr rfl rfl (zeL uS) ?_)
   rintro _ _ ⟨k7,a7,rfl,hk7,ha7,rfl⟩;refine ⟨uE,?_⟩
   refine uF 3 ?_;refine zw rfl (uCx 0 zy9 rfl rfl (zdI uS) ?_)
   rintro _ _ ⟨k9,a9,rfl,hk9,ha9,rfl⟩;refine ⟨uE,?_⟩
   refine uF 5 ?_;refine zw rfl (uCx 0 zvA rfl rfl (zcl uS) ?_)
   rintro _ _ ⟨k11,a11,rfl,hk11,ha11,rfl⟩;refine ⟨uE,?_⟩
   refine uF 7 ?_;refine zw rfl (uCx 0 zqr rfl rfl (zbI uS) ?_)
   rintro _ _ ⟨k13,a13,rfl,hk13,hn13,ha13,rfl⟩;refine ⟨uE,?_⟩
   refine uF 9 ?_;refine zw rfl (uCx 0 zqs rfl rfl (za4 uS) ?_)
   rintro _ _ ⟨y15,rfl,rfl⟩;refine ⟨uE,?_⟩
   refine uF 13 ?_;refine zw rfl (uCx 0 zaZ rfl rfl (ze (L:=[_,_,_]) uS uS uS) ?_)
   rintro _ _ ⟨y19,rfl,hy19,rfl⟩;refine ⟨uE,?_⟩
   refine uB 14 rfl (zbC (es:=tm4) (f:=HVal.str) (h:=y19.toNat) zo ty9 rfl rfl ⟨_,_,rfl,by simp at hy19;omega⟩ uO (by simp [tm4];simp at hy19;omega)) ?_;refine uF 16 ?_;refine zw rfl (uCx 0 zlY rfl rfl (zaR uS) ?_)
   rintro _ _ ⟨k22,a22,rfl,hk22,ha22,rfl⟩;refine ⟨uE,?_⟩
   refine uF 18 ?_;refine zw rfl (uCx 0 zkw rfl rfl (zaF uS) ?_)
   rintro _ _ ⟨t24,a24,rfl,ht24,ha24,rfl⟩;refine ⟨uE,?_⟩
   refine uF 21 ?_;refine zw rfl (uCx 0 zaZ rfl rfl (ze (L:=[_,_,_]) uS uS uS) ?_)
   rintro _ _ ⟨y27,rfl,hy27,rfl⟩;refine ⟨uE,?_⟩
   refine uB 22 rfl (zjA zbE zlr) ?_;refine uF 24 ?_;refine zI (uY 1 ?_)
   refine ⟨uE,?_⟩
   refine uAz ?_;refine ⟨(b3,⟨k7,[],k9,k11,k13,y15,(tm4.take y19.toNat),[],k22,t24,y27⟩,a24+1),?_,⟨rfl,trivial⟩,uK,?_⟩
   ·exact ⟨⟨hk7,hk9,hk11,hk13,⟨by dsimp only;simp [tm4];simp at hy19;omega,by dsimp only;simp [tm4];simp at hy19;omega⟩,hk22,ht24,by simp at hy27;dsimp only;omega,zgc (by simp at hy19;omega)⟩,uD⟩
   ·exact uP
 ·intro q hq0
  obtain ⟨b3,⟨k7,kst,k9,k11,k13,y15,T,kga,k22,t24,y27⟩,a27⟩:=q;obtain ⟨⟨hk7,hk9,hk11,hk13,htl,hk22,ht24,hst,htt⟩,ha27⟩:=hq0;dsimp only at hk7 hk9 hk11 hk13 htl hk22 ht24 hst htt ha27⊢;have hp5:=hk7.len;have htr:t24.length<=100/\∀s∈t24,Sh s:=⟨by have:=ht24.len;omega,ht24.all⟩
  refine gz3 ?_;refine de rfl (uZ 0 ?_)
  refine de rfl (uCx 2 zGH rfl rfl (zjF (a:=a27) (L:=k7) uO uO) ?_)
  rintro _ _ ⟨k32,a32,rfl,hk32,ha32,rfl⟩;refine gz1 ?_;refine de0 (uY 1 ?_)
  refine gz4 ?_;refine de rfl (uZ 1 ?_)
  refine de rfl (zaA (M1:=[]) (R:=[_,_,_]) zGI rfl (WeakL.refl _) (Ac _) (zmv (T:=T) htl) ?_)
  rintro _ _ ⟨k36,rfl,hk36,rfl⟩;refine gz3 ?_;have hl36:=hk36.len;have hg36:=hk36.all;refine zd (zJ 8) ?_;refine gz1 ?_;refine uV2 [5,1,38,14] (fun (k:Nat) (q:GL GameS)=>[(38,.int .i64 k)]) (fun (k:Nat) (q:GL GameS)=>[St b l q.a,.cells b2 zxC,.cells b3 (lgC k7 (zgf k32) k9 k11 k13 y15 T (.raw q.u) k22 t24 y27),.arr q.u 8 (q.out.map zbb)]) (fun (k:Nat) (q:GL GameS)=>k<=k36.length/\(GLok GamB k (a32+k) q)) (fun (k:Nat) (q:GL GameS)=>k36.length-k) (0) (⟨.slice none 0 0,[],a32⟩) ?_ ?_ ?_ ?_
  ·exact ⟨Ad _,⟨by simp,by simp,uD⟩⟩
  ·exact ⟨rfl,trivial⟩
  ·exact uP
  ·intro k q hinv
   obtain ⟨hk,hq⟩:=hinv;obtain ⟨u,out,a2⟩:=q;obtain ⟨g1,g2,g3⟩:=id hq;dsimp only at g1 g2 g3;refine gz4 ?_;refine uCo (fun h1=> ?_) fun h2=> ?_
   ·obtain ⟨x,hx⟩: ∃x,k36[k]? =some x:=⟨_,Aa h1⟩
    have hdx:=zi hx;refine gz7 ?_;refine de rfl (zg zcS rfl fun b5=> ?_)
    refine de0 (uY 0 ?_)
    refine gz3 ?_;refine de rfl (uCx 1 zfd rfl rfl (zK uS uS) ?_)
    rintro _ _ ⟨y43,rfl,rfl⟩;refine gz2 ?_;refine uCo (fun h3=> ?_) fun h4=> ?_
    ·refine gz2 ?_;refine de rfl (uZ 3 ?_)
     refine de rfl (zeh (i:=1) (h:=zbb x) zcS rfl rfl rfl rfl rfl ?_)
     refine dq (za (hs:=[_]) zgZ zcS rfl rfl (by decide) (by decide) rfl) ?_;refine de rfl (zH (i:=4) zgZ zcS rfl rfl rfl rfl rfl (by simp [zan,zb,zaT,zbw]) uSo fun v49=> ?_)
     refine gz1 ?_;refine de0 (uY 3 ?_)
     refine gz3 ?_;refine zd (zaN 5 (i:=1) rfl rfl) ?_;refine gz4 ?_;exact ⟨k+1,⟨v49,out++[x],a2+1⟩,⟨by omega,hq.add (x:=x) (hg36 x (Ab hx)) uO⟩,uD,⟨rfl,trivial⟩,uK,zl (by dsimp only;rw [Ay];rfl)⟩
    ·refine gz3 ?_;refine zd (zaN 5 (i:=1) rfl rfl) ?_;refine gz4 ?_;exact ⟨k+1,⟨u,out,a2+1⟩,⟨by omega,hq.same uO⟩,uD,⟨rfl,trivial⟩,uK,zl rfl⟩
   ·have hnk:k36.length<=k:=by omega
    obtain rfl:k=k36.length:=by omega
    refine gz2 ?_;refine zQ ?_;refine gz4 ?_;refine de rfl (uZ 2 ?_)
    refine de rfl (uCx 3 zDs rfl rfl (zpp (l:=out) g2 uO) ?_)
    rintro _ _ ⟨Z,rfl,hz1,hz2,rfl⟩;have hzl:=hz1.length_eq;refine gz1 ?_;have hgz:Z.length<=6/\∀x∈Z,GamB x:=⟨by omega,fun x hx=>g2 x (hz1.mem_iff.1 hx)⟩
    refine uVj [55,44] (fun (q5:LeagueS×Nat)=>[]) (fun (q5:LeagueS×Nat)=>[St b l q5.2,.cells b2 zxC,.cells b3 (lgC q5.1.Players (zgf q5.1.Stints) q5.1.Fixtures q5.1.Rules q5.1.Slots q5.1.Bounds q5.1.Teams (.raw u) q5.1.Breaks q5.1.Trust q5.1.Start),.arr u 8 (q5.1.Games.map zbb)]) (fun (q5:LeagueS×Nat)=>LeaC q5.1/\q5.2<=a+500) ?_ ?_
    ·skip
     refine gz2 ?_;refine de rfl (uCx 1 zfd rfl rfl (zK uS uS) ?_)
     rintro _ _ ⟨y56,rfl,rfl⟩;refine gz1 ?_;refine uCo (fun h5=> ?_) fun h6=> ?_
     ·refine gz2 ?_;refine de rfl (uCx 0 zj7 rfl rfl (zao uS uS) ?_)
      rintro _ _ ⟨y58,rfl,hy58,rfl⟩;refine gz6 ?_;refine uCo (fun h7=> ?_) fun h8=> ?_
      ·refine gz2 ?_;refine dq (za (hs:=[_,_,_]) zab ty3 rfl rfl (by decide) (by decide) rfl) ?_;refine de rfl (uCx 0 zaZ rfl rfl (ze (L:=[_,_,_]) uS uS uS) ?_)
       rintro _ _ ⟨y81,rfl,hy81,rfl⟩;refine gz1 ?_;refine de0 (uY 3 ?_)
       refine gz2 ?_;exact ⟨((⟨k7,k32,k9,k11,k13,y15,T,Z,k22,t24,y81⟩:LeagueS),a2+3),⟨zkU (h1:=hk7) (h2:=by dsimp only;omega) (h3:=by dsimp only;omega) (h4:=hk11) (h5:=hk13.up) (h6:=by dsimp only;omega) (h7:=hgz) (h8:=by dsimp only;omega) (h9:=htr) (h10:=by simp at hy81;dsimp only;omega) (h11:=htt),uD⟩,trivial,uK,uP⟩
      ·refine gz4 ?_;refine uCo (fun h9=> ?_) fun h10=> ?_
       ·refine gz2 ?_;refine de rfl (uZ 3 ?_)
        refine de rfl (uCa zlj rfl (zad uO) fun v87=> ?_)
        refine gz1 ?_;refine dq (za (hs:=[_,_]) zo ty9 rfl rfl (by decide) (by decide) rfl) ?_;refine de rfl (uCx 1 zcC rfl rfl (zq (L:=[_,_]) uS uS uS) ?_)
        rintro _ _ ⟨y90,rfl,hy90,rfl⟩;refine dq (za (hs:=[_]) zo ty9 rfl rfl (by decide) (by decide) rfl) ?_;refine de rfl (zmP (N:=[St b l (a2+3),.arr u 8 (Z.map zbb),.cells b2 zxC,.cells b3 (lgC k7 (zgf k32) k9 k11 k13 y15 T (.raw u) k22 t24 y27)]) (sz:=1) (es:=(T++[y90]).map .str) 1 (zH (i:=1) zo ty9 rfl rfl rfl rfl rfl (by simp [zan,zb]) uSo fun v=>⟨v,rfl,by simp,rfl⟩) ?_)
        refine gz1 ?_;refine de0 (uY 3 ?_)
        refine gz2 ?_;exact ⟨((⟨k7,k32,k9,k11,k13,y15,T++[y90],Z,k22,t24,y27⟩:LeagueS),a2+3),⟨zkU (h1:=hk7) (h2:=by dsimp only;omega) (h3:=by dsimp only;omega) (h4:=hk11) (h5:=hk13.up) (h6:=by dsimp only;rw [Ax];simp only [Ah,Ar];omega) (h7:=hgz) (h8:=by dsimp only;omega) (h9:=htr) (h10:=hst) (h11:=htt.app _),uD⟩,trivial,uK,uP⟩
       ·refine gz4 ?_;refine uCo (fun h11=> ?_) fun h12=> ?_
        ·refine gz2 ?_;refine de rfl (uCx 0 zGJ rfl rfl (zk5 uS) ?_)
         rintro _ _ ⟨k97,a97,rfl,hk97,ha97,rfl⟩;refine gz1 ?_;refine de0 (uY 3 ?_)
         refine gz2 ?_;exact ⟨((⟨k7,k32,k9,k11,k97,y15,T,Z,k22,t24,y27⟩:LeagueS),a97),⟨zkU (h1:=hk7) (h2:=by dsimp only;omega) (h3:=by dsimp only;omega) (h4:=hk11) (h5:=hk97) (h6:=by dsimp only;omega) (h7:=hgz) (h8:=by dsimp only;omega) (h9:=htr) (h10:=hst) (h11:=htt),by dsimp only at ha97⊢;omega⟩,trivial,uK,uP⟩
        ·refine gz2 ?_;refine de rfl (uZ 3 ?_)
         refine de rfl (zbq (i:=1) zgZ rfl rfl ?_)
         refine gz2 ?_;refine uCo (fun h13=> ?_) fun h14=> ?_
         ·have hz0:0<Z.length:=by first|assumption|omega|simp_all
          obtain ⟨x0,hx0⟩: ∃x,Z[0]? =some x:=⟨_,Aa hz0⟩
          refine zc3 (i:=1) rfl (fun h0 he=> ?_) (fun ob off cap hv hcap=> ?_)
          ·exfalso;have:=congrArg List.length he;simp at this;subst this;simp at hz0
          subst hv;refine zbx (fun M=> ∃i:Nat,M[i]? =some (.cells b3 (lgC k7 (zgf k32) k9 k11 k13 y15 T (.raw (.slice (some ⟨ob,off,none⟩) (Z.map zbb).length cap)) k22 t24 y27))) [1,3,5] mixed ?_;refine gz1 ?_;refine uM 1 rfl (⟨3,rfl⟩) (fun M hM=>by obtain ⟨i,hi⟩:=hM;exact zV (i:=i) zgZ rfl hi (.inl ⟨rfl,rfl⟩) ⟨rfl,rfl⟩) ?_;refine gz1 ?_;refine uM 3 rfl (⟨3,rfl⟩) (fun M hM=>by obtain ⟨i,hi⟩:=hM;exact zV (i:=i) zgZ rfl hi (.inl ⟨rfl,rfl⟩) ⟨rfl,rfl⟩) ?_;refine gz1 ?_;refine uM 5 rfl (⟨3,rfl⟩) (fun M hM=>by obtain ⟨i,hi⟩:=hM;exact zV (i:=i) zgZ rfl hi (.inl ⟨rfl,rfl⟩) ⟨rfl,rfl⟩) ?_;refine uB 6 rfl (zC (cs:=[_,_]) zaM zls rfl) ?_;refine uB 7 rfl (zC (cs:=[_,_]) zaM zls rfl) ?_;refine uB 8 rfl (zM (j:=0) zgZ zcS rfl rfl rfl uSo) ?_;refine gz1 ?_;refine uF 10 ?_;refine zI (zac (i:=1) (j:=0) (f:=3) (y:=zbb x0) (y':=zbb (⟨x0.Week,x0.Home,x0.Away,true,x0.FNum,x0.FDen,x0.ONum,x0.ODen⟩:GameS)) ty4 rfl uO rfl rfl (zbG hx0) rfl rfl (by simp [zb]) rfl ?_)
          refine ⟨fun _=> .inl ⟨3,rfl⟩,?_⟩
          refine uB 11 rfl (zM (j:=0) zgZ zcS rfl rfl rfl uSo) ?_;refine gz1 ?_;refine uF 13 ?_;refine zI (zac (i:=1) (j:=0) (f:=4) (y:=zbb (⟨x0.Week,x0.Home,x0.Away,true,x0.FNum,x0.FDen,x0.ONum,x0.ODen⟩:GameS)) (y':=zbb (⟨x0.Week,x0.Home,x0.Away,true,1,1,x0.ONum,x0.ODen⟩:GameS)) zaM rfl uO rfl rfl (za1 (zbG hx0)) rfl rfl (by simp [zb]) rfl ?_)
          refine ⟨fun _=> .inl ⟨3,rfl⟩,?_⟩
          refine uB 14 rfl (zM (j:=0) zgZ zcS rfl rfl rfl uSo) ?_;refine gz1 ?_;refine uF 16 ?_;refine zI (zac (i:=1) (j:=0) (f:=6) (y:=zbb (⟨x0.Week,x0.Home,x0.Away,true,1,1,x0.ONum,x0.ODen⟩:GameS)) (y':=zbb (⟨x0.Week,x0.Home,x0.Away,true,1,1,1,1⟩:GameS)) zaM rfl uO rfl rfl (za1 (za1 (zbG hx0))) rfl rfl (by simp [zb]) rfl ?_)
          refine ⟨fun _=> .inl ⟨3,rfl⟩,?_⟩
          refine gz2 ?_;exact ⟨((⟨k7,k32,k9,k11,k13,y15,T,Z.set 0 (⟨x0.Week,x0.Home,x0.Away,true,1,1,1,1⟩:GameS),k22,t24,y27⟩:LeagueS),a2+2),⟨zkU (h1:=hk7) (h2:=by dsimp only;omega) (h3:=by dsimp only;omega) (h4:=hk11) (h5:=hk13.up) (h6:=by dsimp only;omega) (h7:=⟨by dsimp only;rw [List.length_set];omega,zgd (P:=GamB) hgz.2 ⟨(hgz.2 x0 (Ab hx0)).week,uD,uD⟩⟩) (h8:=by dsimp only;omega) (h9:=htr) (h10:=hst) (h11:=htt),uD⟩,trivial,uK,uP⟩
         ·refine gz2 ?_;exact ⟨((⟨k7,k32,k9,k11,k13,y15,T,Z,k22,t24,y27⟩:LeagueS),a2+2),⟨zkU (h1:=hk7) (h2:=by dsimp only;omega) (h3:=by dsimp only;omega) (h4:=hk11) (h5:=hk13.up) (h6:=by dsimp only;omega) (h7:=hgz) (h8:=by dsimp only;omega) (h9:=htr) (h10:=hst) (h11:=htt),uD⟩,trivial,uK,uP⟩
     ·refine gz1 ?_;exact ⟨((⟨k7,k32,k9,k11,k13,y15,T,Z,k22,t24,y27⟩:LeagueS),a2+1),⟨zkU (h1:=hk7) (h2:=by dsimp only;omega) (h3:=by dsimp only;omega) (h4:=hk11) (h5:=hk13.up) (h6:=by dsimp only;omega) (h7:=hgz) (h8:=by dsimp only;omega) (h9:=htr) (h10:=hst) (h11:=htt),uD⟩,trivial,uK,uP⟩
    ·intro q5 hq5
     obtain ⟨g5,a5⟩:=q5;obtain ⟨hg5,ha5⟩:=hq5;dsimp only at hg5 ha5;refine zd (zgb (i:=3) (k:=2) (j:=10) rfl rfl rfl) ?_;refine zd (Ghost.perm (M':=[.cells b2 zxC,St b l a5,.cells b3 (zb (zcj g5))]) uP) ?_;refine gz1 ?_;refine de rfl (zeh (i:=2) (h:=zcj g5) zbE rfl rfl rfl rfl rfl ?_)
     refine de0 (zj (h:=zcj g5) zbE rfl rfl rfl rfl rfl ?_)
     refine gz2 ?_;exact ⟨_,_,(zm 2 rfl).trans ((Ghost.perm (List.Perm.swap _ _ _)).trans Ghost.drop),[_],_,⟨⟨_,_,_,_,_,rfl,zbE,.inr ⟨rfl,rfl,rfl⟩⟩,trivial⟩,Weak.refl _,g5,a5,rfl,hg5,ha5,rfl⟩
end
section
open Go.HL
set_option linter.unusedSimpArgs false
end
section
open Go.Proofs.Tryz
open Go.HL
theorem ziZ [Tracks] {b:Nat} {l:List Int} {a:Nat} (ha:a<=800000):Con prog 24 [pAt b] [St b l a] (fun x M'=> ∃y:Int,x= .int .i64 y/\(-1<=y/\y<=1000000000000)/\M'=[St b l (a+1+1)]):=by
 refine uOb func24 ntmps24 ?_;refine gz6 ?_;refine dq (za (hs:=[_,_]) zab ty3 rfl rfl (by decide) (by decide) rfl) ?_;refine de rfl (uCx 0 zaZ rfl rfl (ze (L:=[_,_]) uS uS uS) ?_)
 rintro _ _ ⟨y6,rfl,hy6,rfl⟩;refine dq (za (hs:=[_,_,_,_,_,_,_,_]) zab ty3 rfl rfl (by decide) (by decide) rfl) ?_;refine de rfl (uCx 0 zaZ rfl rfl (ze (L:=[_,_,_,_,_,_,_,_]) uS uS uS) ?_)
 rintro _ _ ⟨y8,rfl,hy8,rfl⟩;refine gz3 ?_;exact zaf rfl ⟨_,rfl,by simp at hy6 hy8;omega,rfl⟩
theorem zlX [Tracks] {A X C:List MvS} {ia ib:Int} {n b off cap:Nat} {fid:FuncId} {caps:List HVal} {c:MvS->MvS->Int} (hca:Callable prog fid) (hp: ∀x y,ConP prog fid ([zd2 x,zd2 y]++caps) (.int .i64 (c x y))) (hn:A.length+X.length+C.length=n) (hia:ia=(A.length:Int)) (hib:ib=(A.length:Int)+X.length) (hl:n<=1000000):Con prog 221 [.raw (.slice (some ⟨b,off,none⟩) n cap),.int .i64 ia,.int .i64 ib,.fn (.func fid) [] caps] [.arr (.slice (some ⟨b,off,none⟩) n cap) 4 ((A++X++C).map zd2)] (fun x M'=>x= .tup []/\M'=[.arr (.slice (some ⟨b,off,none⟩) n cap) 4 ((A++zah c X++C).map zd2)]):=by
 refine uOb func221 ntmps221 ?_;refine gz6 ?_;refine uV1 [8,2,12,41] (fun (k:Nat)=>[(8,.int .i64 ((A.length+k:Nat):Int))]) (fun (k:Nat)=>[.arr (.slice (some ⟨b,off,none⟩) n cap) 4 ((A++(zah c (X.take k)++X.drop k)++C).map zd2)]) (fun (k:Nat)=>1<=k) (fun (k:Nat)=>X.length-k) (1) ?_ ?_ ?_ ?_;exact Ae _;exact ⟨zU uO,trivial⟩;exact zl (by rw [zq3])
 intro k hk
 refine gz6 ?_;refine uCo (fun h1=> ?_) fun h2=> ?_
 obtain ⟨x,hx⟩: ∃x,X[k]? =some x:=⟨_,Aa uO⟩
 refine gz9 ?_;refine uV2 [9,1,18,35] (fun (D:List MvS) (B:List MvS)=>[(9,.int .i64 ((A.length+D.length:Nat):Int))]) (fun (D:List MvS) (B:List MvS)=>[.arr (.slice (some ⟨b,off,none⟩) n cap) 4 (((A++D)++x::(B++X.drop (k+1)++C)).map zd2)]) (fun (D:List MvS) (B:List MvS)=>D.length+B.length=k/\zeQ c x (zah c (X.take k))=zeQ c x D++B) (fun (D:List MvS) (B:List MvS)=>D.length) (zah c (X.take k)) ([]) ?_ ?_ ?_ ?_;exact ⟨by simp [zbX];omega,by simp⟩;exact ⟨zU (by simp [zbX];omega),trivial⟩;exact zl (by rw [zi hx];simp)
 intro D B hinv
 obtain ⟨hA,hB⟩:=hinv;have hlA:D.length<X.length:=by omega
 refine gz1 ?_;refine zbF (fun M=>M=[.arr (.slice (some ⟨b,off,none⟩) n cap) 4 (((A++D)++x::(B++X.drop (k+1)++C)).map zd2)]) [8,13] mixed ?_;refine gz7 ?_;refine ahg 7 rfl rfl (by kernel_rfl) (by kernel_rfl) rfl (fun hc=>by
  have hq:0<D.length:=by simp at hc;omega
  exact ⟨_,OpenTo.upd (t:=24) rfl (hc) (OpenTo.upd (t:=23) rfl (hc) (OpenTo.refl _)),zM (j:=(A++D).length) zda zy rfl rfl (by simp) uSo⟩) ?_
 refine ztg 8 rfl rfl (by kernel_rfl) (by kernel_rfl) (by simp) rfl rfl (fun hc=>⟨_,OpenTo.upd (t:=25) rfl (hc) (OpenTo.refl _),fun M hM=>by
  subst hM;exact zas (i:=0) (j:=(A++D).length) zy rfl rfl rfl zkS rfl rfl rfl ⟨rfl,rfl⟩
  ⟩) ?_
 refine gz2 ?_;refine ahg 11 rfl rfl (by kernel_rfl) (by kernel_rfl) rfl (fun hc=>by
  have hq:0<D.length:=by simp at hc;omega
  exact ⟨_,OpenTo.upd (t:=28) rfl (hc) (OpenTo.refl _),ziv rfl rfl uO uO⟩) ?_
 refine ahg 12 rfl rfl (by kernel_rfl) (by kernel_rfl) rfl (fun hc=>by
  have hq:0<D.length:=by simp at hc;omega
  exact ⟨_,OpenTo.upd (t:=29) rfl (hc) (OpenTo.upd (t:=27) rfl (hc) (OpenTo.refl _)),zM (j:=(A++D).length-1) zda zy rfl rfl uSo uSo⟩) ?_
 refine ztg 13 rfl rfl (by kernel_rfl) (by kernel_rfl) (by simp) rfl rfl (fun hc=>⟨_,OpenTo.upd (t:=30) rfl (hc) (OpenTo.refl _),fun M hM=>by
  have hq:0<D.length:=by simp at hc;omega
  subst hM;exact zas (i:=0) (j:=(A++D).length-1) zy rfl rfl rfl (zsn uSo) rfl rfl rfl ⟨rfl,rfl⟩
  ⟩) ?_
 refine uGy 14 rfl rfl (fun hc=>zag hca rfl rfl (WeakL.refl _) (hp _ _)) ?_;refine gz3 ?_;refine uCo (fun h3=> ?_) fun h4=> ?_
 obtain ⟨hA0,hcx⟩:=h3;obtain ⟨D1,y,rfl⟩:=zt9 (A:=D) uO;rw [zwE] at hcx;have hD1:(D1++[y]).length=D1.length+1:=by simp
 refine gz4 ?_;refine zbx (fun M=>M=[.arr (.slice (some ⟨b,off,none⟩) n cap) 4 (((A++(D1++[y]))++x::(B++X.drop (k+1)++C)).map zd2)]) [9,13] mixed ?_;refine gz8 ?_;refine uB 8 rfl (zM (j:=(A++(D1++[y])).length-1) zda zy rfl rfl uSo uSo) ?_;refine uM 9 rfl rfl (uW (zas (i:=0) (j:=(A++(D1++[y])).length-1) zy rfl rfl rfl (zoc) rfl rfl rfl ⟨rfl,rfl⟩)) ?_;refine gz2 ?_;refine uB 12 rfl (zM (j:=(A++(D1++[y])).length) zda zy rfl rfl (by simp) uSo) ?_;refine uM 13 rfl rfl (uW (zas (i:=0) (j:=(A++(D1++[y])).length) zy rfl rfl rfl zkS rfl rfl rfl ⟨rfl,rfl⟩)) ?_;refine uB 14 rfl (zM (j:=(A++(D1++[y])).length) zda zy rfl rfl (by simp) uSo) ?_;refine uF 15 ?_;refine zI (zby (i:=0) (j:=(A++(D1++[y])).length) (y:=x) (y':=y) zy rfl rfl rfl rfl zkS rfl rfl rfl ?_)
 refine ⟨uE,?_⟩
 refine uB 16 rfl (zM (j:=(A++(D1++[y])).length-1) zda zy rfl rfl uSo uSo) ?_;refine uF 17 ?_;refine zI (zby (i:=0) (j:=(A++(D1++[y])).length-1) (y:=y) (y':=x) zy rfl rfl rfl rfl (by rw [BW (by simp)];exact zoc) rfl rfl rfl ?_)
 refine ⟨uE,?_⟩
 refine gz8 ?_;exact ⟨D1,y::B,⟨by simp at hA⊢;omega,zwD hB hcx⟩,uD,⟨zU uO,trivial⟩,uK,zl (by rw [<-A9,zxu];simp)⟩;have hins:=zwC (l:=X) (k:=k) hx hB (by intro h0;have h9:=h4 uO;rw [zpT h0] at h9;omega);refine gz2 ?_;refine zQ ?_;refine gz8 ?_;exact ⟨k+1,by omega,uD,⟨zU uO,trivial⟩,uK,zl (by rw [zyq hins])⟩;have hend:zah c (X.take k)++X.drop k=zah c X:=by rw [Bz uO,zz uO];simp
 refine gz2 ?_;refine zv ?_;refine gz1 ?_;exact zaf rfl ⟨rfl,by rw [hend]⟩
theorem zqX [Tracks] {l:List MvS} {n0:Int} {n b off cap:Nat} {fid:FuncId} {caps:List HVal} {c:MvS->MvS->Int} (hca:Callable prog fid) (hp: ∀x y,ConP prog fid ([zd2 x,zd2 y]++caps) (.int .i64 (c x y))) (hc:Cmp c fun _=>True) (hn:l.length=n) (hn0:n0=(n:Int)) (hl:n<=20):Con prog 125 [.raw (.slice (some ⟨b,off,none⟩) n cap),.int .i64 n0,.fn (.func fid) [] caps] [.arr (.slice (some ⟨b,off,none⟩) n cap) 4 ((l).map zd2)] (fun x M'=> ∃Z:List MvS,x= .tup []/\(Z.Perm l/\Srt c Z)/\M'=[.arr (.slice (some ⟨b,off,none⟩) n cap) 4 ((Z).map zd2)]):=by
 refine uOb func125 ntmps125 ?_;refine zau ?_;refine uV3 [7,2,11,12] (fun (a0:Nat) (k:Nat) (Z:List MvS)=>[(7,.int .i64 (a0:Int)),(8,.int .i64 ((a0+20:Nat):Int))]) (fun (a0:Nat) (k:Nat) (Z:List MvS)=>[.arr (.slice (some ⟨b,off,none⟩) n cap) 4 ((Z++l.drop a0).map zd2)]) (fun (a0:Nat) (k:Nat) (Z:List MvS)=>a0=20*k/\a0<=n/\Blk c 20 Z/\Z.length=a0/\Z.Perm (l.take a0)) (fun (a0:Nat) (k:Nat) (Z:List MvS)=>n-a0) (0) (0) ([]) ?_ ?_ ?_ ?_
 ·exact ⟨rfl,Ad _,Blk.nil,rfl,by simp⟩
 ·exact ⟨rfl,rfl,trivial⟩
 ·exact zl (by simp)
 ·intro a0 k Z hinv
  obtain ⟨ha0,ha1,hZ,hZl,hZp⟩:=hinv;refine gz6 ?_;refine uCo (fun h1=> ?_) fun h2=> ?_
  ·refine gz3 ?_;refine zd (zbv (M':=[.arr (.slice (some ⟨b,off,none⟩) n cap) 4 ((Z++(l.drop a0).take 20++l.drop (a0+20)).map zd2)]) (by rw [A9 Z,<-win])) ?_;refine gz5 ?_;refine de rfl (uCx 0 zzi rfl rfl (zlX (A:=Z) (X:=((l.drop a0).take 20)) (C:=(l.drop (a0+20))) (n:=n) hca hp (by first|omega|(simp;omega)) uO (by first|omega|(simp;omega)) uO) ?_)
   rintro _ _ ⟨rfl,rfl⟩;refine zdf ?_;exact ⟨a0+20,k+1,Z++zah c ((l.drop a0).take 20),⟨by omega,by omega,hZ.add (k:=k) uO (zl7 hc _) (by rw [zbX,Az];omega),by rw [Ax,zbX,Az,BB];omega,by rw [zvb];exact hZp.append (za5 c _)⟩,uD,⟨zU uO,zU uO,trivial⟩,uK,Ac _⟩
  ·refine gz2 ?_;refine zcE ?_;refine gz2 ?_;refine zd (zbv (M':=[.arr (.slice (some ⟨b,off,none⟩) n cap) 4 ((Z++l.drop a0++[]).map zd2)]) (by simp)) ?_;refine gz5 ?_;refine de rfl (uCx 0 zzi rfl rfl (zlX (A:=Z) (X:=(l.drop a0)) (C:=[]) (n:=n) hca hp (by first|omega|(simp;omega)) uO (by first|omega|(simp;omega)) uO) ?_)
   rintro _ _ ⟨rfl,rfl⟩;refine gz2 ?_;refine uV2 [6,4,28,35] (fun (bs:Nat) (D:List MvS)=>[(6,.int .i64 (bs:Int))]) (fun (bs:Nat) (D:List MvS)=>[.arr (.slice (some ⟨b,off,none⟩) n cap) 4 ((D).map zd2)]) (fun (bs:Nat) (D:List MvS)=>20<=bs/\bs<=2*n+20/\Blk c bs D/\D.Perm l) (fun (bs:Nat) (D:List MvS)=>n-bs) (20) (Z++zah c (l.drop a0)) ?_ ?_ ?_ ?_
   ·refine ⟨Ae _,by omega,hZ.add (k:=k) uO (zl7 hc _) (by rw [zbX,BB];omega),?_⟩
    have:=hZp.append (za5 c (l.drop a0))
    rwa [Bo] at this
   ·exact ⟨rfl,trivial⟩
   ·exact zl (by simp)
   ·intro bs D hinv
    obtain ⟨hb1,hb2,hD,hDp⟩:=hinv;have hDl:D.length=n:=by rw [hDp.length_eq];exact hn
    refine gz6 ?_;refine zam rfl (fun h3=> ?_) (fun h3=> ?_)
    ·exfalso
     try simp at h3
     all_goals omega
    ·try simp at h3
     refine gz2 ?_;refine zQ ?_;refine gz1 ?_;have hDs:=hD.all uO;exact zaf rfl ⟨D,rfl,⟨hDp,hDs⟩,rfl⟩
theorem zr5 [Tracks] {v:Value} {fid:FuncId} {caps:List HVal}:Con prog 221 [.raw v,.int .i64 0,.int .i64 0,.fn (.func fid) [] caps] [.arr v 4 []] (fun x M'=>x= .tup []/\M'=[.arr v 4 []]):=by
 refine uOb func221 ntmps221 ?_;refine gz6 ?_;refine uU1 [8,2,12,41] (fun (u:Unit)=>[(8,.int .i64 1)]) (fun (u:Unit)=>[.arr v 4 []]) (fun (u:Unit)=>True) (fun (u:Unit)=>0) (()) ?_ ?_
 ·trivial
 ·intro u hu
  refine gz6 ?_;refine zam rfl (fun h1=> ?_) (fun h1=> ?_)
  ·exfalso
   try simp at h1
   all_goals omega
  ·try simp at h1
   refine gz2 ?_;refine zv ?_;refine gz1 ?_;exact zaf rfl ⟨rfl,rfl⟩
theorem zpr [Tracks] {v:Value} {fid:FuncId} {caps:List HVal}:Con prog 125 [.raw v,.int .i64 0,.fn (.func fid) [] caps] [.arr v 4 []] (fun x M'=>x= .tup []/\M'=[.arr v 4 []]):=by
 refine uOb func125 ntmps125 ?_;refine zau ?_;refine uU1 [7,2,11,12] (fun (u:Unit)=>[(7,.int .i64 0),(8,.int .i64 20)]) (fun (u:Unit)=>[.arr v 4 []]) (fun (u:Unit)=>True) (fun (u:Unit)=>0) (()) ?_ ?_
 ·trivial
 ·intro u hu
  refine gz6 ?_;refine zam rfl (fun h1=> ?_) (fun h1=> ?_)
  ·exfalso
   try simp at h1
   all_goals omega
  ·try simp at h1
   refine gz2 ?_;refine zv ?_;refine gz7 ?_;refine de rfl (uCx 0 zzi rfl rfl zr5 ?_)
   rintro _ _ ⟨rfl,rfl⟩;refine gz2 ?_;refine uU1 [6,4,28,35] (fun (u:Unit)=>[(6,.int .i64 20)]) (fun (u:Unit)=>[.arr v 4 []]) (fun (u:Unit)=>True) (fun (u:Unit)=>0) (()) ?_ ?_
   ·trivial
   ·intro u hu
    refine gz6 ?_;refine zam rfl (fun h2=> ?_) (fun h2=> ?_)
    ·exfalso
     try simp at h2
     all_goals omega
    ·try simp at h2
     refine gz2 ?_;refine zv ?_;refine gz1 ?_;exact zaf rfl ⟨rfl,rfl⟩
theorem zoX [Tracks] {fid:FuncId} {caps:List HVal}:Con prog 57 [.raw (.slice none 0 0),.fn (.func fid) [] caps] [.arr (.slice none 0 0) 4 []] (fun x M'=>x= .tup []/\M'=[.arr (.slice none 0 0) 4 []]):=by
 refine uOb func57 ntmps57 ?_;refine gz3 ?_;refine dq (zfh zda rfl) ?_;refine gz1 ?_;refine de rfl (uCx 0 zDu rfl rfl zpr ?_)
 rintro _ _ ⟨rfl,rfl⟩;refine gz1 ?_;exact zaf rfl ⟨rfl,rfl⟩
theorem zoY [Tracks] {l:List MvS} {n b off cap:Nat} {fid:FuncId} {caps:List HVal} {c:MvS->MvS->Int} (hca:Callable prog fid) (hp: ∀x y,ConP prog fid ([zd2 x,zd2 y]++caps) (.int .i64 (c x y))) (hc:Cmp c fun _=>True) (hn:l.length=n) (hl:n<=20):Con prog 57 [.raw (.slice (some ⟨b,off,none⟩) n cap),.fn (.func fid) [] caps] [.arr (.slice (some ⟨b,off,none⟩) n cap) 4 ((l).map zd2)] (fun x M'=> ∃Z:List MvS,x= .tup []/\(Z.Perm l/\Srt c Z)/\M'=[.arr (.slice (some ⟨b,off,none⟩) n cap) 4 ((Z).map zd2)]):=by
 refine uOb func57 ntmps57 ?_;refine gz3 ?_;refine dq (zfh zda rfl) ?_;refine gz1 ?_;refine de rfl (uCx 0 zDu rfl rfl (zqX hca hp hc hn rfl hl) ?_)
 rintro _ _ ⟨Z,rfl,hz,rfl⟩;refine gz1 ?_;exact zaf rfl ⟨Z,rfl,hz,rfl⟩
theorem zpq [Tracks] {l:List MvS} {v:Value} {fid:FuncId} {caps:List HVal} {c:MvS->MvS->Int} (hca:Callable prog fid) (hp: ∀x y,ConP prog fid ([zd2 x,zd2 y]++caps) (.int .i64 (c x y))) (hc:Cmp c fun _=>True) (hl:l.length<=20):Con prog 57 [.raw v,.fn (.func fid) [] caps] [.arr v 4 (l.map zd2)] fun x M'=> ∃Z:List MvS,x= .tup []/\(Z.Perm l/\Srt c Z)/\M'=[.arr v 4 (Z.map zd2)]:=
 zwn (fun h1 h2=>by
  have h3:l=[]:=by first|exact List.map_eq_nil_iff.1 h2|simpa using h2
  subst h1 h3;exact zoX.mono fun x M' ⟨e1,e2⟩=>⟨[],e1,⟨Ac _,Srt.nil⟩,e2⟩)
  fun b off cap h1=>by
   rw [Af] at h1;subst h1;exact zoY hca hp hc rfl hl
theorem zse [Tracks] {l:List MoveS} (hb: ∀x∈l,MovB x) (hl:l.length<=20) {v:Value}:
 Con prog 57 [.raw v,.fn (.func 58) [] []] [.arr v 4 (l.map zdD)] fun x M'=> ∃l':List MoveS,x= .tup []/\l'.Perm l/\M'=[.arr v 4 (l'.map zdD)]:=by
 have h:=zpq (l:=l.attachWith _ hb) (v:=v) (c:=zDo) (caps:=[]) ca58 (fun x y=>zig (a:=x.1) (b:=y.1) x.2 y.2) zAB (by simpa using hl);rw [show ((l.attachWith _ hb).map zd2)=l.map zdD from zrZ hb zdD] at h;refine h.mono fun x M' ⟨l',e1,⟨hp,hw⟩,e2⟩=>⟨l'.map Subtype.val,e1,?_,?_⟩
 have h9:=hp.map Subtype.val;rw [znt hb] at h9;exact h9;rw [e2,AW];rfl
end
section
open Go.Proofs.Tryz
open Go.HL
theorem zk4 [Tracks] {b:Nat} {l:List Int} {a:Nat} (ha:a<=700000):Con prog 55 [pAt b] [St b l a] (fun x M'=> ∃k a',x=zcq k/\GoodMds k/\a'<=a+100/\M'=[St b l a']):=by
 refine uOb func55 ntmps55 ?_;refine gz6 ?_;refine zd (zJ 7) ?_;refine gz2 ?_;refine dq (za (hs:=[_,_,_]) zo ty9 rfl rfl (by decide) (by decide) rfl) ?_;refine dq (zaE (f:=HVal.str) (l:=mp3) zo rfl) ?_;refine gz3 ?_;refine uV2 [3,1,5,2,8,2,13,36] (fun (k:Nat) (q:GL MendS)=>[(13,.int .i64 k),(3,.raw q.u)]) (fun (k:Nat) (q:GL MendS)=>[St b l q.a,.arr q.u 7 (q.out.map zbc)]) (fun (k:Nat) (q:GL MendS)=>k<=mp3.length/\(GLok zix (8*k) (a+24*k) q)) (fun (k:Nat) (q:GL MendS)=>mp3.length-k) (0) (⟨.slice none 0 0,[],a⟩) ?_ ?_ ?_ ?_;exact ⟨by decide,⟨by simp,by simp,uD⟩⟩;exact ⟨rfl,rfl,trivial⟩;exact uP
 intro k q hinv
 obtain ⟨hk,hq⟩:=hinv;have hk3:mp3.length=3:=rfl;obtain ⟨u,out,a2⟩:=q;obtain ⟨g1,g2,g3⟩:=id hq;dsimp only at g1 g2 g3;refine gz4 ?_;refine uCo (fun h1=> ?_) fun h2=> ?_
 obtain ⟨x,hx⟩: ∃x,mp3[k]? =some x:=⟨_,Aa h1⟩
 have hdx:=zi hx;refine gz5 ?_;refine dq (zB (f:=HVal.str) (l:=mp3) (j:=k) (a:=x) zo ty9 rfl rfl rfl hx) ?_;refine gz7 ?_;refine uV2 [3,1,6,1,8,2,17,31] (fun (w:Nat) (q2:GL MendS)=>[(6,.int .i64 ((w:Int)+1)),(3,.raw q2.u)]) (fun (w:Nat) (q2:GL MendS)=>[St b l q2.a,.arr q2.u 7 (q2.out.map zbc)]) (fun (w:Nat) (q2:GL MendS)=>w<=2/\GLok zix (8*k+4*w) (a+24*k+12*w) q2) (fun (w:Nat) (q2:GL MendS)=>2-w) (0) (⟨u,out,a2⟩) ?_ ?_ ?_ ?_;exact ⟨by omega,hq.mono uO uO⟩;exact ⟨zU uO,rfl,trivial⟩;exact uP
 intro w q2 hinv
 obtain ⟨hw,hq2⟩:=hinv;obtain ⟨u,out,a2⟩:=q2;obtain ⟨g1,g2,g3⟩:=id hq2;dsimp only at g1 g2 g3;refine gz5 ?_;refine uCo (fun h3=> ?_) fun h4=> ?_
 refine gz5 ?_;refine dq (za (hs:=[_,_]) zo ty9 rfl rfl (by decide) (by decide) rfl) ?_;refine dq (zaE (f:=HVal.str) (l:=ms2) zo rfl) ?_;refine gz3 ?_;refine uV2 [3,1,8,2,23,25] (fun (j:Nat) (q3:GL MendS)=>[(23,.int .i64 j),(3,.raw q3.u)]) (fun (j:Nat) (q3:GL MendS)=>[St b l q3.a,.arr q3.u 7 (q3.out.map zbc)]) (fun (j:Nat) (q3:GL MendS)=>j<=ms2.length/\(GLok zix (8*k+4*w+2*j) (a+24*k+12*w+6*j) q3)) (fun (j:Nat) (q3:GL MendS)=>ms2.length-j) (0) (⟨u,out,a2⟩) ?_ ?_ ?_ ?_;exact ⟨by decide,hq2.mono uO uO⟩;exact ⟨rfl,rfl,trivial⟩;exact uP
 intro j q3 hinv
 obtain ⟨hj,hq3⟩:=hinv;have hj2:ms2.length=2:=rfl;obtain ⟨u,out,a2⟩:=q3;obtain ⟨g1,g2,g3⟩:=id hq3;dsimp only at g1 g2 g3;refine gz4 ?_;refine uCo (fun h5=> ?_) fun h6=> ?_
 obtain ⟨z,hz⟩: ∃z,ms2[j]? =some z:=⟨_,Aa h5⟩
 have hdz:=zi hz;refine gz5 ?_;refine dq (zB (f:=HVal.str) (l:=ms2) (j:=j) (a:=z) zo ty9 rfl rfl rfl hz) ?_;refine gz7 ?_;refine uV2 [3,1,9,1,27,20] (fun (v:Nat) (q4:GL MendS)=>[(9,.int .i64 ((v:Int)+1)),(3,.raw q4.u)]) (fun (v:Nat) (q4:GL MendS)=>[St b l q4.a,.arr q4.u 7 (q4.out.map zbc)]) (fun (v:Nat) (q4:GL MendS)=>v<=2/\GLok zix (8*k+4*w+2*j+v) (a+24*k+12*w+6*j+3*v) q4) (fun (v:Nat) (q4:GL MendS)=>2-v) (0) (⟨u,out,a2⟩) ?_ ?_ ?_ ?_;exact ⟨by omega,hq3.mono uO uO⟩;exact ⟨zU uO,rfl,trivial⟩;exact uP
 intro v q4 hinv
 obtain ⟨hv,hq4⟩:=hinv;obtain ⟨u,out,a2⟩:=q4;obtain ⟨g1,g2,g3⟩:=id hq4;dsimp only at g1 g2 g3;refine gz5 ?_;refine uCo (fun h7=> ?_) fun h8=> ?_
 refine gz6 ?_;refine de rfl (uCx 0 zfd rfl rfl (zK uS uS) ?_)
 rintro _ _ ⟨y32,rfl,rfl⟩;refine gz1 ?_;refine uCo (fun h9=> ?_) fun h10=> ?_
 refine gz6 ?_;refine dq (za (hs:=[_,_,_]) zab ty3 rfl rfl (by decide) (by decide) rfl) ?_;refine de rfl (uCx 0 zaZ rfl rfl (ze (L:=[_,_,_]) uS uS uS) ?_)
 rintro _ _ ⟨y39,rfl,hy39,rfl⟩;refine gz1 ?_;refine dq (za (hs:=[_,_,_]) zab ty3 rfl rfl (by decide) (by decide) rfl) ?_;refine de rfl (uCx 0 zaZ rfl rfl (ze (L:=[_,_,_]) uS uS uS) ?_)
 rintro _ _ ⟨y42,rfl,hy42,rfl⟩;refine gz1 ?_;refine dq (zC (cs:=[_,_,_,_,_,_,_]) zaY pl97 rfl) ?_;refine dq (za (hs:=[_]) zeg zaY rfl rfl (by decide) (by decide) rfl) ?_;refine de rfl (zH (i:=1) zeg zaY rfl rfl rfl rfl rfl (by simp [zan,zb,zaT,zbw]) uSo fun v46=> ?_)
 refine gz9 ?_;exact ⟨v+1,⟨v46,out++[(⟨x,(w:Int)+1,z,y39,y42,(v:Int)+1,[98,111,115,115]⟩:MendS)],a2+1+1+1⟩,⟨by omega,hq4.add (x:=(⟨x,(w:Int)+1,z,y39,y42,(v:Int)+1,[98,111,115,115]⟩:MendS)) ⟨zGb x (Ab hx),zGc z (Ab hz),by unfold Sh;simp⟩ uO⟩,uD,⟨zU uO,rfl,trivial⟩,uK,zl (by dsimp only;rw [Ay];rfl)⟩;refine gz8 ?_;exact ⟨v+1,⟨u,out,a2+1⟩,⟨by omega,hq4.same uO⟩,uD,⟨zU uO,rfl,trivial⟩,uK,uP⟩;refine gz2 ?_;refine zQ ?_;refine gz7 ?_;exact ⟨j+1,⟨u,out,a2⟩,⟨by omega,hq4.mono uO uO⟩,uD,⟨rfl,rfl,trivial⟩,uK,uP⟩;have hnj:ms2.length<=j:=by omega
 obtain rfl:j=ms2.length:=by omega
 refine gz2 ?_;refine zQ ?_;refine gz8 ?_;exact ⟨w+1,⟨u,out,a2⟩,⟨by omega,hq3.mono uO uO⟩,uD,⟨zU uO,rfl,trivial⟩,uK,uP⟩;refine gz2 ?_;refine zQ ?_;refine gz7 ?_;exact ⟨k+1,⟨u,out,a2⟩,⟨by omega,hq2.mono uO uO⟩,uD,⟨rfl,rfl,trivial⟩,uK,uP⟩;have hnk:mp3.length<=k:=by omega
 obtain rfl:k=mp3.length:=by omega
 refine gz2 ?_;refine zQ ?_;refine gz2 ?_;refine uVj [10,1,49,59] (fun (q5:List MendS×Nat)=>[]) (fun (q5:List MendS×Nat)=>[St b l q5.2,.arr u 7 (q5.1.map zbc)]) (fun (q5:List MendS×Nat)=>q5.1.length<=24/\(∀x∈q5.1,zix x)/\q5.2<=a+100) ?_ ?_
 skip
 refine gz2 ?_;refine de rfl (zbq (i:=1) zeg rfl rfl ?_)
 refine gz3 ?_;refine dgx (fun x M'=> ∃(y:Bool) (a3:Nat),x= .bool y/\a3<=a2+1/\M'=[St b l a3,.arr u 7 (out.map zbc)]) rfl rfl (fun hc=>⟨_,false,a2,rfl,by omega,rfl⟩) (fun hc=>⟨_,OpenTo.upd (t:=53) rfl (hc) (OpenTo.refl _),uCx 0 zfd rfl rfl (zK (a:=a2) uO uO) (fun h M' hh=>by
  obtain ⟨y,h1,h2⟩:=hh;exact ⟨y,a2+1,h1,by omega,by rw [h2];rfl⟩)⟩) ?_
 rintro _ _ ⟨y,a3,rfl,ha3,rfl⟩;refine gz2 ?_;refine uCo (fun h11=> ?_) fun h12=> ?_
 have ho0:0<out.length:=by simp_all
 refine zc3 (i:=1) rfl (fun h0 he=> ?_) (fun ob off cap hv hcap=> ?_)
 exfalso;have:=congrArg List.length he;simp at this;subst this;simp at ho0
 subst hv;refine gz4 ?_;refine de rfl (zbq (i:=1) zeg rfl rfl ?_)
 refine de rfl (uCx 0 zj7 rfl rfl (zao uS uS) ?_)
 rintro _ _ ⟨y60,rfl,hy60,rfl⟩;refine dq (zM (j:=y60) zeg zaY rfl rfl rfl uSo) ?_;refine gz2 ?_;obtain ⟨x,hx⟩: ∃x,out[y60]? =some x:=⟨_,Aa uO⟩
 refine zbx (fun M=> ∃i:Nat,M[i]? =some (.arr (.slice (some ⟨ob,off,none⟩) (out.map zbc).length cap) 7 (out.map zbc))) [9,16,23,30] mixed ?_;refine gz9 ?_;refine uM 9 rfl ⟨1,rfl⟩ (fun M hM=>by obtain ⟨i,hi⟩:=hM;exact zaC (i:=i) (j:=y60) 0 ty9 rfl uO hi hx rfl rfl ⟨rfl,rfl⟩) ?_;refine uB 10 rfl (za (hs:=[_,_,_]) zo ty9 rfl rfl (by decide) (by decide) rfl) ?_;refine uA 12 ?_;refine gz3 ?_;refine uM 16 rfl ⟨1,rfl⟩ (fun M hM=>by obtain ⟨i,hi⟩:=hM;exact zaC (i:=i) (j:=y60) 1 ty3 rfl uO hi hx rfl rfl ⟨rfl,rfl⟩) ?_;refine uB 17 rfl (za (hs:=[_,_]) zab ty3 rfl rfl (by decide) (by decide) rfl) ?_;refine uA 19 ?_;refine gz3 ?_;refine uM 23 rfl ⟨1,rfl⟩ (fun M hM=>by obtain ⟨i,hi⟩:=hM;exact zaC (i:=i) (j:=y60) 3 ty3 rfl uO hi hx rfl rfl ⟨rfl,rfl⟩) ?_;refine uB 24 rfl (za (hs:=[_,_]) zab ty3 rfl rfl (by decide) (by decide) rfl) ?_;refine uA 26 ?_;refine gz3 ?_;refine uM 30 rfl ⟨1,rfl⟩ (fun M hM=>by obtain ⟨i,hi⟩:=hM;exact zaC (i:=i) (j:=y60) 5 ty3 rfl uO hi hx rfl rfl ⟨rfl,rfl⟩) ?_;refine uB 31 rfl (za (hs:=[_,_,_]) zab ty3 rfl rfl (by decide) (by decide) rfl) ?_;refine uA 33 ?_;refine uB 34 rfl (za (hs:=[_,_]) zo ty9 rfl rfl (by decide) (by decide) rfl) ?_;refine uF 11 ?_;refine zw rfl (uCx 0 zcC rfl rfl (zq (L:=[_,_,_]) uS uS uS) ?_)
 rintro _ _ ⟨y73,rfl,hy73,rfl⟩;refine ⟨uE,?_⟩
 refine uF 18 ?_;refine zw rfl (uCx 0 zaZ rfl rfl (ze (L:=[_,_]) uS uS uS) ?_)
 rintro _ _ ⟨y80,rfl,hy80,rfl⟩;refine ⟨uE,?_⟩
 refine uF 25 ?_;refine zw rfl (uCx 0 zaZ rfl rfl (ze (L:=[_,_]) uS uS uS) ?_)
 rintro _ _ ⟨y87,rfl,hy87,rfl⟩;refine ⟨uE,?_⟩
 refine uF 32 ?_;refine zw rfl (uCx 0 zaZ rfl rfl (ze (L:=[_,_,_]) uS uS uS) ?_)
 rintro _ _ ⟨y94,rfl,hy94,rfl⟩;refine ⟨uE,?_⟩
 refine uF 35 ?_;refine zw rfl (uCx 0 zcC rfl rfl (zq (L:=[_,_]) uS uS uS) ?_)
 rintro _ _ ⟨y97,rfl,hy97,rfl⟩;refine ⟨uE,?_⟩
 refine gz2 ?_;refine uF 38 ?_;refine zI (zac (i:=1) (j:=y60) (f:=0) (y:=zbc x) (y':=zbc ⟨y73,x.Week,x.Stat,x.Count,x.At,x.Version,x.By⟩) ty9 rfl uO rfl rfl (zbG hx) rfl rfl (by simp [zb]) rfl ?_)
 refine ⟨uE,?_⟩
 refine gz2 ?_;refine uF 41 ?_;refine zI (zac (i:=1) (j:=y60) (f:=1) (y:=zbc ⟨y73,x.Week,x.Stat,x.Count,x.At,x.Version,x.By⟩) (y':=zbc ⟨y73,y80,x.Stat,x.Count,x.At,x.Version,x.By⟩) ty3 rfl uO rfl rfl (za1 (zbG hx)) rfl rfl (by simp [zb]) rfl ?_)
 refine ⟨uE,?_⟩
 refine gz2 ?_;refine uF 44 ?_;refine zI (zac (i:=1) (j:=y60) (f:=3) (y:=zbc ⟨y73,y80,x.Stat,x.Count,x.At,x.Version,x.By⟩) (y':=zbc ⟨y73,y80,x.Stat,y87,x.At,x.Version,x.By⟩) ty3 rfl uO rfl rfl (za1 (za1 (zbG hx))) rfl rfl (by simp [zb]) rfl ?_)
 refine ⟨uE,?_⟩
 refine gz2 ?_;refine uF 47 ?_;refine zI (zac (i:=1) (j:=y60) (f:=5) (y:=zbc ⟨y73,y80,x.Stat,y87,x.At,x.Version,x.By⟩) (y':=zbc ⟨y73,y80,x.Stat,y87,x.At,y94,x.By⟩) ty3 rfl uO rfl rfl (za1 (za1 (za1 (zbG hx)))) rfl rfl (by simp [zb]) rfl ?_)
 refine ⟨uE,?_⟩
 refine gz2 ?_;refine uF 50 ?_;refine zI (zac (i:=1) (j:=y60) (f:=6) (y:=zbc ⟨y73,y80,x.Stat,y87,x.At,y94,x.By⟩) (y':=zbc ⟨y73,y80,x.Stat,y87,x.At,y94,y97⟩) ty9 rfl uO rfl rfl (za1 (za1 (za1 (za1 (zbG hx))))) rfl rfl (by simp [zb]) rfl ?_)
 refine ⟨uE,?_⟩
 refine gz1 ?_;exact ⟨(out.set y60 ⟨y73,y80,x.Stat,y87,x.At,y94,y97⟩,a3+1+1+1+1+1+1),⟨by simp;omega,zgd (P:=zix) g2 (by
  have hgx:=g2 x (Ab hx);exact ⟨by simp at hy73;rcases hy73 with rfl|rfl|rfl;exact hgx.1;exact zsK;(unfold Sh;simp),hgx.2.1,by simp at hy97;rcases hy97 with rfl|rfl<;>(unfold Sh;simp)⟩),uD⟩,trivial,uK,uP⟩
 refine gz1 ?_;exact ⟨(out,a3),⟨uD,g2,uD⟩,trivial,uK,uP⟩
 intro q5 hq5
 obtain ⟨k1,a4⟩:=q5;dsimp only at hq5;obtain ⟨q1,q2,q3⟩:=hq5;refine gz5 ?_;exact zA (zay 2 (i:=1) rfl rfl) rfl ⟨k1,a4,rfl,⟨by omega,q2⟩,by omega,rfl⟩
end
section
open Go.Proofs.Tryz
open Go.HL
theorem ziY [Tracks] {b:Nat} {l:List Int} {a:Nat} (ha:a<=500000):Con prog 21 [pAt b] [St b l a] (fun x M'=> ∃k a',x=zaP k/\BookG k/\a'<=a+2000/\M'=[St b l a']):=by
 refine zaQ func21 rfl ntmps21 rfl rfl ?_;refine gz1 ?_;refine de rfl (zg zdr rfl fun b2=> ?_)
 refine gz3 ?_;refine de rfl (uCx 1 ca53 rfl rfl (zjE uS) ?_)
 rintro _ _ ⟨g13,a13,rfl,hg13,ha13,rfl⟩;refine gz1 ?_;refine de rfl (uCx 0 ca54 rfl rfl (zlC uS) ?_)
 rintro _ _ ⟨p15,a15,rfl,hp15,ha15,rfl⟩;refine gz1 ?_;refine de rfl (uCx 0 ca55 rfl rfl (zk4 uS) ?_)
 rintro _ _ ⟨m17,a17,rfl,hm17,ha17,rfl⟩;refine dq (zJi zdr pl43) ?_;refine de rfl (zg zdr rfl fun b3=> ?_)
 refine de0 (uY 0 ?_)
 refine zau ?_;refine de rfl (uCx 1 zho rfl rfl (zT uS uS uS uS) ?_)
 rintro _ _ ⟨y20,rfl,hy20,rfl⟩;refine gz2 ?_;refine zd (zJ 4) ?_;refine gz1 ?_;refine uV3 [5,1,21,24] (fun (n:Nat) (at1:Int) (q:GL MoveS)=>[(21,.int .i64 (n:Int)),(5,.int .i64 at1)]) (fun (n:Nat) (at1:Int) (q:GL MoveS)=>[St b l q.a,.cells b2 zki,.cells b3 (bkC g13 (.raw q.u) (zbK p15) (zcq m17) (.raw (.slice none 0 0)) (.raw (.slice none 0 0))),.arr q.u 4 (q.out.map zdD)]) (fun (n:Nat) (at1:Int) (q:GL MoveS)=>(n:Int)<=y20/\(0<=at1/\at1<=20*n)/\GLok MovB n (a17+1+4*n) q) (fun (n:Nat) (at1:Int) (q:GL MoveS)=>y20.toNat-n) (0) (0) (⟨.slice none 0 0,[],a17+1⟩) ?_ ?_ ?_ ?_
 ·exact ⟨by omega,by omega,⟨by simp,by simp,uD⟩⟩
 ·exact ⟨rfl,rfl,trivial⟩
 ·exact by repeat (first|exact List.Perm.nil|refine zaK 0 rfl ?_|refine zaK 1 rfl ?_|refine zaK 2 rfl ?_|refine zaK 3 rfl ?_|refine zaK 4 rfl ?_|refine zaK 5 rfl ?_|(refine zat 0 rfl ?hq ?_;(case hq=>simp [zaO,zb];done))|(refine zat 1 rfl ?hq ?_;(case hq=>simp [zaO,zb];done))|(refine zat 2 rfl ?hq ?_;(case hq=>simp [zaO,zb];done))|(refine zat 3 rfl ?hq ?_;(case hq=>simp [zaO,zb];done))|(refine zat 4 rfl ?hq ?_;(case hq=>simp [zaO,zb];done))|(refine zat 5 rfl ?hq ?_;(case hq=>simp [zaO,zb];done))|fail)
 ·intro n at1 q hinv
  obtain ⟨hn,hat,hq⟩:=hinv;obtain ⟨u,out,a1⟩:=q;obtain ⟨g1,g2,g3⟩:=id hq;dsimp only at g1 g2 g3;refine gz4 ?_;refine uCo (fun h1=> ?_) fun h2=> ?_
  ·refine gz7 ?_;refine dq (za (hs:=[_,_,_,_]) zab ty3 rfl rfl (by decide) (by decide) rfl) ?_;refine de rfl (uCx 0 zaZ rfl rfl (ze (L:=[_,_,_,_]) uS uS uS) ?_)
   rintro _ _ ⟨y26,rfl,hy26,rfl⟩;refine dq (zbt rfl rfl (by simp at hy26;omega) (by simp at hy26;omega)) ?_;refine gz2 ?_;refine zbx (fun M=> ∃i:Nat,M[i]? =some (.cells b3 (bkC g13 (.raw u) (zbK p15) (zcq m17) (.raw (.slice none 0 0)) (.raw (.slice none 0 0))))) [1] mixed ?_;refine gz1 ?_;refine uM 1 rfl ⟨2,rfl⟩ (fun M hM=>by obtain ⟨i,hi⟩:=hM;exact zV (i:=i) (h:= .raw u) zda rfl hi (.inl ⟨rfl,rfl⟩) ⟨rfl,rfl⟩) ?_;refine gz2 ?_;refine uB 4 rfl (za (hs:=[_,_,_,_,_,_]) zab ty3 rfl rfl (by decide) (by decide) rfl) ?_;refine uA 6 ?_;refine uB 7 rfl (za (hs:=[_,_]) zo ty9 rfl rfl (by decide) (by decide) rfl) ?_;refine uA 9 ?_;refine uB 10 rfl (za (hs:=[_,_,_,_,_]) zo ty9 rfl rfl (by decide) (by decide) rfl) ?_;refine uF 5 ?_;refine zw rfl (uCx 0 zaZ rfl rfl (ze (L:=[_,_,_,_,_,_]) uS uS uS) ?_)
   rintro _ _ ⟨y33,rfl,hy33,rfl⟩;refine ⟨uE,?_⟩
   refine uF 8 ?_;refine zw rfl (uCx 0 zcC rfl rfl (zq (L:=[_,_]) uS uS uS) ?_)
   rintro _ _ ⟨y36,rfl,hy36,rfl⟩;refine ⟨uE,?_⟩
   refine uF 11 ?_;refine zw rfl (uCx 0 zcC rfl rfl (zq (L:=[_,_,_,_,_]) uS uS uS) ?_)
   rintro _ _ ⟨y39,rfl,hy39,rfl⟩;refine ⟨uE,?_⟩
   refine uB 12 rfl (zC (cs:=[_,_,_,_]) zy zI2 rfl) ?_;refine uB 13 rfl (za (hs:=[_]) zda zy rfl rfl (by decide) (by decide) rfl) ?_;refine uF 14 ?_;refine zw rfl (zH (i:=3) zda zy rfl rfl rfl rfl rfl (by simp [zan,zb]) (by first|omega|(simp;omega)) fun v42=> ?_)
   refine ⟨uE,?_⟩
   refine gz1 ?_;refine uF 16 ?_;refine zI (uY 2 ?_)
   refine ⟨uE,?_⟩
   refine gz7 ?_;exact ⟨n+1,at1+y26,⟨v42,out++[(⟨at1+y26,y33,y36,y39⟩:MoveS)],a1+1+1+1+1⟩,⟨by omega,by simp at hy26;omega,hq.add (x:=(⟨at1+y26,y33,y36,y39⟩:MoveS)) ⟨by simp at hy26;dsimp only;omega,by simp at hy33;dsimp only;omega⟩ uO⟩,uD,⟨rfl,rfl,trivial⟩,uK,uQ⟩
  ·refine gz2 ?_;refine zcE ?_;refine gz4 ?_;refine de rfl (uZ 2 ?_)
   refine de rfl (uCx 3 ca57 rfl rfl (zse (l:=out) g2 uO) ?_)
   rintro _ _ ⟨Z,rfl,hzp,rfl⟩;have hzl:=hzp.length_eq;refine gz3 ?_;refine de rfl (uZ 3 ?_)
   refine de rfl (uCx 0 ca59 rfl rfl (zhn (l:=Z) uO) ?_)
   rintro _ _ ⟨u50,rfl,rfl⟩;refine gz1 ?_;refine de0 (uY 3 ?_)
   refine gz1 ?_;have hul:=zvc Z none;have hub: ∀x∈zal none Z,MovB x:=fun x hx=>g2 x (hzp.mem_iff.1 (zpY Z none x hx))
   refine zd (Ghost.perm (M':=[St b l a1,.cells b2 zki,.cells b3 (bkC g13 (.raw u50) (zbK p15) (zcq m17) (.raw (.slice none 0 0)) (.raw (.slice none 0 0))),.arr u50 4 ((zal none Z).map zdD)]) uQ) ?_;refine zd (zgb (i:=3) (k:=2) (j:=14) rfl rfl rfl) ?_;refine gz4 ?_;refine de rfl (uZ 2 ?_)
   refine de rfl (uCx 0 ca60 rfl rfl (zjD (a:=a1) (L:=g13.Players) uO (by have:=hg13.pl;omega)) ?_)
   rintro _ _ ⟨k56,a56,rfl,hk56,ha56,rfl⟩;refine gz1 ?_;refine de0 (uY 2 ?_)
   refine gz5 ?_;refine de rfl (uZ 2 ?_)
   refine dq (zaE (f:=HVal.str) (l:=g13.Teams) zo rfl) ?_;refine gz2 ?_;refine zd (zJ 5) ?_;refine gz1 ?_;refine uV2 [7,4,62,54] (fun (k:Nat) (q:GL ChoiceS)=>[(62,.int .i64 k)]) (fun (k:Nat) (q:GL ChoiceS)=>[St b l q.a,.cells b2 zki,.cells b3 (bkC g13 (zcA (zal none Z)) (zbK p15) (zcq m17) (zde k56) (.raw q.u)),.arr q.u 5 (q.out.map zX)]) (fun (k:Nat) (q:GL ChoiceS)=>k<=g13.Teams.length/\(GLok GoodC4 (4*k) (a56+28*k) q)) (fun (k:Nat) (q:GL ChoiceS)=>g13.Teams.length-k) (0) (⟨.slice none 0 0,[],a56⟩) ?_ ?_ ?_ ?_
   ·exact ⟨Ad _,⟨by simp,by simp,uD⟩⟩
   ·exact ⟨rfl,trivial⟩
   ·exact by repeat (first|exact List.Perm.nil|refine zaK 0 rfl ?_|refine zaK 1 rfl ?_|refine zaK 2 rfl ?_|refine zaK 3 rfl ?_|refine zaK 4 rfl ?_|refine zaK 5 rfl ?_|(refine zat 0 rfl ?hq ?_;(case hq=>simp [zaO,zb];done))|(refine zat 1 rfl ?hq ?_;(case hq=>simp [zaO,zb];done))|(refine zat 2 rfl ?hq ?_;(case hq=>simp [zaO,zb];done))|(refine zat 3 rfl ?hq ?_;(case hq=>simp [zaO,zb];done))|(refine zat 4 rfl ?hq ?_;(case hq=>simp [zaO,zb];done))|(refine zat 5 rfl ?hq ?_;(case hq=>simp [zaO,zb];done))|fail)
   ·intro k q hinv
    obtain ⟨hk,hq⟩:=hinv;obtain ⟨u,out,a2⟩:=q;obtain ⟨g1,g2,g3⟩:=id hq;dsimp only at g1 g2 g3;have htm:=hg13.tm;refine gz4 ?_;refine uCo (fun h3=> ?_) fun h4=> ?_
    ·obtain ⟨x,hx⟩: ∃x,g13.Teams[k]? =some x:=⟨_,Aa h3⟩
     have hdx:=zi hx;refine gz5 ?_;refine dq (zB (f:=HVal.str) (l:=g13.Teams) (j:=k) (a:=x) zo ty9 rfl rfl rfl hx) ?_;refine gz7 ?_;refine uV2 [8,3,66,49] (fun (w:Nat) (q2:GL ChoiceS)=>[(8,.int .i64 ((w:Int)+1))]) (fun (w:Nat) (q2:GL ChoiceS)=>[St b l q2.a,.cells b2 zki,.cells b3 (bkC g13 (zcA (zal none Z)) (zbK p15) (zcq m17) (zde k56) (.raw q2.u)),.arr q2.u 5 (q2.out.map zX)]) (fun (w:Nat) (q2:GL ChoiceS)=>w<=2/\GLok GoodC4 (4*k+2*w) (a56+28*k+14*w) q2) (fun (w:Nat) (q2:GL ChoiceS)=>2-w) (0) (⟨u,out,a2⟩) ?_ ?_ ?_ ?_
     ·exact ⟨by omega,hq.mono uO uO⟩
     ·exact ⟨zU uO,trivial⟩
     ·exact by repeat (first|exact List.Perm.nil|refine zaK 0 rfl ?_|refine zaK 1 rfl ?_|refine zaK 2 rfl ?_|refine zaK 3 rfl ?_|refine zaK 4 rfl ?_|refine zaK 5 rfl ?_|(refine zat 0 rfl ?hq ?_;(case hq=>simp [zaO,zb];done))|(refine zat 1 rfl ?hq ?_;(case hq=>simp [zaO,zb];done))|(refine zat 2 rfl ?hq ?_;(case hq=>simp [zaO,zb];done))|(refine zat 3 rfl ?hq ?_;(case hq=>simp [zaO,zb];done))|(refine zat 4 rfl ?hq ?_;(case hq=>simp [zaO,zb];done))|(refine zat 5 rfl ?hq ?_;(case hq=>simp [zaO,zb];done))|fail)
     ·intro w q2 hinv
      obtain ⟨hw,hq2⟩:=hinv;obtain ⟨u,out,a2⟩:=q2;obtain ⟨g1,g2,g3⟩:=id hq2;dsimp only at g1 g2 g3;refine gz5 ?_;refine uCo (fun h5=> ?_) fun h6=> ?_
      ·refine gz8 ?_;refine dq (za (hs:=[_,_,_]) zab ty3 rfl rfl (by decide) (by decide) rfl) ?_;refine de rfl (uCx 0 zaZ rfl rfl (ze (L:=[_,_,_]) uS uS uS) ?_)
       rintro _ _ ⟨y74,rfl,hy74,rfl⟩;refine gz2 ?_;have hb74:0<=y74/\y74<=604799999:=by simp at hy74;omega
       refine gz2 ?_;refine dq (za (hs:=[_,_,_,_]) zab ty3 rfl rfl (by decide) (by decide) rfl) ?_;refine de rfl (uCx 0 zaZ rfl rfl (ze (L:=[_,_,_,_]) uS uS uS) ?_)
       rintro _ _ ⟨y77,rfl,hy77,rfl⟩;refine gz2 ?_;have hb77:0<=y77/\y77<=2:=by simp at hy77;omega
       refine gz1 ?_;refine uV3 [9,2,78,37] (fun (n:Nat) (at2:Int) (q3:GL ChoiceS)=>[(78,.int .i64 (n:Int)),(9,.int .i64 at2)]) (fun (n:Nat) (at2:Int) (q3:GL ChoiceS)=>[St b l q3.a,.cells b2 zki,.cells b3 (bkC g13 (zcA (zal none Z)) (zbK p15) (zcq m17) (zde k56) (.raw q3.u)),.arr q3.u 5 (q3.out.map zX)]) (fun (n:Nat) (at2:Int) (q3:GL ChoiceS)=>(n:Int)<=y77/\(0<=at2/\at2<=604800000*((n:Int)+1))/\GLok GoodC4 (4*k+2*w+n) (a56+28*k+14*w+2+6*n) q3) (fun (n:Nat) (at2:Int) (q3:GL ChoiceS)=>y77.toNat-n) (0) (y74) (⟨u,out,a2+1+1⟩) ?_ ?_ ?_ ?_
       ·exact ⟨by omega,by omega,⟨uD,g2,uD⟩⟩
       ·exact ⟨rfl,rfl,trivial⟩
       ·exact by repeat (first|exact List.Perm.nil|refine zaK 0 rfl ?_|refine zaK 1 rfl ?_|refine zaK 2 rfl ?_|refine zaK 3 rfl ?_|refine zaK 4 rfl ?_|refine zaK 5 rfl ?_|(refine zat 0 rfl ?hq ?_;(case hq=>simp [zaO,zb];done))|(refine zat 1 rfl ?hq ?_;(case hq=>simp [zaO,zb];done))|(refine zat 2 rfl ?hq ?_;(case hq=>simp [zaO,zb];done))|(refine zat 3 rfl ?hq ?_;(case hq=>simp [zaO,zb];done))|(refine zat 4 rfl ?hq ?_;(case hq=>simp [zaO,zb];done))|(refine zat 5 rfl ?hq ?_;(case hq=>simp [zaO,zb];done))|fail)
       ·intro n at2 q3 hinv
        obtain ⟨hn,hat2,hq3⟩:=hinv;obtain ⟨u,out,a2⟩:=q3;obtain ⟨g1,g2,g3⟩:=id hq3;dsimp only at g1 g2 g3;refine gz4 ?_;refine uCo (fun h7=> ?_) fun h8=> ?_
        ·refine gz9 ?_;refine dq (za (hs:=[_,_,_,_]) zo ty9 rfl rfl (by decide) (by decide) rfl) ?_;refine de rfl (uCx 0 zcC rfl rfl (zq (L:=[_,_,_,_]) uS uS uS) ?_)
         rintro _ _ ⟨y85,rfl,hy85,rfl⟩;refine dq (zC (cs:=[_,_,_,_,_]) za8 zEb rfl) ?_;refine de rfl (zg za8 rfl fun b10=> ?_)
         refine de0 (uY 0 ?_)
         refine gz5 ?_;refine de rfl (uZ 3 ?_)
         refine dq (zaE (f:=zcm) (l:=g13.Slots) zfC rfl) ?_;refine gz2 ?_;refine zd (zJ 1) ?_;refine gz1 ?_;refine uV2 [91,11] (fun (j:Nat) (p:GL Str)=>[(91,.int .i64 j)]) (fun (j:Nat) (p:GL Str)=>[St b l p.a,.cells b10 [.str x,.int .i64 ((w:Int)+1),.int .i64 at2,.raw p.u,.str y85],.arr p.u 1 (p.out.map .str),.cells b2 zki,.cells b3 (bkC g13 (zcA (zal none Z)) (zbK p15) (zcq m17) (zde k56) (.raw u)),.arr u 5 (out.map zX)]) (fun (j:Nat) (p:GL Str)=>j<=g13.Slots.length/\(p.out.length=j/\(∀s∈p.out,Sh s)/\p.a=a2+1+j)) (fun (j:Nat) (p:GL Str)=>g13.Slots.length-j) (0) (⟨.slice none 0 0,[],a2+1⟩) ?_ ?_ ?_ ?_
         ·exact ⟨Ad _,rfl,by simp,rfl⟩
         ·exact ⟨rfl,trivial⟩
         ·exact by repeat (first|exact List.Perm.nil|refine zaK 0 rfl ?_|refine zaK 1 rfl ?_|refine zaK 2 rfl ?_|refine zaK 3 rfl ?_|refine zaK 4 rfl ?_|refine zaK 5 rfl ?_|(refine zat 0 rfl ?hq ?_;(case hq=>simp [zaO,zb];done))|(refine zat 1 rfl ?hq ?_;(case hq=>simp [zaO,zb];done))|(refine zat 2 rfl ?hq ?_;(case hq=>simp [zaO,zb];done))|(refine zat 3 rfl ?hq ?_;(case hq=>simp [zaO,zb];done))|(refine zat 4 rfl ?hq ?_;(case hq=>simp [zaO,zb];done))|(refine zat 5 rfl ?hq ?_;(case hq=>simp [zaO,zb];done))|fail)
         ·intro j p hinv
          obtain ⟨hj,hp⟩:=hinv;obtain ⟨v,ps,a5⟩:=p;dsimp only at hp;obtain ⟨hp1,hp2,hp3⟩:=hp;have hsl:=hg13.sl;refine gz4 ?_;refine uCo (fun h9=> ?_) fun h10=> ?_
          ·obtain ⟨z,hz⟩: ∃z,g13.Slots[j]? =some z:=⟨_,Aa h9⟩
           have hdz:=zi hz;refine gz4 ?_;refine zbx (fun M=> ∃i:Nat,M[i]? =some (.cells b10 [.str x,.int .i64 ((w:Int)+1),.int .i64 at2,.raw v,.str y85])) [1] mixed ?_;refine gz1 ?_;refine uM 1 rfl ⟨1,rfl⟩ (fun M hM=>by obtain ⟨i,hi⟩:=hM;exact zV (i:=i) (h:= .raw v) zo rfl hi (.inl ⟨rfl,rfl⟩) ⟨rfl,rfl⟩) ?_;refine gz1 ?_;refine uB 3 rfl (za (hs:=[_,_,_,_,_,_,_,_]) zo ty9 rfl rfl (by decide) (by decide) rfl) ?_;refine uF 4 ?_;refine zw rfl (uCx 0 zcC rfl rfl (zq (L:=[_,_,_,_,_,_,_,_]) uS uS uS) ?_)
           rintro _ _ ⟨y97,rfl,hy97,rfl⟩;refine ⟨uE,?_⟩
           refine uB 5 rfl (za (hs:=[_]) zo ty9 rfl rfl (by decide) (by decide) rfl) ?_;refine uF 6 ?_;refine zw rfl (zH (i:=2) zo ty9 rfl rfl rfl rfl rfl (by simp [zan,zb]) (by first|omega|(simp;omega)) fun v99=> ?_)
           refine ⟨uE,?_⟩
           refine gz1 ?_;refine uF 8 ?_;refine zI (uY 1 ?_)
           refine ⟨uE,?_⟩
           refine gz7 ?_;exact ⟨j+1,⟨v99,ps++[y97],a5+1⟩,⟨by omega,by simp;omega,fun s hs=>by
            rcases List.mem_append.1 hs with hs|hs
            ·exact hp2 s hs
            ·rw [List.mem_singleton.1 hs];simp at hy97;rcases hy97 with rfl|rfl|rfl|rfl|rfl|rfl|rfl|rfl<;>(unfold Sh;simp),uD⟩,uD,⟨rfl,trivial⟩,uK,uQ⟩
          ·have hnj:g13.Slots.length<=j:=by omega
           obtain rfl:j=g13.Slots.length:=by omega
           refine gz2 ?_;refine zQ ?_;refine gz2 ?_;refine zd (zgb (i:=2) (k:=1) (j:=3) rfl rfl rfl) ?_;refine zd (zbv (M':=[St b l a5,.cells b10 (zb (zX (⟨x,(w:Int)+1,at2,ps,y85⟩:ChoiceS))),.cells b2 zki,.cells b3 (bkC g13 (zcA (zal none Z)) (zbK p15) (zcq m17) (zde k56) (.raw u)),.arr u 5 (out.map zX)]) rfl) ?_;refine zd (zaN 10 (i:=1) rfl rfl) ?_;refine gz2 ?_;refine de rfl (uZ 2 ?_)
           refine gz1 ?_;refine dq (za (hs:=[_]) zfj za8 rfl rfl (by decide) (by decide) rfl) ?_;refine de rfl (zH (i:=3) zfj za8 rfl rfl rfl rfl rfl (by simp [zan,zb,zaT,zbw]) uSo fun v106=> ?_)
           refine gz1 ?_;refine de0 (uY 2 ?_)
           refine gz5 ?_;refine dq (za (hs:=[_,_,_]) zab ty3 rfl rfl (by decide) (by decide) rfl) ?_;refine de rfl (uCx 0 zaZ rfl rfl (ze (L:=[_,_,_]) uS uS uS) ?_)
           rintro _ _ ⟨y112,rfl,hy112,rfl⟩;refine dq (zbt rfl rfl (by simp at hy112;omega) (by simp at hy112;omega)) ?_;refine gz8 ?_;exact ⟨n+1,at2+y112,⟨v106,out++[(⟨x,(w:Int)+1,at2,ps,y85⟩:ChoiceS)],a5+1⟩,⟨by omega,by simp at hy112;omega,hq3.add (x:=(⟨x,(w:Int)+1,at2,ps,y85⟩:ChoiceS)) ⟨hp2,by simp at hy85;rcases hy85 with rfl|rfl|rfl|rfl<;>(unfold Sh;simp),by have:=hg13.sl;dsimp only;omega⟩ (by have:=hg13.sl;omega)⟩,uD,⟨rfl,rfl,trivial⟩,uK,uQ⟩
        ·refine gz2 ?_;refine zcE ?_;refine gz8 ?_;exact ⟨w+1,⟨u,out,a2⟩,⟨by omega,hq3.mono uO uO⟩,uD,⟨zU uO,trivial⟩,uK,uQ⟩
      ·refine gz2 ?_;refine zQ ?_;refine gz7 ?_;exact ⟨k+1,⟨u,out,a2⟩,⟨by omega,hq2.mono uO uO⟩,uD,⟨rfl,trivial⟩,uK,uQ⟩
    ·have hnk:g13.Teams.length<=k:=by omega
     obtain rfl:k=g13.Teams.length:=by omega
     refine gz2 ?_;refine zQ ?_;refine gz2 ?_;refine uVj [11,1,116,52] (fun (q5:List ChoiceS×Nat)=>[]) (fun (q5:List ChoiceS×Nat)=>[St b l q5.2,.cells b2 zki,.cells b3 (bkC g13 (zcA (zal none Z)) (zbK p15) (zcq m17) (zde k56) (.raw u)),.arr u 5 (q5.1.map zX)]) (fun (q5:List ChoiceS×Nat)=>GoodChs q5.1/\q5.2<=a2+10) ?_ ?_
     ·skip
      refine gz2 ?_;refine de rfl (uZ 2 ?_)
      refine de rfl (zbq (i:=3) (es:=out) zfj rfl rfl ?_)
      refine gz3 ?_;refine dgx (fun x M'=> ∃(y:Bool) (a3:Nat),x= .bool y/\a3<=a2+1/\M'=[St b l a3,.cells b2 zki,.cells b3 (bkC g13 (zcA (zal none Z)) (zbK p15) (zcq m17) (zde k56) (.raw u)),.arr u 5 (out.map zX)]) rfl rfl (fun hc=>⟨_,false,a2,rfl,by omega,rfl⟩) (fun hc=>⟨_,OpenTo.upd (t:=121) rfl (hc) (OpenTo.refl _),uCx 0 zfd rfl rfl (zK (a:=a2) uO uO) (fun h M' hh=>by
       obtain ⟨y,h1,h2⟩:=hh;exact ⟨y,a2+1,h1,by omega,by rw [h2];rfl⟩)⟩) ?_
      rintro _ _ ⟨y,a3,rfl,ha3,rfl⟩;refine gz2 ?_;refine uCo (fun h11=> ?_) fun h12=> ?_
      ·have ho0:0<out.length:=by simp_all
       refine zc3 (i:=3) rfl (fun h0 he=> ?_) (fun ob off cap hv hcap=> ?_)
       ·exfalso;have:=congrArg List.length he;simp at this;subst this;simp at ho0
       subst hv;refine zbF (fun M=> ∃i:Nat,M[i]? =some (.cells b3 (bkC g13 (zcA (zal none Z)) (zbK p15) (zcq m17) (zde k56) (.raw (.slice (some ⟨ob,off,none⟩) (out.map zX).length cap))))) [1,4] mixed ?_;refine gz1 ?_;refine uM 1 rfl ⟨2,rfl⟩ (fun M hM=>by obtain ⟨i,hi⟩:=hM;exact zV (i:=i) (h:= .raw (.slice (some ⟨ob,off,none⟩) (out.map zX).length cap)) zfj rfl hi (.inl ⟨rfl,rfl⟩) ⟨rfl,rfl⟩) ?_;refine gz2 ?_;refine uM 4 rfl ⟨2,rfl⟩ (fun M hM=>by obtain ⟨i,hi⟩:=hM;exact zV (i:=i) (h:= .raw (.slice (some ⟨ob,off,none⟩) (out.map zX).length cap)) zfj rfl hi (.inl ⟨rfl,rfl⟩) ⟨rfl,rfl⟩) ?_;refine uF 5 ?_;refine zw rfl (zbq (i:=3) (es:=out) zfj rfl rfl ?_)
       refine ⟨fun _=> .inl ⟨2,rfl⟩,?_⟩
       refine uF 6 ?_;refine zw rfl (uCx 0 zj7 rfl rfl (zao uS uS) ?_)
       rintro _ _ ⟨y130,rfl,hy130,rfl⟩;refine ⟨uE,?_⟩
       refine uB 7 rfl (zM (j:=y130) zfj za8 rfl rfl rfl uSo) ?_;refine gz2 ?_;refine zd (Ghost.perm (M':=[St b l (a3+1),.arr (.slice (some ⟨ob,off,none⟩) (out.map zX).length cap) 5 (out.map zX),.cells b2 zki,.cells b3 (bkC g13 (zcA (zal none Z)) (zbK p15) (zcq m17) (zde k56) (.raw (.slice (some ⟨ob,off,none⟩) (out.map zX).length cap)))]) uQ) ?_;obtain ⟨x,hx⟩: ∃x,out[y130]? =some x:=⟨_,Aa uO⟩
       have hgx:=g2 x (Ab hx);dsimp only [GoodC4] at hgx;refine zbx (fun M=> ∃i:Nat,M[i]? =some (.arr (.slice (some ⟨ob,off,none⟩) (out.map zX).length cap) 5 (out.map zX))) [8,15,24] mixed ?_;refine gz8 ?_;refine uM 8 rfl ⟨1,rfl⟩ (fun M hM=>by obtain ⟨i,hi⟩:=hM;exact zaC (i:=i) (j:=y130) 0 ty9 rfl uO hi hx rfl rfl ⟨rfl,rfl⟩) ?_;refine uB 9 rfl (za (hs:=[_,_]) zo ty9 rfl rfl (by decide) (by decide) rfl) ?_;refine uA 11 ?_;refine gz3 ?_;refine uM 15 rfl ⟨1,rfl⟩ (fun M hM=>by obtain ⟨i,hi⟩:=hM;exact zaC (i:=i) (j:=y130) 1 ty3 rfl uO hi hx rfl rfl ⟨rfl,rfl⟩) ?_;refine uB 16 rfl (za (hs:=[_,_]) zab ty3 rfl rfl (by decide) (by decide) rfl) ?_;refine uA 18 ?_;refine uB 19 rfl (za (hs:=[_,_]) zo ty9 rfl rfl (by decide) (by decide) rfl) ?_;refine uA 21 ?_;refine gz2 ?_;refine uM 24 rfl ⟨1,rfl⟩ (fun M hM=>by obtain ⟨i,hi⟩:=hM;exact zaC (i:=i) (j:=y130) 3 zo rfl uO hi hx rfl rfl ⟨rfl,rfl⟩) ?_;refine uB 26 rfl (za (hs:=[_]) zo ty9 rfl rfl (by decide) (by decide) rfl) ?_;refine uF 10 ?_;refine zw rfl (uCx 0 zcC rfl rfl (zq (L:=[_,_]) uS uS uS) ?_)
       rintro _ _ ⟨y142,rfl,hy142,rfl⟩;refine ⟨uE,?_⟩
       refine uF 17 ?_;refine zw rfl (uCx 0 zaZ rfl rfl (ze (L:=[_,_]) uS uS uS) ?_)
       rintro _ _ ⟨y149,rfl,hy149,rfl⟩;refine ⟨uE,?_⟩
       refine uF 20 ?_;refine zw rfl (uCx 0 zcC rfl rfl (zq (L:=[_,_]) uS uS uS) ?_)
       rintro _ _ ⟨y152,rfl,hy152,rfl⟩;refine ⟨uE,?_⟩
       refine uF 25 ?_;refine zw rfl (uCa zlj rfl (zad uO) fun v157=> ?_)
       refine ⟨uE,?_⟩
       refine uF 27 ?_;refine zw rfl (zmP (N:=[St b l (a3+1+1+1+1),.arr (.slice (some ⟨ob,off,none⟩) (out.map zX).length cap) 5 (out.map zX),.cells b2 zki,.cells b3 (bkC g13 (zcA (zal none Z)) (zbK p15) (zcq m17) (zde k56) (.raw (.slice (some ⟨ob,off,none⟩) (out.map zX).length cap)))]) (sz:=1) (es:=(x.Players++[[97,110,110]]).map .str) 0 (zH (i:=0) zo ty9 rfl rfl rfl rfl rfl (by simp [zan,zb,zaT,zbw]) uSo fun v=>⟨v,rfl,by simp [zaT,zbw],rfl⟩) ?_)
       refine ⟨fun _=> .inl ⟨1,rfl⟩,?_⟩
       refine gz2 ?_;refine uF 30 ?_;refine zI (zac (i:=1) (j:=y130) (f:=0) (y:=zX x) (y':=zX ⟨y142,x.Week,x.At,x.Players,x.Captain⟩) ty9 rfl uO rfl rfl (zbG hx) rfl rfl (by simp [zb]) rfl ?_)
       refine ⟨uE,?_⟩
       refine gz2 ?_;refine uF 33 ?_;refine zI (zac (i:=1) (j:=y130) (f:=1) (y:=zX ⟨y142,x.Week,x.At,x.Players,x.Captain⟩) (y':=zX ⟨y142,y149,x.At,x.Players,x.Captain⟩) ty3 rfl uO rfl rfl (za1 (zbG hx)) rfl rfl (by simp [zb]) rfl ?_)
       refine ⟨uE,?_⟩
       refine gz2 ?_;refine uF 36 ?_;refine zI (zac (i:=1) (j:=y130) (f:=4) (y:=zX ⟨y142,y149,x.At,x.Players,x.Captain⟩) (y':=zX ⟨y142,y149,x.At,x.Players,y152⟩) ty9 rfl uO rfl rfl (za1 (za1 (zbG hx))) rfl rfl (by simp [zb]) rfl ?_)
       refine ⟨uE,?_⟩
       refine gz2 ?_;refine uF 39 ?_;refine zI (zac (i:=1) (j:=y130) (f:=3) (y:=zX ⟨y142,y149,x.At,x.Players,y152⟩) (y':=zX ⟨y142,y149,x.At,x.Players++[[97,110,110]],y152⟩) zo rfl uO rfl rfl (za1 (za1 (za1 (zbG hx)))) rfl rfl (by simp [zb]) rfl ?_)
       refine ⟨uE,?_⟩
       refine gz1 ?_;exact ⟨(out.set y130 (⟨y142,y149,x.At,x.Players++[[97,110,110]],y152⟩:ChoiceS),a3+1+1+1+1),⟨⟨by simp;omega,zgd (P:=zvV) (fun x hx=>(g2 x hx).up) ⟨fun s hs=>by
        rcases List.mem_append.1 hs with hs|hs
        ·exact hgx.1 s hs
        ·rw [List.mem_singleton.1 hs];unfold Sh;simp,by simp at hy152;rcases hy152 with rfl|rfl<;>(unfold Sh;simp),by simp;omega⟩⟩,uD⟩,trivial,uK,uQ⟩
      ·refine gz1 ?_;exact ⟨(out,a3),⟨⟨uD,fun x hx=>(g2 x hx).up⟩,uD⟩,trivial,uK,uQ⟩
     ·intro q5 hq5
      obtain ⟨k1,a6⟩:=q5;obtain ⟨hk1,ha6⟩:=hq5;dsimp only at hk1 ha6;refine zd (zgb (i:=3) (k:=2) (j:=18) rfl rfl rfl) ?_;refine zd (Ghost.perm (M':=[.cells b2 zki,St b l a6,.cells b3 (zb (zaP (⟨g13,(zal none Z),p15,m17,k56,k1⟩:BookS)))]) uQ) ?_;refine gz1 ?_;refine de rfl (zeh (i:=2) (h:=zaP (⟨g13,(zal none Z),p15,m17,k56,k1⟩:BookS)) zdr rfl rfl rfl rfl rfl ?_)
      refine de0 (zj (h:=zaP (⟨g13,(zal none Z),p15,m17,k56,k1⟩:BookS)) zdr rfl rfl rfl rfl rfl ?_)
      refine gz2 ?_;exact ⟨_,_,(zm 2 rfl).trans ((Ghost.perm (List.Perm.swap _ _ _)).trans Ghost.drop),[_],_,⟨⟨_,_,_,_,_,rfl,zdr,.inr ⟨rfl,rfl,rfl⟩⟩,trivial⟩,Weak.refl _,(⟨g13,(zal none Z),p15,m17,k56,k1⟩:BookS),a6,rfl,⟨hg13,uD,hub,hp15,hm17,hk56,hk1⟩,by omega,rfl⟩
end
end Go.Proofs.YtabpobhnedkkeaaGreatDoor
namespace Go.HL
section
open Go
theorem zFE (b:BookS) (t:Str) (w n:Int):zc7 b t w n=orI [zbz b,if b.League.Teams.contains t=true then 0 else 8,if zar w=true then 0 else 1,if zN n=true then 0 else 1]:=by
 unfold zc7
 by_cases h:zbz b=0
 rw [if_neg (fun q=>q h),h]
 cases b.League.Teams.contains t<;>cases zar w<;>cases zN n<;>rfl
 rw [if_pos h,orI,if_pos h]
end
end Go.HL
namespace Go.Proofs.YtabpobhnedkkeaaGreatDoor
set_option maxRecDepth 100000
set_option linter.unusedVariables false
set_option linter.unusedSimpArgs false
section
open Go.Proofs.Tryz
open Go.HL
theorem zr6 [Tracks] {g:LeagueS} {a:Int} (hT:Tracks.on=false) (hb:LeaB g):ConP prog 52 [zcj g,.int .i64 a] (.tup [.int .i64 (if zbQ g≠0 then 0 else if zN a=false then 0 else zdG g a),.bool (if zbQ g≠0 then false else if zN a=false then false else decide (0<zdG g a)),.int .i64 (if zbQ g≠0 then zbQ g else if zN a=false then 1 else 0)]):=by
 have hst:=hb.sta;refine uOb func52 ntmps52 ?_;refine gz8 ?_;refine dq (zZ (h:=zcj g) zbE rfl rfl rfl rfl) ?_;refine dq (uCl ca72 rfl (ziB (g:=g) hT hb)) ?_;refine gz6 ?_;refine uCo (fun h1=> ?_) fun h2=> ?_
 refine gz7 ?_;refine zu rfl ?_
 show HVal.tup _=_
 by_cases q1:zbQ g≠0
 rw [if_pos q1,if_pos q1,if_pos q1]
 rfl
 rw [if_neg q1,if_neg q1,if_neg q1]
 by_cases q2:zN a=false
 rw [if_pos q2,if_pos q2,if_pos q2]
 (exfalso;simp_all)
 rw [if_neg q2,if_neg q2,if_neg q2]
 by_cases q3:a<g.Start\/zaH g 61<=a
 have hw0:zdG g a=0:=by rw [zdG,if_pos q3]
 rw [hw0]
 (exfalso;simp_all)
 have hw0:zdG g a=(a-g.Start)/604800000+1:=by rw [zdG,if_neg q3]
 have hd:decide (0<(a-g.Start)/604800000+1)=true:=decide_eq_true uO;rw [hw0,hd]
 (exfalso;simp_all)
 refine gz5 ?_;refine dq (uCl zj6 rfl zbO) ?_;refine gz2 ?_;refine uCo (fun h3=> ?_) fun h4=> ?_
 refine gz6 ?_;refine zu rfl ?_
 show HVal.tup _=_
 by_cases q1:zbQ g≠0
 rw [if_pos q1,if_pos q1,if_pos q1]
 (exfalso;simp_all)
 rw [if_neg q1,if_neg q1,if_neg q1]
 by_cases q2:zN a=false
 rw [if_pos q2,if_pos q2,if_pos q2]
 rfl
 rw [if_neg q2,if_neg q2,if_neg q2]
 by_cases q3:a<g.Start\/zaH g 61<=a
 have hw0:zdG g a=0:=by rw [zdG,if_pos q3]
 rw [hw0]
 (exfalso;simp_all)
 have hw0:zdG g a=(a-g.Start)/604800000+1:=by rw [zdG,if_neg q3]
 have hd:decide (0<(a-g.Start)/604800000+1)=true:=decide_eq_true uO;rw [hw0,hd]
 (exfalso;simp_all)
 refine gz3 ?_;have hma:=zhK (n:=a) (lo:=0) (hi:=345686399999) (by (have q:zN a=true:=by assumption);unfold zN at q;simpa using q);have hb61:zaH g 61=g.Start+36288000000:=by unfold zaH;omega
 refine gz7 ?_;refine uGr rfl (fun hc=>by have hq:=hc;(try simp at hq);exact uCl zBY rfl (ztn (g:=g) hst uO)) ?_;refine gz3 ?_;refine uCo (fun h5=> ?_) fun h6=> ?_
 refine gz6 ?_;refine zu rfl ?_
 show HVal.tup _=_
 by_cases q1:zbQ g≠0
 rw [if_pos q1,if_pos q1,if_pos q1]
 (exfalso;simp_all)
 rw [if_neg q1,if_neg q1,if_neg q1]
 by_cases q2:zN a=false
 rw [if_pos q2,if_pos q2,if_pos q2]
 (exfalso;simp_all)
 rw [if_neg q2,if_neg q2,if_neg q2]
 by_cases q3:a<g.Start\/zaH g 61<=a
 have hw0:zdG g a=0:=by rw [zdG,if_pos q3]
 rw [hw0]
 rfl
 have hw0:zdG g a=(a-g.Start)/604800000+1:=by rw [zdG,if_neg q3]
 have hd:decide (0<(a-g.Start)/604800000+1)=true:=decide_eq_true uO;rw [hw0,hd]
 (exfalso;simp_all)
 refine gz7 ?_;refine dq (zP (zbZ rfl rfl uO uO uO) (congrArg (HVal.int .i64) (Int.tdiv_eq_ediv_of_nonneg uO))) ?_;refine gz6 ?_;refine zu rfl ?_
 show HVal.tup _=_
 by_cases q1:zbQ g≠0
 rw [if_pos q1,if_pos q1,if_pos q1]
 (exfalso;simp_all)
 rw [if_neg q1,if_neg q1,if_neg q1]
 by_cases q2:zN a=false
 rw [if_pos q2,if_pos q2,if_pos q2]
 (exfalso;simp_all)
 rw [if_neg q2,if_neg q2,if_neg q2]
 by_cases q3:a<g.Start\/zaH g 61<=a
 have hw0:zdG g a=0:=by rw [zdG,if_pos q3]
 rw [hw0]
 (exfalso;omega)
 have hw0:zdG g a=(a-g.Start)/604800000+1:=by rw [zdG,if_neg q3]
 have hd:decide (0<(a-g.Start)/604800000+1)=true:=decide_eq_true uO;rw [hw0,hd]
 rfl
theorem zFG [Tracks]:Weak (.agg [.raw (.slice none 0 0),.raw (.slice none 0 0),.raw (.slice none 0 0),.raw (.slice none 0 0),.slice 2 [.agg [.str [115,97],.slice 1 [.str [103,107]]]],.int .i64 3,.int .i64 0,.int .i64 5,.int .i64 0,.slice 1 [.str [116,97],.str [116,98]],.raw (.slice none 0 0),.raw (.slice none 0 0),.raw (.slice none 0 0),.int .i64 0]) (zcj g0L):=by
 refine zrQ rfl fun j h h' h1 h2=> ?_
 match j,h1,h2 with
 |0,h1,h2|1,h1,h2|2,h1,h2|3,h1,h2|10,h1,h2|11,h1,h2|12,h1,h2=>cases h1;cases h2;exact zD _
 |4,h1,h2|5,h1,h2|6,h1,h2|7,h1,h2|8,h1,h2|9,h1,h2|13,h1,h2=>cases h1;cases h2;exact Weak.refl _
 |n+14,h1,h2=>cases h1
theorem zEC [Tracks]:(HVal.tup [.int .i64 (if zbQ g0L≠0 then 0 else if zN 604800000=false then 0 else zdG g0L 604800000),.bool (if zbQ g0L≠0 then false else if zN 604800000=false then false else decide (0<zdG g0L 604800000)),.int .i64 (if zbQ g0L≠0 then zbQ g0L else if zN 604800000=false then 1 else 0)])= .tup [.int .i64 2,.bool true,.int .i64 0]:=by
 rw [g0_E,g0_M,g0_W];rfl
theorem zhP [Tracks] (hT:Tracks.on=false):ConP prog 20 [] (.bool true):=by
 refine uOb func20 ntmps20 ?_;refine gz4 ?_;refine dq (za (hs:=[_]) zo ty9 rfl rfl (by decide) (by decide) rfl) ?_;refine dq (zC (cs:=[_,_]) zcf zzV rfl) ?_;refine dq (za (hs:=[_]) zfC zcf rfl rfl (by decide) (by decide) rfl) ?_;refine dq (zC (cs:=[_,_,_,_]) zkf pl32 rfl) ?_;refine dq (za (hs:=[_,_]) zo ty9 rfl rfl (by decide) (by decide) rfl) ?_;refine dq (zJj zbE zlr) ?_;refine de rfl (zg zbE rfl fun b1=> ?_)
 refine de0 (zj zbE rfl rfl rfl rfl rfl ?_)
 refine gz1 ?_;refine zd (zm 1 rfl) ?_;refine gz1 ?_;refine dq (zZ (h:= .agg [.raw (.slice none 0 0),.raw (.slice none 0 0),.raw (.slice none 0 0),.raw (.slice none 0 0),.slice 2 [.agg [.str [115,97],.slice 1 [.str [103,107]]]],.int .i64 3,.int .i64 0,.int .i64 5,.int .i64 0,.slice 1 [.str [116,97],.str [116,98]],.raw (.slice none 0 0),.raw (.slice none 0 0),.raw (.slice none 0 0),.int .i64 0]) zbE rfl rfl rfl rfl) ?_;refine dq (zP (h':= .tup [.int .i64 2,.bool true,.int .i64 0]) (zeD (hs':=[zcj g0L,.int .i64 604800000]) ca52 rfl ⟨zFG,Weak.refl _,trivial⟩ (zr6 (g:=g0L) (a:=604800000) hT g0_b)) zEC) ?_;refine gz21 ?_;refine zu rfl ?_
 rfl
theorem zqH [Tracks] {b:Nat} {l:List Int} {a:Nat} (hT:Tracks.on=false) (ha:a<=100000):Con prog 4 [pAt b] [St b l a] (fun x M'=> ∃k t w n a',x= .tup [zaP k,.str t,.int .i64 w,.int .i64 n,.int .i64 (zbz k)]/\BookC k/\t≠[]/\(0<=w/\w<=61)/\(-1<=n/\n<=1000000000000)/\M'=[St b l a']):=by
 refine zaQ func4 rfl ntmps4 rfl rfl ?_;refine gz1 ?_;refine de rfl (zg zdr rfl fun b2=> ?_)
 refine gz7 ?_;refine de rfl (uCx 1 ca21 rfl rfl (ziY (a:=a) uO) ?_)
 rintro _ _ ⟨k8,a8,rfl,hk8,ha8,rfl⟩;refine gz1 ?_;refine dq (za (hs:=[_,_,_,_]) zo ty9 rfl rfl (by decide) (by decide) rfl) ?_;refine de rfl (uCx 0 zcC rfl rfl (zq (L:=[_,_,_,_]) uS uS uS) ?_)
 rintro _ _ ⟨y11,rfl,hy11,rfl⟩;refine gz1 ?_;refine dq (za (hs:=[_,_,_,_,_]) zab ty3 rfl rfl (by decide) (by decide) rfl) ?_;refine de rfl (uCx 0 zaZ rfl rfl (ze (L:=[_,_,_,_,_]) uS uS uS) ?_)
 rintro _ _ ⟨y14,rfl,hy14,rfl⟩;refine gz1 ?_;refine de rfl (uCx 0 ca24 rfl rfl (ziZ uS) ?_)
 rintro _ _ ⟨y16,rfl,hy16,rfl⟩;refine de0 (zfI (i:=1) (h:=zaP k8) zdr rfl rfl rfl rfl rfl (Ak rfl) ?_)
 refine gz4 ?_;refine zbF (fun M=>M=[St b l (a8+1+1+1+1),.cells b2 (zb (zaP k8))]) [0,4] mixed ?_;refine uM 0 rfl rfl (fun M hM=>by subst hM;exact zeh (i:=1) (h:=zaP k8) zdr rfl rfl rfl rfl rfl ⟨rfl,rfl⟩) ?_;refine gz3 ?_;refine uM 4 rfl rfl (fun M hM=>by subst hM;exact zeh (i:=1) (h:=zaP k8) zdr rfl rfl rfl rfl rfl ⟨rfl,rfl⟩) ?_;refine uB 5 rfl (uCl ca25 rfl (zmW (b:=k8) hT hk8.c)) ?_;refine uF 6 ?_;refine zI (zfI (i:=1) (h:=zaP k8) zdr rfl rfl rfl rfl rfl (Ak rfl) ?_)
 refine ⟨uE,?_⟩
 refine gz6 ?_;have hyt:y11≠[]:=by
  rcases List.mem_cons.1 hy11 with q|hy11
  rw [q];decide
  rcases List.mem_cons.1 hy11 with q|hy11
  rw [q];decide
  rcases List.mem_cons.1 hy11 with q|hy11
  rw [q];decide
  rcases List.mem_cons.1 hy11 with q|hy11
  rw [q];decide
  cases hy11
 have hyw:0<=y14/\y14<=61:=by simp at hy14;omega
 refine ⟨_,_,zaN 2 (i:=1) rfl rfl,[_,_,_,_,_],_,⟨⟨_,_,_,_,_,rfl,zdr,.inr ⟨rfl,rfl,rfl⟩⟩,⟨rfl,⟨rfl,⟨rfl,⟨rfl,trivial⟩⟩⟩⟩⟩,Weak.refl _,?_⟩
 exact ⟨k8,y11,y14,y16,_,rfl,hk8.c,hyt,hyw,hy16,rfl⟩
theorem zhk [Tracks] {l:List Int} (hT:Tracks.on=false):ConP prog 3 [.slice 1 (l.map (.int .i64))] (.bool true):=by
 refine uOb func3 ntmps3 ?_;refine gz5 ?_;refine dq (zC (cs:=[_,_]) ty25 pl25 rfl) ?_;refine de rfl (ztG rfl rfl fun b=> ?_)
 refine zFQ (M':=[St b l 0]) rfl ?_;refine gz4 ?_;refine de rfl (uCx 0 ca4 rfl rfl (zqH (a:=0) hT uO) ?_)
 rintro _ _ ⟨kb,tb,wb,nb,ab,rfl,hk,ht,hwb,hnb,rfl⟩;have hla:=hk.bb.lea;refine gz6 ?_;refine de rfl (zg zdr rfl fun b4=> ?_)
 refine de0 (zj zdr rfl rfl rfl rfl rfl ?_)
 refine gz5 ?_;refine zd (zm 4 rfl) ?_;refine gz3 ?_;refine dq (uCl ca6 rfl zcZ) ?_;refine gz1 ?_;refine dq (uCl ca7 rfl zb0) ?_;refine dq (za (hs:=[_,_,_]) zg0 zhv rfl rfl (by decide) (by decide) rfl) ?_;refine dq (uCl ca5 rfl (zdJ (l:=[zbz kb,if zar wb=true then 0 else 1,if zN nb=true then 0 else 1]) (by simp))) ?_;refine gz5 ?_;refine dq (zP (h':=zcj kb.League) (zav zbE rfl rfl (Ak rfl)) rfl) ?_;refine gz1 ?_;refine dq (uCl ca8 rfl (zm0 (g:=kb.League) (t:=tb) hla.tm)) ?_;refine gz1 ?_;refine dq (uCl ca6 rfl zcZ) ?_;refine gz1 ?_;refine dq (uCl ca7 rfl zb0) ?_;refine dq (za (hs:=[_,_,_,_]) zg0 zhv rfl rfl (by decide) (by decide) rfl) ?_;refine dq (zP (h':= .int .i64 (zc7 kb tb wb nb)) (uCl ca5 rfl (zdJ (l:=[zbz kb,if kb.League.Teams.contains tb=true then 0 else 8,if zar wb=true then 0 else 1,if zN nb=true then 0 else 1]) (by simp))) (by rw [zFE])) ?_;refine gz3 ?_;refine dq (zZ (h:=zaP kb) zdr rfl rfl rfl rfl) ?_;refine gz2 ?_;refine dq (uCl ca9 rfl (ztm (b:=kb) (w:=wb) (n:=nb) hT hk)) ?_;refine gz7 ?_;refine dq (zZ (h:=zaP kb) zdr rfl rfl rfl rfl) ?_;refine gz3 ?_;refine dq (uCl ca10 rfl (zrq (b:=kb) (t:=tb) (w:=wb) (n:=nb) hT hk)) ?_;refine gz7 ?_;refine dq (zZ (h:=zaP kb) zdr rfl rfl rfl rfl) ?_;refine gz3 ?_;refine dq (uCl ca11 rfl (zrp (b:=kb) (t:=tb) (w:=wb) (n:=nb) hT hk)) ?_;refine gz29 ?_;refine uCo (fun h1=> ?_) fun h2=> ?_
 have hlo:lnO kb wb nb=0:=by first|assumption|(simp_all;done)
 obtain ⟨hbz,hwk,hnm⟩:=zA9 hlo;have hX:=zpb hbz;obtain ⟨q1,q2⟩:=zBa hlo;rw [q1,q2];obtain ⟨-,hk2,hk3⟩:=zlp (t:=kb.League.Trust) (m:=zdP kb.Mends wb) (week:=wb) (n:=nb) (zei hX.pl) hk.l2 (by have:=zgT kb.Mends wb;have:=hk.l3;omega) hwk (zit (week:=wb) hX.me);have hll:(wlL kb wb nb).length<=1000000:=An hk2 (by decide);have hls: ∀x∈wlL kb wb nb,x.Stats.length<=1000000:=fun x hx=>An (hk3 x hx) (by decide)
 refine gz1 ?_;refine dq (zZ (h:=zaP kb) zdr rfl rfl rfl rfl) ?_;refine gz2 ?_;refine dq (uCl ca12 rfl (zie (b:=kb) (n:=nb) (w:=wb) hk hX hwk hnm)) ?_;refine zdf ?_;refine uCo (fun h3=> ?_) fun h4=> ?_
 have htz:zc7 kb tb wb nb=0:=by first|assumption|(simp_all;done)
 obtain ⟨hbz2,htc,hwk2,hnm2⟩:=zqF htz;have hX2:=zpb hbz2;obtain ⟨q3,q4,q5,q6,q7⟩:=zGv htz;rw [q3,q4,q5,q6,q7];have hsp:=zDb (b:=kb) (t:=tb) (w:=wb) (n:=nb) hla.po;have hsl:(zfb kb tb wb nb).length<=1000000:=zDa hX2;have hfl:(FdF kb tb wb nb).length<=1000000:=by have:=zEx kb tb wb nb;have:=hX2.w.sl;omega
 refine gz1 ?_;refine dq (zZ (h:=zaP kb) zdr rfl rfl rfl rfl) ?_;refine gz3 ?_;refine dq (uCl ca13 rfl (zic (b:=kb) (n:=nb) (w:=wb) (t:=tb) hk hX2 hwk2 hnm2 ht)) ?_;refine gz7 ?_;refine dq (zZ (h:=zaP kb) zdr rfl rfl rfl rfl) ?_;refine gz3 ?_;refine dq (uCl ca14 rfl (zmX (b:=kb) (n:=nb) (w:=wb) (t:=tb) hk hX2 hwk2 hnm2 ht)) ?_;refine zau ?_
 focus first
 |rw [(zng (b:=kb) (w:=wb) (n:=nb) (by assumption)).1,(zng (b:=kb) (w:=wb) (n:=nb) (by assumption)).2]
 |skip
 focus first
 | (obtain ⟨q3,q4,q5,q6,q7⟩:=zAi (b:=kb) (t:=tb) (w:=wb) (n:=nb) (by assumption)
    rw [q3,q4,q5,q6,q7])
 |skip
 refine gz7 ?_;refine uGr rfl (fun hc=>(by first|exact uCl ztx rfl (zdu (l:=wlL kb wb nb) hll hls)|exact zeD (hs':=[zbJ [],zbJ [],_]) ztx rfl ⟨Weak.refl _,zD 3,Weak.refl _,trivial⟩ (zdu (l:=[]) (by simp) (by simp)))) ?_;refine gz9 ?_;refine uGr rfl (fun hc=>(by first|exact zP (h':= .bool true) (uCl zty rfl (zcY (l:=zfb kb tb wb nb) (m:=zfb kb tb wb nb) ztz (fun x hx y=>zfc (hsp x hx)) hsl)) (congrArg HVal.bool (zgi _))|exact zP (h':= .bool true) (zeD (hs':=[zcV [],zcV [],_]) zty rfl ⟨Weak.refl _,zD 5,Weak.refl _,trivial⟩ (zcY (l:=[]) (m:=[]) ztz (fun x hx=>absurd hx (by simp)) (by simp))) (congrArg HVal.bool (zgi [])))) ?_;refine gz9 ?_;refine uGr rfl (fun hc=>(by first|exact zP (h':= .bool true) (uCl ztA rfl (zaV (l:=FdF kb tb wb nb) (m:=FdF kb tb wb nb) hfl)) (congrArg HVal.bool (zfx _))|exact zP (h':= .bool true) (zeD (hs':=[zf6 [],zf6 []]) ztA rfl ⟨Weak.refl _,zD 2,trivial⟩ (zaV (l:=[]) (m:=[]) (by simp))) (congrArg HVal.bool (zfx [])))) ?_;refine gz7 ?_;refine uGr rfl (fun hc=>uCl zBX rfl (zhP hT)) ?_;refine gz4 ?_;refine zA Ghost.clear rfl ⟨?_,rfl⟩
 show HVal.bool _=_
 focus first|rfl|(simp;done)|(simp_all;done)
 refine gz2 ?_
 focus first
 |rw [(zng (b:=kb) (w:=wb) (n:=nb) (by assumption)).1,(zng (b:=kb) (w:=wb) (n:=nb) (by assumption)).2]
 |skip
 focus first
 | (obtain ⟨q3,q4,q5,q6,q7⟩:=zAi (b:=kb) (t:=tb) (w:=wb) (n:=nb) (by assumption)
    rw [q3,q4,q5,q6,q7])
 |skip
 refine gz7 ?_;refine uGr rfl (fun hc=>(by first|exact uCl ztx rfl (zdu (l:=wlL kb wb nb) hll hls)|exact zeD (hs':=[zbJ [],zbJ [],_]) ztx rfl ⟨Weak.refl _,zD 3,Weak.refl _,trivial⟩ (zdu (l:=[]) (by simp) (by simp)))) ?_;refine gz9 ?_;refine uGr rfl (fun hc=>(by first|exact zP (h':= .bool true) (uCl zty rfl (zcY (l:=zfb kb tb wb nb) (m:=zfb kb tb wb nb) ztz (fun x hx y=>zfc (hsp x hx)) hsl)) (congrArg HVal.bool (zgi _))|exact zP (h':= .bool true) (zeD (hs':=[zcV [],zcV [],_]) zty rfl ⟨Weak.refl _,zD 5,Weak.refl _,trivial⟩ (zcY (l:=[]) (m:=[]) ztz (fun x hx=>absurd hx (by simp)) (by simp))) (congrArg HVal.bool (zgi [])))) ?_;refine gz9 ?_;refine uGr rfl (fun hc=>(by first|exact zP (h':= .bool true) (uCl ztA rfl (zaV (l:=FdF kb tb wb nb) (m:=FdF kb tb wb nb) hfl)) (congrArg HVal.bool (zfx _))|exact zP (h':= .bool true) (zeD (hs':=[zf6 [],zf6 []]) ztA rfl ⟨Weak.refl _,zD 2,trivial⟩ (zaV (l:=[]) (m:=[]) (by simp))) (congrArg HVal.bool (zfx [])))) ?_;refine gz7 ?_;refine uGr rfl (fun hc=>uCl zBX rfl (zhP hT)) ?_;refine gz4 ?_;refine zA Ghost.clear rfl ⟨?_,rfl⟩
 show HVal.bool _=_
 focus first|rfl|(simp;done)|(simp_all;done)
 refine gz7 ?_;refine zam rfl (fun h5=> ?_) (fun h5=> ?_)
 exfalso
 try simp at h5
 obtain ⟨q1,q2,q3,q4⟩:=zqF h5;exact h2 (zwM q1 q3 q4)
 try simp at h5
 refine gz2 ?_
 focus first
 |rw [(zng (b:=kb) (w:=wb) (n:=nb) (by assumption)).1,(zng (b:=kb) (w:=wb) (n:=nb) (by assumption)).2]
 |skip
 focus first
 | (obtain ⟨q3,q4,q5,q6,q7⟩:=zAi (b:=kb) (t:=tb) (w:=wb) (n:=nb) (by assumption)
    rw [q3,q4,q5,q6,q7])
 |skip
 refine gz7 ?_;refine uGr rfl (fun hc=>(by first|exact uCl ztx rfl (zdu (l:=wlL kb wb nb) hll hls)|exact zeD (hs':=[zbJ [],zbJ [],_]) ztx rfl ⟨Weak.refl _,zD 3,Weak.refl _,trivial⟩ (zdu (l:=[]) (by simp) (by simp)))) ?_;refine gz9 ?_;refine uGr rfl (fun hc=>(by first|exact zP (h':= .bool true) (uCl zty rfl (zcY (l:=zfb kb tb wb nb) (m:=zfb kb tb wb nb) ztz (fun x hx y=>zfc (hsp x hx)) hsl)) (congrArg HVal.bool (zgi _))|exact zP (h':= .bool true) (zeD (hs':=[zcV [],zcV [],_]) zty rfl ⟨Weak.refl _,zD 5,Weak.refl _,trivial⟩ (zcY (l:=[]) (m:=[]) ztz (fun x hx=>absurd hx (by simp)) (by simp))) (congrArg HVal.bool (zgi [])))) ?_;refine gz9 ?_;refine uGr rfl (fun hc=>(by first|exact zP (h':= .bool true) (uCl ztA rfl (zaV (l:=FdF kb tb wb nb) (m:=FdF kb tb wb nb) hfl)) (congrArg HVal.bool (zfx _))|exact zP (h':= .bool true) (zeD (hs':=[zf6 [],zf6 []]) ztA rfl ⟨Weak.refl _,zD 2,trivial⟩ (zaV (l:=[]) (m:=[]) (by simp))) (congrArg HVal.bool (zfx [])))) ?_;refine gz7 ?_;refine uGr rfl (fun hc=>uCl zBX rfl (zhP hT)) ?_;refine gz4 ?_;refine zA Ghost.clear rfl ⟨?_,rfl⟩
 show HVal.bool _=_
 focus first|rfl|(simp;done)|(simp_all;done)
end
end Go.Proofs.YtabpobhnedkkeaaGreatDoor
namespace Go.HL
section
open Go
theorem zAT {P:Program} (h:P.funcs.toList.any Func.goes=false) (f:FuncId):P.goes f=false:=by
 have hf: ∀g:Nat,(P.funcs[g]?).any Func.goes=false:=fun g=>by
  cases hg:P.funcs[g]? with
  |none=>rfl
  |some fn=>
    have:fn∈P.funcs.toList:=by
     obtain ⟨hlt,rfl⟩:=Array.getElem?_eq_some_iff.1 hg
     simp
    have:=List.any_eq_false.1 h fn this
    simpa using this
 have ha:P.funcs.any Func.goes=false:=by rw [<-Array.any_toList];exact h
 unfold Program.goes;rw [ha,Bool.and_false,BA];rw [B6]
 intro g _
 rw [hf g];simp
theorem goesBy_none {P:Program} {c:OpenClaim} (h:P.funcs.toList.any Func.goes=false):false=c.goesBy P:=by
 have hg:=zAT h;unfold OpenClaim.goesBy Program.goesAt Program.goesFrom;have h1:(P.funcNamed c.func).any P.goes=false:=by
  cases P.funcNamed c.func with
  |none=>rfl
  |some f=>exact hg f
 have h2:P.inits.toList.any P.goes=false:=List.any_eq_false.2 fun x _=>by rw [hg x];simp
 rw [h1]
 cases c.start<;>simp [h2,hg]
end
section
open Go
theorem zvt {H:Type} {enc:TypeId×Value->H} {a:Assume} {C:Checked} {os:Os} {f:FuncId} {fn:Func} {s:ChangeSpec} {conds:List PathCond} {apart fresh handsOn again:Bool} {X:World->Array Value->Prop}
 (hX: ∀(w w':World) (args:Array Value),w.heap=w'.heap->X w args->X w' args)
 (own:ownKnob C.prog.godebug=none) (started:os.Started) (noInit:C.prog.inits.idxOf? f=none) (hfn:C.prog.funcs[f]? =some fn)
 (witness: ∃(w:World) (tape:Tape) (i:Input),w.os=os/\(w.forCall tape i).Shaped C.prog/\i.vars=[]/\Input.okWide C.prog (w.forCall tape i) .any w.heap.size f i/\
   ((s.pre enc C.prog fn conds apart (w.forCall tape i).memory i.args/\X (w.forCall tape i).memory i.args)/\sizedMet enc C.prog fn (OpenSpec.ofChange s) apart (w.forCall tape i).memory i.args)/\a.holds C.prog (lone (Frame.enter C.prog f i.args .normal) [] (w.forCall tape i)))
 (contract: ∀(W:World) (base:Nat) (args:Array Value) (ds gs:List (DataW H)) (before:List MemPlace),
   (∀(j:Nat) t v,fn.params[j]? =some t->args[j]? =some v->Value.okWide C.prog W .any base t v)->DataW.Whole enc C.prog fn.params.toList s.vars apart W args.toList ds gs before->
   X W args->W.ShapedOpen C.prog->Calls C.prog f args W fun e W'=> ∃v,e= .returned v/\s.post enc C.prog fn apart fresh handsOn again W args v W'):
 ReturnsInHanded a C os f .any (fun w args=>(s.pre enc C.prog fn conds apart w args/\X w args)/\sizedMet enc C.prog fn (OpenSpec.ofChange s) apart w args) (s.post enc C.prog fn apart fresh handsOn again):=by
 refine returnsInHanded_of_calls own started noInit witness fun w tape i _ hsh _ hok hpre _=> ?_
 obtain ⟨_,_,_,fn',hfn',_,_,_,_,hval⟩:=hok;obtain rfl:fn'=fn:=As (hfn'.symm.trans hfn);obtain ⟨⟨⟨ds,gs,before,hw,_⟩,hx⟩,_⟩:=hpre;refine (contract (w.forCall tape i) w.heap.size i.args ds gs before hval (DataW.Whole.of_heap (w':=w.forCall tape i) (by rfl) hw) (hX _ _ _ (by rfl) hx) hsh).mono fun e W' ⟨v,he,hp⟩=> ?_
 subst he;exact ChangeSpec.post_blind hp
end
section
open Go.Sort Go.Proofs Go.RowKit Go.Lib
variable {P:Program}
theorem zxz {W:World} {laid:List (String×DataW Unit)} {i3 i4 g3 g4 t5 t119 t138 t139:Nat} {fs:Array Field} (h:laidMet P laid W)
 (e3:laid[i3]? =some ("unicode/utf8.first",firstData)) (e4:laid[i4]? =some ("unicode/utf8.acceptRanges",acceptData))
 (n3:P.globalNamed "unicode/utf8.first" =some g3) (n4:P.globalNamed "unicode/utf8.acceptRanges" =some g4) (y3:(P.globals[g3]?).map (·.type)=some t119) (y4:(P.globals[g4]?).map (·.type)=some t139)
 (u5:P.underlying t5=some (.int .u8)) (u119:P.underlying t119=some (.array 256 t5)) (u138:P.underlying t138=some (.struct fs)) (u139:P.underlying t139=some (.array 16 t138))
 (c5:P.cellsOf t5=1) (c119:P.cellsOf t119=256) (c138:P.cellsOf t138=2) (hs:fs.size=2) (hf:(fs.toList.map fun f=>(f.type,f.offset))=[(t5,0),(t5,1)]):
 (∀c,c<256->W.cell? ⟨g3,c,none⟩=some (.int .u8 (Lib.firstT c)))/\(∀i,i<16->W.cell? ⟨g4,2*i,none⟩=some (.int .u8 (Lib.accLo i))/\W.cell? ⟨g4,2*i+1,none⟩=some (.int .u8 (Lib.accHi i))):=by
 obtain ⟨ps,h1,_⟩:=h;have h3:VarReads P W "unicode/utf8.first" firstData:=ztM h1 i3 e3;have h4:VarReads P W "unicode/utf8.acceptRanges" acceptData:=ztM h1 i4 e4;refine ⟨fun c hc=> ?_,fun i hi=> ?_⟩
 obtain ⟨g,t,cs,fuel,p,hg,hty,hvar,hd⟩:=h3;obtain rfl:=As (n3.symm.trans hg);obtain rfl:=As (y3.symm.trans hty);have hcs:=cells_of_tab u119 u5 c5 c119 hd;have:=World.var?_cell hg hvar c;rw [this,<-AY,hcs]
 simp [firstTab,hc]
 obtain ⟨g,t,cs,fuel,p,hg,hty,hvar,hd⟩:=h4;obtain rfl:=As (n4.symm.trans hg);obtain rfl:=As (y4.symm.trans hty);obtain ⟨fuel',d,q,hdi,he⟩:=array_elem u139 hd i hi;simp only [Aj,B1 hi,AI,AA] at hdi;subst hdi;rw [c138] at he;have hcs:=ints_of_struct u138 (fun j f hj=>by
  have hq:(fs.toList.map fun f=>(f.type,f.offset))[j]? =some (f.type,f.offset):=by rw [Aj,AY,hj];rfl
  rw [hf] at hq
  match j,hq with
  |0,hq=>simp at hq;exact ⟨by rw [<-hq.1];exact u5,hq.2.symm,by rw [<-hq.1];exact c5⟩
  |1,hq=>simp at hq;exact ⟨by rw [<-hq.1];exact u5,hq.2.symm,by rw [<-hq.1];exact c5⟩
  |j+2,hq=>simp at hq) (by rw [c138,hs]) he
 have a0:=congrArg (·[0]?) hcs;have a1:=congrArg (·[1]?) hcs;simp only [Bq,AL] at a0 a1
 constructor
 rw [World.var?_cell hg hvar (2*i),<-AY]
 simpa [B0] using a0
 rw [World.var?_cell hg hvar (2*i+1),<-AY]
 simpa [B0] using a1
theorem zxv [Tracks] {W:World} (hp:P.globalNamed "internal/strconv.uint64pow10" =none)
 (hl: ∀g,P.globalNamed "internal/bytealg.MaxLen" =some g->∃m,W.cell? ⟨g,0,none⟩=some (.int .i64 m))
 (hu: ∀g3 g4,P.globalNamed "unicode/utf8.first" =some g3->P.globalNamed "unicode/utf8.acceptRanges" =some g4->(∀c,c<256->W.cell? ⟨g3,c,none⟩=some (.int .u8 (Lib.firstT c)))/\(∀i,i<16->W.cell? ⟨g4,2*i,none⟩=some (.int .u8 (Lib.accLo i))/\W.cell? ⟨g4,2*i+1,none⟩=some (.int .u8 (Lib.accHi i)))):TabI P (zc9 W):=by
 refine ⟨fun g hg=>(by rw [hp] at hg;cases hg),fun g hg=> ?_,fun g3 g4 h3 h4=> ?_⟩
 obtain ⟨m,hm⟩:=hl g hg;unfold World.cell? at hm
 cases hh:W.heap[g]? with
 |none=>rw [hh] at hm;cases hm
 |some o=>
   rw [hh] at hm
   cases o with
   |cells c t fr=>exact ⟨c,t,fr,m,hh,by simpa using hm⟩
   |_=>cases hm
 obtain ⟨u1,u2⟩:=hu g3 g4 h3 h4;have key: ∀(g:Nat) (v:Value),W.cell? ⟨g,0,none⟩=some v->∃c t fr,W.heap[g]? =some (.cells c t fr):=fun g v hv=>by
  unfold World.cell? at hv
  cases hh:W.heap[g]? with
  |none=>rw [hh] at hv;cases hv
  |some o=>
    rw [hh] at hv
    cases o with
    |cells c t fr=>exact ⟨c,t,fr,rfl⟩
    |_=>cases hv
 obtain ⟨c3,t3,f3,x3⟩:=key g3 _ (u1 0 (by omega));obtain ⟨c4,t4,f4,x4⟩:=key g4 _ (u2 0 (by omega)).1;refine ⟨c3,t3,f3,c4,t4,f4,x3,x4,fun k hk=> ?_,fun i hi=> ?_⟩
 rw [<-zcu x3];exact u1 k hk;exact ⟨by rw [<-zcu x4];exact (u2 i hi).1,by rw [<-zcu x4];exact (u2 i hi).2⟩
end
end Go.HL
