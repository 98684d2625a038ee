/- Part 5 of the proof: contracts of functions and plain facts; no conditions. -/
import Derived.Test.YtahegdhbakjdoaaGreatDoorQFreePlayersAreWatched4
import Derived.Calls
import Derived.Handed
import Derived.LaidMore
import Derived.Lay
import Derived.Lib.LaidU8
import Derived.OpenShut
import Derived.ProofKit
import Derived.SevenTiedAt
import Derived.Shelf.Vars
import Derived.Stop.Joined
import GoSem.ClaimGoes
set_option linter.unusedVariables false
set_option linter.unusedSimpArgs false
set_option maxHeartbeats 16000000
namespace Go.Proofs.YtahegdhbakjdoaaGreatDoor
set_option maxRecDepth 100000
set_option linter.unusedVariables false
set_option linter.unusedSimpArgs false
section
open Go.Proofs.Tryz
open Go.HL
theorem zku [Tracks] {a b:Str}:ConP prog 246 [.str a,.str b] (.int .i64 (zU a b)):=by
 refine uOb func246 ntmps246 ?_;refine gz5 ?_;refine dq (uCl zqH rfl zdp) ?_;refine gz4 ?_;refine dq (uCl zqH rfl zdp) ?_;refine gz6 ?_;refine zcV rfl ?_;refine gz6 ?_;refine zcV rfl ?_;refine gz8 ?_;refine uCo (fun h1=> ?_) fun h2=> ?_
 refine gz4 ?_;refine uRp ?_;rw [ze9]
 (rw [if_pos (by assumption)])
 refine gz8 ?_;refine uCo (fun h3=> ?_) fun h4=> ?_
 refine gz4 ?_;refine uRp ?_;rw [ze9]
 (rw [if_neg uSa,if_neg uSa])
 refine gz6 ?_;refine uRp ?_;rw [ze9]
 (rw [if_neg uSa];simp_all)
theorem zf6 [Tracks] {l m:List Str} (hl:l.length<=1000000) (hm:m.length<=1000000):ConP prog 188 [eSs l,eSs m] (.int .i64 (zfI l m)):=by
 refine uOb func188 ntmps188 ?_;refine zan ?_;refine uT1 [4,5,11,20] (fun k=>[(11,.int .i64 k)]) (fun k=>[]) (fun k=>k<=l.length/\(k<=m.length/\zfI l m=zfI (l.drop k) (m.drop k))) (fun k=>l.length-k) (0) ?_ ?_;exact ⟨Ad _,Ad _,rfl⟩;rintro k ⟨hk,⟨hkm,hg⟩⟩;refine gz4 ?_;refine uCo (fun h1=> ?_) fun h2=> ?_
 obtain ⟨x,hx⟩: ∃x,l[k]? =some x:=⟨_,Aa h1⟩
 have hdx:=zg hx;rw [hdx] at hg;refine ztH ?_;refine uCo (fun h3=> ?_) fun h4=> ?_
 refine gz4 ?_;refine uRp ?_
 (rw [hg,zvw (.inr (Bk uO)) (by simp)])
 refine gz5 ?_;refine dq (zD (j:=k) (a:=m.getD k []) zk ty9 rfl rfl rfl (getD_some uO)) ?_;refine gz6 ?_;refine dq (uCl zAe rfl zku) ?_;refine gz6 ?_;refine uCo (fun h5=> ?_) fun h6=> ?_
 refine gz5 ?_;refine uRp ?_
 (rw [hg,zkK (m:=m) (k:=k) h4,zuu (by rw [Af];exact h5)])
 refine gz7 ?_;refine ⟨k+1,?_,?_,⟨rfl,trivial⟩,uK,Ab _⟩
 refine ⟨by omega,by omega,?_⟩
 rw [hg,zkK (m:=m) (k:=k) h4];exact zut (by rw [Af];exact h6)
 dsimp only;omega
 have hnk:l.length<=k:=by omega
 obtain rfl:k=l.length:=by omega
 rw [zH (Ae _)] at hg;refine gz2 ?_;refine zt ?_;refine zan ?_;refine uCo (fun h7=> ?_) fun h8=> ?_
 refine gz4 ?_;refine uRp ?_
 (rw [hg,zrl,if_pos uO])
 refine gz6 ?_;refine uRp ?_
 (rw [hg,zrl,if_neg uO])
theorem zks [Tracks] {l:List FixS} {v:Value} {fid:FuncId} {caps:List HVal} {p:FixS->FixS->Bool} (hca:Callable prog fid) (hp: ∀x y,ConP prog fid ([zaE x,zaE y]++caps) (.bool (p x y))) (hl:l.length<=1000000):Con prog 189 [.raw v,.fn (.func fid) [] caps] [.arr v 4 (l.map zaE)] (fun x M'=> ∃(u:Value) (D:List FixS),x= .raw u/\(D.length<=l.length/\∀x∈D,x∈l)/\M'=[.arr u 4 (D.map zaE)]):=by
 refine uOb func189 ntmps189 ?_;refine gz6 ?_;refine de rfl (za7 (i:=0) zbI rfl rfl ?_)
 refine gz2 ?_;refine uCo (fun h1=> ?_) fun h2=> ?_
 refine gz5 ?_;exact z7 rfl ⟨_,l,rfl,⟨Ae _,fun _ q=>q⟩,rfl⟩;refine gz3 ?_;refine zcZ (i:=0) rfl (fun h0 he=> ?_) (fun b off cap hv hcap=> ?_)
 exfalso;have:=congrArg List.length he;simp at this;subst this;simp at h2
 rw [Ah] at hv hcap;subst hv;refine gz4 ?_;refine uT1 [4,4,12,53] (fun k=>[(5,.int .i64 (k:Int))]) (fun k=>[.arr (.slice (some ⟨b,off,none⟩) l.length cap) 4 (l.map zaE)]) (fun k=>1<=k/\k<=l.length) (fun k=>l.length-k) (1) ?_ ?_;exact ⟨by omega,by omega⟩;rintro k ⟨hk1,hk⟩;refine gz4 ?_;refine de rfl (za7 (i:=0) zbI rfl rfl ?_)
 refine gz2 ?_;refine uCo (fun h3=> ?_) fun h4=> ?_
 obtain ⟨x,hx⟩: ∃x,l[k]? =some x:=⟨_,Aa uO⟩
 obtain ⟨y,hy⟩: ∃y,l[k-1]? =some y:=⟨_,Aa uO⟩
 refine gz4 ?_;refine zbx (fun M=>M=[.arr (.slice (some ⟨b,off,none⟩) l.length cap) 4 (l.map zaE)]) [4,9] mixed ?_;refine gz3 ?_;refine uB 3 rfl (zy (j:=k) zbI zaf rfl rfl rfl uO) ?_;refine uM 4 rfl rfl (uW (zV (i:=0) (j:=k) zaf rfl uO rfl hx rfl rfl rfl ⟨rfl,rfl⟩)) ?_;refine gz3 ?_;refine uB 8 rfl (zy (j:=k-1) zbI zaf rfl rfl uO uO) ?_;refine uM 9 rfl rfl (uW (zV (i:=0) (j:=k-1) zaf rfl uO rfl hy rfl rfl rfl ⟨rfl,rfl⟩)) ?_;refine uB 10 rfl (zaw hca rfl rfl (WeakL.refl _) (hp x y)) ?_;refine gz1 ?_;refine uCo (fun h5=> ?_) fun h6=> ?_
 refine gz3 ?_;refine dq (zeT (l:=k) (h:=l.length) zbI zaf rfl ⟨_,_,rfl,rfl⟩ rfl uO uO hcap) ?_;refine gz2 ?_;rw [zqb uO];refine gz5 ?_;refine uU3 [5,1,7,1,32,27] (fun (k2:Nat) (kk:Nat) (D:List FixS)=>[(7,.int .i64 (k2:Int)),(5,.int .i64 (kk:Int))]) (fun (k2:Nat) (kk:Nat) (D:List FixS)=>[.arr (.slice (some ⟨b,off,none⟩) l.length cap) 4 (D.map zaE)]) (fun (k2:Nat) (kk:Nat) (D:List FixS)=>(1<=k2/\k+k2<=l.length)/\(k<=kk/\kk+1<=k+k2)/\D.length=l.length/\∀x∈D,x∈l) (fun (k2:Nat) (kk:Nat) (D:List FixS)=>l.length-k2) (1) (k) (l) ?_ ?_;exact ⟨⟨by omega,by have:=zl hx;omega⟩,⟨by omega,by omega⟩,rfl,fun _ q=>q⟩;rintro k2 kk D ⟨⟨hk2,hkk⟩,⟨hc1,hc2⟩,hDl,hDm⟩;refine gz4 ?_;refine dq (zem zbI rfl) ?_;refine gz2 ?_;refine uCo (fun h7=> ?_) fun h8=> ?_
 obtain ⟨x2,hDx⟩: ∃x,D[k+k2]? =some x:=⟨_,Aa uO⟩
 obtain ⟨y2,hDy⟩: ∃y,D[k+k2-1]? =some y:=⟨_,Aa uO⟩
 refine gz4 ?_;refine zbx (fun M=>M=[.arr (.slice (some ⟨b,off,none⟩) l.length cap) 4 (D.map zaE)]) [4,9] mixed ?_;refine gz3 ?_;refine uB 3 rfl (zy (j:=k2) zbI zaf rfl rfl rfl uO) ?_;refine uM 4 rfl rfl (uW (zV (i:=0) (j:=(k+k2)) zaf rfl uO rfl hDx rfl rfl rfl ⟨rfl,rfl⟩)) ?_;refine gz3 ?_;refine uB 8 rfl (zy (j:=k2-1) zbI zaf rfl rfl uO uO) ?_;refine uM 9 rfl rfl (uW (zV (i:=0) (j:=(k+k2-1)) zaf rfl uO rfl hDy rfl rfl rfl ⟨rfl,rfl⟩)) ?_;refine uB 10 rfl (zaw hca rfl rfl (WeakL.refl _) (hp x2 y2)) ?_;refine gz2 ?_;refine uCo (fun h9=> ?_) fun h10=> ?_
 refine gz5 ?_;refine dq (zy (j:=k2) zbI zaf rfl rfl rfl uO) ?_;refine de rfl (zV (i:=0) (j:=(k+k2)) zaf rfl uO rfl hDx rfl rfl rfl ?_)
 refine dq (zy (j:=kk) zbI zaf rfl rfl rfl uO) ?_;refine de0 (zaT (i:=0) (j:=kk) (y:=D[kk]'uO) (y':=x2) zaf rfl rfl rfl rfl (Aa _) rfl rfl rfl ?_)
 refine zeN ?_;exact ⟨k2+1,kk+1,D.set kk x2,⟨⟨by omega,by omega⟩,⟨by omega,by omega⟩,by simp;omega,fun z hz=>(BU hz).elim (hDm z) (fun q=>by rw [q];exact hDm x2 (Ac hDx))⟩,uD,⟨rfl,zN uO,trivial⟩,uK,Ab _⟩;refine gz8 ?_;exact ⟨k2+1,kk,D,⟨⟨by omega,by omega⟩,⟨by omega,by omega⟩,hDl,hDm⟩,uD,⟨rfl,rfl,trivial⟩,uK,Ab _⟩;refine gz2 ?_;refine zcF ?_;refine gz5 ?_;refine dq (zeT (l:=kk) (h:=l.length) zbI zaf rfl ⟨_,_,rfl,rfl⟩ rfl uO uO hcap) ?_;refine de0 (zeJ (i:=0) (m:=kk) (kk) zbI zaf rfl rfl rfl (ziU uO hcap) rfl uO (Ae _) (by rw [Ah,hDl];omega) ?_)
 refine gz4 ?_;refine dq (zgn (h:=kk) zbI zaf rfl ⟨_,_,rfl,rfl⟩ uO) ?_;refine gz3 ?_;exact z7 rfl ⟨_,D.take kk,rfl,⟨by simp;omega,fun z hz=>hDm z (AR hz)⟩,by rw [BQ];rfl⟩;refine gz8 ?_;exact ⟨k+1,⟨by omega,by omega⟩,uD,⟨rfl,trivial⟩,uK,Ab _⟩;refine gz2 ?_;refine zt ?_;refine gz7 ?_;exact z7 rfl ⟨_,l,rfl,⟨Ae _,fun _ q=>q⟩,rfl⟩
theorem zhb [Tracks] {A X C:List FixS} {ia ib:Int} {n b off cap:Nat} {fid:FuncId} {caps:List HVal} {c:FixS->FixS->Int} (hca:Callable prog fid) (hp: ∀x y,ConP prog fid ([zaE x,zaE y]++caps) (.int .i64 (c x y))) (hn:A.length+X.length+C.length=n) (hia:ia=(A.length:Int)) (hib:ib=(A.length:Int)+X.length) (hl:n<=1000000):Con prog 298 [.raw (.slice (some ⟨b,off,none⟩) n cap),.int .i64 ia,.int .i64 ib,.fn (.func fid) [] caps] [.arr (.slice (some ⟨b,off,none⟩) n cap) 4 ((A++X++C).map zaE)] (fun x M'=>x= .tup []/\M'=[.arr (.slice (some ⟨b,off,none⟩) n cap) 4 ((A++zal c X++C).map zaE)]):=by
 refine uOb func298 ntmps298 ?_;refine gz6 ?_;refine uV1 [8,2,12,41] (fun (k:Nat)=>[(8,.int .i64 ((A.length+k:Nat):Int))]) (fun (k:Nat)=>[.arr (.slice (some ⟨b,off,none⟩) n cap) 4 ((A++(zal c (X.take k)++X.drop k)++C).map zaE)]) (fun (k:Nat)=>1<=k) (fun (k:Nat)=>X.length-k) (1) ?_ ?_ ?_ ?_;exact Ae _;exact ⟨zN uO,trivial⟩;exact zu (by rw [zjS])
 intro k hk
 refine gz6 ?_;refine uCo (fun h1=> ?_) fun h2=> ?_
 obtain ⟨x,hx⟩: ∃x,X[k]? =some x:=⟨_,Aa uO⟩
 refine gz9 ?_;refine uV2 [9,1,18,35] (fun (D:List FixS) (B:List FixS)=>[(9,.int .i64 ((A.length+D.length:Nat):Int))]) (fun (D:List FixS) (B:List FixS)=>[.arr (.slice (some ⟨b,off,none⟩) n cap) 4 (((A++D)++x::(B++X.drop (k+1)++C)).map zaE)]) (fun (D:List FixS) (B:List FixS)=>D.length+B.length=k/\zcM c x (zal c (X.take k))=zcM c x D++B) (fun (D:List FixS) (B:List FixS)=>D.length) (zal c (X.take k)) ([]) ?_ ?_ ?_ ?_;exact ⟨by simp [zbp];omega,by simp⟩;exact ⟨zN (by simp [zbp];omega),trivial⟩;exact zu (by rw [zg hx];simp)
 intro D B hinv
 obtain ⟨hA,hB⟩:=hinv;have hlA:D.length<X.length:=by omega
 refine gz1 ?_;refine zbx (fun M=>M=[.arr (.slice (some ⟨b,off,none⟩) n cap) 4 (((A++D)++x::(B++X.drop (k+1)++C)).map zaE)]) [8,13] mixed ?_;refine gz7 ?_;refine ahg 7 rfl rfl (by kernel_rfl) (by kernel_rfl) rfl (fun hc=>by
  have hq:0<D.length:=by simp at hc;omega
  exact ⟨_,OpenTo.upd (t:=24) rfl (hc) (OpenTo.upd (t:=23) rfl (hc) (OpenTo.refl _)),zy (j:=(A++D).length) zbI zaf rfl rfl (by simp) uSo⟩) ?_
 refine zoQ 8 rfl rfl (by kernel_rfl) (by kernel_rfl) (by simp) rfl rfl (fun hc=>⟨_,OpenTo.upd (t:=25) rfl (hc) (OpenTo.refl _),fun M hM=>by
  subst hM;exact zV (i:=0) (j:=(A++D).length) zaf rfl rfl rfl zfc rfl rfl rfl ⟨rfl,rfl⟩
  ⟩) ?_
 refine gz2 ?_;refine ahg 11 rfl rfl (by kernel_rfl) (by kernel_rfl) rfl (fun hc=>by
  have hq:0<D.length:=by simp at hc;omega
  exact ⟨_,OpenTo.upd (t:=28) rfl (hc) (OpenTo.refl _),zeU rfl rfl uO uO⟩) ?_
 refine ahg 12 rfl rfl (by kernel_rfl) (by kernel_rfl) rfl (fun hc=>by
  have hq:0<D.length:=by simp at hc;omega
  exact ⟨_,OpenTo.upd (t:=29) rfl (hc) (OpenTo.upd (t:=27) rfl (hc) (OpenTo.refl _)),zy (j:=(A++D).length-1) zbI zaf rfl rfl uSo uSo⟩) ?_
 refine zoQ 13 rfl rfl (by kernel_rfl) (by kernel_rfl) (by simp) rfl rfl (fun hc=>⟨_,OpenTo.upd (t:=30) rfl (hc) (OpenTo.refl _),fun M hM=>by
  have hq:0<D.length:=by simp at hc;omega
  subst hM;exact zV (i:=0) (j:=(A++D).length-1) zaf rfl rfl rfl (zgf uSo) rfl rfl rfl ⟨rfl,rfl⟩
  ⟩) ?_
 refine uGy 14 rfl rfl (fun hc=>zaw hca rfl rfl (WeakL.refl _) (hp _ _)) ?_;refine gz3 ?_;refine uCo (fun h3=> ?_) fun h4=> ?_
 obtain ⟨hA0,hcx⟩:=h3;obtain ⟨D1,y,rfl⟩:=zmP (A:=D) uO;rw [zrA] at hcx;have hD1:(D1++[y]).length=D1.length+1:=by simp
 refine gz4 ?_;refine za1 (fun M=>M=[.arr (.slice (some ⟨b,off,none⟩) n cap) 4 (((A++(D1++[y]))++x::(B++X.drop (k+1)++C)).map zaE)]) [9,13] mixed ?_;refine gz8 ?_;refine uB 8 rfl (zy (j:=(A++(D1++[y])).length-1) zbI zaf rfl rfl uSo uSo) ?_;refine uM 9 rfl rfl (uW (zV (i:=0) (j:=(A++(D1++[y])).length-1) zaf rfl rfl rfl (zkT) rfl rfl rfl ⟨rfl,rfl⟩)) ?_;refine gz2 ?_;refine uB 12 rfl (zy (j:=(A++(D1++[y])).length) zbI zaf rfl rfl (by simp) uSo) ?_;refine uM 13 rfl rfl (uW (zV (i:=0) (j:=(A++(D1++[y])).length) zaf rfl rfl rfl zfc rfl rfl rfl ⟨rfl,rfl⟩)) ?_;refine uB 14 rfl (zy (j:=(A++(D1++[y])).length) zbI zaf rfl rfl (by simp) uSo) ?_;refine uF 15 ?_;refine zK (zaT (i:=0) (j:=(A++(D1++[y])).length) (y:=x) (y':=y) zaf rfl rfl rfl rfl zfc rfl rfl rfl ?_)
 refine ⟨uE,?_⟩
 refine uB 16 rfl (zy (j:=(A++(D1++[y])).length-1) zbI zaf rfl rfl uSo uSo) ?_;refine uF 17 ?_;refine zK (zaT (i:=0) (j:=(A++(D1++[y])).length-1) (y:=y) (y':=x) zaf rfl rfl rfl rfl (by rw [A2 (by simp)];exact zkT) rfl rfl rfl ?_)
 refine ⟨uE,?_⟩
 refine gz8 ?_;exact ⟨D1,y::B,⟨by simp at hA⊢;omega,znw hB hcx⟩,uD,⟨zN uO,trivial⟩,uK,zu (by rw [<-AT,znD];simp)⟩;have hins:=znv (l:=X) (k:=k) hx hB (by intro h0;have h9:=h4 uO;rw [zmg h0] at h9;omega);refine gz2 ?_;refine zL ?_;refine gz8 ?_;exact ⟨k+1,by omega,uD,⟨zN uO,trivial⟩,uK,zu (by rw [zsM hins])⟩;have hend:zal c (X.take k)++X.drop k=zal c X:=by rw [Bm uO,zH uO];simp
 refine gz2 ?_;refine zt ?_;refine gz1 ?_;exact z7 rfl ⟨rfl,by rw [hend]⟩
theorem zkF [Tracks] {l:List FixS} {n0:Int} {n b off cap:Nat} {fid:FuncId} {caps:List HVal} {c:FixS->FixS->Int} (hca:Callable prog fid) (hp: ∀x y,ConP prog fid ([zaE x,zaE y]++caps) (.int .i64 (c x y))) (hc:Cmp c fun _=>True) (hn:l.length=n) (hn0:n0=(n:Int)) (hl:n<=20):Con prog 245 [.raw (.slice (some ⟨b,off,none⟩) n cap),.int .i64 n0,.fn (.func fid) [] caps] [.arr (.slice (some ⟨b,off,none⟩) n cap) 4 ((l).map zaE)] (fun x M'=> ∃Z:List FixS,x= .tup []/\(Z.Perm l/\Srt c Z)/\M'=[.arr (.slice (some ⟨b,off,none⟩) n cap) 4 ((Z).map zaE)]):=by
 refine uOb func245 ntmps245 ?_;refine zan ?_;refine uV3 [7,2,11,12] (fun (a0:Nat) (k:Nat) (Z:List FixS)=>[(7,.int .i64 (a0:Int)),(8,.int .i64 ((a0+20:Nat):Int))]) (fun (a0:Nat) (k:Nat) (Z:List FixS)=>[.arr (.slice (some ⟨b,off,none⟩) n cap) 4 ((Z++l.drop a0).map zaE)]) (fun (a0:Nat) (k:Nat) (Z:List FixS)=>a0=20*k/\a0<=n/\Blk c 20 Z/\Z.length=a0/\Z.Perm (l.take a0)) (fun (a0:Nat) (k:Nat) (Z:List FixS)=>n-a0) (0) (0) ([]) ?_ ?_ ?_ ?_
 ·exact ⟨rfl,Ad _,Blk.nil,rfl,by simp⟩
 ·exact ⟨rfl,rfl,trivial⟩
 ·exact zu (by simp)
 ·intro a0 k Z hinv
  obtain ⟨ha0,ha1,hZ,hZl,hZp⟩:=hinv;refine gz6 ?_;refine uCo (fun h1=> ?_) fun h2=> ?_
  ·refine gz3 ?_;refine zf (zbG (M':=[.arr (.slice (some ⟨b,off,none⟩) n cap) 4 ((Z++(l.drop a0).take 20++l.drop (a0+20)).map zaE)]) (by rw [AT Z,<-win])) ?_;refine gz5 ?_;refine de rfl (uCx 0 ztt rfl rfl (zhb (A:=Z) (X:=((l.drop a0).take 20)) (C:=(l.drop (a0+20))) (n:=n) hca hp (by first|omega|(simp;omega)) uO (by first|omega|(simp;omega)) uO) ?_)
   rintro _ _ ⟨rfl,rfl⟩;refine zdC ?_;exact ⟨a0+20,k+1,Z++zal c ((l.drop a0).take 20),⟨by omega,by omega,hZ.add (k:=k) uO (zji hc _) (by rw [zbp,AD];omega),by rw [AA,zbp,AD,Bd];omega,by rw [zqf];exact hZp.append (zbK c _)⟩,uD,⟨zN uO,zN uO,trivial⟩,uK,Ab _⟩
  ·refine gz2 ?_;refine zcF ?_;refine gz2 ?_;refine zf (zbG (M':=[.arr (.slice (some ⟨b,off,none⟩) n cap) 4 ((Z++l.drop a0++[]).map zaE)]) (by simp)) ?_;refine gz5 ?_;refine de rfl (uCx 0 ztt rfl rfl (zhb (A:=Z) (X:=(l.drop a0)) (C:=[]) (n:=n) hca hp (by first|omega|(simp;omega)) uO (by first|omega|(simp;omega)) uO) ?_)
   rintro _ _ ⟨rfl,rfl⟩;refine gz2 ?_;refine uV2 [6,4,28,35] (fun (bs:Nat) (D:List FixS)=>[(6,.int .i64 (bs:Int))]) (fun (bs:Nat) (D:List FixS)=>[.arr (.slice (some ⟨b,off,none⟩) n cap) 4 ((D).map zaE)]) (fun (bs:Nat) (D:List FixS)=>20<=bs/\bs<=2*n+20/\Blk c bs D/\D.Perm l) (fun (bs:Nat) (D:List FixS)=>n-bs) (20) (Z++zal c (l.drop a0)) ?_ ?_ ?_ ?_
   ·refine ⟨Ae _,by omega,hZ.add (k:=k) uO (zji hc _) (by rw [zbp,Bd];omega),?_⟩
    have:=hZp.append (zbK c (l.drop a0))
    rwa [Bf] at this
   ·exact ⟨rfl,trivial⟩
   ·exact zu (by simp)
   ·intro bs D hinv
    obtain ⟨hb1,hb2,hD,hDp⟩:=hinv;have hDl:D.length=n:=by rw [hDp.length_eq];exact hn
    refine gz6 ?_;refine zaB rfl (fun h3=> ?_) (fun h3=> ?_)
    ·exfalso
     try simp at h3
     all_goals omega
    ·try simp at h3
     refine gz2 ?_;refine zL ?_;refine gz1 ?_;have hDs:=hD.all uO;exact z7 rfl ⟨D,rfl,⟨hDp,hDs⟩,rfl⟩
theorem zlK [Tracks] {v:Value} {fid:FuncId} {caps:List HVal}:Con prog 298 [.raw v,.int .i64 0,.int .i64 0,.fn (.func fid) [] caps] [.arr v 4 []] (fun x M'=>x= .tup []/\M'=[.arr v 4 []]):=by
 refine uOb func298 ntmps298 ?_;refine gz6 ?_;refine uU1 [8,2,12,41] (fun (u:Unit)=>[(8,.int .i64 1)]) (fun (u:Unit)=>[.arr v 4 []]) (fun (u:Unit)=>True) (fun (u:Unit)=>0) (()) ?_ ?_
 ·trivial
 ·intro u hu
  refine gz6 ?_;refine zaB rfl (fun h1=> ?_) (fun h1=> ?_)
  ·exfalso
   try simp at h1
   all_goals omega
  ·try simp at h1
   refine gz2 ?_;refine zt ?_;refine gz1 ?_;exact z7 rfl ⟨rfl,rfl⟩
theorem zj6 [Tracks] {v:Value} {fid:FuncId} {caps:List HVal}:Con prog 245 [.raw v,.int .i64 0,.fn (.func fid) [] caps] [.arr v 4 []] (fun x M'=>x= .tup []/\M'=[.arr v 4 []]):=by
 refine uOb func245 ntmps245 ?_;refine zan ?_;refine uU1 [7,2,11,12] (fun (u:Unit)=>[(7,.int .i64 0),(8,.int .i64 20)]) (fun (u:Unit)=>[.arr v 4 []]) (fun (u:Unit)=>True) (fun (u:Unit)=>0) (()) ?_ ?_
 ·trivial
 ·intro u hu
  refine gz6 ?_;refine zaB rfl (fun h1=> ?_) (fun h1=> ?_)
  ·exfalso
   try simp at h1
   all_goals omega
  ·try simp at h1
   refine gz2 ?_;refine zt ?_;refine gz7 ?_;refine de rfl (uCx 0 ztt rfl rfl zlK ?_)
   rintro _ _ ⟨rfl,rfl⟩;refine gz2 ?_;refine uU1 [6,4,28,35] (fun (u:Unit)=>[(6,.int .i64 20)]) (fun (u:Unit)=>[.arr v 4 []]) (fun (u:Unit)=>True) (fun (u:Unit)=>0) (()) ?_ ?_
   ·trivial
   ·intro u hu
    refine gz6 ?_;refine zaB rfl (fun h2=> ?_) (fun h2=> ?_)
    ·exfalso
     try simp at h2
     all_goals omega
    ·try simp at h2
     refine gz2 ?_;refine zt ?_;refine gz1 ?_;exact z7 rfl ⟨rfl,rfl⟩
theorem zjK [Tracks] {fid:FuncId} {caps:List HVal}:Con prog 185 [.raw (.slice none 0 0),.fn (.func fid) [] caps] [.arr (.slice none 0 0) 4 []] (fun x M'=>x= .tup []/\M'=[.arr (.slice none 0 0) 4 []]):=by
 refine uOb func185 ntmps185 ?_;refine gz3 ?_;refine dq (zem zbI rfl) ?_;refine gz1 ?_;refine de rfl (uCx 0 zwX rfl rfl zj6 ?_)
 rintro _ _ ⟨rfl,rfl⟩;refine gz1 ?_;exact z7 rfl ⟨rfl,rfl⟩
theorem zjL [Tracks] {l:List FixS} {n b off cap:Nat} {fid:FuncId} {caps:List HVal} {c:FixS->FixS->Int} (hca:Callable prog fid) (hp: ∀x y,ConP prog fid ([zaE x,zaE y]++caps) (.int .i64 (c x y))) (hc:Cmp c fun _=>True) (hn:l.length=n) (hl:n<=20):Con prog 185 [.raw (.slice (some ⟨b,off,none⟩) n cap),.fn (.func fid) [] caps] [.arr (.slice (some ⟨b,off,none⟩) n cap) 4 ((l).map zaE)] (fun x M'=> ∃Z:List FixS,x= .tup []/\(Z.Perm l/\Srt c Z)/\M'=[.arr (.slice (some ⟨b,off,none⟩) n cap) 4 ((Z).map zaE)]):=by
 refine uOb func185 ntmps185 ?_;refine gz3 ?_;refine dq (zem zbI rfl) ?_;refine gz1 ?_;refine de rfl (uCx 0 zwX rfl rfl (zkF hca hp hc hn rfl hl) ?_)
 rintro _ _ ⟨Z,rfl,hz,rfl⟩;refine gz1 ?_;exact z7 rfl ⟨Z,rfl,hz,rfl⟩
theorem zj5 [Tracks] {l:List FixS} {v:Value} {fid:FuncId} {caps:List HVal} {c:FixS->FixS->Int} (hca:Callable prog fid) (hp: ∀x y,ConP prog fid ([zaE x,zaE y]++caps) (.int .i64 (c x y))) (hc:Cmp c fun _=>True) (hl:l.length<=20):Con prog 185 [.raw v,.fn (.func fid) [] caps] [.arr v 4 (l.map zaE)] fun x M'=> ∃Z:List FixS,x= .tup []/\(Z.Perm l/\Srt c Z)/\M'=[.arr v 4 (Z.map zaE)]:=
 zrn (fun h1 h2=>by
  have h3:l=[]:=by first|exact List.map_eq_nil_iff.1 h2|simpa using h2
  subst h1 h3;exact zjK.mono fun x M' ⟨e1,e2⟩=>⟨[],e1,⟨Ab _,Srt.nil⟩,e2⟩)
  fun b off cap h1=>by
   rw [Ah] at h1;subst h1;exact zjL hca hp hc rfl hl
theorem zgx [Tracks] {x y:FixS}:ConP prog 186 [zaE x,zaE y] (.int .i64 (znj x y)):=by
 refine uOb func186 ntmps186 ?_;refine zcC ?_;refine dq (za (hs:=[_,_]) z6 ty3 rfl rfl (by decide) (by decide) rfl) ?_;refine gz4 ?_;refine dq (za (hs:=[_,_]) z6 ty3 rfl rfl (by decide) (by decide) rfl) ?_;refine dq (uCl zwI rfl (zeC (a:=[x.Week,x.At]) (b:=[y.Week,y.At]) (by simp) (by simp))) ?_;refine gz6 ?_;refine uCo (fun h1=> ?_) fun h2=> ?_
 refine gz5 ?_;refine uRp ?_
 (rw [znj,if_pos (by assumption)])
 refine gz5 ?_;refine dq (za (hs:=[_]) zk ty9 rfl rfl (by decide) (by decide) rfl) ?_;refine gz2 ?_;refine dq (za (hs:=[_]) zk ty9 rfl rfl (by decide) (by decide) rfl) ?_;refine dq (uCl zzH rfl (zf6 (l:=[x.Home]) (m:=[y.Home]) (by simp) (by simp))) ?_;refine gz3 ?_;refine uRp ?_
 (rw [znj,if_neg uO])
theorem zgy [Tracks] {x y:FixS}:ConP prog 190 [zaE x,zaE y] (.bool (bif (bif x.Week==y.Week then x.At==y.At else false) then x.Home==y.Home else false)):=by
 refine uOb func190 ntmps190 ?_;refine gz28 ?_;refine zw rfl ?_
 rfl
theorem zco [Tracks] {b:Nat} {l:List Int} {a:Nat} (ha:a<=700000):Con prog 104 [pAt b] [St b l a] (fun x M'=> ∃k a',x=zfz k/\k.length<=12/\a'<=a+150/\M'=[St b l a']):=by
 refine uOb func104 ntmps104 ?_;refine gz6 ?_;refine zf (zM 4) ?_;refine gz5 ?_;refine uV2 [3,58] (fun (w:Nat) (q:GL FixS)=>[(4,.int .i64 ((w:Int)+1)),(3,.raw q.u)]) (fun (w:Nat) (q:GL FixS)=>[St b l q.a,.arr q.u 4 (q.out.map zaE)]) (fun (w:Nat) (q:GL FixS)=>w<=4/\GLok (fun _=>True) (3*w) (a+32*w) q) (fun (w:Nat) (q:GL FixS)=>4-w) (0) (⟨.slice none 0 0,[],a⟩) ?_ ?_ ?_ ?_;exact ⟨by omega,⟨by simp,by simp,uD⟩⟩;exact ⟨zN uO,rfl,trivial⟩;exact uP
 intro w q hinv
 obtain ⟨hw,hq⟩:=hinv;obtain ⟨u,out,a2⟩:=q;obtain ⟨g1,g2,g3⟩:=id hq;dsimp only at g1 g2 g3;refine gz5 ?_;refine uCo (fun h1=> ?_) fun h2=> ?_
 refine gz6 ?_;refine dq (zfX rfl rfl uO uO) ?_;refine gz4 ?_;refine de rfl (uCx 0 ca6 rfl rfl (zC uS uS uS uS) ?_)
 rintro _ _ ⟨y14,rfl,hy14,rfl⟩;refine gz3 ?_;refine uV3 [3,1,5,2,15,46] (fun (n:Nat) (at1:Int) (q2:GL FixS)=>[(15,.int .i64 (n:Int)),(5,.int .i64 at1),(3,.raw q2.u)]) (fun (n:Nat) (at1:Int) (q2:GL FixS)=>[St b l q2.a,.arr q2.u 4 (q2.out.map zaE)]) (fun (n:Nat) (at1:Int) (q2:GL FixS)=>(n:Int)<=y14/\(0<=at1/\at1<=1000+20*n)/\GLok (fun _=>True) (3*w+n) (a+32*w+1+10*n) q2) (fun (n:Nat) (at1:Int) (q2:GL FixS)=>y14.toNat-n) (0) (100*((w:Int)+1)) (⟨u,out,a2+1⟩) ?_ ?_ ?_ ?_;exact ⟨by omega,by omega,⟨uD,g2,uD⟩⟩;exact ⟨rfl,rfl,rfl,trivial⟩;exact uP
 intro n at1 q2 hinv
 obtain ⟨hn,hat,hq2⟩:=hinv;obtain ⟨u,out,a2⟩:=q2;obtain ⟨g1,g2,g3⟩:=id hq2;dsimp only at g1 g2 g3;refine gz4 ?_;refine uCo (fun h3=> ?_) fun h4=> ?_
 refine gz7 ?_;refine dq (za (hs:=[_,_,_]) z6 ty3 rfl rfl (by decide) (by decide) rfl) ?_;refine de rfl (uCx 0 zaI rfl rfl (zd (L:=[_,_,_]) uS uS uS) ?_)
 rintro _ _ ⟨y20,rfl,hy20,rfl⟩;refine dq (zbf rfl rfl (by simp at hy20;omega) (by simp at hy20;omega)) ?_;refine gz6 ?_;refine dq (za (hs:=[_,_,_]) zk ty9 rfl rfl (by decide) (by decide) rfl) ?_;refine de rfl (uCx 0 ca7 rfl rfl (zi (L:=[_,_,_]) uS uS uS) ?_)
 rintro _ _ ⟨y26,rfl,hy26,rfl⟩;refine gz1 ?_;refine dq (za (hs:=[_,_,_]) zk ty9 rfl rfl (by decide) (by decide) rfl) ?_;refine de rfl (uCx 0 ca7 rfl rfl (zi (L:=[_,_,_]) uS uS uS) ?_)
 rintro _ _ ⟨y29,rfl,hy29,rfl⟩;refine dq (zI (cs:=[_,_,_,_]) zaf zAW rfl) ?_;refine de rfl (zj zaf rfl fun b6=> ?_)
 refine de0 (uY 0 ?_)
 refine gz1 ?_;refine uVj [31,11] (fun (q3:FixS×Nat)=>[]) (fun (q3:FixS×Nat)=>[St b l q3.2,.arr u 4 (out.map zaE),.cells b6 (zb (zaE q3.1))]) (fun (q3:FixS×Nat)=>q3.2<=a2+4) ?_ ?_
 skip
 refine zf (Ghost.perm (M':=[St b l (a2+3),.cells b6 (zb (zaE (⟨(w:Int)+1,at1+y20,y26,y29⟩:FixS))),.arr u 4 (out.map zaE)]) uP) ?_;refine gz2 ?_;refine de rfl (uZ 1 ?_)
 refine gz1 ?_;refine de rfl (uZ 1 ?_)
 refine gz3 ?_;refine dgx (fun xq M'=> ∃(y:Bool) (a4:Nat),xq= .bool y/\a4<=a2+4/\M'=[St b l a4,.cells b6 (zb (zaE (⟨(w:Int)+1,at1+y20,y26,y29⟩:FixS))),.arr u 4 (out.map zaE)]) rfl rfl (fun hc=>⟨_,false,a2+3,rfl,by omega,rfl⟩) (fun hc=>⟨_,OpenTo.upd (t:=37) rfl (hc) (OpenTo.refl _),uCx 0 zdz rfl rfl (zB (a:=a2+3) uO uO) (fun h M' hh=>by
  obtain ⟨y,h1,h2⟩:=hh;exact ⟨y,a2+4,h1,by omega,by rw [h2];rfl⟩)⟩) ?_
 rintro _ _ ⟨y38,a4,rfl,ha4,rfl⟩;refine gz3 ?_;refine uCo (fun h5=> ?_) fun h6=> ?_
 refine gz2 ?_;refine de0 (uY 1 ?_)
 refine gz1 ?_;exact ⟨((⟨(w:Int)+1,at1+y20,y26,[112,105,110,107]⟩:FixS),a4),ha4,trivial,uK,uP⟩;refine gz1 ?_;exact ⟨((⟨(w:Int)+1,at1+y20,y26,y29⟩:FixS),a4),ha4,trivial,uK,uP⟩
 intro q3 ha4
 obtain ⟨x4,a4⟩:=q3;dsimp only at ha4;refine uVj [42,14] (fun (q4:FixS×Nat)=>[]) (fun (q4:FixS×Nat)=>[St b l q4.2,.arr u 4 (out.map zaE),.cells b6 (zb (zaE q4.1))]) (fun (q4:FixS×Nat)=>q4.2<=a2+10) ?_ ?_
 skip
 refine gz2 ?_;refine de rfl (uCx 0 zdz rfl rfl (zB uS uS) ?_)
 rintro _ _ ⟨y43,rfl,rfl⟩;refine gz1 ?_;refine uCo (fun h7=> ?_) fun h8=> ?_
 refine za1 (fun M=> ∃i:Nat,M[i]? =some (.cells b6 (zb (zaE x4)))) [6] mixed ?_;refine gz1 ?_;refine gx2 [2,4] ?_;refine gz1 ?_;refine uM 6 rfl (⟨2,rfl⟩) (fun M hM=>by obtain ⟨i,hi⟩:=hM;exact z8 (i:=i) ty9 rfl hi (.inl ⟨rfl,rfl⟩) ⟨rfl,rfl⟩) ?_;refine uB 7 rfl (za (hs:=[_,_]) zk ty9 rfl rfl (by decide) (by decide) rfl) ?_;refine uF 1 ?_;refine zq rfl (uCx 0 zkG rfl rfl (zgF uS uS uS uS) ?_)
 rintro _ _ ⟨y45,rfl,hy45,rfl⟩;refine ⟨uE,?_⟩
 refine uA 9 ?_;refine uF 3 ?_;refine zq rfl (uCx 0 zkG rfl rfl (zgF uS uS uS uS) ?_)
 rintro _ _ ⟨y47,rfl,hy47,rfl⟩;refine ⟨uE,?_⟩
 refine uF 8 ?_;refine zq rfl (uCx 0 ca7 rfl rfl (zi (L:=[_,_]) uS uS uS) ?_)
 rintro _ _ ⟨y52,rfl,hy52,rfl⟩;refine ⟨uE,?_⟩
 refine uF 10 ?_;refine zK (uY 2 ?_)
 refine ⟨uE,?_⟩
 refine gz1 ?_;refine uF 12 ?_;refine zK (uY 2 ?_)
 refine ⟨uE,?_⟩
 refine gz1 ?_;refine uF 14 ?_;refine zK (uY 2 ?_)
 refine ⟨uE,?_⟩
 refine gz1 ?_;exact ⟨((⟨y45,y47,y52,x4.Away⟩:FixS),a4+6),uD,trivial,uK,uP⟩;refine gz1 ?_;exact ⟨(x4,a4+1),uD,trivial,uK,uP⟩
 intro q4 ha5
 obtain ⟨x5,a5⟩:=q4;dsimp only at ha5;refine zf (zcz 6 (i:=2) rfl rfl) ?_;refine gz3 ?_;refine dq (za (hs:=[_]) zbI zaf rfl rfl (by decide) (by decide) rfl) ?_;refine de rfl (zO (i:=1) zbI zaf rfl rfl rfl rfl rfl (by simp [zax,zb,zay,zaO]) uSo fun v59=> ?_)
 refine gz8 ?_;exact ⟨n+1,at1+y20,⟨v59,out++[x5],a5⟩,⟨by omega,by simp at hy20;omega,hq2.add (x:=x5) trivial uO⟩,uD,⟨rfl,rfl,rfl,trivial⟩,uK,uP⟩;refine gz2 ?_;refine zcF ?_;refine gz8 ?_;exact ⟨w+1,⟨u,out,a2⟩,⟨by omega,hq2.mono uO uO⟩,uD,⟨zN uO,rfl,trivial⟩,uK,uP⟩;refine gz2 ?_;refine zL ?_;refine gz4 ?_;refine de rfl (uCx 1 zzF rfl rfl (zj5 (l:=out) (c:=znj) zzG (fun _ _=>zgx) zvo uO) ?_)
 rintro _ _ ⟨Z,rfl,⟨hz1,hz2⟩,rfl⟩;have hzl:=hz1.length_eq;refine gz3 ?_;refine de rfl (uCx 0 zzI rfl rfl (zks (l:=Z) zzJ (fun _ _=>zgy) uO) ?_)
 rintro _ _ ⟨u64,D64,rfl,⟨hD1,hD2⟩,rfl⟩;refine gz3 ?_;exact zae (zas 2 (i:=0) rfl rfl) rfl ⟨D64,a2,rfl,by omega,by omega,rfl⟩
end
end Go.Proofs.YtahegdhbakjdoaaGreatDoor
namespace Go.HL
section
open Go
theorem zbJ {e:Env} {places:List (Nat×Nat)} {cs cs' out:List HVal} {i off sz:Nat} {x:Operand} {h:HVal} {r:List (Nat×Operand)} (h1:places[i]? =some (off,sz)) (h2:ze e x=some h) (h3:zdw sz h=true)
 (h4:Nat.ble (off+sz) cs.length=true) (h5:zav cs off (zb h)=cs') (k:zfA e places cs' r=some out):zfA e places cs ((i,x)::r)=some out:=by
 rw [zfA,h1,h2];simp only [h3,h4];rw [h5];exact k
theorem zob {e:Env} {places:List (Nat×Nat)} {cs:List HVal}:zfA e places cs []=some cs:=rfl
theorem zou [Tracks] {P:Program} {e:Env} {dst:Option Tmp} {ty:TypeId} {pos:String} {af:Array Edge} {g:Option (Nat×Bool)} {t:TypeId} {fs:List (Nat×Nat)} {size bytes:Nat} {zs:Array Value} {parts:Array (Nat×Operand)} {ps:List (Nat×Operand)} {places:List (Nat×Nat)} {cs zc:List HVal}
 (hf:Fits P t (.struct fs) size bytes (.agg zs)) (hp:Places P fs places) (hz:zs.toList.map zaO=zc) (hps:parts.toList=ps)
 (hr:zfA e places zc ps=some cs):POp P e ⟨dst,.build t parts,ty,pos,af,g⟩ (.agg cs):=
 zI hf hp (by rw [hz,hps];exact hr)
theorem zg2 [Tracks] {P:Program} {e:Env} {dst:Option Tmp} {ty:TypeId} {pos:String} {af:Array Edge} {g:Option (Nat×Bool)} {t:TypeId} {fs:List (Nat×Nat)} {size bytes:Nat} {zs:Array Value} {parts:Array (Nat×Operand)} {ps:List (Nat×Operand)} {places:List (Nat×Nat)} {cs zc:List HVal}
 (hf:Fits P t (.struct fs) size bytes (.agg zs)) (hp:Places P fs places) (hz:zs.toList.map zaO=zc:=by exact (show _=[_,_,_,_,_,_,_,_,_,_,_,_,_,_] from rfl)) (hps:parts.toList=ps:=by exact (show _=[_,_,_,_,_,_,_,_,_] from rfl))
 (hr:zfA e places zc ps=some cs:=by exact zbJ (cs':=[_,_,_,_,_,_,_,_,_,_,_,_,_,_]) rfl rfl rfl rfl rfl (zbJ (cs':=[_,_,_,_,_,_,_,_,_,_,_,_,_,_]) rfl rfl rfl rfl rfl (zbJ (cs':=[_,_,_,_,_,_,_,_,_,_,_,_,_,_]) rfl rfl rfl rfl rfl (zbJ (cs':=[_,_,_,_,_,_,_,_,_,_,_,_,_,_]) rfl rfl rfl rfl rfl (zbJ (cs':=[_,_,_,_,_,_,_,_,_,_,_,_,_,_]) rfl rfl rfl rfl rfl (zbJ (cs':=[_,_,_,_,_,_,_,_,_,_,_,_,_,_]) rfl rfl rfl rfl rfl (zbJ (cs':=[_,_,_,_,_,_,_,_,_,_,_,_,_,_]) rfl rfl rfl rfl rfl (zbJ (cs':=[_,_,_,_,_,_,_,_,_,_,_,_,_,_]) rfl rfl rfl rfl rfl (zbJ (cs':=[_,_,_,_,_,_,_,_,_,_,_,_,_,_]) rfl rfl rfl rfl rfl (zob)))))))))):POp P e ⟨dst,.build t parts,ty,pos,af,g⟩ (.agg cs):=zou hf hp hz hps hr
theorem zA9 [Tracks] {P:Program} {e:Env} {dst:Option Tmp} {ty:TypeId} {pos:String} {af:Array Edge} {g:Option (Nat×Bool)} {t:TypeId} {fs:List (Nat×Nat)} {size bytes:Nat} {zs:Array Value} {parts:Array (Nat×Operand)} {ps:List (Nat×Operand)} {places:List (Nat×Nat)} {cs zc:List HVal}
 (hf:Fits P t (.struct fs) size bytes (.agg zs)) (hp:Places P fs places) (hz:zs.toList.map zaO=zc:=by exact (show _=[_,_,_,_,_,_,_,_,_,_,_,_,_,_,_,_,_,_,_] from rfl)) (hps:parts.toList=ps:=by exact (show _=[_,_,_] from rfl))
 (hr:zfA e places zc ps=some cs:=by exact zbJ (cs':=[_,_,_,_,_,_,_,_,_,_,_,_,_,_,_,_,_,_,_]) rfl rfl rfl rfl rfl (zbJ (cs':=[_,_,_,_,_,_,_,_,_,_,_,_,_,_,_,_,_,_,_]) rfl rfl rfl rfl rfl (zbJ (cs':=[_,_,_,_,_,_,_,_,_,_,_,_,_,_,_,_,_,_,_]) rfl rfl rfl rfl rfl (zob)))):POp P e ⟨dst,.build t parts,ty,pos,af,g⟩ (.agg cs):=zou hf hp hz hps hr
end
section
open Op
abbrev zsb:List HVal:=[.raw (.slice none 0 0),.raw (.slice none 0 0),.raw (.slice none 0 0),.raw (.slice none 0 0),.raw (.slice none 0 0),.int .i64 0,.int .i64 0,.int .i64 0,.int .i64 0,.raw (.slice none 0 0),.raw (.slice none 0 0),.raw (.slice none 0 0),.raw (.slice none 0 0),.int .i64 0]
abbrev zhF:List HVal:=[.raw (.slice none 0 0),.raw (.slice none 0 0),.raw (.slice none 0 0),.raw (.slice none 0 0),.raw (.slice none 0 0),.int .i64 0,.int .i64 0,.int .i64 0,.int .i64 0,.raw (.slice none 0 0),.raw (.slice none 0 0),.raw (.slice none 0 0),.raw (.slice none 0 0),.int .i64 0,.raw (.slice none 0 0),.raw (.slice none 0 0),.raw (.slice none 0 0),.raw (.slice none 0 0),.raw (.slice none 0 0)]
abbrev lgC (p:List PlayerS) (st:HVal) (f:List FixS) (r:List RuleS) (s:List SlotS) (b:BoundS) (t:List Str) (ga:HVal) (br:List Int) (tr:List Str) (w:Int):List HVal:=[zaA p,st,zfz f,ziF r,zft s,.int .i64 b.Most,.int .i64 b.Hurt,.int .i64 b.Adds,.int .i64 b.Hold,eSs t,ga,eIs br,eSs tr,.int .i64 w]
abbrev bkC (g:LeagueS) (mv pl me he ch:HVal):List HVal:=[zaA g.Players,zcy g.Stints,zfz g.Fixtures,ziF g.Rules,zft g.Slots,.int .i64 g.Bounds.Most,.int .i64 g.Bounds.Hurt,.int .i64 g.Bounds.Adds,.int .i64 g.Bounds.Hold,eSs g.Teams,zj8 g.Games,eIs g.Breaks,eSs g.Trust,.int .i64 g.Start,mv,pl,me,he,ch]
end
end Go.HL
namespace Go.Proofs.YtahegdhbakjdoaaGreatDoor
set_option maxRecDepth 100000
set_option linter.unusedVariables false
set_option linter.unusedSimpArgs false
section
open Go.Proofs.Tryz
open Go.HL
theorem zg7 [Tracks] {b:Nat} {l:List Int} {a:Nat} (ha:a<=500000):Con prog 50 [pAt b] [St b l a] (fun x M'=> ∃g a',x=zej g/\LeaC g/\a'<=a+500/\M'=[St b l a']):=by
 refine zbY func50 rfl ntmps50 rfl rfl ?_;refine gz1 ?_;refine de rfl (zj zaS rfl fun b2=> ?_)
 refine gz1 ?_;refine uVj [3,1,6,23] (fun (q:Nat×LeagueS×Nat)=>[(3,pAt q.1)]) (fun (q:Nat×LeagueS×Nat)=>[.cells q.1 (lgC q.2.1.Players (.raw (.slice none 0 0)) q.2.1.Fixtures q.2.1.Rules q.2.1.Slots q.2.1.Bounds q.2.1.Teams (.raw (.slice none 0 0)) q.2.1.Breaks q.2.1.Trust q.2.1.Start),.cells b2 zsb,St b l q.2.2]) (fun (q:Nat×LeagueS×Nat)=>LeaD q.2.1/\q.2.2<=a+300) ?_ ?_
 ·skip
  refine zlb mixed ?_;refine gz1 ?_;refine gx4 [2,4,6,8] ?_;refine uB 10 rfl (za (hs:=[_,_,_,_]) zk ty9 rfl rfl (by decide) (by decide) rfl) ?_;refine gz1 ?_;refine uB 12 rfl (za (hs:=[_,_,_]) z6 ty3 rfl rfl (by decide) (by decide) rfl) ?_;refine gx3 [15,17,19] ?_;refine uB 20 rfl (za (hs:=[_,_,_]) z6 ty3 rfl rfl (by decide) (by decide) rfl) ?_;refine zhr 1 23 rfl rfl (by kernel_rfl) ?_ ?_
  ·skip
   refine zq rfl (uCx 1 zwt rfl rfl (zde uS) ?_)
   rintro _ _ ⟨k7,a7,rfl,hk7,ha7,rfl⟩;refine ⟨uE,?_⟩
   refine zhr 3 23 rfl rfl (by kernel_rfl) ?_ ?_
   ·skip
    refine zq rfl (uCx 0 ztg rfl rfl (zco uS) ?_)
    rintro _ _ ⟨k9,a9,rfl,hk9,ha9,rfl⟩;refine ⟨uE,?_⟩
    refine zhr 5 23 rfl rfl (by kernel_rfl) ?_ ?_
    ·skip
     refine zq rfl (uCx 0 zqF rfl rfl (zbk uS) ?_)
     rintro _ _ ⟨k11,a11,rfl,hk11,ha11,rfl⟩;refine ⟨uE,?_⟩
     refine zhr 7 23 rfl rfl (by kernel_rfl) ?_ ?_
     ·skip
      refine zq rfl (uCx 0 zmB rfl rfl (zaX uS) ?_)
      rintro _ _ ⟨k13,a13,rfl,hk13,hn13,ha13,rfl⟩;refine ⟨uE,?_⟩
      refine zhr 9 23 rfl rfl (by kernel_rfl) ?_ ?_
      ·skip
       refine zq rfl (uCx 0 zmC rfl rfl (zaF uS) ?_)
       rintro _ _ ⟨y15,rfl,rfl⟩;refine ⟨uE,?_⟩
       refine zhr 13 23 rfl rfl (by kernel_rfl) ?_ ?_
       ·skip
        refine zq rfl (uCx 0 zaI rfl rfl (zd (L:=[_,_,_]) uS uS uS) ?_)
        rintro _ _ ⟨y19,rfl,hy19,rfl⟩;refine ⟨uE,?_⟩
        refine uB 14 rfl (zaL (es:=tm4) (f:=HVal.str) (h:=y19.toNat) zk ty9 rfl rfl ⟨_,_,rfl,by simp at hy19;omega⟩ uO (by simp [tm4];simp at hy19;omega)) ?_;refine zhr 16 23 rfl rfl (by kernel_rfl) ?_ ?_
        ·skip
         refine zq rfl (uCx 0 zjb rfl rfl (zaz uS) ?_)
         rintro _ _ ⟨k22,a22,rfl,hk22,ha22,rfl⟩;refine ⟨uE,?_⟩
         refine zhr 18 23 rfl rfl (by kernel_rfl) ?_ ?_
         ·skip
          refine zq rfl (uCx 0 zhM rfl rfl (zak uS) ?_)
          rintro _ _ ⟨t24,a24,rfl,ht24,ha24,rfl⟩;refine ⟨uE,?_⟩
          refine zhr 21 23 rfl rfl (by kernel_rfl) ?_ ?_
          ·skip
           refine zq rfl (uCx 0 zaI rfl rfl (zd (L:=[_,_,_]) uS uS uS) ?_)
           rintro _ _ ⟨y27,rfl,hy27,rfl⟩;refine ⟨uE,?_⟩
           refine uB 22 rfl (zg2 zaS ziP) ?_;refine uF 23 ?_;refine zq rfl (zj zaS rfl fun b3=> ?_)
           refine ⟨uE,?_⟩
           refine uF 24 ?_;refine zK (uY 0 ?_)
           refine ⟨uE,?_⟩
           refine uAz ?_;refine ⟨(b3,⟨k7,[],k9,k11,k13,y15,(tm4.take y19.toNat),[],k22,t24,y27⟩,a24+1),?_,⟨rfl,trivial⟩,uK,?_⟩
           ·exact ⟨⟨hk7,hk9,hk11,hk13,⟨by dsimp only;simp [tm4];simp at hy19;omega,by dsimp only;simp [tm4];simp at hy19;omega⟩,hk22,ht24,by simp at hy27;dsimp only;omega,zeh (by simp at hy19;omega)⟩,uD⟩
           ·exact uP
          ·skip
           refine zq rfl (zj zaS rfl fun b3=> ?_)
           refine ⟨uE,?_⟩
           refine uF 21 ?_;refine zq rfl (uCx 1 zaI rfl rfl (zd (L:=[_,_,_]) uS uS uS) ?_)
           rintro _ _ ⟨y27,rfl,hy27,rfl⟩;refine ⟨uE,?_⟩
           refine uB 22 rfl (zg2 zaS ziP) ?_;refine uF 24 ?_;refine zK (uY 1 ?_)
           refine ⟨uE,?_⟩
           refine uAz ?_;refine ⟨(b3,⟨k7,[],k9,k11,k13,y15,(tm4.take y19.toNat),[],k22,t24,y27⟩,a24+1),?_,⟨rfl,trivial⟩,uK,?_⟩
           ·exact ⟨⟨hk7,hk9,hk11,hk13,⟨by dsimp only;simp [tm4];simp at hy19;omega,by dsimp only;simp [tm4];simp at hy19;omega⟩,hk22,ht24,by simp at hy27;dsimp only;omega,zeh (by simp at hy19;omega)⟩,uD⟩
           ·exact uP
         ·skip
          refine zq rfl (zj zaS rfl fun b3=> ?_)
          refine ⟨uE,?_⟩
          refine uF 18 ?_;refine zq rfl (uCx 1 zhM rfl rfl (zak uS) ?_)
          rintro _ _ ⟨t24,a24,rfl,ht24,ha24,rfl⟩;refine ⟨uE,?_⟩
          refine uF 21 ?_;refine zq rfl (uCx 0 zaI rfl rfl (zd (L:=[_,_,_]) uS uS uS) ?_)
          rintro _ _ ⟨y27,rfl,hy27,rfl⟩;refine ⟨uE,?_⟩
          refine uB 22 rfl (zg2 zaS ziP) ?_;refine uF 24 ?_;refine zK (uY 1 ?_)
          refine ⟨uE,?_⟩
          refine uAz ?_;refine ⟨(b3,⟨k7,[],k9,k11,k13,y15,(tm4.take y19.toNat),[],k22,t24,y27⟩,a24+1),?_,⟨rfl,trivial⟩,uK,?_⟩
          ·exact ⟨⟨hk7,hk9,hk11,hk13,⟨by dsimp only;simp [tm4];simp at hy19;omega,by dsimp only;simp [tm4];simp at hy19;omega⟩,hk22,ht24,by simp at hy27;dsimp only;omega,zeh (by simp at hy19;omega)⟩,uD⟩
          ·exact uP
        ·skip
         refine zq rfl (zj zaS rfl fun b3=> ?_)
         refine ⟨uE,?_⟩
         refine uF 16 ?_;refine zq rfl (uCx 1 zjb rfl rfl (zaz uS) ?_)
         rintro _ _ ⟨k22,a22,rfl,hk22,ha22,rfl⟩;refine ⟨uE,?_⟩
         refine uF 18 ?_;refine zq rfl (uCx 0 zhM rfl rfl (zak uS) ?_)
         rintro _ _ ⟨t24,a24,rfl,ht24,ha24,rfl⟩;refine ⟨uE,?_⟩
         refine uF 21 ?_;refine zq rfl (uCx 0 zaI rfl rfl (zd (L:=[_,_,_]) uS uS uS) ?_)
         rintro _ _ ⟨y27,rfl,hy27,rfl⟩;refine ⟨uE,?_⟩
         refine uB 22 rfl (zg2 zaS ziP) ?_;refine uF 24 ?_;refine zK (uY 1 ?_)
         refine ⟨uE,?_⟩
         refine uAz ?_;refine ⟨(b3,⟨k7,[],k9,k11,k13,y15,(tm4.take y19.toNat),[],k22,t24,y27⟩,a24+1),?_,⟨rfl,trivial⟩,uK,?_⟩
         ·exact ⟨⟨hk7,hk9,hk11,hk13,⟨by dsimp only;simp [tm4];simp at hy19;omega,by dsimp only;simp [tm4];simp at hy19;omega⟩,hk22,ht24,by simp at hy27;dsimp only;omega,zeh (by simp at hy19;omega)⟩,uD⟩
         ·exact uP
       ·skip
        refine zq rfl (zj zaS rfl fun b3=> ?_)
        refine ⟨uE,?_⟩
        refine uF 13 ?_;refine zq rfl (uCx 1 zaI rfl rfl (zd (L:=[_,_,_]) uS uS uS) ?_)
        rintro _ _ ⟨y19,rfl,hy19,rfl⟩;refine ⟨uE,?_⟩
        refine uB 14 rfl (zaL (es:=tm4) (f:=HVal.str) (h:=y19.toNat) zk ty9 rfl rfl ⟨_,_,rfl,by simp at hy19;omega⟩ uO (by simp [tm4];simp at hy19;omega)) ?_;refine uF 16 ?_;refine zq rfl (uCx 0 zjb rfl rfl (zaz uS) ?_)
        rintro _ _ ⟨k22,a22,rfl,hk22,ha22,rfl⟩;refine ⟨uE,?_⟩
        refine uF 18 ?_;refine zq rfl (uCx 0 zhM rfl rfl (zak uS) ?_)
        rintro _ _ ⟨t24,a24,rfl,ht24,ha24,rfl⟩;refine ⟨uE,?_⟩
        refine uF 21 ?_;refine zq rfl (uCx 0 zaI rfl rfl (zd (L:=[_,_,_]) uS uS uS) ?_)
        rintro _ _ ⟨y27,rfl,hy27,rfl⟩;refine ⟨uE,?_⟩
        refine uB 22 rfl (zg2 zaS ziP) ?_;refine uF 24 ?_;refine zK (uY 1 ?_)
        refine ⟨uE,?_⟩
        refine uAz ?_;refine ⟨(b3,⟨k7,[],k9,k11,k13,y15,(tm4.take y19.toNat),[],k22,t24,y27⟩,a24+1),?_,⟨rfl,trivial⟩,uK,?_⟩
        ·exact ⟨⟨hk7,hk9,hk11,hk13,⟨by dsimp only;simp [tm4];simp at hy19;omega,by dsimp only;simp [tm4];simp at hy19;omega⟩,hk22,ht24,by simp at hy27;dsimp only;omega,zeh (by simp at hy19;omega)⟩,uD⟩
        ·exact uP
      ·skip
       refine zq rfl (zj zaS rfl fun b3=> ?_)
       refine ⟨uE,?_⟩
       refine uF 9 ?_;refine zq rfl (uCx 1 zmC rfl rfl (zaF uS) ?_)
       rintro _ _ ⟨y15,rfl,rfl⟩;refine ⟨uE,?_⟩
       refine uF 13 ?_;refine zq rfl (uCx 0 zaI rfl rfl (zd (L:=[_,_,_]) uS uS uS) ?_)
       rintro _ _ ⟨y19,rfl,hy19,rfl⟩;refine ⟨uE,?_⟩
       refine uB 14 rfl (zaL (es:=tm4) (f:=HVal.str) (h:=y19.toNat) zk ty9 rfl rfl ⟨_,_,rfl,by simp at hy19;omega⟩ uO (by simp [tm4];simp at hy19;omega)) ?_;refine uF 16 ?_;refine zq rfl (uCx 0 zjb rfl rfl (zaz uS) ?_)
       rintro _ _ ⟨k22,a22,rfl,hk22,ha22,rfl⟩;refine ⟨uE,?_⟩
       refine uF 18 ?_;refine zq rfl (uCx 0 zhM rfl rfl (zak uS) ?_)
       rintro _ _ ⟨t24,a24,rfl,ht24,ha24,rfl⟩;refine ⟨uE,?_⟩
       refine uF 21 ?_;refine zq rfl (uCx 0 zaI rfl rfl (zd (L:=[_,_,_]) uS uS uS) ?_)
       rintro _ _ ⟨y27,rfl,hy27,rfl⟩;refine ⟨uE,?_⟩
       refine uB 22 rfl (zg2 zaS ziP) ?_;refine uF 24 ?_;refine zK (uY 1 ?_)
       refine ⟨uE,?_⟩
       refine uAz ?_;refine ⟨(b3,⟨k7,[],k9,k11,k13,y15,(tm4.take y19.toNat),[],k22,t24,y27⟩,a24+1),?_,⟨rfl,trivial⟩,uK,?_⟩
       ·exact ⟨⟨hk7,hk9,hk11,hk13,⟨by dsimp only;simp [tm4];simp at hy19;omega,by dsimp only;simp [tm4];simp at hy19;omega⟩,hk22,ht24,by simp at hy27;dsimp only;omega,zeh (by simp at hy19;omega)⟩,uD⟩
       ·exact uP
     ·skip
      refine zq rfl (zj zaS rfl fun b3=> ?_)
      refine ⟨uE,?_⟩
      refine uF 7 ?_;refine zq rfl (uCx 1 zmB rfl rfl (zaX uS) ?_)
      rintro _ _ ⟨k13,a13,rfl,hk13,hn13,ha13,rfl⟩;refine ⟨uE,?_⟩
      refine uF 9 ?_;refine zq rfl (uCx 0 zmC rfl rfl (zaF uS) ?_)
      rintro _ _ ⟨y15,rfl,rfl⟩;refine ⟨uE,?_⟩
      refine uF 13 ?_;refine zq rfl (uCx 0 zaI rfl rfl (zd (L:=[_,_,_]) uS uS uS) ?_)
      rintro _ _ ⟨y19,rfl,hy19,rfl⟩;refine ⟨uE,?_⟩
      refine uB 14 rfl (zaL (es:=tm4) (f:=HVal.str) (h:=y19.toNat) zk ty9 rfl rfl ⟨_,_,rfl,by simp at hy19;omega⟩ uO (by simp [tm4];simp at hy19;omega)) ?_;refine uF 16 ?_;refine zq rfl (uCx 0 zjb rfl rfl (zaz uS) ?_)
      rintro _ _ ⟨k22,a22,rfl,hk22,ha22,rfl⟩;refine ⟨uE,?_⟩
      refine uF 18 ?_;refine zq rfl (uCx 0 zhM rfl rfl (zak uS) ?_)
      rintro _ _ ⟨t24,a24,rfl,ht24,ha24,rfl⟩;refine ⟨uE,?_⟩
      refine uF 21 ?_;refine zq rfl (uCx 0 zaI rfl rfl (zd (L:=[_,_,_]) uS uS uS) ?_)
      rintro _ _ ⟨y27,rfl,hy27,rfl⟩;refine ⟨uE,?_⟩
      refine uB 22 rfl (zg2 zaS ziP) ?_;refine uF 24 ?_;refine zK (uY 1 ?_)
      refine ⟨uE,?_⟩
      refine uAz ?_;refine ⟨(b3,⟨k7,[],k9,k11,k13,y15,(tm4.take y19.toNat),[],k22,t24,y27⟩,a24+1),?_,⟨rfl,trivial⟩,uK,?_⟩
      ·exact ⟨⟨hk7,hk9,hk11,hk13,⟨by dsimp only;simp [tm4];simp at hy19;omega,by dsimp only;simp [tm4];simp at hy19;omega⟩,hk22,ht24,by simp at hy27;dsimp only;omega,zeh (by simp at hy19;omega)⟩,uD⟩
      ·exact uP
    ·skip
     refine zq rfl (zj zaS rfl fun b3=> ?_)
     refine ⟨uE,?_⟩
     refine uF 5 ?_;refine zq rfl (uCx 1 zqF rfl rfl (zbk uS) ?_)
     rintro _ _ ⟨k11,a11,rfl,hk11,ha11,rfl⟩;refine ⟨uE,?_⟩
     refine uF 7 ?_;refine zq rfl (uCx 0 zmB rfl rfl (zaX uS) ?_)
     rintro _ _ ⟨k13,a13,rfl,hk13,hn13,ha13,rfl⟩;refine ⟨uE,?_⟩
     refine uF 9 ?_;refine zq rfl (uCx 0 zmC rfl rfl (zaF uS) ?_)
     rintro _ _ ⟨y15,rfl,rfl⟩;refine ⟨uE,?_⟩
     refine uF 13 ?_;refine zq rfl (uCx 0 zaI rfl rfl (zd (L:=[_,_,_]) uS uS uS) ?_)
     rintro _ _ ⟨y19,rfl,hy19,rfl⟩;refine ⟨uE,?_⟩
     refine uB 14 rfl (zaL (es:=tm4) (f:=HVal.str) (h:=y19.toNat) zk ty9 rfl rfl ⟨_,_,rfl,by simp at hy19;omega⟩ uO (by simp [tm4];simp at hy19;omega)) ?_;refine uF 16 ?_;refine zq rfl (uCx 0 zjb rfl rfl (zaz uS) ?_)
     rintro _ _ ⟨k22,a22,rfl,hk22,ha22,rfl⟩;refine ⟨uE,?_⟩
     refine uF 18 ?_;refine zq rfl (uCx 0 zhM rfl rfl (zak uS) ?_)
     rintro _ _ ⟨t24,a24,rfl,ht24,ha24,rfl⟩;refine ⟨uE,?_⟩
     refine uF 21 ?_;refine zq rfl (uCx 0 zaI rfl rfl (zd (L:=[_,_,_]) uS uS uS) ?_)
     rintro _ _ ⟨y27,rfl,hy27,rfl⟩;refine ⟨uE,?_⟩
     refine uB 22 rfl (zg2 zaS ziP) ?_;refine uF 24 ?_;refine zK (uY 1 ?_)
     refine ⟨uE,?_⟩
     refine uAz ?_;refine ⟨(b3,⟨k7,[],k9,k11,k13,y15,(tm4.take y19.toNat),[],k22,t24,y27⟩,a24+1),?_,⟨rfl,trivial⟩,uK,?_⟩
     ·exact ⟨⟨hk7,hk9,hk11,hk13,⟨by dsimp only;simp [tm4];simp at hy19;omega,by dsimp only;simp [tm4];simp at hy19;omega⟩,hk22,ht24,by simp at hy27;dsimp only;omega,zeh (by simp at hy19;omega)⟩,uD⟩
     ·exact uP
   ·skip
    refine zq rfl (zj zaS rfl fun b3=> ?_)
    refine ⟨uE,?_⟩
    refine uF 3 ?_;refine zq rfl (uCx 1 ztg rfl rfl (zco uS) ?_)
    rintro _ _ ⟨k9,a9,rfl,hk9,ha9,rfl⟩;refine ⟨uE,?_⟩
    refine uF 5 ?_;refine zq rfl (uCx 0 zqF rfl rfl (zbk uS) ?_)
    rintro _ _ ⟨k11,a11,rfl,hk11,ha11,rfl⟩;refine ⟨uE,?_⟩
    refine uF 7 ?_;refine zq rfl (uCx 0 zmB rfl rfl (zaX uS) ?_)
    rintro _ _ ⟨k13,a13,rfl,hk13,hn13,ha13,rfl⟩;refine ⟨uE,?_⟩
    refine uF 9 ?_;refine zq rfl (uCx 0 zmC rfl rfl (zaF uS) ?_)
    rintro _ _ ⟨y15,rfl,rfl⟩;refine ⟨uE,?_⟩
    refine uF 13 ?_;refine zq rfl (uCx 0 zaI rfl rfl (zd (L:=[_,_,_]) uS uS uS) ?_)
    rintro _ _ ⟨y19,rfl,hy19,rfl⟩;refine ⟨uE,?_⟩
    refine uB 14 rfl (zaL (es:=tm4) (f:=HVal.str) (h:=y19.toNat) zk ty9 rfl rfl ⟨_,_,rfl,by simp at hy19;omega⟩ uO (by simp [tm4];simp at hy19;omega)) ?_;refine uF 16 ?_;refine zq rfl (uCx 0 zjb rfl rfl (zaz uS) ?_)
    rintro _ _ ⟨k22,a22,rfl,hk22,ha22,rfl⟩;refine ⟨uE,?_⟩
    refine uF 18 ?_;refine zq rfl (uCx 0 zhM rfl rfl (zak uS) ?_)
    rintro _ _ ⟨t24,a24,rfl,ht24,ha24,rfl⟩;refine ⟨uE,?_⟩
    refine uF 21 ?_;refine zq rfl (uCx 0 zaI rfl rfl (zd (L:=[_,_,_]) uS uS uS) ?_)
    rintro _ _ ⟨y27,rfl,hy27,rfl⟩;refine ⟨uE,?_⟩
    refine uB 22 rfl (zg2 zaS ziP) ?_;refine uF 24 ?_;refine zK (uY 1 ?_)
    refine ⟨uE,?_⟩
    refine uAz ?_;refine ⟨(b3,⟨k7,[],k9,k11,k13,y15,(tm4.take y19.toNat),[],k22,t24,y27⟩,a24+1),?_,⟨rfl,trivial⟩,uK,?_⟩
    ·exact ⟨⟨hk7,hk9,hk11,hk13,⟨by dsimp only;simp [tm4];simp at hy19;omega,by dsimp only;simp [tm4];simp at hy19;omega⟩,hk22,ht24,by simp at hy27;dsimp only;omega,zeh (by simp at hy19;omega)⟩,uD⟩
    ·exact uP
  ·skip
   refine zq rfl (zj zaS rfl fun b3=> ?_)
   refine ⟨uE,?_⟩
   refine uF 1 ?_;refine zq rfl (uCx 2 zwt rfl rfl (zde uS) ?_)
   rintro _ _ ⟨k7,a7,rfl,hk7,ha7,rfl⟩;refine ⟨uE,?_⟩
   refine uF 3 ?_;refine zq rfl (uCx 0 ztg rfl rfl (zco uS) ?_)
   rintro _ _ ⟨k9,a9,rfl,hk9,ha9,rfl⟩;refine ⟨uE,?_⟩
   refine uF 5 ?_;refine zq rfl (uCx 0 zqF rfl rfl (zbk uS) ?_)
   rintro _ _ ⟨k11,a11,rfl,hk11,ha11,rfl⟩;refine ⟨uE,?_⟩
   refine uF 7 ?_;refine zq rfl (uCx 0 zmB rfl rfl (zaX uS) ?_)
   rintro _ _ ⟨k13,a13,rfl,hk13,hn13,ha13,rfl⟩;refine ⟨uE,?_⟩
   refine uF 9 ?_;refine zq rfl (uCx 0 zmC rfl rfl (zaF uS) ?_)
   rintro _ _ ⟨y15,rfl,rfl⟩;refine ⟨uE,?_⟩
   refine uF 13 ?_;refine zq rfl (uCx 0 zaI rfl rfl (zd (L:=[_,_,_]) uS uS uS) ?_)
   rintro _ _ ⟨y19,rfl,hy19,rfl⟩;refine ⟨uE,?_⟩
   refine uB 14 rfl (zaL (es:=tm4) (f:=HVal.str) (h:=y19.toNat) zk ty9 rfl rfl ⟨_,_,rfl,by simp at hy19;omega⟩ uO (by simp [tm4];simp at hy19;omega)) ?_;refine uF 16 ?_;refine zq rfl (uCx 0 zjb rfl rfl (zaz uS) ?_)
   rintro _ _ ⟨k22,a22,rfl,hk22,ha22,rfl⟩;refine ⟨uE,?_⟩
   refine uF 18 ?_;refine zq rfl (uCx 0 zhM rfl rfl (zak uS) ?_)
   rintro _ _ ⟨t24,a24,rfl,ht24,ha24,rfl⟩;refine ⟨uE,?_⟩
   refine uF 21 ?_;refine zq rfl (uCx 0 zaI rfl rfl (zd (L:=[_,_,_]) uS uS uS) ?_)
   rintro _ _ ⟨y27,rfl,hy27,rfl⟩;refine ⟨uE,?_⟩
   refine uB 22 rfl (zg2 zaS ziP) ?_;refine uF 24 ?_;refine zK (uY 1 ?_)
   refine ⟨uE,?_⟩
   refine uAz ?_;refine ⟨(b3,⟨k7,[],k9,k11,k13,y15,(tm4.take y19.toNat),[],k22,t24,y27⟩,a24+1),?_,⟨rfl,trivial⟩,uK,?_⟩
   ·exact ⟨⟨hk7,hk9,hk11,hk13,⟨by dsimp only;simp [tm4];simp at hy19;omega,by dsimp only;simp [tm4];simp at hy19;omega⟩,hk22,ht24,by simp at hy27;dsimp only;omega,zeh (by simp at hy19;omega)⟩,uD⟩
   ·exact uP
 ·intro q hq0
  obtain ⟨b3,⟨k7,kst,k9,k11,k13,y15,T,kga,k22,t24,y27⟩,a27⟩:=q;obtain ⟨⟨hk7,hk9,hk11,hk13,htl,hk22,ht24,hst,htt⟩,ha27⟩:=hq0;dsimp only at hk7 hk9 hk11 hk13 htl hk22 ht24 hst htt ha27⊢;have hp5:=hk7.len;have htr:t24.length<=100/\∀s∈t24,Sh s:=⟨by have:=ht24.len;omega,ht24.all⟩
  refine gz3 ?_;refine de rfl (uZ 0 ?_)
  refine de rfl (uCx 2 zyY rfl rfl (zg8 (a:=a27) (L:=k7) uO uO) ?_)
  rintro _ _ ⟨k32,a32,rfl,hk32,ha32,rfl⟩;refine gz1 ?_;refine de0 (uY 1 ?_)
  refine gz4 ?_;refine de rfl (uZ 1 ?_)
  refine de rfl (zaQ (M1:=[]) (R:=[_,_,_]) zyZ rfl (WeakL.refl _) (Ab _) (zjG (T:=T) htl) ?_)
  rintro _ _ ⟨k36,rfl,hk36,rfl⟩;refine gz3 ?_;have hl36:=hk36.len;have hg36:=hk36.all;refine zf (zM 8) ?_;refine gz1 ?_;refine uV2 [5,1,38,14] (fun (k:Nat) (q:GL GameS)=>[(38,.int .i64 k)]) (fun (k:Nat) (q:GL GameS)=>[St b l q.a,.cells b2 zsb,.cells b3 (lgC k7 (zcy k32) k9 k11 k13 y15 T (.raw q.u) k22 t24 y27),.arr q.u 8 (q.out.map zaJ)]) (fun (k:Nat) (q:GL GameS)=>k<=k36.length/\(GLok GamB k (a32+k) q)) (fun (k:Nat) (q:GL GameS)=>k36.length-k) (0) (⟨.slice none 0 0,[],a32⟩) ?_ ?_ ?_ ?_
  ·exact ⟨Ad _,⟨by simp,by simp,uD⟩⟩
  ·exact ⟨rfl,trivial⟩
  ·exact uP
  ·intro k q hinv
   obtain ⟨hk,hq⟩:=hinv;obtain ⟨u,out,a2⟩:=q;obtain ⟨g1,g2,g3⟩:=id hq;dsimp only at g1 g2 g3;refine gz4 ?_;refine uCo (fun h1=> ?_) fun h2=> ?_
   ·obtain ⟨x,hx⟩: ∃x,k36[k]? =some x:=⟨_,Aa h1⟩
    have hdx:=zg hx;refine gz7 ?_;refine de rfl (zj zbO rfl fun b5=> ?_)
    refine de0 (uY 0 ?_)
    refine gz3 ?_;refine de rfl (uCx 1 zdz rfl rfl (zB uS uS) ?_)
    rintro _ _ ⟨y43,rfl,rfl⟩;refine gz2 ?_;refine uCo (fun h3=> ?_) fun h4=> ?_
    ·refine gz2 ?_;refine de rfl (uZ 3 ?_)
     refine de rfl (zhg (i:=1) (h:=zaJ x) zbO rfl rfl rfl rfl rfl ?_)
     refine dq (za (hs:=[_]) zeX zbO rfl rfl (by decide) (by decide) rfl) ?_;refine de rfl (zO (i:=4) zeX zbO rfl rfl rfl rfl rfl (by simp [zax,zb,zay,zaO]) uSo fun v49=> ?_)
     refine gz1 ?_;refine de0 (uY 3 ?_)
     refine gz3 ?_;refine zf (zcz 5 (i:=1) rfl rfl) ?_;refine gz4 ?_;exact ⟨k+1,⟨v49,out++[x],a2+1⟩,⟨by omega,hq.add (x:=x) (hg36 x (Ac hx)) uO⟩,uD,⟨rfl,trivial⟩,uK,zu (by dsimp only;rw [AB];rfl)⟩
    ·refine gz3 ?_;refine zf (zcz 5 (i:=1) rfl rfl) ?_;refine gz4 ?_;exact ⟨k+1,⟨u,out,a2+1⟩,⟨by omega,hq.same uO⟩,uD,⟨rfl,trivial⟩,uK,zu rfl⟩
   ·have hnk:k36.length<=k:=by omega
    obtain rfl:k=k36.length:=by omega
    refine gz2 ?_;refine zL ?_;refine gz4 ?_;refine de rfl (uZ 2 ?_)
    refine de rfl (uCx 3 zwu rfl rfl (zlS (l:=out) g2 uO) ?_)
    rintro _ _ ⟨Z,rfl,hz1,hz2,rfl⟩;have hzl:=hz1.length_eq;refine gz1 ?_;have hgz:Z.length<=6/\∀x∈Z,GamB x:=⟨by omega,fun x hx=>g2 x (hz1.mem_iff.1 hx)⟩
    refine uVj [55,44] (fun (q5:LeagueS×Nat)=>[]) (fun (q5:LeagueS×Nat)=>[St b l q5.2,.cells b2 zsb,.cells b3 (lgC q5.1.Players (zcy q5.1.Stints) q5.1.Fixtures q5.1.Rules q5.1.Slots q5.1.Bounds q5.1.Teams (.raw u) q5.1.Breaks q5.1.Trust q5.1.Start),.arr u 8 (q5.1.Games.map zaJ)]) (fun (q5:LeagueS×Nat)=>LeaC q5.1/\q5.2<=a+500) ?_ ?_
    ·skip
     refine gz2 ?_;refine de rfl (uCx 1 zdz rfl rfl (zB uS uS) ?_)
     rintro _ _ ⟨y56,rfl,rfl⟩;refine gz1 ?_;refine uCo (fun h5=> ?_) fun h6=> ?_
     ·refine gz2 ?_;refine de rfl (uCx 0 zhw rfl rfl (zZ uS uS) ?_)
      rintro _ _ ⟨y58,rfl,hy58,rfl⟩;refine gz6 ?_;refine uCo (fun h7=> ?_) fun h8=> ?_
      ·refine gz2 ?_;refine dq (za (hs:=[_,_,_]) z6 ty3 rfl rfl (by decide) (by decide) rfl) ?_;refine de rfl (uCx 0 zaI rfl rfl (zd (L:=[_,_,_]) uS uS uS) ?_)
       rintro _ _ ⟨y81,rfl,hy81,rfl⟩;refine gz1 ?_;refine de0 (uY 3 ?_)
       refine gz2 ?_;exact ⟨((⟨k7,k32,k9,k11,k13,y15,T,Z,k22,t24,y81⟩:LeagueS),a2+3),⟨zil (h1:=hk7) (h2:=by dsimp only;omega) (h3:=by dsimp only;omega) (h4:=hk11) (h5:=hk13.up) (h6:=by dsimp only;omega) (h7:=hgz) (h8:=by dsimp only;omega) (h9:=htr) (h10:=by simp at hy81;dsimp only;omega) (h11:=htt),uD⟩,trivial,uK,uP⟩
      ·refine gz4 ?_;refine uCo (fun h9=> ?_) fun h10=> ?_
       ·refine gz2 ?_;refine de rfl (uZ 3 ?_)
        refine de rfl (uCa zkH rfl (zad uO) fun v87=> ?_)
        refine gz1 ?_;refine dq (za (hs:=[_,_]) zk ty9 rfl rfl (by decide) (by decide) rfl) ?_;refine de rfl (uCx 1 ca7 rfl rfl (zi (L:=[_,_]) uS uS uS) ?_)
        rintro _ _ ⟨y90,rfl,hy90,rfl⟩;refine dq (za (hs:=[_]) zk ty9 rfl rfl (by decide) (by decide) rfl) ?_;refine de rfl (zjW (N:=[St b l (a2+3),.arr u 8 (Z.map zaJ),.cells b2 zsb,.cells b3 (lgC k7 (zcy k32) k9 k11 k13 y15 T (.raw u) k22 t24 y27)]) (sz:=1) (es:=(T++[y90]).map .str) 1 (zO (i:=1) zk ty9 rfl rfl rfl rfl rfl (by simp [zax,zb]) uSo fun v=>⟨v,rfl,by simp,rfl⟩) ?_)
        refine gz1 ?_;refine de0 (uY 3 ?_)
        refine gz2 ?_;exact ⟨((⟨k7,k32,k9,k11,k13,y15,T++[y90],Z,k22,t24,y27⟩:LeagueS),a2+3),⟨zil (h1:=hk7) (h2:=by dsimp only;omega) (h3:=by dsimp only;omega) (h4:=hk11) (h5:=hk13.up) (h6:=by dsimp only;rw [AA];simp only [Ai,AG];omega) (h7:=hgz) (h8:=by dsimp only;omega) (h9:=htr) (h10:=hst) (h11:=htt.app _),uD⟩,trivial,uK,uP⟩
       ·refine gz4 ?_;refine uCo (fun h11=> ?_) fun h12=> ?_
        ·refine gz2 ?_;refine de rfl (uCx 0 zy0 rfl rfl (ziu uS) ?_)
         rintro _ _ ⟨k97,a97,rfl,hk97,ha97,rfl⟩;refine gz1 ?_;refine de0 (uY 3 ?_)
         refine gz2 ?_;exact ⟨((⟨k7,k32,k9,k11,k97,y15,T,Z,k22,t24,y27⟩:LeagueS),a97),⟨zil (h1:=hk7) (h2:=by dsimp only;omega) (h3:=by dsimp only;omega) (h4:=hk11) (h5:=hk97) (h6:=by dsimp only;omega) (h7:=hgz) (h8:=by dsimp only;omega) (h9:=htr) (h10:=hst) (h11:=htt),by dsimp only at ha97⊢;omega⟩,trivial,uK,uP⟩
        ·refine gz2 ?_;refine de rfl (uZ 3 ?_)
         refine de rfl (za7 (i:=1) zeX rfl rfl ?_)
         refine gz2 ?_;refine uCo (fun h13=> ?_) fun h14=> ?_
         ·have hz0:0<Z.length:=by first|assumption|omega|simp_all
          obtain ⟨x0,hx0⟩: ∃x,Z[0]? =some x:=⟨_,Aa hz0⟩
          refine zcZ (i:=1) rfl (fun h0 he=> ?_) (fun ob off cap hv hcap=> ?_)
          ·exfalso;have:=congrArg List.length he;simp at this;subst this;simp at hz0
          subst hv;refine za1 (fun M=> ∃i:Nat,M[i]? =some (.cells b3 (lgC k7 (zcy k32) k9 k11 k13 y15 T (.raw (.slice (some ⟨ob,off,none⟩) (Z.map zaJ).length cap)) k22 t24 y27))) [1,3,5] mixed ?_;refine gz1 ?_;refine uM 1 rfl (⟨3,rfl⟩) (fun M hM=>by obtain ⟨i,hi⟩:=hM;exact z8 (i:=i) zeX rfl hi (.inl ⟨rfl,rfl⟩) ⟨rfl,rfl⟩) ?_;refine gz1 ?_;refine uM 3 rfl (⟨3,rfl⟩) (fun M hM=>by obtain ⟨i,hi⟩:=hM;exact z8 (i:=i) zeX rfl hi (.inl ⟨rfl,rfl⟩) ⟨rfl,rfl⟩) ?_;refine gz1 ?_;refine uM 5 rfl (⟨3,rfl⟩) (fun M hM=>by obtain ⟨i,hi⟩:=hM;exact z8 (i:=i) zeX rfl hi (.inl ⟨rfl,rfl⟩) ⟨rfl,rfl⟩) ?_;refine uB 6 rfl (zI (cs:=[_,_]) za9 zkW rfl) ?_;refine uB 7 rfl (zI (cs:=[_,_]) za9 zkW rfl) ?_;refine uB 8 rfl (zy (j:=0) zeX zbO rfl rfl rfl uSo) ?_;refine gz1 ?_;refine uF 10 ?_;refine zK (zR (i:=1) (j:=0) (f:=3) (y:=zaJ x0) (y':=zaJ (⟨x0.Week,x0.Home,x0.Away,true,x0.FNum,x0.FDen,x0.ONum,x0.ODen⟩:GameS)) ty4 rfl uO rfl rfl (za2 hx0) rfl rfl (by simp [zb]) rfl ?_)
          refine ⟨fun _=> .inl ⟨3,rfl⟩,?_⟩
          refine uB 11 rfl (zy (j:=0) zeX zbO rfl rfl rfl uSo) ?_;refine gz1 ?_;refine uF 13 ?_;refine zK (zR (i:=1) (j:=0) (f:=4) (y:=zaJ (⟨x0.Week,x0.Home,x0.Away,true,x0.FNum,x0.FDen,x0.ONum,x0.ODen⟩:GameS)) (y':=zaJ (⟨x0.Week,x0.Home,x0.Away,true,1,1,x0.ONum,x0.ODen⟩:GameS)) za9 rfl uO rfl rfl (zaD (za2 hx0)) rfl rfl (by simp [zb]) rfl ?_)
          refine ⟨fun _=> .inl ⟨3,rfl⟩,?_⟩
          refine uB 14 rfl (zy (j:=0) zeX zbO rfl rfl rfl uSo) ?_;refine gz1 ?_;refine uF 16 ?_;refine zK (zR (i:=1) (j:=0) (f:=6) (y:=zaJ (⟨x0.Week,x0.Home,x0.Away,true,1,1,x0.ONum,x0.ODen⟩:GameS)) (y':=zaJ (⟨x0.Week,x0.Home,x0.Away,true,1,1,1,1⟩:GameS)) za9 rfl uO rfl rfl (zaD (zaD (za2 hx0))) rfl rfl (by simp [zb]) rfl ?_)
          refine ⟨fun _=> .inl ⟨3,rfl⟩,?_⟩
          refine gz2 ?_;exact ⟨((⟨k7,k32,k9,k11,k13,y15,T,Z.set 0 (⟨x0.Week,x0.Home,x0.Away,true,1,1,1,1⟩:GameS),k22,t24,y27⟩:LeagueS),a2+2),⟨zil (h1:=hk7) (h2:=by dsimp only;omega) (h3:=by dsimp only;omega) (h4:=hk11) (h5:=hk13.up) (h6:=by dsimp only;omega) (h7:=⟨by dsimp only;rw [List.length_set];omega,zei (P:=GamB) hgz.2 ⟨(hgz.2 x0 (Ac hx0)).week,uD,uD⟩⟩) (h8:=by dsimp only;omega) (h9:=htr) (h10:=hst) (h11:=htt),uD⟩,trivial,uK,uP⟩
         ·refine gz2 ?_;exact ⟨((⟨k7,k32,k9,k11,k13,y15,T,Z,k22,t24,y27⟩:LeagueS),a2+2),⟨zil (h1:=hk7) (h2:=by dsimp only;omega) (h3:=by dsimp only;omega) (h4:=hk11) (h5:=hk13.up) (h6:=by dsimp only;omega) (h7:=hgz) (h8:=by dsimp only;omega) (h9:=htr) (h10:=hst) (h11:=htt),uD⟩,trivial,uK,uP⟩
     ·refine gz1 ?_;exact ⟨((⟨k7,k32,k9,k11,k13,y15,T,Z,k22,t24,y27⟩:LeagueS),a2+1),⟨zil (h1:=hk7) (h2:=by dsimp only;omega) (h3:=by dsimp only;omega) (h4:=hk11) (h5:=hk13.up) (h6:=by dsimp only;omega) (h7:=hgz) (h8:=by dsimp only;omega) (h9:=htr) (h10:=hst) (h11:=htt),uD⟩,trivial,uK,uP⟩
    ·intro q5 hq5
     obtain ⟨g5,a5⟩:=q5;obtain ⟨hg5,ha5⟩:=hq5;dsimp only at hg5 ha5;refine zf (zgX (i:=3) (k:=2) (j:=10) rfl rfl rfl) ?_;refine zf (Ghost.perm (M':=[.cells b2 zsb,St b l a5,.cells b3 (zb (zej g5))]) uP) ?_;refine gz1 ?_;refine de rfl (zhg (i:=2) (h:=zej g5) zaS rfl rfl rfl rfl rfl ?_)
     refine de0 (zo (h:=zej g5) zaS rfl rfl rfl rfl rfl ?_)
     refine gz2 ?_;exact ⟨_,_,(zp 2 rfl).trans ((Ghost.perm (List.Perm.swap _ _ _)).trans Ghost.drop),[_],_,⟨⟨_,_,_,_,_,rfl,zaS,.inr ⟨rfl,rfl,rfl⟩⟩,trivial⟩,Weak.refl _,g5,a5,rfl,hg5,ha5,rfl⟩
end
section
open Go.HL
set_option linter.unusedSimpArgs false
end
section
open Go.Proofs.Tryz
open Go.HL
theorem zja [Tracks] {A X C:List MvS} {ia ib:Int} {n b off cap:Nat} {fid:FuncId} {caps:List HVal} {c:MvS->MvS->Int} (hca:Callable prog fid) (hp: ∀x y,ConP prog fid ([zcB x,zcB y]++caps) (.int .i64 (c x y))) (hn:A.length+X.length+C.length=n) (hia:ia=(A.length:Int)) (hib:ib=(A.length:Int)+X.length) (hl:n<=1000000):Con prog 199 [.raw (.slice (some ⟨b,off,none⟩) n cap),.int .i64 ia,.int .i64 ib,.fn (.func fid) [] caps] [.arr (.slice (some ⟨b,off,none⟩) n cap) 4 ((A++X++C).map zcB)] (fun x M'=>x= .tup []/\M'=[.arr (.slice (some ⟨b,off,none⟩) n cap) 4 ((A++zal c X++C).map zcB)]):=by
 refine uOb func199 ntmps199 ?_;refine gz6 ?_;refine uV1 [8,2,12,41] (fun (k:Nat)=>[(8,.int .i64 ((A.length+k:Nat):Int))]) (fun (k:Nat)=>[.arr (.slice (some ⟨b,off,none⟩) n cap) 4 ((A++(zal c (X.take k)++X.drop k)++C).map zcB)]) (fun (k:Nat)=>1<=k) (fun (k:Nat)=>X.length-k) (1) ?_ ?_ ?_ ?_;exact Ae _;exact ⟨zN uO,trivial⟩;exact zu (by rw [zjS])
 intro k hk
 refine gz6 ?_;refine uCo (fun h1=> ?_) fun h2=> ?_
 obtain ⟨x,hx⟩: ∃x,X[k]? =some x:=⟨_,Aa uO⟩
 refine gz9 ?_;refine uV2 [9,1,18,35] (fun (D:List MvS) (B:List MvS)=>[(9,.int .i64 ((A.length+D.length:Nat):Int))]) (fun (D:List MvS) (B:List MvS)=>[.arr (.slice (some ⟨b,off,none⟩) n cap) 4 (((A++D)++x::(B++X.drop (k+1)++C)).map zcB)]) (fun (D:List MvS) (B:List MvS)=>D.length+B.length=k/\zcM c x (zal c (X.take k))=zcM c x D++B) (fun (D:List MvS) (B:List MvS)=>D.length) (zal c (X.take k)) ([]) ?_ ?_ ?_ ?_;exact ⟨by simp [zbp];omega,by simp⟩;exact ⟨zN (by simp [zbp];omega),trivial⟩;exact zu (by rw [zg hx];simp)
 intro D B hinv
 obtain ⟨hA,hB⟩:=hinv;have hlA:D.length<X.length:=by omega
 refine gz1 ?_;refine zbx (fun M=>M=[.arr (.slice (some ⟨b,off,none⟩) n cap) 4 (((A++D)++x::(B++X.drop (k+1)++C)).map zcB)]) [8,13] mixed ?_;refine gz7 ?_;refine ahg 7 rfl rfl (by kernel_rfl) (by kernel_rfl) rfl (fun hc=>by
  have hq:0<D.length:=by simp at hc;omega
  exact ⟨_,OpenTo.upd (t:=24) rfl (hc) (OpenTo.upd (t:=23) rfl (hc) (OpenTo.refl _)),zy (j:=(A++D).length) zbB zz rfl rfl (by simp) uSo⟩) ?_
 refine zoQ 8 rfl rfl (by kernel_rfl) (by kernel_rfl) (by simp) rfl rfl (fun hc=>⟨_,OpenTo.upd (t:=25) rfl (hc) (OpenTo.refl _),fun M hM=>by
  subst hM;exact zV (i:=0) (j:=(A++D).length) zz rfl rfl rfl zfc rfl rfl rfl ⟨rfl,rfl⟩
  ⟩) ?_
 refine gz2 ?_;refine ahg 11 rfl rfl (by kernel_rfl) (by kernel_rfl) rfl (fun hc=>by
  have hq:0<D.length:=by simp at hc;omega
  exact ⟨_,OpenTo.upd (t:=28) rfl (hc) (OpenTo.refl _),zeU rfl rfl uO uO⟩) ?_
 refine ahg 12 rfl rfl (by kernel_rfl) (by kernel_rfl) rfl (fun hc=>by
  have hq:0<D.length:=by simp at hc;omega
  exact ⟨_,OpenTo.upd (t:=29) rfl (hc) (OpenTo.upd (t:=27) rfl (hc) (OpenTo.refl _)),zy (j:=(A++D).length-1) zbB zz rfl rfl uSo uSo⟩) ?_
 refine zoQ 13 rfl rfl (by kernel_rfl) (by kernel_rfl) (by simp) rfl rfl (fun hc=>⟨_,OpenTo.upd (t:=30) rfl (hc) (OpenTo.refl _),fun M hM=>by
  have hq:0<D.length:=by simp at hc;omega
  subst hM;exact zV (i:=0) (j:=(A++D).length-1) zz rfl rfl rfl (zgf uSo) rfl rfl rfl ⟨rfl,rfl⟩
  ⟩) ?_
 refine uGy 14 rfl rfl (fun hc=>zaw hca rfl rfl (WeakL.refl _) (hp _ _)) ?_;refine gz3 ?_;refine uCo (fun h3=> ?_) fun h4=> ?_
 obtain ⟨hA0,hcx⟩:=h3;obtain ⟨D1,y,rfl⟩:=zmP (A:=D) uO;rw [zrA] at hcx;have hD1:(D1++[y]).length=D1.length+1:=by simp
 refine gz4 ?_;refine za1 (fun M=>M=[.arr (.slice (some ⟨b,off,none⟩) n cap) 4 (((A++(D1++[y]))++x::(B++X.drop (k+1)++C)).map zcB)]) [9,13] mixed ?_;refine gz8 ?_;refine uB 8 rfl (zy (j:=(A++(D1++[y])).length-1) zbB zz rfl rfl uSo uSo) ?_;refine uM 9 rfl rfl (uW (zV (i:=0) (j:=(A++(D1++[y])).length-1) zz rfl rfl rfl (zkT) rfl rfl rfl ⟨rfl,rfl⟩)) ?_;refine gz2 ?_;refine uB 12 rfl (zy (j:=(A++(D1++[y])).length) zbB zz rfl rfl (by simp) uSo) ?_;refine uM 13 rfl rfl (uW (zV (i:=0) (j:=(A++(D1++[y])).length) zz rfl rfl rfl zfc rfl rfl rfl ⟨rfl,rfl⟩)) ?_;refine uB 14 rfl (zy (j:=(A++(D1++[y])).length) zbB zz rfl rfl (by simp) uSo) ?_;refine uF 15 ?_;refine zK (zaT (i:=0) (j:=(A++(D1++[y])).length) (y:=x) (y':=y) zz rfl rfl rfl rfl zfc rfl rfl rfl ?_)
 refine ⟨uE,?_⟩
 refine uB 16 rfl (zy (j:=(A++(D1++[y])).length-1) zbB zz rfl rfl uSo uSo) ?_;refine uF 17 ?_;refine zK (zaT (i:=0) (j:=(A++(D1++[y])).length-1) (y:=y) (y':=x) zz rfl rfl rfl rfl (by rw [A2 (by simp)];exact zkT) rfl rfl rfl ?_)
 refine ⟨uE,?_⟩
 refine gz8 ?_;exact ⟨D1,y::B,⟨by simp at hA⊢;omega,znw hB hcx⟩,uD,⟨zN uO,trivial⟩,uK,zu (by rw [<-AT,znD];simp)⟩;have hins:=znv (l:=X) (k:=k) hx hB (by intro h0;have h9:=h4 uO;rw [zmg h0] at h9;omega);refine gz2 ?_;refine zL ?_;refine gz8 ?_;exact ⟨k+1,by omega,uD,⟨zN uO,trivial⟩,uK,zu (by rw [zsM hins])⟩;have hend:zal c (X.take k)++X.drop k=zal c X:=by rw [Bm uO,zH uO];simp
 refine gz2 ?_;refine zt ?_;refine gz1 ?_;exact z7 rfl ⟨rfl,by rw [hend]⟩
theorem zm4 [Tracks] {l:List MvS} {n0:Int} {n b off cap:Nat} {fid:FuncId} {caps:List HVal} {c:MvS->MvS->Int} (hca:Callable prog fid) (hp: ∀x y,ConP prog fid ([zcB x,zcB y]++caps) (.int .i64 (c x y))) (hc:Cmp c fun _=>True) (hn:l.length=n) (hn0:n0=(n:Int)) (hl:n<=20):Con prog 115 [.raw (.slice (some ⟨b,off,none⟩) n cap),.int .i64 n0,.fn (.func fid) [] caps] [.arr (.slice (some ⟨b,off,none⟩) n cap) 4 ((l).map zcB)] (fun x M'=> ∃Z:List MvS,x= .tup []/\(Z.Perm l/\Srt c Z)/\M'=[.arr (.slice (some ⟨b,off,none⟩) n cap) 4 ((Z).map zcB)]):=by
 refine uOb func115 ntmps115 ?_;refine zan ?_;refine uV3 [7,2,11,12] (fun (a0:Nat) (k:Nat) (Z:List MvS)=>[(7,.int .i64 (a0:Int)),(8,.int .i64 ((a0+20:Nat):Int))]) (fun (a0:Nat) (k:Nat) (Z:List MvS)=>[.arr (.slice (some ⟨b,off,none⟩) n cap) 4 ((Z++l.drop a0).map zcB)]) (fun (a0:Nat) (k:Nat) (Z:List MvS)=>a0=20*k/\a0<=n/\Blk c 20 Z/\Z.length=a0/\Z.Perm (l.take a0)) (fun (a0:Nat) (k:Nat) (Z:List MvS)=>n-a0) (0) (0) ([]) ?_ ?_ ?_ ?_
 ·exact ⟨rfl,Ad _,Blk.nil,rfl,by simp⟩
 ·exact ⟨rfl,rfl,trivial⟩
 ·exact zu (by simp)
 ·intro a0 k Z hinv
  obtain ⟨ha0,ha1,hZ,hZl,hZp⟩:=hinv;refine gz6 ?_;refine uCo (fun h1=> ?_) fun h2=> ?_
  ·refine gz3 ?_;refine zf (zbG (M':=[.arr (.slice (some ⟨b,off,none⟩) n cap) 4 ((Z++(l.drop a0).take 20++l.drop (a0+20)).map zcB)]) (by rw [AT Z,<-win])) ?_;refine gz5 ?_;refine de rfl (uCx 0 ztm rfl rfl (zja (A:=Z) (X:=((l.drop a0).take 20)) (C:=(l.drop (a0+20))) (n:=n) hca hp (by first|omega|(simp;omega)) uO (by first|omega|(simp;omega)) uO) ?_)
   rintro _ _ ⟨rfl,rfl⟩;refine zdC ?_;exact ⟨a0+20,k+1,Z++zal c ((l.drop a0).take 20),⟨by omega,by omega,hZ.add (k:=k) uO (zji hc _) (by rw [zbp,AD];omega),by rw [AA,zbp,AD,Bd];omega,by rw [zqf];exact hZp.append (zbK c _)⟩,uD,⟨zN uO,zN uO,trivial⟩,uK,Ab _⟩
  ·refine gz2 ?_;refine zcF ?_;refine gz2 ?_;refine zf (zbG (M':=[.arr (.slice (some ⟨b,off,none⟩) n cap) 4 ((Z++l.drop a0++[]).map zcB)]) (by simp)) ?_;refine gz5 ?_;refine de rfl (uCx 0 ztm rfl rfl (zja (A:=Z) (X:=(l.drop a0)) (C:=[]) (n:=n) hca hp (by first|omega|(simp;omega)) uO (by first|omega|(simp;omega)) uO) ?_)
   rintro _ _ ⟨rfl,rfl⟩;refine gz2 ?_;refine uV2 [6,4,28,35] (fun (bs:Nat) (D:List MvS)=>[(6,.int .i64 (bs:Int))]) (fun (bs:Nat) (D:List MvS)=>[.arr (.slice (some ⟨b,off,none⟩) n cap) 4 ((D).map zcB)]) (fun (bs:Nat) (D:List MvS)=>20<=bs/\bs<=2*n+20/\Blk c bs D/\D.Perm l) (fun (bs:Nat) (D:List MvS)=>n-bs) (20) (Z++zal c (l.drop a0)) ?_ ?_ ?_ ?_
   ·refine ⟨Ae _,by omega,hZ.add (k:=k) uO (zji hc _) (by rw [zbp,Bd];omega),?_⟩
    have:=hZp.append (zbK c (l.drop a0))
    rwa [Bf] at this
   ·exact ⟨rfl,trivial⟩
   ·exact zu (by simp)
   ·intro bs D hinv
    obtain ⟨hb1,hb2,hD,hDp⟩:=hinv;have hDl:D.length=n:=by rw [hDp.length_eq];exact hn
    refine gz6 ?_;refine zaB rfl (fun h3=> ?_) (fun h3=> ?_)
    ·exfalso
     try simp at h3
     all_goals omega
    ·try simp at h3
     refine gz2 ?_;refine zL ?_;refine gz1 ?_;have hDs:=hD.all uO;exact z7 rfl ⟨D,rfl,⟨hDp,hDs⟩,rfl⟩
theorem znP [Tracks] {v:Value} {fid:FuncId} {caps:List HVal}:Con prog 199 [.raw v,.int .i64 0,.int .i64 0,.fn (.func fid) [] caps] [.arr v 4 []] (fun x M'=>x= .tup []/\M'=[.arr v 4 []]):=by
 refine uOb func199 ntmps199 ?_;refine gz6 ?_;refine uU1 [8,2,12,41] (fun (u:Unit)=>[(8,.int .i64 1)]) (fun (u:Unit)=>[.arr v 4 []]) (fun (u:Unit)=>True) (fun (u:Unit)=>0) (()) ?_ ?_
 ·trivial
 ·intro u hu
  refine gz6 ?_;refine zaB rfl (fun h1=> ?_) (fun h1=> ?_)
  ·exfalso
   try simp at h1
   all_goals omega
  ·try simp at h1
   refine gz2 ?_;refine zt ?_;refine gz1 ?_;exact z7 rfl ⟨rfl,rfl⟩
theorem zlU [Tracks] {v:Value} {fid:FuncId} {caps:List HVal}:Con prog 115 [.raw v,.int .i64 0,.fn (.func fid) [] caps] [.arr v 4 []] (fun x M'=>x= .tup []/\M'=[.arr v 4 []]):=by
 refine uOb func115 ntmps115 ?_;refine zan ?_;refine uU1 [7,2,11,12] (fun (u:Unit)=>[(7,.int .i64 0),(8,.int .i64 20)]) (fun (u:Unit)=>[.arr v 4 []]) (fun (u:Unit)=>True) (fun (u:Unit)=>0) (()) ?_ ?_
 ·trivial
 ·intro u hu
  refine gz6 ?_;refine zaB rfl (fun h1=> ?_) (fun h1=> ?_)
  ·exfalso
   try simp at h1
   all_goals omega
  ·try simp at h1
   refine gz2 ?_;refine zt ?_;refine gz7 ?_;refine de rfl (uCx 0 ztm rfl rfl znP ?_)
   rintro _ _ ⟨rfl,rfl⟩;refine gz2 ?_;refine uU1 [6,4,28,35] (fun (u:Unit)=>[(6,.int .i64 20)]) (fun (u:Unit)=>[.arr v 4 []]) (fun (u:Unit)=>True) (fun (u:Unit)=>0) (()) ?_ ?_
   ·trivial
   ·intro u hu
    refine gz6 ?_;refine zaB rfl (fun h2=> ?_) (fun h2=> ?_)
    ·exfalso
     try simp at h2
     all_goals omega
    ·try simp at h2
     refine gz2 ?_;refine zt ?_;refine gz1 ?_;exact z7 rfl ⟨rfl,rfl⟩
theorem zlq [Tracks] {fid:FuncId} {caps:List HVal}:Con prog 53 [.raw (.slice none 0 0),.fn (.func fid) [] caps] [.arr (.slice none 0 0) 4 []] (fun x M'=>x= .tup []/\M'=[.arr (.slice none 0 0) 4 []]):=by
 refine uOb func53 ntmps53 ?_;refine gz3 ?_;refine dq (zem zbB rfl) ?_;refine gz1 ?_;refine de rfl (uCx 0 zww rfl rfl zlU ?_)
 rintro _ _ ⟨rfl,rfl⟩;refine gz1 ?_;exact z7 rfl ⟨rfl,rfl⟩
theorem zlr [Tracks] {l:List MvS} {n b off cap:Nat} {fid:FuncId} {caps:List HVal} {c:MvS->MvS->Int} (hca:Callable prog fid) (hp: ∀x y,ConP prog fid ([zcB x,zcB y]++caps) (.int .i64 (c x y))) (hc:Cmp c fun _=>True) (hn:l.length=n) (hl:n<=20):Con prog 53 [.raw (.slice (some ⟨b,off,none⟩) n cap),.fn (.func fid) [] caps] [.arr (.slice (some ⟨b,off,none⟩) n cap) 4 ((l).map zcB)] (fun x M'=> ∃Z:List MvS,x= .tup []/\(Z.Perm l/\Srt c Z)/\M'=[.arr (.slice (some ⟨b,off,none⟩) n cap) 4 ((Z).map zcB)]):=by
 refine uOb func53 ntmps53 ?_;refine gz3 ?_;refine dq (zem zbB rfl) ?_;refine gz1 ?_;refine de rfl (uCx 0 zww rfl rfl (zm4 hca hp hc hn rfl hl) ?_)
 rintro _ _ ⟨Z,rfl,hz,rfl⟩;refine gz1 ?_;exact z7 rfl ⟨Z,rfl,hz,rfl⟩
theorem zlT [Tracks] {l:List MvS} {v:Value} {fid:FuncId} {caps:List HVal} {c:MvS->MvS->Int} (hca:Callable prog fid) (hp: ∀x y,ConP prog fid ([zcB x,zcB y]++caps) (.int .i64 (c x y))) (hc:Cmp c fun _=>True) (hl:l.length<=20):Con prog 53 [.raw v,.fn (.func fid) [] caps] [.arr v 4 (l.map zcB)] fun x M'=> ∃Z:List MvS,x= .tup []/\(Z.Perm l/\Srt c Z)/\M'=[.arr v 4 (Z.map zcB)]:=
 zrn (fun h1 h2=>by
  have h3:l=[]:=by first|exact List.map_eq_nil_iff.1 h2|simpa using h2
  subst h1 h3;exact zlq.mono fun x M' ⟨e1,e2⟩=>⟨[],e1,⟨Ab _,Srt.nil⟩,e2⟩)
  fun b off cap h1=>by
   rw [Ah] at h1;subst h1;exact zlr hca hp hc rfl hl
theorem znY [Tracks] {l:List MoveS} (hb: ∀x∈l,MovB x) (hl:l.length<=20) {v:Value}:
 Con prog 53 [.raw v,.fn (.func 54) [] []] [.arr v 4 (l.map zcx)] fun x M'=> ∃l':List MoveS,x= .tup []/\l'.Perm l/\M'=[.arr v 4 (l'.map zcx)]:=by
 have h:=zlT (l:=l.attachWith _ hb) (v:=v) (c:=zwr) (caps:=[]) ca54 (fun x y=>zfT (a:=x.1) (b:=y.1) x.2 y.2) zuo (by simpa using hl);rw [show ((l.attachWith _ hb).map zcB)=l.map zcx from znN hb zcx] at h;refine h.mono fun x M' ⟨l',e1,⟨hp,hw⟩,e2⟩=>⟨l'.map Subtype.val,e1,?_,?_⟩
 have h9:=hp.map Subtype.val;rw [zko hb] at h9;exact h9;rw [e2,AX];rfl
end
section
open Go.Proofs.Tryz
open Go.HL
theorem zit [Tracks] {b:Nat} {l:List Int} {a:Nat} (ha:a<=700000):Con prog 52 [pAt b] [St b l a] (fun x M'=> ∃k a',x=zcr k/\GoodMds k/\a'<=a+100/\M'=[St b l a']):=by
 refine uOb func52 ntmps52 ?_;refine gz6 ?_;refine zf (zM 7) ?_;refine gz2 ?_;refine dq (za (hs:=[_,_,_]) zk ty9 rfl rfl (by decide) (by decide) rfl) ?_;refine dq (zao (f:=HVal.str) (l:=mp3) zk rfl) ?_;refine gz3 ?_;refine uV2 [3,1,5,2,8,2,13,36] (fun (k:Nat) (q:GL MendS)=>[(13,.int .i64 k),(3,.raw q.u)]) (fun (k:Nat) (q:GL MendS)=>[St b l q.a,.arr q.u 7 (q.out.map zb1)]) (fun (k:Nat) (q:GL MendS)=>k<=mp3.length/\(GLok zfZ (8*k) (a+24*k) q)) (fun (k:Nat) (q:GL MendS)=>mp3.length-k) (0) (⟨.slice none 0 0,[],a⟩) ?_ ?_ ?_ ?_;exact ⟨by decide,⟨by simp,by simp,uD⟩⟩;exact ⟨rfl,rfl,trivial⟩;exact uP
 intro k q hinv
 obtain ⟨hk,hq⟩:=hinv;have hk3:mp3.length=3:=rfl;obtain ⟨u,out,a2⟩:=q;obtain ⟨g1,g2,g3⟩:=id hq;dsimp only at g1 g2 g3;refine gz4 ?_;refine uCo (fun h1=> ?_) fun h2=> ?_
 obtain ⟨x,hx⟩: ∃x,mp3[k]? =some x:=⟨_,Aa h1⟩
 have hdx:=zg hx;refine gz5 ?_;refine dq (zD (f:=HVal.str) (l:=mp3) (j:=k) (a:=x) zk ty9 rfl rfl rfl hx) ?_;refine gz7 ?_;refine uV2 [3,1,6,1,8,2,17,31] (fun (w:Nat) (q2:GL MendS)=>[(6,.int .i64 ((w:Int)+1)),(3,.raw q2.u)]) (fun (w:Nat) (q2:GL MendS)=>[St b l q2.a,.arr q2.u 7 (q2.out.map zb1)]) (fun (w:Nat) (q2:GL MendS)=>w<=2/\GLok zfZ (8*k+4*w) (a+24*k+12*w) q2) (fun (w:Nat) (q2:GL MendS)=>2-w) (0) (⟨u,out,a2⟩) ?_ ?_ ?_ ?_;exact ⟨by omega,hq.mono uO uO⟩;exact ⟨zN uO,rfl,trivial⟩;exact uP
 intro w q2 hinv
 obtain ⟨hw,hq2⟩:=hinv;obtain ⟨u,out,a2⟩:=q2;obtain ⟨g1,g2,g3⟩:=id hq2;dsimp only at g1 g2 g3;refine gz5 ?_;refine uCo (fun h3=> ?_) fun h4=> ?_
 refine gz5 ?_;refine dq (za (hs:=[_,_]) zk ty9 rfl rfl (by decide) (by decide) rfl) ?_;refine dq (zao (f:=HVal.str) (l:=ms2) zk rfl) ?_;refine gz3 ?_;refine uV2 [3,1,8,2,23,25] (fun (j:Nat) (q3:GL MendS)=>[(23,.int .i64 j),(3,.raw q3.u)]) (fun (j:Nat) (q3:GL MendS)=>[St b l q3.a,.arr q3.u 7 (q3.out.map zb1)]) (fun (j:Nat) (q3:GL MendS)=>j<=ms2.length/\(GLok zfZ (8*k+4*w+2*j) (a+24*k+12*w+6*j) q3)) (fun (j:Nat) (q3:GL MendS)=>ms2.length-j) (0) (⟨u,out,a2⟩) ?_ ?_ ?_ ?_;exact ⟨by decide,hq2.mono uO uO⟩;exact ⟨rfl,rfl,trivial⟩;exact uP
 intro j q3 hinv
 obtain ⟨hj,hq3⟩:=hinv;have hj2:ms2.length=2:=rfl;obtain ⟨u,out,a2⟩:=q3;obtain ⟨g1,g2,g3⟩:=id hq3;dsimp only at g1 g2 g3;refine gz4 ?_;refine uCo (fun h5=> ?_) fun h6=> ?_
 obtain ⟨z,hz⟩: ∃z,ms2[j]? =some z:=⟨_,Aa h5⟩
 have hdz:=zg hz;refine gz5 ?_;refine dq (zD (f:=HVal.str) (l:=ms2) (j:=j) (a:=z) zk ty9 rfl rfl rfl hz) ?_;refine gz7 ?_;refine uV2 [3,1,9,1,27,20] (fun (v:Nat) (q4:GL MendS)=>[(9,.int .i64 ((v:Int)+1)),(3,.raw q4.u)]) (fun (v:Nat) (q4:GL MendS)=>[St b l q4.a,.arr q4.u 7 (q4.out.map zb1)]) (fun (v:Nat) (q4:GL MendS)=>v<=2/\GLok zfZ (8*k+4*w+2*j+v) (a+24*k+12*w+6*j+3*v) q4) (fun (v:Nat) (q4:GL MendS)=>2-v) (0) (⟨u,out,a2⟩) ?_ ?_ ?_ ?_;exact ⟨by omega,hq3.mono uO uO⟩;exact ⟨zN uO,rfl,trivial⟩;exact uP
 intro v q4 hinv
 obtain ⟨hv,hq4⟩:=hinv;obtain ⟨u,out,a2⟩:=q4;obtain ⟨g1,g2,g3⟩:=id hq4;dsimp only at g1 g2 g3;refine gz5 ?_;refine uCo (fun h7=> ?_) fun h8=> ?_
 refine gz6 ?_;refine de rfl (uCx 0 zdz rfl rfl (zB uS uS) ?_)
 rintro _ _ ⟨y32,rfl,rfl⟩;refine gz1 ?_;refine uCo (fun h9=> ?_) fun h10=> ?_
 refine gz6 ?_;refine dq (za (hs:=[_,_,_]) z6 ty3 rfl rfl (by decide) (by decide) rfl) ?_;refine de rfl (uCx 0 zaI rfl rfl (zd (L:=[_,_,_]) uS uS uS) ?_)
 rintro _ _ ⟨y39,rfl,hy39,rfl⟩;refine gz1 ?_;refine dq (za (hs:=[_,_,_]) z6 ty3 rfl rfl (by decide) (by decide) rfl) ?_;refine de rfl (uCx 0 zaI rfl rfl (zd (L:=[_,_,_]) uS uS uS) ?_)
 rintro _ _ ⟨y42,rfl,hy42,rfl⟩;refine gz1 ?_;refine dq (zI (cs:=[_,_,_,_,_,_,_]) zgs zAY rfl) ?_;refine dq (za (hs:=[_]) zk9 zgs rfl rfl (by decide) (by decide) rfl) ?_;refine de rfl (zO (i:=1) zk9 zgs rfl rfl rfl rfl rfl (by simp [zax,zb,zay,zaO]) uSo fun v46=> ?_)
 refine gz9 ?_;exact ⟨v+1,⟨v46,out++[(⟨x,(w:Int)+1,z,y39,y42,(v:Int)+1,[98,111,115,115]⟩:MendS)],a2+1+1+1⟩,⟨by omega,hq4.add (x:=(⟨x,(w:Int)+1,z,y39,y42,(v:Int)+1,[98,111,115,115]⟩:MendS)) ⟨zyE x (Ac hx),zyF z (Ac hz),by unfold Sh;simp⟩ uO⟩,uD,⟨zN uO,rfl,trivial⟩,uK,zu (by dsimp only;rw [AB];rfl)⟩;refine gz8 ?_;exact ⟨v+1,⟨u,out,a2+1⟩,⟨by omega,hq4.same uO⟩,uD,⟨zN uO,rfl,trivial⟩,uK,uP⟩;refine gz2 ?_;refine zL ?_;refine gz7 ?_;exact ⟨j+1,⟨u,out,a2⟩,⟨by omega,hq4.mono uO uO⟩,uD,⟨rfl,rfl,trivial⟩,uK,uP⟩;have hnj:ms2.length<=j:=by omega
 obtain rfl:j=ms2.length:=by omega
 refine gz2 ?_;refine zL ?_;refine gz8 ?_;exact ⟨w+1,⟨u,out,a2⟩,⟨by omega,hq3.mono uO uO⟩,uD,⟨zN uO,rfl,trivial⟩,uK,uP⟩;refine gz2 ?_;refine zL ?_;refine gz7 ?_;exact ⟨k+1,⟨u,out,a2⟩,⟨by omega,hq2.mono uO uO⟩,uD,⟨rfl,rfl,trivial⟩,uK,uP⟩;have hnk:mp3.length<=k:=by omega
 obtain rfl:k=mp3.length:=by omega
 refine gz2 ?_;refine zL ?_;refine gz2 ?_;refine uVj [10,1,49,59] (fun (q5:List MendS×Nat)=>[]) (fun (q5:List MendS×Nat)=>[St b l q5.2,.arr u 7 (q5.1.map zb1)]) (fun (q5:List MendS×Nat)=>q5.1.length<=24/\(∀x∈q5.1,zfZ x)/\q5.2<=a+100) ?_ ?_
 skip
 refine gz2 ?_;refine de rfl (za7 (i:=1) zk9 rfl rfl ?_)
 refine gz3 ?_;refine dgx (fun x M'=> ∃(y:Bool) (a3:Nat),x= .bool y/\a3<=a2+1/\M'=[St b l a3,.arr u 7 (out.map zb1)]) rfl rfl (fun hc=>⟨_,false,a2,rfl,by omega,rfl⟩) (fun hc=>⟨_,OpenTo.upd (t:=53) rfl (hc) (OpenTo.refl _),uCx 0 zdz rfl rfl (zB (a:=a2) uO uO) (fun h M' hh=>by
  obtain ⟨y,h1,h2⟩:=hh;exact ⟨y,a2+1,h1,by omega,by rw [h2];rfl⟩)⟩) ?_
 rintro _ _ ⟨y,a3,rfl,ha3,rfl⟩;refine gz2 ?_;refine uCo (fun h11=> ?_) fun h12=> ?_
 have ho0:0<out.length:=by simp_all
 refine zcZ (i:=1) rfl (fun h0 he=> ?_) (fun ob off cap hv hcap=> ?_)
 exfalso;have:=congrArg List.length he;simp at this;subst this;simp at ho0
 subst hv;refine gz4 ?_;refine de rfl (za7 (i:=1) zk9 rfl rfl ?_)
 refine de rfl (uCx 0 zhw rfl rfl (zZ uS uS) ?_)
 rintro _ _ ⟨y60,rfl,hy60,rfl⟩;refine dq (zy (j:=y60) zk9 zgs rfl rfl rfl uSo) ?_;refine gz2 ?_;obtain ⟨x,hx⟩: ∃x,out[y60]? =some x:=⟨_,Aa uO⟩
 refine za1 (fun M=> ∃i:Nat,M[i]? =some (.arr (.slice (some ⟨ob,off,none⟩) (out.map zb1).length cap) 7 (out.map zb1))) [9,16,23,30] mixed ?_;refine gz9 ?_;refine uM 9 rfl ⟨1,rfl⟩ (fun M hM=>by obtain ⟨i,hi⟩:=hM;exact zaq (i:=i) (j:=y60) 0 ty9 rfl uO hi hx rfl rfl ⟨rfl,rfl⟩) ?_;refine uB 10 rfl (za (hs:=[_,_,_]) zk ty9 rfl rfl (by decide) (by decide) rfl) ?_;refine uA 12 ?_;refine gz3 ?_;refine uM 16 rfl ⟨1,rfl⟩ (fun M hM=>by obtain ⟨i,hi⟩:=hM;exact zaq (i:=i) (j:=y60) 1 ty3 rfl uO hi hx rfl rfl ⟨rfl,rfl⟩) ?_;refine uB 17 rfl (za (hs:=[_,_]) z6 ty3 rfl rfl (by decide) (by decide) rfl) ?_;refine uA 19 ?_;refine gz3 ?_;refine uM 23 rfl ⟨1,rfl⟩ (fun M hM=>by obtain ⟨i,hi⟩:=hM;exact zaq (i:=i) (j:=y60) 3 ty3 rfl uO hi hx rfl rfl ⟨rfl,rfl⟩) ?_;refine uB 24 rfl (za (hs:=[_,_]) z6 ty3 rfl rfl (by decide) (by decide) rfl) ?_;refine uA 26 ?_;refine gz3 ?_;refine uM 30 rfl ⟨1,rfl⟩ (fun M hM=>by obtain ⟨i,hi⟩:=hM;exact zaq (i:=i) (j:=y60) 5 ty3 rfl uO hi hx rfl rfl ⟨rfl,rfl⟩) ?_;refine uB 31 rfl (za (hs:=[_,_,_]) z6 ty3 rfl rfl (by decide) (by decide) rfl) ?_;refine uA 33 ?_;refine uB 34 rfl (za (hs:=[_,_]) zk ty9 rfl rfl (by decide) (by decide) rfl) ?_;refine uF 11 ?_;refine zq rfl (uCx 0 ca7 rfl rfl (zi (L:=[_,_,_]) uS uS uS) ?_)
 rintro _ _ ⟨y73,rfl,hy73,rfl⟩;refine ⟨uE,?_⟩
 refine uF 18 ?_;refine zq rfl (uCx 0 zaI rfl rfl (zd (L:=[_,_]) uS uS uS) ?_)
 rintro _ _ ⟨y80,rfl,hy80,rfl⟩;refine ⟨uE,?_⟩
 refine uF 25 ?_;refine zq rfl (uCx 0 zaI rfl rfl (zd (L:=[_,_]) uS uS uS) ?_)
 rintro _ _ ⟨y87,rfl,hy87,rfl⟩;refine ⟨uE,?_⟩
 refine uF 32 ?_;refine zq rfl (uCx 0 zaI rfl rfl (zd (L:=[_,_,_]) uS uS uS) ?_)
 rintro _ _ ⟨y94,rfl,hy94,rfl⟩;refine ⟨uE,?_⟩
 refine uF 35 ?_;refine zq rfl (uCx 0 ca7 rfl rfl (zi (L:=[_,_]) uS uS uS) ?_)
 rintro _ _ ⟨y97,rfl,hy97,rfl⟩;refine ⟨uE,?_⟩
 refine gz2 ?_;refine uF 38 ?_;refine zK (zR (i:=1) (j:=y60) (f:=0) (y:=zb1 x) (y':=zb1 ⟨y73,x.Week,x.Stat,x.Count,x.At,x.Version,x.By⟩) ty9 rfl uO rfl rfl (za2 hx) rfl rfl (by simp [zb]) rfl ?_)
 refine ⟨uE,?_⟩
 refine gz2 ?_;refine uF 41 ?_;refine zK (zR (i:=1) (j:=y60) (f:=1) (y:=zb1 ⟨y73,x.Week,x.Stat,x.Count,x.At,x.Version,x.By⟩) (y':=zb1 ⟨y73,y80,x.Stat,x.Count,x.At,x.Version,x.By⟩) ty3 rfl uO rfl rfl (zaD (za2 hx)) rfl rfl (by simp [zb]) rfl ?_)
 refine ⟨uE,?_⟩
 refine gz2 ?_;refine uF 44 ?_;refine zK (zR (i:=1) (j:=y60) (f:=3) (y:=zb1 ⟨y73,y80,x.Stat,x.Count,x.At,x.Version,x.By⟩) (y':=zb1 ⟨y73,y80,x.Stat,y87,x.At,x.Version,x.By⟩) ty3 rfl uO rfl rfl (zaD (zaD (za2 hx))) rfl rfl (by simp [zb]) rfl ?_)
 refine ⟨uE,?_⟩
 refine gz2 ?_;refine uF 47 ?_;refine zK (zR (i:=1) (j:=y60) (f:=5) (y:=zb1 ⟨y73,y80,x.Stat,y87,x.At,x.Version,x.By⟩) (y':=zb1 ⟨y73,y80,x.Stat,y87,x.At,y94,x.By⟩) ty3 rfl uO rfl rfl (zaD (zaD (zaD (za2 hx)))) rfl rfl (by simp [zb]) rfl ?_)
 refine ⟨uE,?_⟩
 refine gz2 ?_;refine uF 50 ?_;refine zK (zR (i:=1) (j:=y60) (f:=6) (y:=zb1 ⟨y73,y80,x.Stat,y87,x.At,y94,x.By⟩) (y':=zb1 ⟨y73,y80,x.Stat,y87,x.At,y94,y97⟩) ty9 rfl uO rfl rfl (zaD (zaD (zaD (zaD (za2 hx))))) rfl rfl (by simp [zb]) rfl ?_)
 refine ⟨uE,?_⟩
 refine gz1 ?_;exact ⟨(out.set y60 ⟨y73,y80,x.Stat,y87,x.At,y94,y97⟩,a3+1+1+1+1+1+1),⟨by simp;omega,zei (P:=zfZ) g2 (by
  have hgx:=g2 x (Ac hx);exact ⟨by simp at hy73;rcases hy73 with rfl|rfl|rfl;exact hgx.1;exact zoq;(unfold Sh;simp),hgx.2.1,by simp at hy97;rcases hy97 with rfl|rfl<;>(unfold Sh;simp)⟩),uD⟩,trivial,uK,uP⟩
 refine gz1 ?_;exact ⟨(out,a3),⟨uD,g2,uD⟩,trivial,uK,uP⟩
 intro q5 hq5
 obtain ⟨k1,a4⟩:=q5;dsimp only at hq5;obtain ⟨q1,q2,q3⟩:=hq5;refine gz5 ?_;exact zae (zas 2 (i:=1) rfl rfl) rfl ⟨k1,a4,rfl,⟨by omega,q2⟩,by omega,rfl⟩
end
section
open Go.Proofs.Tryz
open Go.HL
theorem zgz [Tracks] {b:Nat} {l:List Int} {a:Nat} (ha:a<=500000):Con prog 23 [pAt b] [St b l a] (fun x M'=> ∃k a',x=zbW k/\BookG k/\a'<=a+2000/\M'=[St b l a']):=by
 refine zbY func23 rfl ntmps23 rfl rfl ?_;refine gz1 ?_;refine de rfl (zj zbr rfl fun b2=> ?_)
 refine gz3 ?_;refine de rfl (uCx 1 ca50 rfl rfl (zg7 uS) ?_)
 rintro _ _ ⟨g13,a13,rfl,hg13,ha13,rfl⟩;refine gz1 ?_;refine de rfl (uCx 0 ca51 rfl rfl (ziX uS) ?_)
 rintro _ _ ⟨p15,a15,rfl,hp15,ha15,rfl⟩;refine gz1 ?_;refine de rfl (uCx 0 ca52 rfl rfl (zit uS) ?_)
 rintro _ _ ⟨m17,a17,rfl,hm17,ha17,rfl⟩;refine dq (zA9 zbr pl43) ?_;refine de rfl (zj zbr rfl fun b3=> ?_)
 refine de0 (uY 0 ?_)
 refine zan ?_;refine de rfl (uCx 1 ca6 rfl rfl (zC uS uS uS uS) ?_)
 rintro _ _ ⟨y20,rfl,hy20,rfl⟩;refine gz2 ?_;refine zf (zM 4) ?_;refine gz1 ?_;refine uV3 [5,1,21,24] (fun (n:Nat) (at1:Int) (q:GL MoveS)=>[(21,.int .i64 (n:Int)),(5,.int .i64 at1)]) (fun (n:Nat) (at1:Int) (q:GL MoveS)=>[St b l q.a,.cells b2 zhF,.cells b3 (bkC g13 (.raw q.u) (zbC p15) (zcr m17) (.raw (.slice none 0 0)) (.raw (.slice none 0 0))),.arr q.u 4 (q.out.map zcx)]) (fun (n:Nat) (at1:Int) (q:GL MoveS)=>(n:Int)<=y20/\(0<=at1/\at1<=20*n)/\GLok MovB n (a17+1+4*n) q) (fun (n:Nat) (at1:Int) (q:GL MoveS)=>y20.toNat-n) (0) (0) (⟨.slice none 0 0,[],a17+1⟩) ?_ ?_ ?_ ?_
 ·exact ⟨by omega,by omega,⟨by simp,by simp,uD⟩⟩
 ·exact ⟨rfl,rfl,trivial⟩
 ·exact by repeat (first|exact List.Perm.nil|refine zam 0 rfl ?_|refine zam 1 rfl ?_|refine zam 2 rfl ?_|refine zam 3 rfl ?_|refine zam 4 rfl ?_|refine zam 5 rfl ?_|(refine zaa 0 rfl ?hq ?_;(case hq=>simp [zav,zb];done))|(refine zaa 1 rfl ?hq ?_;(case hq=>simp [zav,zb];done))|(refine zaa 2 rfl ?hq ?_;(case hq=>simp [zav,zb];done))|(refine zaa 3 rfl ?hq ?_;(case hq=>simp [zav,zb];done))|(refine zaa 4 rfl ?hq ?_;(case hq=>simp [zav,zb];done))|(refine zaa 5 rfl ?hq ?_;(case hq=>simp [zav,zb];done))|fail)
 ·intro n at1 q hinv
  obtain ⟨hn,hat,hq⟩:=hinv;obtain ⟨u,out,a1⟩:=q;obtain ⟨g1,g2,g3⟩:=id hq;dsimp only at g1 g2 g3;refine gz4 ?_;refine uCo (fun h1=> ?_) fun h2=> ?_
  ·refine gz7 ?_;refine dq (za (hs:=[_,_,_,_]) z6 ty3 rfl rfl (by decide) (by decide) rfl) ?_;refine de rfl (uCx 0 zaI rfl rfl (zd (L:=[_,_,_,_]) uS uS uS) ?_)
   rintro _ _ ⟨y26,rfl,hy26,rfl⟩;refine dq (zbf rfl rfl (by simp at hy26;omega) (by simp at hy26;omega)) ?_;refine gz2 ?_;refine za1 (fun M=> ∃i:Nat,M[i]? =some (.cells b3 (bkC g13 (.raw u) (zbC p15) (zcr m17) (.raw (.slice none 0 0)) (.raw (.slice none 0 0))))) [1] mixed ?_;refine gz1 ?_;refine uM 1 rfl ⟨2,rfl⟩ (fun M hM=>by obtain ⟨i,hi⟩:=hM;exact z8 (i:=i) (h:= .raw u) zbB rfl hi (.inl ⟨rfl,rfl⟩) ⟨rfl,rfl⟩) ?_;refine gz2 ?_;refine uB 4 rfl (za (hs:=[_,_,_,_,_,_]) z6 ty3 rfl rfl (by decide) (by decide) rfl) ?_;refine uA 6 ?_;refine uB 7 rfl (za (hs:=[_,_]) zk ty9 rfl rfl (by decide) (by decide) rfl) ?_;refine uA 9 ?_;refine uB 10 rfl (za (hs:=[_,_,_,_,_]) zk ty9 rfl rfl (by decide) (by decide) rfl) ?_;refine uF 5 ?_;refine zq rfl (uCx 0 zaI rfl rfl (zd (L:=[_,_,_,_,_,_]) uS uS uS) ?_)
   rintro _ _ ⟨y33,rfl,hy33,rfl⟩;refine ⟨uE,?_⟩
   refine uF 8 ?_;refine zq rfl (uCx 0 ca7 rfl rfl (zi (L:=[_,_]) uS uS uS) ?_)
   rintro _ _ ⟨y36,rfl,hy36,rfl⟩;refine ⟨uE,?_⟩
   refine uF 11 ?_;refine zq rfl (uCx 0 ca7 rfl rfl (zi (L:=[_,_,_,_,_]) uS uS uS) ?_)
   rintro _ _ ⟨y39,rfl,hy39,rfl⟩;refine ⟨uE,?_⟩
   refine uB 12 rfl (zI (cs:=[_,_,_,_]) zz zAS rfl) ?_;refine uB 13 rfl (za (hs:=[_]) zbB zz rfl rfl (by decide) (by decide) rfl) ?_;refine uF 14 ?_;refine zq rfl (zO (i:=3) zbB zz rfl rfl rfl rfl rfl (by simp [zax,zb]) (by first|omega|(simp;omega)) fun v42=> ?_)
   refine ⟨uE,?_⟩
   refine gz1 ?_;refine uF 16 ?_;refine zK (uY 2 ?_)
   refine ⟨uE,?_⟩
   refine gz7 ?_;exact ⟨n+1,at1+y26,⟨v42,out++[(⟨at1+y26,y33,y36,y39⟩:MoveS)],a1+1+1+1+1⟩,⟨by omega,by simp at hy26;omega,hq.add (x:=(⟨at1+y26,y33,y36,y39⟩:MoveS)) ⟨by simp at hy26;dsimp only;omega,by simp at hy33;dsimp only;omega⟩ uO⟩,uD,⟨rfl,rfl,trivial⟩,uK,uQ⟩
  ·refine gz2 ?_;refine zcF ?_;refine gz4 ?_;refine de rfl (uZ 2 ?_)
   refine de rfl (uCx 3 ca53 rfl rfl (znY (l:=out) g2 uO) ?_)
   rintro _ _ ⟨Z,rfl,hzp,rfl⟩;have hzl:=hzp.length_eq;refine gz3 ?_;refine de rfl (uZ 3 ?_)
   refine de rfl (uCx 0 ca55 rfl rfl (zfi (l:=Z) uO) ?_)
   rintro _ _ ⟨u50,rfl,rfl⟩;refine gz1 ?_;refine de0 (uY 3 ?_)
   refine gz1 ?_;have hul:=zqg Z none;have hub: ∀x∈zX none Z,MovB x:=fun x hx=>g2 x (hzp.mem_iff.1 (zmh Z none x hx))
   refine zf (Ghost.perm (M':=[St b l a1,.cells b2 zhF,.cells b3 (bkC g13 (.raw u50) (zbC p15) (zcr m17) (.raw (.slice none 0 0)) (.raw (.slice none 0 0))),.arr u50 4 ((zX none Z).map zcx)]) uQ) ?_;refine zf (zgX (i:=3) (k:=2) (j:=14) rfl rfl rfl) ?_;refine gz4 ?_;refine de rfl (uZ 2 ?_)
   refine de rfl (uCx 0 ca56 rfl rfl (zg6 (a:=a1) (L:=g13.Players) uO (by have:=hg13.pl;omega)) ?_)
   rintro _ _ ⟨k56,a56,rfl,hk56,ha56,rfl⟩;refine gz1 ?_;refine de0 (uY 2 ?_)
   refine gz5 ?_;refine de rfl (uZ 2 ?_)
   refine dq (zao (f:=HVal.str) (l:=g13.Teams) zk rfl) ?_;refine gz2 ?_;refine zf (zM 5) ?_;refine gz1 ?_;refine uV2 [7,4,62,54] (fun (k:Nat) (q:GL ChoiceS)=>[(62,.int .i64 k)]) (fun (k:Nat) (q:GL ChoiceS)=>[St b l q.a,.cells b2 zhF,.cells b3 (bkC g13 (zbH (zX none Z)) (zbC p15) (zcr m17) (zbo k56) (.raw q.u)),.arr q.u 5 (q.out.map zag)]) (fun (k:Nat) (q:GL ChoiceS)=>k<=g13.Teams.length/\(GLok GoodC4 (4*k) (a56+28*k) q)) (fun (k:Nat) (q:GL ChoiceS)=>g13.Teams.length-k) (0) (⟨.slice none 0 0,[],a56⟩) ?_ ?_ ?_ ?_
   ·exact ⟨Ad _,⟨by simp,by simp,uD⟩⟩
   ·exact ⟨rfl,trivial⟩
   ·exact by repeat (first|exact List.Perm.nil|refine zam 0 rfl ?_|refine zam 1 rfl ?_|refine zam 2 rfl ?_|refine zam 3 rfl ?_|refine zam 4 rfl ?_|refine zam 5 rfl ?_|(refine zaa 0 rfl ?hq ?_;(case hq=>simp [zav,zb];done))|(refine zaa 1 rfl ?hq ?_;(case hq=>simp [zav,zb];done))|(refine zaa 2 rfl ?hq ?_;(case hq=>simp [zav,zb];done))|(refine zaa 3 rfl ?hq ?_;(case hq=>simp [zav,zb];done))|(refine zaa 4 rfl ?hq ?_;(case hq=>simp [zav,zb];done))|(refine zaa 5 rfl ?hq ?_;(case hq=>simp [zav,zb];done))|fail)
   ·intro k q hinv
    obtain ⟨hk,hq⟩:=hinv;obtain ⟨u,out,a2⟩:=q;obtain ⟨g1,g2,g3⟩:=id hq;dsimp only at g1 g2 g3;have htm:=hg13.tm;refine gz4 ?_;refine uCo (fun h3=> ?_) fun h4=> ?_
    ·obtain ⟨x,hx⟩: ∃x,g13.Teams[k]? =some x:=⟨_,Aa h3⟩
     have hdx:=zg hx;refine gz5 ?_;refine dq (zD (f:=HVal.str) (l:=g13.Teams) (j:=k) (a:=x) zk ty9 rfl rfl rfl hx) ?_;refine gz7 ?_;refine uV2 [8,3,66,49] (fun (w:Nat) (q2:GL ChoiceS)=>[(8,.int .i64 ((w:Int)+1))]) (fun (w:Nat) (q2:GL ChoiceS)=>[St b l q2.a,.cells b2 zhF,.cells b3 (bkC g13 (zbH (zX none Z)) (zbC p15) (zcr m17) (zbo k56) (.raw q2.u)),.arr q2.u 5 (q2.out.map zag)]) (fun (w:Nat) (q2:GL ChoiceS)=>w<=2/\GLok GoodC4 (4*k+2*w) (a56+28*k+14*w) q2) (fun (w:Nat) (q2:GL ChoiceS)=>2-w) (0) (⟨u,out,a2⟩) ?_ ?_ ?_ ?_
     ·exact ⟨by omega,hq.mono uO uO⟩
     ·exact ⟨zN uO,trivial⟩
     ·exact by repeat (first|exact List.Perm.nil|refine zam 0 rfl ?_|refine zam 1 rfl ?_|refine zam 2 rfl ?_|refine zam 3 rfl ?_|refine zam 4 rfl ?_|refine zam 5 rfl ?_|(refine zaa 0 rfl ?hq ?_;(case hq=>simp [zav,zb];done))|(refine zaa 1 rfl ?hq ?_;(case hq=>simp [zav,zb];done))|(refine zaa 2 rfl ?hq ?_;(case hq=>simp [zav,zb];done))|(refine zaa 3 rfl ?hq ?_;(case hq=>simp [zav,zb];done))|(refine zaa 4 rfl ?hq ?_;(case hq=>simp [zav,zb];done))|(refine zaa 5 rfl ?hq ?_;(case hq=>simp [zav,zb];done))|fail)
     ·intro w q2 hinv
      obtain ⟨hw,hq2⟩:=hinv;obtain ⟨u,out,a2⟩:=q2;obtain ⟨g1,g2,g3⟩:=id hq2;dsimp only at g1 g2 g3;refine gz5 ?_;refine uCo (fun h5=> ?_) fun h6=> ?_
      ·refine gz8 ?_;refine dq (za (hs:=[_,_,_]) z6 ty3 rfl rfl (by decide) (by decide) rfl) ?_;refine de rfl (uCx 0 zaI rfl rfl (zd (L:=[_,_,_]) uS uS uS) ?_)
       rintro _ _ ⟨y74,rfl,hy74,rfl⟩;refine gz2 ?_;have hb74:0<=y74/\y74<=604799999:=by simp at hy74;omega
       refine gz2 ?_;refine dq (za (hs:=[_,_,_,_]) z6 ty3 rfl rfl (by decide) (by decide) rfl) ?_;refine de rfl (uCx 0 zaI rfl rfl (zd (L:=[_,_,_,_]) uS uS uS) ?_)
       rintro _ _ ⟨y77,rfl,hy77,rfl⟩;refine gz2 ?_;have hb77:0<=y77/\y77<=2:=by simp at hy77;omega
       refine gz1 ?_;refine uV3 [9,2,78,37] (fun (n:Nat) (at2:Int) (q3:GL ChoiceS)=>[(78,.int .i64 (n:Int)),(9,.int .i64 at2)]) (fun (n:Nat) (at2:Int) (q3:GL ChoiceS)=>[St b l q3.a,.cells b2 zhF,.cells b3 (bkC g13 (zbH (zX none Z)) (zbC p15) (zcr m17) (zbo k56) (.raw q3.u)),.arr q3.u 5 (q3.out.map zag)]) (fun (n:Nat) (at2:Int) (q3:GL ChoiceS)=>(n:Int)<=y77/\(0<=at2/\at2<=604800000*((n:Int)+1))/\GLok GoodC4 (4*k+2*w+n) (a56+28*k+14*w+2+6*n) q3) (fun (n:Nat) (at2:Int) (q3:GL ChoiceS)=>y77.toNat-n) (0) (y74) (⟨u,out,a2+1+1⟩) ?_ ?_ ?_ ?_
       ·exact ⟨by omega,by omega,⟨uD,g2,uD⟩⟩
       ·exact ⟨rfl,rfl,trivial⟩
       ·exact by repeat (first|exact List.Perm.nil|refine zam 0 rfl ?_|refine zam 1 rfl ?_|refine zam 2 rfl ?_|refine zam 3 rfl ?_|refine zam 4 rfl ?_|refine zam 5 rfl ?_|(refine zaa 0 rfl ?hq ?_;(case hq=>simp [zav,zb];done))|(refine zaa 1 rfl ?hq ?_;(case hq=>simp [zav,zb];done))|(refine zaa 2 rfl ?hq ?_;(case hq=>simp [zav,zb];done))|(refine zaa 3 rfl ?hq ?_;(case hq=>simp [zav,zb];done))|(refine zaa 4 rfl ?hq ?_;(case hq=>simp [zav,zb];done))|(refine zaa 5 rfl ?hq ?_;(case hq=>simp [zav,zb];done))|fail)
       ·intro n at2 q3 hinv
        obtain ⟨hn,hat2,hq3⟩:=hinv;obtain ⟨u,out,a2⟩:=q3;obtain ⟨g1,g2,g3⟩:=id hq3;dsimp only at g1 g2 g3;refine gz4 ?_;refine uCo (fun h7=> ?_) fun h8=> ?_
        ·refine gz9 ?_;refine dq (za (hs:=[_,_,_,_]) zk ty9 rfl rfl (by decide) (by decide) rfl) ?_;refine de rfl (uCx 0 ca7 rfl rfl (zi (L:=[_,_,_,_]) uS uS uS) ?_)
         rintro _ _ ⟨y85,rfl,hy85,rfl⟩;refine dq (zI (cs:=[_,_,_,_,_]) zdh pl54 rfl) ?_;refine de rfl (zj zdh rfl fun b10=> ?_)
         refine de0 (uY 0 ?_)
         refine gz5 ?_;refine de rfl (uZ 3 ?_)
         refine dq (zao (f:=za6) (l:=g13.Slots) zdF rfl) ?_;refine gz2 ?_;refine zf (zM 1) ?_;refine gz1 ?_;refine uV2 [91,11] (fun (j:Nat) (p:GL Str)=>[(91,.int .i64 j)]) (fun (j:Nat) (p:GL Str)=>[St b l p.a,.cells b10 [.str x,.int .i64 ((w:Int)+1),.int .i64 at2,.raw p.u,.str y85],.arr p.u 1 (p.out.map .str),.cells b2 zhF,.cells b3 (bkC g13 (zbH (zX none Z)) (zbC p15) (zcr m17) (zbo k56) (.raw u)),.arr u 5 (out.map zag)]) (fun (j:Nat) (p:GL Str)=>j<=g13.Slots.length/\(p.out.length=j/\(∀s∈p.out,Sh s)/\p.a=a2+1+j)) (fun (j:Nat) (p:GL Str)=>g13.Slots.length-j) (0) (⟨.slice none 0 0,[],a2+1⟩) ?_ ?_ ?_ ?_
         ·exact ⟨Ad _,rfl,by simp,rfl⟩
         ·exact ⟨rfl,trivial⟩
         ·exact by repeat (first|exact List.Perm.nil|refine zam 0 rfl ?_|refine zam 1 rfl ?_|refine zam 2 rfl ?_|refine zam 3 rfl ?_|refine zam 4 rfl ?_|refine zam 5 rfl ?_|(refine zaa 0 rfl ?hq ?_;(case hq=>simp [zav,zb];done))|(refine zaa 1 rfl ?hq ?_;(case hq=>simp [zav,zb];done))|(refine zaa 2 rfl ?hq ?_;(case hq=>simp [zav,zb];done))|(refine zaa 3 rfl ?hq ?_;(case hq=>simp [zav,zb];done))|(refine zaa 4 rfl ?hq ?_;(case hq=>simp [zav,zb];done))|(refine zaa 5 rfl ?hq ?_;(case hq=>simp [zav,zb];done))|fail)
         ·intro j p hinv
          obtain ⟨hj,hp⟩:=hinv;obtain ⟨v,ps,a5⟩:=p;dsimp only at hp;obtain ⟨hp1,hp2,hp3⟩:=hp;have hsl:=hg13.sl;refine gz4 ?_;refine uCo (fun h9=> ?_) fun h10=> ?_
          ·obtain ⟨z,hz⟩: ∃z,g13.Slots[j]? =some z:=⟨_,Aa h9⟩
           have hdz:=zg hz;refine gz4 ?_;refine za1 (fun M=> ∃i:Nat,M[i]? =some (.cells b10 [.str x,.int .i64 ((w:Int)+1),.int .i64 at2,.raw v,.str y85])) [1] mixed ?_;refine gz1 ?_;refine uM 1 rfl ⟨1,rfl⟩ (fun M hM=>by obtain ⟨i,hi⟩:=hM;exact z8 (i:=i) (h:= .raw v) zk rfl hi (.inl ⟨rfl,rfl⟩) ⟨rfl,rfl⟩) ?_;refine gz1 ?_;refine uB 3 rfl (za (hs:=[_,_,_,_,_,_,_,_]) zk ty9 rfl rfl (by decide) (by decide) rfl) ?_;refine uF 4 ?_;refine zq rfl (uCx 0 ca7 rfl rfl (zi (L:=[_,_,_,_,_,_,_,_]) uS uS uS) ?_)
           rintro _ _ ⟨y97,rfl,hy97,rfl⟩;refine ⟨uE,?_⟩
           refine uB 5 rfl (za (hs:=[_]) zk ty9 rfl rfl (by decide) (by decide) rfl) ?_;refine uF 6 ?_;refine zq rfl (zO (i:=2) zk ty9 rfl rfl rfl rfl rfl (by simp [zax,zb]) (by first|omega|(simp;omega)) fun v99=> ?_)
           refine ⟨uE,?_⟩
           refine gz1 ?_;refine uF 8 ?_;refine zK (uY 1 ?_)
           refine ⟨uE,?_⟩
           refine gz7 ?_;exact ⟨j+1,⟨v99,ps++[y97],a5+1⟩,⟨by omega,by simp;omega,fun s hs=>by
            rcases List.mem_append.1 hs with hs|hs
            ·exact hp2 s hs
            ·rw [List.mem_singleton.1 hs];simp at hy97;rcases hy97 with rfl|rfl|rfl|rfl|rfl|rfl|rfl|rfl<;>(unfold Sh;simp),uD⟩,uD,⟨rfl,trivial⟩,uK,uQ⟩
          ·have hnj:g13.Slots.length<=j:=by omega
           obtain rfl:j=g13.Slots.length:=by omega
           refine gz2 ?_;refine zL ?_;refine gz2 ?_;refine zf (zgX (i:=2) (k:=1) (j:=3) rfl rfl rfl) ?_;refine zf (zbG (M':=[St b l a5,.cells b10 (zb (zag (⟨x,(w:Int)+1,at2,ps,y85⟩:ChoiceS))),.cells b2 zhF,.cells b3 (bkC g13 (zbH (zX none Z)) (zbC p15) (zcr m17) (zbo k56) (.raw u)),.arr u 5 (out.map zag)]) rfl) ?_;refine zf (zcz 10 (i:=1) rfl rfl) ?_;refine gz2 ?_;refine de rfl (uZ 2 ?_)
           refine gz1 ?_;refine dq (za (hs:=[_]) zdG zdh rfl rfl (by decide) (by decide) rfl) ?_;refine de rfl (zO (i:=3) zdG zdh rfl rfl rfl rfl rfl (by simp [zax,zb,zay,zaO]) uSo fun v106=> ?_)
           refine gz1 ?_;refine de0 (uY 2 ?_)
           refine gz5 ?_;refine dq (za (hs:=[_,_,_]) z6 ty3 rfl rfl (by decide) (by decide) rfl) ?_;refine de rfl (uCx 0 zaI rfl rfl (zd (L:=[_,_,_]) uS uS uS) ?_)
           rintro _ _ ⟨y112,rfl,hy112,rfl⟩;refine dq (zbf rfl rfl (by simp at hy112;omega) (by simp at hy112;omega)) ?_;refine gz8 ?_;exact ⟨n+1,at2+y112,⟨v106,out++[(⟨x,(w:Int)+1,at2,ps,y85⟩:ChoiceS)],a5+1⟩,⟨by omega,by simp at hy112;omega,hq3.add (x:=(⟨x,(w:Int)+1,at2,ps,y85⟩:ChoiceS)) ⟨hp2,by simp at hy85;rcases hy85 with rfl|rfl|rfl|rfl<;>(unfold Sh;simp),by have:=hg13.sl;dsimp only;omega⟩ (by have:=hg13.sl;omega)⟩,uD,⟨rfl,rfl,trivial⟩,uK,uQ⟩
        ·refine gz2 ?_;refine zcF ?_;refine gz8 ?_;exact ⟨w+1,⟨u,out,a2⟩,⟨by omega,hq3.mono uO uO⟩,uD,⟨zN uO,trivial⟩,uK,uQ⟩
      ·refine gz2 ?_;refine zL ?_;refine gz7 ?_;exact ⟨k+1,⟨u,out,a2⟩,⟨by omega,hq2.mono uO uO⟩,uD,⟨rfl,trivial⟩,uK,uQ⟩
    ·have hnk:g13.Teams.length<=k:=by omega
     obtain rfl:k=g13.Teams.length:=by omega
     refine gz2 ?_;refine zL ?_;refine gz2 ?_;refine uVj [11,1,116,52] (fun (q5:List ChoiceS×Nat)=>[]) (fun (q5:List ChoiceS×Nat)=>[St b l q5.2,.cells b2 zhF,.cells b3 (bkC g13 (zbH (zX none Z)) (zbC p15) (zcr m17) (zbo k56) (.raw u)),.arr u 5 (q5.1.map zag)]) (fun (q5:List ChoiceS×Nat)=>GoodChs q5.1/\q5.2<=a2+10) ?_ ?_
     ·skip
      refine gz2 ?_;refine de rfl (uZ 2 ?_)
      refine de rfl (za7 (i:=3) (es:=out) zdG rfl rfl ?_)
      refine gz3 ?_;refine dgx (fun x M'=> ∃(y:Bool) (a3:Nat),x= .bool y/\a3<=a2+1/\M'=[St b l a3,.cells b2 zhF,.cells b3 (bkC g13 (zbH (zX none Z)) (zbC p15) (zcr m17) (zbo k56) (.raw u)),.arr u 5 (out.map zag)]) rfl rfl (fun hc=>⟨_,false,a2,rfl,by omega,rfl⟩) (fun hc=>⟨_,OpenTo.upd (t:=121) rfl (hc) (OpenTo.refl _),uCx 0 zdz rfl rfl (zB (a:=a2) uO uO) (fun h M' hh=>by
       obtain ⟨y,h1,h2⟩:=hh;exact ⟨y,a2+1,h1,by omega,by rw [h2];rfl⟩)⟩) ?_
      rintro _ _ ⟨y,a3,rfl,ha3,rfl⟩;refine gz2 ?_;refine uCo (fun h11=> ?_) fun h12=> ?_
      ·have ho0:0<out.length:=by simp_all
       refine zcZ (i:=3) rfl (fun h0 he=> ?_) (fun ob off cap hv hcap=> ?_)
       ·exfalso;have:=congrArg List.length he;simp at this;subst this;simp at ho0
       subst hv;refine zbx (fun M=> ∃i:Nat,M[i]? =some (.cells b3 (bkC g13 (zbH (zX none Z)) (zbC p15) (zcr m17) (zbo k56) (.raw (.slice (some ⟨ob,off,none⟩) (out.map zag).length cap))))) [1,4] mixed ?_;refine gz1 ?_;refine uM 1 rfl ⟨2,rfl⟩ (fun M hM=>by obtain ⟨i,hi⟩:=hM;exact z8 (i:=i) (h:= .raw (.slice (some ⟨ob,off,none⟩) (out.map zag).length cap)) zdG rfl hi (.inl ⟨rfl,rfl⟩) ⟨rfl,rfl⟩) ?_;refine gz2 ?_;refine uM 4 rfl ⟨2,rfl⟩ (fun M hM=>by obtain ⟨i,hi⟩:=hM;exact z8 (i:=i) (h:= .raw (.slice (some ⟨ob,off,none⟩) (out.map zag).length cap)) zdG rfl hi (.inl ⟨rfl,rfl⟩) ⟨rfl,rfl⟩) ?_;refine uF 5 ?_;refine zq rfl (za7 (i:=3) (es:=out) zdG rfl rfl ?_)
       refine ⟨fun _=> .inl ⟨2,rfl⟩,?_⟩
       refine uF 6 ?_;refine zq rfl (uCx 0 zhw rfl rfl (zZ uS uS) ?_)
       rintro _ _ ⟨y130,rfl,hy130,rfl⟩;refine ⟨uE,?_⟩
       refine uB 7 rfl (zy (j:=y130) zdG zdh rfl rfl rfl uSo) ?_;refine gz2 ?_;refine zf (Ghost.perm (M':=[St b l (a3+1),.arr (.slice (some ⟨ob,off,none⟩) (out.map zag).length cap) 5 (out.map zag),.cells b2 zhF,.cells b3 (bkC g13 (zbH (zX none Z)) (zbC p15) (zcr m17) (zbo k56) (.raw (.slice (some ⟨ob,off,none⟩) (out.map zag).length cap)))]) uQ) ?_;obtain ⟨x,hx⟩: ∃x,out[y130]? =some x:=⟨_,Aa uO⟩
       have hgx:=g2 x (Ac hx);dsimp only [GoodC4] at hgx;refine za1 (fun M=> ∃i:Nat,M[i]? =some (.arr (.slice (some ⟨ob,off,none⟩) (out.map zag).length cap) 5 (out.map zag))) [8,15,24] mixed ?_;refine gz8 ?_;refine uM 8 rfl ⟨1,rfl⟩ (fun M hM=>by obtain ⟨i,hi⟩:=hM;exact zaq (i:=i) (j:=y130) 0 ty9 rfl uO hi hx rfl rfl ⟨rfl,rfl⟩) ?_;refine uB 9 rfl (za (hs:=[_,_]) zk ty9 rfl rfl (by decide) (by decide) rfl) ?_;refine uA 11 ?_;refine gz3 ?_;refine uM 15 rfl ⟨1,rfl⟩ (fun M hM=>by obtain ⟨i,hi⟩:=hM;exact zaq (i:=i) (j:=y130) 1 ty3 rfl uO hi hx rfl rfl ⟨rfl,rfl⟩) ?_;refine uB 16 rfl (za (hs:=[_,_]) z6 ty3 rfl rfl (by decide) (by decide) rfl) ?_;refine uA 18 ?_;refine uB 19 rfl (za (hs:=[_,_]) zk ty9 rfl rfl (by decide) (by decide) rfl) ?_;refine uA 21 ?_;refine gz2 ?_;refine uM 24 rfl ⟨1,rfl⟩ (fun M hM=>by obtain ⟨i,hi⟩:=hM;exact zaq (i:=i) (j:=y130) 3 zk rfl uO hi hx rfl rfl ⟨rfl,rfl⟩) ?_;refine uB 26 rfl (za (hs:=[_]) zk ty9 rfl rfl (by decide) (by decide) rfl) ?_;refine uF 10 ?_;refine zq rfl (uCx 0 ca7 rfl rfl (zi (L:=[_,_]) uS uS uS) ?_)
       rintro _ _ ⟨y142,rfl,hy142,rfl⟩;refine ⟨uE,?_⟩
       refine uF 17 ?_;refine zq rfl (uCx 0 zaI rfl rfl (zd (L:=[_,_]) uS uS uS) ?_)
       rintro _ _ ⟨y149,rfl,hy149,rfl⟩;refine ⟨uE,?_⟩
       refine uF 20 ?_;refine zq rfl (uCx 0 ca7 rfl rfl (zi (L:=[_,_]) uS uS uS) ?_)
       rintro _ _ ⟨y152,rfl,hy152,rfl⟩;refine ⟨uE,?_⟩
       refine uF 25 ?_;refine zq rfl (uCa zkH rfl (zad uO) fun v157=> ?_)
       refine ⟨uE,?_⟩
       refine uF 27 ?_;refine zq rfl (zjW (N:=[St b l (a3+1+1+1+1),.arr (.slice (some ⟨ob,off,none⟩) (out.map zag).length cap) 5 (out.map zag),.cells b2 zhF,.cells b3 (bkC g13 (zbH (zX none Z)) (zbC p15) (zcr m17) (zbo k56) (.raw (.slice (some ⟨ob,off,none⟩) (out.map zag).length cap)))]) (sz:=1) (es:=(x.Players++[[97,110,110]]).map .str) 0 (zO (i:=0) zk ty9 rfl rfl rfl rfl rfl (by simp [zax,zb,zay,zaO]) uSo fun v=>⟨v,rfl,by simp [zay,zaO],rfl⟩) ?_)
       refine ⟨fun _=> .inl ⟨1,rfl⟩,?_⟩
       refine gz2 ?_;refine uF 30 ?_;refine zK (zR (i:=1) (j:=y130) (f:=0) (y:=zag x) (y':=zag ⟨y142,x.Week,x.At,x.Players,x.Captain⟩) ty9 rfl uO rfl rfl (za2 hx) rfl rfl (by simp [zb]) rfl ?_)
       refine ⟨uE,?_⟩
       refine gz2 ?_;refine uF 33 ?_;refine zK (zR (i:=1) (j:=y130) (f:=1) (y:=zag ⟨y142,x.Week,x.At,x.Players,x.Captain⟩) (y':=zag ⟨y142,y149,x.At,x.Players,x.Captain⟩) ty3 rfl uO rfl rfl (zaD (za2 hx)) rfl rfl (by simp [zb]) rfl ?_)
       refine ⟨uE,?_⟩
       refine gz2 ?_;refine uF 36 ?_;refine zK (zR (i:=1) (j:=y130) (f:=4) (y:=zag ⟨y142,y149,x.At,x.Players,x.Captain⟩) (y':=zag ⟨y142,y149,x.At,x.Players,y152⟩) ty9 rfl uO rfl rfl (zaD (zaD (za2 hx))) rfl rfl (by simp [zb]) rfl ?_)
       refine ⟨uE,?_⟩
       refine gz2 ?_;refine uF 39 ?_;refine zK (zR (i:=1) (j:=y130) (f:=3) (y:=zag ⟨y142,y149,x.At,x.Players,y152⟩) (y':=zag ⟨y142,y149,x.At,x.Players++[[97,110,110]],y152⟩) zk rfl uO rfl rfl (zaD (zaD (zaD (za2 hx)))) rfl rfl (by simp [zb]) rfl ?_)
       refine ⟨uE,?_⟩
       refine gz1 ?_;exact ⟨(out.set y130 (⟨y142,y149,x.At,x.Players++[[97,110,110]],y152⟩:ChoiceS),a3+1+1+1+1),⟨⟨by simp;omega,zei (P:=zqZ) (fun x hx=>(g2 x hx).up) ⟨fun s hs=>by
        rcases List.mem_append.1 hs with hs|hs
        ·exact hgx.1 s hs
        ·rw [List.mem_singleton.1 hs];unfold Sh;simp,by simp at hy152;rcases hy152 with rfl|rfl<;>(unfold Sh;simp),by simp;omega⟩⟩,uD⟩,trivial,uK,uQ⟩
      ·refine gz1 ?_;exact ⟨(out,a3),⟨⟨uD,fun x hx=>(g2 x hx).up⟩,uD⟩,trivial,uK,uQ⟩
     ·intro q5 hq5
      obtain ⟨k1,a6⟩:=q5;obtain ⟨hk1,ha6⟩:=hq5;dsimp only at hk1 ha6;refine zf (zgX (i:=3) (k:=2) (j:=18) rfl rfl rfl) ?_;refine zf (Ghost.perm (M':=[.cells b2 zhF,St b l a6,.cells b3 (zb (zbW (⟨g13,(zX none Z),p15,m17,k56,k1⟩:BookS)))]) uQ) ?_;refine gz1 ?_;refine de rfl (zhg (i:=2) (h:=zbW (⟨g13,(zX none Z),p15,m17,k56,k1⟩:BookS)) zbr rfl rfl rfl rfl rfl ?_)
      refine de0 (zo (h:=zbW (⟨g13,(zX none Z),p15,m17,k56,k1⟩:BookS)) zbr rfl rfl rfl rfl rfl ?_)
      refine gz2 ?_;exact ⟨_,_,(zp 2 rfl).trans ((Ghost.perm (List.Perm.swap _ _ _)).trans Ghost.drop),[_],_,⟨⟨_,_,_,_,_,rfl,zbr,.inr ⟨rfl,rfl,rfl⟩⟩,trivial⟩,Weak.refl _,(⟨g13,(zX none Z),p15,m17,k56,k1⟩:BookS),a6,rfl,⟨hg13,uD,hub,hp15,hm17,hk56,hk1⟩,by omega,rfl⟩
end
section
open Go.Proofs.Tryz
open Go.HL
theorem zr9 [Tracks]:Weak (.agg [.raw (.slice none 0 0),.raw (.slice none 0 0),.raw (.slice none 0 0),.raw (.slice none 0 0),.slice 2 [.agg [.str [115,97],.slice 1 [.str [103,107]]]],.int .i64 3,.int .i64 0,.int .i64 5,.int .i64 0,.slice 1 [.str [116,97],.str [116,98]],.raw (.slice none 0 0),.raw (.slice none 0 0),.raw (.slice none 0 0),.int .i64 0,.raw (.slice none 0 0),.raw (.slice none 0 0),.raw (.slice none 0 0),.raw (.slice none 0 0),.raw (.slice none 0 0)]) (zbW g0B):=by
 refine zwo rfl fun j h h' h1 h2=> ?_
 match j,h1,h2 with
 |0,h1,h2|1,h1,h2|2,h1,h2|3,h1,h2|10,h1,h2|11,h1,h2|12,h1,h2|14,h1,h2|15,h1,h2|16,h1,h2|17,h1,h2|18,h1,h2=>cases h1;cases h2;exact zQ _
 |4,h1,h2|5,h1,h2|6,h1,h2|7,h1,h2|8,h1,h2|9,h1,h2|13,h1,h2=>cases h1;cases h2;exact Weak.refl _
 |n+19,h1,h2=>cases h1
theorem zfh [Tracks] {b:Nat} {l:List Int} {a:Nat} (hT:Tracks.on=false) (ha:a<=100000):Con prog 5 [pAt b] [St b l a] (fun x M'=> ∃k a',x=zbW k/\zck k=0/\BookC k/\a'<=a+24000/\M'=[St b l a']):=by
 refine zbY func5 rfl ntmps5 rfl rfl ?_;refine gz1 ?_;refine de rfl (zj zbr rfl fun b2=> ?_)
 refine gz6 ?_;refine uT2 [3,10] (fun i a1=>[(4,.int .i64 (i:Int))]) (fun i a1=>[.cells b2 [.raw (.slice none 0 0),.raw (.slice none 0 0),.raw (.slice none 0 0),.raw (.slice none 0 0),.raw (.slice none 0 0),.int .i64 0,.int .i64 0,.int .i64 0,.int .i64 0,.raw (.slice none 0 0),.raw (.slice none 0 0),.raw (.slice none 0 0),.raw (.slice none 0 0),.int .i64 0,.raw (.slice none 0 0),.raw (.slice none 0 0),.raw (.slice none 0 0),.raw (.slice none 0 0),.raw (.slice none 0 0)],St b l a1]) (fun i a1=>i<=12/\a1<=a+2000*i) (fun i a1=>12-i) (0) (a) ?_ ?_
 ·exact ⟨by omega,by omega⟩
 ·rintro i a1 ⟨hi,ha1⟩;refine gz4 ?_;refine uCo (fun h1=> ?_) fun h2=> ?_
  ·refine gz6 ?_;refine de rfl (uCx 1 ca23 rfl rfl (zgz (a:=a1) uO) ?_)
   rintro _ _ ⟨k7,a7,rfl,hk7,ha7,rfl⟩;refine de rfl (zj zbr rfl fun b3=> ?_)
   refine de0 (zo zbr rfl rfl rfl rfl rfl ?_)
   refine gz1 ?_;refine zf (zp 3 rfl) ?_;refine gz1 ?_;refine dq (zbD (h:=zbW k7) zbr rfl rfl rfl rfl) ?_;refine dq (uCl ca24 rfl (zj0 (b:=k7) hT hk7.c)) ?_;refine gz2 ?_;refine uCo (fun h3=> ?_) fun h4=> ?_
   ·refine gz1 ?_;refine dq (zbD (h:=zbW k7) zbr rfl rfl rfl rfl) ?_;refine de0 (uY 1 ?_)
    refine gz2 ?_
    first
    |exact ⟨_,_,(Ghost.perm (List.Perm.swap _ _ _)).trans ((zp 2 rfl)),[_],_,⟨⟨_,_,_,_,_,rfl,zbr,.inr ⟨rfl,rfl,rfl⟩⟩,trivial⟩,Weak.refl _,k7,a7,rfl,by assumption,hk7.c,by omega,rfl⟩
    |exact ⟨_,_,zp 2 rfl,[_],_,⟨⟨_,_,_,_,_,rfl,zbr,.inr ⟨rfl,rfl,rfl⟩⟩,trivial⟩,zr9,g0B,a1,rfl,zw4,zw5,by omega,rfl⟩
   ·refine gz7 ?_;exact ⟨i+1,a7,⟨by omega,by omega⟩,uD,⟨rfl,trivial⟩,uK,uP⟩
  ·obtain rfl:i=12:=by omega
   refine gz2 ?_;refine zL ?_;refine gz3 ?_;refine dq (za (hs:=[_]) zk ty9 rfl rfl (by decide) (by decide) rfl) ?_;refine dq (zI (cs:=[_,_]) zdc zvX rfl) ?_;refine dq (za (hs:=[_]) zdF zdc rfl rfl (by decide) (by decide) rfl) ?_;refine dq (zI (cs:=[_,_,_,_]) zfO pl32 rfl) ?_;refine dq (za (hs:=[_,_]) zk ty9 rfl rfl (by decide) (by decide) rfl) ?_;refine dq (zI (cs:=[_,_,_,_,_,_,_,_,_,_,_,_,_,_]) zaS ziP rfl) ?_;refine dq (zI (cs:=[_,_,_,_,_,_,_,_,_,_,_,_,_,_,_,_,_,_,_]) zbr pl43 rfl) ?_;refine de0 (uY 0 ?_)
   refine gz2 ?_
   first
   |exact ⟨_,_,(Ghost.perm (List.Perm.swap _ _ _)).trans ((zp 2 rfl)),[_],_,⟨⟨_,_,_,_,_,rfl,zbr,.inr ⟨rfl,rfl,rfl⟩⟩,trivial⟩,Weak.refl _,k7,a7,rfl,by assumption,hk7.c,by omega,rfl⟩
   |exact ⟨_,_,zp 2 rfl,[_],_,⟨⟨_,_,_,_,_,rfl,zbr,.inr ⟨rfl,rfl,rfl⟩⟩,trivial⟩,zr9,g0B,a1,rfl,zw4,zw5,by omega,rfl⟩
end
section
open Go.Proofs.Tryz
open Go.HL
theorem zg5 [Tracks] (hT:Tracks.on=false):ConP prog 12 [] (.bool true):=by
 refine uOb func12 ntmps12 ?_;refine gz4 ?_;refine dq (zI (cs:=[_,_,_,_,_,_,_,_,_]) zbs zrO rfl) ?_;refine dq (za (hs:=[_]) zhE zbs rfl rfl (by decide) (by decide) rfl) ?_;refine dq (za (hs:=[_]) zk ty9 rfl rfl (by decide) (by decide) rfl) ?_;refine dq (zkZ (hs':=[zbC [zmM],eSs [[115]],.int .i64 1,.int .i64 5]) ca34 rfl (WeakL.refl _) (zrh hT (by decide) (by decide))) ?_;refine gz6 ?_;simp only [zya,zyb];refine gz1 ?_;refine dq (za (hs:=[_,_]) zk ty9 rfl rfl (by decide) (by decide) rfl) ?_;refine dq (za (hs:=[_,_,_,_]) zk ty9 rfl rfl (by decide) (by decide) rfl) ?_;refine dq (zI (cs:=[_,_,_,_,_,_]) zub pl97 rfl) ?_;refine de rfl (zj zub rfl fun b3=> ?_)
 refine de0 (zo zub rfl rfl rfl rfl rfl ?_)
 refine gz1 ?_;refine zf (zp 3 rfl) ?_;refine gz2 ?_;refine dq (zkZ (hs':=[zn5 zqT,zlY []]) ca35 rfl ⟨Weak.refl _,zQ 3,trivial⟩ (zqn (r:=zqT) (s:=[]) (by decide) (by decide) (by decide))) ?_;refine gz6 ?_;simp only [zst,zwe];refine gz1 ?_;refine dq (zI (cs:=[_,_,_]) zbN zAP rfl) ?_;refine dq (za (hs:=[_]) zff zbN rfl rfl (by decide) (by decide) rfl) ?_;refine dq (zI (cs:=[_,_]) zjv zAQ rfl) ?_;refine dq (za (hs:=[_]) zt5 zjv rfl rfl (by decide) (by decide) rfl) ?_;refine dq (zkZ (hs':=[zih [zg3],zmF [zke]]) ca36 rfl (WeakL.refl _) (zn0 (l:=[zg3]) (p:=[zke]) (by decide) (by decide))) ?_;refine gz8 ?_;simp only [zyI,zxS,zu0];refine zan ?_;refine uGr rfl (fun hc=>zD (j:=0) (a:=ztL) zua zoI rfl rfl rfl rfl) ?_;refine zcC ?_;refine uGr rfl (fun hc=>za (hs:=[_,_,_,_]) zk ty9 rfl rfl (by decide) (by decide) rfl) ?_;refine uGr rfl (fun hc=>uCl ca20 rfl (zgG (l:=[[97],[98],[98],[97]]) (m:=[[97],[98],[98],[97]]) (by decide))) ?_;refine zdC ?_;refine zw rfl ?_
 rfl
theorem zfH [Tracks] {l:List PairS} {y:PairS} (hl:l.length<=1000000):ConP prog 33 [zn4 l,zga y] (.int .i64 (zab (fun z=>zl3 zga y z) l 0)):=by
 refine uOb func33 ntmps33 ?_;refine zcC ?_;refine uT1 [4,2,8,11] (fun k=>[(8,.int .i64 k)]) (fun k=>[]) (fun k=>k<=l.length/\(zab (fun z=>zl3 zga y z) l 0=zab (fun z=>zl3 zga y z) (l.drop k) k)) (fun k=>l.length-k) (0) ?_ ?_;exact ⟨Ad _,rfl⟩;rintro k ⟨hk,hg⟩;refine gz4 ?_;refine uCo (fun h1=> ?_) fun h2=> ?_
 obtain ⟨x,hx⟩: ∃x,l[k]? =some x:=⟨_,Aa h1⟩
 have hdx:=zg hx;rw [hdx] at hg;refine gz8 ?_;refine uDr mixed ?_;refine gz5 ?_;refine uB 5 rfl (zrQ zpt eq58 rfl rfl ⟨rfl,⟨_,_,_,_,ty9,rfl⟩,⟨rfl,⟨_,_,_,_,ty9,rfl⟩,trivial⟩⟩) ?_;refine gz1 ?_;refine uCo (fun h3=> ?_) fun h4=> ?_
 refine gz5 ?_;refine uRp ?_
 first|(rw [hg];rfl)|(rw [hg,zab,if_pos (show zl3 zga y x=true from h3)])
 refine gz7 ?_;refine ⟨k+1,?_,?_,⟨rfl,trivial⟩,uK,Ab _⟩
 refine ⟨by omega,?_⟩
 rw [hg,zab,if_neg (by rw [show zl3 zga y x=false from h4];simp)];rfl
 dsimp only;omega
 have hnk:l.length<=k:=by omega
 obtain rfl:k=l.length:=by omega
 rw [zH (Ae _)] at hg;refine gz2 ?_;refine zt ?_;refine gz6 ?_;refine uRp ?_
 first|(rw [hg];rfl)|(rw [hg,zab,if_pos (show zl3 zga y x=true from h3)])
theorem ze4 [Tracks] {l:List PairS} {y:PairS} (hl:l.length<=1000000):ConP prog 11 [zn4 l,zga y] (.bool (l.any fun z=>zl3 zga y z)):=by
 refine uOb func11 ntmps11 ?_;refine gz7 ?_;refine dq (uCl ca33 rfl (zfH uS)) ?_;refine gz4 ?_;refine zw rfl ?_
 show HVal.bool _=_
 rw [<-zcW _ l 0 uO]
theorem zcJ [Tracks] {l:List Int} (hT:Tracks.on=false):ConP prog 3 [.slice 1 (l.map (.int .i64))] (.bool true):=by
 refine uOb func3 ntmps3 ?_;refine gz5 ?_;refine dq (zI (cs:=[_,_]) ty25 pl25 rfl) ?_;refine de rfl (zsC rfl rfl fun b=> ?_)
 refine zyn (M':=[St b l 0]) rfl ?_;refine gz4 ?_;refine de rfl (uCx 0 ca5 rfl rfl (zfh (a:=0) hT uO) ?_)
 rintro _ _ ⟨k19,a19,rfl,hz19,hc19,ha19,rfl⟩;refine gz1 ?_
 first
 |refine de rfl (uCx 0 ca6 rfl rfl (zC uS uS uS uS) ?_)
 |refine de rfl (uCx 1 ca6 rfl rfl (zC uS uS uS uS) ?_)
 |refine de rfl (uCx 2 ca6 rfl rfl (zC uS uS uS uS) ?_)
 |refine de rfl (uCx 3 ca6 rfl rfl (zC uS uS uS uS) ?_)
 rintro _ _ ⟨y21,rfl,hy21,rfl⟩;refine gz1 ?_;refine dq (za (hs:=[_,_]) zk ty9 rfl rfl (by decide) (by decide) rfl) ?_
 first
 |refine de rfl (uCx 0 ca7 rfl rfl (zi (L:=[_,_]) uS uS uS) ?_)
 |refine de rfl (uCx 1 ca7 rfl rfl (zi (L:=[_,_]) uS uS uS) ?_)
 |refine de rfl (uCx 2 ca7 rfl rfl (zi (L:=[_,_]) uS uS uS) ?_)
 |refine de rfl (uCx 3 ca7 rfl rfl (zi (L:=[_,_]) uS uS uS) ?_)
 rintro _ _ ⟨y24,rfl,hy24,rfl⟩;refine de rfl (zj zbr rfl fun b4=> ?_)
 refine de0 (zo zbr rfl rfl rfl rfl rfl ?_)
 refine gz3 ?_;refine zf (zp 4 rfl) ?_;have hnm:zT y21=true:=by simp [zT,out];omega
 obtain ⟨he0,hf0⟩:=zpJ hz19 hnm;have hbf:=zlE hz19;have hW:=zrd hz19;have hcl:=hc19.bb.ch;have hsl:=hW.sl;have hfl:(zgc k19 y21).length<=1000000:=by have:=zpI k19.League.Bounds (zbM k19.League.Bounds k19.Moves y21) y21 (zjk k19);have:=hbf.ps;rw [hf0];simp at*;omega
 have htc:k19.League.Teams.contains y24=true:=by simp at hy24;rcases hy24 with rfl|rfl;exact hc19.tt.1;exact hc19.tt.2
 have hE0:zdM k19 y24 1 y21=0:=by unfold zdM;rw [if_neg (fun q=>q hz19),if_neg (by rw [htc];simp),if_neg (by rw [hnm];decide)]
 have hwl:(zgt k19 y24 1 y21).length<=1000000:=by
  have:=hW.sl;unfold zgt;rw [if_neg (fun q=>q hE0)]
  cases zeH k19.Choices y24 1 y21 345686400000 with
  |none=>simp [zwn]
  |some c=>have:=zr8 k19 (rPl (zbM k19.League.Bounds k19.Moves y21) y24) c 1 k19.League.Slots.length;unfold zwn;dsimp only;omega
 refine gz1 ?_;refine dq (zbD (h:=zbW k19) zbr rfl rfl rfl rfl) ?_;refine gz1 ?_;refine dq (zau (h':= .tup [eSs (zgc k19 y21),.int .i64 0]) (uCl ca8 rfl (zqq (b:=k19) (n:=y21) hT hc19)) (by rw [he0])) ?_;refine gz7 ?_;refine dq (zbD (h:=zbW k19) zbr rfl rfl rfl rfl) ?_;refine gz2 ?_;refine dq (zau (h':= .tup [zn4 (zgt k19 y24 1 y21),.int .i64 0]) (uCl ca9 rfl (zoX (b:=k19) (t:=y24) (w:=1) (n:=y21) hT hc19)) (by rw [hE0])) ?_;refine ziK ?_;refine zaB rfl (fun h1=> ?_) (fun h1=> ?_)
 ·exfalso
  try simp at h1
  done
 ·try simp at h1
  refine gz5 ?_;refine dq (zap (h:=zfJ k19.Choices) zdG rfl rfl rfl) ?_;refine dq (zao (f:=zag) (l:=k19.Choices) zdG rfl) ?_;refine gz4 ?_;refine uT1 [2,1,11,4,48,49] (fun m=>[(11,.int .i64 ((m:Int)-1))]) (fun m=>[St b l (a19+1+1)]) (fun m=>m<=k19.Choices.length/\zeH k19.Choices y24 1 y21 345686400000=zeH (k19.Choices.take m) y24 1 y21 345686400000) (fun m=>m) (k19.Choices.length) ?_ ?_
  ·exact ⟨Ae _,by rw [An]⟩
  ·rintro m ⟨hm,hg⟩;refine gz5 ?_;refine uCo (fun h2=> ?_) fun h3=> ?_
   ·obtain ⟨j,rfl⟩: ∃j,m=j+1:=⟨m-1,by omega⟩
    obtain ⟨x,hx⟩: ∃x,k19.Choices[j]? =some x:=⟨_,Aa uO⟩
    have hxm:=hW.ch x (Ac hx);have hxl:=hxm.1;have hxa:x.At<345686400000:=by have:=zpZ hxm.2.2;omega
    rw [zaj hx,zeH,zeH,ztv] at hg;refine gz6 ?_;refine dq (zap (h:=zfJ k19.Choices) zdG rfl rfl rfl) ?_;refine gz1 ?_;refine dq (zD (f:=zag) (l:=k19.Choices) (j:=j) (a:=x) zdG zdh rfl rfl uO hx) ?_;refine gz1 ?_;refine de rfl (zj zdh rfl fun b12=> ?_)
    refine de0 (zo zdh rfl rfl rfl rfl rfl ?_)
    refine gz1 ?_;refine zf (zp 12 rfl) ?_;refine ztH ?_;refine uCo (fun h4=> ?_) fun h5=> ?_
    ·refine gz9 ?_;exact ⟨j,⟨by omega,by rw [zeH,zeH,hg,if_neg (fun q=>by simp [zhU] at q;obtain ⟨⟨⟨q1,q2⟩,q3⟩,q4⟩:=q;rcases h4 with (r|r)|r;exact r q1;exact r q2;omega)]⟩,uD,⟨zN uO,trivial⟩,uK,Ab _⟩
    ·refine gz5 ?_;refine dq (zap (h:=eSs x.Players) zk rfl rfl rfl) ?_;refine dq (zao (f:=HVal.str) (l:=x.Players) zk rfl) ?_;refine gz3 ?_;refine uT1 [2,1,13,2,75,22] (fun k=>[(75,.int .i64 k)]) (fun k=>[St b l (a19+1+1)]) (fun k=>k<=x.Players.length/\(True)) (fun k=>x.Players.length-k) (0) ?_ ?_
     ·exact ⟨Ad _,trivial⟩
     ·rintro k ⟨hk,-⟩;refine gz4 ?_;refine uCo (fun h6=> ?_) fun h7=> ?_
      ·obtain ⟨p,hp⟩: ∃p,x.Players[k]? =some p:=⟨_,Aa h6⟩
       have hdp:=zg hp;have hkl:=zl hp;refine gz6 ?_;refine dq (zD (f:=HVal.str) (l:=x.Players) (j:=k) (a:=p) zk ty9 rfl rfl rfl hp) ?_;refine gz7 ?_;refine dq (uCl zeG rfl (zv (l:=zgc k19 y21) (s:=p) uO)) ?_;refine gz4 ?_;refine uGr rfl (fun hc=>zap (h:=zft k19.League.Slots) zdF rfl rfl rfl) ?_;refine gz1 ?_;refine uGr rfl (fun hc=>by have hq:=hc;(try simp at hq);exact zD (f:=za6) (l:=k19.League.Slots) (j:=k) (a:=k19.League.Slots.getD k zjs) zdF zdc rfl rfl rfl (getD_some uO)) ?_;refine gz2 ?_;refine uGr rfl (fun hc=>zI (cs:=[_,_]) zpt pl58 rfl) ?_;refine uGr rfl (fun hc=>uCl ca11 rfl (ze4 (l:=(zgt k19 y24 1 y21)) (y:=(⟨(k19.League.Slots.getD k zjs).Key,zfB⟩:PairS)) hwl)) ?_;refine gz3 ?_;refine zaB rfl (fun h8=> ?_) (fun h8=> ?_)
       ·exfalso
        try simp at h8
        obtain ⟨hq1,hq2⟩:=h8;have hcx:zeH k19.Choices y24 1 y21 345686400000=some x:=by
         rw [zeH,hg,if_pos (by simp [zhU];exact ⟨h5,hxa⟩)]
        have hfg:=zuF hz19 (by decide) hnm htc hcx hp hq1;have hqe:=hq2 _ hfg
        simp [zl3,zeL,eqH,zb] at hqe
       ·try simp at h8
        refine gz7 ?_;exact ⟨k+1,⟨by omega,trivial⟩,uD,⟨rfl,trivial⟩,uK,Ab _⟩
      ·have hnk:x.Players.length<=k:=by omega
       obtain rfl:k=x.Players.length:=by omega
       refine gz2 ?_;refine zt ?_;refine gz5 ?_;refine zt ?_;refine gz3 ?_;refine dq (uCl ca12 rfl (zg5 hT)) ?_;refine gz3 ?_;refine zae Ghost.clear rfl ⟨?_,rfl⟩
       rfl
   ·refine gz2 ?_;refine zt ?_;refine gz3 ?_;refine dq (uCl ca12 rfl (zg5 hT)) ?_;refine gz3 ?_;refine zae Ghost.clear rfl ⟨?_,rfl⟩
    rfl
end
end Go.Proofs.YtahegdhbakjdoaaGreatDoor
namespace Go.HL
section
open Go
theorem zuI {P:Program} (h:P.funcs.toList.any Func.goes=false) (f:FuncId):P.goes f=false:=by
 have hf: ∀g:Nat,(P.funcs[g]?).any Func.goes=false:=fun g=>by
  cases hg:P.funcs[g]? with
  |none=>rfl
  |some fn=>
    have:fn∈P.funcs.toList:=by
     obtain ⟨hlt,rfl⟩:=Array.getElem?_eq_some_iff.1 hg
     simp
    have:=List.any_eq_false.1 h fn this
    simpa using this
 have ha:P.funcs.any Func.goes=false:=by rw [<-Array.any_toList];exact h
 unfold Program.goes;rw [ha,Bool.and_false,Bc];rw [B2]
 intro g _
 rw [hf g];simp
theorem goesBy_none {P:Program} {c:OpenClaim} (h:P.funcs.toList.any Func.goes=false):false=c.goesBy P:=by
 have hg:=zuI h;unfold OpenClaim.goesBy Program.goesAt Program.goesFrom;have h1:(P.funcNamed c.func).any P.goes=false:=by
  cases P.funcNamed c.func with
  |none=>rfl
  |some f=>exact hg f
 have h2:P.inits.toList.any P.goes=false:=List.any_eq_false.2 fun x _=>by rw [hg x];simp
 rw [h1]
 cases c.start<;>simp [h2,hg]
end
section
open Go
theorem zqB {H:Type} {enc:TypeId×Value->H} {a:Assume} {C:Checked} {os:Os} {f:FuncId} {fn:Func} {s:ChangeSpec} {conds:List PathCond} {apart fresh handsOn again:Bool} {X:World->Array Value->Prop}
 (hX: ∀(w w':World) (args:Array Value),w.heap=w'.heap->X w args->X w' args)
 (own:ownKnob C.prog.godebug=none) (started:os.Started) (noInit:C.prog.inits.idxOf? f=none) (hfn:C.prog.funcs[f]? =some fn)
 (witness: ∃(w:World) (tape:Tape) (i:Input),w.os=os/\(w.forCall tape i).Shaped C.prog/\i.vars=[]/\Input.okWide C.prog (w.forCall tape i) .any w.heap.size f i/\
   ((s.pre enc C.prog fn conds apart (w.forCall tape i).memory i.args/\X (w.forCall tape i).memory i.args)/\sizedMet enc C.prog fn (OpenSpec.ofChange s) apart (w.forCall tape i).memory i.args)/\a.holds C.prog (lone (Frame.enter C.prog f i.args .normal) [] (w.forCall tape i)))
 (contract: ∀(W:World) (base:Nat) (args:Array Value) (ds gs:List (DataW H)) (before:List MemPlace),
   (∀(j:Nat) t v,fn.params[j]? =some t->args[j]? =some v->Value.okWide C.prog W .any base t v)->DataW.Whole enc C.prog fn.params.toList s.vars apart W args.toList ds gs before->
   X W args->W.ShapedOpen C.prog->Calls C.prog f args W fun e W'=> ∃v,e= .returned v/\s.post enc C.prog fn apart fresh handsOn again W args v W'):
 ReturnsInHanded a C os f .any (fun w args=>(s.pre enc C.prog fn conds apart w args/\X w args)/\sizedMet enc C.prog fn (OpenSpec.ofChange s) apart w args) (s.post enc C.prog fn apart fresh handsOn again):=by
 refine returnsInHanded_of_calls own started noInit witness fun w tape i _ hsh _ hok hpre _=> ?_
 obtain ⟨_,_,_,fn',hfn',_,_,_,_,hval⟩:=hok;obtain rfl:fn'=fn:=Aw (hfn'.symm.trans hfn);obtain ⟨⟨⟨ds,gs,before,hw,_⟩,hx⟩,_⟩:=hpre;refine (contract (w.forCall tape i) w.heap.size i.args ds gs before hval (DataW.Whole.of_heap (w':=w.forCall tape i) (by rfl) hw) (hX _ _ _ (by rfl) hx) hsh).mono fun e W' ⟨v,he,hp⟩=> ?_
 subst he;exact ChangeSpec.post_blind hp
end
section
open Go.Sort Go.Proofs Go.RowKit Go.Lib
variable {P:Program}
theorem zr7 {W:World} {laid:List (String×DataW Unit)} {i3 i4 g3 g4 t5 t119 t138 t139:Nat} {fs:Array Field} (h:laidMet P laid W)
 (e3:laid[i3]? =some ("unicode/utf8.first",firstData)) (e4:laid[i4]? =some ("unicode/utf8.acceptRanges",acceptData))
 (n3:P.globalNamed "unicode/utf8.first" =some g3) (n4:P.globalNamed "unicode/utf8.acceptRanges" =some g4) (y3:(P.globals[g3]?).map (·.type)=some t119) (y4:(P.globals[g4]?).map (·.type)=some t139)
 (u5:P.underlying t5=some (.int .u8)) (u119:P.underlying t119=some (.array 256 t5)) (u138:P.underlying t138=some (.struct fs)) (u139:P.underlying t139=some (.array 16 t138))
 (c5:P.cellsOf t5=1) (c119:P.cellsOf t119=256) (c138:P.cellsOf t138=2) (hs:fs.size=2) (hf:(fs.toList.map fun f=>(f.type,f.offset))=[(t5,0),(t5,1)]):
 (∀c,c<256->W.cell? ⟨g3,c,none⟩=some (.int .u8 (Lib.firstT c)))/\(∀i,i<16->W.cell? ⟨g4,2*i,none⟩=some (.int .u8 (Lib.accLo i))/\W.cell? ⟨g4,2*i+1,none⟩=some (.int .u8 (Lib.accHi i))):=by
 obtain ⟨ps,h1,_⟩:=h;have h3:VarReads P W "unicode/utf8.first" firstData:=zpd h1 i3 e3;have h4:VarReads P W "unicode/utf8.acceptRanges" acceptData:=zpd h1 i4 e4;refine ⟨fun c hc=> ?_,fun i hi=> ?_⟩
 obtain ⟨g,t,cs,fuel,p,hg,hty,hvar,hd⟩:=h3;obtain rfl:=Aw (n3.symm.trans hg);obtain rfl:=Aw (y3.symm.trans hty);have hcs:=cells_of_tab u119 u5 c5 c119 hd;have:=World.var?_cell hg hvar c;rw [this,<-AS,hcs]
 simp [firstTab,hc]
 obtain ⟨g,t,cs,fuel,p,hg,hty,hvar,hd⟩:=h4;obtain rfl:=Aw (n4.symm.trans hg);obtain rfl:=Aw (y4.symm.trans hty);obtain ⟨fuel',d,q,hdi,he⟩:=array_elem u139 hd i hi;simp only [Ag,BB hi,AH,As] at hdi;subst hdi;rw [c138] at he;have hcs:=ints_of_struct u138 (fun j f hj=>by
  have hq:(fs.toList.map fun f=>(f.type,f.offset))[j]? =some (f.type,f.offset):=by rw [Ag,AS,hj];rfl
  rw [hf] at hq
  match j,hq with
  |0,hq=>simp at hq;exact ⟨by rw [<-hq.1];exact u5,hq.2.symm,by rw [<-hq.1];exact c5⟩
  |1,hq=>simp at hq;exact ⟨by rw [<-hq.1];exact u5,hq.2.symm,by rw [<-hq.1];exact c5⟩
  |j+2,hq=>simp at hq) (by rw [c138,hs]) he
 have a0:=congrArg (·[0]?) hcs;have a1:=congrArg (·[1]?) hcs;simp only [A7,AJ] at a0 a1
 constructor
 rw [World.var?_cell hg hvar (2*i),<-AS]
 simpa [BA] using a0
 rw [World.var?_cell hg hvar (2*i+1),<-AS]
 simpa [BA] using a1
theorem zr2 [Tracks] {W:World} (hp:P.globalNamed "internal/strconv.uint64pow10" =none)
 (hl: ∀g,P.globalNamed "internal/bytealg.MaxLen" =some g->∃m,W.cell? ⟨g,0,none⟩=some (.int .i64 m))
 (hu: ∀g3 g4,P.globalNamed "unicode/utf8.first" =some g3->P.globalNamed "unicode/utf8.acceptRanges" =some g4->(∀c,c<256->W.cell? ⟨g3,c,none⟩=some (.int .u8 (Lib.firstT c)))/\(∀i,i<16->W.cell? ⟨g4,2*i,none⟩=some (.int .u8 (Lib.accLo i))/\W.cell? ⟨g4,2*i+1,none⟩=some (.int .u8 (Lib.accHi i)))):TabI P (zbX W):=by
 refine ⟨fun g hg=>(by rw [hp] at hg;cases hg),fun g hg=> ?_,fun g3 g4 h3 h4=> ?_⟩
 obtain ⟨m,hm⟩:=hl g hg;unfold World.cell? at hm
 cases hh:W.heap[g]? with
 |none=>rw [hh] at hm;cases hm
 |some o=>
   rw [hh] at hm
   cases o with
   |cells c t fr=>exact ⟨c,t,fr,m,hh,by simpa using hm⟩
   |_=>cases hm
 obtain ⟨u1,u2⟩:=hu g3 g4 h3 h4;have key: ∀(g:Nat) (v:Value),W.cell? ⟨g,0,none⟩=some v->∃c t fr,W.heap[g]? =some (.cells c t fr):=fun g v hv=>by
  unfold World.cell? at hv
  cases hh:W.heap[g]? with
  |none=>rw [hh] at hv;cases hv
  |some o=>
    rw [hh] at hv
    cases o with
    |cells c t fr=>exact ⟨c,t,fr,rfl⟩
    |_=>cases hv
 obtain ⟨c3,t3,f3,x3⟩:=key g3 _ (u1 0 (by omega));obtain ⟨c4,t4,f4,x4⟩:=key g4 _ (u2 0 (by omega)).1;refine ⟨c3,t3,f3,c4,t4,f4,x3,x4,fun k hk=> ?_,fun i hi=> ?_⟩
 rw [<-zbF x3];exact u1 k hk;exact ⟨by rw [<-zbF x4];exact (u2 i hi).1,by rw [<-zbF x4];exact (u2 i hi).2⟩
end
end Go.HL
