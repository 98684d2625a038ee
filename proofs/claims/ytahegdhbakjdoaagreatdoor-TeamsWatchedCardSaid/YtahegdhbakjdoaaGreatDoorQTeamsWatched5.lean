/- Part 5 of the proof: contracts of functions and plain facts; no conditions. -/
import Derived.Test.YtahegdhbakjdoaaGreatDoorQTeamsWatched4
import Derived.Calls
import Derived.Handed
import Derived.LaidMore
import Derived.Lay
import Derived.Lib.LaidU8
import Derived.OpenShut
import Derived.ProofKit
import Derived.SevenTiedAt
import Derived.Shelf.Vars
import Derived.Stop.Joined
import GoSem.ClaimGoes
set_option linter.unusedVariables false
set_option linter.unusedSimpArgs false
set_option maxHeartbeats 16000000
namespace Go.Proofs.YtahegdhbakjdoaaGreatDoor
set_option maxRecDepth 100000
set_option linter.unusedVariables false
set_option linter.unusedSimpArgs false
section
open Go.Proofs.Tryz
open Go.HL
theorem zhf [Tracks] {b:Nat} {l:List Int} {a:Nat} {lo hi:Int} (ha:a<=900000) (hlh:lo<=hi) (h0: -1000000000<=lo) (h1:hi<=1000000000):Con prog 118 [pAt b,.int .i64 lo,.int .i64 hi] [St b l a] (fun x M'=> ∃y:Int,x= .int .i64 y/\(-2000000000000<=y/\y<=2000000000000)/\M'=[St b l (a+2)]):=by
 refine uOb func118 ntmps118 ?_;refine gz6 ?_;refine de rfl (uCx 0 zeb rfl rfl (zI uS uS) ?_)
 rintro _ _ ⟨y8,rfl,rfl⟩;refine gz1 ?_;refine uCo (fun h1=> ?_) fun h2=> ?_
 refine gz8 ?_;refine dq (za (hs:=[_,_,_,_,_,_]) zad ty3 rfl rfl (by decide) (by decide) rfl) ?_;refine de rfl (uCx 0 zaI rfl rfl (zf (L:=[_,_,_,_,_,_]) uS uS uS) ?_)
 rintro _ _ ⟨y17,rfl,hy17,rfl⟩;refine gz3 ?_;exact zaf rfl ⟨_,rfl,by simp at hy17;rcases hy17 with rfl|rfl|rfl|rfl|rfl|rfl<;>omega,rfl⟩;refine gz6 ?_;refine de rfl (uCx 0 ca6 rfl rfl (zS uS uS uS uS) ?_)
 rintro _ _ ⟨y21,rfl,hy21,rfl⟩;refine gz3 ?_;exact zaf rfl ⟨_,rfl,by omega,rfl⟩
theorem zez [Tracks] {l:List HealthS} {fid:FuncId} {caps:List HVal} {p:HealthS->Bool} {v:Value} (hca:Callable prog fid) (hp: ∀x,ConP prog fid ([zb9 x]++caps) (.bool (p x))) (hl:l.length<=1000000):Con prog 202 [.raw v,.fn (.func fid) [] caps] [.arr v 4 (l.map zb9)] (fun x M'=> ∃u,x= .raw u/\M'=[.arr u 4 ((l.filter (fun x=> !p x)).map zb9)]):=by
 refine uOb func202 ntmps202 ?_;refine gz6 ?_;refine de rfl (zjl (hs':=[.slice 4 (l.map zb9),.fn (.func fid) [] caps]) zzN rfl ⟨.arr (i:=0) rfl,.weak (Weak.refl _),trivial⟩ (zeI (p:=p) hca hp hl) rfl ?_)
 refine gz7 ?_;refine uCo (fun h1=> ?_) fun h2=> ?_
 ·refine gz5 ?_
  (refine zaf rfl ⟨_,rfl,?_⟩
   rw [zgy p l 0 uO h1]
   done)
 ·refine gz3 ?_;obtain ⟨i0,hi0,hil,⟨x0,hx0,hp0⟩,hb0⟩:=zgW p l 0 uO h2;rw [Int.zero_add] at hi0;obtain ⟨hD0,hn0⟩:=DelInv.start (p:=p) hil hx0 hp0 hb0;refine zc4 (i:=0) rfl (fun h0 he=> ?_) (fun b off cap hv hcap=> ?_)
  ·exfalso;have:=congrArg List.length he;simp at this;subst this;simp at hil
  rw [Ag] at hv hcap;subst hv;refine gz2 ?_;refine dq (zaq (zbf rfl rfl (by rw [hi0];omega) (by rw [hi0];omega)) (congrArg _ (by rw [hi0]))) ?_;refine gz3 ?_;refine uV2 [5,3,16,20] (fun (j:Nat) (D:List HealthS)=>[(6,.int .i64 (j:Int)),(5,.int .i64 (((l.take j).filter (fun x=> !p x)).length:Int))]) (fun (j:Nat) (D:List HealthS)=>[.arr (.slice (some ⟨b,off,none⟩) l.length cap) 4 (D.map zb9)]) (fun (j:Nat) (D:List HealthS)=>DelInv p l j D) (fun (j:Nat) (D:List HealthS)=>l.length-j) (i0+1) (l) ?_ ?_ ?_ ?_
  ·exact hD0
  ·exact ⟨rfl,zW (by rw [hn0,hi0]),trivial⟩
  ·exact Ab _
  ·intro j D hD
   have hlt0:=hD.lt;have hle0:=hD.len;refine gz4 ?_;refine de rfl (za6 (i:=0) zf0 rfl rfl ?_)
   refine gz2 ?_;refine uCo (fun h3=> ?_) fun h4=> ?_
   ·obtain ⟨x,hx⟩: ∃x,l[j]? =some x:=⟨_,Aa uO⟩
    refine gz7 ?_;refine dq (zM (j:=j) zf0 zbN rfl rfl rfl uO) ?_;refine de rfl (zao (i:=0) (j:=j) zbN rfl rfl rfl (hD.get hx) rfl rfl rfl ?_)
    refine de rfl (zq zbN rfl fun b7=> ?_)
    refine de0 (zz zbN rfl rfl rfl rfl rfl ?_)
    refine gz1 ?_;refine zl (zD 7 rfl) ?_;refine gz3 ?_;refine dq (zaB hca rfl rfl (WeakL.refl _) (hp _)) ?_;refine gz2 ?_;refine uCo (fun h5=> ?_) fun h6=> ?_
    ·refine gz4 ?_;refine dq (zM (j:=((l.take j).filter (fun x=> !p x)).length) zf0 zbN rfl rfl rfl (by have:=hD.lt;omega)) ?_;refine de0 (zbh (i:=0) (j:=((l.take j).filter (fun x=> !p x)).length) (y:=D[((l.take j).filter (fun x=> !p x)).length]'(by have:=hD.lt;have:=hD.len;omega)) (y':=x) zbN rfl rfl rfl rfl (Aa _) rfl rfl rfl ?_)
     refine gz3 ?_;refine dq (zbf rfl rfl uO (by have:=hD.lt;omega)) ?_;refine gz9 ?_;exact ⟨j+1,_,(hD.keep hx uSa).1,uD,⟨rfl,zW (by rw [(hD.keep hx uSa).2];rfl),trivial⟩,uK,Ab _⟩
    ·refine gz8 ?_;exact ⟨j+1,_,(hD.skip hx uSa).1,uD,⟨rfl,zW (by rw [(hD.skip hx uSa).2]),trivial⟩,uK,Ab _⟩
   ·obtain rfl:j=l.length:=by have:=hD.jle;omega
    have hend:=hD.done;refine gz2 ?_;refine zY ?_;refine gz5 ?_;refine dq (zeF (l:=((l.take l.length).filter (fun x=> !p x)).length) zf0 zbN rfl ⟨_,_,rfl,rfl⟩ rfl uO uO hcap) ?_;refine de0 (zet (i:=0) (m:=((l.take l.length).filter (fun x=> !p x)).length) (((l.take l.length).filter (fun x=> !p x)).length) zf0 zbN rfl rfl rfl (zhs uO hcap) rfl uO (Af _) (by rw [Ag,hD.len];omega) ?_)
    refine gz4 ?_;refine dq (zfK (h:=((l.take l.length).filter (fun x=> !p x)).length) zf0 zbN rfl ⟨_,_,rfl,rfl⟩ uO) ?_;refine gz3 ?_
    (refine zaf rfl ⟨_,rfl,?_⟩
     rw [Aw,<-Bu,hend];rfl)
theorem ze9 [Tracks] {l:List StintS} {fid:FuncId} {caps:List HVal} {p:StintS->Bool} (hca:Callable prog fid) (hp: ∀x,ConP prog fid ([zcW x]++caps) (.bool (p x))) (hl:l.length<=1000000):ConP prog 301 [.slice 3 (l.map zcW),.fn (.func fid) [] caps] (.int .i64 (zag p l 0)):=by
 refine uOb func301 ntmps301 ?_;refine zaD ?_;refine uT1 [4,2,8,11] (fun k=>[(8,.int .i64 k)]) (fun k=>[]) (fun k=>k<=l.length/\(zag p l 0=zag p (l.drop k) k)) (fun k=>l.length-k) (0) ?_ ?_;exact ⟨Ad _,rfl⟩;rintro k ⟨hk,hg⟩;refine gz4 ?_;refine uCo (fun h1=> ?_) fun h2=> ?_
 obtain ⟨x,hx⟩: ∃x,l[k]? =some x:=⟨_,Aa h1⟩
 have hdx:=zt hx;rw [hdx] at hg;refine zeu ?_;refine dq (zaB hca rfl rfl (WeakL.refl _) (hp _)) ?_;refine gz1 ?_;refine uCo (fun h3=> ?_) fun h4=> ?_
 refine gz5 ?_;refine uRp ?_
 (rw [hg];simp_all [zag])
 refine gz7 ?_;refine ⟨k+1,?_,?_,⟨rfl,trivial⟩,uK,Ab _⟩
 refine ⟨by omega,?_⟩
 rw [hg,zag,if_neg uSa];rfl
 dsimp only;omega
 have hnk:l.length<=k:=by omega
 obtain rfl:k=l.length:=by omega
 rw [zP (Af _)] at hg;refine gz2 ?_;refine zG ?_;refine gz6 ?_;refine uRp ?_
 (rw [hg];rfl)
theorem zeV [Tracks] {l:List StintS} {fid:FuncId} {caps:List HVal} {p:StintS->Bool} {v:Value} (hca:Callable prog fid) (hp: ∀x,ConP prog fid ([zcW x]++caps) (.bool (p x))) (hl:l.length<=1000000):Con prog 248 [.raw v,.fn (.func fid) [] caps] [.arr v 3 (l.map zcW)] (fun x M'=> ∃u,x= .raw u/\M'=[.arr u 3 ((l.filter (fun x=> !p x)).map zcW)]):=by
 refine uOb func248 ntmps248 ?_;refine gz6 ?_;refine de rfl (zjl (hs':=[.slice 3 (l.map zcW),.fn (.func fid) [] caps]) zz4 rfl ⟨.arr (i:=0) rfl,.weak (Weak.refl _),trivial⟩ (ze9 (p:=p) hca hp hl) rfl ?_)
 refine gz7 ?_;refine uCo (fun h1=> ?_) fun h2=> ?_
 ·refine gz5 ?_
  (refine zaf rfl ⟨_,rfl,?_⟩
   rw [zgy p l 0 uO h1]
   done)
 ·refine gz3 ?_;obtain ⟨i0,hi0,hil,⟨x0,hx0,hp0⟩,hb0⟩:=zgW p l 0 uO h2;rw [Int.zero_add] at hi0;obtain ⟨hD0,hn0⟩:=DelInv.start (p:=p) hil hx0 hp0 hb0;refine zc4 (i:=0) rfl (fun h0 he=> ?_) (fun b off cap hv hcap=> ?_)
  ·exfalso;have:=congrArg List.length he;simp at this;subst this;simp at hil
  rw [Ag] at hv hcap;subst hv;refine gz2 ?_;refine dq (zaq (zbf rfl rfl (by rw [hi0];omega) (by rw [hi0];omega)) (congrArg _ (by rw [hi0]))) ?_;refine gz3 ?_;refine uV2 [5,3,16,20] (fun (j:Nat) (D:List StintS)=>[(6,.int .i64 (j:Int)),(5,.int .i64 (((l.take j).filter (fun x=> !p x)).length:Int))]) (fun (j:Nat) (D:List StintS)=>[.arr (.slice (some ⟨b,off,none⟩) l.length cap) 3 (D.map zcW)]) (fun (j:Nat) (D:List StintS)=>DelInv p l j D) (fun (j:Nat) (D:List StintS)=>l.length-j) (i0+1) (l) ?_ ?_ ?_ ?_
  ·exact hD0
  ·exact ⟨rfl,zW (by rw [hn0,hi0]),trivial⟩
  ·exact Ab _
  ·intro j D hD
   have hlt0:=hD.lt;have hle0:=hD.len;refine gz4 ?_;refine de rfl (za6 (i:=0) zcB rfl rfl ?_)
   refine gz2 ?_;refine uCo (fun h3=> ?_) fun h4=> ?_
   ·obtain ⟨x,hx⟩: ∃x,l[j]? =some x:=⟨_,Aa uO⟩
    refine gz7 ?_;refine dq (zM (j:=j) zcB zbY rfl rfl rfl uO) ?_;refine de rfl (zao (i:=0) (j:=j) zbY rfl rfl rfl (hD.get hx) rfl rfl rfl ?_)
    refine de rfl (zq zbY rfl fun b7=> ?_)
    refine de0 (zz zbY rfl rfl rfl rfl rfl ?_)
    refine gz1 ?_;refine zl (zD 7 rfl) ?_;refine gz3 ?_;refine dq (zaB hca rfl rfl (WeakL.refl _) (hp _)) ?_;refine gz2 ?_;refine uCo (fun h5=> ?_) fun h6=> ?_
    ·refine gz4 ?_;refine dq (zM (j:=((l.take j).filter (fun x=> !p x)).length) zcB zbY rfl rfl rfl (by have:=hD.lt;omega)) ?_;refine de0 (zbh (i:=0) (j:=((l.take j).filter (fun x=> !p x)).length) (y:=D[((l.take j).filter (fun x=> !p x)).length]'(by have:=hD.lt;have:=hD.len;omega)) (y':=x) zbY rfl rfl rfl rfl (Aa _) rfl rfl rfl ?_)
     refine gz3 ?_;refine dq (zbf rfl rfl uO (by have:=hD.lt;omega)) ?_;refine gz9 ?_;exact ⟨j+1,_,(hD.keep hx uSa).1,uD,⟨rfl,zW (by rw [(hD.keep hx uSa).2];rfl),trivial⟩,uK,Ab _⟩
    ·refine gz8 ?_;exact ⟨j+1,_,(hD.skip hx uSa).1,uD,⟨rfl,zW (by rw [(hD.skip hx uSa).2]),trivial⟩,uK,Ab _⟩
   ·obtain rfl:j=l.length:=by have:=hD.jle;omega
    have hend:=hD.done;refine gz2 ?_;refine zY ?_;refine gz5 ?_;refine dq (zeF (l:=((l.take l.length).filter (fun x=> !p x)).length) zcB zbY rfl ⟨_,_,rfl,rfl⟩ rfl uO uO hcap) ?_;refine de0 (zet (i:=0) (m:=((l.take l.length).filter (fun x=> !p x)).length) (((l.take l.length).filter (fun x=> !p x)).length) zcB zbY rfl rfl rfl (zhs uO hcap) rfl uO (Af _) (by rw [Ag,hD.len];omega) ?_)
    refine gz4 ?_;refine dq (zfK (h:=((l.take l.length).filter (fun x=> !p x)).length) zcB zbY rfl ⟨_,_,rfl,rfl⟩ uO) ?_;refine gz3 ?_
    (refine zaf rfl ⟨_,rfl,?_⟩
     rw [Aw,<-Bu,hend];rfl)
theorem zej [Tracks] {x:HealthS}:ConP prog 120 [zb9 x] (.str x.Player):=by
 refine uOb func120 ntmps120 ?_;refine zaD ?_;refine zC rfl ?_
 rfl
theorem zlO [Tracks] {L:List PlayerS} {x:HealthS} (hL:L.length<=1000000):ConP prog 203 [zb9 x,.vptr [zaC L] 0,.vptr [.fn (.func 120) [] []] 0] (.bool (ofB L x.Player)):=by
 refine uOb func203 ntmps203 ?_;refine gz4 ?_;refine uDr mixed ?_;refine gz3 ?_;refine uB 3 rfl (zaB zwb rfl rfl (WeakL.refl _) (zej (x:=x))) ?_;refine uB 4 rfl (uCl zq2 rfl (zcm (l:=L) (s:=x.Player) hL)) ?_;refine gz4 ?_;refine uGy 9 rfl rfl (fun hc=>zaB zwb rfl rfl (WeakL.refl _) (zej (x:=x))) ?_;refine gz5 ?_;refine zC rfl ?_;refine congrArg _ ?_;unfold ofB
 cases decide (zag (fun x_1:PlayerS=>x_1.Key==x.Player) L 0<0)
 rfl
 rfl
theorem znh [Tracks] {L:List PlayerS} {l:List HealthS} {v:Value} (hL:L.length<=1000000) (hl:l.length<=1000000):Con prog 119 [zaC L,.raw v,.fn (.func 120) [] []] [.arr v 4 (l.map zb9)] (fun x M'=> ∃u,x= .raw u/\M'=[.arr u 4 ((l.filter fun x=> !(ofB L x.Player)).map zb9)]):=by
 refine uOb func119 ntmps119 ?_;refine gz8 ?_;refine de rfl (uCx 0 zzo rfl rfl (zez (l:=l) (p:=fun x=>ofB L x.Player) zzp (fun _=>zlO hL) hl) ?_)
 rintro _ _ ⟨u9,rfl,rfl⟩;refine gz3 ?_;exact zaf rfl ⟨u9,rfl,rfl⟩
theorem zek [Tracks] {x:StintS}:ConP prog 195 [zcW x] (.str x.Player):=by
 refine uOb func195 ntmps195 ?_;refine zaD ?_;refine zC rfl ?_
 rfl
theorem zmP [Tracks] {L:List PlayerS} {x:StintS} (hL:L.length<=1000000):ConP prog 249 [zcW x,.vptr [zaC L] 0,.vptr [.fn (.func 195) [] []] 0] (.bool (ofB L x.Player)):=by
 refine uOb func249 ntmps249 ?_;refine gz4 ?_;refine uDr mixed ?_;refine gz3 ?_;refine uB 3 rfl (zaB zwp rfl rfl (WeakL.refl _) (zek (x:=x))) ?_;refine uB 4 rfl (uCl zq2 rfl (zcm (l:=L) (s:=x.Player) hL)) ?_;refine gz4 ?_;refine uGy 9 rfl rfl (fun hc=>zaB zwp rfl rfl (WeakL.refl _) (zek (x:=x))) ?_;refine gz5 ?_;refine zC rfl ?_;refine congrArg _ ?_;unfold ofB
 cases decide (zag (fun x_1:PlayerS=>x_1.Key==x.Player) L 0<0)
 rfl
 rfl
theorem znV [Tracks] {L:List PlayerS} {l:List StintS} {v:Value} (hL:L.length<=1000000) (hl:l.length<=1000000):Con prog 193 [zaC L,.raw v,.fn (.func 195) [] []] [.arr v 3 (l.map zcW)] (fun x M'=> ∃u,x= .raw u/\M'=[.arr u 3 ((l.filter fun x=> !(ofB L x.Player)).map zcW)]):=by
 refine uOb func193 ntmps193 ?_;refine gz8 ?_;refine de rfl (uCx 0 zzK rfl rfl (zeV (l:=l) (p:=fun x=>ofB L x.Player) zzL (fun _=>zmP hL) hl) ?_)
 rintro _ _ ⟨u9,rfl,rfl⟩;refine gz3 ?_;exact zaf rfl ⟨u9,rfl,rfl⟩
theorem zhE [Tracks] {b:Nat} {l:List Int} {a:Nat} {L:List PlayerS} (ha:a<=700000) (hL:L.length<=1000000):Con prog 56 [pAt b,zaC L] [St b l a] (fun x M'=> ∃k a',x=zbw k/\GoodHes k/\a'<=a+150/\M'=[St b l a']):=by
 refine uOb func56 ntmps56 ?_;refine gz6 ?_;refine zl (zQ 4) ?_;refine gz2 ?_;refine dq (za (hs:=[_,_,_,_,_]) zu ty9 rfl rfl (by decide) (by decide) rfl) ?_;refine dq (zaw (f:=HVal.str) (l:=nm5) zu rfl) ?_;refine gz3 ?_;refine uV2 [5,1,7,3,12,47] (fun (k:Nat) (q:GL HealthS)=>[(12,.int .i64 k),(5,.raw q.u)]) (fun (k:Nat) (q:GL HealthS)=>[St b l q.a,.arr q.u 4 (q.out.map zb9)]) (fun (k:Nat) (q:GL HealthS)=>k<=nm5.length/\(GLok zqK (2*k) (a+24*k) q)) (fun (k:Nat) (q:GL HealthS)=>nm5.length-k) (0) (⟨.slice none 0 0,[],a⟩) ?_ ?_ ?_ ?_;exact ⟨Ad _,⟨by simp,by simp,uD⟩⟩;exact ⟨rfl,rfl,trivial⟩;exact uP
 intro k q hinv
 obtain ⟨hk,hq⟩:=hinv;have hlen:nm5.length=5:=rfl;obtain ⟨u,out,a2⟩:=q;obtain ⟨g1,g2,g3⟩:=id hq;dsimp only at g1 g2 g3;refine gz4 ?_;refine uCo (fun h1=> ?_) fun h2=> ?_
 obtain ⟨x,hx⟩: ∃x,nm5[k]? =some x:=⟨_,Aa h1⟩
 have hdx:=zt hx;refine gz5 ?_;refine dq (zK (f:=HVal.str) (l:=nm5) (j:=k) (a:=x) zu ty9 rfl rfl rfl hx) ?_;refine gz5 ?_;refine de rfl (uCx 0 ca6 rfl rfl (zS uS uS uS uS) ?_)
 rintro _ _ ⟨y17,rfl,hy17,rfl⟩;refine gz4 ?_;refine de rfl (uCx 0 ca6 rfl rfl (zS uS uS uS uS) ?_)
 rintro _ _ ⟨y19,rfl,hy19,rfl⟩;refine gz3 ?_;refine uV3 [5,1,8,2,20,38] (fun (n:Nat) (wk:Int) (q2:GL HealthS)=>[(20,.int .i64 (n:Int)),(8,.int .i64 wk),(5,.raw q2.u)]) (fun (n:Nat) (wk:Int) (q2:GL HealthS)=>[St b l q2.a,.arr q2.u 4 (q2.out.map zb9)]) (fun (n:Nat) (wk:Int) (q2:GL HealthS)=>(n:Int)<=y19/\(1<=wk/\wk<=3+4*n)/\GLok zqK (2*k+n) (a+24*k+2+11*n) q2) (fun (n:Nat) (wk:Int) (q2:GL HealthS)=>y19.toNat-n) (0) (y17) (⟨u,out,a2+2⟩) ?_ ?_ ?_ ?_;exact ⟨by omega,by omega,⟨uD,g2,uD⟩⟩;exact ⟨rfl,rfl,rfl,trivial⟩;exact uP
 intro n wk q2 hinv
 obtain ⟨hn,hw,hq2⟩:=hinv;obtain ⟨u,out,a2⟩:=q2;obtain ⟨g1,g2,g3⟩:=id hq2;dsimp only at g1 g2 g3;refine gz4 ?_;refine uCo (fun h3=> ?_) fun h4=> ?_
 refine gz9 ?_;refine de rfl (uCx 0 ca6 rfl rfl (zS uS uS uS uS) ?_)
 rintro _ _ ⟨y26,rfl,hy26,rfl⟩;refine gz2 ?_;refine dq (za (hs:=[_,_]) zad ty3 rfl rfl (by decide) (by decide) rfl) ?_;refine de rfl (uCx 0 zaI rfl rfl (zf (L:=[_,_]) uS uS uS) ?_)
 rintro _ _ ⟨y30,rfl,hy30,rfl⟩;refine dq (zO (cs:=[_,_,_,_]) zbN zAh rfl) ?_;refine de rfl (zq zbN rfl fun b9=> ?_)
 refine de0 (uY 0 ?_)
 refine gz1 ?_;refine zbu (fun M=> ∃i:Nat,M[i]? =some (.cells b9 (zd (zb9 (⟨x,wk,wk+y26,y30⟩:HealthS))))) [1] mixed ?_;refine gz1 ?_;refine uM 1 rfl ⟨0,rfl⟩ (fun M hM=>by obtain ⟨i,hi⟩:=hM;exact zV (i:=i) (h:= .int .i64 (wk+y26)) ty3 rfl hi (.inl ⟨rfl,rfl⟩) ⟨rfl,rfl⟩) ?_;refine gz1 ?_;refine uF 3 ?_;refine zA rfl (uCx 1 ca6 rfl rfl (zS uS uS uS uS) ?_)
 rintro _ _ ⟨y35,rfl,hy35,rfl⟩;refine ⟨uE,?_⟩
 refine gz3 ?_;refine uVj [37,16] (fun (q4:HealthS×Nat)=>[]) (fun (q4:HealthS×Nat)=>[St b l q4.2,.arr u 4 (out.map zb9),.cells b9 (zd (zb9 q4.1))]) (fun (q4:HealthS×Nat)=>zqK q4.1/\q4.2<=a2+11) ?_ ?_
 skip
 refine gz2 ?_;refine de rfl (uCx 0 zeb rfl rfl (zI uS uS) ?_)
 rintro _ _ ⟨y38,rfl,rfl⟩;refine gz1 ?_;refine uCo (fun h5=> ?_) fun h6=> ?_
 refine gz3 ?_;refine dq (za (hs:=[_,_]) zu ty9 rfl rfl (by decide) (by decide) rfl) ?_;refine de rfl (uCx 0 ca7 rfl rfl (zp (L:=[_,_]) uS uS uS) ?_)
 rintro _ _ ⟨y42,rfl,hy42,rfl⟩;refine gz1 ?_;refine de rfl (uCx 0 zkJ rfl rfl (zhf uS uS uS uS) ?_)
 rintro _ _ ⟨y44,rfl,hy44,rfl⟩;refine gz1 ?_;refine de rfl (uCx 0 zkJ rfl rfl (zhf uS uS uS uS) ?_)
 rintro _ _ ⟨y46,rfl,hy46,rfl⟩;refine gz1 ?_;refine de rfl (uCx 0 zkJ rfl rfl (zhf uS uS uS uS) ?_)
 rintro _ _ ⟨y48,rfl,hy48,rfl⟩;refine gz1 ?_;refine de0 (uY 1 ?_)
 refine gz1 ?_;refine de0 (uY 1 ?_)
 refine gz1 ?_;refine de0 (uY 1 ?_)
 refine gz1 ?_;refine de0 (uY 1 ?_)
 refine gz1 ?_;exact ⟨((⟨y42,y44,y46,y48⟩:HealthS),a2+11),⟨⟨uD,uD⟩,uD⟩,trivial,uK,uP⟩;refine gz1 ?_;exact ⟨((⟨x,wk,wk+y26,y30⟩:HealthS),a2+4),⟨⟨uD,uD⟩,uD⟩,trivial,uK,uP⟩
 intro q4 hq4
 obtain ⟨x5,a5⟩:=q4;obtain ⟨hx5,ha5⟩:=hq4;dsimp only at hx5 ha5;refine zl (zbi 9 (i:=2) rfl rfl) ?_;refine gz3 ?_;refine dq (za (hs:=[_]) zf0 zbN rfl rfl (by decide) (by decide) rfl) ?_;refine de rfl (zN (i:=1) zf0 zbN rfl rfl rfl rfl rfl (by simp [zal,zd,zaR,za8]) uSo fun v56=> ?_)
 refine gz8 ?_;exact ⟨n+1,wk+y26+y35,⟨v56,out++[x5],a5⟩,⟨by omega,⟨by omega,by omega⟩,hq2.add (x:=x5) hx5 uO⟩,uD,⟨rfl,rfl,rfl,trivial⟩,uK,uP⟩;refine gz2 ?_;refine zdz ?_;refine gz7 ?_;exact ⟨k+1,⟨u,out,a2⟩,⟨by omega,hq2.mono uO uO⟩,uD,⟨rfl,rfl,trivial⟩,uK,uP⟩;have hnk:nm5.length<=k:=by omega
 obtain rfl:k=nm5.length:=by omega
 refine gz2 ?_;refine zY ?_;refine gz5 ?_;refine de rfl (uCx 1 zyE rfl rfl (znh (L:=L) (l:=out) hL uO) ?_)
 rintro _ _ ⟨u61,rfl,rfl⟩;refine gz3 ?_;exact zB (zap 4 (i:=0) rfl rfl) rfl ⟨_,a2,rfl,GoodHes.filter uO g2,by omega,rfl⟩
theorem zh6 [Tracks] {b:Nat} {l:List Int} {a:Nat} (ha:a<=700000):Con prog 194 [pAt b] [St b l a] (fun x M'=> ∃(u:Value) (k:List StintS) (a':Nat),x= .raw u/\k.length<=10/\a'<=a+100/\M'=[.arr u 3 (k.map zcW),St b l a']):=by
 refine uOb func194 ntmps194 ?_;refine gz6 ?_;refine zl (zQ 3) ?_;refine gz2 ?_;refine dq (za (hs:=[_,_,_,_,_]) zu ty9 rfl rfl (by decide) (by decide) rfl) ?_;refine dq (zaw (f:=HVal.str) (l:=nm5) zu rfl) ?_;refine gz3 ?_;refine uV2 [3,1,5,3,10,40] (fun (k:Nat) (q:GL StintS)=>[(10,.int .i64 k),(3,.raw q.u)]) (fun (k:Nat) (q:GL StintS)=>[St b l q.a,.arr q.u 3 (q.out.map zcW)]) (fun (k:Nat) (q:GL StintS)=>k<=nm5.length/\(GLok (fun _=>True) (2*k) (a+20*k) q)) (fun (k:Nat) (q:GL StintS)=>nm5.length-k) (0) (⟨.slice none 0 0,[],a⟩) ?_ ?_ ?_ ?_
 ·exact ⟨Ad _,⟨by simp,by simp,uD⟩⟩
 ·exact ⟨rfl,rfl,trivial⟩
 ·exact uP
 ·intro k q hinv
  obtain ⟨hk,hq⟩:=hinv;have hlen:nm5.length=5:=rfl;obtain ⟨u,out,a2⟩:=q;obtain ⟨g1,g2,g3⟩:=id hq;dsimp only at g1 g2 g3;refine gz4 ?_;refine uCo (fun h1=> ?_) fun h2=> ?_
  ·obtain ⟨x,hx⟩: ∃x,nm5[k]? =some x:=⟨_,Aa h1⟩
   have hdx:=zt hx;refine gz5 ?_;refine dq (zK (f:=HVal.str) (l:=nm5) (j:=k) (a:=x) zu ty9 rfl rfl rfl hx) ?_;refine gz5 ?_;refine de rfl (uCx 0 ca6 rfl rfl (zS uS uS uS uS) ?_)
   rintro _ _ ⟨y15,rfl,hy15,rfl⟩;refine gz4 ?_;refine de rfl (uCx 0 ca6 rfl rfl (zS uS uS uS uS) ?_)
   rintro _ _ ⟨y17,rfl,hy17,rfl⟩;refine gz3 ?_;refine uV3 [3,1,6,2,18,31] (fun (n:Nat) (wk:Int) (q2:GL StintS)=>[(18,.int .i64 (n:Int)),(6,.int .i64 wk),(3,.raw q2.u)]) (fun (n:Nat) (wk:Int) (q2:GL StintS)=>[St b l q2.a,.arr q2.u 3 (q2.out.map zcW)]) (fun (n:Nat) (wk:Int) (q2:GL StintS)=>(n:Int)<=y17/\(1<=wk/\wk<=2+3*n)/\GLok (fun _=>True) (2*k+n) (a+20*k+2+9*n) q2) (fun (n:Nat) (wk:Int) (q2:GL StintS)=>y17.toNat-n) (0) (y15) (⟨u,out,a2+2⟩) ?_ ?_ ?_ ?_
   ·exact ⟨by omega,by omega,⟨uD,g2,uD⟩⟩
   ·exact ⟨rfl,rfl,rfl,trivial⟩
   ·exact uP
   ·intro n wk q2 hinv
    obtain ⟨hn,hw,hq2⟩:=hinv;obtain ⟨u,out,a2⟩:=q2;obtain ⟨g1,g2,g3⟩:=id hq2;dsimp only at g1 g2 g3;refine gz4 ?_;refine uCo (fun h3=> ?_) fun h4=> ?_
    ·refine gz7 ?_;refine dq (za (hs:=[_,_,_,_]) zu ty9 rfl rfl (by decide) (by decide) rfl) ?_;refine de rfl (uCx 0 ca7 rfl rfl (zp (L:=[_,_,_,_]) uS uS uS) ?_)
     rintro _ _ ⟨y23,rfl,hy23,rfl⟩;refine gz1 ?_;refine dq (zO (cs:=[_,_,_]) zbY zAm rfl) ?_;refine de rfl (zq zbY rfl fun b7=> ?_)
     refine de0 (uY 0 ?_)
     refine gz1 ?_;refine uVj [26,14] (fun (q4:StintS×Nat)=>[]) (fun (q4:StintS×Nat)=>[St b l q4.2,.arr u 3 (out.map zcW),.cells b7 (zd (zcW q4.1))]) (fun (q4:StintS×Nat)=>q4.2<=a2+8) ?_ ?_
     ·skip
      refine gz2 ?_;refine de rfl (uCx 1 zeb rfl rfl (zI uS uS) ?_)
      rintro _ _ ⟨y27,rfl,rfl⟩;refine gz1 ?_;refine uCo (fun h5=> ?_) fun h6=> ?_
      ·refine gz3 ?_;refine dq (za (hs:=[_,_,_]) zu ty9 rfl rfl (by decide) (by decide) rfl) ?_;refine de rfl (uCx 0 ca7 rfl rfl (zp (L:=[_,_,_]) uS uS uS) ?_)
       rintro _ _ ⟨y31,rfl,hy31,rfl⟩;refine gz1 ?_;refine dq (za (hs:=[_,_]) zu ty9 rfl rfl (by decide) (by decide) rfl) ?_;refine de rfl (uCx 0 ca7 rfl rfl (zp (L:=[_,_]) uS uS uS) ?_)
       rintro _ _ ⟨y34,rfl,hy34,rfl⟩;refine gz1 ?_;refine de rfl (uCx 0 zkJ rfl rfl (zhf uS uS uS uS) ?_)
       rintro _ _ ⟨y36,rfl,hy36,rfl⟩;refine gz1 ?_;refine de0 (uY 1 ?_)
       refine gz1 ?_;refine de0 (uY 1 ?_)
       refine gz1 ?_;refine de0 (uY 1 ?_)
       refine gz1 ?_;exact ⟨((⟨y31,y34,y36⟩:StintS),a2+6),uD,trivial,uK,uP⟩
      ·refine gz1 ?_;exact ⟨((⟨x,y23,wk⟩:StintS),a2+2),uD,trivial,uK,uP⟩
     ·intro q4 ha5
      obtain ⟨x5,a5⟩:=q4;dsimp only at ha5;refine zl (zbi 7 (i:=2) rfl rfl) ?_;refine gz3 ?_;refine dq (za (hs:=[_]) zcB zbY rfl rfl (by decide) (by decide) rfl) ?_;refine de rfl (zN (i:=1) zcB zbY rfl rfl rfl rfl rfl (by simp [zal,zd,zaR,za8]) uSo fun v43=> ?_)
      refine gz5 ?_;refine de rfl (uCx 0 ca6 rfl rfl (zS uS uS uS uS) ?_)
      rintro _ _ ⟨y46,rfl,hy46,rfl⟩;refine gz9 ?_;exact ⟨n+1,wk+y46,⟨v43,out++[x5],a5+1⟩,⟨by omega,⟨by omega,by omega⟩,hq2.add (x:=x5) trivial uO⟩,uD,⟨rfl,rfl,rfl,trivial⟩,uK,uP⟩
    ·refine gz2 ?_;refine zdz ?_;refine gz7 ?_;exact ⟨k+1,⟨u,out,a2⟩,⟨by omega,hq2.mono uO uO⟩,uD,⟨rfl,rfl,trivial⟩,uK,uP⟩
  ·have hnk:nm5.length<=k:=by omega
   obtain rfl:k=nm5.length:=by omega
   refine gz2 ?_;refine zY ?_;refine gz7 ?_;exact zB (Ghost.perm (List.Perm.swap _ _ _)) rfl ⟨_,out,a2,rfl,by omega,by omega,rfl⟩
theorem zhG [Tracks] {b:Nat} {l:List Int} {a:Nat} {L:List PlayerS} (ha:a<=700000) (hL:L.length<=1000000):Con prog 110 [pAt b,zaC L] [St b l a] (fun x M'=> ∃k a',x=zbJ k/\k.length<=10/\a'<=a+100/\M'=[St b l a']):=by
 refine uOb func110 ntmps110 ?_;refine gz6 ?_;refine de rfl (uCx 0 zzl rfl rfl (zh6 (b:=b) (l:=l) (a:=a) ha) ?_)
 rintro _ _ ⟨u7,k7,a7,rfl,hk7,ha7,rfl⟩;refine de rfl (uCx 0 zzk rfl rfl (znV (L:=L) (l:=k7) hL uO) ?_)
 rintro _ _ ⟨u8,rfl,rfl⟩;refine gz3 ?_;exact zB (zap 4 (i:=0) rfl rfl) rfl ⟨_,a7,rfl,Ax (AW _ _) hk7,by omega,rfl⟩
end
section
open Go.Proofs.Tryz
open Go.HL
theorem zlI [Tracks] {n d:Int} (hn: -1000000<=n/\n<=1000000) (hd:1<=d/\d<=1000000):ConP prog 247 [.int .i64 n,.int .i64 d] (.agg [.int .i64 (n.tdiv (zgY n d)),.int .i64 (d.tdiv (zgY n d))]):=by
 have hg0:=zxk (n:=n) hd.1;refine zbz func247 rfl ntmps247 rfl rfl ?_;refine gz1 ?_;refine de rfl (zq zby rfl fun b4=> ?_)
 refine gz4 ?_;refine dq (uCl zwD rfl (zha (n:=n) (d:=d) uO uO)) ?_;refine gz2 ?_;refine uDr mixed ?_;refine gz2 ?_;refine uB 2 rfl (zd6 (n:=zgY n d) rfl rfl uO uO uO) ?_;refine gz2 ?_;refine uB 5 rfl (zd6 (n:=zgY n d) rfl rfl uO uO uO) ?_;refine uB 6 rfl (zO (cs:=[_,_]) zby zkY rfl) ?_;refine uF 7 ?_;refine zT (uY 0 ?_)
 refine ⟨uE,?_⟩
 refine gz2 ?_;exact ⟨_,_,zD 4 rfl,[_],_,⟨⟨_,_,_,_,_,rfl,zby,.inr ⟨rfl,rfl,rfl⟩⟩,trivial⟩,Weak.refl _,rfl,rfl⟩
theorem ziD [Tracks] {n:Int} (hn: -1000000<=n/\n<=1000000):ConP prog 191 [.int .i64 n] (.agg [.int .i64 (n.tdiv (zgY n 100)),.int .i64 ((100:Int).tdiv (zgY n 100))]):=by
 refine zbz func191 rfl ntmps191 rfl rfl ?_;refine gz1 ?_;refine de rfl (zq zby rfl fun b2=> ?_)
 refine gz3 ?_;refine dq (uCl zzJ rfl (zlI (n:=n) (d:=100) hn uO)) ?_;refine de0 (uY 0 ?_)
 refine gz2 ?_;exact ⟨_,_,zD 2 rfl,[_],_,⟨⟨_,_,_,_,_,rfl,zby,.inr ⟨rfl,rfl,rfl⟩⟩,trivial⟩,Weak.refl _,rfl,rfl⟩
theorem zoQ [Tracks] {b:Nat} {l:List Int} {a:Nat} (ha:a<=700000):Con prog 106 [pAt b] [St b l a] (fun x M'=> ∃(u:Value) (k:List SlotS) (a':Nat),x= .raw u/\GoodS4s k/\0<k.length/\a'<=a+25/\M'=[.arr u 2 (k.map zbo),St b l a']):=by
 refine uOb func106 ntmps106 ?_;refine gz6 ?_;refine zl (zQ 2) ?_;refine gz2 ?_;refine dq (za (hs:=[_,_,_,_]) zu ty9 rfl rfl (by decide) (by decide) rfl) ?_;refine gz1 ?_;refine de rfl (uCx 1 ca6 rfl rfl (zS uS uS uS uS) ?_)
 rintro _ _ ⟨y8,rfl,hy8,rfl⟩;refine dq (za9 (es:=sl4) (f:=HVal.str) (h:=y8.toNat) zu ty9 rfl rfl ⟨_,_,rfl,by omega⟩ uO (by simp [sl4];omega)) ?_;refine dq (zaw (f:=HVal.str) (l:=(sl4.take y8.toNat)) zu rfl) ?_;refine gz2 ?_;have hlen:(sl4.take y8.toNat).length=y8.toNat:=by simp [sl4];omega
 refine gz1 ?_;refine uV2 [3,1,5,1,11,12] (fun (k:Nat) (q:GL SlotS)=>[(11,.int .i64 k),(3,.raw q.u)]) (fun (k:Nat) (q:GL SlotS)=>[St b l q.a,.arr q.u 2 (q.out.map zbo)]) (fun (k:Nat) (q:GL SlotS)=>k<=(sl4.take y8.toNat).length/\(q.out.length=k/\GLok zjX k (a+1+5*k) q)) (fun (k:Nat) (q:GL SlotS)=>(sl4.take y8.toNat).length-k) (0) (⟨.slice none 0 0,[],a+1⟩) ?_ ?_ ?_ ?_
 ·exact ⟨Ad _,rfl,⟨by simp,by simp,uD⟩⟩
 ·exact ⟨rfl,rfl,trivial⟩
 ·exact uP
 ·intro k q hinv
  obtain ⟨hk,⟨hn,hq⟩⟩:=hinv;obtain ⟨u,out,a2⟩:=q;obtain ⟨g1,g2,g3⟩:=id hq;dsimp only at g1 g2 g3;dsimp only at hn;refine gz4 ?_;refine uCo (fun h1=> ?_) fun h2=> ?_
  ·obtain ⟨x,hx⟩: ∃x,(sl4.take y8.toNat)[k]? =some x:=⟨_,Aa (by simpa using h1)⟩
   have hdx:=zt hx;refine gz5 ?_;refine dq (zK (f:=HVal.str) (l:=(sl4.take y8.toNat)) (j:=k) (a:=x) zu ty9 rfl rfl rfl hx) ?_;refine gz7 ?_;refine de rfl (uCx 0 zs7 rfl rfl (zds uS) ?_)
   rintro _ _ ⟨t18,a18,rfl,ht18,ha18,rfl⟩;refine dq (zO (cs:=[_,_]) zbb zvE rfl) ?_;refine dq (za (hs:=[_]) zdi zbb rfl rfl (by decide) (by decide) rfl) ?_;refine de rfl (zN (i:=1) zdi zbb rfl rfl rfl rfl rfl (by simp [zal,zd,zaR,za8]) uSo fun v21=> ?_)
   refine gz8 ?_;exact ⟨k+1,⟨v21,out++[(⟨x,t18⟩:SlotS)],a18⟩,⟨by omega,by simp;omega,hq.add (x:=(⟨x,t18⟩:SlotS)) (by show t18.length<=4;omega) (by dsimp only at ha18;omega)⟩,uD,⟨rfl,rfl,trivial⟩,uK,zg (by dsimp only;first|rfl|(rw [Ay];rfl))⟩
  ·have hnk:(sl4.take y8.toNat).length<=k:=by simpa using h2
   obtain rfl:k=(sl4.take y8.toNat).length:=by omega
   refine gz2 ?_;refine zY ?_;refine gz7 ?_;exact zB (Ghost.perm (List.Perm.swap _ _ _)) rfl ⟨_,out,a2,rfl,⟨by omega,g2⟩,by omega,by omega,rfl⟩
theorem zbL [Tracks] {b:Nat} {l:List Int} {a:Nat} (ha:a<=700000):Con prog 105 [pAt b] [St b l a] (fun x M'=> ∃k a',x=ziN k/\GoodRus k/\a'<=a+40/\M'=[St b l a']):=by
 refine uOb func105 ntmps105 ?_;refine gz6 ?_;refine zl (zQ 7) ?_;refine gz2 ?_;refine dq (za (hs:=[_,_,_,_,_]) zu ty9 rfl rfl (by decide) (by decide) rfl) ?_;refine dq (zaw (f:=HVal.str) (l:=ru5) zu rfl) ?_;refine gz3 ?_;refine uV2 [3,1,5,2,9,37] (fun (k:Nat) (q:GL RuleS)=>[(9,.int .i64 k),(3,.raw q.u)]) (fun (k:Nat) (q:GL RuleS)=>[St b l q.a,.arr q.u 7 (q.out.map zqy)]) (fun (k:Nat) (q:GL RuleS)=>k<=ru5.length/\(GLok zu1 k (a+8*k) q)) (fun (k:Nat) (q:GL RuleS)=>ru5.length-k) (0) (⟨.slice none 0 0,[],a⟩) ?_ ?_ ?_ ?_;exact ⟨Ad _,⟨by simp,by simp,uD⟩⟩;exact ⟨rfl,rfl,trivial⟩;exact uP
 intro k q hinv
 obtain ⟨hk,hq⟩:=hinv;have hlen:ru5.length=5:=rfl;obtain ⟨u,out,a2⟩:=q;obtain ⟨g1,g2,g3⟩:=id hq;dsimp only at g1 g2 g3;refine gz4 ?_;refine uCo (fun h1=> ?_) fun h2=> ?_
 obtain ⟨x,hx⟩: ∃x,ru5[k]? =some x:=⟨_,Aa h1⟩
 have hdx:=zt hx;refine gz5 ?_;refine dq (zK (f:=HVal.str) (l:=ru5) (j:=k) (a:=x) zu ty9 rfl rfl rfl hx) ?_;refine gz6 ?_;refine de rfl (uCx 0 zeb rfl rfl (zI uS uS) ?_)
 rintro _ _ ⟨y14,rfl,rfl⟩;refine gz1 ?_;refine uCo (fun h3=> ?_) fun h4=> ?_
 refine gz8 ?_;exact ⟨k+1,⟨u,out,a2+1⟩,⟨by omega,hq.same uO⟩,uD,⟨rfl,rfl,trivial⟩,uK,uP⟩;refine gz5 ?_;refine dq (za (hs:=[_,_,_,_]) zu ty9 rfl rfl (by decide) (by decide) rfl) ?_;refine de rfl (uCx 0 ca7 rfl rfl (zp (L:=[_,_,_,_]) uS uS uS) ?_)
 rintro _ _ ⟨y18,rfl,hy18,rfl⟩;refine gz1 ?_;refine dq (za (hs:=[_,_,_,_]) zu ty9 rfl rfl (by decide) (by decide) rfl) ?_;refine de rfl (uCx 0 ca7 rfl rfl (zp (L:=[_,_,_,_]) uS uS uS) ?_)
 rintro _ _ ⟨y21,rfl,hy21,rfl⟩;refine gz1 ?_;refine de rfl (uCx 0 ca6 rfl rfl (zS uS uS uS uS) ?_)
 rintro _ _ ⟨y23,rfl,hy23,rfl⟩;refine gz1 ?_;refine dq (za (hs:=[_,_,_,_,_,_]) zad ty3 rfl rfl (by decide) (by decide) rfl) ?_;refine de rfl (uCx 0 zaI rfl rfl (zf (L:=[_,_,_,_,_,_]) uS uS uS) ?_)
 rintro _ _ ⟨y26,rfl,hy26,rfl⟩;refine dq (uCl zzj rfl (ziD (n:=y26) (by simp at hy26;omega))) ?_;refine dq (zO (cs:=[_,_,_,_,_,_,_]) zhA zAn rfl) ?_;refine de rfl (zq zhA rfl fun b6=> ?_)
 refine de0 (uY 0 ?_)
 refine gz1 ?_;have hb1:=zsj (n:=y26) (g:=zgY y26 100) (by simp at hy26;omega);have hb2:=zsj (n:=100) (g:=zgY y26 100) uO;refine uVj [29,12] (fun (q4:RuleS×Nat)=>[]) (fun (q4:RuleS×Nat)=>[St b l q4.2,.arr u 7 (out.map zqy),.cells b6 (zd (zqy q4.1))]) (fun (q4:RuleS×Nat)=>zu1 q4.1/\q4.2<=a2+7) ?_ ?_
 skip
 refine gz2 ?_;refine de rfl (uZ 0 ?_)
 refine gz3 ?_;refine dgl rfl rfl (fun hc=>⟨_,OpenTo.upd (t:=33) rfl (hc) (OpenTo.refl _),zV (i:=0) ty3 rfl rfl (.inl ⟨rfl,rfl⟩) ⟨rfl,rfl⟩⟩) ?_;refine gz3 ?_;refine uCo (fun h5=> ?_) fun h6=> ?_
 refine gz2 ?_;refine dq (za (hs:=[_,_,_,_,_]) zad ty3 rfl rfl (by decide) (by decide) rfl) ?_;refine de rfl (uCx 1 zaI rfl rfl (zf (L:=[_,_,_,_,_]) uS uS uS) ?_)
 rintro _ _ ⟨y39,rfl,hy39,rfl⟩;refine gz1 ?_;refine de0 (uY 1 ?_)
 refine gz1 ?_;exact ⟨((⟨x,y18,y21,y23,y39,y26.tdiv (zgY y26 100),(100:Int).tdiv (zgY y26 100)⟩:RuleS),a2+6),⟨⟨hb1,hb2⟩,uD⟩,trivial,uK,uP⟩;refine gz1 ?_;exact ⟨((⟨x,y18,y21,y23,0,y26.tdiv (zgY y26 100),(100:Int).tdiv (zgY y26 100)⟩:RuleS),a2+5),⟨⟨hb1,hb2⟩,uD⟩,trivial,uK,uP⟩
 intro q4 hq4
 obtain ⟨x5,a5⟩:=q4;obtain ⟨hx5,ha5⟩:=hq4;dsimp only at hx5 ha5;refine zl (zbi 6 (i:=2) rfl rfl) ?_;refine gz3 ?_;refine dq (za (hs:=[_]) zrU zhA rfl rfl (by decide) (by decide) rfl) ?_;refine de rfl (zN (i:=1) zrU zhA rfl rfl rfl rfl rfl (by simp [zal,zd,zaR,za8]) uSo fun v44=> ?_)
 refine gz8 ?_;exact ⟨k+1,⟨v44,out++[x5],a5⟩,⟨by omega,hq.add (x:=x5) hx5 uO⟩,uD,⟨rfl,rfl,trivial⟩,uK,uP⟩;have hnk:ru5.length<=k:=by omega
 obtain rfl:k=ru5.length:=by omega
 refine gz2 ?_;refine zY ?_;refine gz7 ?_;exact zB (zap 2 (i:=1) rfl rfl) rfl ⟨out,a2,rfl,⟨by omega,g2⟩,by omega,rfl⟩
theorem ziA [Tracks] {b:Nat} {l:List Int} {a:Nat} (ha:a<=600000):Con prog 114 [pAt b] [St b l a] (fun x M'=> ∃k a',x=zf7 k/\GoodSlos k/\a'<=a+40/\M'=[St b l a']):=by
 refine uOb func114 ntmps114 ?_;refine gz5 ?_;refine de rfl (uCx 0 zmz rfl rfl (zoQ uS) ?_)
 rintro _ _ ⟨u6,k6,a6,rfl,hk6,hn6,ha6,rfl⟩;refine gz2 ?_;have hl6:=hk6.len;have hg6:=hk6.all;refine zl (zcI (M':=[.arr u6 2 (k6.map zbo),St b l a6]) rfl) ?_;refine zl (Ghost.perm (List.Perm.swap _ _ _)) ?_;refine uVj [4,1,7,31] (fun (q:List SlotS×Nat)=>[]) (fun (q:List SlotS×Nat)=>[St b l q.2,.arr u6 2 (q.1.map zbo)]) (fun (q:List SlotS×Nat)=>GoodSlos q.1/\q.2<=a6+5) ?_ ?_
 ·skip
  refine gz2 ?_;refine de rfl (uCx 0 zeb rfl rfl (zI uS uS) ?_)
  rintro _ _ ⟨y8,rfl,rfl⟩;refine gz1 ?_;refine uCo (fun h1=> ?_) fun h2=> ?_
  ·refine zc4 (i:=1) rfl (fun h0 he=> ?_) (fun ob off cap hv hcap=> ?_)
   ·exfalso;have:=congrArg List.length he;simp at this;subst this;simp at hn6
   subst hv;refine gz4 ?_;refine de rfl (za6 (i:=1) (es:=k6) zdi rfl rfl ?_)
   refine de rfl (uCx 0 zhZ rfl rfl (zak uS uS) ?_)
   rintro _ _ ⟨y13,rfl,hy13,rfl⟩;refine dq (zM (j:=y13) zdi zbb rfl rfl rfl uSo) ?_;refine gz2 ?_;obtain ⟨x,hx⟩: ∃x,k6[y13]? =some x:=⟨_,Aa uO⟩
   have hgx:=hg6 x (Ac hx);dsimp only [zjX] at hgx;refine zba (fun M=> ∃i:Nat,M[i]? =some (.arr (.slice (some ⟨ob,off,none⟩) (k6.map zbo).length cap) 2 (k6.map zbo))) [6,12] mixed ?_;refine gz6 ?_;refine uM 6 rfl ⟨1,rfl⟩ (fun M hM=>by obtain ⟨i,hi⟩:=hM;exact zax (i:=i) (j:=y13) 0 ty9 rfl uO hi hx rfl rfl ⟨rfl,rfl⟩) ?_;refine uB 7 rfl (za (hs:=[_,_,_]) zu ty9 rfl rfl (by decide) (by decide) rfl) ?_;refine uA 9 ?_;refine gz2 ?_;refine uM 12 rfl ⟨1,rfl⟩ (fun M hM=>by obtain ⟨i,hi⟩:=hM;exact zax (i:=i) (j:=y13) 1 zu rfl uO hi hx rfl rfl ⟨rfl,rfl⟩) ?_;refine uA 14 ?_;refine uB 15 rfl (za (hs:=[_,_,_]) zu ty9 rfl rfl (by decide) (by decide) rfl) ?_;refine uF 8 ?_;refine zA rfl (uCx 0 ca7 rfl rfl (zp (L:=[_,_,_]) uS uS uS) ?_)
   rintro _ _ ⟨y23,rfl,hy23,rfl⟩;refine ⟨uE,?_⟩
   refine uF 13 ?_;refine zA rfl (uCa zlW rfl (zay uO) fun v28=> ?_)
   refine ⟨uE,?_⟩
   refine uF 16 ?_;refine zA rfl (uCx 1 ca7 rfl rfl (zp (L:=[_,_,_]) uS uS uS) ?_)
   rintro _ _ ⟨y31,rfl,hy31,rfl⟩;refine ⟨uE,?_⟩
   refine uB 17 rfl (za (hs:=[_]) zu ty9 rfl rfl (by decide) (by decide) rfl) ?_;refine uF 18 ?_;refine zA rfl (zmv (N:=[St b l (a6+1+1+1+1),.arr (.slice (some ⟨ob,off,none⟩) (k6.map zbo).length cap) 2 (k6.map zbo)]) (sz:=1) (es:=(x.Positions++[y31]).map .str) 1 (zN (i:=1) zu ty9 rfl rfl rfl rfl rfl (by simp [zal,zd]) uSo fun v=>⟨v,rfl,by simp,rfl⟩) ?_)
   refine ⟨fun _=> .inl ⟨1,rfl⟩,?_⟩
   refine gz2 ?_;refine uF 21 ?_;refine zT (zac (i:=1) (j:=y13) (f:=0) (y:=zbo x) (y':=zbo ⟨y23,x.Positions⟩) ty9 rfl uO rfl rfl (zbl hx) rfl rfl (by simp [zd]) rfl ?_)
   refine ⟨uE,?_⟩
   refine gz2 ?_;refine uF 24 ?_;refine zT (zac (i:=1) (j:=y13) (f:=1) (y:=zbo ⟨y23,x.Positions⟩) (y':=zbo ⟨y23,x.Positions++[y31]⟩) zu rfl uO rfl rfl (zaL (zbl hx)) rfl rfl (by simp [zd]) rfl ?_)
   refine ⟨uE,?_⟩
   refine gz1 ?_;exact ⟨(k6.set y13 ⟨y23,x.Positions++[y31]⟩,a6+4),⟨⟨by simp;omega,ze2 (P:=zmw) hk6.up.all (by dsimp only [zmw];simp;omega)⟩,uD⟩,trivial,uK,uP⟩
  ·refine gz1 ?_;exact ⟨(k6,a6+1),⟨hk6.up,uD⟩,trivial,uK,uP⟩
 ·intro q hq3
  obtain ⟨k1,a4⟩:=q;obtain ⟨q1,q3⟩:=hq3;dsimp only at q1 q3;refine gz3 ?_;refine de rfl (uCx 0 zeb rfl rfl (zI uS uS) ?_)
  rintro _ _ ⟨y39,rfl,rfl⟩;refine gz1 ?_;refine uCo (fun h3=> ?_) fun h4=> ?_
  ·refine gz4 ?_;exact ⟨_,_,(zcI (M':=[St b l (a4+1),.arr u6 2 (k1.map zbo)]) rfl).trans ((Ghost.perm (List.Perm.swap _ _ _)).trans Ghost.drop),_,.slice 2 [],rfl,zX 2,[],a4+1,rfl,⟨by simp,by simp⟩,by omega,rfl⟩
  ·refine gz7 ?_;exact zB (zap 2 (i:=1) rfl rfl) rfl ⟨k1,a4+1,rfl,q1,by omega,rfl⟩
theorem zaJ [Tracks] {b:Nat} {l:List Int} {a:Nat} (ha:a<=600000):Con prog 108 [pAt b] [St b l a] (fun x M'=> ∃k a',x=eIs k/\k.length<=6/\a'<=a+20/\M'=[St b l a']):=by
 refine uOb func108 ntmps108 ?_;refine gz6 ?_;refine zl (zQ 1) ?_;refine gz3 ?_;refine de rfl (uCx 1 zwo rfl rfl (zfi (n:=5) uO uO uO) ?_)
 rintro _ _ ⟨L7,a7,rfl,hL7,ha7,rfl⟩;refine gz1 ?_;refine de rfl (uCx 0 ca6 rfl rfl (zS uS uS uS uS) ?_)
 rintro _ _ ⟨y9,rfl,hy9,rfl⟩;refine dq (za9 (es:=L7) (f:=HVal.int .i64) (h:=y9.toNat) zad ty3 rfl rfl ⟨_,_,rfl,by omega⟩ uO (by have:=hL7.1;omega)) ?_;refine dq (zaw (f:=HVal.int .i64) (l:=L7.take y9.toNat) zad rfl) ?_;refine gz2 ?_;obtain ⟨hLn,hLb⟩:=hL7;have hlen:(L7.take y9.toNat).length=y9.toNat:=by simp;omega
 refine gz1 ?_;refine uV2 [3,1,5,1,12,10] (fun (k:Nat) (q:GL Int)=>[(12,.int .i64 k),(3,.raw q.u)]) (fun (k:Nat) (q:GL Int)=>[St b l (a7+1),.arr q.u 1 (q.out.map (.int .i64))]) (fun (k:Nat) (q:GL Int)=>k<=(L7.take y9.toNat).length/\(q.out.length<=k)) (fun (k:Nat) (q:GL Int)=>(L7.take y9.toNat).length-k) (0) (⟨.slice none 0 0,[],a⟩) ?_ ?_ ?_ ?_;exact ⟨Ad _,by simp⟩;exact ⟨rfl,rfl,trivial⟩;exact uP
 intro k q hinv
 obtain ⟨hk,hq⟩:=hinv;obtain ⟨u,out,a2⟩:=q;dsimp only at hq;refine gz4 ?_;refine uCo (fun h1=> ?_) fun h2=> ?_
 obtain ⟨y,hy⟩: ∃y,(L7.take y9.toNat)[k]? =some y:=⟨_,Aa (by simpa using h1)⟩
 have hdy:=zt hy;refine gz5 ?_;refine dq (zK (f:=HVal.int .i64) (l:=L7.take y9.toNat) (j:=k) (a:=y) zad ty3 rfl rfl rfl hy) ?_;refine gz6 ?_;refine dq (zbf rfl rfl (by have:=hLb y (AZ (Ac hy));omega) (by have:=hLb y (AZ (Ac hy));omega)) ?_;refine dq (za (hs:=[_]) zad ty3 rfl rfl (by decide) (by decide) rfl) ?_;refine de rfl (zN (i:=1) zad ty3 rfl rfl rfl rfl rfl (by simp [zal,zd,zaR,za8]) uSo fun v20=> ?_)
 refine gz8 ?_;exact ⟨k+1,⟨v20,out++[y+1],a⟩,⟨by omega,by simp;omega⟩,uD,⟨rfl,rfl,trivial⟩,uK,uP⟩;have hnk:(L7.take y9.toNat).length<=k:=by simpa using h2
 obtain rfl:k=(L7.take y9.toNat).length:=by omega
 refine gz2 ?_;refine zY ?_;refine gz5 ?_;refine de rfl (uCx 0 zeb rfl rfl (zI uS uS) ?_)
 rintro _ _ ⟨y23,rfl,rfl⟩;refine gz1 ?_;refine uCo (fun h3=> ?_) fun h4=> ?_
 refine gz3 ?_;refine de rfl (uCx 0 zkJ rfl rfl (zhf uS uS uS uS) ?_)
 rintro _ _ ⟨y26,rfl,hy26,rfl⟩;refine dq (za (hs:=[_]) zad ty3 rfl rfl (by decide) (by decide) rfl) ?_;refine de rfl (zN (i:=1) zad ty3 rfl rfl rfl rfl rfl (by simp [zal,zd,zaR,za8]) uSo fun v28=> ?_)
 refine gz8 ?_;exact zB (zap 2 (i:=1) rfl rfl) rfl ⟨out++[y26],_,by simp,by simp;omega,by omega,rfl⟩;refine gz7 ?_;exact zB (zap 2 (i:=1) rfl rfl) rfl ⟨out,_,rfl,by omega,by omega,rfl⟩
end
section
open Go.Proofs.Tryz
open Go.HL
theorem zlR [Tracks] {l:List GameS} (hb: ∀x∈l,GamB x) (hl:l.length<=1000000) {v:Value}:
 Con prog 112 [.raw v,.fn (.func 113) [] []] [.arr v 8 (l.map zaS)] fun x M'=> ∃l':List GameS,x= .tup []/\l'.Perm l/\l'.Pairwise (fun a b=> ¬zfB b a<0)/\M'=[.arr v 8 (l'.map zaS)]:=by
 have h:=zub (e:=fun x:{m:GameS//GamB m}=>zaS x.1) ztV (Tryz.isAgg204) (Tryz.sizeOf204) (fun _=>rfl) (fun _=>rfl) (fun _=>rfl) (c:=fun x y=>zfB x.1 y.1) (zxP zsZ) zv9 (fun x y=> @zgs zpt x.1 y.1 x.2.week y.2.week) (l:=l.attachWith _ hb) (by simpa using hl) (v:=v);rw [znQ hb zaS] at h;refine h.mono fun x M' ⟨l',e1,hp,hw,e2⟩=>⟨l'.map Subtype.val,e1,?_,?_,?_⟩
 have h9:=hp.map Subtype.val;rw [zkt hb] at h9;exact h9;exact List.pairwise_map.2 hw;rw [e2,Bb];rfl
theorem zfj [Tracks] {T:List Str} {W p n:Int} (hT:T.length<=1000000) (hW:1<=W/\W<=10) (hp:0<=p/\p<=10) (hn:2<=n/\n<=10):ConP prog 196 [.int .i64 W,.int .i64 p,.vptr [.int .i64 n] 0,.vptr [eSs T] 0] (.str (onS T W p n)):=by
 obtain ⟨o1,o2,o3⟩:=zAe (W:=W) hp hn;refine uOb func196 ntmps196 ?_;refine gz7 ?_;refine uVj [7,1,9,17] (fun (i1:Int)=>[(7,.int .i64 i1)]) (fun (i1:Int)=>[]) (fun (i1:Int)=>i1=onI W p n) ?_ ?_
 skip
 refine gz4 ?_;refine uCo (fun h1=> ?_) fun h2=> ?_
 refine zmt mixed ?_;refine gz7 ?_;refine uB 7 rfl (zew (n:=n-1) rfl rfl uO) ?_;refine gz5 ?_;refine uB 13 rfl (zew (n:=n-1) rfl rfl uO) ?_;refine gz3 ?_;exact ⟨1+((p-1-(W-1)).tmod (n-1)+(n-1)).tmod (n-1),by rw [onI,if_pos h1],⟨rfl,trivial⟩,uK,Ab _⟩;refine gz1 ?_;exact ⟨p,by rw [onI,if_neg uO],⟨rfl,trivial⟩,uK,Ab _⟩
 intro i1 hi1
 have hi0:0<=i1:=by rw [hi1];exact o3
 refine gz7 ?_;refine uCo (fun h3=> ?_) fun h4=> ?_
 refine gz4 ?_;refine zC rfl ?_
 show HVal.str _=_
 (rw [onS,if_pos uO])
 refine gz5 ?_;refine dq (zK (f:=HVal.str) (l:=T) (j:=i1.toNat) (a:=T.getD i1.toNat []) zu ty9 rfl rfl uO (getD_some uO)) ?_;refine gz4 ?_;refine zC rfl ?_
 show HVal.str _=_
 (rw [onS,if_neg uO,<-hi1])
theorem zjH [Tracks] {T:List Str} (hT:2<=T.length/\T.length<=4):Con prog 111 [eSs T,.int .i64 3] [] (fun x M'=> ∃k,x=zkd k/\GoodGas k/\M'=[]):=by
 obtain ⟨n1,n2,n3,n4⟩:=zyf hT;refine uOb func111 ntmps111 ?_;refine gz9 ?_;refine dq (zew rfl rfl uO) ?_;refine dq (zaq (h':= .int .i64 (nOf T)) (zbf rfl rfl uO uO) rfl) ?_;refine de rfl (zq ty3 rfl fun b5=> ?_)
 refine de0 (uY 0 ?_)
 refine gz1 ?_;refine zl (zbi 5 (i:=0) rfl rfl) ?_;refine gz7 ?_;refine zl (zQ 8) ?_;refine gz5 ?_;refine uV2 [7,5,19,56] (fun (w:Nat) (q:GL GameS)=>[(8,.int .i64 ((w:Int)+1)),(7,.raw q.u)]) (fun (w:Nat) (q:GL GameS)=>[.arr q.u 8 (q.out.map zaS)]) (fun (w:Nat) (q:GL GameS)=>w<=3/\GLok GamB (2*w) 0 q) (fun (w:Nat) (q:GL GameS)=>3-w) (0) (⟨.slice none 0 0,[],0⟩) ?_ ?_ ?_ ?_;exact ⟨by omega,⟨by simp,by simp,by simp⟩⟩;exact ⟨zW uO,rfl,trivial⟩;exact Ab _
 intro w q hinv
 obtain ⟨hw,hq⟩:=hinv;obtain ⟨u,out,a2⟩:=q;obtain ⟨g1,g2,g3⟩:=id hq;dsimp only at g1 g2 g3;refine gz6 ?_;refine uCo (fun h1=> ?_) fun h2=> ?_
 refine gz6 ?_;refine dq (zaq (h':= .int .i64 (mOf T)) (zd6 rfl rfl uO uO uO) rfl) ?_;refine gz3 ?_;refine uU2 [7,1,9,3,26,49] (fun (j:Nat) (q2:GL GameS)=>[(26,.int .i64 (j:Int)),(7,.raw q2.u)]) (fun (j:Nat) (q2:GL GameS)=>[.arr q2.u 8 (q2.out.map zaS)]) (fun (j:Nat) (q2:GL GameS)=>(j:Int)<=mOf T/\GLok GamB (2*w+j) 0 q2) (fun (j:Nat) (q2:GL GameS)=>(mOf T).toNat-j) (0) (⟨u,out,0⟩) ?_ ?_;exact ⟨by omega,⟨uD,g2,by simp⟩⟩;rintro j q2 ⟨hj,hq2⟩;obtain ⟨u,out,a2⟩:=q2;obtain ⟨g1,g2,g3⟩:=id hq2;dsimp only at g1 g2 g3;refine gz4 ?_;refine uCo (fun h3=> ?_) fun h4=> ?_
 refine gz8 ?_;refine uDr mixed ?_;refine gz4 ?_;refine uB 4 rfl (zaB zwq rfl rfl (WeakL.refl _) (zfj (T:=T) (W:=((w:Int)+1)) (p:=(j:Int)) (n:=nOf T) uO uO uO uO)) ?_;refine gz3 ?_;refine uB 8 rfl (zgC (m:=nOf T) rfl rfl uO uO) ?_;refine gz1 ?_;refine uB 10 rfl (zgC (m:=nOf T-1) rfl rfl uO uO) ?_;refine uB 11 rfl (zaB zwq rfl rfl (WeakL.refl _) (zfj (T:=T) (W:=((w:Int)+1)) (p:=(nOf T-1-j)) (n:=nOf T) uO uO uO uO)) ?_;refine uB 12 rfl (zO (cs:=[_,_,_,_,_,_,_,_]) zb6 zAj rfl) ?_;refine uF 13 ?_;refine zA rfl (zq zb6 rfl fun b10=> ?_)
 refine ⟨uE,?_⟩
 refine uF 14 ?_;refine zT (uY 0 ?_)
 refine ⟨uE,?_⟩
 refine gz3 ?_;refine dq (zew rfl rfl uO) ?_;refine gz3 ?_;refine uVj [11,1,45,10] (fun (tn:Bool)=>[(11,.bool tn)]) (fun (tn:Bool)=>[.cells b10 (zd (zaS (⟨(w:Int)+1,onS T ((w:Int)+1) j (nOf T),onS T ((w:Int)+1) (nOf T-1-j) (nOf T),false,0,0,0,0⟩:GameS))),.arr u 8 (out.map zaS)]) (fun (tn:Bool)=>True) ?_ ?_
 skip
 refine gz4 ?_;refine uCo (fun h5=> ?_) fun h6=> ?_
 refine gz4 ?_;refine dq (zgC (m:=nOf T) rfl rfl uO uO) ?_;refine dq (zd6 (n:=nOf T-1) rfl rfl uO uO uO) ?_;refine dq (zew rfl rfl uO) ?_;refine gz1 ?_;refine dq (zvO ty4 rfl rfl) ?_;refine gz2 ?_;exact ⟨_,trivial,⟨rfl,trivial⟩,uK,zg rfl⟩;refine gz1 ?_;exact ⟨_,trivial,⟨rfl,trivial⟩,uK,zg rfl⟩
 intro tn _
 refine uVj [55,7] (fun (g5:GameS)=>[]) (fun (g5:GameS)=>[.cells b10 (zd (zaS g5)),.arr u 8 (out.map zaS)]) (fun (g5:GameS)=>GamB g5) ?_ ?_
 skip
 refine gz3 ?_;refine uCo (fun h7=> ?_) fun h8=> ?_
 refine gz2 ?_;refine de rfl (uZ 0 ?_)
 refine gz1 ?_;refine de rfl (uZ 0 ?_)
 refine gz1 ?_;refine de0 (uY 0 ?_)
 refine gz1 ?_;refine de0 (uY 0 ?_)
 refine gz1 ?_;exact ⟨(⟨(w:Int)+1,onS T ((w:Int)+1) (nOf T-1-j) (nOf T),onS T ((w:Int)+1) j (nOf T),false,0,0,0,0⟩:GameS),zsn uO,trivial,uK,zg rfl⟩;refine gz1 ?_;exact ⟨(⟨(w:Int)+1,onS T ((w:Int)+1) j (nOf T),onS T ((w:Int)+1) (nOf T-1-j) (nOf T),false,0,0,0,0⟩:GameS),zsn uO,trivial,uK,zg rfl⟩
 intro g5 hg5
 refine gz2 ?_;refine de rfl (uZ 0 ?_)
 refine gz3 ?_;refine dgl rfl rfl (fun hc=>⟨_,OpenTo.upd (t:=66) rfl (hc) (OpenTo.refl _),zV (i:=0) ty9 rfl rfl (.inl ⟨rfl,rfl⟩) ⟨rfl,rfl⟩⟩) ?_;refine gz3 ?_;refine uCo (fun h9=> ?_) fun h10=> ?_
 refine gz2 ?_;refine de rfl (zdl (i:=0) (h:=zaS g5) zb6 rfl rfl rfl rfl rfl ?_)
 refine dq (za (hs:=[_]) zfy zb6 rfl rfl (by decide) (by decide) rfl) ?_;refine de rfl (zN (i:=1) zfy zb6 rfl rfl rfl rfl rfl (by simp [zal,zd,zaR,za8]) uSo fun v73=> ?_)
 refine gz4 ?_;refine zl Ghost.drop ?_;refine gz4 ?_;exact ⟨j+1,⟨v73,out++[g5],0⟩,⟨by omega,hq2.add (x:=g5) hg5 uO⟩,uD,⟨rfl,rfl,trivial⟩,uK,zg (by dsimp only;rw [Ay];rfl)⟩;refine gz3 ?_;refine zl Ghost.drop ?_;refine gz4 ?_;exact ⟨j+1,⟨u,out,0⟩,⟨by omega,hq2.same uO⟩,uD,⟨rfl,rfl,trivial⟩,uK,zg rfl⟩;refine gz2 ?_;refine zY ?_;refine gz8 ?_;exact ⟨w+1,⟨u,out,0⟩,⟨by omega,⟨uD,g2,by simp⟩⟩,uD,⟨zW uO,rfl,trivial⟩,uK,zg rfl⟩;refine gz2 ?_;refine zY ?_;refine gz4 ?_;refine de rfl (uCx 0 zv8 rfl rfl (zlR (l:=out) g2 uO) ?_)
 rintro _ _ ⟨Z,rfl,hz1,hz2,rfl⟩;have hzl:=hz1.length_eq;refine gz6 ?_;exact zB (zap 4 (i:=0) rfl rfl) rfl ⟨Z,rfl,⟨by omega,fun x hx=>g2 x (hz1.mem_iff.1 hx)⟩,rfl⟩
end
section
open Go.Proofs.Tryz
open Go.HL
theorem zkA [Tracks] {a b:Str}:ConP prog 246 [.str a,.str b] (.int .i64 (zab a b)):=by
 refine uOb func246 ntmps246 ?_;refine gz5 ?_;refine dq (uCl zqv rfl zdW) ?_;refine gz4 ?_;refine dq (uCl zqv rfl zdW) ?_;refine gz6 ?_;refine zd3 rfl ?_;refine gz6 ?_;refine zd3 rfl ?_;refine gz8 ?_;refine uCo (fun h1=> ?_) fun h2=> ?_
 refine gz4 ?_;refine uRp ?_;rw [zfF]
 (rw [if_pos (by assumption)])
 refine gz8 ?_;refine uCo (fun h3=> ?_) fun h4=> ?_
 refine gz4 ?_;refine uRp ?_;rw [zfF]
 (rw [if_neg uSa,if_neg uSa])
 refine gz6 ?_;refine uRp ?_;rw [zfF]
 (rw [if_neg uSa];simp_all)
theorem zgM [Tracks] {l m:List Str} (hl:l.length<=1000000) (hm:m.length<=1000000):ConP prog 188 [eSs l,eSs m] (.int .i64 (zgi l m)):=by
 refine uOb func188 ntmps188 ?_;refine zaD ?_;refine uT1 [4,5,11,20] (fun k=>[(11,.int .i64 k)]) (fun k=>[]) (fun k=>k<=l.length/\(k<=m.length/\zgi l m=zgi (l.drop k) (m.drop k))) (fun k=>l.length-k) (0) ?_ ?_;exact ⟨Ad _,Ad _,rfl⟩;rintro k ⟨hk,⟨hkm,hg⟩⟩;refine gz4 ?_;refine uCo (fun h1=> ?_) fun h2=> ?_
 obtain ⟨x,hx⟩: ∃x,l[k]? =some x:=⟨_,Aa h1⟩
 have hdx:=zt hx;rw [hdx] at hg;refine zl5 ?_;refine uCo (fun h3=> ?_) fun h4=> ?_
 refine gz4 ?_;refine uRp ?_
 (rw [hg,zvd (.inr (Bo uO)) (by simp)])
 refine gz5 ?_;refine dq (zK (j:=k) (a:=m.getD k []) zu ty9 rfl rfl rfl (getD_some uO)) ?_;refine gz6 ?_;refine dq (uCl zzI rfl zkA) ?_;refine gz6 ?_;refine uCo (fun h5=> ?_) fun h6=> ?_
 refine gz5 ?_;refine uRp ?_
 (rw [hg,zkK (m:=m) (k:=k) h4,zua (by rw [Ae];exact h5)])
 refine gz7 ?_;refine ⟨k+1,?_,?_,⟨rfl,trivial⟩,uK,Ab _⟩
 refine ⟨by omega,by omega,?_⟩
 rw [hg,zkK (m:=m) (k:=k) h4];exact zt9 (by rw [Ae];exact h6)
 dsimp only;omega
 have hnk:l.length<=k:=by omega
 obtain rfl:k=l.length:=by omega
 rw [zP (Af _)] at hg;refine gz2 ?_;refine zG ?_;refine zaD ?_;refine uCo (fun h7=> ?_) fun h8=> ?_
 refine gz4 ?_;refine uRp ?_
 (rw [hg,zq7,if_pos uO])
 refine gz6 ?_;refine uRp ?_
 (rw [hg,zq7,if_neg uO])
theorem zkw [Tracks] {l:List FixS} {v:Value} {fid:FuncId} {caps:List HVal} {p:FixS->FixS->Bool} (hca:Callable prog fid) (hp: ∀x y,ConP prog fid ([zau x,zau y]++caps) (.bool (p x y))) (hl:l.length<=1000000):Con prog 189 [.raw v,.fn (.func fid) [] caps] [.arr v 4 (l.map zau)] (fun x M'=> ∃(u:Value) (D:List FixS),x= .raw u/\(D.length<=l.length/\∀x∈D,x∈l)/\M'=[.arr u 4 (D.map zau)]):=by
 refine uOb func189 ntmps189 ?_;refine gz6 ?_;refine de rfl (za6 (i:=0) zaF rfl rfl ?_)
 refine gz2 ?_;refine uCo (fun h1=> ?_) fun h2=> ?_
 refine gz5 ?_;exact zaf rfl ⟨_,l,rfl,⟨Af _,fun _ q=>q⟩,rfl⟩;refine gz3 ?_;refine zc4 (i:=0) rfl (fun h0 he=> ?_) (fun b off cap hv hcap=> ?_)
 exfalso;have:=congrArg List.length he;simp at this;subst this;simp at h2
 rw [Ag] at hv hcap;subst hv;refine gz4 ?_;refine uT1 [4,4,12,53] (fun k=>[(5,.int .i64 (k:Int))]) (fun k=>[.arr (.slice (some ⟨b,off,none⟩) l.length cap) 4 (l.map zau)]) (fun k=>1<=k/\k<=l.length) (fun k=>l.length-k) (1) ?_ ?_;exact ⟨by omega,by omega⟩;rintro k ⟨hk1,hk⟩;refine gz4 ?_;refine de rfl (za6 (i:=0) zaF rfl rfl ?_)
 refine gz2 ?_;refine uCo (fun h3=> ?_) fun h4=> ?_
 obtain ⟨x,hx⟩: ∃x,l[k]? =some x:=⟨_,Aa uO⟩
 obtain ⟨y,hy⟩: ∃y,l[k-1]? =some y:=⟨_,Aa uO⟩
 refine gz4 ?_;refine zbu (fun M=>M=[.arr (.slice (some ⟨b,off,none⟩) l.length cap) 4 (l.map zau)]) [4,9] mixed ?_;refine gz3 ?_;refine uB 3 rfl (zM (j:=k) zaF zaa rfl rfl rfl uO) ?_;refine uM 4 rfl rfl (uW (zao (i:=0) (j:=k) zaa rfl uO rfl hx rfl rfl rfl ⟨rfl,rfl⟩)) ?_;refine gz3 ?_;refine uB 8 rfl (zM (j:=k-1) zaF zaa rfl rfl uO uO) ?_;refine uM 9 rfl rfl (uW (zao (i:=0) (j:=k-1) zaa rfl uO rfl hy rfl rfl rfl ⟨rfl,rfl⟩)) ?_;refine uB 10 rfl (zaB hca rfl rfl (WeakL.refl _) (hp x y)) ?_;refine gz1 ?_;refine uCo (fun h5=> ?_) fun h6=> ?_
 refine gz3 ?_;refine dq (zeF (l:=k) (h:=l.length) zaF zaa rfl ⟨_,_,rfl,rfl⟩ rfl uO uO hcap) ?_;refine gz2 ?_;rw [zp8 uO];refine gz5 ?_;refine uU3 [5,1,7,1,32,27] (fun (k2:Nat) (kk:Nat) (D:List FixS)=>[(7,.int .i64 (k2:Int)),(5,.int .i64 (kk:Int))]) (fun (k2:Nat) (kk:Nat) (D:List FixS)=>[.arr (.slice (some ⟨b,off,none⟩) l.length cap) 4 (D.map zau)]) (fun (k2:Nat) (kk:Nat) (D:List FixS)=>(1<=k2/\k+k2<=l.length)/\(k<=kk/\kk+1<=k+k2)/\D.length=l.length/\∀x∈D,x∈l) (fun (k2:Nat) (kk:Nat) (D:List FixS)=>l.length-k2) (1) (k) (l) ?_ ?_;exact ⟨⟨by omega,by have:=zx hx;omega⟩,⟨by omega,by omega⟩,rfl,fun _ q=>q⟩;rintro k2 kk D ⟨⟨hk2,hkk⟩,⟨hc1,hc2⟩,hDl,hDm⟩;refine gz4 ?_;refine dq (ze6 zaF rfl) ?_;refine gz2 ?_;refine uCo (fun h7=> ?_) fun h8=> ?_
 obtain ⟨x2,hDx⟩: ∃x,D[k+k2]? =some x:=⟨_,Aa uO⟩
 obtain ⟨y2,hDy⟩: ∃y,D[k+k2-1]? =some y:=⟨_,Aa uO⟩
 refine gz4 ?_;refine zbu (fun M=>M=[.arr (.slice (some ⟨b,off,none⟩) l.length cap) 4 (D.map zau)]) [4,9] mixed ?_;refine gz3 ?_;refine uB 3 rfl (zM (j:=k2) zaF zaa rfl rfl rfl uO) ?_;refine uM 4 rfl rfl (uW (zao (i:=0) (j:=(k+k2)) zaa rfl uO rfl hDx rfl rfl rfl ⟨rfl,rfl⟩)) ?_;refine gz3 ?_;refine uB 8 rfl (zM (j:=k2-1) zaF zaa rfl rfl uO uO) ?_;refine uM 9 rfl rfl (uW (zao (i:=0) (j:=(k+k2-1)) zaa rfl uO rfl hDy rfl rfl rfl ⟨rfl,rfl⟩)) ?_;refine uB 10 rfl (zaB hca rfl rfl (WeakL.refl _) (hp x2 y2)) ?_;refine gz2 ?_;refine uCo (fun h9=> ?_) fun h10=> ?_
 refine gz5 ?_;refine dq (zM (j:=k2) zaF zaa rfl rfl rfl uO) ?_;refine de rfl (zao (i:=0) (j:=(k+k2)) zaa rfl uO rfl hDx rfl rfl rfl ?_)
 refine dq (zM (j:=kk) zaF zaa rfl rfl rfl uO) ?_;refine de0 (zbh (i:=0) (j:=kk) (y:=D[kk]'uO) (y':=x2) zaa rfl rfl rfl rfl (Aa _) rfl rfl rfl ?_)
 refine zfW ?_;exact ⟨k2+1,kk+1,D.set kk x2,⟨⟨by omega,by omega⟩,⟨by omega,by omega⟩,by simp;omega,fun z hz=>(BT hz).elim (hDm z) (fun q=>by rw [q];exact hDm x2 (Ac hDx))⟩,uD,⟨rfl,zW uO,trivial⟩,uK,Ab _⟩;refine gz8 ?_;exact ⟨k2+1,kk,D,⟨⟨by omega,by omega⟩,⟨by omega,by omega⟩,hDl,hDm⟩,uD,⟨rfl,rfl,trivial⟩,uK,Ab _⟩;refine gz2 ?_;refine zdz ?_;refine gz5 ?_;refine dq (zeF (l:=kk) (h:=l.length) zaF zaa rfl ⟨_,_,rfl,rfl⟩ rfl uO uO hcap) ?_;refine de0 (zet (i:=0) (m:=kk) (kk) zaF zaa rfl rfl rfl (zhs uO hcap) rfl uO (Af _) (by rw [Ag,hDl];omega) ?_)
 refine gz4 ?_;refine dq (zfK (h:=kk) zaF zaa rfl ⟨_,_,rfl,rfl⟩ uO) ?_;refine gz3 ?_;exact zaf rfl ⟨_,D.take kk,rfl,⟨by simp;omega,fun z hz=>hDm z (AZ hz)⟩,by rw [Bu];rfl⟩;refine gz8 ?_;exact ⟨k+1,⟨by omega,by omega⟩,uD,⟨rfl,trivial⟩,uK,Ab _⟩;refine gz2 ?_;refine zG ?_;refine gz7 ?_;exact zaf rfl ⟨_,l,rfl,⟨Af _,fun _ q=>q⟩,rfl⟩
theorem zhJ [Tracks] {A X C:List FixS} {ia ib:Int} {n b off cap:Nat} {fid:FuncId} {caps:List HVal} {c:FixS->FixS->Int} (hca:Callable prog fid) (hp: ∀x y,ConP prog fid ([zau x,zau y]++caps) (.int .i64 (c x y))) (hn:A.length+X.length+C.length=n) (hia:ia=(A.length:Int)) (hib:ib=(A.length:Int)+X.length) (hl:n<=1000000):Con prog 298 [.raw (.slice (some ⟨b,off,none⟩) n cap),.int .i64 ia,.int .i64 ib,.fn (.func fid) [] caps] [.arr (.slice (some ⟨b,off,none⟩) n cap) 4 ((A++X++C).map zau)] (fun x M'=>x= .tup []/\M'=[.arr (.slice (some ⟨b,off,none⟩) n cap) 4 ((A++zaQ c X++C).map zau)]):=by
 refine uOb func298 ntmps298 ?_;refine gz6 ?_;refine uV1 [8,2,12,41] (fun (k:Nat)=>[(8,.int .i64 ((A.length+k:Nat):Int))]) (fun (k:Nat)=>[.arr (.slice (some ⟨b,off,none⟩) n cap) 4 ((A++(zaQ c (X.take k)++X.drop k)++C).map zau)]) (fun (k:Nat)=>1<=k) (fun (k:Nat)=>X.length-k) (1) ?_ ?_ ?_ ?_;exact Af _;exact ⟨zW uO,trivial⟩;exact zg (by rw [zm2])
 intro k hk
 refine gz6 ?_;refine uCo (fun h1=> ?_) fun h2=> ?_
 obtain ⟨x,hx⟩: ∃x,X[k]? =some x:=⟨_,Aa uO⟩
 refine gz9 ?_;refine uV2 [9,1,18,35] (fun (D:List FixS) (B:List FixS)=>[(9,.int .i64 ((A.length+D.length:Nat):Int))]) (fun (D:List FixS) (B:List FixS)=>[.arr (.slice (some ⟨b,off,none⟩) n cap) 4 (((A++D)++x::(B++X.drop (k+1)++C)).map zau)]) (fun (D:List FixS) (B:List FixS)=>D.length+B.length=k/\zdM c x (zaQ c (X.take k))=zdM c x D++B) (fun (D:List FixS) (B:List FixS)=>D.length) (zaQ c (X.take k)) ([]) ?_ ?_ ?_ ?_;exact ⟨by simp [zdm];omega,by simp⟩;exact ⟨zW (by simp [zdm];omega),trivial⟩;exact zg (by rw [zt hx];simp)
 intro D B hinv
 obtain ⟨hA,hB⟩:=hinv;have hlA:D.length<X.length:=by omega
 refine gz1 ?_;refine zbu (fun M=>M=[.arr (.slice (some ⟨b,off,none⟩) n cap) 4 (((A++D)++x::(B++X.drop (k+1)++C)).map zau)]) [8,13] mixed ?_;refine gz7 ?_;refine ahg 7 rfl rfl (by kernel_rfl) (by kernel_rfl) rfl (fun hc=>by
  have hq:0<D.length:=by simp at hc;omega
  exact ⟨_,OpenTo.upd (t:=24) rfl (hc) (OpenTo.upd (t:=23) rfl (hc) (OpenTo.refl _)),zM (j:=(A++D).length) zaF zaa rfl rfl (by simp) uSo⟩) ?_
 refine zsV 8 rfl rfl (by kernel_rfl) (by kernel_rfl) (by simp) rfl rfl (fun hc=>⟨_,OpenTo.upd (t:=25) rfl (hc) (OpenTo.refl _),fun M hM=>by
  subst hM;exact zao (i:=0) (j:=(A++D).length) zaa rfl rfl rfl zir rfl rfl rfl ⟨rfl,rfl⟩
  ⟩) ?_
 refine gz2 ?_;refine ahg 11 rfl rfl (by kernel_rfl) (by kernel_rfl) rfl (fun hc=>by
  have hq:0<D.length:=by simp at hc;omega
  exact ⟨_,OpenTo.upd (t:=28) rfl (hc) (OpenTo.refl _),zgC rfl rfl uO uO⟩) ?_
 refine ahg 12 rfl rfl (by kernel_rfl) (by kernel_rfl) rfl (fun hc=>by
  have hq:0<D.length:=by simp at hc;omega
  exact ⟨_,OpenTo.upd (t:=29) rfl (hc) (OpenTo.upd (t:=27) rfl (hc) (OpenTo.refl _)),zM (j:=(A++D).length-1) zaF zaa rfl rfl uSo uSo⟩) ?_
 refine zsV 13 rfl rfl (by kernel_rfl) (by kernel_rfl) (by simp) rfl rfl (fun hc=>⟨_,OpenTo.upd (t:=30) rfl (hc) (OpenTo.refl _),fun M hM=>by
  have hq:0<D.length:=by simp at hc;omega
  subst hM;exact zao (i:=0) (j:=(A++D).length-1) zaa rfl rfl rfl (zof uSo) rfl rfl rfl ⟨rfl,rfl⟩
  ⟩) ?_
 refine uGy 14 rfl rfl (fun hc=>zaB hca rfl rfl (WeakL.refl _) (hp _ _)) ?_;refine gz3 ?_;refine uCo (fun h3=> ?_) fun h4=> ?_
 obtain ⟨hA0,hcx⟩:=h3;obtain ⟨D1,y,rfl⟩:=zpq (A:=D) uO;rw [zrn] at hcx;have hD1:(D1++[y]).length=D1.length+1:=by simp
 refine gz4 ?_;refine zba (fun M=>M=[.arr (.slice (some ⟨b,off,none⟩) n cap) 4 (((A++(D1++[y]))++x::(B++X.drop (k+1)++C)).map zau)]) [9,13] mixed ?_;refine gz8 ?_;refine uB 8 rfl (zM (j:=(A++(D1++[y])).length-1) zaF zaa rfl rfl uSo uSo) ?_;refine uM 9 rfl rfl (uW (zao (i:=0) (j:=(A++(D1++[y])).length-1) zaa rfl rfl rfl (zkU) rfl rfl rfl ⟨rfl,rfl⟩)) ?_;refine gz2 ?_;refine uB 12 rfl (zM (j:=(A++(D1++[y])).length) zaF zaa rfl rfl (by simp) uSo) ?_;refine uM 13 rfl rfl (uW (zao (i:=0) (j:=(A++(D1++[y])).length) zaa rfl rfl rfl zir rfl rfl rfl ⟨rfl,rfl⟩)) ?_;refine uB 14 rfl (zM (j:=(A++(D1++[y])).length) zaF zaa rfl rfl (by simp) uSo) ?_;refine uF 15 ?_;refine zT (zbh (i:=0) (j:=(A++(D1++[y])).length) (y:=x) (y':=y) zaa rfl rfl rfl rfl zir rfl rfl rfl ?_)
 refine ⟨uE,?_⟩
 refine uB 16 rfl (zM (j:=(A++(D1++[y])).length-1) zaF zaa rfl rfl uSo uSo) ?_;refine uF 17 ?_;refine zT (zbh (i:=0) (j:=(A++(D1++[y])).length-1) (y:=y) (y':=x) zaa rfl rfl rfl rfl (by rw [Bx (by simp)];exact zkU) rfl rfl rfl ?_)
 refine ⟨uE,?_⟩
 refine gz8 ?_;exact ⟨D1,y::B,⟨by simp at hA⊢;omega,zrm hB hcx⟩,uD,⟨zW uO,trivial⟩,uK,zg (by rw [<-AS,zrQ];simp)⟩;have hins:=zrl (l:=X) (k:=k) hx hB (by intro h0;have h9:=h4 uO;rw [zma h0] at h9;omega);refine gz2 ?_;refine zY ?_;refine gz8 ?_;exact ⟨k+1,by omega,uD,⟨zW uO,trivial⟩,uK,zg (by rw [zsu hins])⟩;have hend:zaQ c (X.take k)++X.drop k=zaQ c X:=by rw [Bp uO,zP uO];simp
 refine gz2 ?_;refine zG ?_;refine gz1 ?_;exact zaf rfl ⟨rfl,by rw [hend]⟩
theorem zkI [Tracks] {l:List FixS} {n0:Int} {n b off cap:Nat} {fid:FuncId} {caps:List HVal} {c:FixS->FixS->Int} (hca:Callable prog fid) (hp: ∀x y,ConP prog fid ([zau x,zau y]++caps) (.int .i64 (c x y))) (hc:Cmp c fun _=>True) (hn:l.length=n) (hn0:n0=(n:Int)) (hl:n<=20):Con prog 245 [.raw (.slice (some ⟨b,off,none⟩) n cap),.int .i64 n0,.fn (.func fid) [] caps] [.arr (.slice (some ⟨b,off,none⟩) n cap) 4 ((l).map zau)] (fun x M'=> ∃Z:List FixS,x= .tup []/\(Z.Perm l/\Srt c Z)/\M'=[.arr (.slice (some ⟨b,off,none⟩) n cap) 4 ((Z).map zau)]):=by
 refine uOb func245 ntmps245 ?_;refine zaD ?_;refine uV3 [7,2,11,12] (fun (a0:Nat) (k:Nat) (Z:List FixS)=>[(7,.int .i64 (a0:Int)),(8,.int .i64 ((a0+20:Nat):Int))]) (fun (a0:Nat) (k:Nat) (Z:List FixS)=>[.arr (.slice (some ⟨b,off,none⟩) n cap) 4 ((Z++l.drop a0).map zau)]) (fun (a0:Nat) (k:Nat) (Z:List FixS)=>a0=20*k/\a0<=n/\Blk c 20 Z/\Z.length=a0/\Z.Perm (l.take a0)) (fun (a0:Nat) (k:Nat) (Z:List FixS)=>n-a0) (0) (0) ([]) ?_ ?_ ?_ ?_
 ·exact ⟨rfl,Ad _,Blk.nil,rfl,by simp⟩
 ·exact ⟨rfl,rfl,trivial⟩
 ·exact zg (by simp)
 ·intro a0 k Z hinv
  obtain ⟨ha0,ha1,hZ,hZl,hZp⟩:=hinv;refine gz6 ?_;refine uCo (fun h1=> ?_) fun h2=> ?_
  ·refine gz3 ?_;refine zl (zcI (M':=[.arr (.slice (some ⟨b,off,none⟩) n cap) 4 ((Z++(l.drop a0).take 20++l.drop (a0+20)).map zau)]) (by rw [AS Z,<-win])) ?_;refine gz5 ?_;refine de rfl (uCx 0 ztg rfl rfl (zhJ (A:=Z) (X:=((l.drop a0).take 20)) (C:=(l.drop (a0+20))) (n:=n) hca hp (by first|omega|(simp;omega)) uO (by first|omega|(simp;omega)) uO) ?_)
   rintro _ _ ⟨rfl,rfl⟩;refine zfq ?_;exact ⟨a0+20,k+1,Z++zaQ c ((l.drop a0).take 20),⟨by omega,by omega,hZ.add (k:=k) uO (zjo hc _) (by rw [zdm,AC];omega),by rw [AB,zdm,AC,Ba];omega,by rw [zqc];exact hZp.append (zb5 c _)⟩,uD,⟨zW uO,zW uO,trivial⟩,uK,Ab _⟩
  ·refine gz2 ?_;refine zdz ?_;refine gz2 ?_;refine zl (zcI (M':=[.arr (.slice (some ⟨b,off,none⟩) n cap) 4 ((Z++l.drop a0++[]).map zau)]) (by simp)) ?_;refine gz5 ?_;refine de rfl (uCx 0 ztg rfl rfl (zhJ (A:=Z) (X:=(l.drop a0)) (C:=[]) (n:=n) hca hp (by first|omega|(simp;omega)) uO (by first|omega|(simp;omega)) uO) ?_)
   rintro _ _ ⟨rfl,rfl⟩;refine gz2 ?_;refine uV2 [6,4,28,35] (fun (bs:Nat) (D:List FixS)=>[(6,.int .i64 (bs:Int))]) (fun (bs:Nat) (D:List FixS)=>[.arr (.slice (some ⟨b,off,none⟩) n cap) 4 ((D).map zau)]) (fun (bs:Nat) (D:List FixS)=>20<=bs/\bs<=2*n+20/\Blk c bs D/\D.Perm l) (fun (bs:Nat) (D:List FixS)=>n-bs) (20) (Z++zaQ c (l.drop a0)) ?_ ?_ ?_ ?_
   ·refine ⟨Af _,by omega,hZ.add (k:=k) uO (zjo hc _) (by rw [zdm,Ba];omega),?_⟩
    have:=hZp.append (zb5 c (l.drop a0))
    rwa [Bi] at this
   ·exact ⟨rfl,trivial⟩
   ·exact zg (by simp)
   ·intro bs D hinv
    obtain ⟨hb1,hb2,hD,hDp⟩:=hinv;have hDl:D.length=n:=by rw [hDp.length_eq];exact hn
    refine gz6 ?_;refine za3 rfl (fun h3=> ?_) (fun h3=> ?_)
    ·exfalso
     try simp at h3
     all_goals omega
    ·try simp at h3
     refine gz2 ?_;refine zY ?_;refine gz1 ?_;have hDs:=hD.all uO;exact zaf rfl ⟨D,rfl,⟨hDp,hDs⟩,rfl⟩
theorem zlJ [Tracks] {v:Value} {fid:FuncId} {caps:List HVal}:Con prog 298 [.raw v,.int .i64 0,.int .i64 0,.fn (.func fid) [] caps] [.arr v 4 []] (fun x M'=>x= .tup []/\M'=[.arr v 4 []]):=by
 refine uOb func298 ntmps298 ?_;refine gz6 ?_;refine uU1 [8,2,12,41] (fun (u:Unit)=>[(8,.int .i64 1)]) (fun (u:Unit)=>[.arr v 4 []]) (fun (u:Unit)=>True) (fun (u:Unit)=>0) (()) ?_ ?_
 ·trivial
 ·intro u hu
  refine gz6 ?_;refine za3 rfl (fun h1=> ?_) (fun h1=> ?_)
  ·exfalso
   try simp at h1
   all_goals omega
  ·try simp at h1
   refine gz2 ?_;refine zG ?_;refine gz1 ?_;exact zaf rfl ⟨rfl,rfl⟩
theorem zka [Tracks] {v:Value} {fid:FuncId} {caps:List HVal}:Con prog 245 [.raw v,.int .i64 0,.fn (.func fid) [] caps] [.arr v 4 []] (fun x M'=>x= .tup []/\M'=[.arr v 4 []]):=by
 refine uOb func245 ntmps245 ?_;refine zaD ?_;refine uU1 [7,2,11,12] (fun (u:Unit)=>[(7,.int .i64 0),(8,.int .i64 20)]) (fun (u:Unit)=>[.arr v 4 []]) (fun (u:Unit)=>True) (fun (u:Unit)=>0) (()) ?_ ?_
 ·trivial
 ·intro u hu
  refine gz6 ?_;refine za3 rfl (fun h1=> ?_) (fun h1=> ?_)
  ·exfalso
   try simp at h1
   all_goals omega
  ·try simp at h1
   refine gz2 ?_;refine zG ?_;refine gz7 ?_;refine de rfl (uCx 0 ztg rfl rfl zlJ ?_)
   rintro _ _ ⟨rfl,rfl⟩;refine gz2 ?_;refine uU1 [6,4,28,35] (fun (u:Unit)=>[(6,.int .i64 20)]) (fun (u:Unit)=>[.arr v 4 []]) (fun (u:Unit)=>True) (fun (u:Unit)=>0) (()) ?_ ?_
   ·trivial
   ·intro u hu
    refine gz6 ?_;refine za3 rfl (fun h2=> ?_) (fun h2=> ?_)
    ·exfalso
     try simp at h2
     all_goals omega
    ·try simp at h2
     refine gz2 ?_;refine zG ?_;refine gz1 ?_;exact zaf rfl ⟨rfl,rfl⟩
theorem zjL [Tracks] {fid:FuncId} {caps:List HVal}:Con prog 185 [.raw (.slice none 0 0),.fn (.func fid) [] caps] [.arr (.slice none 0 0) 4 []] (fun x M'=>x= .tup []/\M'=[.arr (.slice none 0 0) 4 []]):=by
 refine uOb func185 ntmps185 ?_;refine gz3 ?_;refine dq (ze6 zaF rfl) ?_;refine gz1 ?_;refine de rfl (uCx 0 zwB rfl rfl zka ?_)
 rintro _ _ ⟨rfl,rfl⟩;refine gz1 ?_;exact zaf rfl ⟨rfl,rfl⟩
theorem zjM [Tracks] {l:List FixS} {n b off cap:Nat} {fid:FuncId} {caps:List HVal} {c:FixS->FixS->Int} (hca:Callable prog fid) (hp: ∀x y,ConP prog fid ([zau x,zau y]++caps) (.int .i64 (c x y))) (hc:Cmp c fun _=>True) (hn:l.length=n) (hl:n<=20):Con prog 185 [.raw (.slice (some ⟨b,off,none⟩) n cap),.fn (.func fid) [] caps] [.arr (.slice (some ⟨b,off,none⟩) n cap) 4 ((l).map zau)] (fun x M'=> ∃Z:List FixS,x= .tup []/\(Z.Perm l/\Srt c Z)/\M'=[.arr (.slice (some ⟨b,off,none⟩) n cap) 4 ((Z).map zau)]):=by
 refine uOb func185 ntmps185 ?_;refine gz3 ?_;refine dq (ze6 zaF rfl) ?_;refine gz1 ?_;refine de rfl (uCx 0 zwB rfl rfl (zkI hca hp hc hn rfl hl) ?_)
 rintro _ _ ⟨Z,rfl,hz,rfl⟩;refine gz1 ?_;exact zaf rfl ⟨Z,rfl,hz,rfl⟩
theorem zj9 [Tracks] {l:List FixS} {v:Value} {fid:FuncId} {caps:List HVal} {c:FixS->FixS->Int} (hca:Callable prog fid) (hp: ∀x y,ConP prog fid ([zau x,zau y]++caps) (.int .i64 (c x y))) (hc:Cmp c fun _=>True) (hl:l.length<=20):Con prog 185 [.raw v,.fn (.func fid) [] caps] [.arr v 4 (l.map zau)] fun x M'=> ∃Z:List FixS,x= .tup []/\(Z.Perm l/\Srt c Z)/\M'=[.arr v 4 (Z.map zau)]:=
 zq9 (fun h1 h2=>by
  have h3:l=[]:=by first|exact List.map_eq_nil_iff.1 h2|simpa using h2
  subst h1 h3;exact zjL.mono fun x M' ⟨e1,e2⟩=>⟨[],e1,⟨Ab _,Srt.nil⟩,e2⟩)
  fun b off cap h1=>by
   rw [Ag] at h1;subst h1;exact zjM hca hp hc rfl hl
theorem zg7 [Tracks] {x y:FixS}:ConP prog 186 [zau x,zau y] (.int .i64 (znd x y)):=by
 refine uOb func186 ntmps186 ?_;refine zc8 ?_;refine dq (za (hs:=[_,_]) zad ty3 rfl rfl (by decide) (by decide) rfl) ?_;refine gz4 ?_;refine dq (za (hs:=[_,_]) zad ty3 rfl rfl (by decide) (by decide) rfl) ?_;refine dq (uCl zwn rfl (zfk (a:=[x.Week,x.At]) (b:=[y.Week,y.At]) (by simp) (by simp))) ?_;refine gz6 ?_;refine uCo (fun h1=> ?_) fun h2=> ?_
 refine gz5 ?_;refine uRp ?_
 (rw [znd,if_pos (by assumption)])
 refine gz5 ?_;refine dq (za (hs:=[_]) zu ty9 rfl rfl (by decide) (by decide) rfl) ?_;refine gz2 ?_;refine dq (za (hs:=[_]) zu ty9 rfl rfl (by decide) (by decide) rfl) ?_;refine dq (uCl zzg rfl (zgM (l:=[x.Home]) (m:=[y.Home]) (by simp) (by simp))) ?_;refine gz3 ?_;refine uRp ?_
 (rw [znd,if_neg uO])
theorem zg8 [Tracks] {x y:FixS}:ConP prog 190 [zau x,zau y] (.bool (bif (bif x.Week==y.Week then x.At==y.At else false) then x.Home==y.Home else false)):=by
 refine uOb func190 ntmps190 ?_;refine gz28 ?_;refine zC rfl ?_
 rfl
theorem zcR [Tracks] {b:Nat} {l:List Int} {a:Nat} (ha:a<=700000):Con prog 104 [pAt b] [St b l a] (fun x M'=> ∃k a',x=zde k/\k.length<=12/\a'<=a+150/\M'=[St b l a']):=by
 refine uOb func104 ntmps104 ?_;refine gz6 ?_;refine zl (zQ 4) ?_;refine gz5 ?_;refine uV2 [3,58] (fun (w:Nat) (q:GL FixS)=>[(4,.int .i64 ((w:Int)+1)),(3,.raw q.u)]) (fun (w:Nat) (q:GL FixS)=>[St b l q.a,.arr q.u 4 (q.out.map zau)]) (fun (w:Nat) (q:GL FixS)=>w<=4/\GLok (fun _=>True) (3*w) (a+32*w) q) (fun (w:Nat) (q:GL FixS)=>4-w) (0) (⟨.slice none 0 0,[],a⟩) ?_ ?_ ?_ ?_;exact ⟨by omega,⟨by simp,by simp,uD⟩⟩;exact ⟨zW uO,rfl,trivial⟩;exact uP
 intro w q hinv
 obtain ⟨hw,hq⟩:=hinv;obtain ⟨u,out,a2⟩:=q;obtain ⟨g1,g2,g3⟩:=id hq;dsimp only at g1 g2 g3;refine gz5 ?_;refine uCo (fun h1=> ?_) fun h2=> ?_
 refine gz6 ?_;refine dq (zgA rfl rfl uO uO) ?_;refine gz4 ?_;refine de rfl (uCx 0 ca6 rfl rfl (zS uS uS uS uS) ?_)
 rintro _ _ ⟨y14,rfl,hy14,rfl⟩;refine gz3 ?_;refine uV3 [3,1,5,2,15,46] (fun (n:Nat) (at1:Int) (q2:GL FixS)=>[(15,.int .i64 (n:Int)),(5,.int .i64 at1),(3,.raw q2.u)]) (fun (n:Nat) (at1:Int) (q2:GL FixS)=>[St b l q2.a,.arr q2.u 4 (q2.out.map zau)]) (fun (n:Nat) (at1:Int) (q2:GL FixS)=>(n:Int)<=y14/\(0<=at1/\at1<=1000+20*n)/\GLok (fun _=>True) (3*w+n) (a+32*w+1+10*n) q2) (fun (n:Nat) (at1:Int) (q2:GL FixS)=>y14.toNat-n) (0) (100*((w:Int)+1)) (⟨u,out,a2+1⟩) ?_ ?_ ?_ ?_;exact ⟨by omega,by omega,⟨uD,g2,uD⟩⟩;exact ⟨rfl,rfl,rfl,trivial⟩;exact uP
 intro n at1 q2 hinv
 obtain ⟨hn,hat,hq2⟩:=hinv;obtain ⟨u,out,a2⟩:=q2;obtain ⟨g1,g2,g3⟩:=id hq2;dsimp only at g1 g2 g3;refine gz4 ?_;refine uCo (fun h3=> ?_) fun h4=> ?_
 refine gz7 ?_;refine dq (za (hs:=[_,_,_]) zad ty3 rfl rfl (by decide) (by decide) rfl) ?_;refine de rfl (uCx 0 zaI rfl rfl (zf (L:=[_,_,_]) uS uS uS) ?_)
 rintro _ _ ⟨y20,rfl,hy20,rfl⟩;refine dq (zbf rfl rfl (by simp at hy20;omega) (by simp at hy20;omega)) ?_;refine gz6 ?_;refine dq (za (hs:=[_,_,_]) zu ty9 rfl rfl (by decide) (by decide) rfl) ?_;refine de rfl (uCx 0 ca7 rfl rfl (zp (L:=[_,_,_]) uS uS uS) ?_)
 rintro _ _ ⟨y26,rfl,hy26,rfl⟩;refine gz1 ?_;refine dq (za (hs:=[_,_,_]) zu ty9 rfl rfl (by decide) (by decide) rfl) ?_;refine de rfl (uCx 0 ca7 rfl rfl (zp (L:=[_,_,_]) uS uS uS) ?_)
 rintro _ _ ⟨y29,rfl,hy29,rfl⟩;refine dq (zO (cs:=[_,_,_,_]) zaa zAi rfl) ?_;refine de rfl (zq zaa rfl fun b6=> ?_)
 refine de0 (uY 0 ?_)
 refine gz1 ?_;refine uVj [31,11] (fun (q3:FixS×Nat)=>[]) (fun (q3:FixS×Nat)=>[St b l q3.2,.arr u 4 (out.map zau),.cells b6 (zd (zau q3.1))]) (fun (q3:FixS×Nat)=>q3.2<=a2+4) ?_ ?_
 skip
 refine zl (Ghost.perm (M':=[St b l (a2+3),.cells b6 (zd (zau (⟨(w:Int)+1,at1+y20,y26,y29⟩:FixS))),.arr u 4 (out.map zau)]) uP) ?_;refine gz2 ?_;refine de rfl (uZ 1 ?_)
 refine gz1 ?_;refine de rfl (uZ 1 ?_)
 refine gz3 ?_;refine dgx (fun xq M'=> ∃(y:Bool) (a4:Nat),xq= .bool y/\a4<=a2+4/\M'=[St b l a4,.cells b6 (zd (zau (⟨(w:Int)+1,at1+y20,y26,y29⟩:FixS))),.arr u 4 (out.map zau)]) rfl rfl (fun hc=>⟨_,false,a2+3,rfl,by omega,rfl⟩) (fun hc=>⟨_,OpenTo.upd (t:=37) rfl (hc) (OpenTo.refl _),uCx 0 zeb rfl rfl (zI (a:=a2+3) uO uO) (fun h M' hh=>by
  obtain ⟨y,h1,h2⟩:=hh;exact ⟨y,a2+4,h1,by omega,by rw [h2];rfl⟩)⟩) ?_
 rintro _ _ ⟨y38,a4,rfl,ha4,rfl⟩;refine gz3 ?_;refine uCo (fun h5=> ?_) fun h6=> ?_
 refine gz2 ?_;refine de0 (uY 1 ?_)
 refine gz1 ?_;exact ⟨((⟨(w:Int)+1,at1+y20,y26,[112,105,110,107]⟩:FixS),a4),ha4,trivial,uK,uP⟩;refine gz1 ?_;exact ⟨((⟨(w:Int)+1,at1+y20,y26,y29⟩:FixS),a4),ha4,trivial,uK,uP⟩
 intro q3 ha4
 obtain ⟨x4,a4⟩:=q3;dsimp only at ha4;refine uVj [42,14] (fun (q4:FixS×Nat)=>[]) (fun (q4:FixS×Nat)=>[St b l q4.2,.arr u 4 (out.map zau),.cells b6 (zd (zau q4.1))]) (fun (q4:FixS×Nat)=>q4.2<=a2+10) ?_ ?_
 skip
 refine gz2 ?_;refine de rfl (uCx 0 zeb rfl rfl (zI uS uS) ?_)
 rintro _ _ ⟨y43,rfl,rfl⟩;refine gz1 ?_;refine uCo (fun h7=> ?_) fun h8=> ?_
 refine zba (fun M=> ∃i:Nat,M[i]? =some (.cells b6 (zd (zau x4)))) [6] mixed ?_;refine gz1 ?_;refine gx2 [2,4] ?_;refine gz1 ?_;refine uM 6 rfl (⟨2,rfl⟩) (fun M hM=>by obtain ⟨i,hi⟩:=hM;exact zV (i:=i) ty9 rfl hi (.inl ⟨rfl,rfl⟩) ⟨rfl,rfl⟩) ?_;refine uB 7 rfl (za (hs:=[_,_]) zu ty9 rfl rfl (by decide) (by decide) rfl) ?_;refine uF 1 ?_;refine zA rfl (uCx 0 zkJ rfl rfl (zhf uS uS uS uS) ?_)
 rintro _ _ ⟨y45,rfl,hy45,rfl⟩;refine ⟨uE,?_⟩
 refine uA 9 ?_;refine uF 3 ?_;refine zA rfl (uCx 0 zkJ rfl rfl (zhf uS uS uS uS) ?_)
 rintro _ _ ⟨y47,rfl,hy47,rfl⟩;refine ⟨uE,?_⟩
 refine uF 8 ?_;refine zA rfl (uCx 0 ca7 rfl rfl (zp (L:=[_,_]) uS uS uS) ?_)
 rintro _ _ ⟨y52,rfl,hy52,rfl⟩;refine ⟨uE,?_⟩
 refine uF 10 ?_;refine zT (uY 2 ?_)
 refine ⟨uE,?_⟩
 refine gz1 ?_;refine uF 12 ?_;refine zT (uY 2 ?_)
 refine ⟨uE,?_⟩
 refine gz1 ?_;refine uF 14 ?_;refine zT (uY 2 ?_)
 refine ⟨uE,?_⟩
 refine gz1 ?_;exact ⟨((⟨y45,y47,y52,x4.Away⟩:FixS),a4+6),uD,trivial,uK,uP⟩;refine gz1 ?_;exact ⟨(x4,a4+1),uD,trivial,uK,uP⟩
 intro q4 ha5
 obtain ⟨x5,a5⟩:=q4;dsimp only at ha5;refine zl (zbi 6 (i:=2) rfl rfl) ?_;refine gz3 ?_;refine dq (za (hs:=[_]) zaF zaa rfl rfl (by decide) (by decide) rfl) ?_;refine de rfl (zN (i:=1) zaF zaa rfl rfl rfl rfl rfl (by simp [zal,zd,zaR,za8]) uSo fun v59=> ?_)
 refine gz8 ?_;exact ⟨n+1,at1+y20,⟨v59,out++[x5],a5⟩,⟨by omega,by simp at hy20;omega,hq2.add (x:=x5) trivial uO⟩,uD,⟨rfl,rfl,rfl,trivial⟩,uK,uP⟩;refine gz2 ?_;refine zdz ?_;refine gz8 ?_;exact ⟨w+1,⟨u,out,a2⟩,⟨by omega,hq2.mono uO uO⟩,uD,⟨zW uO,rfl,trivial⟩,uK,uP⟩;refine gz2 ?_;refine zY ?_;refine gz4 ?_;refine de rfl (uCx 1 zze rfl rfl (zj9 (l:=out) (c:=znd) zzf (fun _ _=>zg7) zu7 uO) ?_)
 rintro _ _ ⟨Z,rfl,⟨hz1,hz2⟩,rfl⟩;have hzl:=hz1.length_eq;refine gz3 ?_;refine de rfl (uCx 0 zzh rfl rfl (zkw (l:=Z) zzi (fun _ _=>zg8) uO) ?_)
 rintro _ _ ⟨u64,D64,rfl,⟨hD1,hD2⟩,rfl⟩;refine gz3 ?_;exact zB (zap 2 (i:=0) rfl rfl) rfl ⟨D64,a2,rfl,by omega,by omega,rfl⟩
end
end Go.Proofs.YtahegdhbakjdoaaGreatDoor
namespace Go.HL
section
open Go
theorem zbx {e:Env} {places:List (Nat×Nat)} {cs cs' out:List HVal} {i off sz:Nat} {x:Operand} {h:HVal} {r:List (Nat×Operand)} (h1:places[i]? =some (off,sz)) (h2:zh e x=some h) (h3:zd5 sz h=true)
 (h4:Nat.ble (off+sz) cs.length=true) (h5:zaE cs off (zd h)=cs') (k:zfG e places cs' r=some out):zfG e places cs ((i,x)::r)=some out:=by
 rw [zfG,h1,h2];simp only [h3,h4];rw [h5];exact k
theorem zkM {e:Env} {places:List (Nat×Nat)} {cs:List HVal}:zfG e places cs []=some cs:=rfl
theorem zk1 [Tracks] {P:Program} {e:Env} {dst:Option Tmp} {ty:TypeId} {pos:String} {af:Array Edge} {g:Option (Nat×Bool)} {t:TypeId} {fs:List (Nat×Nat)} {size bytes:Nat} {zs:Array Value} {parts:Array (Nat×Operand)} {ps:List (Nat×Operand)} {places:List (Nat×Nat)} {cs zc:List HVal}
 (hf:Fits P t (.struct fs) size bytes (.agg zs)) (hp:Places P fs places) (hz:zs.toList.map za8=zc) (hps:parts.toList=ps)
 (hr:zfG e places zc ps=some cs):POp P e ⟨dst,.build t parts,ty,pos,af,g⟩ (.agg cs):=
 zO hf hp (by rw [hz,hps];exact hr)
theorem zhB [Tracks] {P:Program} {e:Env} {dst:Option Tmp} {ty:TypeId} {pos:String} {af:Array Edge} {g:Option (Nat×Bool)} {t:TypeId} {fs:List (Nat×Nat)} {size bytes:Nat} {zs:Array Value} {parts:Array (Nat×Operand)} {ps:List (Nat×Operand)} {places:List (Nat×Nat)} {cs zc:List HVal}
 (hf:Fits P t (.struct fs) size bytes (.agg zs)) (hp:Places P fs places) (hz:zs.toList.map za8=zc:=by exact (show _=[_,_,_,_,_,_,_,_,_,_,_,_,_,_] from rfl)) (hps:parts.toList=ps:=by exact (show _=[_,_,_,_,_,_,_,_,_] from rfl))
 (hr:zfG e places zc ps=some cs:=by exact zbx (cs':=[_,_,_,_,_,_,_,_,_,_,_,_,_,_]) rfl rfl rfl rfl rfl (zbx (cs':=[_,_,_,_,_,_,_,_,_,_,_,_,_,_]) rfl rfl rfl rfl rfl (zbx (cs':=[_,_,_,_,_,_,_,_,_,_,_,_,_,_]) rfl rfl rfl rfl rfl (zbx (cs':=[_,_,_,_,_,_,_,_,_,_,_,_,_,_]) rfl rfl rfl rfl rfl (zbx (cs':=[_,_,_,_,_,_,_,_,_,_,_,_,_,_]) rfl rfl rfl rfl rfl (zbx (cs':=[_,_,_,_,_,_,_,_,_,_,_,_,_,_]) rfl rfl rfl rfl rfl (zbx (cs':=[_,_,_,_,_,_,_,_,_,_,_,_,_,_]) rfl rfl rfl rfl rfl (zbx (cs':=[_,_,_,_,_,_,_,_,_,_,_,_,_,_]) rfl rfl rfl rfl rfl (zbx (cs':=[_,_,_,_,_,_,_,_,_,_,_,_,_,_]) rfl rfl rfl rfl rfl (zkM)))))))))):POp P e ⟨dst,.build t parts,ty,pos,af,g⟩ (.agg cs):=zk1 hf hp hz hps hr
theorem zAx [Tracks] {P:Program} {e:Env} {dst:Option Tmp} {ty:TypeId} {pos:String} {af:Array Edge} {g:Option (Nat×Bool)} {t:TypeId} {fs:List (Nat×Nat)} {size bytes:Nat} {zs:Array Value} {parts:Array (Nat×Operand)} {ps:List (Nat×Operand)} {places:List (Nat×Nat)} {cs zc:List HVal}
 (hf:Fits P t (.struct fs) size bytes (.agg zs)) (hp:Places P fs places) (hz:zs.toList.map za8=zc:=by exact (show _=[_,_,_,_,_,_,_,_,_,_,_,_,_,_] from rfl)) (hps:parts.toList=ps:=by exact (show _=[_,_,_] from rfl))
 (hr:zfG e places zc ps=some cs:=by exact zbx (cs':=[_,_,_,_,_,_,_,_,_,_,_,_,_,_]) rfl rfl rfl rfl rfl (zbx (cs':=[_,_,_,_,_,_,_,_,_,_,_,_,_,_]) rfl rfl rfl rfl rfl (zbx (cs':=[_,_,_,_,_,_,_,_,_,_,_,_,_,_]) rfl rfl rfl rfl rfl (zkM)))):POp P e ⟨dst,.build t parts,ty,pos,af,g⟩ (.agg cs):=zk1 hf hp hz hps hr
theorem zAw [Tracks] {P:Program} {e:Env} {dst:Option Tmp} {ty:TypeId} {pos:String} {af:Array Edge} {g:Option (Nat×Bool)} {t:TypeId} {fs:List (Nat×Nat)} {size bytes:Nat} {zs:Array Value} {parts:Array (Nat×Operand)} {ps:List (Nat×Operand)} {places:List (Nat×Nat)} {cs zc:List HVal}
 (hf:Fits P t (.struct fs) size bytes (.agg zs)) (hp:Places P fs places) (hz:zs.toList.map za8=zc:=by exact (show _=[_,_,_,_,_,_,_,_,_,_,_,_,_,_,_,_,_,_,_] from rfl)) (hps:parts.toList=ps:=by exact (show _=[_,_,_] from rfl))
 (hr:zfG e places zc ps=some cs:=by exact zbx (cs':=[_,_,_,_,_,_,_,_,_,_,_,_,_,_,_,_,_,_,_]) rfl rfl rfl rfl rfl (zbx (cs':=[_,_,_,_,_,_,_,_,_,_,_,_,_,_,_,_,_,_,_]) rfl rfl rfl rfl rfl (zbx (cs':=[_,_,_,_,_,_,_,_,_,_,_,_,_,_,_,_,_,_,_]) rfl rfl rfl rfl rfl (zkM)))):POp P e ⟨dst,.build t parts,ty,pos,af,g⟩ (.agg cs):=zk1 hf hp hz hps hr
end
section
open Op
abbrev zrX:List HVal:=[.raw (.slice none 0 0),.raw (.slice none 0 0),.raw (.slice none 0 0),.raw (.slice none 0 0),.raw (.slice none 0 0),.int .i64 0,.int .i64 0,.int .i64 0,.int .i64 0,.raw (.slice none 0 0),.raw (.slice none 0 0),.raw (.slice none 0 0),.raw (.slice none 0 0),.int .i64 0]
abbrev zh4:List HVal:=[.raw (.slice none 0 0),.raw (.slice none 0 0),.raw (.slice none 0 0),.raw (.slice none 0 0),.raw (.slice none 0 0),.int .i64 0,.int .i64 0,.int .i64 0,.int .i64 0,.raw (.slice none 0 0),.raw (.slice none 0 0),.raw (.slice none 0 0),.raw (.slice none 0 0),.int .i64 0,.raw (.slice none 0 0),.raw (.slice none 0 0),.raw (.slice none 0 0),.raw (.slice none 0 0),.raw (.slice none 0 0)]
abbrev lgC (p:List PlayerS) (st:HVal) (f:List FixS) (r:List RuleS) (s:List SlotS) (b:BoundS) (t:List Str) (ga:HVal) (br:List Int) (tr:List Str) (w:Int):List HVal:=[zaC p,st,zde f,ziN r,zf7 s,.int .i64 b.Most,.int .i64 b.Hurt,.int .i64 b.Adds,.int .i64 b.Hold,eSs t,ga,eIs br,eSs tr,.int .i64 w]
abbrev bkC (g:LeagueS) (mv pl me he ch:HVal):List HVal:=[zaC g.Players,zbJ g.Stints,zde g.Fixtures,ziN g.Rules,zf7 g.Slots,.int .i64 g.Bounds.Most,.int .i64 g.Bounds.Hurt,.int .i64 g.Bounds.Adds,.int .i64 g.Bounds.Hold,eSs g.Teams,zkd g.Games,eIs g.Breaks,eSs g.Trust,.int .i64 g.Start,mv,pl,me,he,ch]
end
end Go.HL
namespace Go.Proofs.YtahegdhbakjdoaaGreatDoor
set_option maxRecDepth 100000
set_option linter.unusedVariables false
set_option linter.unusedSimpArgs false
section
open Go.Proofs.Tryz
open Go.HL
theorem zhF [Tracks] {b:Nat} {l:List Int} {a:Nat} (ha:a<=500000):Con prog 50 [pAt b] [St b l a] (fun x M'=> ∃g a',x=zca g/\LeaC g/\a'<=a+500/\M'=[St b l a']):=by
 refine zbz func50 rfl ntmps50 rfl rfl ?_;refine gz1 ?_;refine de rfl (zq z7 rfl fun b2=> ?_)
 refine gz1 ?_;refine uVj [3,1,6,23] (fun (q:Nat×LeagueS×Nat)=>[(3,pAt q.1)]) (fun (q:Nat×LeagueS×Nat)=>[.cells q.1 (lgC q.2.1.Players (.raw (.slice none 0 0)) q.2.1.Fixtures q.2.1.Rules q.2.1.Slots q.2.1.Bounds q.2.1.Teams (.raw (.slice none 0 0)) q.2.1.Breaks q.2.1.Trust q.2.1.Start),.cells b2 zrX,St b l q.2.2]) (fun (q:Nat×LeagueS×Nat)=>LeaD q.2.1/\q.2.2<=a+300) ?_ ?_
 ·skip
  refine zmt mixed ?_;refine gz1 ?_;refine gx4 [2,4,6,8] ?_;refine uB 10 rfl (za (hs:=[_,_,_,_]) zu ty9 rfl rfl (by decide) (by decide) rfl) ?_;refine gz1 ?_;refine uB 12 rfl (za (hs:=[_,_,_]) zad ty3 rfl rfl (by decide) (by decide) rfl) ?_;refine gx3 [15,17,19] ?_;refine uB 20 rfl (za (hs:=[_,_,_]) zad ty3 rfl rfl (by decide) (by decide) rfl) ?_;refine zhV 1 23 rfl rfl (by kernel_rfl) ?_ ?_
  ·skip
   refine zA rfl (uCx 1 zv7 rfl rfl (zdH uS) ?_)
   rintro _ _ ⟨k7,a7,rfl,hk7,ha7,rfl⟩;refine ⟨uE,?_⟩
   refine zhV 3 23 rfl rfl (by kernel_rfl) ?_ ?_
   ·skip
    refine zA rfl (uCx 0 zs2 rfl rfl (zcR uS) ?_)
    rintro _ _ ⟨k9,a9,rfl,hk9,ha9,rfl⟩;refine ⟨uE,?_⟩
    refine zhV 5 23 rfl rfl (by kernel_rfl) ?_ ?_
    ·skip
     refine zA rfl (uCx 0 zqt rfl rfl (zbL uS) ?_)
     rintro _ _ ⟨k11,a11,rfl,hk11,ha11,rfl⟩;refine ⟨uE,?_⟩
     refine zhV 7 23 rfl rfl (by kernel_rfl) ?_ ?_
     ·skip
      refine zA rfl (uCx 0 zmz rfl rfl (zbd uS) ?_)
      rintro _ _ ⟨k13,a13,rfl,hk13,hn13,ha13,rfl⟩;refine ⟨uE,?_⟩
      refine zhV 9 23 rfl rfl (by kernel_rfl) ?_ ?_
      ·skip
       refine zA rfl (uCx 0 zmA rfl rfl (zaN uS) ?_)
       rintro _ _ ⟨y15,rfl,rfl⟩;refine ⟨uE,?_⟩
       refine zhV 13 23 rfl rfl (by kernel_rfl) ?_ ?_
       ·skip
        refine zA rfl (uCx 0 zaI rfl rfl (zf (L:=[_,_,_]) uS uS uS) ?_)
        rintro _ _ ⟨y19,rfl,hy19,rfl⟩;refine ⟨uE,?_⟩
        refine uB 14 rfl (za9 (es:=tm4) (f:=HVal.str) (h:=y19.toNat) zu ty9 rfl rfl ⟨_,_,rfl,by simp at hy19;omega⟩ uO (by simp [tm4];simp at hy19;omega)) ?_;refine zhV 16 23 rfl rfl (by kernel_rfl) ?_ ?_
        ·skip
         refine zA rfl (uCx 0 zji rfl rfl (zaJ uS) ?_)
         rintro _ _ ⟨k22,a22,rfl,hk22,ha22,rfl⟩;refine ⟨uE,?_⟩
         refine zhV 18 23 rfl rfl (by kernel_rfl) ?_ ?_
         ·skip
          refine zA rfl (uCx 0 zib rfl rfl (zat uS) ?_)
          rintro _ _ ⟨t24,a24,rfl,ht24,ha24,rfl⟩;refine ⟨uE,?_⟩
          refine zhV 21 23 rfl rfl (by kernel_rfl) ?_ ?_
          ·skip
           refine zA rfl (uCx 0 zaI rfl rfl (zf (L:=[_,_,_]) uS uS uS) ?_)
           rintro _ _ ⟨y27,rfl,hy27,rfl⟩;refine ⟨uE,?_⟩
           refine uB 22 rfl (zhB z7 ziV) ?_;refine uF 23 ?_;refine zA rfl (zq z7 rfl fun b3=> ?_)
           refine ⟨uE,?_⟩
           refine uF 24 ?_;refine zT (uY 0 ?_)
           refine ⟨uE,?_⟩
           refine uAz ?_;refine ⟨(b3,⟨k7,[],k9,k11,k13,y15,(tm4.take y19.toNat),[],k22,t24,y27⟩,a24+1),?_,⟨rfl,trivial⟩,uK,?_⟩
           ·exact ⟨⟨hk7,hk9,hk11,hk13,⟨by dsimp only;simp [tm4];simp at hy19;omega,by dsimp only;simp [tm4];simp at hy19;omega⟩,hk22,ht24,by simp at hy27;dsimp only;omega,ze1 (by simp at hy19;omega)⟩,uD⟩
           ·exact uP
          ·skip
           refine zA rfl (zq z7 rfl fun b3=> ?_)
           refine ⟨uE,?_⟩
           refine uF 21 ?_;refine zA rfl (uCx 1 zaI rfl rfl (zf (L:=[_,_,_]) uS uS uS) ?_)
           rintro _ _ ⟨y27,rfl,hy27,rfl⟩;refine ⟨uE,?_⟩
           refine uB 22 rfl (zhB z7 ziV) ?_;refine uF 24 ?_;refine zT (uY 1 ?_)
           refine ⟨uE,?_⟩
           refine uAz ?_;refine ⟨(b3,⟨k7,[],k9,k11,k13,y15,(tm4.take y19.toNat),[],k22,t24,y27⟩,a24+1),?_,⟨rfl,trivial⟩,uK,?_⟩
           ·exact ⟨⟨hk7,hk9,hk11,hk13,⟨by dsimp only;simp [tm4];simp at hy19;omega,by dsimp only;simp [tm4];simp at hy19;omega⟩,hk22,ht24,by simp at hy27;dsimp only;omega,ze1 (by simp at hy19;omega)⟩,uD⟩
           ·exact uP
         ·skip
          refine zA rfl (zq z7 rfl fun b3=> ?_)
          refine ⟨uE,?_⟩
          refine uF 18 ?_;refine zA rfl (uCx 1 zib rfl rfl (zat uS) ?_)
          rintro _ _ ⟨t24,a24,rfl,ht24,ha24,rfl⟩;refine ⟨uE,?_⟩
          refine uF 21 ?_;refine zA rfl (uCx 0 zaI rfl rfl (zf (L:=[_,_,_]) uS uS uS) ?_)
          rintro _ _ ⟨y27,rfl,hy27,rfl⟩;refine ⟨uE,?_⟩
          refine uB 22 rfl (zhB z7 ziV) ?_;refine uF 24 ?_;refine zT (uY 1 ?_)
          refine ⟨uE,?_⟩
          refine uAz ?_;refine ⟨(b3,⟨k7,[],k9,k11,k13,y15,(tm4.take y19.toNat),[],k22,t24,y27⟩,a24+1),?_,⟨rfl,trivial⟩,uK,?_⟩
          ·exact ⟨⟨hk7,hk9,hk11,hk13,⟨by dsimp only;simp [tm4];simp at hy19;omega,by dsimp only;simp [tm4];simp at hy19;omega⟩,hk22,ht24,by simp at hy27;dsimp only;omega,ze1 (by simp at hy19;omega)⟩,uD⟩
          ·exact uP
        ·skip
         refine zA rfl (zq z7 rfl fun b3=> ?_)
         refine ⟨uE,?_⟩
         refine uF 16 ?_;refine zA rfl (uCx 1 zji rfl rfl (zaJ uS) ?_)
         rintro _ _ ⟨k22,a22,rfl,hk22,ha22,rfl⟩;refine ⟨uE,?_⟩
         refine uF 18 ?_;refine zA rfl (uCx 0 zib rfl rfl (zat uS) ?_)
         rintro _ _ ⟨t24,a24,rfl,ht24,ha24,rfl⟩;refine ⟨uE,?_⟩
         refine uF 21 ?_;refine zA rfl (uCx 0 zaI rfl rfl (zf (L:=[_,_,_]) uS uS uS) ?_)
         rintro _ _ ⟨y27,rfl,hy27,rfl⟩;refine ⟨uE,?_⟩
         refine uB 22 rfl (zhB z7 ziV) ?_;refine uF 24 ?_;refine zT (uY 1 ?_)
         refine ⟨uE,?_⟩
         refine uAz ?_;refine ⟨(b3,⟨k7,[],k9,k11,k13,y15,(tm4.take y19.toNat),[],k22,t24,y27⟩,a24+1),?_,⟨rfl,trivial⟩,uK,?_⟩
         ·exact ⟨⟨hk7,hk9,hk11,hk13,⟨by dsimp only;simp [tm4];simp at hy19;omega,by dsimp only;simp [tm4];simp at hy19;omega⟩,hk22,ht24,by simp at hy27;dsimp only;omega,ze1 (by simp at hy19;omega)⟩,uD⟩
         ·exact uP
       ·skip
        refine zA rfl (zq z7 rfl fun b3=> ?_)
        refine ⟨uE,?_⟩
        refine uF 13 ?_;refine zA rfl (uCx 1 zaI rfl rfl (zf (L:=[_,_,_]) uS uS uS) ?_)
        rintro _ _ ⟨y19,rfl,hy19,rfl⟩;refine ⟨uE,?_⟩
        refine uB 14 rfl (za9 (es:=tm4) (f:=HVal.str) (h:=y19.toNat) zu ty9 rfl rfl ⟨_,_,rfl,by simp at hy19;omega⟩ uO (by simp [tm4];simp at hy19;omega)) ?_;refine uF 16 ?_;refine zA rfl (uCx 0 zji rfl rfl (zaJ uS) ?_)
        rintro _ _ ⟨k22,a22,rfl,hk22,ha22,rfl⟩;refine ⟨uE,?_⟩
        refine uF 18 ?_;refine zA rfl (uCx 0 zib rfl rfl (zat uS) ?_)
        rintro _ _ ⟨t24,a24,rfl,ht24,ha24,rfl⟩;refine ⟨uE,?_⟩
        refine uF 21 ?_;refine zA rfl (uCx 0 zaI rfl rfl (zf (L:=[_,_,_]) uS uS uS) ?_)
        rintro _ _ ⟨y27,rfl,hy27,rfl⟩;refine ⟨uE,?_⟩
        refine uB 22 rfl (zhB z7 ziV) ?_;refine uF 24 ?_;refine zT (uY 1 ?_)
        refine ⟨uE,?_⟩
        refine uAz ?_;refine ⟨(b3,⟨k7,[],k9,k11,k13,y15,(tm4.take y19.toNat),[],k22,t24,y27⟩,a24+1),?_,⟨rfl,trivial⟩,uK,?_⟩
        ·exact ⟨⟨hk7,hk9,hk11,hk13,⟨by dsimp only;simp [tm4];simp at hy19;omega,by dsimp only;simp [tm4];simp at hy19;omega⟩,hk22,ht24,by simp at hy27;dsimp only;omega,ze1 (by simp at hy19;omega)⟩,uD⟩
        ·exact uP
      ·skip
       refine zA rfl (zq z7 rfl fun b3=> ?_)
       refine ⟨uE,?_⟩
       refine uF 9 ?_;refine zA rfl (uCx 1 zmA rfl rfl (zaN uS) ?_)
       rintro _ _ ⟨y15,rfl,rfl⟩;refine ⟨uE,?_⟩
       refine uF 13 ?_;refine zA rfl (uCx 0 zaI rfl rfl (zf (L:=[_,_,_]) uS uS uS) ?_)
       rintro _ _ ⟨y19,rfl,hy19,rfl⟩;refine ⟨uE,?_⟩
       refine uB 14 rfl (za9 (es:=tm4) (f:=HVal.str) (h:=y19.toNat) zu ty9 rfl rfl ⟨_,_,rfl,by simp at hy19;omega⟩ uO (by simp [tm4];simp at hy19;omega)) ?_;refine uF 16 ?_;refine zA rfl (uCx 0 zji rfl rfl (zaJ uS) ?_)
       rintro _ _ ⟨k22,a22,rfl,hk22,ha22,rfl⟩;refine ⟨uE,?_⟩
       refine uF 18 ?_;refine zA rfl (uCx 0 zib rfl rfl (zat uS) ?_)
       rintro _ _ ⟨t24,a24,rfl,ht24,ha24,rfl⟩;refine ⟨uE,?_⟩
       refine uF 21 ?_;refine zA rfl (uCx 0 zaI rfl rfl (zf (L:=[_,_,_]) uS uS uS) ?_)
       rintro _ _ ⟨y27,rfl,hy27,rfl⟩;refine ⟨uE,?_⟩
       refine uB 22 rfl (zhB z7 ziV) ?_;refine uF 24 ?_;refine zT (uY 1 ?_)
       refine ⟨uE,?_⟩
       refine uAz ?_;refine ⟨(b3,⟨k7,[],k9,k11,k13,y15,(tm4.take y19.toNat),[],k22,t24,y27⟩,a24+1),?_,⟨rfl,trivial⟩,uK,?_⟩
       ·exact ⟨⟨hk7,hk9,hk11,hk13,⟨by dsimp only;simp [tm4];simp at hy19;omega,by dsimp only;simp [tm4];simp at hy19;omega⟩,hk22,ht24,by simp at hy27;dsimp only;omega,ze1 (by simp at hy19;omega)⟩,uD⟩
       ·exact uP
     ·skip
      refine zA rfl (zq z7 rfl fun b3=> ?_)
      refine ⟨uE,?_⟩
      refine uF 7 ?_;refine zA rfl (uCx 1 zmz rfl rfl (zbd uS) ?_)
      rintro _ _ ⟨k13,a13,rfl,hk13,hn13,ha13,rfl⟩;refine ⟨uE,?_⟩
      refine uF 9 ?_;refine zA rfl (uCx 0 zmA rfl rfl (zaN uS) ?_)
      rintro _ _ ⟨y15,rfl,rfl⟩;refine ⟨uE,?_⟩
      refine uF 13 ?_;refine zA rfl (uCx 0 zaI rfl rfl (zf (L:=[_,_,_]) uS uS uS) ?_)
      rintro _ _ ⟨y19,rfl,hy19,rfl⟩;refine ⟨uE,?_⟩
      refine uB 14 rfl (za9 (es:=tm4) (f:=HVal.str) (h:=y19.toNat) zu ty9 rfl rfl ⟨_,_,rfl,by simp at hy19;omega⟩ uO (by simp [tm4];simp at hy19;omega)) ?_;refine uF 16 ?_;refine zA rfl (uCx 0 zji rfl rfl (zaJ uS) ?_)
      rintro _ _ ⟨k22,a22,rfl,hk22,ha22,rfl⟩;refine ⟨uE,?_⟩
      refine uF 18 ?_;refine zA rfl (uCx 0 zib rfl rfl (zat uS) ?_)
      rintro _ _ ⟨t24,a24,rfl,ht24,ha24,rfl⟩;refine ⟨uE,?_⟩
      refine uF 21 ?_;refine zA rfl (uCx 0 zaI rfl rfl (zf (L:=[_,_,_]) uS uS uS) ?_)
      rintro _ _ ⟨y27,rfl,hy27,rfl⟩;refine ⟨uE,?_⟩
      refine uB 22 rfl (zhB z7 ziV) ?_;refine uF 24 ?_;refine zT (uY 1 ?_)
      refine ⟨uE,?_⟩
      refine uAz ?_;refine ⟨(b3,⟨k7,[],k9,k11,k13,y15,(tm4.take y19.toNat),[],k22,t24,y27⟩,a24+1),?_,⟨rfl,trivial⟩,uK,?_⟩
      ·exact ⟨⟨hk7,hk9,hk11,hk13,⟨by dsimp only;simp [tm4];simp at hy19;omega,by dsimp only;simp [tm4];simp at hy19;omega⟩,hk22,ht24,by simp at hy27;dsimp only;omega,ze1 (by simp at hy19;omega)⟩,uD⟩
      ·exact uP
    ·skip
     refine zA rfl (zq z7 rfl fun b3=> ?_)
     refine ⟨uE,?_⟩
     refine uF 5 ?_;refine zA rfl (uCx 1 zqt rfl rfl (zbL uS) ?_)
     rintro _ _ ⟨k11,a11,rfl,hk11,ha11,rfl⟩;refine ⟨uE,?_⟩
     refine uF 7 ?_;refine zA rfl (uCx 0 zmz rfl rfl (zbd uS) ?_)
     rintro _ _ ⟨k13,a13,rfl,hk13,hn13,ha13,rfl⟩;refine ⟨uE,?_⟩
     refine uF 9 ?_;refine zA rfl (uCx 0 zmA rfl rfl (zaN uS) ?_)
     rintro _ _ ⟨y15,rfl,rfl⟩;refine ⟨uE,?_⟩
     refine uF 13 ?_;refine zA rfl (uCx 0 zaI rfl rfl (zf (L:=[_,_,_]) uS uS uS) ?_)
     rintro _ _ ⟨y19,rfl,hy19,rfl⟩;refine ⟨uE,?_⟩
     refine uB 14 rfl (za9 (es:=tm4) (f:=HVal.str) (h:=y19.toNat) zu ty9 rfl rfl ⟨_,_,rfl,by simp at hy19;omega⟩ uO (by simp [tm4];simp at hy19;omega)) ?_;refine uF 16 ?_;refine zA rfl (uCx 0 zji rfl rfl (zaJ uS) ?_)
     rintro _ _ ⟨k22,a22,rfl,hk22,ha22,rfl⟩;refine ⟨uE,?_⟩
     refine uF 18 ?_;refine zA rfl (uCx 0 zib rfl rfl (zat uS) ?_)
     rintro _ _ ⟨t24,a24,rfl,ht24,ha24,rfl⟩;refine ⟨uE,?_⟩
     refine uF 21 ?_;refine zA rfl (uCx 0 zaI rfl rfl (zf (L:=[_,_,_]) uS uS uS) ?_)
     rintro _ _ ⟨y27,rfl,hy27,rfl⟩;refine ⟨uE,?_⟩
     refine uB 22 rfl (zhB z7 ziV) ?_;refine uF 24 ?_;refine zT (uY 1 ?_)
     refine ⟨uE,?_⟩
     refine uAz ?_;refine ⟨(b3,⟨k7,[],k9,k11,k13,y15,(tm4.take y19.toNat),[],k22,t24,y27⟩,a24+1),?_,⟨rfl,trivial⟩,uK,?_⟩
     ·exact ⟨⟨hk7,hk9,hk11,hk13,⟨by dsimp only;simp [tm4];simp at hy19;omega,by dsimp only;simp [tm4];simp at hy19;omega⟩,hk22,ht24,by simp at hy27;dsimp only;omega,ze1 (by simp at hy19;omega)⟩,uD⟩
     ·exact uP
   ·skip
    refine zA rfl (zq z7 rfl fun b3=> ?_)
    refine ⟨uE,?_⟩
    refine uF 3 ?_;refine zA rfl (uCx 1 zs2 rfl rfl (zcR uS) ?_)
    rintro _ _ ⟨k9,a9,rfl,hk9,ha9,rfl⟩;refine ⟨uE,?_⟩
    refine uF 5 ?_;refine zA rfl (uCx 0 zqt rfl rfl (zbL uS) ?_)
    rintro _ _ ⟨k11,a11,rfl,hk11,ha11,rfl⟩;refine ⟨uE,?_⟩
    refine uF 7 ?_;refine zA rfl (uCx 0 zmz rfl rfl (zbd uS) ?_)
    rintro _ _ ⟨k13,a13,rfl,hk13,hn13,ha13,rfl⟩;refine ⟨uE,?_⟩
    refine uF 9 ?_;refine zA rfl (uCx 0 zmA rfl rfl (zaN uS) ?_)
    rintro _ _ ⟨y15,rfl,rfl⟩;refine ⟨uE,?_⟩
    refine uF 13 ?_;refine zA rfl (uCx 0 zaI rfl rfl (zf (L:=[_,_,_]) uS uS uS) ?_)
    rintro _ _ ⟨y19,rfl,hy19,rfl⟩;refine ⟨uE,?_⟩
    refine uB 14 rfl (za9 (es:=tm4) (f:=HVal.str) (h:=y19.toNat) zu ty9 rfl rfl ⟨_,_,rfl,by simp at hy19;omega⟩ uO (by simp [tm4];simp at hy19;omega)) ?_;refine uF 16 ?_;refine zA rfl (uCx 0 zji rfl rfl (zaJ uS) ?_)
    rintro _ _ ⟨k22,a22,rfl,hk22,ha22,rfl⟩;refine ⟨uE,?_⟩
    refine uF 18 ?_;refine zA rfl (uCx 0 zib rfl rfl (zat uS) ?_)
    rintro _ _ ⟨t24,a24,rfl,ht24,ha24,rfl⟩;refine ⟨uE,?_⟩
    refine uF 21 ?_;refine zA rfl (uCx 0 zaI rfl rfl (zf (L:=[_,_,_]) uS uS uS) ?_)
    rintro _ _ ⟨y27,rfl,hy27,rfl⟩;refine ⟨uE,?_⟩
    refine uB 22 rfl (zhB z7 ziV) ?_;refine uF 24 ?_;refine zT (uY 1 ?_)
    refine ⟨uE,?_⟩
    refine uAz ?_;refine ⟨(b3,⟨k7,[],k9,k11,k13,y15,(tm4.take y19.toNat),[],k22,t24,y27⟩,a24+1),?_,⟨rfl,trivial⟩,uK,?_⟩
    ·exact ⟨⟨hk7,hk9,hk11,hk13,⟨by dsimp only;simp [tm4];simp at hy19;omega,by dsimp only;simp [tm4];simp at hy19;omega⟩,hk22,ht24,by simp at hy27;dsimp only;omega,ze1 (by simp at hy19;omega)⟩,uD⟩
    ·exact uP
  ·skip
   refine zA rfl (zq z7 rfl fun b3=> ?_)
   refine ⟨uE,?_⟩
   refine uF 1 ?_;refine zA rfl (uCx 2 zv7 rfl rfl (zdH uS) ?_)
   rintro _ _ ⟨k7,a7,rfl,hk7,ha7,rfl⟩;refine ⟨uE,?_⟩
   refine uF 3 ?_;refine zA rfl (uCx 0 zs2 rfl rfl (zcR uS) ?_)
   rintro _ _ ⟨k9,a9,rfl,hk9,ha9,rfl⟩;refine ⟨uE,?_⟩
   refine uF 5 ?_;refine zA rfl (uCx 0 zqt rfl rfl (zbL uS) ?_)
   rintro _ _ ⟨k11,a11,rfl,hk11,ha11,rfl⟩;refine ⟨uE,?_⟩
   refine uF 7 ?_;refine zA rfl (uCx 0 zmz rfl rfl (zbd uS) ?_)
   rintro _ _ ⟨k13,a13,rfl,hk13,hn13,ha13,rfl⟩;refine ⟨uE,?_⟩
   refine uF 9 ?_;refine zA rfl (uCx 0 zmA rfl rfl (zaN uS) ?_)
   rintro _ _ ⟨y15,rfl,rfl⟩;refine ⟨uE,?_⟩
   refine uF 13 ?_;refine zA rfl (uCx 0 zaI rfl rfl (zf (L:=[_,_,_]) uS uS uS) ?_)
   rintro _ _ ⟨y19,rfl,hy19,rfl⟩;refine ⟨uE,?_⟩
   refine uB 14 rfl (za9 (es:=tm4) (f:=HVal.str) (h:=y19.toNat) zu ty9 rfl rfl ⟨_,_,rfl,by simp at hy19;omega⟩ uO (by simp [tm4];simp at hy19;omega)) ?_;refine uF 16 ?_;refine zA rfl (uCx 0 zji rfl rfl (zaJ uS) ?_)
   rintro _ _ ⟨k22,a22,rfl,hk22,ha22,rfl⟩;refine ⟨uE,?_⟩
   refine uF 18 ?_;refine zA rfl (uCx 0 zib rfl rfl (zat uS) ?_)
   rintro _ _ ⟨t24,a24,rfl,ht24,ha24,rfl⟩;refine ⟨uE,?_⟩
   refine uF 21 ?_;refine zA rfl (uCx 0 zaI rfl rfl (zf (L:=[_,_,_]) uS uS uS) ?_)
   rintro _ _ ⟨y27,rfl,hy27,rfl⟩;refine ⟨uE,?_⟩
   refine uB 22 rfl (zhB z7 ziV) ?_;refine uF 24 ?_;refine zT (uY 1 ?_)
   refine ⟨uE,?_⟩
   refine uAz ?_;refine ⟨(b3,⟨k7,[],k9,k11,k13,y15,(tm4.take y19.toNat),[],k22,t24,y27⟩,a24+1),?_,⟨rfl,trivial⟩,uK,?_⟩
   ·exact ⟨⟨hk7,hk9,hk11,hk13,⟨by dsimp only;simp [tm4];simp at hy19;omega,by dsimp only;simp [tm4];simp at hy19;omega⟩,hk22,ht24,by simp at hy27;dsimp only;omega,ze1 (by simp at hy19;omega)⟩,uD⟩
   ·exact uP
 ·intro q hq0
  obtain ⟨b3,⟨k7,kst,k9,k11,k13,y15,T,kga,k22,t24,y27⟩,a27⟩:=q;obtain ⟨⟨hk7,hk9,hk11,hk13,htl,hk22,ht24,hst,htt⟩,ha27⟩:=hq0;dsimp only at hk7 hk9 hk11 hk13 htl hk22 ht24 hst htt ha27⊢;have hp5:=hk7.len;have htr:t24.length<=100/\∀s∈t24,Sh s:=⟨by have:=ht24.len;omega,ht24.all⟩
  refine gz3 ?_;refine de rfl (uZ 0 ?_)
  refine de rfl (uCx 2 zyB rfl rfl (zhG (a:=a27) (L:=k7) uO uO) ?_)
  rintro _ _ ⟨k32,a32,rfl,hk32,ha32,rfl⟩;refine gz1 ?_;refine de0 (uY 1 ?_)
  refine gz4 ?_;refine de rfl (uZ 1 ?_)
  refine de rfl (zbe (M1:=[]) (R:=[_,_,_]) zyC rfl (WeakL.refl _) (Ab _) (zjH (T:=T) htl) ?_)
  rintro _ _ ⟨k36,rfl,hk36,rfl⟩;refine gz3 ?_;have hl36:=hk36.len;have hg36:=hk36.all;refine zl (zQ 8) ?_;refine gz1 ?_;refine uV2 [5,1,38,14] (fun (k:Nat) (q:GL GameS)=>[(38,.int .i64 k)]) (fun (k:Nat) (q:GL GameS)=>[St b l q.a,.cells b2 zrX,.cells b3 (lgC k7 (zbJ k32) k9 k11 k13 y15 T (.raw q.u) k22 t24 y27),.arr q.u 8 (q.out.map zaS)]) (fun (k:Nat) (q:GL GameS)=>k<=k36.length/\(GLok GamB k (a32+k) q)) (fun (k:Nat) (q:GL GameS)=>k36.length-k) (0) (⟨.slice none 0 0,[],a32⟩) ?_ ?_ ?_ ?_
  ·exact ⟨Ad _,⟨by simp,by simp,uD⟩⟩
  ·exact ⟨rfl,trivial⟩
  ·exact uP
  ·intro k q hinv
   obtain ⟨hk,hq⟩:=hinv;obtain ⟨u,out,a2⟩:=q;obtain ⟨g1,g2,g3⟩:=id hq;dsimp only at g1 g2 g3;refine gz4 ?_;refine uCo (fun h1=> ?_) fun h2=> ?_
   ·obtain ⟨x,hx⟩: ∃x,k36[k]? =some x:=⟨_,Aa h1⟩
    have hdx:=zt hx;refine gz7 ?_;refine de rfl (zq zb6 rfl fun b5=> ?_)
    refine de0 (uY 0 ?_)
    refine gz3 ?_;refine de rfl (uCx 1 zeb rfl rfl (zI uS uS) ?_)
    rintro _ _ ⟨y43,rfl,rfl⟩;refine gz2 ?_;refine uCo (fun h3=> ?_) fun h4=> ?_
    ·refine gz2 ?_;refine de rfl (uZ 3 ?_)
     refine de rfl (zdl (i:=1) (h:=zaS x) zb6 rfl rfl rfl rfl rfl ?_)
     refine dq (za (hs:=[_]) zfy zb6 rfl rfl (by decide) (by decide) rfl) ?_;refine de rfl (zN (i:=4) zfy zb6 rfl rfl rfl rfl rfl (by simp [zal,zd,zaR,za8]) uSo fun v49=> ?_)
     refine gz1 ?_;refine de0 (uY 3 ?_)
     refine gz3 ?_;refine zl (zbi 5 (i:=1) rfl rfl) ?_;refine gz4 ?_;exact ⟨k+1,⟨v49,out++[x],a2+1⟩,⟨by omega,hq.add (x:=x) (hg36 x (Ac hx)) uO⟩,uD,⟨rfl,trivial⟩,uK,zg (by dsimp only;rw [Ay];rfl)⟩
    ·refine gz3 ?_;refine zl (zbi 5 (i:=1) rfl rfl) ?_;refine gz4 ?_;exact ⟨k+1,⟨u,out,a2+1⟩,⟨by omega,hq.same uO⟩,uD,⟨rfl,trivial⟩,uK,zg rfl⟩
   ·have hnk:k36.length<=k:=by omega
    obtain rfl:k=k36.length:=by omega
    refine gz2 ?_;refine zY ?_;refine gz4 ?_;refine de rfl (uZ 2 ?_)
    refine de rfl (uCx 3 zv8 rfl rfl (zlR (l:=out) g2 uO) ?_)
    rintro _ _ ⟨Z,rfl,hz1,hz2,rfl⟩;have hzl:=hz1.length_eq;refine gz1 ?_;have hgz:Z.length<=6/\∀x∈Z,GamB x:=⟨by omega,fun x hx=>g2 x (hz1.mem_iff.1 hx)⟩
    refine uVj [55,44] (fun (q5:LeagueS×Nat)=>[]) (fun (q5:LeagueS×Nat)=>[St b l q5.2,.cells b2 zrX,.cells b3 (lgC q5.1.Players (zbJ q5.1.Stints) q5.1.Fixtures q5.1.Rules q5.1.Slots q5.1.Bounds q5.1.Teams (.raw u) q5.1.Breaks q5.1.Trust q5.1.Start),.arr u 8 (q5.1.Games.map zaS)]) (fun (q5:LeagueS×Nat)=>LeaC q5.1/\q5.2<=a+500) ?_ ?_
    ·skip
     refine gz2 ?_;refine de rfl (uCx 1 zeb rfl rfl (zI uS uS) ?_)
     rintro _ _ ⟨y56,rfl,rfl⟩;refine gz1 ?_;refine uCo (fun h5=> ?_) fun h6=> ?_
     ·refine gz2 ?_;refine de rfl (uCx 0 zhZ rfl rfl (zak uS uS) ?_)
      rintro _ _ ⟨y58,rfl,hy58,rfl⟩;refine gz6 ?_;refine uCo (fun h7=> ?_) fun h8=> ?_
      ·refine gz2 ?_;refine dq (za (hs:=[_,_,_]) zad ty3 rfl rfl (by decide) (by decide) rfl) ?_;refine de rfl (uCx 0 zaI rfl rfl (zf (L:=[_,_,_]) uS uS uS) ?_)
       rintro _ _ ⟨y81,rfl,hy81,rfl⟩;refine gz1 ?_;refine de0 (uY 3 ?_)
       refine gz2 ?_;exact ⟨((⟨k7,k32,k9,k11,k13,y15,T,Z,k22,t24,y81⟩:LeagueS),a2+3),⟨zit (h1:=hk7) (h2:=by dsimp only;omega) (h3:=by dsimp only;omega) (h4:=hk11) (h5:=hk13.up) (h6:=by dsimp only;omega) (h7:=hgz) (h8:=by dsimp only;omega) (h9:=htr) (h10:=by simp at hy81;dsimp only;omega) (h11:=htt),uD⟩,trivial,uK,uP⟩
      ·refine gz4 ?_;refine uCo (fun h9=> ?_) fun h10=> ?_
       ·refine gz2 ?_;refine de rfl (uZ 3 ?_)
        refine de rfl (uCa zlW rfl (zay uO) fun v87=> ?_)
        refine gz1 ?_;refine dq (za (hs:=[_,_]) zu ty9 rfl rfl (by decide) (by decide) rfl) ?_;refine de rfl (uCx 1 ca7 rfl rfl (zp (L:=[_,_]) uS uS uS) ?_)
        rintro _ _ ⟨y90,rfl,hy90,rfl⟩;refine dq (za (hs:=[_]) zu ty9 rfl rfl (by decide) (by decide) rfl) ?_;refine de rfl (zmv (N:=[St b l (a2+3),.arr u 8 (Z.map zaS),.cells b2 zrX,.cells b3 (lgC k7 (zbJ k32) k9 k11 k13 y15 T (.raw u) k22 t24 y27)]) (sz:=1) (es:=(T++[y90]).map .str) 1 (zN (i:=1) zu ty9 rfl rfl rfl rfl rfl (by simp [zal,zd]) uSo fun v=>⟨v,rfl,by simp,rfl⟩) ?_)
        refine gz1 ?_;refine de0 (uY 3 ?_)
        refine gz2 ?_;exact ⟨((⟨k7,k32,k9,k11,k13,y15,T++[y90],Z,k22,t24,y27⟩:LeagueS),a2+3),⟨zit (h1:=hk7) (h2:=by dsimp only;omega) (h3:=by dsimp only;omega) (h4:=hk11) (h5:=hk13.up) (h6:=by dsimp only;rw [AB];simp only [Ah,Al];omega) (h7:=hgz) (h8:=by dsimp only;omega) (h9:=htr) (h10:=hst) (h11:=htt.app _),uD⟩,trivial,uK,uP⟩
       ·refine gz4 ?_;refine uCo (fun h11=> ?_) fun h12=> ?_
        ·refine gz2 ?_;refine de rfl (uCx 0 zyD rfl rfl (ziA uS) ?_)
         rintro _ _ ⟨k97,a97,rfl,hk97,ha97,rfl⟩;refine gz1 ?_;refine de0 (uY 3 ?_)
         refine gz2 ?_;exact ⟨((⟨k7,k32,k9,k11,k97,y15,T,Z,k22,t24,y27⟩:LeagueS),a97),⟨zit (h1:=hk7) (h2:=by dsimp only;omega) (h3:=by dsimp only;omega) (h4:=hk11) (h5:=hk97) (h6:=by dsimp only;omega) (h7:=hgz) (h8:=by dsimp only;omega) (h9:=htr) (h10:=hst) (h11:=htt),by dsimp only at ha97⊢;omega⟩,trivial,uK,uP⟩
        ·refine gz2 ?_;refine de rfl (uZ 3 ?_)
         refine de rfl (za6 (i:=1) zfy rfl rfl ?_)
         refine gz2 ?_;refine uCo (fun h13=> ?_) fun h14=> ?_
         ·have hz0:0<Z.length:=by first|assumption|omega|simp_all
          obtain ⟨x0,hx0⟩: ∃x,Z[0]? =some x:=⟨_,Aa hz0⟩
          refine zc4 (i:=1) rfl (fun h0 he=> ?_) (fun ob off cap hv hcap=> ?_)
          ·exfalso;have:=congrArg List.length he;simp at this;subst this;simp at hz0
          subst hv;refine zba (fun M=> ∃i:Nat,M[i]? =some (.cells b3 (lgC k7 (zbJ k32) k9 k11 k13 y15 T (.raw (.slice (some ⟨ob,off,none⟩) (Z.map zaS).length cap)) k22 t24 y27))) [1,3,5] mixed ?_;refine gz1 ?_;refine uM 1 rfl (⟨3,rfl⟩) (fun M hM=>by obtain ⟨i,hi⟩:=hM;exact zV (i:=i) zfy rfl hi (.inl ⟨rfl,rfl⟩) ⟨rfl,rfl⟩) ?_;refine gz1 ?_;refine uM 3 rfl (⟨3,rfl⟩) (fun M hM=>by obtain ⟨i,hi⟩:=hM;exact zV (i:=i) zfy rfl hi (.inl ⟨rfl,rfl⟩) ⟨rfl,rfl⟩) ?_;refine gz1 ?_;refine uM 5 rfl (⟨3,rfl⟩) (fun M hM=>by obtain ⟨i,hi⟩:=hM;exact zV (i:=i) zfy rfl hi (.inl ⟨rfl,rfl⟩) ⟨rfl,rfl⟩) ?_;refine uB 6 rfl (zO (cs:=[_,_]) zby zkY rfl) ?_;refine uB 7 rfl (zO (cs:=[_,_]) zby zkY rfl) ?_;refine uB 8 rfl (zM (j:=0) zfy zb6 rfl rfl rfl uSo) ?_;refine gz1 ?_;refine uF 10 ?_;refine zT (zac (i:=1) (j:=0) (f:=3) (y:=zaS x0) (y':=zaS (⟨x0.Week,x0.Home,x0.Away,true,x0.FNum,x0.FDen,x0.ONum,x0.ODen⟩:GameS)) ty4 rfl uO rfl rfl (zbl hx0) rfl rfl (by simp [zd]) rfl ?_)
          refine ⟨fun _=> .inl ⟨3,rfl⟩,?_⟩
          refine uB 11 rfl (zM (j:=0) zfy zb6 rfl rfl rfl uSo) ?_;refine gz1 ?_;refine uF 13 ?_;refine zT (zac (i:=1) (j:=0) (f:=4) (y:=zaS (⟨x0.Week,x0.Home,x0.Away,true,x0.FNum,x0.FDen,x0.ONum,x0.ODen⟩:GameS)) (y':=zaS (⟨x0.Week,x0.Home,x0.Away,true,1,1,x0.ONum,x0.ODen⟩:GameS)) zby rfl uO rfl rfl (zaL (zbl hx0)) rfl rfl (by simp [zd]) rfl ?_)
          refine ⟨fun _=> .inl ⟨3,rfl⟩,?_⟩
          refine uB 14 rfl (zM (j:=0) zfy zb6 rfl rfl rfl uSo) ?_;refine gz1 ?_;refine uF 16 ?_;refine zT (zac (i:=1) (j:=0) (f:=6) (y:=zaS (⟨x0.Week,x0.Home,x0.Away,true,1,1,x0.ONum,x0.ODen⟩:GameS)) (y':=zaS (⟨x0.Week,x0.Home,x0.Away,true,1,1,1,1⟩:GameS)) zby rfl uO rfl rfl (zaL (zaL (zbl hx0))) rfl rfl (by simp [zd]) rfl ?_)
          refine ⟨fun _=> .inl ⟨3,rfl⟩,?_⟩
          refine gz2 ?_;exact ⟨((⟨k7,k32,k9,k11,k13,y15,T,Z.set 0 (⟨x0.Week,x0.Home,x0.Away,true,1,1,1,1⟩:GameS),k22,t24,y27⟩:LeagueS),a2+2),⟨zit (h1:=hk7) (h2:=by dsimp only;omega) (h3:=by dsimp only;omega) (h4:=hk11) (h5:=hk13.up) (h6:=by dsimp only;omega) (h7:=⟨by dsimp only;rw [List.length_set];omega,ze2 (P:=GamB) hgz.2 ⟨(hgz.2 x0 (Ac hx0)).week,uD,uD⟩⟩) (h8:=by dsimp only;omega) (h9:=htr) (h10:=hst) (h11:=htt),uD⟩,trivial,uK,uP⟩
         ·refine gz2 ?_;exact ⟨((⟨k7,k32,k9,k11,k13,y15,T,Z,k22,t24,y27⟩:LeagueS),a2+2),⟨zit (h1:=hk7) (h2:=by dsimp only;omega) (h3:=by dsimp only;omega) (h4:=hk11) (h5:=hk13.up) (h6:=by dsimp only;omega) (h7:=hgz) (h8:=by dsimp only;omega) (h9:=htr) (h10:=hst) (h11:=htt),uD⟩,trivial,uK,uP⟩
     ·refine gz1 ?_;exact ⟨((⟨k7,k32,k9,k11,k13,y15,T,Z,k22,t24,y27⟩:LeagueS),a2+1),⟨zit (h1:=hk7) (h2:=by dsimp only;omega) (h3:=by dsimp only;omega) (h4:=hk11) (h5:=hk13.up) (h6:=by dsimp only;omega) (h7:=hgz) (h8:=by dsimp only;omega) (h9:=htr) (h10:=hst) (h11:=htt),uD⟩,trivial,uK,uP⟩
    ·intro q5 hq5
     obtain ⟨g5,a5⟩:=q5;obtain ⟨hg5,ha5⟩:=hq5;dsimp only at hg5 ha5;refine zl (ze0 (i:=3) (k:=2) (j:=10) rfl rfl rfl) ?_;refine zl (Ghost.perm (M':=[.cells b2 zrX,St b l a5,.cells b3 (zd (zca g5))]) uP) ?_;refine gz1 ?_;refine de rfl (zdl (i:=2) (h:=zca g5) z7 rfl rfl rfl rfl rfl ?_)
     refine de0 (zz (h:=zca g5) z7 rfl rfl rfl rfl rfl ?_)
     refine gz2 ?_;exact ⟨_,_,(zD 2 rfl).trans ((Ghost.perm (List.Perm.swap _ _ _)).trans Ghost.drop),[_],_,⟨⟨_,_,_,_,_,rfl,z7,.inr ⟨rfl,rfl,rfl⟩⟩,trivial⟩,Weak.refl _,g5,a5,rfl,hg5,ha5,rfl⟩
end
section
open Go.HL
set_option linter.unusedSimpArgs false
end
section
open Go.Proofs.Tryz
open Go.HL
theorem zbK [Tracks] {b:Nat} {l:List Int} {a:Nat} (ha:a<=800000):Con prog 38 [pAt b] [St b l a] (fun x M'=> ∃y:Int,x= .int .i64 y/\(-1<=y/\y<=1000000000000)/\M'=[St b l (a+1+1)]):=by
 refine uOb func38 ntmps38 ?_;refine gz6 ?_;refine dq (za (hs:=[_,_]) zad ty3 rfl rfl (by decide) (by decide) rfl) ?_;refine de rfl (uCx 0 zaI rfl rfl (zf (L:=[_,_]) uS uS uS) ?_)
 rintro _ _ ⟨y6,rfl,hy6,rfl⟩;refine dq (za (hs:=[_,_,_,_,_,_,_,_]) zad ty3 rfl rfl (by decide) (by decide) rfl) ?_;refine de rfl (uCx 0 zaI rfl rfl (zf (L:=[_,_,_,_,_,_,_,_]) uS uS uS) ?_)
 rintro _ _ ⟨y8,rfl,hy8,rfl⟩;refine gz3 ?_;exact zaf rfl ⟨_,rfl,by simp at hy6 hy8;omega,rfl⟩
theorem zjh [Tracks] {A X C:List MvS} {ia ib:Int} {n b off cap:Nat} {fid:FuncId} {caps:List HVal} {c:MvS->MvS->Int} (hca:Callable prog fid) (hp: ∀x y,ConP prog fid ([zc7 x,zc7 y]++caps) (.int .i64 (c x y))) (hn:A.length+X.length+C.length=n) (hia:ia=(A.length:Int)) (hib:ib=(A.length:Int)+X.length) (hl:n<=1000000):Con prog 199 [.raw (.slice (some ⟨b,off,none⟩) n cap),.int .i64 ia,.int .i64 ib,.fn (.func fid) [] caps] [.arr (.slice (some ⟨b,off,none⟩) n cap) 4 ((A++X++C).map zc7)] (fun x M'=>x= .tup []/\M'=[.arr (.slice (some ⟨b,off,none⟩) n cap) 4 ((A++zaQ c X++C).map zc7)]):=by
 refine uOb func199 ntmps199 ?_;refine gz6 ?_;refine uV1 [8,2,12,41] (fun (k:Nat)=>[(8,.int .i64 ((A.length+k:Nat):Int))]) (fun (k:Nat)=>[.arr (.slice (some ⟨b,off,none⟩) n cap) 4 ((A++(zaQ c (X.take k)++X.drop k)++C).map zc7)]) (fun (k:Nat)=>1<=k) (fun (k:Nat)=>X.length-k) (1) ?_ ?_ ?_ ?_;exact Af _;exact ⟨zW uO,trivial⟩;exact zg (by rw [zm2])
 intro k hk
 refine gz6 ?_;refine uCo (fun h1=> ?_) fun h2=> ?_
 obtain ⟨x,hx⟩: ∃x,X[k]? =some x:=⟨_,Aa uO⟩
 refine gz9 ?_;refine uV2 [9,1,18,35] (fun (D:List MvS) (B:List MvS)=>[(9,.int .i64 ((A.length+D.length:Nat):Int))]) (fun (D:List MvS) (B:List MvS)=>[.arr (.slice (some ⟨b,off,none⟩) n cap) 4 (((A++D)++x::(B++X.drop (k+1)++C)).map zc7)]) (fun (D:List MvS) (B:List MvS)=>D.length+B.length=k/\zdM c x (zaQ c (X.take k))=zdM c x D++B) (fun (D:List MvS) (B:List MvS)=>D.length) (zaQ c (X.take k)) ([]) ?_ ?_ ?_ ?_;exact ⟨by simp [zdm];omega,by simp⟩;exact ⟨zW (by simp [zdm];omega),trivial⟩;exact zg (by rw [zt hx];simp)
 intro D B hinv
 obtain ⟨hA,hB⟩:=hinv;have hlA:D.length<X.length:=by omega
 refine gz1 ?_;refine zbu (fun M=>M=[.arr (.slice (some ⟨b,off,none⟩) n cap) 4 (((A++D)++x::(B++X.drop (k+1)++C)).map zc7)]) [8,13] mixed ?_;refine gz7 ?_;refine ahg 7 rfl rfl (by kernel_rfl) (by kernel_rfl) rfl (fun hc=>by
  have hq:0<D.length:=by simp at hc;omega
  exact ⟨_,OpenTo.upd (t:=24) rfl (hc) (OpenTo.upd (t:=23) rfl (hc) (OpenTo.refl _)),zM (j:=(A++D).length) zbr zv rfl rfl (by simp) uSo⟩) ?_
 refine zsV 8 rfl rfl (by kernel_rfl) (by kernel_rfl) (by simp) rfl rfl (fun hc=>⟨_,OpenTo.upd (t:=25) rfl (hc) (OpenTo.refl _),fun M hM=>by
  subst hM;exact zao (i:=0) (j:=(A++D).length) zv rfl rfl rfl zir rfl rfl rfl ⟨rfl,rfl⟩
  ⟩) ?_
 refine gz2 ?_;refine ahg 11 rfl rfl (by kernel_rfl) (by kernel_rfl) rfl (fun hc=>by
  have hq:0<D.length:=by simp at hc;omega
  exact ⟨_,OpenTo.upd (t:=28) rfl (hc) (OpenTo.refl _),zgC rfl rfl uO uO⟩) ?_
 refine ahg 12 rfl rfl (by kernel_rfl) (by kernel_rfl) rfl (fun hc=>by
  have hq:0<D.length:=by simp at hc;omega
  exact ⟨_,OpenTo.upd (t:=29) rfl (hc) (OpenTo.upd (t:=27) rfl (hc) (OpenTo.refl _)),zM (j:=(A++D).length-1) zbr zv rfl rfl uSo uSo⟩) ?_
 refine zsV 13 rfl rfl (by kernel_rfl) (by kernel_rfl) (by simp) rfl rfl (fun hc=>⟨_,OpenTo.upd (t:=30) rfl (hc) (OpenTo.refl _),fun M hM=>by
  have hq:0<D.length:=by simp at hc;omega
  subst hM;exact zao (i:=0) (j:=(A++D).length-1) zv rfl rfl rfl (zof uSo) rfl rfl rfl ⟨rfl,rfl⟩
  ⟩) ?_
 refine uGy 14 rfl rfl (fun hc=>zaB hca rfl rfl (WeakL.refl _) (hp _ _)) ?_;refine gz3 ?_;refine uCo (fun h3=> ?_) fun h4=> ?_
 obtain ⟨hA0,hcx⟩:=h3;obtain ⟨D1,y,rfl⟩:=zpq (A:=D) uO;rw [zrn] at hcx;have hD1:(D1++[y]).length=D1.length+1:=by simp
 refine gz4 ?_;refine zba (fun M=>M=[.arr (.slice (some ⟨b,off,none⟩) n cap) 4 (((A++(D1++[y]))++x::(B++X.drop (k+1)++C)).map zc7)]) [9,13] mixed ?_;refine gz8 ?_;refine uB 8 rfl (zM (j:=(A++(D1++[y])).length-1) zbr zv rfl rfl uSo uSo) ?_;refine uM 9 rfl rfl (uW (zao (i:=0) (j:=(A++(D1++[y])).length-1) zv rfl rfl rfl (zkU) rfl rfl rfl ⟨rfl,rfl⟩)) ?_;refine gz2 ?_;refine uB 12 rfl (zM (j:=(A++(D1++[y])).length) zbr zv rfl rfl (by simp) uSo) ?_;refine uM 13 rfl rfl (uW (zao (i:=0) (j:=(A++(D1++[y])).length) zv rfl rfl rfl zir rfl rfl rfl ⟨rfl,rfl⟩)) ?_;refine uB 14 rfl (zM (j:=(A++(D1++[y])).length) zbr zv rfl rfl (by simp) uSo) ?_;refine uF 15 ?_;refine zT (zbh (i:=0) (j:=(A++(D1++[y])).length) (y:=x) (y':=y) zv rfl rfl rfl rfl zir rfl rfl rfl ?_)
 refine ⟨uE,?_⟩
 refine uB 16 rfl (zM (j:=(A++(D1++[y])).length-1) zbr zv rfl rfl uSo uSo) ?_;refine uF 17 ?_;refine zT (zbh (i:=0) (j:=(A++(D1++[y])).length-1) (y:=y) (y':=x) zv rfl rfl rfl rfl (by rw [Bx (by simp)];exact zkU) rfl rfl rfl ?_)
 refine ⟨uE,?_⟩
 refine gz8 ?_;exact ⟨D1,y::B,⟨by simp at hA⊢;omega,zrm hB hcx⟩,uD,⟨zW uO,trivial⟩,uK,zg (by rw [<-AS,zrQ];simp)⟩;have hins:=zrl (l:=X) (k:=k) hx hB (by intro h0;have h9:=h4 uO;rw [zma h0] at h9;omega);refine gz2 ?_;refine zY ?_;refine gz8 ?_;exact ⟨k+1,by omega,uD,⟨zW uO,trivial⟩,uK,zg (by rw [zsu hins])⟩;have hend:zaQ c (X.take k)++X.drop k=zaQ c X:=by rw [Bp uO,zP uO];simp
 refine gz2 ?_;refine zG ?_;refine gz1 ?_;exact zaf rfl ⟨rfl,by rw [hend]⟩
theorem zmW [Tracks] {l:List MvS} {n0:Int} {n b off cap:Nat} {fid:FuncId} {caps:List HVal} {c:MvS->MvS->Int} (hca:Callable prog fid) (hp: ∀x y,ConP prog fid ([zc7 x,zc7 y]++caps) (.int .i64 (c x y))) (hc:Cmp c fun _=>True) (hn:l.length=n) (hn0:n0=(n:Int)) (hl:n<=20):Con prog 115 [.raw (.slice (some ⟨b,off,none⟩) n cap),.int .i64 n0,.fn (.func fid) [] caps] [.arr (.slice (some ⟨b,off,none⟩) n cap) 4 ((l).map zc7)] (fun x M'=> ∃Z:List MvS,x= .tup []/\(Z.Perm l/\Srt c Z)/\M'=[.arr (.slice (some ⟨b,off,none⟩) n cap) 4 ((Z).map zc7)]):=by
 refine uOb func115 ntmps115 ?_;refine zaD ?_;refine uV3 [7,2,11,12] (fun (a0:Nat) (k:Nat) (Z:List MvS)=>[(7,.int .i64 (a0:Int)),(8,.int .i64 ((a0+20:Nat):Int))]) (fun (a0:Nat) (k:Nat) (Z:List MvS)=>[.arr (.slice (some ⟨b,off,none⟩) n cap) 4 ((Z++l.drop a0).map zc7)]) (fun (a0:Nat) (k:Nat) (Z:List MvS)=>a0=20*k/\a0<=n/\Blk c 20 Z/\Z.length=a0/\Z.Perm (l.take a0)) (fun (a0:Nat) (k:Nat) (Z:List MvS)=>n-a0) (0) (0) ([]) ?_ ?_ ?_ ?_
 ·exact ⟨rfl,Ad _,Blk.nil,rfl,by simp⟩
 ·exact ⟨rfl,rfl,trivial⟩
 ·exact zg (by simp)
 ·intro a0 k Z hinv
  obtain ⟨ha0,ha1,hZ,hZl,hZp⟩:=hinv;refine gz6 ?_;refine uCo (fun h1=> ?_) fun h2=> ?_
  ·refine gz3 ?_;refine zl (zcI (M':=[.arr (.slice (some ⟨b,off,none⟩) n cap) 4 ((Z++(l.drop a0).take 20++l.drop (a0+20)).map zc7)]) (by rw [AS Z,<-win])) ?_;refine gz5 ?_;refine de rfl (uCx 0 zs8 rfl rfl (zjh (A:=Z) (X:=((l.drop a0).take 20)) (C:=(l.drop (a0+20))) (n:=n) hca hp (by first|omega|(simp;omega)) uO (by first|omega|(simp;omega)) uO) ?_)
   rintro _ _ ⟨rfl,rfl⟩;refine zfq ?_;exact ⟨a0+20,k+1,Z++zaQ c ((l.drop a0).take 20),⟨by omega,by omega,hZ.add (k:=k) uO (zjo hc _) (by rw [zdm,AC];omega),by rw [AB,zdm,AC,Ba];omega,by rw [zqc];exact hZp.append (zb5 c _)⟩,uD,⟨zW uO,zW uO,trivial⟩,uK,Ab _⟩
  ·refine gz2 ?_;refine zdz ?_;refine gz2 ?_;refine zl (zcI (M':=[.arr (.slice (some ⟨b,off,none⟩) n cap) 4 ((Z++l.drop a0++[]).map zc7)]) (by simp)) ?_;refine gz5 ?_;refine de rfl (uCx 0 zs8 rfl rfl (zjh (A:=Z) (X:=(l.drop a0)) (C:=[]) (n:=n) hca hp (by first|omega|(simp;omega)) uO (by first|omega|(simp;omega)) uO) ?_)
   rintro _ _ ⟨rfl,rfl⟩;refine gz2 ?_;refine uV2 [6,4,28,35] (fun (bs:Nat) (D:List MvS)=>[(6,.int .i64 (bs:Int))]) (fun (bs:Nat) (D:List MvS)=>[.arr (.slice (some ⟨b,off,none⟩) n cap) 4 ((D).map zc7)]) (fun (bs:Nat) (D:List MvS)=>20<=bs/\bs<=2*n+20/\Blk c bs D/\D.Perm l) (fun (bs:Nat) (D:List MvS)=>n-bs) (20) (Z++zaQ c (l.drop a0)) ?_ ?_ ?_ ?_
   ·refine ⟨Af _,by omega,hZ.add (k:=k) uO (zjo hc _) (by rw [zdm,Ba];omega),?_⟩
    have:=hZp.append (zb5 c (l.drop a0))
    rwa [Bi] at this
   ·exact ⟨rfl,trivial⟩
   ·exact zg (by simp)
   ·intro bs D hinv
    obtain ⟨hb1,hb2,hD,hDp⟩:=hinv;have hDl:D.length=n:=by rw [hDp.length_eq];exact hn
    refine gz6 ?_;refine za3 rfl (fun h3=> ?_) (fun h3=> ?_)
    ·exfalso
     try simp at h3
     all_goals omega
    ·try simp at h3
     refine gz2 ?_;refine zY ?_;refine gz1 ?_;have hDs:=hD.all uO;exact zaf rfl ⟨D,rfl,⟨hDp,hDs⟩,rfl⟩
theorem znS [Tracks] {v:Value} {fid:FuncId} {caps:List HVal}:Con prog 199 [.raw v,.int .i64 0,.int .i64 0,.fn (.func fid) [] caps] [.arr v 4 []] (fun x M'=>x= .tup []/\M'=[.arr v 4 []]):=by
 refine uOb func199 ntmps199 ?_;refine gz6 ?_;refine uU1 [8,2,12,41] (fun (u:Unit)=>[(8,.int .i64 1)]) (fun (u:Unit)=>[.arr v 4 []]) (fun (u:Unit)=>True) (fun (u:Unit)=>0) (()) ?_ ?_
 ·trivial
 ·intro u hu
  refine gz6 ?_;refine za3 rfl (fun h1=> ?_) (fun h1=> ?_)
  ·exfalso
   try simp at h1
   all_goals omega
  ·try simp at h1
   refine gz2 ?_;refine zG ?_;refine gz1 ?_;exact zaf rfl ⟨rfl,rfl⟩
theorem zlT [Tracks] {v:Value} {fid:FuncId} {caps:List HVal}:Con prog 115 [.raw v,.int .i64 0,.fn (.func fid) [] caps] [.arr v 4 []] (fun x M'=>x= .tup []/\M'=[.arr v 4 []]):=by
 refine uOb func115 ntmps115 ?_;refine zaD ?_;refine uU1 [7,2,11,12] (fun (u:Unit)=>[(7,.int .i64 0),(8,.int .i64 20)]) (fun (u:Unit)=>[.arr v 4 []]) (fun (u:Unit)=>True) (fun (u:Unit)=>0) (()) ?_ ?_
 ·trivial
 ·intro u hu
  refine gz6 ?_;refine za3 rfl (fun h1=> ?_) (fun h1=> ?_)
  ·exfalso
   try simp at h1
   all_goals omega
  ·try simp at h1
   refine gz2 ?_;refine zG ?_;refine gz7 ?_;refine de rfl (uCx 0 zs8 rfl rfl znS ?_)
   rintro _ _ ⟨rfl,rfl⟩;refine gz2 ?_;refine uU1 [6,4,28,35] (fun (u:Unit)=>[(6,.int .i64 20)]) (fun (u:Unit)=>[.arr v 4 []]) (fun (u:Unit)=>True) (fun (u:Unit)=>0) (()) ?_ ?_
   ·trivial
   ·intro u hu
    refine gz6 ?_;refine za3 rfl (fun h2=> ?_) (fun h2=> ?_)
    ·exfalso
     try simp at h2
     all_goals omega
    ·try simp at h2
     refine gz2 ?_;refine zG ?_;refine gz1 ?_;exact zaf rfl ⟨rfl,rfl⟩
theorem zlq [Tracks] {fid:FuncId} {caps:List HVal}:Con prog 53 [.raw (.slice none 0 0),.fn (.func fid) [] caps] [.arr (.slice none 0 0) 4 []] (fun x M'=>x= .tup []/\M'=[.arr (.slice none 0 0) 4 []]):=by
 refine uOb func53 ntmps53 ?_;refine gz3 ?_;refine dq (ze6 zbr rfl) ?_;refine gz1 ?_;refine de rfl (uCx 0 zwa rfl rfl zlT ?_)
 rintro _ _ ⟨rfl,rfl⟩;refine gz1 ?_;exact zaf rfl ⟨rfl,rfl⟩
theorem zlr [Tracks] {l:List MvS} {n b off cap:Nat} {fid:FuncId} {caps:List HVal} {c:MvS->MvS->Int} (hca:Callable prog fid) (hp: ∀x y,ConP prog fid ([zc7 x,zc7 y]++caps) (.int .i64 (c x y))) (hc:Cmp c fun _=>True) (hn:l.length=n) (hl:n<=20):Con prog 53 [.raw (.slice (some ⟨b,off,none⟩) n cap),.fn (.func fid) [] caps] [.arr (.slice (some ⟨b,off,none⟩) n cap) 4 ((l).map zc7)] (fun x M'=> ∃Z:List MvS,x= .tup []/\(Z.Perm l/\Srt c Z)/\M'=[.arr (.slice (some ⟨b,off,none⟩) n cap) 4 ((Z).map zc7)]):=by
 refine uOb func53 ntmps53 ?_;refine gz3 ?_;refine dq (ze6 zbr rfl) ?_;refine gz1 ?_;refine de rfl (uCx 0 zwa rfl rfl (zmW hca hp hc hn rfl hl) ?_)
 rintro _ _ ⟨Z,rfl,hz,rfl⟩;refine gz1 ?_;exact zaf rfl ⟨Z,rfl,hz,rfl⟩
theorem zlS [Tracks] {l:List MvS} {v:Value} {fid:FuncId} {caps:List HVal} {c:MvS->MvS->Int} (hca:Callable prog fid) (hp: ∀x y,ConP prog fid ([zc7 x,zc7 y]++caps) (.int .i64 (c x y))) (hc:Cmp c fun _=>True) (hl:l.length<=20):Con prog 53 [.raw v,.fn (.func fid) [] caps] [.arr v 4 (l.map zc7)] fun x M'=> ∃Z:List MvS,x= .tup []/\(Z.Perm l/\Srt c Z)/\M'=[.arr v 4 (Z.map zc7)]:=
 zq9 (fun h1 h2=>by
  have h3:l=[]:=by first|exact List.map_eq_nil_iff.1 h2|simpa using h2
  subst h1 h3;exact zlq.mono fun x M' ⟨e1,e2⟩=>⟨[],e1,⟨Ab _,Srt.nil⟩,e2⟩)
  fun b off cap h1=>by
   rw [Ag] at h1;subst h1;exact zlr hca hp hc rfl hl
theorem zn1 [Tracks] {l:List MoveS} (hb: ∀x∈l,MovB x) (hl:l.length<=20) {v:Value}:
 Con prog 53 [.raw v,.fn (.func 54) [] []] [.arr v 4 (l.map zcK)] fun x M'=> ∃l':List MoveS,x= .tup []/\l'.Perm l/\M'=[.arr v 4 (l'.map zcK)]:=by
 have h:=zlS (l:=l.attachWith _ hb) (v:=v) (c:=zv4) (caps:=[]) ca54 (fun x y=>zgu (a:=x.1) (b:=y.1) x.2 y.2) zt3 (by simpa using hl);rw [show ((l.attachWith _ hb).map zc7)=l.map zcK from znQ hb zcK] at h;refine h.mono fun x M' ⟨l',e1,⟨hp,hw⟩,e2⟩=>⟨l'.map Subtype.val,e1,?_,?_⟩
 have h9:=hp.map Subtype.val;rw [zkt hb] at h9;exact h9;rw [e2,Bb];rfl
end
section
open Go.Proofs.Tryz
open Go.HL
theorem ziz [Tracks] {b:Nat} {l:List Int} {a:Nat} (ha:a<=700000):Con prog 52 [pAt b] [St b l a] (fun x M'=> ∃k a',x=zcU k/\GoodMds k/\a'<=a+100/\M'=[St b l a']):=by
 refine uOb func52 ntmps52 ?_;refine gz6 ?_;refine zl (zQ 7) ?_;refine gz2 ?_;refine dq (za (hs:=[_,_,_]) zu ty9 rfl rfl (by decide) (by decide) rfl) ?_;refine dq (zaw (f:=HVal.str) (l:=mp3) zu rfl) ?_;refine gz3 ?_;refine uV2 [3,1,5,2,8,2,13,36] (fun (k:Nat) (q:GL MendS)=>[(13,.int .i64 k),(3,.raw q.u)]) (fun (k:Nat) (q:GL MendS)=>[St b l q.a,.arr q.u 7 (q.out.map zco)]) (fun (k:Nat) (q:GL MendS)=>k<=mp3.length/\(GLok zgE (8*k) (a+24*k) q)) (fun (k:Nat) (q:GL MendS)=>mp3.length-k) (0) (⟨.slice none 0 0,[],a⟩) ?_ ?_ ?_ ?_;exact ⟨by decide,⟨by simp,by simp,uD⟩⟩;exact ⟨rfl,rfl,trivial⟩;exact uP
 intro k q hinv
 obtain ⟨hk,hq⟩:=hinv;have hk3:mp3.length=3:=rfl;obtain ⟨u,out,a2⟩:=q;obtain ⟨g1,g2,g3⟩:=id hq;dsimp only at g1 g2 g3;refine gz4 ?_;refine uCo (fun h1=> ?_) fun h2=> ?_
 obtain ⟨x,hx⟩: ∃x,mp3[k]? =some x:=⟨_,Aa h1⟩
 have hdx:=zt hx;refine gz5 ?_;refine dq (zK (f:=HVal.str) (l:=mp3) (j:=k) (a:=x) zu ty9 rfl rfl rfl hx) ?_;refine gz7 ?_;refine uV2 [3,1,6,1,8,2,17,31] (fun (w:Nat) (q2:GL MendS)=>[(6,.int .i64 ((w:Int)+1)),(3,.raw q2.u)]) (fun (w:Nat) (q2:GL MendS)=>[St b l q2.a,.arr q2.u 7 (q2.out.map zco)]) (fun (w:Nat) (q2:GL MendS)=>w<=2/\GLok zgE (8*k+4*w) (a+24*k+12*w) q2) (fun (w:Nat) (q2:GL MendS)=>2-w) (0) (⟨u,out,a2⟩) ?_ ?_ ?_ ?_;exact ⟨by omega,hq.mono uO uO⟩;exact ⟨zW uO,rfl,trivial⟩;exact uP
 intro w q2 hinv
 obtain ⟨hw,hq2⟩:=hinv;obtain ⟨u,out,a2⟩:=q2;obtain ⟨g1,g2,g3⟩:=id hq2;dsimp only at g1 g2 g3;refine gz5 ?_;refine uCo (fun h3=> ?_) fun h4=> ?_
 refine gz5 ?_;refine dq (za (hs:=[_,_]) zu ty9 rfl rfl (by decide) (by decide) rfl) ?_;refine dq (zaw (f:=HVal.str) (l:=ms2) zu rfl) ?_;refine gz3 ?_;refine uV2 [3,1,8,2,23,25] (fun (j:Nat) (q3:GL MendS)=>[(23,.int .i64 j),(3,.raw q3.u)]) (fun (j:Nat) (q3:GL MendS)=>[St b l q3.a,.arr q3.u 7 (q3.out.map zco)]) (fun (j:Nat) (q3:GL MendS)=>j<=ms2.length/\(GLok zgE (8*k+4*w+2*j) (a+24*k+12*w+6*j) q3)) (fun (j:Nat) (q3:GL MendS)=>ms2.length-j) (0) (⟨u,out,a2⟩) ?_ ?_ ?_ ?_;exact ⟨by decide,hq2.mono uO uO⟩;exact ⟨rfl,rfl,trivial⟩;exact uP
 intro j q3 hinv
 obtain ⟨hj,hq3⟩:=hinv;have hj2:ms2.length=2:=rfl;obtain ⟨u,out,a2⟩:=q3;obtain ⟨g1,g2,g3⟩:=id hq3;dsimp only at g1 g2 g3;refine gz4 ?_;refine uCo (fun h5=> ?_) fun h6=> ?_
 obtain ⟨z,hz⟩: ∃z,ms2[j]? =some z:=⟨_,Aa h5⟩
 have hdz:=zt hz;refine gz5 ?_;refine dq (zK (f:=HVal.str) (l:=ms2) (j:=j) (a:=z) zu ty9 rfl rfl rfl hz) ?_;refine gz7 ?_;refine uV2 [3,1,9,1,27,20] (fun (v:Nat) (q4:GL MendS)=>[(9,.int .i64 ((v:Int)+1)),(3,.raw q4.u)]) (fun (v:Nat) (q4:GL MendS)=>[St b l q4.a,.arr q4.u 7 (q4.out.map zco)]) (fun (v:Nat) (q4:GL MendS)=>v<=2/\GLok zgE (8*k+4*w+2*j+v) (a+24*k+12*w+6*j+3*v) q4) (fun (v:Nat) (q4:GL MendS)=>2-v) (0) (⟨u,out,a2⟩) ?_ ?_ ?_ ?_;exact ⟨by omega,hq3.mono uO uO⟩;exact ⟨zW uO,rfl,trivial⟩;exact uP
 intro v q4 hinv
 obtain ⟨hv,hq4⟩:=hinv;obtain ⟨u,out,a2⟩:=q4;obtain ⟨g1,g2,g3⟩:=id hq4;dsimp only at g1 g2 g3;refine gz5 ?_;refine uCo (fun h7=> ?_) fun h8=> ?_
 refine gz6 ?_;refine de rfl (uCx 0 zeb rfl rfl (zI uS uS) ?_)
 rintro _ _ ⟨y32,rfl,rfl⟩;refine gz1 ?_;refine uCo (fun h9=> ?_) fun h10=> ?_
 refine gz6 ?_;refine dq (za (hs:=[_,_,_]) zad ty3 rfl rfl (by decide) (by decide) rfl) ?_;refine de rfl (uCx 0 zaI rfl rfl (zf (L:=[_,_,_]) uS uS uS) ?_)
 rintro _ _ ⟨y39,rfl,hy39,rfl⟩;refine gz1 ?_;refine dq (za (hs:=[_,_,_]) zad ty3 rfl rfl (by decide) (by decide) rfl) ?_;refine de rfl (uCx 0 zaI rfl rfl (zf (L:=[_,_,_]) uS uS uS) ?_)
 rintro _ _ ⟨y42,rfl,hy42,rfl⟩;refine gz1 ?_;refine dq (zO (cs:=[_,_,_,_,_,_,_]) zg6 zAk rfl) ?_;refine dq (za (hs:=[_]) zlb zg6 rfl rfl (by decide) (by decide) rfl) ?_;refine de rfl (zN (i:=1) zlb zg6 rfl rfl rfl rfl rfl (by simp [zal,zd,zaR,za8]) uSo fun v46=> ?_)
 refine gz9 ?_;exact ⟨v+1,⟨v46,out++[(⟨x,(w:Int)+1,z,y39,y42,(v:Int)+1,[98,111,115,115]⟩:MendS)],a2+1+1+1⟩,⟨by omega,hq4.add (x:=(⟨x,(w:Int)+1,z,y39,y42,(v:Int)+1,[98,111,115,115]⟩:MendS)) ⟨zyd x (Ac hx),zye z (Ac hz),by unfold Sh;simp⟩ uO⟩,uD,⟨zW uO,rfl,trivial⟩,uK,zg (by dsimp only;rw [Ay];rfl)⟩;refine gz8 ?_;exact ⟨v+1,⟨u,out,a2+1⟩,⟨by omega,hq4.same uO⟩,uD,⟨zW uO,rfl,trivial⟩,uK,uP⟩;refine gz2 ?_;refine zY ?_;refine gz7 ?_;exact ⟨j+1,⟨u,out,a2⟩,⟨by omega,hq4.mono uO uO⟩,uD,⟨rfl,rfl,trivial⟩,uK,uP⟩;have hnj:ms2.length<=j:=by omega
 obtain rfl:j=ms2.length:=by omega
 refine gz2 ?_;refine zY ?_;refine gz8 ?_;exact ⟨w+1,⟨u,out,a2⟩,⟨by omega,hq3.mono uO uO⟩,uD,⟨zW uO,rfl,trivial⟩,uK,uP⟩;refine gz2 ?_;refine zY ?_;refine gz7 ?_;exact ⟨k+1,⟨u,out,a2⟩,⟨by omega,hq2.mono uO uO⟩,uD,⟨rfl,rfl,trivial⟩,uK,uP⟩;have hnk:mp3.length<=k:=by omega
 obtain rfl:k=mp3.length:=by omega
 refine gz2 ?_;refine zY ?_;refine gz2 ?_;refine uVj [10,1,49,59] (fun (q5:List MendS×Nat)=>[]) (fun (q5:List MendS×Nat)=>[St b l q5.2,.arr u 7 (q5.1.map zco)]) (fun (q5:List MendS×Nat)=>q5.1.length<=24/\(∀x∈q5.1,zgE x)/\q5.2<=a+100) ?_ ?_
 skip
 refine gz2 ?_;refine de rfl (za6 (i:=1) zlb rfl rfl ?_)
 refine gz3 ?_;refine dgx (fun x M'=> ∃(y:Bool) (a3:Nat),x= .bool y/\a3<=a2+1/\M'=[St b l a3,.arr u 7 (out.map zco)]) rfl rfl (fun hc=>⟨_,false,a2,rfl,by omega,rfl⟩) (fun hc=>⟨_,OpenTo.upd (t:=53) rfl (hc) (OpenTo.refl _),uCx 0 zeb rfl rfl (zI (a:=a2) uO uO) (fun h M' hh=>by
  obtain ⟨y,h1,h2⟩:=hh;exact ⟨y,a2+1,h1,by omega,by rw [h2];rfl⟩)⟩) ?_
 rintro _ _ ⟨y,a3,rfl,ha3,rfl⟩;refine gz2 ?_;refine uCo (fun h11=> ?_) fun h12=> ?_
 have ho0:0<out.length:=by simp_all
 refine zc4 (i:=1) rfl (fun h0 he=> ?_) (fun ob off cap hv hcap=> ?_)
 exfalso;have:=congrArg List.length he;simp at this;subst this;simp at ho0
 subst hv;refine gz4 ?_;refine de rfl (za6 (i:=1) zlb rfl rfl ?_)
 refine de rfl (uCx 0 zhZ rfl rfl (zak uS uS) ?_)
 rintro _ _ ⟨y60,rfl,hy60,rfl⟩;refine dq (zM (j:=y60) zlb zg6 rfl rfl rfl uSo) ?_;refine gz2 ?_;obtain ⟨x,hx⟩: ∃x,out[y60]? =some x:=⟨_,Aa uO⟩
 refine zba (fun M=> ∃i:Nat,M[i]? =some (.arr (.slice (some ⟨ob,off,none⟩) (out.map zco).length cap) 7 (out.map zco))) [9,16,23,30] mixed ?_;refine gz9 ?_;refine uM 9 rfl ⟨1,rfl⟩ (fun M hM=>by obtain ⟨i,hi⟩:=hM;exact zax (i:=i) (j:=y60) 0 ty9 rfl uO hi hx rfl rfl ⟨rfl,rfl⟩) ?_;refine uB 10 rfl (za (hs:=[_,_,_]) zu ty9 rfl rfl (by decide) (by decide) rfl) ?_;refine uA 12 ?_;refine gz3 ?_;refine uM 16 rfl ⟨1,rfl⟩ (fun M hM=>by obtain ⟨i,hi⟩:=hM;exact zax (i:=i) (j:=y60) 1 ty3 rfl uO hi hx rfl rfl ⟨rfl,rfl⟩) ?_;refine uB 17 rfl (za (hs:=[_,_]) zad ty3 rfl rfl (by decide) (by decide) rfl) ?_;refine uA 19 ?_;refine gz3 ?_;refine uM 23 rfl ⟨1,rfl⟩ (fun M hM=>by obtain ⟨i,hi⟩:=hM;exact zax (i:=i) (j:=y60) 3 ty3 rfl uO hi hx rfl rfl ⟨rfl,rfl⟩) ?_;refine uB 24 rfl (za (hs:=[_,_]) zad ty3 rfl rfl (by decide) (by decide) rfl) ?_;refine uA 26 ?_;refine gz3 ?_;refine uM 30 rfl ⟨1,rfl⟩ (fun M hM=>by obtain ⟨i,hi⟩:=hM;exact zax (i:=i) (j:=y60) 5 ty3 rfl uO hi hx rfl rfl ⟨rfl,rfl⟩) ?_;refine uB 31 rfl (za (hs:=[_,_,_]) zad ty3 rfl rfl (by decide) (by decide) rfl) ?_;refine uA 33 ?_;refine uB 34 rfl (za (hs:=[_,_]) zu ty9 rfl rfl (by decide) (by decide) rfl) ?_;refine uF 11 ?_;refine zA rfl (uCx 0 ca7 rfl rfl (zp (L:=[_,_,_]) uS uS uS) ?_)
 rintro _ _ ⟨y73,rfl,hy73,rfl⟩;refine ⟨uE,?_⟩
 refine uF 18 ?_;refine zA rfl (uCx 0 zaI rfl rfl (zf (L:=[_,_]) uS uS uS) ?_)
 rintro _ _ ⟨y80,rfl,hy80,rfl⟩;refine ⟨uE,?_⟩
 refine uF 25 ?_;refine zA rfl (uCx 0 zaI rfl rfl (zf (L:=[_,_]) uS uS uS) ?_)
 rintro _ _ ⟨y87,rfl,hy87,rfl⟩;refine ⟨uE,?_⟩
 refine uF 32 ?_;refine zA rfl (uCx 0 zaI rfl rfl (zf (L:=[_,_,_]) uS uS uS) ?_)
 rintro _ _ ⟨y94,rfl,hy94,rfl⟩;refine ⟨uE,?_⟩
 refine uF 35 ?_;refine zA rfl (uCx 0 ca7 rfl rfl (zp (L:=[_,_]) uS uS uS) ?_)
 rintro _ _ ⟨y97,rfl,hy97,rfl⟩;refine ⟨uE,?_⟩
 refine gz2 ?_;refine uF 38 ?_;refine zT (zac (i:=1) (j:=y60) (f:=0) (y:=zco x) (y':=zco ⟨y73,x.Week,x.Stat,x.Count,x.At,x.Version,x.By⟩) ty9 rfl uO rfl rfl (zbl hx) rfl rfl (by simp [zd]) rfl ?_)
 refine ⟨uE,?_⟩
 refine gz2 ?_;refine uF 41 ?_;refine zT (zac (i:=1) (j:=y60) (f:=1) (y:=zco ⟨y73,x.Week,x.Stat,x.Count,x.At,x.Version,x.By⟩) (y':=zco ⟨y73,y80,x.Stat,x.Count,x.At,x.Version,x.By⟩) ty3 rfl uO rfl rfl (zaL (zbl hx)) rfl rfl (by simp [zd]) rfl ?_)
 refine ⟨uE,?_⟩
 refine gz2 ?_;refine uF 44 ?_;refine zT (zac (i:=1) (j:=y60) (f:=3) (y:=zco ⟨y73,y80,x.Stat,x.Count,x.At,x.Version,x.By⟩) (y':=zco ⟨y73,y80,x.Stat,y87,x.At,x.Version,x.By⟩) ty3 rfl uO rfl rfl (zaL (zaL (zbl hx))) rfl rfl (by simp [zd]) rfl ?_)
 refine ⟨uE,?_⟩
 refine gz2 ?_;refine uF 47 ?_;refine zT (zac (i:=1) (j:=y60) (f:=5) (y:=zco ⟨y73,y80,x.Stat,y87,x.At,x.Version,x.By⟩) (y':=zco ⟨y73,y80,x.Stat,y87,x.At,y94,x.By⟩) ty3 rfl uO rfl rfl (zaL (zaL (zaL (zbl hx)))) rfl rfl (by simp [zd]) rfl ?_)
 refine ⟨uE,?_⟩
 refine gz2 ?_;refine uF 50 ?_;refine zT (zac (i:=1) (j:=y60) (f:=6) (y:=zco ⟨y73,y80,x.Stat,y87,x.At,y94,x.By⟩) (y':=zco ⟨y73,y80,x.Stat,y87,x.At,y94,y97⟩) ty9 rfl uO rfl rfl (zaL (zaL (zaL (zaL (zbl hx))))) rfl rfl (by simp [zd]) rfl ?_)
 refine ⟨uE,?_⟩
 refine gz1 ?_;exact ⟨(out.set y60 ⟨y73,y80,x.Stat,y87,x.At,y94,y97⟩,a3+1+1+1+1+1+1),⟨by simp;omega,ze2 (P:=zgE) g2 (by
  have hgx:=g2 x (Ac hx);exact ⟨by simp at hy73;rcases hy73 with rfl|rfl|rfl;exact hgx.1;exact zos;(unfold Sh;simp),hgx.2.1,by simp at hy97;rcases hy97 with rfl|rfl<;>(unfold Sh;simp)⟩),uD⟩,trivial,uK,uP⟩
 refine gz1 ?_;exact ⟨(out,a3),⟨uD,g2,uD⟩,trivial,uK,uP⟩
 intro q5 hq5
 obtain ⟨k1,a4⟩:=q5;dsimp only at hq5;obtain ⟨q1,q2,q3⟩:=hq5;refine gz5 ?_;exact zB (zap 2 (i:=1) rfl rfl) rfl ⟨k1,a4,rfl,⟨by omega,q2⟩,by omega,rfl⟩
end
section
open Go.Proofs.Tryz
open Go.HL
theorem zg9 [Tracks] {b:Nat} {l:List Int} {a:Nat} (ha:a<=500000):Con prog 23 [pAt b] [St b l a] (fun x M'=> ∃k a',x=zbg k/\BookG k/\a'<=a+2000/\M'=[St b l a']):=by
 refine zbz func23 rfl ntmps23 rfl rfl ?_;refine gz1 ?_;refine de rfl (zq za0 rfl fun b2=> ?_)
 refine gz3 ?_;refine de rfl (uCx 1 ca50 rfl rfl (zhF uS) ?_)
 rintro _ _ ⟨g13,a13,rfl,hg13,ha13,rfl⟩;refine gz1 ?_;refine de rfl (uCx 0 ca51 rfl rfl (zi2 uS) ?_)
 rintro _ _ ⟨p15,a15,rfl,hp15,ha15,rfl⟩;refine gz1 ?_;refine de rfl (uCx 0 ca52 rfl rfl (ziz uS) ?_)
 rintro _ _ ⟨m17,a17,rfl,hm17,ha17,rfl⟩;refine dq (zAw za0 pl43) ?_;refine de rfl (zq za0 rfl fun b3=> ?_)
 refine de0 (uY 0 ?_)
 refine zaD ?_;refine de rfl (uCx 1 ca6 rfl rfl (zS uS uS uS uS) ?_)
 rintro _ _ ⟨y20,rfl,hy20,rfl⟩;refine gz2 ?_;refine zl (zQ 4) ?_;refine gz1 ?_;refine uV3 [5,1,21,24] (fun (n:Nat) (at1:Int) (q:GL MoveS)=>[(21,.int .i64 (n:Int)),(5,.int .i64 at1)]) (fun (n:Nat) (at1:Int) (q:GL MoveS)=>[St b l q.a,.cells b2 zh4,.cells b3 (bkC g13 (.raw q.u) (zcV p15) (zcU m17) (.raw (.slice none 0 0)) (.raw (.slice none 0 0))),.arr q.u 4 (q.out.map zcK)]) (fun (n:Nat) (at1:Int) (q:GL MoveS)=>(n:Int)<=y20/\(0<=at1/\at1<=20*n)/\GLok MovB n (a17+1+4*n) q) (fun (n:Nat) (at1:Int) (q:GL MoveS)=>y20.toNat-n) (0) (0) (⟨.slice none 0 0,[],a17+1⟩) ?_ ?_ ?_ ?_
 ·exact ⟨by omega,by omega,⟨by simp,by simp,uD⟩⟩
 ·exact ⟨rfl,rfl,trivial⟩
 ·exact by repeat (first|exact List.Perm.nil|refine zaA 0 rfl ?_|refine zaA 1 rfl ?_|refine zaA 2 rfl ?_|refine zaA 3 rfl ?_|refine zaA 4 rfl ?_|refine zaA 5 rfl ?_|(refine zan 0 rfl ?hq ?_;(case hq=>simp [zaE,zd];done))|(refine zan 1 rfl ?hq ?_;(case hq=>simp [zaE,zd];done))|(refine zan 2 rfl ?hq ?_;(case hq=>simp [zaE,zd];done))|(refine zan 3 rfl ?hq ?_;(case hq=>simp [zaE,zd];done))|(refine zan 4 rfl ?hq ?_;(case hq=>simp [zaE,zd];done))|(refine zan 5 rfl ?hq ?_;(case hq=>simp [zaE,zd];done))|fail)
 ·intro n at1 q hinv
  obtain ⟨hn,hat,hq⟩:=hinv;obtain ⟨u,out,a1⟩:=q;obtain ⟨g1,g2,g3⟩:=id hq;dsimp only at g1 g2 g3;refine gz4 ?_;refine uCo (fun h1=> ?_) fun h2=> ?_
  ·refine gz7 ?_;refine dq (za (hs:=[_,_,_,_]) zad ty3 rfl rfl (by decide) (by decide) rfl) ?_;refine de rfl (uCx 0 zaI rfl rfl (zf (L:=[_,_,_,_]) uS uS uS) ?_)
   rintro _ _ ⟨y26,rfl,hy26,rfl⟩;refine dq (zbf rfl rfl (by simp at hy26;omega) (by simp at hy26;omega)) ?_;refine gz2 ?_;refine zba (fun M=> ∃i:Nat,M[i]? =some (.cells b3 (bkC g13 (.raw u) (zcV p15) (zcU m17) (.raw (.slice none 0 0)) (.raw (.slice none 0 0))))) [1] mixed ?_;refine gz1 ?_;refine uM 1 rfl ⟨2,rfl⟩ (fun M hM=>by obtain ⟨i,hi⟩:=hM;exact zV (i:=i) (h:= .raw u) zbr rfl hi (.inl ⟨rfl,rfl⟩) ⟨rfl,rfl⟩) ?_;refine gz2 ?_;refine uB 4 rfl (za (hs:=[_,_,_,_,_,_]) zad ty3 rfl rfl (by decide) (by decide) rfl) ?_;refine uA 6 ?_;refine uB 7 rfl (za (hs:=[_,_]) zu ty9 rfl rfl (by decide) (by decide) rfl) ?_;refine uA 9 ?_;refine uB 10 rfl (za (hs:=[_,_,_,_,_]) zu ty9 rfl rfl (by decide) (by decide) rfl) ?_;refine uF 5 ?_;refine zA rfl (uCx 0 zaI rfl rfl (zf (L:=[_,_,_,_,_,_]) uS uS uS) ?_)
   rintro _ _ ⟨y33,rfl,hy33,rfl⟩;refine ⟨uE,?_⟩
   refine uF 8 ?_;refine zA rfl (uCx 0 ca7 rfl rfl (zp (L:=[_,_]) uS uS uS) ?_)
   rintro _ _ ⟨y36,rfl,hy36,rfl⟩;refine ⟨uE,?_⟩
   refine uF 11 ?_;refine zA rfl (uCx 0 ca7 rfl rfl (zp (L:=[_,_,_,_,_]) uS uS uS) ?_)
   rintro _ _ ⟨y39,rfl,hy39,rfl⟩;refine ⟨uE,?_⟩
   refine uB 12 rfl (zO (cs:=[_,_,_,_]) zv zAf rfl) ?_;refine uB 13 rfl (za (hs:=[_]) zbr zv rfl rfl (by decide) (by decide) rfl) ?_;refine uF 14 ?_;refine zA rfl (zN (i:=3) zbr zv rfl rfl rfl rfl rfl (by simp [zal,zd]) (by first|omega|(simp;omega)) fun v42=> ?_)
   refine ⟨uE,?_⟩
   refine gz1 ?_;refine uF 16 ?_;refine zT (uY 2 ?_)
   refine ⟨uE,?_⟩
   refine gz7 ?_;exact ⟨n+1,at1+y26,⟨v42,out++[(⟨at1+y26,y33,y36,y39⟩:MoveS)],a1+1+1+1+1⟩,⟨by omega,by simp at hy26;omega,hq.add (x:=(⟨at1+y26,y33,y36,y39⟩:MoveS)) ⟨by simp at hy26;dsimp only;omega,by simp at hy33;dsimp only;omega⟩ uO⟩,uD,⟨rfl,rfl,trivial⟩,uK,uQ⟩
  ·refine gz2 ?_;refine zdz ?_;refine gz4 ?_;refine de rfl (uZ 2 ?_)
   refine de rfl (uCx 3 ca53 rfl rfl (zn1 (l:=out) g2 uO) ?_)
   rintro _ _ ⟨Z,rfl,hzp,rfl⟩;have hzl:=hzp.length_eq;refine gz3 ?_;refine de rfl (uZ 3 ?_)
   refine de rfl (uCx 0 ca55 rfl rfl (zfT (l:=Z) uO) ?_)
   rintro _ _ ⟨u50,rfl,rfl⟩;refine gz1 ?_;refine de0 (uY 3 ?_)
   refine gz1 ?_;have hul:=zqd Z none;have hub: ∀x∈zai none Z,MovB x:=fun x hx=>g2 x (hzp.mem_iff.1 (zmd Z none x hx))
   refine zl (Ghost.perm (M':=[St b l a1,.cells b2 zh4,.cells b3 (bkC g13 (.raw u50) (zcV p15) (zcU m17) (.raw (.slice none 0 0)) (.raw (.slice none 0 0))),.arr u50 4 ((zai none Z).map zcK)]) uQ) ?_;refine zl (ze0 (i:=3) (k:=2) (j:=14) rfl rfl rfl) ?_;refine gz4 ?_;refine de rfl (uZ 2 ?_)
   refine de rfl (uCx 0 ca56 rfl rfl (zhE (a:=a1) (L:=g13.Players) uO (by have:=hg13.pl;omega)) ?_)
   rintro _ _ ⟨k56,a56,rfl,hk56,ha56,rfl⟩;refine gz1 ?_;refine de0 (uY 2 ?_)
   refine gz5 ?_;refine de rfl (uZ 2 ?_)
   refine dq (zaw (f:=HVal.str) (l:=g13.Teams) zu rfl) ?_;refine gz2 ?_;refine zl (zQ 5) ?_;refine gz1 ?_;refine uV2 [7,4,62,54] (fun (k:Nat) (q:GL ChoiceS)=>[(62,.int .i64 k)]) (fun (k:Nat) (q:GL ChoiceS)=>[St b l q.a,.cells b2 zh4,.cells b3 (bkC g13 (zbs (zai none Z)) (zcV p15) (zcU m17) (zbw k56) (.raw q.u)),.arr q.u 5 (q.out.map z8)]) (fun (k:Nat) (q:GL ChoiceS)=>k<=g13.Teams.length/\(GLok GoodC4 (4*k) (a56+28*k) q)) (fun (k:Nat) (q:GL ChoiceS)=>g13.Teams.length-k) (0) (⟨.slice none 0 0,[],a56⟩) ?_ ?_ ?_ ?_
   ·exact ⟨Ad _,⟨by simp,by simp,uD⟩⟩
   ·exact ⟨rfl,trivial⟩
   ·exact by repeat (first|exact List.Perm.nil|refine zaA 0 rfl ?_|refine zaA 1 rfl ?_|refine zaA 2 rfl ?_|refine zaA 3 rfl ?_|refine zaA 4 rfl ?_|refine zaA 5 rfl ?_|(refine zan 0 rfl ?hq ?_;(case hq=>simp [zaE,zd];done))|(refine zan 1 rfl ?hq ?_;(case hq=>simp [zaE,zd];done))|(refine zan 2 rfl ?hq ?_;(case hq=>simp [zaE,zd];done))|(refine zan 3 rfl ?hq ?_;(case hq=>simp [zaE,zd];done))|(refine zan 4 rfl ?hq ?_;(case hq=>simp [zaE,zd];done))|(refine zan 5 rfl ?hq ?_;(case hq=>simp [zaE,zd];done))|fail)
   ·intro k q hinv
    obtain ⟨hk,hq⟩:=hinv;obtain ⟨u,out,a2⟩:=q;obtain ⟨g1,g2,g3⟩:=id hq;dsimp only at g1 g2 g3;have htm:=hg13.tm;refine gz4 ?_;refine uCo (fun h3=> ?_) fun h4=> ?_
    ·obtain ⟨x,hx⟩: ∃x,g13.Teams[k]? =some x:=⟨_,Aa h3⟩
     have hdx:=zt hx;refine gz5 ?_;refine dq (zK (f:=HVal.str) (l:=g13.Teams) (j:=k) (a:=x) zu ty9 rfl rfl rfl hx) ?_;refine gz7 ?_;refine uV2 [8,3,66,49] (fun (w:Nat) (q2:GL ChoiceS)=>[(8,.int .i64 ((w:Int)+1))]) (fun (w:Nat) (q2:GL ChoiceS)=>[St b l q2.a,.cells b2 zh4,.cells b3 (bkC g13 (zbs (zai none Z)) (zcV p15) (zcU m17) (zbw k56) (.raw q2.u)),.arr q2.u 5 (q2.out.map z8)]) (fun (w:Nat) (q2:GL ChoiceS)=>w<=2/\GLok GoodC4 (4*k+2*w) (a56+28*k+14*w) q2) (fun (w:Nat) (q2:GL ChoiceS)=>2-w) (0) (⟨u,out,a2⟩) ?_ ?_ ?_ ?_
     ·exact ⟨by omega,hq.mono uO uO⟩
     ·exact ⟨zW uO,trivial⟩
     ·exact by repeat (first|exact List.Perm.nil|refine zaA 0 rfl ?_|refine zaA 1 rfl ?_|refine zaA 2 rfl ?_|refine zaA 3 rfl ?_|refine zaA 4 rfl ?_|refine zaA 5 rfl ?_|(refine zan 0 rfl ?hq ?_;(case hq=>simp [zaE,zd];done))|(refine zan 1 rfl ?hq ?_;(case hq=>simp [zaE,zd];done))|(refine zan 2 rfl ?hq ?_;(case hq=>simp [zaE,zd];done))|(refine zan 3 rfl ?hq ?_;(case hq=>simp [zaE,zd];done))|(refine zan 4 rfl ?hq ?_;(case hq=>simp [zaE,zd];done))|(refine zan 5 rfl ?hq ?_;(case hq=>simp [zaE,zd];done))|fail)
     ·intro w q2 hinv
      obtain ⟨hw,hq2⟩:=hinv;obtain ⟨u,out,a2⟩:=q2;obtain ⟨g1,g2,g3⟩:=id hq2;dsimp only at g1 g2 g3;refine gz5 ?_;refine uCo (fun h5=> ?_) fun h6=> ?_
      ·refine gz8 ?_;refine dq (za (hs:=[_,_,_]) zad ty3 rfl rfl (by decide) (by decide) rfl) ?_;refine de rfl (uCx 0 zaI rfl rfl (zf (L:=[_,_,_]) uS uS uS) ?_)
       rintro _ _ ⟨y74,rfl,hy74,rfl⟩;refine gz2 ?_;have hb74:0<=y74/\y74<=604799999:=by simp at hy74;omega
       refine gz2 ?_;refine dq (za (hs:=[_,_,_,_]) zad ty3 rfl rfl (by decide) (by decide) rfl) ?_;refine de rfl (uCx 0 zaI rfl rfl (zf (L:=[_,_,_,_]) uS uS uS) ?_)
       rintro _ _ ⟨y77,rfl,hy77,rfl⟩;refine gz2 ?_;have hb77:0<=y77/\y77<=2:=by simp at hy77;omega
       refine gz1 ?_;refine uV3 [9,2,78,37] (fun (n:Nat) (at2:Int) (q3:GL ChoiceS)=>[(78,.int .i64 (n:Int)),(9,.int .i64 at2)]) (fun (n:Nat) (at2:Int) (q3:GL ChoiceS)=>[St b l q3.a,.cells b2 zh4,.cells b3 (bkC g13 (zbs (zai none Z)) (zcV p15) (zcU m17) (zbw k56) (.raw q3.u)),.arr q3.u 5 (q3.out.map z8)]) (fun (n:Nat) (at2:Int) (q3:GL ChoiceS)=>(n:Int)<=y77/\(0<=at2/\at2<=604800000*((n:Int)+1))/\GLok GoodC4 (4*k+2*w+n) (a56+28*k+14*w+2+6*n) q3) (fun (n:Nat) (at2:Int) (q3:GL ChoiceS)=>y77.toNat-n) (0) (y74) (⟨u,out,a2+1+1⟩) ?_ ?_ ?_ ?_
       ·exact ⟨by omega,by omega,⟨uD,g2,uD⟩⟩
       ·exact ⟨rfl,rfl,trivial⟩
       ·exact by repeat (first|exact List.Perm.nil|refine zaA 0 rfl ?_|refine zaA 1 rfl ?_|refine zaA 2 rfl ?_|refine zaA 3 rfl ?_|refine zaA 4 rfl ?_|refine zaA 5 rfl ?_|(refine zan 0 rfl ?hq ?_;(case hq=>simp [zaE,zd];done))|(refine zan 1 rfl ?hq ?_;(case hq=>simp [zaE,zd];done))|(refine zan 2 rfl ?hq ?_;(case hq=>simp [zaE,zd];done))|(refine zan 3 rfl ?hq ?_;(case hq=>simp [zaE,zd];done))|(refine zan 4 rfl ?hq ?_;(case hq=>simp [zaE,zd];done))|(refine zan 5 rfl ?hq ?_;(case hq=>simp [zaE,zd];done))|fail)
       ·intro n at2 q3 hinv
        obtain ⟨hn,hat2,hq3⟩:=hinv;obtain ⟨u,out,a2⟩:=q3;obtain ⟨g1,g2,g3⟩:=id hq3;dsimp only at g1 g2 g3;refine gz4 ?_;refine uCo (fun h7=> ?_) fun h8=> ?_
        ·refine gz9 ?_;refine dq (za (hs:=[_,_,_,_]) zu ty9 rfl rfl (by decide) (by decide) rfl) ?_;refine de rfl (uCx 0 ca7 rfl rfl (zp (L:=[_,_,_,_]) uS uS uS) ?_)
         rintro _ _ ⟨y85,rfl,hy85,rfl⟩;refine dq (zO (cs:=[_,_,_,_,_]) zbZ pl54 rfl) ?_;refine de rfl (zq zbZ rfl fun b10=> ?_)
         refine de0 (uY 0 ?_)
         refine gz5 ?_;refine de rfl (uZ 3 ?_)
         refine dq (zaw (f:=zbo) (l:=g13.Slots) zdi rfl) ?_;refine gz2 ?_;refine zl (zQ 1) ?_;refine gz1 ?_;refine uV2 [91,11] (fun (j:Nat) (p:GL Str)=>[(91,.int .i64 j)]) (fun (j:Nat) (p:GL Str)=>[St b l p.a,.cells b10 [.str x,.int .i64 ((w:Int)+1),.int .i64 at2,.raw p.u,.str y85],.arr p.u 1 (p.out.map .str),.cells b2 zh4,.cells b3 (bkC g13 (zbs (zai none Z)) (zcV p15) (zcU m17) (zbw k56) (.raw u)),.arr u 5 (out.map z8)]) (fun (j:Nat) (p:GL Str)=>j<=g13.Slots.length/\(p.out.length=j/\(∀s∈p.out,Sh s)/\p.a=a2+1+j)) (fun (j:Nat) (p:GL Str)=>g13.Slots.length-j) (0) (⟨.slice none 0 0,[],a2+1⟩) ?_ ?_ ?_ ?_
         ·exact ⟨Ad _,rfl,by simp,rfl⟩
         ·exact ⟨rfl,trivial⟩
         ·exact by repeat (first|exact List.Perm.nil|refine zaA 0 rfl ?_|refine zaA 1 rfl ?_|refine zaA 2 rfl ?_|refine zaA 3 rfl ?_|refine zaA 4 rfl ?_|refine zaA 5 rfl ?_|(refine zan 0 rfl ?hq ?_;(case hq=>simp [zaE,zd];done))|(refine zan 1 rfl ?hq ?_;(case hq=>simp [zaE,zd];done))|(refine zan 2 rfl ?hq ?_;(case hq=>simp [zaE,zd];done))|(refine zan 3 rfl ?hq ?_;(case hq=>simp [zaE,zd];done))|(refine zan 4 rfl ?hq ?_;(case hq=>simp [zaE,zd];done))|(refine zan 5 rfl ?hq ?_;(case hq=>simp [zaE,zd];done))|fail)
         ·intro j p hinv
          obtain ⟨hj,hp⟩:=hinv;obtain ⟨v,ps,a5⟩:=p;dsimp only at hp;obtain ⟨hp1,hp2,hp3⟩:=hp;have hsl:=hg13.sl;refine gz4 ?_;refine uCo (fun h9=> ?_) fun h10=> ?_
          ·obtain ⟨z,hz⟩: ∃z,g13.Slots[j]? =some z:=⟨_,Aa h9⟩
           have hdz:=zt hz;refine gz4 ?_;refine zba (fun M=> ∃i:Nat,M[i]? =some (.cells b10 [.str x,.int .i64 ((w:Int)+1),.int .i64 at2,.raw v,.str y85])) [1] mixed ?_;refine gz1 ?_;refine uM 1 rfl ⟨1,rfl⟩ (fun M hM=>by obtain ⟨i,hi⟩:=hM;exact zV (i:=i) (h:= .raw v) zu rfl hi (.inl ⟨rfl,rfl⟩) ⟨rfl,rfl⟩) ?_;refine gz1 ?_;refine uB 3 rfl (za (hs:=[_,_,_,_,_,_,_,_]) zu ty9 rfl rfl (by decide) (by decide) rfl) ?_;refine uF 4 ?_;refine zA rfl (uCx 0 ca7 rfl rfl (zp (L:=[_,_,_,_,_,_,_,_]) uS uS uS) ?_)
           rintro _ _ ⟨y97,rfl,hy97,rfl⟩;refine ⟨uE,?_⟩
           refine uB 5 rfl (za (hs:=[_]) zu ty9 rfl rfl (by decide) (by decide) rfl) ?_;refine uF 6 ?_;refine zA rfl (zN (i:=2) zu ty9 rfl rfl rfl rfl rfl (by simp [zal,zd]) (by first|omega|(simp;omega)) fun v99=> ?_)
           refine ⟨uE,?_⟩
           refine gz1 ?_;refine uF 8 ?_;refine zT (uY 1 ?_)
           refine ⟨uE,?_⟩
           refine gz7 ?_;exact ⟨j+1,⟨v99,ps++[y97],a5+1⟩,⟨by omega,by simp;omega,fun s hs=>by
            rcases List.mem_append.1 hs with hs|hs
            ·exact hp2 s hs
            ·rw [List.mem_singleton.1 hs];simp at hy97;rcases hy97 with rfl|rfl|rfl|rfl|rfl|rfl|rfl|rfl<;>(unfold Sh;simp),uD⟩,uD,⟨rfl,trivial⟩,uK,uQ⟩
          ·have hnj:g13.Slots.length<=j:=by omega
           obtain rfl:j=g13.Slots.length:=by omega
           refine gz2 ?_;refine zY ?_;refine gz2 ?_;refine zl (ze0 (i:=2) (k:=1) (j:=3) rfl rfl rfl) ?_;refine zl (zcI (M':=[St b l a5,.cells b10 (zd (z8 (⟨x,(w:Int)+1,at2,ps,y85⟩:ChoiceS))),.cells b2 zh4,.cells b3 (bkC g13 (zbs (zai none Z)) (zcV p15) (zcU m17) (zbw k56) (.raw u)),.arr u 5 (out.map z8)]) rfl) ?_;refine zl (zbi 10 (i:=1) rfl rfl) ?_;refine gz2 ?_;refine de rfl (uZ 2 ?_)
           refine gz1 ?_;refine dq (za (hs:=[_]) zeh zbZ rfl rfl (by decide) (by decide) rfl) ?_;refine de rfl (zN (i:=3) zeh zbZ rfl rfl rfl rfl rfl (by simp [zal,zd,zaR,za8]) uSo fun v106=> ?_)
           refine gz1 ?_;refine de0 (uY 2 ?_)
           refine gz5 ?_;refine dq (za (hs:=[_,_,_]) zad ty3 rfl rfl (by decide) (by decide) rfl) ?_;refine de rfl (uCx 0 zaI rfl rfl (zf (L:=[_,_,_]) uS uS uS) ?_)
           rintro _ _ ⟨y112,rfl,hy112,rfl⟩;refine dq (zbf rfl rfl (by simp at hy112;omega) (by simp at hy112;omega)) ?_;refine gz8 ?_;exact ⟨n+1,at2+y112,⟨v106,out++[(⟨x,(w:Int)+1,at2,ps,y85⟩:ChoiceS)],a5+1⟩,⟨by omega,by simp at hy112;omega,hq3.add (x:=(⟨x,(w:Int)+1,at2,ps,y85⟩:ChoiceS)) ⟨hp2,by simp at hy85;rcases hy85 with rfl|rfl|rfl|rfl<;>(unfold Sh;simp),by have:=hg13.sl;dsimp only;omega⟩ (by have:=hg13.sl;omega)⟩,uD,⟨rfl,rfl,trivial⟩,uK,uQ⟩
        ·refine gz2 ?_;refine zdz ?_;refine gz8 ?_;exact ⟨w+1,⟨u,out,a2⟩,⟨by omega,hq3.mono uO uO⟩,uD,⟨zW uO,trivial⟩,uK,uQ⟩
      ·refine gz2 ?_;refine zY ?_;refine gz7 ?_;exact ⟨k+1,⟨u,out,a2⟩,⟨by omega,hq2.mono uO uO⟩,uD,⟨rfl,trivial⟩,uK,uQ⟩
    ·have hnk:g13.Teams.length<=k:=by omega
     obtain rfl:k=g13.Teams.length:=by omega
     refine gz2 ?_;refine zY ?_;refine gz2 ?_;refine uVj [11,1,116,52] (fun (q5:List ChoiceS×Nat)=>[]) (fun (q5:List ChoiceS×Nat)=>[St b l q5.2,.cells b2 zh4,.cells b3 (bkC g13 (zbs (zai none Z)) (zcV p15) (zcU m17) (zbw k56) (.raw u)),.arr u 5 (q5.1.map z8)]) (fun (q5:List ChoiceS×Nat)=>GoodChs q5.1/\q5.2<=a2+10) ?_ ?_
     ·skip
      refine gz2 ?_;refine de rfl (uZ 2 ?_)
      refine de rfl (za6 (i:=3) (es:=out) zeh rfl rfl ?_)
      refine gz3 ?_;refine dgx (fun x M'=> ∃(y:Bool) (a3:Nat),x= .bool y/\a3<=a2+1/\M'=[St b l a3,.cells b2 zh4,.cells b3 (bkC g13 (zbs (zai none Z)) (zcV p15) (zcU m17) (zbw k56) (.raw u)),.arr u 5 (out.map z8)]) rfl rfl (fun hc=>⟨_,false,a2,rfl,by omega,rfl⟩) (fun hc=>⟨_,OpenTo.upd (t:=121) rfl (hc) (OpenTo.refl _),uCx 0 zeb rfl rfl (zI (a:=a2) uO uO) (fun h M' hh=>by
       obtain ⟨y,h1,h2⟩:=hh;exact ⟨y,a2+1,h1,by omega,by rw [h2];rfl⟩)⟩) ?_
      rintro _ _ ⟨y,a3,rfl,ha3,rfl⟩;refine gz2 ?_;refine uCo (fun h11=> ?_) fun h12=> ?_
      ·have ho0:0<out.length:=by simp_all
       refine zc4 (i:=3) rfl (fun h0 he=> ?_) (fun ob off cap hv hcap=> ?_)
       ·exfalso;have:=congrArg List.length he;simp at this;subst this;simp at ho0
       subst hv;refine zbu (fun M=> ∃i:Nat,M[i]? =some (.cells b3 (bkC g13 (zbs (zai none Z)) (zcV p15) (zcU m17) (zbw k56) (.raw (.slice (some ⟨ob,off,none⟩) (out.map z8).length cap))))) [1,4] mixed ?_;refine gz1 ?_;refine uM 1 rfl ⟨2,rfl⟩ (fun M hM=>by obtain ⟨i,hi⟩:=hM;exact zV (i:=i) (h:= .raw (.slice (some ⟨ob,off,none⟩) (out.map z8).length cap)) zeh rfl hi (.inl ⟨rfl,rfl⟩) ⟨rfl,rfl⟩) ?_;refine gz2 ?_;refine uM 4 rfl ⟨2,rfl⟩ (fun M hM=>by obtain ⟨i,hi⟩:=hM;exact zV (i:=i) (h:= .raw (.slice (some ⟨ob,off,none⟩) (out.map z8).length cap)) zeh rfl hi (.inl ⟨rfl,rfl⟩) ⟨rfl,rfl⟩) ?_;refine uF 5 ?_;refine zA rfl (za6 (i:=3) (es:=out) zeh rfl rfl ?_)
       refine ⟨fun _=> .inl ⟨2,rfl⟩,?_⟩
       refine uF 6 ?_;refine zA rfl (uCx 0 zhZ rfl rfl (zak uS uS) ?_)
       rintro _ _ ⟨y130,rfl,hy130,rfl⟩;refine ⟨uE,?_⟩
       refine uB 7 rfl (zM (j:=y130) zeh zbZ rfl rfl rfl uSo) ?_;refine gz2 ?_;refine zl (Ghost.perm (M':=[St b l (a3+1),.arr (.slice (some ⟨ob,off,none⟩) (out.map z8).length cap) 5 (out.map z8),.cells b2 zh4,.cells b3 (bkC g13 (zbs (zai none Z)) (zcV p15) (zcU m17) (zbw k56) (.raw (.slice (some ⟨ob,off,none⟩) (out.map z8).length cap)))]) uQ) ?_;obtain ⟨x,hx⟩: ∃x,out[y130]? =some x:=⟨_,Aa uO⟩
       have hgx:=g2 x (Ac hx);dsimp only [GoodC4] at hgx;refine zba (fun M=> ∃i:Nat,M[i]? =some (.arr (.slice (some ⟨ob,off,none⟩) (out.map z8).length cap) 5 (out.map z8))) [8,15,24] mixed ?_;refine gz8 ?_;refine uM 8 rfl ⟨1,rfl⟩ (fun M hM=>by obtain ⟨i,hi⟩:=hM;exact zax (i:=i) (j:=y130) 0 ty9 rfl uO hi hx rfl rfl ⟨rfl,rfl⟩) ?_;refine uB 9 rfl (za (hs:=[_,_]) zu ty9 rfl rfl (by decide) (by decide) rfl) ?_;refine uA 11 ?_;refine gz3 ?_;refine uM 15 rfl ⟨1,rfl⟩ (fun M hM=>by obtain ⟨i,hi⟩:=hM;exact zax (i:=i) (j:=y130) 1 ty3 rfl uO hi hx rfl rfl ⟨rfl,rfl⟩) ?_;refine uB 16 rfl (za (hs:=[_,_]) zad ty3 rfl rfl (by decide) (by decide) rfl) ?_;refine uA 18 ?_;refine uB 19 rfl (za (hs:=[_,_]) zu ty9 rfl rfl (by decide) (by decide) rfl) ?_;refine uA 21 ?_;refine gz2 ?_;refine uM 24 rfl ⟨1,rfl⟩ (fun M hM=>by obtain ⟨i,hi⟩:=hM;exact zax (i:=i) (j:=y130) 3 zu rfl uO hi hx rfl rfl ⟨rfl,rfl⟩) ?_;refine uB 26 rfl (za (hs:=[_]) zu ty9 rfl rfl (by decide) (by decide) rfl) ?_;refine uF 10 ?_;refine zA rfl (uCx 0 ca7 rfl rfl (zp (L:=[_,_]) uS uS uS) ?_)
       rintro _ _ ⟨y142,rfl,hy142,rfl⟩;refine ⟨uE,?_⟩
       refine uF 17 ?_;refine zA rfl (uCx 0 zaI rfl rfl (zf (L:=[_,_]) uS uS uS) ?_)
       rintro _ _ ⟨y149,rfl,hy149,rfl⟩;refine ⟨uE,?_⟩
       refine uF 20 ?_;refine zA rfl (uCx 0 ca7 rfl rfl (zp (L:=[_,_]) uS uS uS) ?_)
       rintro _ _ ⟨y152,rfl,hy152,rfl⟩;refine ⟨uE,?_⟩
       refine uF 25 ?_;refine zA rfl (uCa zlW rfl (zay uO) fun v157=> ?_)
       refine ⟨uE,?_⟩
       refine uF 27 ?_;refine zA rfl (zmv (N:=[St b l (a3+1+1+1+1),.arr (.slice (some ⟨ob,off,none⟩) (out.map z8).length cap) 5 (out.map z8),.cells b2 zh4,.cells b3 (bkC g13 (zbs (zai none Z)) (zcV p15) (zcU m17) (zbw k56) (.raw (.slice (some ⟨ob,off,none⟩) (out.map z8).length cap)))]) (sz:=1) (es:=(x.Players++[[97,110,110]]).map .str) 0 (zN (i:=0) zu ty9 rfl rfl rfl rfl rfl (by simp [zal,zd,zaR,za8]) uSo fun v=>⟨v,rfl,by simp [zaR,za8],rfl⟩) ?_)
       refine ⟨fun _=> .inl ⟨1,rfl⟩,?_⟩
       refine gz2 ?_;refine uF 30 ?_;refine zT (zac (i:=1) (j:=y130) (f:=0) (y:=z8 x) (y':=z8 ⟨y142,x.Week,x.At,x.Players,x.Captain⟩) ty9 rfl uO rfl rfl (zbl hx) rfl rfl (by simp [zd]) rfl ?_)
       refine ⟨uE,?_⟩
       refine gz2 ?_;refine uF 33 ?_;refine zT (zac (i:=1) (j:=y130) (f:=1) (y:=z8 ⟨y142,x.Week,x.At,x.Players,x.Captain⟩) (y':=z8 ⟨y142,y149,x.At,x.Players,x.Captain⟩) ty3 rfl uO rfl rfl (zaL (zbl hx)) rfl rfl (by simp [zd]) rfl ?_)
       refine ⟨uE,?_⟩
       refine gz2 ?_;refine uF 36 ?_;refine zT (zac (i:=1) (j:=y130) (f:=4) (y:=z8 ⟨y142,y149,x.At,x.Players,x.Captain⟩) (y':=z8 ⟨y142,y149,x.At,x.Players,y152⟩) ty9 rfl uO rfl rfl (zaL (zaL (zbl hx))) rfl rfl (by simp [zd]) rfl ?_)
       refine ⟨uE,?_⟩
       refine gz2 ?_;refine uF 39 ?_;refine zT (zac (i:=1) (j:=y130) (f:=3) (y:=z8 ⟨y142,y149,x.At,x.Players,y152⟩) (y':=z8 ⟨y142,y149,x.At,x.Players++[[97,110,110]],y152⟩) zu rfl uO rfl rfl (zaL (zaL (zaL (zbl hx)))) rfl rfl (by simp [zd]) rfl ?_)
       refine ⟨uE,?_⟩
       refine gz1 ?_;exact ⟨(out.set y130 (⟨y142,y149,x.At,x.Players++[[97,110,110]],y152⟩:ChoiceS),a3+1+1+1+1),⟨⟨by simp;omega,ze2 (P:=zqJ) (fun x hx=>(g2 x hx).up) ⟨fun s hs=>by
        rcases List.mem_append.1 hs with hs|hs
        ·exact hgx.1 s hs
        ·rw [List.mem_singleton.1 hs];unfold Sh;simp,by simp at hy152;rcases hy152 with rfl|rfl<;>(unfold Sh;simp),by simp;omega⟩⟩,uD⟩,trivial,uK,uQ⟩
      ·refine gz1 ?_;exact ⟨(out,a3),⟨⟨uD,fun x hx=>(g2 x hx).up⟩,uD⟩,trivial,uK,uQ⟩
     ·intro q5 hq5
      obtain ⟨k1,a6⟩:=q5;obtain ⟨hk1,ha6⟩:=hq5;dsimp only at hk1 ha6;refine zl (ze0 (i:=3) (k:=2) (j:=18) rfl rfl rfl) ?_;refine zl (Ghost.perm (M':=[.cells b2 zh4,St b l a6,.cells b3 (zd (zbg (⟨g13,(zai none Z),p15,m17,k56,k1⟩:BookS)))]) uQ) ?_;refine gz1 ?_;refine de rfl (zdl (i:=2) (h:=zbg (⟨g13,(zai none Z),p15,m17,k56,k1⟩:BookS)) za0 rfl rfl rfl rfl rfl ?_)
      refine de0 (zz (h:=zbg (⟨g13,(zai none Z),p15,m17,k56,k1⟩:BookS)) za0 rfl rfl rfl rfl rfl ?_)
      refine gz2 ?_;exact ⟨_,_,(zD 2 rfl).trans ((Ghost.perm (List.Perm.swap _ _ _)).trans Ghost.drop),[_],_,⟨⟨_,_,_,_,_,rfl,za0,.inr ⟨rfl,rfl,rfl⟩⟩,trivial⟩,Weak.refl _,(⟨g13,(zai none Z),p15,m17,k56,k1⟩:BookS),a6,rfl,⟨hg13,uD,hub,hp15,hm17,hk56,hk1⟩,by omega,rfl⟩
end
section
open Go.HL
set_option linter.unusedSimpArgs false
end
end Go.Proofs.YtahegdhbakjdoaaGreatDoor
namespace Go.HL
section
open Go
theorem zsk (b:BookS) (n:Int):zdG b n=orI [zbR b,if zL n=true then 0 else 1]:=by
 by_cases h:zbR b=0
 by_cases hn:zL n=true
 rw [(zpG h hn).1,h,if_pos hn];rfl;have hn':zL n=false:=by simpa using hn
 have hm:mfE b n=1:=by unfold mfE;rw [if_neg (fun q=>q h),if_pos hn']
 unfold zdG;rw [hm,if_pos (by decide),h,hn'];rfl;have hm:mfE b n=zbR b:=by unfold mfE;rw [if_pos h]
 unfold zdG orI;rw [hm,if_pos h,if_pos h]
theorem zxQ (b:BookS) (t:Str) (w n:Int):zd8 b t w n=orI [zbR b,if b.League.Teams.contains t=true then 0 else 8,if zbc w=true then 0 else 1,if zL n=true then 0 else 1]:=by
 unfold zd8
 by_cases h:zbR b=0
 rw [if_neg (fun q=>q h),h]
 cases b.League.Teams.contains t<;>cases zbc w<;>cases zL n<;>rfl
 rw [if_pos h,orI,if_pos h]
theorem zw2 {b:BookS} {n:Int} (h:zdG b n=0):zbR b=0/\zL n=true/\zem b n=zb0 b.League.Bounds (zah b.League.Bounds b.Moves n) n (b.League.Players.map (·.Key)):=by
 have h0:=h;rw [zsk] at h;have h1:zbR b=0:=zju h _ (by simp);have h2:(if zL n=true then 0 else 1:Int)=0:=zju h _ (by simp);have h3:zL n=true:=by
  cases q:zL n with
  |true=>rfl
  |false=>rw [q] at h2;cases h2
 exact ⟨h1,h3,(zpG h1 h3).2⟩
end
end Go.HL
namespace Go.Proofs.YtahegdhbakjdoaaGreatDoor
set_option maxRecDepth 100000
set_option linter.unusedVariables false
set_option linter.unusedSimpArgs false
section
open Go.Proofs.Tryz
open Go.HL
theorem zoS [Tracks] {g:LeagueS} {w:Int} (hs: -1000000000000000<=g.Start/\g.Start<=1000000000000000) (hw: -1000<=w/\w<=1000):ConP prog 102 [.vptr (zsf g) 0,.int .i64 w] (.int .i64 (zhC g w)):=by
 refine uOb func102 ntmps102 ?_;refine gz5 ?_;refine dq ((by first|exact zw rfl|exact zn rfl)) ?_;refine gz4 ?_;refine dq (zgA rfl rfl uO uO) ?_;refine gz4 ?_;refine zC rfl ?_
 rfl
theorem znT [Tracks] {g:LeagueS} {a:Int} (hT:Tracks.on=false) (hb:LeaB g):ConP prog 49 [zca g,.int .i64 a] (.tup [.int .i64 (if zbp g≠0 then 0 else if zL a=false then 0 else zcP g a),.bool (if zbp g≠0 then false else if zL a=false then false else decide (0<zcP g a)),.int .i64 (if zbp g≠0 then zbp g else if zL a=false then 1 else 0)]):=by
 have hst:=hb.sta;refine uOb func49 ntmps49 ?_;refine gz8 ?_;refine dq (zaV (h:=zca g) z7 rfl rfl rfl rfl) ?_;refine dq (uCl zv6 rfl (zgI (g:=g) hT hb)) ?_;refine gz6 ?_;refine uCo (fun h1=> ?_) fun h2=> ?_
 ·refine gz7 ?_;refine zC rfl ?_
  show HVal.tup _=_
  by_cases q1:zbp g≠0
  ·rw [if_pos q1,if_pos q1,if_pos q1]
   first|done|rfl|(exfalso;simp_all;done)
  ·rw [if_neg q1,if_neg q1,if_neg q1]
   by_cases q2:zL a=false
   ·rw [if_pos q2,if_pos q2,if_pos q2]
    first|done|rfl|(exfalso;simp_all;done)
   ·rw [if_neg q2,if_neg q2,if_neg q2]
    by_cases q3:a<g.Start\/zhC g 61<=a
    ·have hw0:zcP g a=0:=by rw [zcP,if_pos q3]
     rw [hw0]
     first|rfl|(exfalso;simp_all;done)|(exfalso;omega)
    ·have hw0:zcP g a=(a-g.Start)/604800000+1:=by rw [zcP,if_neg q3]
     have hd:decide (0<(a-g.Start)/604800000+1)=true:=decide_eq_true uO;rw [hw0,hd]
     first|done|rfl|(exfalso;simp_all;done)|(exfalso;omega)
 ·refine gz5 ?_;refine dq (uCl ziL rfl zbA) ?_;refine gz2 ?_;refine uCo (fun h3=> ?_) fun h4=> ?_
  ·refine gz6 ?_;refine zC rfl ?_
   show HVal.tup _=_
   by_cases q1:zbp g≠0
   ·rw [if_pos q1,if_pos q1,if_pos q1]
    first|done|rfl|(exfalso;simp_all;done)
   ·rw [if_neg q1,if_neg q1,if_neg q1]
    by_cases q2:zL a=false
    ·rw [if_pos q2,if_pos q2,if_pos q2]
     first|done|rfl|(exfalso;simp_all;done)
    ·rw [if_neg q2,if_neg q2,if_neg q2]
     by_cases q3:a<g.Start\/zhC g 61<=a
     ·have hw0:zcP g a=0:=by rw [zcP,if_pos q3]
      rw [hw0]
      first|rfl|(exfalso;simp_all;done)|(exfalso;omega)
     ·have hw0:zcP g a=(a-g.Start)/604800000+1:=by rw [zcP,if_neg q3]
      have hd:decide (0<(a-g.Start)/604800000+1)=true:=decide_eq_true uO;rw [hw0,hd]
      first|done|rfl|(exfalso;simp_all;done)|(exfalso;omega)
  ·refine gz3 ?_;have hma:=zeP (n:=a) (lo:=0) (hi:=345686399999) (by (have q:zL a=true:=by assumption);unfold zL at q;simpa using q);have hb61:zhC g 61=g.Start+36288000000:=by unfold zhC;omega
   refine gz7 ?_;refine uGr rfl (fun hc=>by have hq:=hc;(try simp at hq);exact uCl zyA rfl (zoS (g:=g) hst uO)) ?_;refine gz3 ?_;refine uCo (fun h5=> ?_) fun h6=> ?_
   ·refine gz6 ?_;refine zC rfl ?_
    show HVal.tup _=_
    by_cases q1:zbp g≠0
    ·rw [if_pos q1,if_pos q1,if_pos q1]
     first|done|rfl|(exfalso;simp_all;done)
    ·rw [if_neg q1,if_neg q1,if_neg q1]
     by_cases q2:zL a=false
     ·rw [if_pos q2,if_pos q2,if_pos q2]
      first|done|rfl|(exfalso;simp_all;done)
     ·rw [if_neg q2,if_neg q2,if_neg q2]
      by_cases q3:a<g.Start\/zhC g 61<=a
      ·have hw0:zcP g a=0:=by rw [zcP,if_pos q3]
       rw [hw0]
       first|rfl|(exfalso;simp_all;done)|(exfalso;omega)
      ·have hw0:zcP g a=(a-g.Start)/604800000+1:=by rw [zcP,if_neg q3]
       have hd:decide (0<(a-g.Start)/604800000+1)=true:=decide_eq_true uO;rw [hw0,hd]
       first|done|rfl|(exfalso;simp_all;done)|(exfalso;omega)
   ·refine gz7 ?_;refine dq (zaq (zd6 rfl rfl uO uO uO) (congrArg (HVal.int .i64) (Int.tdiv_eq_ediv_of_nonneg uO))) ?_;refine gz6 ?_;refine zC rfl ?_
    show HVal.tup _=_
    by_cases q1:zbp g≠0
    ·rw [if_pos q1,if_pos q1,if_pos q1]
     first|done|rfl|(exfalso;simp_all;done)
    ·rw [if_neg q1,if_neg q1,if_neg q1]
     by_cases q2:zL a=false
     ·rw [if_pos q2,if_pos q2,if_pos q2]
      first|done|rfl|(exfalso;simp_all;done)
     ·rw [if_neg q2,if_neg q2,if_neg q2]
      by_cases q3:a<g.Start\/zhC g 61<=a
      ·have hw0:zcP g a=0:=by rw [zcP,if_pos q3]
       rw [hw0]
       first|rfl|(exfalso;simp_all;done)|(exfalso;omega)
      ·have hw0:zcP g a=(a-g.Start)/604800000+1:=by rw [zcP,if_neg q3]
       have hd:decide (0<(a-g.Start)/604800000+1)=true:=decide_eq_true uO;rw [hw0,hd]
       first|done|rfl|(exfalso;simp_all;done)|(exfalso;omega)
theorem zxR [Tracks]:Weak (.agg [.raw (.slice none 0 0),.raw (.slice none 0 0),.raw (.slice none 0 0),.raw (.slice none 0 0),.slice 2 [.agg [.str [115,97],.slice 1 [.str [103,107]]]],.int .i64 3,.int .i64 0,.int .i64 5,.int .i64 0,.slice 1 [.str [116,97],.str [116,98]],.raw (.slice none 0 0),.raw (.slice none 0 0),.raw (.slice none 0 0),.int .i64 0]) (zca g0L):=by
 refine zrW rfl fun j h h' h1 h2=> ?_
 match j,h1,h2 with
 |0,h1,h2|1,h1,h2|2,h1,h2|3,h1,h2|10,h1,h2|11,h1,h2|12,h1,h2=>cases h1;cases h2;exact zX _
 |4,h1,h2|5,h1,h2|6,h1,h2|7,h1,h2|8,h1,h2|9,h1,h2|13,h1,h2=>cases h1;cases h2;exact Weak.refl _
 |n+14,h1,h2=>cases h1
theorem zw3 [Tracks]:(HVal.tup [.int .i64 (if zbp g0L≠0 then 0 else if zL 604800000=false then 0 else zcP g0L 604800000),.bool (if zbp g0L≠0 then false else if zL 604800000=false then false else decide (0<zcP g0L 604800000)),.int .i64 (if zbp g0L≠0 then zbp g0L else if zL 604800000=false then 1 else 0)])= .tup [.int .i64 2,.bool true,.int .i64 0]:=by
 rw [g0_E,g0_M,g0_W];rfl
theorem zeH [Tracks] (hT:Tracks.on=false):ConP prog 22 [] (.bool true):=by
 refine uOb func22 ntmps22 ?_;refine gz4 ?_;refine dq (za (hs:=[_]) zu ty9 rfl rfl (by decide) (by decide) rfl) ?_;refine dq (zO (cs:=[_,_]) zbb zvE rfl) ?_;refine dq (za (hs:=[_]) zdi zbb rfl rfl (by decide) (by decide) rfl) ?_;refine dq (zO (cs:=[_,_,_,_]) zdN pl32 rfl) ?_;refine dq (za (hs:=[_,_]) zu ty9 rfl rfl (by decide) (by decide) rfl) ?_;refine dq (zAx z7 ziV) ?_;refine de rfl (zq z7 rfl fun b1=> ?_)
 refine de0 (zz z7 rfl rfl rfl rfl rfl ?_)
 refine gz1 ?_;refine zl (zD 1 rfl) ?_;refine gz1 ?_;refine dq (zaV (h:= .agg [.raw (.slice none 0 0),.raw (.slice none 0 0),.raw (.slice none 0 0),.raw (.slice none 0 0),.slice 2 [.agg [.str [115,97],.slice 1 [.str [103,107]]]],.int .i64 3,.int .i64 0,.int .i64 5,.int .i64 0,.slice 1 [.str [116,97],.str [116,98]],.raw (.slice none 0 0),.raw (.slice none 0 0),.raw (.slice none 0 0),.int .i64 0]) z7 rfl rfl rfl rfl) ?_;refine dq (zaq (h':= .tup [.int .i64 2,.bool true,.int .i64 0]) (zef (hs':=[zca g0L,.int .i64 604800000]) ca49 rfl ⟨zxR,Weak.refl _,trivial⟩ (znT (g:=g0L) (a:=604800000) hT g0_b)) zw3) ?_;refine gz21 ?_;refine zC rfl ?_
 rfl
theorem zam [Tracks] {l:List PairS} (hl:l.length<=1000000):ConP prog 21 [zeW l,zeW l] (.bool true):=by
 refine uOb func21 ntmps21 ?_;refine zc8 ?_;refine za3 rfl (fun h1=> ?_) (fun h1=> ?_)
 ·exfalso
  try simp at h1
  done
 ·try simp at h1
  refine gz9 ?_;refine uT1 [4,2,13,13] (fun k=>[(13,.int .i64 k)]) (fun k=>[]) (fun k=>k<=l.length/\(True)) (fun k=>l.length-k) (0) ?_ ?_
  ·exact ⟨Ad _,trivial⟩
  ·rintro k ⟨hk,-⟩;refine gz4 ?_;refine uCo (fun h2=> ?_) fun h3=> ?_
   ·obtain ⟨x,hx⟩: ∃x,l[k]? =some x:=⟨_,Aa h2⟩
    have hdx:=zt hx;refine gz8 ?_;refine uDr mixed ?_;refine gz2 ?_;refine uB 2 rfl (zK (f:=zn4) (l:=l) (j:=k) (a:=x) zei zb7 rfl rfl rfl hx) ?_;refine gz3 ?_;refine uB 6 rfl (zK (f:=zn4) (l:=l) (j:=k) (a:=x) zei zb7 rfl rfl rfl hx) ?_;refine gz1 ?_;refine uB 8 rfl (zgB zb7 eq58 rfl rfl ⟨rfl,⟨_,_,_,_,ty9,rfl⟩,⟨rfl,⟨_,_,_,_,ty9,rfl⟩,trivial⟩⟩) ?_;refine gz1 ?_;refine uCo (fun h4=> ?_) fun h5=> ?_
    ·refine gz4 ?_;refine zC rfl ?_
     first
     |rfl
     |(exfalso;simp [zfo,eqH] at h4)
    ·refine gz7 ?_;refine ⟨k+1,?_,?_,⟨rfl,trivial⟩,uK,Ab _⟩
     ·exact ⟨by omega,trivial⟩
     ·dsimp only;omega
   ·have hnk:l.length<=k:=by omega
    obtain rfl:k=l.length:=by omega
    refine gz2 ?_;refine zG ?_;refine gz6 ?_;refine zC rfl ?_
    first
    |rfl
    |(exfalso;simp [zfo,eqH] at h4)
theorem zmK [Tracks] {b:Nat} {l:List Int} {a:Nat} (hT:Tracks.on=false) (ha:a<=100000):Con prog 13 [pAt b] [St b l a] (fun x M'=> ∃k t w n a',x= .tup [zbg k,.str t,.int .i64 w,.int .i64 n,.int .i64 (zbR k)]/\BookC k/\t≠[]/\(0<=w/\w<=61)/\(-1<=n/\n<=1000000000000)/\M'=[St b l a']):=by
 refine zbz func13 rfl ntmps13 rfl rfl ?_;refine gz1 ?_;refine de rfl (zq za0 rfl fun b2=> ?_)
 refine gz7 ?_;refine de rfl (uCx 1 ca23 rfl rfl (zg9 (a:=a) uO) ?_)
 rintro _ _ ⟨k8,a8,rfl,hk8,ha8,rfl⟩;refine gz1 ?_;refine dq (za (hs:=[_,_,_,_]) zu ty9 rfl rfl (by decide) (by decide) rfl) ?_
 focus first
 |refine de rfl (uCx 0 ca7 rfl rfl (zp (L:=[_,_,_,_]) uS uS uS) ?_)
 |refine de rfl (uCx 1 ca7 rfl rfl (zp (L:=[_,_,_,_]) uS uS uS) ?_)
 |refine de rfl (uCx 2 ca7 rfl rfl (zp (L:=[_,_,_,_]) uS uS uS) ?_)
 |refine de rfl (uCx 3 ca7 rfl rfl (zp (L:=[_,_,_,_]) uS uS uS) ?_)
 rintro _ _ ⟨y11,rfl,hy11,rfl⟩;refine gz1 ?_;refine dq (za (hs:=[_,_,_,_,_]) zad ty3 rfl rfl (by decide) (by decide) rfl) ?_
 focus first
 |refine de rfl (uCx 0 zaI rfl rfl (zf (L:=[_,_,_,_,_]) uS uS uS) ?_)
 |refine de rfl (uCx 1 zaI rfl rfl (zf (L:=[_,_,_,_,_]) uS uS uS) ?_)
 |refine de rfl (uCx 2 zaI rfl rfl (zf (L:=[_,_,_,_,_]) uS uS uS) ?_)
 |refine de rfl (uCx 3 zaI rfl rfl (zf (L:=[_,_,_,_,_]) uS uS uS) ?_)
 rintro _ _ ⟨y14,rfl,hy14,rfl⟩;refine gz1 ?_
 focus first
 |refine de rfl (uCx 0 zth rfl rfl (zbK uS) ?_)
 |refine de rfl (uCx 1 zth rfl rfl (zbK uS) ?_)
 |refine de rfl (uCx 2 zth rfl rfl (zbK uS) ?_)
 |refine de rfl (uCx 3 zth rfl rfl (zbK uS) ?_)
 rintro _ _ ⟨y16,rfl,hy16,rfl⟩;refine de0 (zeC (i:=1) (h:=zbg k8) za0 rfl rfl rfl rfl rfl (Ak rfl) ?_)
 refine gz4 ?_;refine zbu (fun M=>M=[St b l (a8+1+1+1+1),.cells b2 (zd (zbg k8))]) [0,4] mixed ?_;refine uM 0 rfl rfl (fun M hM=>by subst hM;exact zdl (i:=1) (h:=zbg k8) za0 rfl rfl rfl rfl rfl ⟨rfl,rfl⟩) ?_;refine gz3 ?_;refine uM 4 rfl rfl (fun M hM=>by subst hM;exact zdl (i:=1) (h:=zbg k8) za0 rfl rfl rfl rfl rfl ⟨rfl,rfl⟩) ?_;refine uB 5 rfl (uCl ca24 rfl (zj0 (b:=k8) hT hk8.c)) ?_;refine uF 6 ?_;refine zT (zeC (i:=1) (h:=zbg k8) za0 rfl rfl rfl rfl rfl (Ak rfl) ?_)
 refine ⟨uE,?_⟩
 refine gz6 ?_;have hyt:y11≠[]:=by
  rcases List.mem_cons.1 hy11 with q|hy11
  rw [q];decide
  rcases List.mem_cons.1 hy11 with q|hy11
  rw [q];decide
  rcases List.mem_cons.1 hy11 with q|hy11
  rw [q];decide
  rcases List.mem_cons.1 hy11 with q|hy11
  rw [q];decide
  cases hy11
 have hyw:0<=y14/\y14<=61:=by simp at hy14;omega
 refine ⟨_,_,zbi 2 (i:=1) rfl rfl,[_,_,_,_,_],_,⟨⟨_,_,_,_,_,rfl,za0,.inr ⟨rfl,rfl,rfl⟩⟩,⟨rfl,⟨rfl,⟨rfl,⟨rfl,trivial⟩⟩⟩⟩⟩,Weak.refl _,?_⟩
 exact ⟨k8,y11,y14,y16,_,rfl,hk8.c,hyt,hyw,hy16,rfl⟩
theorem zfh [Tracks] {l:List Int} (hT:Tracks.on=false):ConP prog 4 [.slice 1 (l.map (.int .i64))] (.bool true):=by
 refine uOb func4 ntmps4 ?_;refine gz5 ?_;refine dq (zO (cs:=[_,_]) ty25 pl25 rfl) ?_;refine de rfl (zo7 rfl rfl fun b=> ?_)
 refine zxY (M':=[St b l 0]) rfl ?_;refine gz4 ?_;refine de rfl (uCx 0 ca13 rfl rfl (zmK (a:=0) hT uO) ?_)
 rintro _ _ ⟨kb,tb,wb,nb,ab,rfl,hk,ht,hwb,hnb,rfl⟩;have hla:=hk.bb.lea;refine gz6 ?_;refine de rfl (zq za0 rfl fun b4=> ?_)
 refine de0 (zz za0 rfl rfl rfl rfl rfl ?_)
 refine gz5 ?_;refine zl (zD 4 rfl) ?_;refine gz3 ?_;refine dq (uCl zo0 rfl zbt) ?_;refine dq (za (hs:=[_,_]) zeq zgo rfl rfl (by decide) (by decide) rfl) ?_;refine dq (zaq (h':= .int .i64 (zdG kb nb)) (uCl zq1 rfl (zcS (l:=[zbR kb,if zL nb=true then 0 else 1]) (by simp))) (by rw [zsk])) ?_;refine gz5 ?_;refine dq (zaq (h':=zca kb.League) (zaP z7 rfl rfl (Ak rfl)) rfl) ?_;refine gz1 ?_;refine dq (uCl ca16 rfl (zj3 (g:=kb.League) (t:=tb) hla.tm)) ?_;refine gz1 ?_;refine dq (uCl zs6 rfl zc2) ?_;refine gz1 ?_;refine dq (uCl zo0 rfl zbt) ?_;refine dq (za (hs:=[_,_,_,_]) zeq zgo rfl rfl (by decide) (by decide) rfl) ?_;refine dq (zaq (h':= .int .i64 (zd8 kb tb wb nb)) (uCl zq1 rfl (zcS (l:=[zbR kb,if kb.League.Teams.contains tb=true then 0 else 8,if zbc wb=true then 0 else 1,if zL nb=true then 0 else 1]) (by simp))) (by rw [zxQ])) ?_;refine gz3 ?_;refine dq (zaV (h:=zbg kb) za0 rfl rfl rfl rfl) ?_;refine gz1 ?_;refine dq (uCl ca8 rfl (zqj (b:=kb) (n:=nb) hT hk)) ?_;refine gz7 ?_;refine dq (zaV (h:=zbg kb) za0 rfl rfl rfl rfl) ?_;refine gz3 ?_;refine dq (uCl ca9 rfl (zoR (b:=kb) (t:=tb) (w:=wb) (n:=nb) hT hk)) ?_;refine gz17 ?_;refine uCo (fun h1=> ?_) fun h2=> ?_
 obtain ⟨hz,hnm,hfb⟩:=zw2 (b:=kb) (n:=nb) (by first|(simp_all;done));have hnm1:0<=nb/\nb<=345686399999:=zeP (by unfold zL at hnm;simpa using hnm);refine gz1 ?_;refine dq (zaV (h:=zbg kb) za0 rfl rfl rfl rfl) ?_;refine gz1 ?_;refine dq (uCl ca18 rfl (zlB (b:=kb) (n:=nb) hla.pl (zlA hz).mo hnm1)) ?_;refine gz8 ?_;refine uCo (fun h3=> ?_) fun h4=> ?_
 have hzt:zd8 kb tb wb nb=0:=by first|(simp_all;done)
 obtain ⟨hbz,htc,hwk,hnm2⟩:=zps hzt;have hW:=zqX hbz;have hwl:(zf2 kb tb wb nb (zcT kb.Choices tb wb nb 345686400000)).length<=1000000:=by
  have q:=hW.sl
  cases zcT kb.Choices tb wb nb 345686400000 with
  |none=>simp [zf2]
  |some c=>have:=zdD kb (rPl (zah kb.League.Bounds kb.Moves nb) tb) c wb kb.League.Slots.length;unfold zf2;dsimp only;omega
 refine gz1 ?_;refine dq (zaV (h:=zbg kb) za0 rfl rfl rfl rfl) ?_;refine gz3 ?_;refine dq (uCl ca19 rfl (zgr (b:=kb) (t:=tb) (w:=wb) (n:=nb) hk hW hwk ht)) ?_;refine gz3 ?_
 focus first|(rw [hfb];have hfl:((zb0 kb.League.Bounds (zah kb.League.Bounds kb.Moves nb) nb (kb.League.Players.map (·.Key)))).length<=1000000:=by (have q:=zhS kb.League.Bounds (zah kb.League.Bounds kb.Moves nb) nb (kb.League.Players.map (·.Key));have q2:=hla.pl;simp only [Ag] at q;omega))|rw [show zem kb nb=[] by unfold zem;rw [if_pos (by first|assumption|(simp_all;done))]]
 first|rw [zhv (b:=kb) (t:=tb) (w:=wb) (n:=nb) (by first|assumption)]|(rw [show zf1 kb tb wb nb=(zf2 kb tb wb nb (zcT kb.Choices tb wb nb 345686400000)) by unfold zf1;rw [if_neg (fun q=>q hzt)]])
 refine gz7 ?_;refine uGr rfl (fun hc=>(by first|exact uCl zlU rfl (zaz (l:=(zb0 kb.League.Bounds (zah kb.League.Bounds kb.Moves nb) nb (kb.League.Players.map (·.Key)))) (m:=(zb0 kb.League.Bounds (zah kb.League.Bounds kb.Moves nb) nb (kb.League.Players.map (·.Key)))) hfl)|exact zef (hs':=[eSs [],eSs []]) zlU rfl ⟨Weak.refl _,zX 1,trivial⟩ (zaz (l:=[]) (m:=[]) (by simp)))) ?_;refine gz9 ?_;refine uGr rfl (fun hc=>(by first|exact uCl zlV rfl (zam (l:=(zf2 kb tb wb nb (zcT kb.Choices tb wb nb 345686400000))) hwl)|exact zef (hs':=[zeW [],zeW []]) zlV rfl ⟨Weak.refl _,zX 2,trivial⟩ (zam (l:=[]) (by simp)))) ?_;refine gz2 ?_;refine uGr rfl (fun hc=>uCl ztb rfl (zeH hT)) ?_;refine gz4 ?_;refine zB Ghost.clear rfl ⟨?_,rfl⟩
 show HVal.bool _=_
 focus first|rfl|(simp;done)|(simp_all;done)
 refine gz2 ?_
 focus first|(rw [hfb];have hfl:((zb0 kb.League.Bounds (zah kb.League.Bounds kb.Moves nb) nb (kb.League.Players.map (·.Key)))).length<=1000000:=by (have q:=zhS kb.League.Bounds (zah kb.League.Bounds kb.Moves nb) nb (kb.League.Players.map (·.Key));have q2:=hla.pl;simp only [Ag] at q;omega))|rw [show zem kb nb=[] by unfold zem;rw [if_pos (by first|assumption|(simp_all;done))]]
 first|rw [zhv (b:=kb) (t:=tb) (w:=wb) (n:=nb) (by first|assumption)]|(rw [show zf1 kb tb wb nb=(zf2 kb tb wb nb (zcT kb.Choices tb wb nb 345686400000)) by unfold zf1;rw [if_neg (fun q=>q hzt)]])
 refine gz7 ?_;refine uGr rfl (fun hc=>(by first|exact uCl zlU rfl (zaz (l:=(zb0 kb.League.Bounds (zah kb.League.Bounds kb.Moves nb) nb (kb.League.Players.map (·.Key)))) (m:=(zb0 kb.League.Bounds (zah kb.League.Bounds kb.Moves nb) nb (kb.League.Players.map (·.Key)))) hfl)|exact zef (hs':=[eSs [],eSs []]) zlU rfl ⟨Weak.refl _,zX 1,trivial⟩ (zaz (l:=[]) (m:=[]) (by simp)))) ?_;refine gz9 ?_;refine uGr rfl (fun hc=>(by first|exact uCl zlV rfl (zam (l:=(zf2 kb tb wb nb (zcT kb.Choices tb wb nb 345686400000))) hwl)|exact zef (hs':=[zeW [],zeW []]) zlV rfl ⟨Weak.refl _,zX 2,trivial⟩ (zam (l:=[]) (by simp)))) ?_;refine gz2 ?_;refine uGr rfl (fun hc=>uCl ztb rfl (zeH hT)) ?_;refine gz4 ?_;refine zB Ghost.clear rfl ⟨?_,rfl⟩
 show HVal.bool _=_
 focus first|rfl|(simp;done)|(simp_all;done)
 refine gz7 ?_;refine uCo (fun h5=> ?_) fun h6=> ?_
 have hzt:zd8 kb tb wb nb=0:=by first|(simp_all;done)
 obtain ⟨hbz,htc,hwk,hnm2⟩:=zps hzt;have hW:=zqX hbz;have hwl:(zf2 kb tb wb nb (zcT kb.Choices tb wb nb 345686400000)).length<=1000000:=by
  have q:=hW.sl
  cases zcT kb.Choices tb wb nb 345686400000 with
  |none=>simp [zf2]
  |some c=>have:=zdD kb (rPl (zah kb.League.Bounds kb.Moves nb) tb) c wb kb.League.Slots.length;unfold zf2;dsimp only;omega
 refine gz1 ?_;refine dq (zaV (h:=zbg kb) za0 rfl rfl rfl rfl) ?_;refine gz3 ?_;refine dq (uCl ca19 rfl (zgr (b:=kb) (t:=tb) (w:=wb) (n:=nb) hk hW hwk ht)) ?_;refine gz3 ?_
 focus first|(rw [hfb];have hfl:((zb0 kb.League.Bounds (zah kb.League.Bounds kb.Moves nb) nb (kb.League.Players.map (·.Key)))).length<=1000000:=by (have q:=zhS kb.League.Bounds (zah kb.League.Bounds kb.Moves nb) nb (kb.League.Players.map (·.Key));have q2:=hla.pl;simp only [Ag] at q;omega))|rw [show zem kb nb=[] by unfold zem;rw [if_pos (by first|assumption|(simp_all;done))]]
 first|rw [zhv (b:=kb) (t:=tb) (w:=wb) (n:=nb) (by first|assumption)]|(rw [show zf1 kb tb wb nb=(zf2 kb tb wb nb (zcT kb.Choices tb wb nb 345686400000)) by unfold zf1;rw [if_neg (fun q=>q hzt)]])
 refine gz7 ?_;refine uGr rfl (fun hc=>(by first|exact uCl zlU rfl (zaz (l:=(zb0 kb.League.Bounds (zah kb.League.Bounds kb.Moves nb) nb (kb.League.Players.map (·.Key)))) (m:=(zb0 kb.League.Bounds (zah kb.League.Bounds kb.Moves nb) nb (kb.League.Players.map (·.Key)))) hfl)|exact zef (hs':=[eSs [],eSs []]) zlU rfl ⟨Weak.refl _,zX 1,trivial⟩ (zaz (l:=[]) (m:=[]) (by simp)))) ?_;refine gz9 ?_;refine uGr rfl (fun hc=>(by first|exact uCl zlV rfl (zam (l:=(zf2 kb tb wb nb (zcT kb.Choices tb wb nb 345686400000))) hwl)|exact zef (hs':=[zeW [],zeW []]) zlV rfl ⟨Weak.refl _,zX 2,trivial⟩ (zam (l:=[]) (by simp)))) ?_;refine gz2 ?_;refine uGr rfl (fun hc=>uCl ztb rfl (zeH hT)) ?_;refine gz4 ?_;refine zB Ghost.clear rfl ⟨?_,rfl⟩
 show HVal.bool _=_
 focus first|rfl|(simp;done)|(simp_all;done)
 refine gz2 ?_
 focus first|(rw [hfb];have hfl:((zb0 kb.League.Bounds (zah kb.League.Bounds kb.Moves nb) nb (kb.League.Players.map (·.Key)))).length<=1000000:=by (have q:=zhS kb.League.Bounds (zah kb.League.Bounds kb.Moves nb) nb (kb.League.Players.map (·.Key));have q2:=hla.pl;simp only [Ag] at q;omega))|rw [show zem kb nb=[] by unfold zem;rw [if_pos (by first|assumption|(simp_all;done))]]
 first|rw [zhv (b:=kb) (t:=tb) (w:=wb) (n:=nb) (by first|assumption)]|(rw [show zf1 kb tb wb nb=(zf2 kb tb wb nb (zcT kb.Choices tb wb nb 345686400000)) by unfold zf1;rw [if_neg (fun q=>q hzt)]])
 refine gz7 ?_;refine uGr rfl (fun hc=>(by first|exact uCl zlU rfl (zaz (l:=(zb0 kb.League.Bounds (zah kb.League.Bounds kb.Moves nb) nb (kb.League.Players.map (·.Key)))) (m:=(zb0 kb.League.Bounds (zah kb.League.Bounds kb.Moves nb) nb (kb.League.Players.map (·.Key)))) hfl)|exact zef (hs':=[eSs [],eSs []]) zlU rfl ⟨Weak.refl _,zX 1,trivial⟩ (zaz (l:=[]) (m:=[]) (by simp)))) ?_;refine gz9 ?_;refine uGr rfl (fun hc=>(by first|exact uCl zlV rfl (zam (l:=(zf2 kb tb wb nb (zcT kb.Choices tb wb nb 345686400000))) hwl)|exact zef (hs':=[zeW [],zeW []]) zlV rfl ⟨Weak.refl _,zX 2,trivial⟩ (zam (l:=[]) (by simp)))) ?_;refine gz2 ?_;refine uGr rfl (fun hc=>uCl ztb rfl (zeH hT)) ?_;refine gz4 ?_;refine zB Ghost.clear rfl ⟨?_,rfl⟩
 show HVal.bool _=_
 focus first|rfl|(simp;done)|(simp_all;done)
end
end Go.Proofs.YtahegdhbakjdoaaGreatDoor
namespace Go.HL
section
open Go
theorem zun {P:Program} (h:P.funcs.toList.any Func.goes=false) (f:FuncId):P.goes f=false:=by
 have hf: ∀g:Nat,(P.funcs[g]?).any Func.goes=false:=fun g=>by
  cases hg:P.funcs[g]? with
  |none=>rfl
  |some fn=>
    have:fn∈P.funcs.toList:=by
     obtain ⟨hlt,rfl⟩:=Array.getElem?_eq_some_iff.1 hg
     simp
    have:=List.any_eq_false.1 h fn this
    simpa using this
 have ha:P.funcs.any Func.goes=false:=by rw [<-Array.any_toList];exact h
 unfold Program.goes;rw [ha,Bool.and_false,Bf];rw [List.any_eq_false]
 intro g _
 rw [hf g];simp
theorem goesBy_none {P:Program} {c:OpenClaim} (h:P.funcs.toList.any Func.goes=false):false=c.goesBy P:=by
 have hg:=zun h;unfold OpenClaim.goesBy Program.goesAt Program.goesFrom;have h1:(P.funcNamed c.func).any P.goes=false:=by
  cases P.funcNamed c.func with
  |none=>rfl
  |some f=>exact hg f
 have h2:P.inits.toList.any P.goes=false:=List.any_eq_false.2 fun x _=>by rw [hg x];simp
 rw [h1]
 cases c.start<;>simp [h2,hg]
end
section
open Go
theorem zqp {H:Type} {enc:TypeId×Value->H} {a:Assume} {C:Checked} {os:Os} {f:FuncId} {fn:Func} {s:ChangeSpec} {conds:List PathCond} {apart fresh handsOn again:Bool} {X:World->Array Value->Prop}
 (hX: ∀(w w':World) (args:Array Value),w.heap=w'.heap->X w args->X w' args)
 (own:ownKnob C.prog.godebug=none) (started:os.Started) (noInit:C.prog.inits.idxOf? f=none) (hfn:C.prog.funcs[f]? =some fn)
 (witness: ∃(w:World) (tape:Tape) (i:Input),w.os=os/\(w.forCall tape i).Shaped C.prog/\i.vars=[]/\Input.okWide C.prog (w.forCall tape i) .any w.heap.size f i/\
   ((s.pre enc C.prog fn conds apart (w.forCall tape i).memory i.args/\X (w.forCall tape i).memory i.args)/\sizedMet enc C.prog fn (OpenSpec.ofChange s) apart (w.forCall tape i).memory i.args)/\a.holds C.prog (lone (Frame.enter C.prog f i.args .normal) [] (w.forCall tape i)))
 (contract: ∀(W:World) (base:Nat) (args:Array Value) (ds gs:List (DataW H)) (before:List MemPlace),
   (∀(j:Nat) t v,fn.params[j]? =some t->args[j]? =some v->Value.okWide C.prog W .any base t v)->DataW.Whole enc C.prog fn.params.toList s.vars apart W args.toList ds gs before->
   X W args->W.ShapedOpen C.prog->Calls C.prog f args W fun e W'=> ∃v,e= .returned v/\s.post enc C.prog fn apart fresh handsOn again W args v W'):
 ReturnsInHanded a C os f .any (fun w args=>(s.pre enc C.prog fn conds apart w args/\X w args)/\sizedMet enc C.prog fn (OpenSpec.ofChange s) apart w args) (s.post enc C.prog fn apart fresh handsOn again):=by
 refine returnsInHanded_of_calls own started noInit witness fun w tape i _ hsh _ hok hpre _=> ?_
 obtain ⟨_,_,_,fn',hfn',_,_,_,_,hval⟩:=hok;obtain rfl:fn'=fn:=Av (hfn'.symm.trans hfn);obtain ⟨⟨⟨ds,gs,before,hw,_⟩,hx⟩,_⟩:=hpre;refine (contract (w.forCall tape i) w.heap.size i.args ds gs before hval (DataW.Whole.of_heap (w':=w.forCall tape i) (by rfl) hw) (hX _ _ _ (by rfl) hx) hsh).mono fun e W' ⟨v,he,hp⟩=> ?_
 subst he;exact ChangeSpec.post_blind hp
end
section
open Go.Sort Go.Proofs Go.RowKit Go.Lib
variable {P:Program}
theorem zrV {W:World} {laid:List (String×DataW Unit)} {i3 i4 g3 g4 t5 t119 t138 t139:Nat} {fs:Array Field} (h:laidMet P laid W)
 (e3:laid[i3]? =some ("unicode/utf8.first",firstData)) (e4:laid[i4]? =some ("unicode/utf8.acceptRanges",acceptData))
 (n3:P.globalNamed "unicode/utf8.first" =some g3) (n4:P.globalNamed "unicode/utf8.acceptRanges" =some g4) (y3:(P.globals[g3]?).map (·.type)=some t119) (y4:(P.globals[g4]?).map (·.type)=some t139)
 (u5:P.underlying t5=some (.int .u8)) (u119:P.underlying t119=some (.array 256 t5)) (u138:P.underlying t138=some (.struct fs)) (u139:P.underlying t139=some (.array 16 t138))
 (c5:P.cellsOf t5=1) (c119:P.cellsOf t119=256) (c138:P.cellsOf t138=2) (hs:fs.size=2) (hf:(fs.toList.map fun f=>(f.type,f.offset))=[(t5,0),(t5,1)]):
 (∀c,c<256->W.cell? ⟨g3,c,none⟩=some (.int .u8 (Lib.firstT c)))/\(∀i,i<16->W.cell? ⟨g4,2*i,none⟩=some (.int .u8 (Lib.accLo i))/\W.cell? ⟨g4,2*i+1,none⟩=some (.int .u8 (Lib.accHi i))):=by
 obtain ⟨ps,h1,_⟩:=h;have h3:VarReads P W "unicode/utf8.first" firstData:=zpb h1 i3 e3;have h4:VarReads P W "unicode/utf8.acceptRanges" acceptData:=zpb h1 i4 e4;refine ⟨fun c hc=> ?_,fun i hi=> ?_⟩
 obtain ⟨g,t,cs,fuel,p,hg,hty,hvar,hd⟩:=h3;obtain rfl:=Av (n3.symm.trans hg);obtain rfl:=Av (y3.symm.trans hty);have hcs:=cells_of_tab u119 u5 c5 c119 hd;have:=World.var?_cell hg hvar c;rw [this,<-AU,hcs]
 simp [firstTab,hc]
 obtain ⟨g,t,cs,fuel,p,hg,hty,hvar,hd⟩:=h4;obtain rfl:=Av (n4.symm.trans hg);obtain rfl:=Av (y4.symm.trans hty);obtain ⟨fuel',d,q,hdi,he⟩:=array_elem u139 hd i hi;simp only [Aj,BE hi,AM,Az] at hdi;subst hdi;rw [c138] at he;have hcs:=ints_of_struct u138 (fun j f hj=>by
  have hq:(fs.toList.map fun f=>(f.type,f.offset))[j]? =some (f.type,f.offset):=by rw [Aj,AU,hj];rfl
  rw [hf] at hq
  match j,hq with
  |0,hq=>simp at hq;exact ⟨by rw [<-hq.1];exact u5,hq.2.symm,by rw [<-hq.1];exact c5⟩
  |1,hq=>simp at hq;exact ⟨by rw [<-hq.1];exact u5,hq.2.symm,by rw [<-hq.1];exact c5⟩
  |j+2,hq=>simp at hq) (by rw [c138,hs]) he
 have a0:=congrArg (·[0]?) hcs;have a1:=congrArg (·[1]?) hcs;simp only [A9,AH] at a0 a1
 constructor
 rw [World.var?_cell hg hvar (2*i),<-AU]
 simpa [BD] using a0
 rw [World.var?_cell hg hvar (2*i+1),<-AU]
 simpa [BD] using a1
theorem zrR [Tracks] {W:World} (hp:P.globalNamed "internal/strconv.uint64pow10" =none)
 (hl: ∀g,P.globalNamed "internal/bytealg.MaxLen" =some g->∃m,W.cell? ⟨g,0,none⟩=some (.int .i64 m))
 (hu: ∀g3 g4,P.globalNamed "unicode/utf8.first" =some g3->P.globalNamed "unicode/utf8.acceptRanges" =some g4->(∀c,c<256->W.cell? ⟨g3,c,none⟩=some (.int .u8 (Lib.firstT c)))/\(∀i,i<16->W.cell? ⟨g4,2*i,none⟩=some (.int .u8 (Lib.accLo i))/\W.cell? ⟨g4,2*i+1,none⟩=some (.int .u8 (Lib.accHi i)))):TabI P (zci W):=by
 refine ⟨fun g hg=>(by rw [hp] at hg;cases hg),fun g hg=> ?_,fun g3 g4 h3 h4=> ?_⟩
 obtain ⟨m,hm⟩:=hl g hg;unfold World.cell? at hm
 cases hh:W.heap[g]? with
 |none=>rw [hh] at hm;cases hm
 |some o=>
   rw [hh] at hm
   cases o with
   |cells c t fr=>exact ⟨c,t,fr,m,hh,by simpa using hm⟩
   |_=>cases hm
 obtain ⟨u1,u2⟩:=hu g3 g4 h3 h4;have key: ∀(g:Nat) (v:Value),W.cell? ⟨g,0,none⟩=some v->∃c t fr,W.heap[g]? =some (.cells c t fr):=fun g v hv=>by
  unfold World.cell? at hv
  cases hh:W.heap[g]? with
  |none=>rw [hh] at hv;cases hv
  |some o=>
    rw [hh] at hv
    cases o with
    |cells c t fr=>exact ⟨c,t,fr,rfl⟩
    |_=>cases hv
 obtain ⟨c3,t3,f3,x3⟩:=key g3 _ (u1 0 (by omega));obtain ⟨c4,t4,f4,x4⟩:=key g4 _ (u2 0 (by omega)).1;refine ⟨c3,t3,f3,c4,t4,f4,x3,x4,fun k hk=> ?_,fun i hi=> ?_⟩
 rw [<-zb3 x3];exact u1 k hk;exact ⟨by rw [<-zb3 x4];exact (u2 i hi).1,by rw [<-zb3 x4];exact (u2 i hi).2⟩
end
end Go.HL
