/- Part 4 of the proof: a program logic, contracts of functions and plain facts; no conditions. -/
import Derived.Test.YtahegdhbakjdoaaGreatDoorQTeamsWatched3
import Derived.OrdersIn
import Derived.RangeFuncCalls
import Derived.RangeFuncLeaves
import Derived.RangeFuncRecord
import Derived.Shelf.SlMaps.Clone
import Derived.Sort.LoopGhostIn
set_option linter.unusedVariables false
set_option linter.unusedSimpArgs false
set_option maxHeartbeats 16000000
namespace Go.Proofs.YtahegdhbakjdoaaGreatDoor
set_option maxRecDepth 100000
set_option linter.unusedVariables false
set_option linter.unusedSimpArgs false
section
open Go.Proofs.Tryz
open Go.HL
theorem zjK [Tracks] {l:List Int} {z:Int} (hl:l.length<=1000000):ConP prog 269 [.slice 1 (l.map (.int .i64)),.int .i64 z] (.int .i64 (zag (· ==z) l 0)):=by
 refine uOb func269 ntmps269 ?_;refine zaD ?_;refine uT1 [4,2,8,11] (fun k=>[(8,.int .i64 k)]) (fun k=>[]) (fun k=>k<=l.length/\(zag (· ==z) l 0=zag (· ==z) (l.drop k) k)) (fun k=>l.length-k) (0) ?_ ?_;exact ⟨Ad _,rfl⟩;rintro k ⟨hk,hg⟩;refine gz4 ?_;refine uCo (fun h1=> ?_) fun h2=> ?_
 obtain ⟨x,hx⟩: ∃x,l[k]? =some x:=⟨_,Aa h1⟩
 have hdx:=zt hx;rw [hdx] at hg;refine zrj ?_;refine uCo (fun h3=> ?_) fun h4=> ?_
 refine gz5 ?_;refine uRp ?_
 (rw [hg];simp_all [zag])
 refine gz7 ?_;refine ⟨k+1,?_,?_,⟨rfl,trivial⟩,uK,Ab _⟩
 refine ⟨by omega,?_⟩
 rw [hg,zag,if_neg (by simp_all;try omega)];rfl
 dsimp only;omega
 have hnk:l.length<=k:=by omega
 obtain rfl:k=l.length:=by omega
 rw [zP (Af _)] at hg;refine gz2 ?_;refine zG ?_;refine gz6 ?_;refine uRp ?_
 (rw [hg];rfl)
theorem zfc [Tracks] {l:List Int} {z:Int} (hl:l.length<=1000000):ConP prog 214 [.slice 1 (l.map (.int .i64)),.int .i64 z] (.bool (l.contains z)):=by
 refine uOb func214 ntmps214 ?_;refine gz6 ?_;refine dq (uCl zzR rfl (zjK (by assumption))) ?_;refine gz4 ?_;refine zC rfl ?_
 show HVal.bool _=_
 rw [zqn,<-zed _ l 0 uO]
theorem zc2 [Tracks] {n:Int}:ConP prog 17 [.int .i64 n] (.int .i64 (if zbc n then 0 else 1)):=by
 refine uOb func17 ntmps17 ?_;refine gz5 ?_;refine dq (uCl ca39 rfl zgq) ?_;refine gz3 ?_;refine uRp ?_;unfold zbc
 cases out n 1 60<;>rfl
theorem zj2 [Tracks] {p:Play} (hgp:zc1 p):ConP prog 136 [zav p] (.int .i64 (playFault p)):=by
 refine uOb func136 ntmps136 ?_;refine gz9 ?_;refine dq (uCl zic rfl (zbH hgp.1)) ?_;refine gz3 ?_;refine uCo (fun h1=> ?_) fun h2=> ?_
 refine gz4 ?_;refine uRp ?_
 simp_all [playFault]
 refine gz3 ?_;refine dq (uCl znn rfl zcD) ?_;refine gz4 ?_;refine uGr rfl (fun hc=>uCl zo0 rfl zbt) ?_;refine gz5 ?_;refine uGr rfl (fun hc=>uCl zs6 rfl zc2) ?_;refine gz4 ?_;refine uCo (fun h3=> ?_) fun h4=> ?_
 refine gz4 ?_;refine uRp ?_
 simp_all [playFault]
 refine gz3 ?_;refine dq (uCl zic rfl (zbH hgp.2.1)) ?_;refine gz4 ?_;refine uGr rfl (fun hc=>uCl zic rfl (zbH hgp.2.2.1)) ?_;refine gz5 ?_;refine uGr rfl (fun hc=>uCl zic rfl (zbH hgp.2.2.2)) ?_;refine gz4 ?_;refine uCo (fun h5=> ?_) fun h6=> ?_
 refine gz4 ?_;refine uRp ?_
 simp_all [playFault]
 refine gz3 ?_;refine dq (uCl znn rfl zcD) ?_;refine gz6 ?_;have hN:=zeP (n:=p.No) (lo:=1) (hi:=3000) uSa;refine gz1 ?_;refine uGr rfl (fun hc=>uCl znn rfl zcD) ?_;refine gz4 ?_;refine uCo (fun h7=> ?_) fun h8=> ?_
 refine gz4 ?_;refine uRp ?_
 simp_all [playFault]
 refine zc8 ?_;refine uCo (fun h9=> ?_) fun h10=> ?_
 refine gz4 ?_;refine uRp ?_
 simp_all [playFault]
 refine gz7 ?_;refine uRp ?_
 simp_all [playFault]
theorem zlD [Tracks] {a b:Play}:ConP prog 137 [zav a,zav b] (.int .i64 (byNo a b)):=by
 refine uOb func137 ntmps137 ?_;refine gz5 ?_;refine uDr mixed ?_;refine gz4 ?_;refine uB 4 rfl (uCl zcJ rfl zZ) ?_;refine gz4 ?_;refine uB 9 rfl (uCl zdF rfl zae) ?_;refine uB 10 rfl (za (hs:=[_,_]) zad ty3 rfl rfl (by decide) (by decide) rfl) ?_;refine uB 11 rfl (uCl zgP rfl (zbO (l:=[_,_]) (by simp))) ?_;refine gz3 ?_;refine zC rfl ?_
 rfl
theorem zjB [Tracks] {l:List Play} (hl:l.length<=1000000) (hgl: ∀x∈l,zc1 x):ConP prog 61 [zcV l] (.int .i64 (zf8 l)):=by
 refine uOb func61 ntmps61 ?_;refine gz9 ?_;refine uCo (fun h1=> ?_) fun h2=> ?_
 refine gz4 ?_;refine zB Ghost.clear rfl ⟨?_,rfl⟩
 show HVal.int .i64 _=_
 (rw [zf8,if_pos uO])
 refine gz3 ?_;refine de rfl (zbP fun m12=> ?_)
 refine de rfl (zbP fun m13=> ?_)
 refine zfW ?_;refine uT1 [2,1,5,4,16,48] (fun k=>[(16,.int .i64 k),(5,.bool (zbn (l.take k)).c)]) (fun k=>[.map m13 (sk (em (.int .i64) (zbn (l.take k)).W)),.map m12 (sk (zev (zbn (l.take k)).S))]) (fun k=>k<=l.length/\(zcx l 0 l=zcx l k (l.drop k)/\∀y∈l.take k,playFault y=0)) (fun k=>l.length-k) (0) ?_ ?_;exact ⟨Ad _,rfl,by simp⟩;rintro k ⟨hk,hg,hok⟩;refine gz4 ?_;refine uCo (fun h3=> ?_) fun h4=> ?_
 obtain ⟨x,hx⟩: ∃x,l[k]? =some x:=⟨_,Aa h3⟩
 have hdx:=zt hx;rw [hdx] at hg;refine gz8 ?_;refine de rfl (zq zdP rfl fun b7=> ?_)
 refine gz1 ?_;refine de0 (zz zdP rfl rfl rfl rfl rfl ?_)
 refine gz1 ?_;refine zl (zD 7 rfl) ?_;refine gz3 ?_;refine dq (uCl zyP rfl (zj2 (hgl x (Ac hx)))) ?_;refine gz6 ?_;refine uCo (fun h5=> ?_) fun h6=> ?_
 refine gz5 ?_;refine zB Ghost.clear rfl ⟨?_,rfl⟩
 show HVal.int .i64 _=_
 (rw [zjv uO (by rw [hg,zcx,if_pos (by simpa using h5)]) (by simpa using h5)])
 refine gz3 ?_;refine uDr mixed ?_;refine gz6 ?_;refine uGy 6 rfl rfl (fun hc=>by have hq:=hc;(try simp at hq);exact zK (j:=k-1) (a:=l.getD (k-1) zox) zi1 zdP rfl rfl uO (getD_some uO)) ?_;refine gz2 ?_;refine uGy 9 rfl rfl (fun hc=>uCl zyQ rfl zlD) ?_;refine gz3 ?_;refine uCo (fun h7=> ?_) fun h8=> ?_
 refine gz4 ?_;refine zB Ghost.clear rfl ⟨?_,rfl⟩
 show HVal.int .i64 _=_
 (rw [zjv (c:=7) uO (by rw [hg,zcx,if_neg (by simpa using h6),if_pos (by obtain ⟨qa,qb⟩:=h7;have qb':0<=byNo (l.getD (k-1) zox) x:=(by simpa using qb);rw [zpy];exact ⟨by omega,by omega⟩)]) (by decide)])
 refine gz6 ?_;refine de0 (zkf (i:=1) zqG ty9 rfl rfl rfl rfl ?_)
 refine gz7 ?_;refine dgl rfl rfl (fun hc=>⟨_,OpenTo.upd (t:=45) rfl (hc) (OpenTo.upd (t:=43) rfl (hc) (OpenTo.refl _)),ze3 (i:=0) (z0:=(0:Int)) zfM ty9 ty3 rfl rfl rfl rfl ⟨rfl,rfl⟩⟩) ?_;refine gz5 ?_;refine dgl rfl rfl (fun hc=>⟨_,OpenTo.upd (t:=51) rfl (hc) (OpenTo.upd (t:=49) rfl (hc) (OpenTo.refl _)),ze3 (i:=0) (z0:=(0:Int)) zfM ty9 ty3 rfl rfl rfl rfl ⟨rfl,rfl⟩⟩) ?_;refine zfW ?_;refine de0 (zck (i:=0) zfM ty9 rfl rfl rfl rfl ?_)
 refine gz7 ?_;refine ⟨k+1,⟨by omega,?_,?_⟩,uD,⟨rfl,?_,trivial⟩,uK,?_⟩
 rw [hg,zk0 (by simpa using h6) (fun hk0=>by have hz:=h8;rw [zpy] at hz;simp_all;try omega)]
 intro y hy
 rw [za1 hx] at hy
 rcases List.mem_append.1 hy with hy|hy
 exact hok y hy;rw [List.mem_singleton.1 hy];simpa using h6;rw [zeK hx,<-zwV hok];exact congrArg (fun b=>some (HVal.bool b)) (by cases (zbn (l.take k)).c<;>simp);exact zg (by dsimp only;rw [zeK hx];rfl);have hnk:l.length<=k:=by omega
 obtain rfl:k=l.length:=by omega
 rw [zP (Af _)] at hg;rw [Aw];refine gz2 ?_;refine zG ?_;refine gz4 ?_;have e1:(sk (zev (zbn l).S)).length=(zbn l).S.length:=by simp [sk,zev]
 have e2:(sk (em (HVal.int .i64) (zbn l).W)).length=(zbn l).W.length:=by simp [sk]
 refine gz2 ?_;refine de rfl (zid (i:=1) zqG rfl rfl ?_)
 refine gz3 ?_;refine dgl rfl rfl (fun hc=>⟨_,OpenTo.upd (t:=69) rfl (hc) (OpenTo.refl _),zid (i:=0) zfM rfl rfl ⟨rfl,rfl⟩⟩) ?_;refine gz4 ?_;refine uCo (fun h9=> ?_) fun h10=> ?_
 refine gz4 ?_;refine zB Ghost.clear rfl ⟨?_,rfl⟩
 show HVal.int .i64 _=_
 (rw [ze5 uO hg,zeE,if_pos uO])
 refine gz4 ?_;refine uCo (fun h11=> ?_) fun h12=> ?_
 refine gz4 ?_;refine zB Ghost.clear rfl ⟨?_,rfl⟩
 show HVal.int .i64 _=_
 (rw [ze5 uO hg,zeE,if_neg uO,if_pos (by assumption)])
 refine gz7 ?_;refine zB Ghost.clear rfl ⟨?_,rfl⟩
 show HVal.int .i64 _=_
 (rw [ze5 uO hg,zeE,if_neg uO,if_neg uSa])
theorem zjC [Tracks] {l:List Str} (hl:l.length<=1000000) (hs: ∀s∈l,Sh s):ConP prog 132 [eSs l] (.int .i64 (zeZ l)):=by
 refine uOb func132 ntmps132 ?_;refine gz9 ?_;refine uCo (fun h1=> ?_) fun h2=> ?_
 refine gz4 ?_;refine uRp ?_
 (rw [zeZ,if_pos uO])
 refine gz9 ?_;refine uT1 [2,3,10,16] (fun k=>[(10,.int .i64 k)]) (fun k=>[]) (fun k=>k<=l.length/\(zeZ l=zdU l k (l.drop k))) (fun k=>l.length-k) (0) ?_ ?_;refine ⟨Ad _,?_⟩
 rw [zeZ,if_neg uO];rfl;rintro k ⟨hk,hg⟩;refine gz4 ?_;refine uCo (fun h3=> ?_) fun h4=> ?_
 obtain ⟨x,hx⟩: ∃x,l[k]? =some x:=⟨_,Aa h3⟩
 have hdx:=zt hx;rw [hdx] at hg;refine zeu ?_;refine dq (uCl zic rfl (zbH (hs x (Ac hx)))) ?_;refine gz3 ?_;refine uCo (fun h5=> ?_) fun h6=> ?_
 refine gz4 ?_;refine uRp ?_
 (rw [hg];simp_all [zdU])
 refine gz3 ?_;refine dq (za9 zu ty9 rfl rfl ⟨_,_,rfl,rfl⟩ uO uO) ?_;refine gz1 ?_;refine dq (uCl zfU rfl (zH uSo)) ?_;refine gz2 ?_;refine uCo (fun h7=> ?_) fun h8=> ?_
 refine gz4 ?_;refine uRp ?_
 (rw [hg];simp_all [zdU])
 refine gz8 ?_;refine ⟨k+1,?_,?_,⟨rfl,trivial⟩,uK,Ab _⟩
 refine ⟨by omega,?_⟩
 rw [hg];simp_all [zdU]
 dsimp only;omega
 have hnk:l.length<=k:=by omega
 obtain rfl:k=l.length:=by omega
 rw [zP (Af _)] at hg;refine gz2 ?_;refine zG ?_;refine gz6 ?_;refine uRp ?_
 (rw [hg];simp_all [zdU])
end
end Go.Proofs.YtahegdhbakjdoaaGreatDoor
namespace Go.HL
section
open Go.Proofs Go.Shelf
variable {P:Program}
end
section

end
section
section
variable {P:Program}
end
section
variable {P:Program} {e:Env} {dst:Option Tmp} {ty:TypeId} {pos:String} {af:Array Edge} {g:Option (Nat×Bool)}
end
end
section
section
variable {P:Program}
end
end
end Go.HL
namespace Go.Proofs.YtahegdhbakjdoaaGreatDoor
set_option maxRecDepth 100000
set_option linter.unusedVariables false
set_option linter.unusedSimpArgs false
section
open Go.HL
set_option linter.unusedSimpArgs false
end
section
open Go.HL
set_option linter.unusedSimpArgs false
end
section
open Go.HL
set_option linter.unusedSimpArgs false
end
section
open Go.HL
set_option linter.unusedSimpArgs false
end
section
open Go.Proofs.Tryz
open Go.HL
theorem zni [Tracks] {a b:MendS}:ConP prog 219 [zco a,zco b] (.int .i64 (zeG a b)):=by
 refine uOb func219 ntmps219 ?_;refine gz5 ?_;refine uDr mixed ?_;refine gz4 ?_;refine uB 4 rfl (uCl zcJ rfl zZ) ?_;refine gz4 ?_;refine uB 9 rfl (uCl zdF rfl zae) ?_;refine gz4 ?_;refine uB 14 rfl (uCl zcJ rfl zZ) ?_;refine gz4 ?_;refine uB 19 rfl (uCl zdF rfl zae) ?_;refine uB 20 rfl (za (hs:=[_,_,_,_]) zad ty3 rfl rfl (by decide) (by decide) rfl) ?_;refine uB 21 rfl (uCl zgP rfl (zbO (l:=[_,_,_,_]) (by simp))) ?_;refine gz3 ?_;refine zC rfl ?_
 rfl
theorem zmQ [Tracks] {m:List MendS} (hl:m.length<=1000000):ConP prog 143 [zcU m] (.int .i64 (zeY m)):=by
 refine uOb func143 ntmps143 ?_;refine gz9 ?_;refine uCo (fun h1=> ?_) fun h2=> ?_
 ·refine gz4 ?_;refine uRp ?_
  (rw [zeY,if_pos uO];done)
 ·refine gz9 ?_;refine uT1 [2,3,10,57] (fun k=>[(10,.int .i64 k)]) (fun k=>[]) (fun k=>k<=m.length/\(zdX zaO zeG zep m 0 m=zdX zaO zeG zep m k (m.drop k))) (fun k=>m.length-k) (0) ?_ ?_
  ·exact ⟨Ad _,rfl⟩
  ·rintro k ⟨hk,hg⟩;refine gz4 ?_;refine uCo (fun h3=> ?_) fun h4=> ?_
   ·obtain ⟨x,hx⟩: ∃x,m[k]? =some x:=⟨_,Aa h3⟩
    have hdx:=zt hx;rw [hdx] at hg;refine gz8 ?_;refine de rfl (zq zg6 rfl fun b4=> ?_)
    refine gz1 ?_;refine de0 (zz zg6 rfl rfl rfl rfl rfl ?_)
    refine gz1 ?_;refine zl (zD 4 rfl) ?_;refine gz4 ?_;refine dq (uCl zdL rfl zaH) ?_;refine gz4 ?_;refine uGr rfl (fun hc=>uCl zdL rfl zaH) ?_;refine gz5 ?_;refine uGr rfl (fun hc=>uCl zdL rfl zaH) ?_;refine gz4 ?_;refine uCo (fun h5=> ?_) fun h6=> ?_
    ·refine gz4 ?_;refine uRp ?_
     (refine congrArg _ (zjt (c:=5) uO hg (by decide) ?_)
      rw [zaO,if_pos]
      simp_all
      done)
    ·refine gz3 ?_;refine dq (uCl zlX rfl zdj) ?_;refine gz4 ?_;refine uGr rfl (fun hc=>uCl zc3 rfl zaM) ?_;refine gz4 ?_;refine uGr rfl (fun hc=>uCl ziL rfl zbA) ?_;refine gz5 ?_;refine uGr rfl (fun hc=>uCl zc3 rfl zaM) ?_;refine gz3 ?_;refine uCo (fun h7=> ?_) fun h8=> ?_
     ·refine gz4 ?_;refine uRp ?_
      (refine congrArg _ (zjt (c:=1) uO hg (by decide) ?_)
       rw [zaO,if_neg,if_pos]
       all_goals simp_all
       done)
     ·refine uDr mixed ?_;refine gz7 ?_;refine uGy 7 rfl rfl (fun hc=>by have hq:=hc;(try simp at hq);exact zK (j:=k-1) (a:=m.getD (k-1) zep) zlb zg6 rfl rfl uO (getD_some uO)) ?_;refine gz1 ?_;refine uGy 9 rfl rfl (fun hc=>uCl zzw rfl zni) ?_;refine gz4 ?_;refine uCo (fun h9=> ?_) fun h10=> ?_
      ·refine gz4 ?_;refine uRp ?_
       (refine congrArg _ (zpX uO hg ?_ ?_ ?_)
        ·rw [zaO,if_neg,if_neg]<;>simp_all
        ·simp_all
        ·simp_all)
      ·refine gz8 ?_;refine ⟨k+1,?_,?_,⟨rfl,trivial⟩,uK,Ab _⟩
       ·refine ⟨by omega,?_⟩
        rw [hg,zq4 (by rw [zaO,if_neg uSa,if_neg uSa]) (by intro hk0;simp_all;try omega)]
       ·dsimp only;omega
   ·have hnk:m.length<=k:=by omega
    obtain rfl:k=m.length:=by omega
    rw [zP (Af _)] at hg;refine gz2 ?_;refine zG ?_;refine gz6 ?_;refine uRp ?_
    (rw [zeY,if_neg uO,hg];rfl)
end
section
open Go.Proofs.Tryz
open Go.HL
theorem zwL [Tracks]:KeyOk prog 319 ztm:=zl9 (cs:=fun x:Num=>zd (ztm x)) zoI zz9 (fun x y=>⟨rfl,⟨_,_,_,_,ty9,rfl⟩,⟨rfl,⟨_,_,_,_,ty3,rfl⟩,trivial⟩⟩)
 (fun x y=>by obtain ⟨a,b⟩:=x;obtain ⟨c,d⟩:=y;show (_&&(_&&true))=_;rw [AL];simp [eqH,Prod.mk.injEq]) (fun x=>rfl)
theorem zlM [Tracks] {T:List Str} {l:List GameS} (hT:T.length<=1000000) (hl:l.length<=1000000) (hb:(∀x∈l,((-1000000000<=x.FNum/\x.FNum<=1000000000)/\ -1000000000<=x.FDen/\x.FDen<=1000000000)/\((-1000000000<=x.ONum/\x.ONum<=1000000000)/\ -1000000000<=x.ODen/\x.ODen<=1000000000))):ConP prog 181 [eSs T,zkd l] (.int .i64 (zfV T l)):=by
 refine uOb func181 ntmps181 ?_;refine gz6 ?_;refine dq (uCl zzF rfl (zlN hT)) ?_;refine gz6 ?_;refine uCo (fun h1=> ?_) fun h2=> ?_
 ·refine gz5 ?_;refine zB Ghost.clear rfl ⟨?_,rfl⟩
  show HVal.int .i64 _=_
  try rw [hE]
  (rw [zfV,if_pos (by assumption)];done)
 ·refine gz3 ?_;have hz:zcX T=0:=by first|assumption|simp_all
  have hE:zfV T l=zec T l:=by rw [zfV,if_neg (by simp [hz])]
  refine gz5 ?_;refine uCo (fun h3=> ?_) fun h4=> ?_
  ·refine gz4 ?_;refine zB Ghost.clear rfl ⟨?_,rfl⟩
   show HVal.int .i64 _=_
   try rw [hE]
   (refine congrArg _ (zdR (zcw ?_) (by decide))
    omega)
  ·refine gz3 ?_;refine de rfl (zbP fun m22=> ?_)
   refine zaD ?_;refine uV1 [4,1,7,4,12,2,25,70] (fun (k:Nat)=>[(25,.int .i64 k),(7,.bool (ziM l k))]) (fun (k:Nat)=>[.map m22 (kk ztm (em HVal.bool (zil (l.take k))))]) (fun (k:Nat)=>k<=l.length/\(za4 (zcp T) zeo l 0 l=za4 (zcp T) zeo l k (l.drop k))) (fun (k:Nat)=>l.length-k) (0) ?_ ?_ ?_ ?_
   ·exact ⟨Ad _,rfl⟩
   ·exact ⟨rfl,rfl,trivial⟩
   ·exact zg rfl
   ·intro k hinv
    obtain ⟨hk,hg⟩:=hinv;refine gz4 ?_;refine uCo (fun h5=> ?_) fun h6=> ?_
    ·obtain ⟨x,hx⟩: ∃x,l[k]? =some x:=⟨_,Aa h5⟩
     have hdx:=zt hx;rw [hdx] at hg;refine gz6 ?_;refine dq (zK zfy zb6 rfl rfl rfl (by assumption)) ?_;refine gz1 ?_;refine de rfl (zq zb6 rfl fun b9=> ?_)
     refine gz1 ?_;refine de0 (zz zb6 rfl rfl rfl rfl rfl ?_)
     refine gz1 ?_;refine zl (zD 9 rfl) ?_;refine gz5 ?_;refine dq (uCl zlX rfl zdj) ?_;refine gz3 ?_;refine uCo (fun h7=> ?_) fun h8=> ?_
     ·refine gz4 ?_;refine zB Ghost.clear rfl ⟨?_,rfl⟩
      show HVal.int .i64 _=_
      try rw [hE]
      (refine congrArg _ (zdR (e:=1) (zJ ?_ hg ?_ ?_) ?_)
       ·omega
       ·unfold zcp
        simp_all
        done
       ·first|decide|assumption
       ·first|decide|assumption)
     ·refine gz4 ?_;refine dq (uCl zfU rfl (zH (l:=T) (s:=x.Home) uO)) ?_;refine gz5 ?_;refine uGr rfl (fun hc=>by have hq:=hc;(try simp at hq);exact uCl zfU rfl (zH (l:=T) (s:=x.Away) uO)) ?_;refine gz4 ?_;refine uCo (fun h9=> ?_) fun h10=> ?_
      ·refine gz4 ?_;refine zB Ghost.clear rfl ⟨?_,rfl⟩
       show HVal.int .i64 _=_
       try rw [hE]
       (refine congrArg _ (zdR (e:=8) (zJ ?_ hg ?_ ?_) ?_)
        ·omega
        ·unfold zcp
         simp_all
         done
        ·first|decide|assumption
        ·first|decide|assumption)
      ·refine gz8 ?_;refine uCo (fun h11=> ?_) fun h12=> ?_
       ·refine gz4 ?_;refine zB Ghost.clear rfl ⟨?_,rfl⟩
        show HVal.int .i64 _=_
        try rw [hE]
        (refine congrArg _ (zdR (e:=6) (zJ ?_ hg ?_ ?_) ?_)
         ·omega
         ·unfold zcp
          simp_all
          done
         ·first|decide|assumption
         ·first|decide|assumption)
       ·refine gz5 ?_;refine dq (zaV (h:=zaS x) zb6 rfl rfl rfl rfl) ?_;refine dq (uCl zzG rfl (zlo (x:=x) (hb x (Ac hx)))) ?_;refine gz6 ?_;refine uCo (fun h13=> ?_) fun h14=> ?_
        ·refine gz5 ?_;refine zB Ghost.clear rfl ⟨?_,rfl⟩
         show HVal.int .i64 _=_
         try rw [hE]
         (refine congrArg _ (zdR (e:=(zgV x)) (zJ ?_ hg ?_ ?_) ?_)
          ·omega
          ·unfold zcp
           simp_all
           done
          ·first|decide|assumption
          ·first|decide|assumption)
        ·refine gz3 ?_;refine uDr mixed ?_;refine gz7 ?_;refine uGy 7 rfl rfl (fun hc=>by have hq:=hc;(try simp at hq);exact zK (j:=k-1) (a:=l.getD (k-1) zeo) zfy zb6 rfl rfl uO (getD_some uO)) ?_;refine gz1 ?_;refine uGy 9 rfl rfl (fun hc=>uCl zzH rfl zoT) ?_;refine gz3 ?_;refine uCo (fun h15=> ?_) fun h16=> ?_
         ·refine gz4 ?_;refine zB Ghost.clear rfl ⟨?_,rfl⟩
          show HVal.int .i64 _=_
          try rw [hE]
          (refine congrArg _ (zdR (e:=7) (zJ ?_ hg ?_ ?_) ?_)
           ·omega
           ·unfold zcp
            simp_all
            done
           ·first|decide|assumption
           ·first|decide|assumption)
         ·refine gz2 ?_;have hne:x.Home≠x.Away:=by first|assumption|simp_all
          have hg0:zcp T k x (l.getD (k-1) zeo)=0:=by unfold zcp;simp_all
          refine gz5 ?_;refine dq (za (hs:=[_,_]) zu ty9 rfl rfl (by decide) (by decide) rfl) ?_;refine dq (zaw (f:=HVal.str) (l:=[x.Home,x.Away]) zu rfl) ?_;refine gz3 ?_;refine uV1 [7,1,12,2,77,17] (fun (j:Nat)=>[(77,.int .i64 j),(7,.bool (inC l x k j))]) (fun (j:Nat)=>[.map m22 (kk ztm (em HVal.bool (inM l x k j)))]) (fun (j:Nat)=>j<=[x.Home,x.Away].length/\(True)) (fun (j:Nat)=>[x.Home,x.Away].length-j) (0) ?_ ?_ ?_ ?_
          ·exact ⟨Ad _,trivial⟩
          ·exact ⟨rfl,congrArg (fun q=>some (HVal.bool q)) zst.1.symm,trivial⟩
          ·exact zg (by rw [zst.2])
          ·intro j hinv
           obtain ⟨hj,-⟩:=hinv;refine gz4 ?_;refine uCo (fun h17=> ?_) fun h18=> ?_
           ·obtain ⟨s,hs⟩: ∃s,[x.Home,x.Away][j]? =some s:=⟨_,Aa (by show j<2;omega)⟩
            have hds:=zt hs;refine gz5 ?_;refine dq (zK zu ty9 rfl rfl rfl (by assumption)) ?_;refine gz3 ?_;obtain ⟨st1,st2⟩:=zxb (l:=l) (k:=k) hne hs;refine gz4 ?_;refine dq (zO (cs:=[_,_]) zoI zAo rfl) ?_;refine de rfl (zq zoI rfl fun b13=> ?_)
            refine de0 (zz zoI rfl rfl rfl rfl rfl ?_)
            refine gz1 ?_;refine zl (zD 13 rfl) ?_;refine gz5 ?_;refine dgl rfl rfl (fun hc=>⟨_,OpenTo.upd (t:=88) rfl (hc) (OpenTo.upd (t:=87) rfl (hc) (OpenTo.refl _)),ziP (i:=0) (f:=HVal.bool) (L:=inM l x k j) (s:=(s,x.Week)) (z0:=false) zwQ zwL ty4 rfl rfl rfl rfl ⟨rfl,rfl⟩⟩) ?_;refine gz6 ?_;refine de0 (zrg (i:=0) (f:=HVal.bool) (v:=true) (s:=(s,x.Week)) (L:=inM l x k j) zwQ zwL rfl rfl rfl rfl ?_)
            refine gz7 ?_;exact ⟨j+1,⟨by show j+1<=2;omega,trivial⟩,by show 2-(j+1)<2-j;omega,⟨rfl,congrArg (fun q=>some (HVal.bool q)) (by rw [<-st1];cases inC l x k j<;>rfl),trivial⟩,uK,zg (by dsimp only;rw [<-st2];rfl)⟩
           ·refine gz2 ?_;refine zG ?_;refine gz7 ?_;have e2:j=2:=by (have q:[x.Home,x.Away].length=2:=rfl;omega)
            subst e2;obtain ⟨t1,t2⟩:=zx3 hx;exact ⟨k+1,⟨by omega,by rw [hg,za2 hg0]⟩,uD,⟨rfl,congrArg (fun q=>some (HVal.bool q)) t1,trivial⟩,uK,zg (by dsimp only;rw [t2])⟩
    ·have hnk:l.length<=k:=by omega
     obtain rfl:k=l.length:=by omega
     rw [zP (Af _)] at hg;refine gz2 ?_;refine zG ?_;refine gz6 ?_;refine uCo (fun h19=> ?_) fun h20=> ?_
     ·refine gz4 ?_;refine zB Ghost.clear rfl ⟨?_,rfl⟩
      show HVal.int .i64 _=_
      try rw [hE]
      (rw [zsm ?_ hg,if_pos (by assumption)]
       omega)
     ·refine gz6 ?_;refine zB Ghost.clear rfl ⟨?_,rfl⟩
      show HVal.int .i64 _=_
      try rw [hE]
      (rw [zsm ?_ hg,if_neg uSa]
       omega)
theorem zkB [Tracks] {l:List Int} (hl:l.length<=1000000):ConP prog 183 [.slice 1 (l.map (HVal.int .i64))] (.int .i64 (zhW l)):=by
 refine uOb func183 ntmps183 ?_;refine gz9 ?_;refine uCo (fun h1=> ?_) fun h2=> ?_
 ·refine gz4 ?_;refine uRp ?_
  (rw [zhW,if_pos uO];done)
 ·refine gz9 ?_;refine uT1 [2,3,10,13] (fun k=>[(10,.int .i64 k)]) (fun k=>[]) (fun k=>k<=l.length/\(zdV l 0 l=zdV l k (l.drop k))) (fun k=>l.length-k) (0) ?_ ?_
  ·exact ⟨Ad _,rfl⟩
  ·rintro k ⟨hk,hg⟩;refine gz4 ?_;refine uCo (fun h3=> ?_) fun h4=> ?_
   ·obtain ⟨x,hx⟩: ∃x,l[k]? =some x:=⟨_,Aa h3⟩
    have hdx:=zt hx;rw [hdx] at hg;refine zeu ?_;refine dq (uCl zc3 rfl zaM) ?_;refine gz1 ?_;refine uCo (fun h5=> ?_) fun h6=> ?_
    ·refine gz4 ?_;refine uRp ?_
     (refine congrArg _ (zmy (e:=4) ?_ hg ?_)
      ·omega
      ·rw [zdV]
       simp_all
       done)
    ·refine gz5 ?_;refine dq (za9 zad ty3 rfl rfl ⟨_,_,rfl,rfl⟩ uO uO) ?_;refine gz1 ?_;refine dq (uCl zwu rfl (zfc (l:=l.take k) (z:=x) (by rw [AC];omega))) ?_;refine gz1 ?_;refine uCo (fun h7=> ?_) fun h8=> ?_
     ·refine gz4 ?_;refine uRp ?_
      (refine congrArg _ (zmy (e:=6) ?_ hg ?_)
       ·omega
       ·rw [zdV]
        simp_all
        done)
     ·refine gz7 ?_;refine ⟨k+1,?_,?_,⟨rfl,trivial⟩,uK,Ab _⟩
      ·refine ⟨by omega,?_⟩
       rw [hg,zdV,if_neg uSa,if_neg uSa]
      ·dsimp only;omega
   ·have hnk:l.length<=k:=by omega
    obtain rfl:k=l.length:=by omega
    rw [zP (Af _)] at hg;refine gz2 ?_;refine zG ?_;refine gz6 ?_;refine uRp ?_
    (refine congrArg _ (zse ?_ hg)
     omega)
theorem zfl [Tracks] {l:List GameS} {fid:FuncId} {caps:List HVal} {p:GameS->Bool} (hca:Callable prog fid) (hp: ∀x,ConP prog fid ([zaS x]++caps) (.bool (p x))) (hl:l.length<=1000000):ConP prog 213 [.slice 8 (l.map zaS),.fn (.func fid) [] caps] (.int .i64 (zag p l 0)):=by
 refine uOb func213 ntmps213 ?_;refine zaD ?_;refine uT1 [4,2,8,11] (fun k=>[(8,.int .i64 k)]) (fun k=>[]) (fun k=>k<=l.length/\(zag p l 0=zag p (l.drop k) k)) (fun k=>l.length-k) (0) ?_ ?_;exact ⟨Ad _,rfl⟩;rintro k ⟨hk,hg⟩;refine gz4 ?_;refine uCo (fun h1=> ?_) fun h2=> ?_
 obtain ⟨x,hx⟩: ∃x,l[k]? =some x:=⟨_,Aa h1⟩
 have hdx:=zt hx;rw [hdx] at hg;refine zeu ?_;refine dq (zaB hca rfl rfl (WeakL.refl _) (hp _)) ?_;refine gz1 ?_;refine uCo (fun h3=> ?_) fun h4=> ?_
 refine gz5 ?_;refine uRp ?_
 (rw [hg];simp_all [zag])
 refine gz7 ?_;refine ⟨k+1,?_,?_,⟨rfl,trivial⟩,uK,Ab _⟩
 refine ⟨by omega,?_⟩
 rw [hg,zag,if_neg uSa];rfl
 dsimp only;omega
 have hnk:l.length<=k:=by omega
 obtain rfl:k=l.length:=by omega
 rw [zP (Af _)] at hg;refine gz2 ?_;refine zG ?_;refine gz6 ?_;refine uRp ?_
 (rw [hg];rfl)
theorem zbB [Tracks] {l:List GameS} {fid:FuncId} {caps:List HVal} {p:GameS->Bool} (hca:Callable prog fid) (hp: ∀x,ConP prog fid ([zaS x]++caps) (.bool (p x))) (hl:l.length<=1000000):ConP prog 129 [.slice 8 (l.map zaS),.fn (.func fid) [] caps] (.bool (l.any p)):=by
 refine uOb func129 ntmps129 ?_;refine gz6 ?_;refine dq (uCl zzu rfl (zfl hca hp hl)) ?_;refine gz4 ?_;refine zC rfl ?_
 congr 1;exact zed p l 0 uO
theorem zjJ [Tracks] {x:GameS}:ConP prog 182 [zaS x] (.bool x.Played):=by
 refine uOb func182 ntmps182 ?_;refine zaD ?_;refine zC rfl ?_
 rfl
theorem zgI [Tracks] {g:LeagueS} (hT:Tracks.on=false) (hb:LeaB g):ConP prog 101 [zca g] (.int .i64 (zbp g)):=by
 have hst:=hb.sta;refine uOb func101 ntmps101 ?_;refine gz5 ?_;refine uDr mixed ?_;refine gz4 ?_;refine uB 4 rfl (uCl zwk rfl (zgK (L:=g.Players) (l:=g.Stints) hT hb.pl hb.nm hb.po hb.st)) ?_;refine gz2 ?_;refine uB 7 rfl (uCl zwl rfl (zf5 (l:=g.Fixtures) hb.fx)) ?_;refine gz2 ?_;refine uB 10 rfl (uCl zy9 rfl (zlP (l:=g.Rules) hb.ru hb.rw')) ?_;refine gz2 ?_;refine uB 13 rfl (uCl zza rfl (zlQ (l:=g.Slots) hb.sl hb.sp)) ?_;refine gz1 ?_;refine uB 15 rfl (zaq (h':=zcn g.Bounds) (zaP zdN rfl rfl (Ak rfl)) rfl) ?_;refine uB 16 rfl (uCl zwh rfl (zgL (b:=g.Bounds))) ?_;refine gz4 ?_;refine uB 21 rfl (uCl zzb rfl (zlM (T:=g.Teams) (l:=g.Games) hb.tm hb.ga hb.gb)) ?_;refine uB 22 rfl (za (hs:=[_,_,_,_,_,_]) zeq zgo rfl rfl (by decide) (by decide) rfl) ?_;refine uB 23 rfl (uCl znm rfl (zdr (l:=[_,_,_,_,_,_]) (by simp))) ?_;refine gz6 ?_;refine uCo (fun h1=> ?_) fun h2=> ?_
 refine gz5 ?_;refine uRp ?_;unfold zbp zgX zjT zdo
 (rw [if_pos (by assumption)])
 refine gz6 ?_;refine dq (uCl zs4 rfl (zbB (l:=g.Games) (p:=fun x=>x.Played) zzc (fun _=>zjJ) hb.ga)) ?_;refine gz1 ?_;refine uCo (fun h3=> ?_) fun h4=> ?_
 refine gz4 ?_;refine uRp ?_;unfold zbp zgX zjT zdo
 (rw [if_neg (fun q=>q h2),if_pos uSa])
 refine gz3 ?_;refine uDr mixed ?_;refine gz2 ?_;refine uB 2 rfl (uCl zzd rfl (zkB (l:=g.Breaks) hb.br)) ?_;refine gz2 ?_;refine uB 5 rfl (uCl ca83 rfl (zmS (l:=g.Trust) hb.tr)) ?_;refine uB 6 rfl (za (hs:=[_,_]) zeq zgo rfl rfl (by decide) (by decide) rfl) ?_;refine uB 7 rfl (uCl znm rfl (zdr (l:=[_,_]) (by simp))) ?_;refine gz6 ?_;refine uCo (fun h5=> ?_) fun h6=> ?_
 refine gz5 ?_;refine uRp ?_;unfold zbp zgX zjT zdo
 (rw [if_neg (fun q=>q h2),if_neg uSa,if_pos (by assumption)])
 refine gz6 ?_;refine dq (uCl ziL rfl zbA) ?_;refine gz8 ?_;refine uCo (fun h7=> ?_) fun h8=> ?_
 refine gz4 ?_;refine uRp ?_;unfold zbp zgX zjT zdo
 (rw [if_neg (fun q=>q h2),if_neg uSa,if_neg (fun q=>q h6),if_pos uSa])
 refine gz6 ?_;refine uRp ?_;unfold zbp zgX zjT zdo
 (rw [if_neg (fun q=>q h2),if_neg uSa,if_neg (fun q=>q h6),if_neg uSa])
theorem zmN [Tracks] {a b:ChoiceS}:ConP prog 222 [z8 a,z8 b] (.int .i64 (zjc a b)):=by
 refine uOb func222 ntmps222 ?_;refine gz5 ?_;refine uDr mixed ?_;refine gz4 ?_;refine uB 4 rfl (uCl zcJ rfl zZ) ?_;refine gz4 ?_;refine uB 9 rfl (uCl zdF rfl zae) ?_;refine gz4 ?_;refine uB 14 rfl (uCl zdF rfl zae) ?_;refine uB 15 rfl (za (hs:=[_,_,_]) zad ty3 rfl rfl (by decide) (by decide) rfl) ?_;refine uB 16 rfl (uCl zgP rfl (zbO (l:=[_,_,_]) (by simp))) ?_;refine gz3 ?_;refine zC rfl ?_
 rfl
theorem zj6 [Tracks] {b:BookS} {l:List ChoiceS} (hb:BookB b) (hl:l.length<=1000000) (hc: ∀x∈l,x.Players.length<=1000000):ConP prog 145 [.vptr (zv5 b) 0,zc6 l] (.int .i64 (zo1 b.League.Teams b.League.Slots.length l)):=by
 have hsl:=hb.lea.sl;have htm:=hb.lea.tm;refine uOb func145 ntmps145 ?_;refine gz9 ?_;refine uCo (fun h1=> ?_) fun h2=> ?_
 refine gz4 ?_;refine uRp ?_
 (refine congrArg _ (zcw ?_)
  omega)
 refine gz9 ?_;refine uT1 [4,3,8,1,14,68] (fun k=>[(14,.int .i64 k)]) (fun k=>[]) (fun k=>k<=l.length/\(za4 (zbT b.League.Teams b.League.Slots.length) zdn l 0 l=za4 (zbT b.League.Teams b.League.Slots.length) zdn l k (l.drop k))) (fun k=>l.length-k) (0) ?_ ?_;exact ⟨Ad _,rfl⟩;rintro k ⟨hk,hg⟩;refine gz4 ?_;refine uCo (fun h3=> ?_) fun h4=> ?_
 obtain ⟨x,hx⟩: ∃x,l[k]? =some x:=⟨_,Aa h3⟩
 have hdx:=zt hx;rw [hdx] at hg;refine gz6 ?_;refine dq (zK zeh zbZ rfl rfl rfl (by assumption)) ?_;refine gz1 ?_;refine de rfl (zq zbZ rfl fun b6=> ?_)
 refine gz1 ?_;refine de0 (zz zbZ rfl rfl rfl rfl rfl ?_)
 refine gz1 ?_;refine zl (zD 6 rfl) ?_;refine gz2 ?_;refine uDr mixed ?_;refine gz6 ?_;refine uB 6 rfl (uCl zfU rfl (zH (l:=b.League.Teams) (s:=x.Team) uO)) ?_;refine gz3 ?_;refine uCo (fun h5=> ?_) fun h6=> ?_
 refine gz4 ?_;refine uRp ?_
 (refine congrArg _ (zJ (e:=8) ?_ hg ?_ ?_)
  omega
  unfold zbT;exact uT
  first|decide|assumption)
 refine gz3 ?_;refine dq (uCl zlX rfl zdj) ?_;refine gz4 ?_;refine uGr rfl (fun hc=>uCl ziL rfl zbA) ?_;refine gz4 ?_;refine uCo (fun h7=> ?_) fun h8=> ?_
 refine gz4 ?_;refine uRp ?_
 (refine congrArg _ (zJ (e:=1) ?_ hg ?_ ?_)
  omega
  unfold zbT;exact uT
  first|decide|assumption)
 refine uDr mixed ?_;refine gz2 ?_;refine uB 2 rfl (zaw (f:=HVal.str) (l:=x.Players) zu rfl) ?_;refine gz4 ?_;refine uB 7 rfl (zaw (f:=zbo) (l:=b.League.Slots) zdi rfl) ?_;refine gz3 ?_;refine uCo (fun h9=> ?_) fun h10=> ?_
 refine gz4 ?_;refine uRp ?_
 (refine congrArg _ (zJ (e:=3) ?_ hg ?_ ?_)
  omega
  unfold zbT;exact uT
  first|decide|assumption)
 refine gz4 ?_;have hcx:=hc x (Ac hx);refine uDr mixed ?_;refine gz2 ?_;refine uA 3 ?_;refine gz1 ?_;refine uB 5 rfl (za (hs:=[_]) zu ty9 rfl rfl (by decide) (by decide) rfl) ?_;refine uA 8 ?_;refine uF 2 ?_;refine zA rfl (uCa zlW rfl (zay (l:=x.Players) hcx) fun v51=> ?_)
 refine ⟨uE,?_⟩
 refine uF 6 ?_;refine zA rfl (zmv (N:=[]) (sz:=1) (es:=(x.Players++[x.Captain]).map .str) 0 (zN (i:=0) (v:=v51) (es:=x.Players.map .str) (ys:=[.str x.Captain]) zu ty9 rfl rfl rfl rfl rfl (by simp [zal,zd]) uSo fun v55=>⟨v55,rfl,by rw [Ay];rfl,rfl⟩) ?_)
 refine ⟨uE,?_⟩
 refine uB 7 rfl (zaw (f:=HVal.str) (l:=x.Players++[x.Captain]) zu rfl) ?_;refine uAz ?_;refine gz1 ?_;refine uT1 [4,1,8,1,57,12] (fun j=>[(57,.int .i64 j)]) (fun j=>[]) (fun j=>j<=(x.Players++[x.Captain]).length/\(∀s∈(x.Players++[x.Captain]).take j,zbV s=true)) (fun j=>(x.Players++[x.Captain]).length-j) (0) ?_ ?_;exact ⟨Ad _,by simp⟩;rintro j ⟨hj,hnm⟩;have hlen:(x.Players++[x.Captain]).length=x.Players.length+1:=by simp
 refine gz4 ?_;refine uCo (fun h11=> ?_) fun h12=> ?_
 obtain ⟨s,hs⟩: ∃s,(x.Players++[x.Captain])[j]? =some s:=⟨_,Aa (by rw [AB];simp;omega)⟩
 have hds:=zt hs;refine gz5 ?_;refine dq (zK zu ty9 rfl rfl rfl (by assumption)) ?_;refine gz8 ?_;refine uGr rfl (fun hc=>uCl zdL rfl zaH) ?_;refine gz3 ?_;refine uCo (fun h13=> ?_) fun h14=> ?_
 refine gz4 ?_;refine uRp ?_
 (obtain ⟨q1,q2⟩: ¬s=[]/\key s=false:=by first|assumption|simp_all
  have g1:zbT b.League.Teams b.League.Slots.length k x (l.getD (k-1) zdn)=5:=by
   unfold zbT;rw [if_neg uSa,if_neg uSa,if_neg (fun q=>q uO),if_pos (zuJ (Ac hs) (zxn q1 q2))]
  exact congrArg _ (zJ (e:=5) uO hg g1 (by decide)))
 refine gz7 ?_;refine ⟨j+1,?_,?_,⟨rfl,trivial⟩,uK,Ab _⟩
 refine ⟨by omega,fun s' hs'=> ?_⟩
 rw [za1 hs] at hs'
 rcases List.mem_append.1 hs' with q|q
 exact hnm s' q;rw [List.mem_singleton.1 q];exact zxo (by intro q2;simp_all)
 dsimp only;omega
 have hnj:(x.Players++[x.Captain]).length<=j:=by omega
 obtain rfl:j=(x.Players++[x.Captain]).length:=by omega
 rw [Aw] at hnm;refine gz2 ?_;refine zG ?_;refine gz2 ?_;have hall:((x.Players++[x.Captain]).all zbV)=true:=by
  rw [List.all_eq_true]
  intro s hs
  exact hnm s hs
 refine uDr mixed ?_;refine gz7 ?_;refine uGy 7 rfl rfl (fun hc=>by have hq:=hc;(try simp at hq);exact zK (j:=k-1) (a:=l.getD (k-1) zdn) zeh zbZ rfl rfl uO (getD_some uO)) ?_;refine gz1 ?_;refine uGy 9 rfl rfl (fun hc=>uCl zzx rfl zmN) ?_;refine gz3 ?_;refine uCo (fun h15=> ?_) fun h16=> ?_
 refine gz4 ?_;refine uRp ?_
 (refine congrArg _ (zJ (e:=7) ?_ hg ?_ ?_)
  omega
  unfold zbT;exact uT
  first|decide|assumption)
 refine gz7 ?_;refine ⟨k+1,?_,?_,⟨rfl,trivial⟩,uK,Ab _⟩
 refine ⟨by omega,?_⟩
 rw [hg,za2 (by unfold zbT;(try clear hdx hg);(try simp only [Ae]);focus first|(simp_all;done)|((repeat' split)<;>focus first|rfl|(exfalso;omega)|(simp_all;done)|(exfalso;rcases ‹_\/_› with q|q<;>simp_all;done)|(exfalso;simp_all;omega)))]
 dsimp only;omega
 have hnk:l.length<=k:=by omega
 obtain rfl:k=l.length:=by omega
 rw [zP (Af _)] at hg;refine gz2 ?_;refine zG ?_;refine gz6 ?_;refine uRp ?_
 (refine congrArg _ (zcb ?_ hg)
  omega)
theorem zhK [Tracks] {b:BookS} (hT:Tracks.on=false) (hb:BookB b) (hw: ∀x∈b.Health,-1000000000000000<=x.To/\x.To<=1000000000000000):ConP prog 66 [zbg b] (.int .i64 (zbR b)):=by
 refine uOb func66 ntmps66 ?_;refine gz7 ?_;refine dq (zaq (h':=zca b.League) (zaP z7 rfl rfl (Ak rfl)) rfl) ?_;refine dq (uCl zv6 rfl (zgI (g:=b.League) hT hb.lea)) ?_;refine gz6 ?_;refine uCo (fun h1=> ?_) fun h2=> ?_
 refine gz5 ?_;refine uRp ?_;unfold zbR
 (rw [if_pos (by assumption)])
 refine gz2 ?_;refine uDr mixed ?_;refine gz2 ?_;refine uB 2 rfl (uCl zwf rfl (zhb (l:=b.Moves) hb.mv)) ?_;refine gz2 ?_;refine uB 5 rfl (uCl ca82 rfl (zmR (l:=b.Plays) hb.pl)) ?_;refine gz2 ?_;refine uB 8 rfl (uCl zyT rfl (zmQ (m:=b.Mends) hb.me)) ?_;refine gz5 ?_;refine uB 14 rfl (uCl zwg rfl (zgJ (L:=b.League.Players) (l:=b.Health) hT hb.lea.pl hb.lea.nm hb.lea.po hb.he hw)) ?_;refine gz3 ?_;refine uB 18 rfl (uCl zyU rfl (zj6 (b:=b) (l:=b.Choices) hb hb.ch hb.cp)) ?_;refine uB 19 rfl (za (hs:=[_,_,_,_,_]) zeq zgo rfl rfl (by decide) (by decide) rfl) ?_;refine uB 20 rfl (uCl znm rfl (zdr (l:=[_,_,_,_,_]) (by simp))) ?_;refine gz3 ?_;refine uRp ?_;unfold zbR
 (rw [if_neg (fun q=>q h2),<-zx1 (fun q=>q h2)])
end
section
open Go.Proofs.Tryz
open Go.HL
theorem zaW [Tracks] {n lo hi:Int}:ConP prog 134 [.int .i64 n,.int .i64 lo,.int .i64 hi] (.bool (!(out n lo hi))):=by
 refine uOb func134 ntmps134 ?_;refine zkO ?_;refine zC rfl ?_
 show HVal.bool _=_
 congr 1;simp [out];rw [AL];simp;try omega
theorem zgf [Tracks] {n:Int}:ConP prog 116 [.int .i64 n] (.int .i64 (zk7 n)):=by
 refine uOb func116 ntmps116 ?_;refine zaD ?_;refine uCo (fun h1=> ?_) fun h2=> ?_
 refine gz4 ?_;refine uRp ?_;unfold zk7
 (rw [if_pos uO])
 refine gz5 ?_;refine uCo (fun h3=> ?_) fun h4=> ?_
 refine gz4 ?_;refine uRp ?_;unfold zk7
 (rw [if_neg uO,if_pos uO])
 refine gz7 ?_;refine uRp ?_;unfold zk7
 (rw [if_neg uO,if_neg uO])
theorem ziH [Tracks] {s l:Str} (hs:s.length<=1000000):ConP prog 215 [.str s,.str l] (.bool (zg1 s l)):=by
 refine uOb func215 ntmps215 ?_;refine zaD ?_;refine uT1 [4,2,8,10] (fun k=>[(8,.int .i64 (k:Int))]) (fun k=>[]) (fun k=>k<=s.length/\zg1 s l=zg1 (s.drop k) l) (fun k=>s.length-k) (0) ?_ ?_;exact ⟨Ad _,rfl⟩;rintro k ⟨hk,hg⟩;refine gz4 ?_;refine uCo (fun h1=> ?_) fun h2=> ?_
 obtain ⟨x,hx⟩: ∃x,s[k]? =some x:=⟨_,Aa uO⟩
 have hd:=zt hx;rw [hd] at hg;refine zfq ?_;refine dq (zaT (j:=k) (b:=x) ty9 rfl rfl rfl hx) ?_;refine dq (uCl zwx rfl (zhc (s:=l) (c:=x.toNat))) ?_;refine gz2 ?_;refine uCo (fun h3=> ?_) fun h4=> ?_
 refine gz4 ?_;refine zC rfl ?_
 show HVal.bool _=_
 rw [hg]
 (rw [zyj (by assumption)])
 refine gz7 ?_;refine ⟨k+1,?_,?_,⟨rfl,trivial⟩,uK,Ab _⟩
 refine ⟨by omega,?_⟩
 rw [hg,zyk (by assumption)]
 dsimp only;omega
 rw [zP uO] at hg;refine gz2 ?_;refine zG ?_;refine gz6 ?_;refine zC rfl ?_
 show HVal.bool _=_
 rw [hg]
 rfl
theorem za7 [Tracks] {s:Str}:ConP prog 135 [.str s] (.bool (key s)):=by
 refine uOb func135 ntmps135 ?_;refine gz6 ?_;refine dq (uCl zfD rfl zaW) ?_;refine gz2 ?_;refine dg rfl rfl (fun hc=>by
  have hb:=zeP (n:=(s.length:Int)) (lo:=1) (hi:=40) (by simpa using hc);exact ⟨_,OpenTo.upd (t:=7) rfl (hc) (OpenTo.refl _),zg3 (l:=0) (h:=1) ty9 rfl rfl ⟨_,_,rfl,by omega⟩ uO uO⟩) ?_
 refine uGr rfl (fun hc=>by have hq:=hc;(try simp at hq);exact uCl zwv rfl (ziH (s:=s.take 1) (l:=ziu) (by rw [AC];omega))) ?_;refine gz3 ?_;refine dg rfl rfl (fun hc=>by
  have hb:=zeP (n:=(s.length:Int)) (lo:=1) (hi:=40) (by (have q:=hc;simp at q;exact q.1));exact ⟨_,OpenTo.upd (t:=12) rfl (hc) (OpenTo.refl _),uCl zwv rfl (ziH (s:=s) (l:=zgc) uO)⟩) ?_
 refine gz4 ?_;refine zC rfl ?_
 show HVal.bool _=_
 rw [zvu]
 simp
theorem zhH [Tracks] {n:Int}:ConP prog 133 [.int .i64 n] (.bool (zL n)):=by
 refine uOb func133 ntmps133 ?_;refine gz5 ?_;refine dq (uCl zfD rfl zaW) ?_;refine gz3 ?_;refine zC rfl ?_
 show HVal.bool _=_
 rfl
theorem zge [Tracks] {n:Int}:ConP prog 206 [.int .i64 n] (.bool (zbc n)):=by
 refine uOb func206 ntmps206 ?_;refine gz5 ?_;refine dq (uCl zfD rfl zaW) ?_;refine gz3 ?_;refine zC rfl ?_
 show HVal.bool _=_
 rfl
theorem zhI [Tracks] {l:List Str} (hl:l.length<=1000000):ConP prog 210 [eSs l] (.int .i64 (zgD l)):=by
 refine uOb func210 ntmps210 ?_;refine zaD ?_;refine uT1 [2,3,7,20] (fun k=>[(7,.int .i64 k)]) (fun k=>[]) (fun k=>k<=l.length/\(zgD l=zcu l k (l.drop k))) (fun k=>l.length-k) (0) ?_ ?_;exact ⟨Ad _,rfl⟩;rintro k ⟨hk,hg⟩;refine gz4 ?_;refine uCo (fun h1=> ?_) fun h2=> ?_
 obtain ⟨x,hx⟩: ∃x,l[k]? =some x:=⟨_,Aa h1⟩
 have hdx:=zt hx;rw [hdx] at hg;refine zeu ?_;refine dq (uCl zgO rfl za7) ?_;refine gz2 ?_;refine uCo (fun h3=> ?_) fun h4=> ?_
 refine gz4 ?_;refine uRp ?_;rw [hg];simp_all [zcu,leS];refine zaD ?_;refine uGr rfl (fun hc=>by have hq:=hc;(try simp at hq);exact zK (j:=k-1) (a:=l.getD (k-1) []) zu ty9 rfl rfl uO (getD_some uO)) ?_;refine gz4 ?_;refine uCo (fun h5=> ?_) fun h6=> ?_
 refine gz4 ?_;refine uRp ?_;rw [hg];simp_all [zcu,leS];refine gz7 ?_;refine ⟨k+1,?_,?_,⟨rfl,trivial⟩,uK,Ab _⟩
 refine ⟨by omega,?_⟩
 rw [hg];simp_all [zcu,leS]
 dsimp only;omega
 have hnk:l.length<=k:=by omega
 obtain rfl:k=l.length:=by omega
 rw [zP (Af _)] at hg;refine gz2 ?_;refine zG ?_;refine gz6 ?_;refine uRp ?_;rw [hg];simp_all [zcu,leS]
theorem zgt [Tracks] {l:List Str} (hl:l.length<=1000000):ConP prog 205 [eSs l,.bool true] (.int .i64 (zhp l)):=by
 refine uOb func205 ntmps205 ?_;refine zeu ?_;refine uCo (fun h1=> ?_) fun h2=> ?_
 refine gz4 ?_;refine uRp ?_;rw [zpg]
 (rw [if_pos uSa])
 refine gz6 ?_;refine uCo (fun h3=> ?_) fun h4=> ?_
 refine gz4 ?_;refine uRp ?_;rw [zpg]
 (rw [if_neg uO,if_pos uO])
 refine gz5 ?_;refine dq (uCl zwt rfl (zhI (by assumption))) ?_;refine gz3 ?_;refine uRp ?_;rw [zpg]
 (rw [if_neg uSa,if_neg uO])
theorem ziE [Tracks] {l:List PlayerS} (hT:Tracks.on=false) (hl:l.length<=1000000) (hn: ∀p∈l,p.Name∈zcq) (hp: ∀p∈l,p.Positions.length<=1000000):ConP prog 121 [zaC l] (.int .i64 (zbX l)):=by
 refine uOb func121 ntmps121 ?_;refine gz9 ?_;refine uCo (fun h1=> ?_) fun h2=> ?_
 refine gz4 ?_;refine uRp ?_
 (refine congrArg _ (zcw ?_)
  omega)
 refine zfq ?_;refine uT1 [2,2,5,2,12,35] (fun k=>[(12,.int .i64 k),(3,.str (zmF PlayerS.Key zdT l k))]) (fun k=>[]) (fun k=>k<=l.length/\(za4 zcF zdT l 0 l=za4 zcF zdT l k (l.drop k))) (fun k=>l.length-k) (0) ?_ ?_;exact ⟨Ad _,rfl⟩;rintro k ⟨hk,hg⟩;refine gz4 ?_;refine uCo (fun h3=> ?_) fun h4=> ?_
 obtain ⟨x,hx⟩: ∃x,l[k]? =some x:=⟨_,Aa h3⟩
 have hdx:=zt hx;rw [hdx] at hg;refine gz7 ?_;refine de rfl (zq zdc rfl fun b5=> ?_)
 refine de0 (zz zdc rfl rfl rfl rfl rfl ?_)
 refine gz1 ?_;refine zl (zD 5 rfl) ?_;refine gz5 ?_;refine dq (uCl zgO rfl za7) ?_;refine gz3 ?_;refine uCo (fun h5=> ?_) fun h6=> ?_
 refine gz4 ?_;refine uRp ?_
 (refine congrArg _ (zJ (e:=5) ?_ hg ?_ ?_)
  omega
  unfold zcF;exact uT
  first|decide|assumption)
 have hkx:key x.Key=true:=by first|assumption|simp_all
 have hll:=zsx (f:=PlayerS.Key) (d:=zdT) (l:=l) (k:=k) (x:=x) hkx;refine gz7 ?_;refine uCo (fun h7=> ?_) fun h8=> ?_
 refine gz4 ?_;refine uRp ?_
 (refine congrArg _ (zJ (e:=7) ?_ hg ?_ ?_)
  omega
  unfold zcF;exact uT
  first|decide|assumption)
 have hn6:=zme (hn x (Ac hx));refine gz3 ?_;refine dq (uCl zzq rfl (zmL hT (hn x (Ac hx)))) ?_;refine gz5 ?_;refine uGr rfl (fun hc=>uCl zfD rfl zaW) ?_;refine gz4 ?_;refine za3 rfl (fun h9=> ?_) (fun h9=> ?_)
 exfalso
 try simp at h9
 simp_all
 try simp at h9
 refine gz7 ?_;refine dq (uCl zwr rfl (zgt (hp x (Ac hx)))) ?_;refine gz6 ?_;refine uCo (fun h10=> ?_) fun h11=> ?_
 refine gz5 ?_;refine uRp ?_
 (refine congrArg _ (zJ (e:=(zhp x.Positions)) ?_ hg ?_ ?_)
  omega
  unfold zcF;exact uT
  first|decide|assumption)
 refine zfW ?_;exact ⟨k+1,⟨by omega,by rw [hg,za2 (by unfold zcF;(try clear hdx hg);(try simp only [Ae]);focus first|(simp_all;done)|((repeat' split)<;>focus first|rfl|(exfalso;omega)|(simp_all;done)|(exfalso;rcases ‹_\/_› with q|q<;>simp_all;done)|(exfalso;simp_all;omega)))]⟩,uD,⟨rfl,congrArg (fun q=>some (HVal.str q)) (zpV hx).symm,trivial⟩,uK,Ab _⟩;have hnk:l.length<=k:=by omega
 obtain rfl:k=l.length:=by omega
 rw [zP (Af _)] at hg;refine gz2 ?_;refine zG ?_;refine gz6 ?_;refine uRp ?_
 (refine congrArg _ (zcb ?_ hg)
  omega)
theorem zjF [Tracks] {x:PlayerS} {s:Str}:ConP prog 97 [zcE x,.vptr [.str s] 0] (.bool (x.Key==s)):=by
 refine uOb func97 ntmps97 ?_;refine zfq ?_;refine zC rfl ?_
 rfl
theorem zeJ [Tracks] {l:List PlayerS} {fid:FuncId} {caps:List HVal} {p:PlayerS->Bool} (hca:Callable prog fid) (hp: ∀x,ConP prog fid ([zcE x]++caps) (.bool (p x))) (hl:l.length<=1000000):ConP prog 96 [.slice 3 (l.map zcE),.fn (.func fid) [] caps] (.int .i64 (zag p l 0)):=by
 refine uOb func96 ntmps96 ?_;refine zaD ?_;refine uT1 [4,2,8,11] (fun k=>[(8,.int .i64 k)]) (fun k=>[]) (fun k=>k<=l.length/\(zag p l 0=zag p (l.drop k) k)) (fun k=>l.length-k) (0) ?_ ?_;exact ⟨Ad _,rfl⟩;rintro k ⟨hk,hg⟩;refine gz4 ?_;refine uCo (fun h1=> ?_) fun h2=> ?_
 obtain ⟨x,hx⟩: ∃x,l[k]? =some x:=⟨_,Aa h1⟩
 have hdx:=zt hx;rw [hdx] at hg;refine zeu ?_;refine dq (zaB hca rfl rfl (WeakL.refl _) (hp _)) ?_;refine gz1 ?_;refine uCo (fun h3=> ?_) fun h4=> ?_
 refine gz5 ?_;refine uRp ?_
 (rw [hg];simp_all [zag])
 refine gz7 ?_;refine ⟨k+1,?_,?_,⟨rfl,trivial⟩,uK,Ab _⟩
 refine ⟨by omega,?_⟩
 rw [hg,zag,if_neg uSa];rfl
 dsimp only;omega
 have hnk:l.length<=k:=by omega
 obtain rfl:k=l.length:=by omega
 rw [zP (Af _)] at hg;refine gz2 ?_;refine zG ?_;refine gz6 ?_;refine uRp ?_
 (rw [hg];rfl)
theorem zcm [Tracks] {l:List PlayerS} {s:Str} (hl:l.length<=1000000):ConP prog 45 [zaC l,.str s] (.int .i64 (zag (fun x:PlayerS=>x.Key==s) l 0)):=by
 refine uOb func45 ntmps45 ?_;refine gz7 ?_;refine dq (uCl ca96 rfl (zeJ (l:=l) (p:=fun x=>x.Key==s) ca97 (fun _=>zjF) hl)) ?_;refine gz3 ?_;refine zC rfl ?_
 rfl
theorem zi8 [Tracks] {L:List PlayerS} {l:List StintS} (hL:L.length<=1000000) (hl:l.length<=1000000):ConP prog 122 [zaC L,zbJ l] (.int .i64 (zh3 L l)):=by
 refine uOb func122 ntmps122 ?_;refine gz9 ?_;refine uCo (fun h1=> ?_) fun h2=> ?_
 refine gz4 ?_;refine uRp ?_
 (refine congrArg _ (zcw ?_)
  omega)
 refine gz9 ?_;refine uT1 [4,3,12,63] (fun k=>[(12,.int .i64 k)]) (fun k=>[]) (fun k=>k<=l.length/\(za4 (zdd L) zd7 l 0 l=za4 (zdd L) zd7 l k (l.drop k))) (fun k=>l.length-k) (0) ?_ ?_;exact ⟨Ad _,rfl⟩;rintro k ⟨hk,hg⟩;refine gz4 ?_;refine uCo (fun h3=> ?_) fun h4=> ?_
 obtain ⟨x,hx⟩: ∃x,l[k]? =some x:=⟨_,Aa h3⟩
 have hdx:=zt hx;rw [hdx] at hg;refine gz8 ?_;refine de rfl (zq zbY rfl fun b6=> ?_)
 refine gz1 ?_;refine de0 (zz zbY rfl rfl rfl rfl rfl ?_)
 refine gz1 ?_;refine zl (zD 6 rfl) ?_;refine gz5 ?_;refine dq (uCl zq2 rfl (zcm (l:=L) (s:=x.Player) hL)) ?_;refine gz3 ?_;refine uCo (fun h5=> ?_) fun h6=> ?_
 have hph:=zow (L:=L) (s:=x.Player);refine gz4 ?_;refine uRp ?_
 (refine congrArg _ (zJ (e:=8) ?_ hg ?_ ?_)
  omega
  unfold zdd;exact uT
  first|decide|assumption)
 have hph:=zow (L:=L) (s:=x.Player);have hpl:zbM L x.Player=true:=by
  cases hq:zbM L x.Player with
  |true=>rfl
  |false=>have:=hph.2 hq;omega
 refine gz7 ?_;refine uGr rfl (fun hc=>uCl zgO rfl za7) ?_;refine gz4 ?_;refine uCo (fun h7=> ?_) fun h8=> ?_
 refine gz4 ?_;refine uRp ?_
 (refine congrArg _ (zJ (e:=5) ?_ hg ?_ ?_)
  omega
  unfold zdd;exact uT
  first|decide|assumption)
 refine gz3 ?_;refine dq (uCl zs9 rfl zge) ?_;refine gz3 ?_;refine uCo (fun h9=> ?_) fun h10=> ?_
 refine gz4 ?_;refine uRp ?_
 (refine congrArg _ (zJ (e:=1) ?_ hg ?_ ?_)
  omega
  unfold zdd;exact uT
  first|decide|assumption)
 have hord:=ord2 (a:=x.Player) (b:=(l.getD (k-1) zd7).Player) (m:=x.Week) (n:=(l.getD (k-1) zd7).Week);refine uDr mixed ?_;refine gz8 ?_;refine uGy 8 rfl rfl (fun hc=>by have hq:=hc;(try simp at hq);exact zK (j:=k-1) (a:=l.getD (k-1) zd7) zcB zbY rfl rfl uO (getD_some uO)) ?_;refine gz9 ?_;refine uGy 18 rfl rfl (fun hc=>by have hq:=hc;(try simp at hq);exact zK (j:=k-1) (a:=l.getD (k-1) zd7) zcB zbY rfl rfl uO (getD_some uO)) ?_;refine gz9 ?_;refine uGy 28 rfl rfl (fun hc=>by have hq:=hc;(try simp at hq);exact zK (j:=k-1) (a:=l.getD (k-1) zd7) zcB zbY rfl rfl uO (getD_some uO)) ?_;refine gz8 ?_;refine uCo (fun h11=> ?_) fun h12=> ?_
 refine gz4 ?_;refine uRp ?_
 (refine congrArg _ (zJ (e:=7) ?_ hg ?_ ?_)
  omega
  unfold zdd;exact uT
  first|decide|assumption)
 refine gz8 ?_;refine ⟨k+1,?_,?_,⟨rfl,trivial⟩,uK,Ab _⟩
 refine ⟨by omega,?_⟩
 rw [hg,za2 (by unfold zdd;(try clear hdx hg);(try simp only [Ae]);focus first|(simp_all;done)|((repeat' split)<;>focus first|rfl|(exfalso;omega)|(simp_all;done)|(exfalso;rcases ‹_\/_› with q|q<;>simp_all;done)|(exfalso;simp_all;omega)))]
 dsimp only;omega
 have hnk:l.length<=k:=by omega
 obtain rfl:k=l.length:=by omega
 rw [zP (Af _)] at hg;refine gz2 ?_;refine zG ?_;refine gz6 ?_;refine uRp ?_
 (refine congrArg _ (zcb ?_ hg)
  omega)
theorem zi7 [Tracks] {L:List PlayerS} {l:List HealthS} (hL:L.length<=1000000) (hl:l.length<=1000000) (hw: ∀x∈l,-1000000000000000<=x.To/\x.To<=1000000000000000):ConP prog 63 [zaC L,zbw l] (.int .i64 (zo8 L l)):=by
 refine uOb func63 ntmps63 ?_;refine gz9 ?_;refine uCo (fun h1=> ?_) fun h2=> ?_
 refine gz4 ?_;refine uRp ?_
 (refine congrArg _ (zcw ?_)
  omega)
 refine gz9 ?_;refine uT1 [4,4,13,74] (fun k=>[(13,.int .i64 k)]) (fun k=>[]) (fun k=>k<=l.length/\(za4 (zbU L) zfI l 0 l=za4 (zbU L) zfI l k (l.drop k))) (fun k=>l.length-k) (0) ?_ ?_;exact ⟨Ad _,rfl⟩;rintro k ⟨hk,hg⟩;refine gz4 ?_;refine uCo (fun h3=> ?_) fun h4=> ?_
 obtain ⟨x,hx⟩: ∃x,l[k]? =some x:=⟨_,Aa h3⟩
 have hdx:=zt hx;rw [hdx] at hg;refine gz8 ?_;refine de rfl (zq zbN rfl fun b6=> ?_)
 refine gz1 ?_;refine de0 (zz zbN rfl rfl rfl rfl rfl ?_)
 refine gz1 ?_;refine zl (zD 6 rfl) ?_;refine gz2 ?_;have hwx:=hw x (Ac hx);refine gz4 ?_;refine dq (uCl zq2 rfl (zcm (l:=L) (s:=x.Player) hL)) ?_;refine gz3 ?_;refine uCo (fun h5=> ?_) fun h6=> ?_
 have hph:=zow (L:=L) (s:=x.Player);refine gz4 ?_;refine uRp ?_
 (refine congrArg _ (zJ (e:=8) ?_ hg ?_ ?_)
  omega
  unfold zbU;exact uT
  first|decide|assumption)
 have hph:=zow (L:=L) (s:=x.Player);have hpl:zbM L x.Player=true:=by
  cases hq:zbM L x.Player with
  |true=>rfl
  |false=>have:=hph.2 hq;omega
 refine gz6 ?_;refine dq (uCl zfD rfl zaW) ?_;refine gz8 ?_;refine uCo (fun h7=> ?_) fun h8=> ?_
 have hag:=zvo (f:=x.From) (t:=x.To) (by assumption);refine gz4 ?_;refine uRp ?_
 (refine congrArg _ (zJ (e:=1) ?_ hg ?_ ?_)
  omega
  unfold zbU;exact uT
  first|decide|assumption)
 have hag:=zvn (f:=x.From) (t:=x.To) (by assumption);refine zc8 ?_;refine uCo (fun h9=> ?_) fun h10=> ?_
 have hkd:=zx6 (k:=x.Kind) (by assumption);refine gz4 ?_;refine uRp ?_
 (refine congrArg _ (zJ (e:=4) ?_ hg ?_ ?_)
  omega
  unfold zbU;exact uT
  first|decide|assumption)
 refine gz4 ?_;have hkd:=zx5 (k:=x.Kind) (by assumption);refine gz4 ?_;refine uCo (fun h11=> ?_) fun h12=> ?_
 refine gz8 ?_;refine ⟨k+1,?_,?_,⟨rfl,trivial⟩,uK,Ab _⟩
 refine ⟨by omega,?_⟩
 rw [hg,za2 (by unfold zbU;(try clear hdx hg);(try simp only [Ae]);focus first|(simp_all;done)|((repeat' split)<;>focus first|rfl|(exfalso;omega)|(simp_all;done)|(exfalso;rcases ‹_\/_› with q|q<;>simp_all;done)|(exfalso;simp_all;omega)))]
 dsimp only;omega
 refine gz2 ?_;have hk0:0<k:=by omega
 refine gz4 ?_;refine dq (zK (j:=k-1) (a:=l.getD (k-1) zfI) zf0 zbN rfl rfl uO (getD_some uO)) ?_;refine gz1 ?_;refine de rfl (zq zbN rfl fun b7=> ?_)
 refine de0 (zz zbN rfl rfl rfl rfl rfl ?_)
 refine gz1 ?_;refine zl (zD 7 rfl) ?_;refine gz1 ?_;have hord:=ord2 (a:=x.Player) (b:=(l.getD (k-1) zfI).Player) (m:=x.From) (n:=(l.getD (k-1) zfI).From);refine gz22 ?_;refine uCo (fun h13=> ?_) fun h14=> ?_
 refine gz4 ?_;refine uRp ?_
 (refine congrArg _ (zJ (e:=7) ?_ hg ?_ ?_)
  omega
  unfold zbU;exact uT
  first|decide|assumption)
 refine zkO ?_;refine uCo (fun h15=> ?_) fun h16=> ?_
 refine gz4 ?_;refine uRp ?_
 (refine congrArg _ (zJ (e:=13) ?_ hg ?_ ?_)
  omega
  unfold zbU;exact uT
  first|decide|assumption)
 refine gz8 ?_;refine ⟨k+1,?_,?_,⟨rfl,trivial⟩,uK,Ab _⟩
 refine ⟨by omega,?_⟩
 rw [hg,za2 (by unfold zbU;(try clear hdx hg);(try simp only [Ae]);focus first|(simp_all;done)|((repeat' split)<;>focus first|rfl|(exfalso;omega)|(simp_all;done)|(exfalso;rcases ‹_\/_› with q|q<;>simp_all;done)|(exfalso;simp_all;omega)))]
 dsimp only;omega
 have hnk:l.length<=k:=by omega
 obtain rfl:k=l.length:=by omega
 rw [zP (Af _)] at hg;refine gz2 ?_;refine zG ?_;refine gz6 ?_;refine uRp ?_
 (refine congrArg _ (zcb ?_ hg)
  omega)
theorem zfk [Tracks] {a b:List Int} (ha:a.length<=1000) (hb:b.length<=1000):ConP prog 187 [.slice 1 (a.map (HVal.int .i64)),.slice 1 (b.map (HVal.int .i64))] (.int .i64 (zfa a b)):=by
 refine uOb func187 ntmps187 ?_;refine zaD ?_;refine uT1 [4,5,11,20] (fun k=>[(11,.int .i64 k)]) (fun k=>[]) (fun k=>k<=a.length/\(zfa a b=zfa (a.drop k) (b.drop k))) (fun k=>a.length-k) (0) ?_ ?_;exact ⟨Ad _,rfl⟩;rintro k ⟨hk,hg⟩;refine gz4 ?_;refine uCo (fun h1=> ?_) fun h2=> ?_
 obtain ⟨x,hx⟩: ∃x,a[k]? =some x:=⟨_,Aa h1⟩
 have hdx:=zt hx;rw [hdx] at hg;refine zl5 ?_;refine uCo (fun h3=> ?_) fun h4=> ?_
 refine gz4 ?_;refine uRp ?_
 (rw [hg,Bo (show b.length<=k by omega)];rfl)
 refine gz2 ?_;obtain ⟨y,hy⟩: ∃y,b[k]? =some y:=⟨_,Aa uO⟩
 refine zaD ?_;refine dq (uCl zdF rfl (zae (a:=x) (b:=y))) ?_;refine gz6 ?_;refine uCo (fun h5=> ?_) fun h6=> ?_
 refine gz5 ?_;refine uRp ?_
 (rw [hg,zt hy,zfa,if_pos (by assumption)])
 refine gz7 ?_;exact ⟨k+1,⟨by omega,by rw [hg,zt hy,zfa,if_neg uSa]⟩,uD,⟨rfl,trivial⟩,uK,Ab _⟩;have hnk:a.length<=k:=by omega
 obtain rfl:k=a.length:=by omega
 rw [zP (Af _)] at hg;refine gz2 ?_;refine zG ?_;refine zaD ?_;refine uCo (fun h7=> ?_) fun h8=> ?_
 refine gz4 ?_;refine uRp ?_
 (obtain ⟨y,hy⟩: ∃y,b[a.length]? =some y:=⟨_,Aa uO⟩
  rw [hg,zt hy];rfl)
 refine gz6 ?_;refine uRp ?_
 (rw [hg,Bo (show b.length<=a.length by omega)];rfl)
theorem zh8 [Tracks] {l:List FixS} (hl:l.length<=1000000):ConP prog 123 [zde l] (.int .i64 (zhm l)):=by
 refine uOb func123 ntmps123 ?_;refine gz9 ?_;refine uCo (fun h1=> ?_) fun h2=> ?_
 refine gz4 ?_;refine uRp ?_
 (refine congrArg _ (zcw ?_)
  omega)
 refine gz9 ?_;refine uT1 [2,5,12,65] (fun k=>[(12,.int .i64 k)]) (fun k=>[]) (fun k=>k<=l.length/\(za4 zfp zjR l 0 l=za4 zfp zjR l k (l.drop k))) (fun k=>l.length-k) (0) ?_ ?_;exact ⟨Ad _,rfl⟩;rintro k ⟨hk,hg⟩;refine gz4 ?_;refine uCo (fun h3=> ?_) fun h4=> ?_
 obtain ⟨x,hx⟩: ∃x,l[k]? =some x:=⟨_,Aa h3⟩
 have hdx:=zt hx;rw [hdx] at hg;refine gz8 ?_;refine de rfl (zq zaa rfl fun b4=> ?_)
 refine gz1 ?_;refine de0 (zz zaa rfl rfl rfl rfl rfl ?_)
 refine gz1 ?_;refine zl (zD 4 rfl) ?_;refine gz5 ?_;refine dq (uCl zs9 rfl zge) ?_;refine gz4 ?_;refine uGr rfl (fun hc=>uCl zwd rfl zhH) ?_;refine gz4 ?_;refine uCo (fun h5=> ?_) fun h6=> ?_
 refine gz4 ?_;refine uRp ?_
 (refine congrArg _ (zJ (e:=1) ?_ hg ?_ ?_)
  omega
  unfold zfp;exact uT
  first|decide|assumption)
 refine gz3 ?_;refine dq (uCl zgO rfl za7) ?_;refine gz4 ?_;refine uGr rfl (fun hc=>uCl zgO rfl za7) ?_;refine gz4 ?_;refine uCo (fun h7=> ?_) fun h8=> ?_
 refine gz4 ?_;refine uRp ?_
 (refine congrArg _ (zJ (e:=5) ?_ hg ?_ ?_)
  omega
  unfold zfp;exact uT
  first|decide|assumption)
 refine gz8 ?_;refine uCo (fun h9=> ?_) fun h10=> ?_
 refine gz4 ?_;refine uRp ?_
 (refine congrArg _ (zJ (e:=6) ?_ hg ?_ ?_)
  omega
  unfold zfp;exact uT
  first|decide|assumption)
 refine gz7 ?_;refine uCo (fun h11=> ?_) fun h12=> ?_
 refine gz4 ?_;refine dq (zK (j:=k-1) (a:=l.getD (k-1) zjR) zaF zaa rfl rfl uO (getD_some uO)) ?_;refine gz1 ?_;refine de rfl (zq zaa rfl fun b5=> ?_)
 refine de0 (zz zaa rfl rfl rfl rfl rfl ?_)
 refine gz1 ?_;refine zl (zD 5 rfl) ?_;refine gz5 ?_;refine dq (za (hs:=[_,_]) zad ty3 rfl rfl (by decide) (by decide) rfl) ?_;refine gz4 ?_;refine dq (za (hs:=[_,_]) zad ty3 rfl rfl (by decide) (by decide) rfl) ?_;refine dq (uCl zwn rfl (zfk (a:=[(l.getD (k-1) zjR).Week,(l.getD (k-1) zjR).At]) (b:=[x.Week,x.At]) (by simp) (by simp))) ?_;refine gz2 ?_;have hord:=zw1 (x:=x) (p:=l.getD (k-1) zjR);refine zkO ?_;refine uCo (fun h13=> ?_) fun h14=> ?_
 refine gz4 ?_;refine uRp ?_
 (refine congrArg _ (zJ (e:=7) ?_ hg ?_ ?_)
  omega
  unfold zfp;exact uT
  first|decide|assumption)
 refine gz7 ?_;refine ⟨k+1,?_,?_,⟨rfl,trivial⟩,uK,Ab _⟩
 refine ⟨by omega,?_⟩
 rw [hg,za2 (by unfold zfp;(try clear hdx hg);(try simp only [Ae]);focus first|(simp_all;done)|((repeat' split)<;>focus first|rfl|(exfalso;omega)|(simp_all;done)|(exfalso;rcases ‹_\/_› with q|q<;>simp_all;done)|(exfalso;simp_all;omega)))]
 dsimp only;omega
 refine gz7 ?_;refine ⟨k+1,?_,?_,⟨rfl,trivial⟩,uK,Ab _⟩
 refine ⟨by omega,?_⟩
 rw [hg,za2 (by unfold zfp;(try clear hdx hg);(try simp only [Ae]);focus first|(simp_all;done)|((repeat' split)<;>focus first|rfl|(exfalso;omega)|(simp_all;done)|(exfalso;rcases ‹_\/_› with q|q<;>simp_all;done)|(exfalso;simp_all;omega)))]
 dsimp only;omega
 have hnk:l.length<=k:=by omega
 obtain rfl:k=l.length:=by omega
 rw [zP (Af _)] at hg;refine gz2 ?_;refine zG ?_;refine gz6 ?_;refine uRp ?_
 (refine congrArg _ (zcb ?_ hg)
  omega)
theorem zha [Tracks] {n d:Int} (hn: -1000000000000<=n/\n<=1000000000000) (hd:0<=d/\d<=1000000000000):ConP prog 267 [.int .i64 n,.int .i64 d] (.int .i64 ((Nat.gcd n.natAbs d.natAbs:Nat):Int)):=by
 refine uOb func267 ntmps267 ?_;refine gz5 ?_;refine uU2 [0,2,5,6] (fun (a:Int) (b:Int)=>[(0,.int .i64 a),(1,.int .i64 b)]) (fun (a:Int) (b:Int)=>[]) (fun (a:Int) (b:Int)=>(-1000000000000<=a/\a<=1000000000000)/\(-1000000000000<=b/\b<=1000000000000)/\Nat.gcd a.natAbs b.natAbs=Nat.gcd n.natAbs d.natAbs) (fun (a:Int) (b:Int)=>b.natAbs) (n) (d) ?_ ?_;exact ⟨hn,by omega,rfl⟩;rintro a b ⟨ha,hb,hg⟩;refine gz5 ?_;refine uCo (fun h1=> ?_) fun h2=> ?_
 have hb0:b≠0:=by simpa using h1
 obtain ⟨m1,m2,m3⟩:=zrS (a:=a) hb0;refine gz3 ?_;refine zmt mixed ?_;refine gz3 ?_;refine uB 3 rfl (zew rfl rfl uO) ?_;refine gz4 ?_;refine ⟨b,a.tmod b,?_,?_,⟨rfl,rfl,trivial⟩,uK,Ab _⟩
 exact ⟨hb,by omega,by rw [zvX];exact hg⟩
 dsimp only;exact m3
 obtain rfl:b=0:=by simpa using h2
 rw [show (0:Int).natAbs=0 from rfl,Nat.gcd_zero_right] at hg;refine gz2 ?_;refine zY ?_;refine gz5 ?_;refine dq (zmi rfl uO uO) ?_;refine dq (zxz rfl rfl) ?_;refine gz3 ?_;refine uRp ?_;rw [<-hg]
 congr 1
 omega
theorem zdJ [Tracks] {n d most:Int} (hn: -1000000000<=n/\n<=1000000000) (hd: -1000000000<=d/\d<=1000000000) (hm:0<=most/\most<=1000000):ConP prog 207 [.agg [.int .i64 n,.int .i64 d],.int .i64 most] (.int .i64 (zc5 n d most)):=by
 refine uOb func207 ntmps207 ?_;refine zkO ?_;refine dg rfl rfl (fun hc=>by
  have hd1:1<=d:=by (have q:=hc;simp at q;omega)
  exact ⟨_,OpenTo.upd (t:=13) rfl (hc) (OpenTo.upd (t:=11) rfl (hc) (OpenTo.refl _)),uCl zwD rfl (zha (n:=n) (d:=d) uO uO)⟩) ?_
 refine gz4 ?_;refine uCo (fun h1=> ?_) fun h2=> ?_
 have hp3:=pts3 (n:=n) (d:=d) (by assumption);refine gz4 ?_;refine uRp ?_;unfold zc5
 (rw [if_pos hp3])
 have hp0:=pts0 (n:=n) (d:=d) uSa;have hd1:1<=d:=by (focus first|omega|(simp_all;done)|(simp_all;omega))
 have hmd:=zuG (a:=most) (b:=d) (A:=1000000) (B:=1000000000) uO uO uO uO;have hmn: -most*d= -(most*d):=Int.neg_mul _ _;refine gz3 ?_;refine dq (zew rfl rfl uO) ?_;refine gz5 ?_;refine uGr rfl (fun hc=>by have hq:=hc;(try simp at hq);exact zmi rfl uO uO) ?_;refine gz2 ?_;refine uGr rfl (fun hc=>by have hq:=hc;(try simp at hq);exact zgA rfl rfl uO uO) ?_;refine gz8 ?_;refine uGr rfl (fun hc=>by have hq:=hc;(try simp at hq);exact zgA rfl rfl uO uO) ?_;refine gz4 ?_;refine uCo (fun h3=> ?_) fun h4=> ?_
 have hp1:=pts1 (n:=n) (d:=d) (m:=most) (by assumption);refine gz4 ?_;refine uRp ?_;unfold zc5
 (rw [if_neg (by rw [hp0];simp;omega),if_pos hp1])
 refine gz3 ?_;have hp2:=pts2 (n:=n) (d:=d) (m:=most) (by assumption);refine gz4 ?_;refine uRp ?_;unfold zc5
 (rw [if_neg (by rw [hp0];simp;omega),if_neg hp2])
theorem zjG [Tracks] {l:List RuleS} (hl:l.length<=1000000) (hb: ∀x∈l,((-1000000000<=x.Num/\x.Num<=1000000000)/\ -1000000000<=x.Den/\x.Den<=1000000000)):ConP prog 124 [ziN l] (.int .i64 (ziX l)):=by
 refine uOb func124 ntmps124 ?_;refine gz9 ?_;refine uCo (fun h1=> ?_) fun h2=> ?_
 refine gz4 ?_;refine uRp ?_
 (refine congrArg _ (zcw ?_)
  omega)
 refine zfq ?_;refine uT1 [2,2,5,3,13,70] (fun k=>[(13,.int .i64 k),(3,.str (zmF RuleS.Key zjw l k))]) (fun k=>[]) (fun k=>k<=l.length/\(za4 zd0 zjw l 0 l=za4 zd0 zjw l k (l.drop k))) (fun k=>l.length-k) (0) ?_ ?_;exact ⟨Ad _,rfl⟩;rintro k ⟨hk,hg⟩;refine gz4 ?_;refine uCo (fun h3=> ?_) fun h4=> ?_
 obtain ⟨x,hx⟩: ∃x,l[k]? =some x:=⟨_,Aa h3⟩
 have hdx:=zt hx;rw [hdx] at hg;refine gz7 ?_;refine de rfl (zq zhA rfl fun b5=> ?_)
 refine de0 (zz zhA rfl rfl rfl rfl rfl ?_)
 refine gz1 ?_;refine zl (zD 5 rfl) ?_;refine gz9 ?_;refine dq (zaq (h':= .bool (zqC x.Kind)) (zii rfl) rfl) ?_;refine gz6 ?_;refine dq (uCl zgO rfl za7) ?_;refine gz4 ?_;refine uGr rfl (fun hc=>uCl zgO rfl za7) ?_;refine gz9 ?_;refine uGr rfl (fun hc=>uCl zgO rfl za7) ?_;refine gz5 ?_;refine uCo (fun h5=> ?_) fun h6=> ?_
 refine gz4 ?_;refine uRp ?_
 (refine congrArg _ (zJ (e:=5) ?_ hg ?_ ?_)
  omega
  unfold zd0;exact uT
  first|decide|assumption)
 have hkx:key x.Key=true:=by simp_all
 have hll:=zsx (f:=RuleS.Key) (d:=zjw) (l:=l) (k:=k) (x:=x) hkx;refine gz7 ?_;refine uCo (fun h7=> ?_) fun h8=> ?_
 refine gz4 ?_;refine uRp ?_
 (refine congrArg _ (zJ (e:=7) ?_ hg ?_ ?_)
  omega
  unfold zd0;exact uT
  first|decide|assumption)
 refine gz3 ?_;refine dq (uCl zfD rfl zaW) ?_;refine gz3 ?_;refine uCo (fun h9=> ?_) fun h10=> ?_
 refine gz4 ?_;refine uRp ?_
 (refine congrArg _ (zJ (e:=4) ?_ hg ?_ ?_)
  omega
  unfold zd0;exact uT
  first|decide|assumption)
 refine gz5 ?_;refine uGr rfl (fun hc=>uCl zfD rfl zaW) ?_;refine zfW ?_;refine uCo (fun h11=> ?_) fun h12=> ?_
 refine gz4 ?_;refine uRp ?_
 (refine congrArg _ (zJ (e:=1) ?_ hg ?_ ?_)
  omega
  unfold zd0;exact uT
  first|decide|assumption)
 refine gz6 ?_;refine dq (zaq (h':= .agg [.int .i64 x.Num,.int .i64 x.Den]) (zaP zby rfl rfl (Ak rfl)) rfl) ?_;refine dq (uCl zta rfl (zdJ (n:=x.Num) (d:=x.Den) (most:=10000) (hb x (Ac hx)).1 (hb x (Ac hx)).2 uO)) ?_;refine gz6 ?_;refine uCo (fun h13=> ?_) fun h14=> ?_
 refine gz5 ?_;refine uRp ?_
 (refine congrArg _ (zJ (e:=(zc5 x.Num x.Den 10000)) ?_ hg ?_ ?_)
  omega
  unfold zd0;exact uT
  first|decide|assumption)
 refine zfW ?_;exact ⟨k+1,⟨by omega,by rw [hg,za2 (by unfold zd0;(try clear hdx hg);(try simp only [Ae]);focus first|(simp_all;done)|((repeat' split)<;>focus first|rfl|(exfalso;omega)|(simp_all;done)|(exfalso;rcases ‹_\/_› with q|q<;>simp_all;done)|(exfalso;simp_all;omega)))]⟩,uD,⟨rfl,congrArg (fun q=>some (HVal.str q)) (zpV hx).symm,trivial⟩,uK,Ab _⟩;have hnk:l.length<=k:=by omega
 obtain rfl:k=l.length:=by omega
 rw [zP (Af _)] at hg;refine gz2 ?_;refine zG ?_;refine gz6 ?_;refine uRp ?_
 (refine congrArg _ (zcb ?_ hg)
  omega)
theorem ziF [Tracks] {y x:SlotS}:ConP prog 209 [zbo y,.vptr (zd (zbo x)) 0] (.bool (y.Key==x.Key)):=by
 refine uOb func209 ntmps209 ?_;refine zfW ?_;refine zC rfl ?_
 rfl
theorem zjI [Tracks] {l:List SlotS} (hl:l.length<=1000000) (hp: ∀x∈l,x.Positions.length<=1000000):ConP prog 125 [zf7 l] (.int .i64 (zeg l)):=by
 refine uOb func125 ntmps125 ?_;refine zc8 ?_;refine uCo (fun h1=> ?_) fun h2=> ?_
 ·refine gz4 ?_;refine uRp ?_
  (unfold zeg;simp_all;done)
 ·refine gz6 ?_;refine uCo (fun h3=> ?_) fun h4=> ?_
  ·refine gz4 ?_;refine uRp ?_
   (rw [zeg,if_neg (by first|omega|simp_all),if_pos uO];done)
  ·refine zaD ?_;refine uT1 [2,4,16,21] (fun k=>[(16,.int .i64 k)]) (fun k=>[]) (fun k=>k<=l.length/\(zcv l 0 l=zcv l k (l.drop k))) (fun k=>l.length-k) (0) ?_ ?_
   ·exact ⟨Ad _,rfl⟩
   ·rintro k ⟨hk,hg⟩;refine gz4 ?_;refine uCo (fun h5=> ?_) fun h6=> ?_
    ·obtain ⟨x,hx⟩: ∃x,l[k]? =some x:=⟨_,Aa h5⟩
     have hdx:=zt hx;rw [hdx] at hg;refine gz8 ?_;refine de rfl (zq zbb rfl fun b4=> ?_)
     refine gz1 ?_;refine de0 (zz zbb rfl rfl rfl rfl rfl ?_)
     refine gz1 ?_;refine zl (zD 4 rfl) ?_;refine gz4 ?_;refine dq (uCl zgO rfl za7) ?_;refine gz2 ?_;refine uCo (fun h7=> ?_) fun h8=> ?_
     ·refine gz4 ?_;refine uRp ?_
      (refine congrArg _ (zht (e:=5) ?_ ?_ hg ?_)
       ·first|omega|simp_all
       ·omega
       ·rw [zcv]
        simp_all
        done)
     ·refine gz6 ?_;refine dq (za9 zdi zbb rfl rfl ⟨_,_,rfl,rfl⟩ uO uO) ?_;refine gz1 ?_;refine dq (uCl zws rfl (zcy (l:=l.take k) (p:=fun y=>y.Key==x.Key) zzr (fun _=>ziF) (by rw [AC];omega))) ?_;refine gz1 ?_;refine uCo (fun h9=> ?_) fun h10=> ?_
      ·refine gz4 ?_;refine uRp ?_
       (refine congrArg _ (zht (e:=6) ?_ ?_ hg ?_)
        ·first|omega|simp_all
        ·omega
        ·rw [zcv]
         simp_all
         done)
      ·refine gz5 ?_;refine dq (uCl zwr rfl (zgt (hp x (Ac hx)))) ?_;refine gz6 ?_;refine uCo (fun h11=> ?_) fun h12=> ?_
       ·refine gz5 ?_;refine uRp ?_
        (refine congrArg _ (zht (e:=(zhp x.Positions)) ?_ ?_ hg ?_)
         ·first|omega|simp_all
         ·omega
         ·rw [zcv]
          simp_all
          done)
       ·refine gz7 ?_;refine ⟨k+1,?_,?_,⟨rfl,trivial⟩,uK,Ab _⟩
        ·refine ⟨by omega,?_⟩
         rw [hg,zcv,if_neg uSa,if_neg uSa,if_neg uSa]
        ·dsimp only;omega
    ·have hnk:l.length<=k:=by omega
     obtain rfl:k=l.length:=by omega
     rw [zP (Af _)] at hg;refine gz2 ?_;refine zG ?_;refine gz6 ?_;refine uRp ?_
     (refine congrArg _ (zrL ?_ ?_ hg)<;>first|omega|simp_all)
theorem zi5 [Tracks] {b:BoundS}:ConP prog 126 [zcn b] (.int .i64 (zcl b)):=by
 refine uOb func126 ntmps126 ?_;refine gz8 ?_;refine dq (uCl zfD rfl zaW) ?_;refine gz4 ?_;refine uGr rfl (fun hc=>uCl zfD rfl zaW) ?_;refine gz5 ?_;refine uGr rfl (fun hc=>uCl zfD rfl zaW) ?_;refine gz5 ?_;refine uGr rfl (fun hc=>uCl zfD rfl zaW) ?_;refine gz3 ?_;refine uCo (fun h1=> ?_) fun h2=> ?_
 refine gz4 ?_;refine uRp ?_;unfold zcl
 (rw [if_pos uSa])
 refine gz6 ?_;refine uRp ?_;unfold zcl
 (rw [if_neg uSa])
theorem zgu [Tracks] {a b:MoveS} (ha:MovB a) (hb:MovB b):ConP prog 54 [zcK a,zcK b] (.int .i64 (zga a b)):=by
 obtain ⟨a1,a2⟩:=ha;obtain ⟨b1,b2⟩:=hb;refine uOb func54 ntmps54 ?_;refine zkO ?_;refine uCo (fun h1=> ?_) fun h2=> ?_
 refine gz6 ?_;refine dq (uCl zs3 rfl zgf) ?_;refine gz3 ?_;refine uRp ?_;rw [zku]
 try rw [zgn]
 simp_all
 refine gz8 ?_;refine uCo (fun h3=> ?_) fun h4=> ?_
 refine gz5 ?_;refine dq (uCl zcJ rfl zZ) ?_;refine gz3 ?_;refine uRp ?_;rw [zku]
 try rw [zgn]
 simp_all
 refine gz8 ?_;refine uCo (fun h5=> ?_) fun h6=> ?_
 refine gz5 ?_;refine dq (uCl zcJ rfl zZ) ?_;refine gz3 ?_;refine uRp ?_;rw [zku]
 try rw [zgn]
 simp_all
 refine gz9 ?_;refine dq (uCl zs3 rfl zgf) ?_;refine gz3 ?_;refine uRp ?_;rw [zku]
 try rw [zgn]
 simp_all
theorem zjE [Tracks] {l:List MoveS} (hl:l.length<=1000000) (hb: ∀x∈l,MovB x):ConP prog 60 [zbs l] (.int .i64 (zcj l)):=by
 refine uOb func60 ntmps60 ?_;refine gz9 ?_;refine uCo (fun h1=> ?_) fun h2=> ?_
 refine gz4 ?_;refine uRp ?_
 (refine congrArg _ (zcw ?_)
  omega)
 refine gz9 ?_;refine uT1 [2,3,10,40] (fun k=>[(10,.int .i64 k)]) (fun k=>[]) (fun k=>k<=l.length/\(za4 zen zie l 0 l=za4 zen zie l k (l.drop k))) (fun k=>l.length-k) (0) ?_ ?_;exact ⟨Ad _,rfl⟩;rintro k ⟨hk,hg⟩;refine gz4 ?_;refine uCo (fun h3=> ?_) fun h4=> ?_
 obtain ⟨x,hx⟩: ∃x,l[k]? =some x:=⟨_,Aa h3⟩
 have hdx:=zt hx;rw [hdx] at hg;refine gz8 ?_;refine de rfl (zq zv rfl fun b4=> ?_)
 refine gz1 ?_;refine de0 (zz zv rfl rfl rfl rfl rfl ?_)
 refine gz1 ?_;refine zl (zD 4 rfl) ?_;refine gz4 ?_;refine dq (uCl zwd rfl zhH) ?_;refine gz3 ?_;refine uCo (fun h5=> ?_) fun h6=> ?_
 refine gz4 ?_;refine uRp ?_
 (refine congrArg _ (zJ (e:=1) ?_ hg ?_ ?_)
  omega
  unfold zen;exact uT
  first|decide|assumption)
 refine gz3 ?_;refine dq (uCl zfD rfl zaW) ?_;refine gz3 ?_;refine uCo (fun h7=> ?_) fun h8=> ?_
 refine gz4 ?_;refine uRp ?_
 (refine congrArg _ (zJ (e:=4) ?_ hg ?_ ?_)
  omega
  unfold zen;exact uT
  first|decide|assumption)
 refine gz3 ?_;refine dq (uCl zgO rfl za7) ?_;refine gz4 ?_;refine uGr rfl (fun hc=>uCl zgO rfl za7) ?_;refine gz4 ?_;refine uCo (fun h9=> ?_) fun h10=> ?_
 refine gz4 ?_;refine uRp ?_
 (refine congrArg _ (zJ (e:=5) ?_ hg ?_ ?_)
  omega
  unfold zen;exact uT
  first|decide|assumption)
 have htu:=zvz (x:=x) (p:=l.getD (k-1) zie);refine uDr mixed ?_;refine gz6 ?_;refine uGy 6 rfl rfl (fun hc=>by have hq:=hc;(try simp at hq);exact zK (j:=k-1) (a:=l.getD (k-1) zie) zbr zv rfl rfl uO (getD_some uO)) ?_;refine gz2 ?_;refine uGy 9 rfl rfl (fun hc=>by have hq:=hc;(try simp at hq);exact uCl ca54 rfl (zgu (a:=l.getD (k-1) zie) (b:=x) (hb _ (Ac (getD_some uO))) (hb _ (Ac hx)))) ?_;refine gz4 ?_;refine uCo (fun h11=> ?_) fun h12=> ?_
 refine gz4 ?_;refine uRp ?_
 (refine congrArg _ (zJ (e:=7) ?_ hg ?_ ?_)
  omega
  unfold zen;exact uT
  first|decide|assumption)
 refine gz8 ?_;refine ⟨k+1,?_,?_,⟨rfl,trivial⟩,uK,Ab _⟩
 refine ⟨by omega,?_⟩
 rw [hg,za2 (by unfold zen;(try clear hdx hg);(try simp only [Ae]);focus first|(simp_all;done)|((repeat' split)<;>focus first|rfl|(exfalso;omega)|(simp_all;done)|(exfalso;rcases ‹_\/_› with q|q<;>simp_all;done)|(exfalso;simp_all;omega)))]
 dsimp only;omega
 have hnk:l.length<=k:=by omega
 obtain rfl:k=l.length:=by omega
 rw [zP (Af _)] at hg;refine gz2 ?_;refine zG ?_;refine gz6 ?_;refine uRp ?_
 (refine congrArg _ (zcb ?_ hg)
  omega)
theorem zf4 [Tracks] {l:List Str} (hl:l.length<=1000000):ConP prog 127 [eSs l] (.int .i64 (zcX l)):=by
 refine uOb func127 ntmps127 ?_;refine zc8 ?_;refine uCo (fun h1=> ?_) fun h2=> ?_
 refine gz4 ?_;refine uRp ?_
 (rw [zcX,if_pos uO])
 refine gz6 ?_;refine uCo (fun h3=> ?_) fun h4=> ?_
 refine gz4 ?_;refine uRp ?_
 (rw [zcX,if_neg uO,if_pos uO])
 refine gz5 ?_;refine dq (uCl zwt rfl (zhI (by assumption))) ?_;refine gz3 ?_;refine uRp ?_
 (rw [zcX,if_neg uO,if_neg uO])
theorem zgs [Tracks] {a b:GameS} (ha: -1000000000000000<=a.Week/\a.Week<=1000000000000000) (hb: -1000000000000000<=b.Week/\b.Week<=1000000000000000):ConP prog 113 [zaS a,zaS b] (.int .i64 (zfB a b)):=by
 refine uOb func113 ntmps113 ?_;refine zkO ?_;refine uCo (fun h1=> ?_) fun h2=> ?_
 refine gz6 ?_;refine dq (uCl zs3 rfl zgf) ?_;refine gz3 ?_;refine uRp ?_;rw [zne]
 try rw [zgn]
 simp_all
 refine gz8 ?_;refine uCo (fun h3=> ?_) fun h4=> ?_
 refine gz5 ?_;refine dq (uCl zcJ rfl zZ) ?_;refine gz3 ?_;refine uRp ?_;rw [zne]
 try rw [zgn]
 simp_all
 refine gz8 ?_;refine dq (uCl zcJ rfl zZ) ?_;refine gz3 ?_;refine uRp ?_;rw [zne]
 try rw [zgn]
 simp_all
theorem ziI [Tracks] {x:GameS} (hb:((-1000000000<=x.FNum/\x.FNum<=1000000000)/\ -1000000000<=x.FDen/\x.FDen<=1000000000)/\((-1000000000<=x.ONum/\x.ONum<=1000000000)/\ -1000000000<=x.ODen/\x.ODen<=1000000000)):ConP prog 211 [zaS x] (.int .i64 (zgV x)):=by
 refine uOb func211 ntmps211 ?_;refine zaD ?_;refine uCo (fun h1=> ?_) fun h2=> ?_
 refine gz3 ?_;refine dq (zaq (h':= .agg [.int .i64 x.FNum,.int .i64 x.FDen]) (zaP zby rfl rfl (Ak rfl)) rfl) ?_;refine dq (zO (cs:=[_,_]) zby zkY rfl) ?_;refine dq (zgB zby zqz rfl rfl ⟨rfl,⟨_,_,_,_,ty3,rfl⟩,⟨rfl,⟨_,_,_,_,ty3,rfl⟩,trivial⟩⟩) ?_;refine gz2 ?_;refine uGr rfl (fun hc=>zaq (h':= .agg [.int .i64 x.ONum,.int .i64 x.ODen]) (zaP zby rfl rfl (Ak rfl)) rfl) ?_;refine uGr rfl (fun hc=>zO (cs:=[_,_]) zby zkY rfl) ?_;refine uGr rfl (fun hc=>zgB zby zqz rfl rfl ⟨rfl,⟨_,_,_,_,ty3,rfl⟩,⟨rfl,⟨_,_,_,_,ty3,rfl⟩,trivial⟩⟩) ?_;refine gz2 ?_;refine uCo (fun h3=> ?_) fun h4=> ?_
 simp [za8,zfo,eqH] at h3
 refine gz4 ?_;refine uRp ?_
 (unfold zgV;simp_all)
 refine gz2 ?_
 simp [za8,zfo,eqH] at h4
 refine gz4 ?_;refine uRp ?_
 (unfold zgV;simp_all)
 refine gz2 ?_;have hpl:x.Played=true:=by simpa using h2
 have hgf:=zvj hpl;refine uDr mixed ?_;refine gz1 ?_;refine uB 1 rfl (zaq (h':= .agg [.int .i64 x.FNum,.int .i64 x.FDen]) (zaP zby rfl rfl (Ak rfl)) rfl) ?_;refine uB 2 rfl (uCl zta rfl (zdJ (n:=x.FNum) (d:=x.FDen) (most:=1000000) hb.1.1 hb.1.2 uO)) ?_;refine gz1 ?_;refine uB 4 rfl (zaq (h':= .agg [.int .i64 x.ONum,.int .i64 x.ODen]) (zaP zby rfl rfl (Ak rfl)) rfl) ?_;refine uB 5 rfl (uCl zta rfl (zdJ (n:=x.ONum) (d:=x.ODen) (most:=1000000) hb.2.1 hb.2.2 uO)) ?_;refine gz5 ?_;refine dq (za (hs:=[_,_]) zeq zgo rfl rfl (by decide) (by decide) rfl) ?_;refine dq (zaw (f:=HVal.int .i64) (l:=([3,1]:List Int)) zeq rfl) ?_;refine gz3 ?_;refine uT1 [2,1,6,1,28,14] (fun k=>[(28,.int .i64 k)]) (fun k=>[]) (fun k=>k<=([3,1]:List Int).length/\(zvZ (zc5 x.FNum x.FDen 1000000) (zc5 x.ONum x.ODen 1000000)=zms (zc5 x.FNum x.FDen 1000000) (zc5 x.ONum x.ODen 1000000) (([3,1]:List Int).drop k))) (fun k=>([3,1]:List Int).length-k) (0) ?_ ?_;exact ⟨Ad _,rfl⟩;rintro k ⟨hk,hg⟩;refine gz4 ?_;refine uCo (fun h5=> ?_) fun h6=> ?_
 obtain ⟨z,hz⟩: ∃z,([3,1]:List Int)[k]? =some z:=⟨_,Aa (by show k<2;omega)⟩
 have hdz:=zt hz;rw [hdz] at hg;refine gz5 ?_;refine dq (zK zeq zgo rfl rfl rfl (by assumption)) ?_;refine zfW ?_;refine uCo (fun h7=> ?_) fun h8=> ?_
 refine gz5 ?_;refine uRp ?_
 (rw [hgf,hg,zms,if_pos uSa])
 refine gz7 ?_;refine ⟨k+1,?_,?_,⟨rfl,trivial⟩,uK,Ab _⟩
 refine ⟨by show k+1<=2;omega,?_⟩
 rw [hg,zms,if_neg uSa]
 show 2-(k+1)<2-k
 omega
 refine gz2 ?_;refine zG ?_;refine gz6 ?_;refine uRp ?_
 (have e2:k=2:=by (have q:([3,1]:List Int).length=2:=rfl;omega)
  subst e2;rw [hgf,hg];rfl)
theorem ziC [Tracks] {y x:GameS}:ConP prog 212 [zaS y,.vptr (zd (zaS x)) 0] (.bool (zhN x y)):=by
 refine uOb func212 ntmps212 ?_;refine gz40 ?_;refine gz1 ?_;refine zC rfl ?_
 show HVal.bool _=_
 unfold zhN
 simp [B2]
theorem zjD [Tracks] {T:List Str} {l:List GameS} (hT:T.length<=1000000) (hl:l.length<=1000000) (hb: ∀x∈l,GamB x):ConP prog 128 [eSs T,zkd l] (.int .i64 (zfV T l)):=by
 refine uOb func128 ntmps128 ?_;refine gz6 ?_;refine dq (uCl zwc rfl (zf4 (by assumption))) ?_;refine gz6 ?_;refine uCo (fun h1=> ?_) fun h2=> ?_
 ·refine gz5 ?_;refine uRp ?_
  try rw [hE]
  (rw [zfV,if_pos (by assumption)];done)
 ·refine gz3 ?_;have hz:zcX T=0:=by first|assumption|simp_all
  have hE:zfV T l=zec T l:=by rw [zfV,if_neg (by simp [hz])]
  refine gz5 ?_;refine uCo (fun h3=> ?_) fun h4=> ?_
  ·refine gz4 ?_;refine uRp ?_
   try rw [hE]
   (refine congrArg _ (zdR (zcw ?_) (by decide))
    omega)
  ·refine gz9 ?_;refine uT1 [4,1,6,3,21,47] (fun k=>[(21,.int .i64 k)]) (fun k=>[]) (fun k=>k<=l.length/\(za4 (zcp T) zeo l 0 l=za4 (zcp T) zeo l k (l.drop k))) (fun k=>l.length-k) (0) ?_ ?_
   ·exact ⟨Ad _,rfl⟩
   ·rintro k ⟨hk,hg⟩;refine gz4 ?_;refine uCo (fun h5=> ?_) fun h6=> ?_
    ·obtain ⟨x,hx⟩: ∃x,l[k]? =some x:=⟨_,Aa h5⟩
     have hdx:=zt hx;rw [hdx] at hg;refine gz8 ?_;refine de rfl (zq zb6 rfl fun b7=> ?_)
     refine gz1 ?_;refine de0 (zz zb6 rfl rfl rfl rfl rfl ?_)
     refine gz1 ?_;refine zl (zD 7 rfl) ?_;refine gz5 ?_;refine dq (uCl zs9 rfl zge) ?_;refine gz3 ?_;refine uCo (fun h7=> ?_) fun h8=> ?_
     ·refine gz4 ?_;refine uRp ?_
      try rw [hE]
      (refine congrArg _ (zdR (e:=1) (zJ ?_ hg ?_ ?_) ?_)
       ·omega
       ·unfold zcp
        simp_all
        done
       ·first|decide|assumption
       ·first|decide|assumption)
     ·refine gz4 ?_;refine dq (uCl zfU rfl (zH (l:=T) (s:=x.Home) uO)) ?_;refine gz5 ?_;refine uGr rfl (fun hc=>by have hq:=hc;(try simp at hq);exact uCl zfU rfl (zH (l:=T) (s:=x.Away) uO)) ?_;refine gz4 ?_;refine uCo (fun h9=> ?_) fun h10=> ?_
      ·refine gz4 ?_;refine uRp ?_
       try rw [hE]
       (refine congrArg _ (zdR (e:=8) (zJ ?_ hg ?_ ?_) ?_)
        ·omega
        ·unfold zcp
         simp_all
         done
        ·first|decide|assumption
        ·first|decide|assumption)
      ·refine gz8 ?_;refine uCo (fun h11=> ?_) fun h12=> ?_
       ·refine gz4 ?_;refine uRp ?_
        try rw [hE]
        (refine congrArg _ (zdR (e:=6) (zJ ?_ hg ?_ ?_) ?_)
         ·omega
         ·unfold zcp
          simp_all
          done
         ·first|decide|assumption
         ·first|decide|assumption)
       ·refine gz5 ?_;refine dq (zaV (h:=zaS x) zb6 rfl rfl rfl rfl) ?_;refine dq (uCl zzs rfl (ziI (x:=x) ⟨(hb x (Ac hx)).fr,(hb x (Ac hx)).ot⟩)) ?_;refine gz6 ?_;refine uCo (fun h13=> ?_) fun h14=> ?_
        ·refine gz5 ?_;refine uRp ?_
         try rw [hE]
         (refine congrArg _ (zdR (e:=(zgV x)) (zJ ?_ hg ?_ ?_) ?_)
          ·omega
          ·unfold zcp
           simp_all
           done
          ·first|decide|assumption
          ·first|decide|assumption)
        ·refine gz2 ?_;have htu:=zvk (x:=x) (p:=l.getD (k-1) zeo);refine uDr mixed ?_;refine gz6 ?_;refine uGy 6 rfl rfl (fun hc=>by have hq:=hc;(try simp at hq);exact zK (j:=k-1) (a:=l.getD (k-1) zeo) zfy zb6 rfl rfl uO (getD_some uO)) ?_;refine gz2 ?_;refine uGy 9 rfl rfl (fun hc=>by have hq:=hc;(try simp at hq);exact uCl zv9 rfl (zgs (a:=l.getD (k-1) zeo) (b:=x) (hb _ (Ac (getD_some uO))).week (hb _ (Ac hx)).week)) ?_;refine gz3 ?_;refine uCo (fun h15=> ?_) fun h16=> ?_
         ·refine gz4 ?_;refine uRp ?_
          try rw [hE]
          (refine congrArg _ (zdR (e:=7) (zJ ?_ hg ?_ ?_) ?_)
           ·omega
           ·unfold zcp
            simp_all
            done
           ·first|decide|assumption
           ·first|decide|assumption)
         ·refine gz7 ?_;refine ⟨k+1,?_,?_,⟨rfl,trivial⟩,uK,Ab _⟩
          ·refine ⟨by omega,?_⟩
           rw [hg,za2 (by unfold zcp;(try clear hdx hg);(try simp only [Ae]);first|(simp_all;done)|((repeat' split)<;>first|rfl|(exfalso;omega)|(simp_all;done)|(exfalso;rcases ‹_\/_› with q|q<;>simp_all;done)|(exfalso;simp_all;omega)))]
          ·dsimp only;omega
    ·have hnk:l.length<=k:=by omega
     obtain rfl:k=l.length:=by omega
     rw [zP (Af _)] at hg;refine gz2 ?_;refine zG ?_;refine gz9 ?_;refine uT1 [4,1,9,2,70,11] (fun k=>[(70,.int .i64 k)]) (fun k=>[]) (fun k=>k<=l.length/\(zdv l 0 l=zdv l k (l.drop k))) (fun k=>l.length-k) (0) ?_ ?_
     ·exact ⟨Ad _,rfl⟩
     ·rintro k ⟨hk,hg2⟩;refine gz4 ?_;refine uCo (fun h17=> ?_) fun h18=> ?_
      ·obtain ⟨x,hx⟩: ∃x,l[k]? =some x:=⟨_,Aa h17⟩
       have hdx:=zt hx;rw [hdx] at hg2;refine gz8 ?_;refine de rfl (zq zb6 rfl fun b10=> ?_)
       refine gz1 ?_;refine de0 (zz zb6 rfl rfl rfl rfl rfl ?_)
       refine gz1 ?_;refine zl (zD 10 rfl) ?_;refine gz3 ?_;refine dq (za9 zfy zb6 rfl rfl ⟨_,_,rfl,rfl⟩ uO uO) ?_;refine gz1 ?_;refine dq (uCl zs4 rfl (zbB (l:=l.take k) (p:=zhN x) zzt (fun _=>ziC) (by rw [AC];omega))) ?_;refine gz1 ?_;refine uCo (fun h19=> ?_) fun h20=> ?_
       ·refine gz4 ?_;refine uRp ?_
        try rw [hE]
        (rw [zec,if_neg (by rw [<-zcb uO hg];simp),if_pos (by rw [hg2,zdv];simp_all)];done)
       ·refine gz7 ?_;refine ⟨k+1,?_,?_,⟨rfl,trivial⟩,uK,Ab _⟩
        ·refine ⟨by omega,?_⟩
         rw [hg2,zdv];simp_all
        ·dsimp only;omega
      ·have hnk:l.length<=k:=by omega
       obtain rfl:k=l.length:=by omega
       rw [zP (Af _)] at hg2;refine gz2 ?_;refine zG ?_;refine gz6 ?_;refine uRp ?_
       try rw [hE]
       (rw [zec,if_neg (by rw [<-zcb uO hg];simp),if_neg (by rw [hg2];simp [zdv])];done)
theorem zi6 [Tracks] {l:List Int} (hl:l.length<=1000000):ConP prog 131 [.slice 1 (l.map (HVal.int .i64))] (.int .i64 (zhW l)):=by
 refine uOb func131 ntmps131 ?_;refine gz9 ?_;refine uCo (fun h1=> ?_) fun h2=> ?_
 ·refine gz4 ?_;refine uRp ?_
  (rw [zhW,if_pos uO];done)
 ·refine gz9 ?_;refine uT1 [2,3,10,14] (fun k=>[(10,.int .i64 k)]) (fun k=>[]) (fun k=>k<=l.length/\(zdV l 0 l=zdV l k (l.drop k))) (fun k=>l.length-k) (0) ?_ ?_
  ·exact ⟨Ad _,rfl⟩
  ·rintro k ⟨hk,hg⟩;refine gz4 ?_;refine uCo (fun h3=> ?_) fun h4=> ?_
   ·obtain ⟨x,hx⟩: ∃x,l[k]? =some x:=⟨_,Aa h3⟩
    have hdx:=zt hx;rw [hdx] at hg;refine zeu ?_;refine dq (uCl zfD rfl zaW) ?_;refine gz2 ?_;refine uCo (fun h5=> ?_) fun h6=> ?_
    ·refine gz4 ?_;refine uRp ?_
     (refine congrArg _ (zmy (e:=4) ?_ hg ?_)
      ·omega
      ·rw [zdV]
       simp_all
       done)
    ·refine gz5 ?_;refine dq (za9 zad ty3 rfl rfl ⟨_,_,rfl,rfl⟩ uO uO) ?_;refine gz1 ?_;refine dq (uCl zwu rfl (zfc (l:=l.take k) (z:=x) (by rw [AC];omega))) ?_;refine gz1 ?_;refine uCo (fun h7=> ?_) fun h8=> ?_
     ·refine gz4 ?_;refine uRp ?_
      (refine congrArg _ (zmy (e:=6) ?_ hg ?_)
       ·omega
       ·rw [zdV]
        simp_all
        done)
     ·refine gz7 ?_;refine ⟨k+1,?_,?_,⟨rfl,trivial⟩,uK,Ab _⟩
      ·refine ⟨by omega,?_⟩
       rw [hg,zdV,if_neg uSa,if_neg uSa]
      ·dsimp only;omega
   ·have hnk:l.length<=k:=by omega
    obtain rfl:k=l.length:=by omega
    rw [zP (Af _)] at hg;refine gz2 ?_;refine zG ?_;refine gz6 ?_;refine uRp ?_
    (refine congrArg _ (zse ?_ hg)
     omega)
end
section
open Go.Proofs.Tryz
open Go.HL
theorem zlC [Tracks] {a b:MendS}:ConP prog 139 [zco a,zco b] (.int .i64 (zeG a b)):=by
 refine uOb func139 ntmps139 ?_;refine gz5 ?_;refine uDr mixed ?_;refine gz4 ?_;refine uB 4 rfl (uCl zcJ rfl zZ) ?_;refine gz4 ?_;refine uB 9 rfl (uCl zdF rfl zae) ?_;refine gz4 ?_;refine uB 14 rfl (uCl zcJ rfl zZ) ?_;refine gz4 ?_;refine uB 19 rfl (uCl zdF rfl zae) ?_;refine uB 20 rfl (za (hs:=[_,_,_,_]) zad ty3 rfl rfl (by decide) (by decide) rfl) ?_;refine uB 21 rfl (uCl zgP rfl (zbO (l:=[_,_,_,_]) (by simp))) ?_;refine gz3 ?_;refine zC rfl ?_
 rfl
theorem zjA [Tracks] {m:List MendS} (hl:m.length<=1000000) (hgm: ∀x∈m,zgE x):ConP prog 62 [zcU m] (.int .i64 (zeY m)):=by
 refine uOb func62 ntmps62 ?_;refine gz9 ?_;refine uCo (fun h1=> ?_) fun h2=> ?_
 ·refine gz4 ?_;refine uRp ?_
  (rw [zeY,if_pos uO];done)
 ·refine gz9 ?_;refine uT1 [2,3,10,59] (fun k=>[(10,.int .i64 k)]) (fun k=>[]) (fun k=>k<=m.length/\(zdX zaO zeG zep m 0 m=zdX zaO zeG zep m k (m.drop k))) (fun k=>m.length-k) (0) ?_ ?_
  ·exact ⟨Ad _,rfl⟩
  ·rintro k ⟨hk,hg⟩;refine gz4 ?_;refine uCo (fun h3=> ?_) fun h4=> ?_
   ·obtain ⟨x,hx⟩: ∃x,m[k]? =some x:=⟨_,Aa h3⟩
    have hdx:=zt hx;rw [hdx] at hg;refine gz8 ?_;refine de rfl (zq zg6 rfl fun b4=> ?_)
    refine gz1 ?_;refine de0 (zz zg6 rfl rfl rfl rfl rfl ?_)
    refine gz1 ?_;refine zl (zD 4 rfl) ?_;refine gz4 ?_;refine dq (uCl zic rfl (zbH (hgm x (Ac hx)).1)) ?_;refine gz4 ?_;refine uGr rfl (fun hc=>uCl zic rfl (zbH (hgm x (Ac hx)).2.1)) ?_;refine gz5 ?_;refine uGr rfl (fun hc=>uCl zic rfl (zbH (hgm x (Ac hx)).2.2)) ?_;refine gz4 ?_;refine uCo (fun h5=> ?_) fun h6=> ?_
    ·refine gz4 ?_;refine uRp ?_
     (refine congrArg _ (zjt (c:=5) uO hg (by decide) ?_)
      rw [zaO,if_pos]
      simp_all
      done)
    ·refine gz3 ?_;refine dq (uCl zs6 rfl zc2) ?_;refine gz4 ?_;refine uGr rfl (fun hc=>uCl znn rfl zcD) ?_;refine gz5 ?_;refine uGr rfl (fun hc=>uCl zo0 rfl zbt) ?_;refine gz5 ?_;refine uGr rfl (fun hc=>uCl znn rfl zcD) ?_;refine gz4 ?_;refine uCo (fun h7=> ?_) fun h8=> ?_
     ·refine gz4 ?_;refine uRp ?_
      (refine congrArg _ (zjt (c:=1) uO hg (by decide) ?_)
       rw [zaO,if_neg,if_pos]
       all_goals simp_all
       done)
     ·refine uDr mixed ?_;refine gz6 ?_;refine uGy 6 rfl rfl (fun hc=>by have hq:=hc;(try simp at hq);exact zK (j:=k-1) (a:=m.getD (k-1) zep) zlb zg6 rfl rfl uO (getD_some uO)) ?_;refine gz2 ?_;refine uGy 9 rfl rfl (fun hc=>uCl zyR rfl zlC) ?_;refine gz4 ?_;refine uCo (fun h9=> ?_) fun h10=> ?_
      ·refine gz4 ?_;refine uRp ?_
       (have f1:=zjf.flip x (m.getD (k-1) zep) trivial trivial
        have f2:=zjf.flip (m.getD (k-1) zep) x trivial trivial;refine congrArg _ (zpX uO hg ?_ ?_ ?_)
        ·rw [zaO,if_neg,if_neg]<;>simp_all
        ·simp_all
        ·simp_all;omega)
      ·refine gz8 ?_;refine ⟨k+1,?_,?_,⟨rfl,trivial⟩,uK,Ab _⟩
       ·refine ⟨by omega,?_⟩
        rw [hg,zq4 (by rw [zaO,if_neg uSa,if_neg uSa]) (by intro hk0;have:=zjf.flip x (m.getD (k-1) zep) trivial trivial;have:=zjf.flip (m.getD (k-1) zep) x trivial trivial;simp_all;try omega)]
       ·dsimp only;omega
   ·have hnk:m.length<=k:=by omega
    obtain rfl:k=m.length:=by omega
    rw [zP (Af _)] at hg;refine gz2 ?_;refine zG ?_;refine gz6 ?_;refine uRp ?_
    (rw [zeY,if_neg uO,hg];rfl)
end
section
open Go.Proofs.Tryz
open Go.HL
theorem zqg [Tracks] {l:List Str} {fid:FuncId} {caps:List HVal} {p:Str->Bool} (hca:Callable prog fid) (hp: ∀x∈l,ConP prog fid ([HVal.str x]++caps) (.bool (p x))) (hl:l.length<=1000000):ConP prog 148 [.slice 1 (l.map HVal.str),.fn (.func fid) [] caps] (.int .i64 (zag p l 0)):=by
 refine uOb func148 ntmps148 ?_;refine zaD ?_;refine uT1 [4,2,8,11] (fun k=>[(8,.int .i64 k)]) (fun k=>[]) (fun k=>k<=l.length/\(zag p l 0=zag p (l.drop k) k)) (fun k=>l.length-k) (0) ?_ ?_;exact ⟨Ad _,rfl⟩;rintro k ⟨hk,hg⟩;refine gz4 ?_;refine uCo (fun h1=> ?_) fun h2=> ?_
 obtain ⟨x,hx⟩: ∃x,l[k]? =some x:=⟨_,Aa h1⟩
 have hdx:=zt hx;rw [hdx] at hg;refine zeu ?_;refine dq (zaB hca rfl rfl (WeakL.refl _) (hp _ (Ac hx))) ?_;refine gz1 ?_;refine uCo (fun h3=> ?_) fun h4=> ?_
 refine gz5 ?_;refine uRp ?_
 (rw [hg];simp_all [zag])
 refine gz7 ?_;refine ⟨k+1,?_,?_,⟨rfl,trivial⟩,uK,Ab _⟩
 refine ⟨by omega,?_⟩
 rw [hg,zag,if_neg uSa];rfl
 dsimp only;omega
 have hnk:l.length<=k:=by omega
 obtain rfl:k=l.length:=by omega
 rw [zP (Af _)] at hg;refine gz2 ?_;refine zG ?_;refine gz6 ?_;refine uRp ?_
 (rw [hg];rfl)
theorem zng [Tracks] {l:List Str} {fid:FuncId} {caps:List HVal} {p:Str->Bool} (hca:Callable prog fid) (hp: ∀x∈l,ConP prog fid ([HVal.str x]++caps) (.bool (p x))) (hl:l.length<=1000000):ConP prog 69 [.slice 1 (l.map HVal.str),.fn (.func fid) [] caps] (.bool (l.any p)):=by
 refine uOb func69 ntmps69 ?_;refine gz6 ?_;refine dq (uCl zs5 rfl (zqg hca hp hl)) ?_;refine gz4 ?_;refine zC rfl ?_
 congr 1;exact zed p l 0 uO
theorem zh7 [Tracks] {x:GameS}:ConP prog 130 [zaS x] (.bool x.Played):=by
 refine uOb func130 ntmps130 ?_;refine zaD ?_;refine zC rfl ?_
 rfl
theorem zi3 [Tracks] {g:LeagueS} (hT:Tracks.on=false) (hb:LeaB g) (hg: ∀x∈g.Games,GamB x) (ht: ∀s∈g.Trust,Sh s):ConP prog 59 [zca g] (.int .i64 (zbp g)):=by
 have hst:=hb.sta;refine uOb func59 ntmps59 ?_;refine gz8 ?_;refine dq (uCl zyF rfl (ziE (l:=g.Players) hT hb.pl hb.nm hb.po)) ?_;refine gz6 ?_;refine uCo (fun h1=> ?_) fun h2=> ?_
 refine gz5 ?_;refine uRp ?_;exact congrArg _ (zuy (by assumption));refine gz3 ?_;refine uDr mixed ?_;refine gz4 ?_;refine uB 4 rfl (uCl zyG rfl (zi8 (L:=g.Players) (l:=g.Stints) hb.pl hb.st)) ?_;refine gz2 ?_;refine uB 7 rfl (uCl zyH rfl (zh8 (l:=g.Fixtures) hb.fx)) ?_;refine gz2 ?_;refine uB 10 rfl (uCl zyI rfl (zjG (l:=g.Rules) hb.ru hb.rw')) ?_;refine gz2 ?_;refine uB 13 rfl (uCl zyJ rfl (zjI (l:=g.Slots) hb.sl hb.sp)) ?_;refine gz1 ?_;refine uB 15 rfl (zaq (h':=zcn g.Bounds) (zaP zdN rfl rfl (Ak rfl)) rfl) ?_;refine uB 16 rfl (uCl zyK rfl (zi5 (b:=g.Bounds))) ?_;refine gz2 ?_;refine uB 19 rfl (uCl zwc rfl (zf4 (l:=g.Teams) hb.tm)) ?_;refine uB 20 rfl (za (hs:=[_,_,_,_,_,_]) zeq zgo rfl rfl (by decide) (by decide) rfl) ?_;refine uB 21 rfl (uCl zq1 rfl (zcS (l:=[_,_,_,_,_,_]) (by simp))) ?_;refine gz6 ?_;refine uCo (fun h3=> ?_) fun h4=> ?_
 refine gz5 ?_;refine uRp ?_;exact congrArg _ (zx7 (by assumption) (by assumption));refine gz3 ?_;have hB:zh1 g=0:=by assumption
 have hgt:=zw4 (l:=g.Games) (zvx hB);refine gz5 ?_;refine dq (zaq (uCl zyL rfl (zjD (T:=g.Teams) (l:=g.Games) hb.tm hb.ga hg)) (congrArg (HVal.int .i64) hgt)) ?_;refine gz6 ?_;refine uCo (fun h5=> ?_) fun h6=> ?_
 refine gz5 ?_;refine uRp ?_;exact congrArg _ (zx8 (by assumption) hB (by assumption));refine gz6 ?_;refine dq (uCl zs4 rfl (zbB (l:=g.Games) (p:=fun x=>x.Played) zyM (fun _=>zh7) hb.ga)) ?_;refine gz1 ?_;refine uCo (fun h7=> ?_) fun h8=> ?_
 refine gz4 ?_;refine uRp ?_;exact congrArg _ (zx9 (by assumption) hB (by assumption) (by unfold zdo;simp_all));refine gz3 ?_;refine uDr mixed ?_;refine gz2 ?_;refine uB 2 rfl (uCl zyN rfl (zi6 (l:=g.Breaks) hb.br)) ?_;refine gz2 ?_;refine uB 5 rfl (uCl zyO rfl (zjC (l:=g.Trust) hb.tr ht)) ?_;refine gz2 ?_;refine uB 8 rfl (uCl zo0 rfl zbt) ?_;refine uB 9 rfl (za (hs:=[_,_,_]) zeq zgo rfl rfl (by decide) (by decide) rfl) ?_;refine uB 10 rfl (uCl zq1 rfl (zcS (l:=[_,_,_]) (by simp))) ?_;refine gz6 ?_;refine uCo (fun h9=> ?_) fun h10=> ?_
 refine gz5 ?_;refine uRp ?_;exact congrArg _ (zya (by assumption) hB (by assumption) (by unfold zdo;simp_all) (by assumption));refine gz8 ?_;refine uCo (fun h11=> ?_) fun h12=> ?_
 refine gz4 ?_;refine uRp ?_
 (rw [zuz (by assumption) hB (by assumption) (by unfold zdo;simp_all) (by assumption),if_pos uO])
 refine gz6 ?_;refine uRp ?_
 (rw [zuz (by assumption) hB (by assumption) (by unfold zdo;simp_all) (by assumption),if_neg uO])
theorem zkx [Tracks] {a b:ChoiceS}:ConP prog 141 [z8 a,z8 b] (.int .i64 (zjc a b)):=by
 refine uOb func141 ntmps141 ?_;refine gz5 ?_;refine uDr mixed ?_;refine gz4 ?_;refine uB 4 rfl (uCl zcJ rfl zZ) ?_;refine gz4 ?_;refine uB 9 rfl (uCl zdF rfl zae) ?_;refine gz4 ?_;refine uB 14 rfl (uCl zdF rfl zae) ?_;refine uB 15 rfl (za (hs:=[_,_,_]) zad ty3 rfl rfl (by decide) (by decide) rfl) ?_;refine uB 16 rfl (uCl zgP rfl (zbO (l:=[_,_,_]) (by simp))) ?_;refine gz3 ?_;refine zC rfl ?_
 rfl
theorem zeT [Tracks] {s:Str} (hs:Sh s):ConP prog 140 [.str s] (.bool (!(zbV s))):=by
 refine uOb func140 ntmps140 ?_;refine gz8 ?_;refine uGr rfl (fun hc=>uCl zic rfl (zbH hs)) ?_;refine gz5 ?_;refine zC rfl ?_
 show HVal.bool _=_
 rw [zuH]
 cases s with
 |nil=>rfl
 |cons x r=>simp
theorem ziB [Tracks] {g:LeagueS} {l:List ChoiceS} (hb:LeaB g) (hl:l.length<=1000000) (hp: ∀x∈l,x.Players.length<=1000000) (hcs: ∀x∈l,(∀s∈x.Players,Sh s)/\Sh x.Captain):ConP prog 64 [zca g,zc6 l] (.int .i64 (zo1 g.Teams g.Slots.length l)):=by
 refine uOb func64 ntmps64 ?_;refine zaD ?_;refine uCo (fun h1=> ?_) fun h2=> ?_
 refine gz4 ?_;refine uRp ?_
 (refine congrArg _ (zcw ?_)
  omega)
 refine zfq ?_;refine uT1 [4,1,6,2,13,56] (fun k=>[(13,.int .i64 k)]) (fun k=>[]) (fun k=>k<=l.length/\(za4 (zbT g.Teams g.Slots.length) zdn l 0 l=za4 (zbT g.Teams g.Slots.length) zdn l k (l.drop k))) (fun k=>l.length-k) (0) ?_ ?_;exact ⟨Ad _,rfl⟩;rintro k ⟨hk,hg⟩;refine gz4 ?_;refine uCo (fun h3=> ?_) fun h4=> ?_
 obtain ⟨x,hx⟩: ∃x,l[k]? =some x:=⟨_,Aa h3⟩
 have hdx:=zt hx;rw [hdx] at hg;refine gz6 ?_;refine dq (zK zeh zbZ rfl rfl rfl (by assumption)) ?_;refine gz1 ?_;refine de rfl (zq zbZ rfl fun b7=> ?_)
 refine gz1 ?_;refine de0 (zz zbZ rfl rfl rfl rfl rfl ?_)
 refine gz1 ?_;refine zl (zD 7 rfl) ?_;refine gz1 ?_;have hwk: ∀n:Int,((if zbc n then (0:Int) else 1)=0)↔zbc n=true:=fun n=>by cases zbc n<;>simp
 have hmo: ∀n:Int,((if zL n then (0:Int) else 1)=0)↔zL n=true:=fun n=>by cases zL n<;>simp
 refine gz5 ?_;refine dq (uCl zfU rfl (zH (l:=g.Teams) (s:=x.Team) (by have:=hb.tm;omega))) ?_;refine gz3 ?_;refine uCo (fun h5=> ?_) fun h6=> ?_
 refine gz4 ?_;refine uRp ?_
 (refine congrArg _ (zJ (e:=8) ?_ hg ?_ ?_)
  omega
  unfold zbT
  (try generalize ((x.Players++[x.Captain]).all zbV)=N at*)
  exact uT
  first|decide|assumption)
 refine gz3 ?_;refine dq (uCl zs6 rfl zc2) ?_;refine gz4 ?_;refine uGr rfl (fun hc=>uCl zo0 rfl zbt) ?_;refine gz4 ?_;refine uCo (fun h7=> ?_) fun h8=> ?_
 refine gz4 ?_;refine uRp ?_
 (refine congrArg _ (zJ (e:=1) ?_ hg ?_ ?_)
  omega
  unfold zbT
  (try generalize ((x.Players++[x.Captain]).all zbV)=N at*)
  exact uT
  first|decide|assumption)
 refine gz3 ?_;refine dq (zaw (f:=HVal.str) (l:=x.Players) zu rfl) ?_;refine gz2 ?_;refine dq (zaw (f:=zbo) (l:=g.Slots) zdi rfl) ?_;refine gz3 ?_;refine uCo (fun h9=> ?_) fun h10=> ?_
 refine gz4 ?_;refine uRp ?_
 (refine congrArg _ (zJ (e:=3) ?_ hg ?_ ?_)
  omega
  unfold zbT
  (try generalize ((x.Players++[x.Captain]).all zbV)=N at*)
  exact uT
  first|decide|assumption)
 refine gz4 ?_;refine dq (uCl ztj rfl (zng (l:=x.Players) (p:=fun s=> !(zbV s)) zwe (fun s hs=>zeT ((hcs x (Ac hx)).1 s hs)) (hp x (Ac hx)))) ?_;refine gz4 ?_;refine uGr rfl (fun hc=>zaB zwe rfl rfl (WeakL.refl _) (zeT (hcs x (Ac hx)).2)) ?_;refine gz3 ?_;refine uCo (fun h11=> ?_) fun h12=> ?_
 have hbad:((x.Players++[x.Captain]).all zbV)=false:=zr6 (by assumption);refine gz4 ?_;refine uRp ?_
 (refine congrArg _ (zJ (e:=5) ?_ hg ?_ ?_)
  omega
  unfold zbT
  (try generalize ((x.Players++[x.Captain]).all zbV)=N at*)
  exact uT
  first|decide|assumption)
 have hgood:((x.Players++[x.Captain]).all zbV)=true:=by rw [zuI];simp_all
 have htu:=zvb (x:=x) (p:=l.getD (k-1) zdn);refine uDr mixed ?_;refine gz6 ?_;refine uGy 6 rfl rfl (fun hc=>by have hq:=hc;(try simp at hq);exact zK (j:=k-1) (a:=l.getD (k-1) zdn) zeh zbZ rfl rfl uO (getD_some uO)) ?_;refine gz2 ?_;refine uGy 9 rfl rfl (fun hc=>uCl zyS rfl zkx) ?_;refine gz4 ?_;refine uCo (fun h13=> ?_) fun h14=> ?_
 refine gz4 ?_;refine uRp ?_
 (refine congrArg _ (zJ (e:=7) ?_ hg ?_ ?_)
  omega
  unfold zbT
  (try generalize ((x.Players++[x.Captain]).all zbV)=N at*)
  exact uT
  first|decide|assumption)
 refine gz8 ?_;refine ⟨k+1,?_,?_,⟨rfl,trivial⟩,uK,Ab _⟩
 refine ⟨by omega,?_⟩
 rw [hg,za2 (by unfold zbT;(try generalize ((x.Players++[x.Captain]).all zbV)=N at*);(try clear hdx hg);(try simp only [Ae]);focus first|(simp_all;done)|((repeat' split)<;>focus first|rfl|(exfalso;omega)|(simp_all;done)|(exfalso;rcases ‹_\/_› with q|q<;>simp_all;done)|(exfalso;simp_all;omega)))]
 dsimp only;omega
 have hnk:l.length<=k:=by omega
 obtain rfl:k=l.length:=by omega
 rw [zP (Af _)] at hg;refine gz2 ?_;refine zG ?_;refine gz6 ?_;refine uRp ?_
 (refine congrArg _ (zcb ?_ hg)
  omega)
theorem zj0 [Tracks] {b:BookS} (hT:Tracks.on=false) (hb:BookC b):ConP prog 24 [zbg b] (.int .i64 (zbR b)):=by
 refine uOb func24 ntmps24 ?_;refine gz7 ?_;refine dq (zaq (h':=zca b.League) (zaP z7 rfl rfl (Ak rfl)) rfl) ?_;refine dq (uCl ca59 rfl (zi3 (g:=b.League) hT hb.bb.lea hb.gw hb.tr)) ?_;refine gz6 ?_;refine uCo (fun h1=> ?_) fun h2=> ?_
 refine gz5 ?_;refine uRp ?_;unfold zbR
 (rw [if_pos (by assumption)])
 refine gz2 ?_;refine uDr mixed ?_;refine gz2 ?_;refine uB 2 rfl (uCl ca60 rfl (zjE (l:=b.Moves) hb.bb.mv hb.mb)) ?_;refine gz2 ?_;refine uB 5 rfl (uCl ca61 rfl (zjB (l:=b.Plays) hb.bb.pl hb.pg)) ?_;refine gz2 ?_;refine uB 8 rfl (uCl ca62 rfl (zjA (m:=b.Mends) hb.bb.me hb.mg)) ?_;refine gz5 ?_;refine uB 14 rfl (uCl ca63 rfl (zi7 (L:=b.League.Players) (l:=b.Health) hb.bb.lea.pl hb.bb.he hb.hw)) ?_;refine gz1 ?_;refine uB 16 rfl (zaq (h':=zca b.League) (zaP z7 rfl rfl (Ak rfl)) rfl) ?_;refine gz2 ?_;refine uB 19 rfl (uCl ca64 rfl (ziB (g:=b.League) (l:=b.Choices) hb.bb.lea hb.bb.ch hb.bb.cp hb.cs)) ?_;refine uB 20 rfl (za (hs:=[_,_,_,_,_]) zeq zgo rfl rfl (by decide) (by decide) rfl) ?_;refine uB 21 rfl (uCl zq1 rfl (zcS (l:=[_,_,_,_,_]) (by simp))) ?_;refine gz3 ?_;refine uRp ?_;unfold zbR
 (rw [if_neg (fun q=>q h2)])
end
section
open Go.Proofs.Tryz
open Go.HL
theorem zkE [Tracks] {b:BookS} {n:Int} (hT:Tracks.on=false) (hb:BookC b):ConP prog 26 [.vptr (zd (zbg b)) 0,.int .i64 n] (.int .i64 (mfE b n)):=by
 refine uOb func26 ntmps26 ?_;refine gz5 ?_;refine dq ((by first|exact zw rfl|exact zn rfl)) ?_;refine dq (zaV (h:=zbg b) za0 rfl rfl rfl rfl) ?_;refine dq (uCl ca66 rfl (zhK (b:=b) hT hb.bb hb.hw)) ?_;refine gz8 ?_;refine uGr rfl (fun hc=>uCl ziL rfl zbA) ?_;refine gz3 ?_;refine uCo (fun h1=> ?_) fun h2=> ?_
 refine gz9 ?_;refine uRp ?_;unfold mfE
 simp_all
 refine gz7 ?_;refine uRp ?_;unfold mfE
 simp_all
theorem zqj [Tracks] {b:BookS} {n:Int} (hT:Tracks.on=false) (hb:BookC b):ConP prog 8 [zbg b,.int .i64 n] (.tup [eSs (zem b n),.int .i64 (zdG b n)]):=by
 have hpl:=hb.bb.lea.pl;refine uOb func8 ntmps8 ?_;refine gz8 ?_;refine dq (uCl ca26 rfl (zkE (b:=b) hT hb)) ?_;refine gz6 ?_;refine uCo (fun h1=> ?_) fun h2=> ?_
 refine gz6 ?_
 focus first
 |exact zbD rfl (zas (by rw [zem,if_pos (by rw [zdG,if_pos h1];exact h1)];exact zX 1) (by rw [zdG,if_pos h1];exact Weak.refl _))
 | (refine zC rfl ?_
    have he:zdG b n=frE b.League.Bounds b.Moves (zkS b) n:=by rw [zdG,if_neg (fun q=>q hm0)]
    rw [zem,he])
 refine gz5 ?_;refine zl (zQ 1) ?_;refine gz2 ?_;refine dq ((by first|exact ze za0 rfl z7 (by decide) rfl|exact zb za0 rfl z7 (by decide) rfl)) ?_;refine dq ((by first|exact ze z7 rfl zcA (by decide) rfl|exact zb z7 rfl zcA (by decide) rfl)) ?_;refine dq (zU (h:=zaC b.League.Players) zcA rfl rfl rfl) ?_;refine dq (zaw (f:=zcE) (l:=b.League.Players) zcA rfl) ?_;refine gz3 ?_;refine uV2 [7,1,9,1,19,10] (fun (i:Nat) (u:Value)=>[(19,.int .i64 i),(7,.raw u)]) (fun (i:Nat) (u:Value)=>[.arr u 1 (((b.League.Players.take i).map (·.Key)).map .str)]) (fun (i:Nat) (u:Value)=>i<=b.League.Players.length/\(True)) (fun (i:Nat) (u:Value)=>b.League.Players.length-i) (0) (.slice none 0 0) ?_ ?_ ?_ ?_;exact ⟨Ad _,trivial⟩;exact ⟨rfl,rfl,trivial⟩;exact (Ab _)
 intro i u hinv
 obtain ⟨hi,-⟩:=hinv;refine gz4 ?_;refine uCo (fun h3=> ?_) fun h4=> ?_
 obtain ⟨x,hx⟩: ∃x,b.League.Players[i]? =some x:=⟨_,Aa h3⟩
 have hdx:=zt hx;refine gz5 ?_;refine dq (zK (f:=zcE) (l:=b.League.Players) (j:=i) (a:=x) zcA zdc rfl rfl rfl hx) ?_;refine gz1 ?_;refine de rfl (zq zdc rfl fun b9=> ?_)
 refine de0 (zz zdc rfl rfl rfl rfl rfl ?_)
 refine gz1 ?_;refine zl (zD 9 rfl) ?_;refine gz2 ?_;refine dq ((by first|exact ze zdc rfl ty9 (by decide) rfl|exact zb zdc rfl ty9 (by decide) rfl)) ?_;refine gz1 ?_;refine dq (za (hs:=[_]) zu ty9 rfl rfl (by decide) (by decide) rfl) ?_;refine de rfl (zN (i:=0) zu ty9 rfl rfl rfl rfl rfl (by simp [zal,zd]) (by have:=hb.bb.lea.pl;simp only [Ag,Ah,Al,AC] at*;omega) fun v27=> ?_)
 refine gz8 ?_;exact ⟨i+1,v27,⟨by omega,trivial⟩,uD,⟨rfl,rfl,trivial⟩,uK,zg (by dsimp only;rw [za1 hx,Ay,Ay];rfl)⟩;have hni:b.League.Players.length<=i:=by omega
 obtain rfl:i=b.League.Players.length:=by omega
 rw [Aw];refine gz2 ?_;refine zY ?_;refine gz2 ?_;refine zl (zap 7 (i:=0) rfl rfl) ?_;have hm0:mfE b n=0:=by simpa using h2
 refine gz1 ?_;refine dq ((by first|exact ze za0 rfl z7 (by decide) rfl|exact zb za0 rfl z7 (by decide) rfl)) ?_;refine dq ((by first|exact ze z7 rfl zdN (by decide) rfl|exact zb z7 rfl zdN (by decide) rfl)) ?_;refine dq (zaq (h':=zcn b.League.Bounds) (zaP zdN rfl rfl (Ak rfl)) rfl) ?_;refine dq ((by first|exact ze za0 rfl zbr (by decide) rfl|exact zb za0 rfl zbr (by decide) rfl)) ?_;refine dq (zU (h:=zbs b.Moves) zbr rfl rfl rfl) ?_;refine gz2 ?_;refine dq (uCl ca27 rfl (zqk (b:=b.League.Bounds) (l:=b.Moves) (ps:=zkS b) (n:=n) hb.bb.mv (by simp;exact hb.bb.lea.pl))) ?_;refine gz6 ?_
 focus first
 |exact zbD rfl (zas (by rw [zem,if_pos (by rw [zdG,if_pos h1];exact h1)];exact zX 1) (by rw [zdG,if_pos h1];exact Weak.refl _))
 | (refine zC rfl ?_
    have he:zdG b n=frE b.League.Bounds b.Moves (zkS b) n:=by rw [zdG,if_neg (fun q=>q hm0)]
    rw [zem,he])
end
section
open Go.Proofs.Tryz
open Go.HL
theorem zj7 [Tracks] {L:List PlayerS} {s:Str} {w:Int} (hL:L.length<=1000000) (hz:zbX L=0):ConP prog 153 [zaC L,.str s,.int .i64 w] (.int .i64 (zmx L s w)):=by
 refine uOb func153 ntmps153 ?_;refine gz8 ?_;refine dq (uCl ztc rfl (zhY (l:=L) hL (zih hz))) ?_;refine gz3 ?_;refine uCo (fun h1=> ?_) fun h2=> ?_
 refine gz4 ?_;refine uRp ?_;have hfn:zfH (L.map (·.Key)) s<0↔zbM L s=false:=zhQ;have hfp:zbM L s=true↔¬zfH (L.map (·.Key)) s<0:=by rw [hfn];simp
 unfold zmx
 by_cases hq:zbM L s=true
 have:=hfp.1 hq;simp_all;have:=hfn.2 (by simpa using hq);focus first|(simp_all;done)|(exfalso;omega)
 refine gz2 ?_;refine dq (uCl zlX rfl zdj) ?_;refine gz3 ?_;refine uCo (fun h3=> ?_) fun h4=> ?_
 refine gz4 ?_;refine uRp ?_;have hfn:zfH (L.map (·.Key)) s<0↔zbM L s=false:=zhQ;have hfp:zbM L s=true↔¬zfH (L.map (·.Key)) s<0:=by rw [hfn];simp
 unfold zmx
 by_cases hq:zbM L s=true
 have:=hfp.1 hq;simp_all;have:=hfn.2 (by simpa using hq);focus first|(simp_all;done)|(exfalso;omega)
 refine gz7 ?_;refine uRp ?_;have hfn:zfH (L.map (·.Key)) s<0↔zbM L s=false:=zhQ;have hfp:zbM L s=true↔¬zfH (L.map (·.Key)) s<0:=by rw [hfn];simp
 unfold zmx
 by_cases hq:zbM L s=true
 have:=hfp.1 hq;simp_all;have:=hfn.2 (by simpa using hq);focus first|(simp_all;done)|(exfalso;omega)
theorem znl [Tracks] {h:List HealthS} {s:Str} {w:Int} (hh:h.length<=1000000):ConP prog 154 [zbw h,.str s,.int .i64 w] (.int .i64 (zcC h s w)):=by
 refine uOb func154 ntmps154 ?_;refine zaD ?_;refine uT1 [6,1,8,1,11,23] (fun k=>[(11,.int .i64 k)]) (fun k=>[]) (fun k=>k<=h.length/\(zcC h s w=zcC (h.drop k) s w)) (fun k=>h.length-k) (0) ?_ ?_;exact ⟨Ad _,rfl⟩;rintro k ⟨hk,hg⟩;refine gz4 ?_;refine uCo (fun h1=> ?_) fun h2=> ?_
 obtain ⟨x,hx⟩: ∃x,h[k]? =some x:=⟨_,Aa h1⟩
 have hdx:=zt hx;rw [hdx] at hg;refine gz7 ?_;refine de rfl (zq zbN rfl fun b8=> ?_)
 refine de0 (zz zbN rfl rfl rfl rfl rfl ?_)
 refine gz1 ?_;refine zl (zD 8 rfl) ?_;refine zl5 ?_;refine uCo (fun h3=> ?_) fun h4=> ?_
 refine gz6 ?_;refine uRp ?_
 focus first
 |(rw [hg,zjx (by simp_all [zfJ])];done)
 |(rw [hg];rfl)
 refine gz7 ?_;refine ⟨k+1,?_,?_,⟨rfl,trivial⟩,uK,Ab _⟩
 refine ⟨by omega,?_⟩
 rw [hg,zrO (by simp_all [zfJ])]
 dsimp only;omega
 have hnk:h.length<=k:=by omega
 obtain rfl:k=h.length:=by omega
 rw [zP (Af _)] at hg;refine gz2 ?_;refine zG ?_;refine gz6 ?_;refine uRp ?_
 focus first
 |(rw [hg,zjx (by simp_all [zfJ])];done)
 |(rw [hg];rfl)
theorem znk [Tracks] {L:List PlayerS} {h:List HealthS} {s:Str} {w:Int} (hT:Tracks.on=false) (hL:L.length<=1000000) (hn: ∀p∈L,p.Name∈zcq) (hp: ∀p∈L,p.Positions.length<=1000000) (hh:h.length<=1000000) (hw: ∀x∈h,-1000000000000000<=x.To/\x.To<=1000000000000000) (hz:ziS L h=0) (hpl:zbM L s=true) (hwk:zbc w=true):ConP prog 78 [zaC L,zbw h,.str s,.int .i64 w] (.tup [.int .i64 (zcC h s w),.int .i64 0]):=by
 refine uOb func78 ntmps78 ?_;refine gz8 ?_;refine dq (uCl zwg rfl (zgJ (L:=L) (l:=h) hT hL hn hp hh hw)) ?_;refine gz3 ?_;refine dq (uCl zwj rfl (zj7 (L:=L) hL (zw5 hz))) ?_;refine dq (za (hs:=[_,_]) zeq zgo rfl rfl (by decide) (by decide) rfl) ?_;refine dq (zaq (h':= .int .i64 0) (uCl znm rfl (zdr (l:=[_,_]) (by simp))) (by rw [hz,ztW hpl hwk];rfl)) ?_;refine gz6 ?_;refine za3 rfl (fun h1=> ?_) (fun h1=> ?_)
 ·exfalso
  try simp at h1
  done
 ·try simp at h1
  refine gz6 ?_;refine dq (uCl zyY rfl (znl uS)) ?_;refine gz4 ?_;refine zC rfl ?_
  rfl
theorem znW [Tracks] {l:List StintS} {s:Str} {w:Int} (hl:l.length<=1000000):ConP prog 224 [zbJ l,.str s,.int .i64 w] (.str (zaY l s w)):=by
 refine uOb func224 ntmps224 ?_;refine zfW ?_;refine uU2 [7,1,9,1,12,17] (fun (k:Nat) (c:Str)=>[(12,.int .i64 k),(7,.str c)]) (fun (k:Nat) (c:Str)=>[]) (fun (k:Nat) (c:Str)=>k<=l.length/\(zaY l s w=zdw s w c (l.drop k))) (fun (k:Nat) (c:Str)=>l.length-k) (0) ([]) ?_ ?_;exact ⟨Ad _,rfl⟩;rintro k c ⟨hk,hg⟩;refine gz4 ?_;refine uCo (fun h1=> ?_) fun h2=> ?_
 obtain ⟨x,hx⟩: ∃x,l[k]? =some x:=⟨_,Aa h1⟩
 have hdx:=zt hx;rw [hdx] at hg;refine gz7 ?_;refine de rfl (zq zbY rfl fun b9=> ?_)
 refine de0 (zz zbY rfl rfl rfl rfl rfl ?_)
 refine gz1 ?_;refine zl (zD 9 rfl) ?_;refine zfq ?_;refine uCo (fun h3=> ?_) fun h4=> ?_
 refine zc8 ?_;refine ⟨k+1,_,?_,?_,⟨rfl,rfl,trivial⟩,uK,Ab _⟩
 refine ⟨by omega,?_⟩
 rw [hg,zdw]
 congr 1
 focus first|(rw [if_pos uSa];done)|(rw [if_neg uSa];done)|(rw [if_neg (fun q=>by have:=h4 q.1;omega)];done)|(rw [if_pos ⟨by simp_all,by simp_all⟩];done)
 dsimp only;omega
 refine gz7 ?_;refine ⟨k+1,_,?_,?_,⟨rfl,rfl,trivial⟩,uK,Ab _⟩
 refine ⟨by omega,?_⟩
 rw [hg,zdw]
 congr 1
 focus first|(rw [if_pos uSa];done)|(rw [if_neg uSa];done)|(rw [if_neg (fun q=>by have:=h4 q.1;omega)];done)|(rw [if_pos ⟨by simp_all,by simp_all⟩];done)
 dsimp only;omega
 have hnk:l.length<=k:=by omega
 obtain rfl:k=l.length:=by omega
 rw [zP (Af _)] at hg;refine gz2 ?_;refine zY ?_;refine gz7 ?_;refine zC rfl ?_
 show HVal.str _=_
 rw [hg];rfl
theorem zoW [Tracks] {f:List FixS} {c:Str} {w:Int} (hf:f.length<=1000000):ConP prog 225 [zde f,.str c,.int .i64 w] (zde (zbj f c w)):=by
 refine uOb func225 ntmps225 ?_;refine gz6 ?_;refine zl (zQ 4) ?_;refine gz7 ?_;refine uV2 [7,1,9,1,12,25] (fun (k:Nat) (u:Value)=>[(12,.int .i64 k),(7,.raw u)]) (fun (k:Nat) (u:Value)=>[.arr u 4 ((zbj (f.take k) c w).map zau)]) (fun (k:Nat) (u:Value)=>k<=f.length/\(True)) (fun (k:Nat) (u:Value)=>f.length-k) (0) (.slice none 0 0) ?_ ?_ ?_ ?_;exact ⟨Ad _,trivial⟩;exact ⟨rfl,rfl,trivial⟩;exact (Ab _)
 intro k u hinv
 obtain ⟨hk,-⟩:=hinv;refine gz4 ?_;refine uCo (fun h1=> ?_) fun h2=> ?_
 obtain ⟨x,hx⟩: ∃x,f[k]? =some x:=⟨_,Aa h1⟩
 have hdx:=zt hx;refine gz7 ?_;refine de rfl (zq zaa rfl fun b9=> ?_)
 refine de0 (zz zaa rfl rfl rfl rfl rfl ?_)
 refine gz1 ?_;refine zl (zD 9 rfl) ?_;refine gz1 ?_;refine dq ((by first|exact ze zaa rfl ty3 (by decide) rfl|exact zb zaa rfl ty3 (by decide) rfl)) ?_;refine gz4 ?_;refine uGr rfl (fun hc=>(by first|exact ze zaa rfl ty9 (by decide) rfl|exact zb zaa rfl ty9 (by decide) rfl)) ?_;refine gz4 ?_;refine uGr rfl (fun hc=>(by first|exact ze zaa rfl ty9 (by decide) rfl|exact zb zaa rfl ty9 (by decide) rfl)) ?_;refine gz6 ?_;refine uCo (fun h3=> ?_) fun h4=> ?_
 refine gz2 ?_;refine dq (zaV (h:=zau x) zaa rfl rfl rfl rfl) ?_;refine dq (za (hs:=[_]) zaF zaa rfl rfl (by decide) (by decide) rfl) ?_;refine de rfl (zN (i:=0) zaF zaa rfl rfl rfl rfl rfl (by simp [zal,zd]) (by have:=zl3 (f.take k) c w;simp only [Ag,Ah,Al,AC] at*;omega) fun v35=> ?_)
 refine gz8 ?_;exact ⟨k+1,v35,⟨by omega,trivial⟩,uD,⟨rfl,rfl,trivial⟩,uK,zg (by dsimp only;rw [zod hx,if_pos (by simp_all [ziT]),Ay];rfl)⟩;refine gz7 ?_;exact ⟨k+1,u,⟨by omega,trivial⟩,uD,⟨rfl,rfl,trivial⟩,uK,zg (by dsimp only;rw [zod hx,if_neg (by simp_all [ziT])])⟩;have hnk:f.length<=k:=by omega
 obtain rfl:k=f.length:=by omega
 rw [Aw];refine gz2 ?_;refine zY ?_;refine gz7 ?_;refine zB (zap 6 (i:=0) rfl rfl) rfl ⟨?_,rfl⟩
 rfl
theorem zoV [Tracks] {l:List StintS} {f:List FixS} {s:Str} {w:Int} (hl:l.length<=1000000) (hf:f.length<=1000000):ConP prog 157 [zbJ l,zde f,.str s,.int .i64 w] (.tup [.int .i64 (zgR l f s w),.bool (zdZ l f s w)]):=by
 refine uOb func157 ntmps157 ?_;refine gz8 ?_;refine dq (uCl zzz rfl (znW uS)) ?_;refine gz7 ?_;refine uCo (fun h1=> ?_) fun h2=> ?_
 refine gz5 ?_;refine zC rfl ?_
 show HVal.tup [.int .i64 _,.bool _]=_
 rcases Decidable.em (zaY l s w=[]) with q|q
 obtain ⟨e1,e2⟩:=zgT (l:=l) (f:=f) q
 focus focus first|(rw [e1,e2];done)|(rw [e1,e2];rfl)|(rw [e1,e2];exfalso;simp_all;done)
 rcases hgz:zbj f (zaY l s w) w with _|⟨g1,gr1⟩
 obtain ⟨e1,e2⟩:=zgS (l:=l) hgz
 focus focus first|(rw [e1,e2];done)|(rw [e1,e2];rfl)|(rw [e1,e2];exfalso;simp_all;done)
 obtain ⟨e1,e2⟩:=zgU (l:=l) q hgz
 focus focus first|(rw [e1,e2];done)|(rw [e1,e2];rfl)|(rw [e1,e2];simp_all;done)
 refine gz6 ?_;refine dq (uCl zzA rfl (zoW uS)) ?_;refine gz3 ?_;have hgl:=zl3 f (zaY l s w) w;refine gz2 ?_;refine dq (zaw (f:=zau) (l:=zbj f (zaY l s w) w) zaF rfl) ?_;refine gz2 ?_;refine uCo (fun h3=> ?_) fun h4=> ?_
 refine gz5 ?_;refine zC rfl ?_
 show HVal.tup [.int .i64 _,.bool _]=_
 rcases Decidable.em (zaY l s w=[]) with q|q
 obtain ⟨e1,e2⟩:=zgT (l:=l) (f:=f) q
 focus focus first|(rw [e1,e2];done)|(rw [e1,e2];rfl)|(rw [e1,e2];exfalso;simp_all;done)
 rcases hgz:zbj f (zaY l s w) w with _|⟨g1,gr1⟩
 obtain ⟨e1,e2⟩:=zgS (l:=l) hgz
 focus focus first|(rw [e1,e2];done)|(rw [e1,e2];rfl)|(rw [e1,e2];exfalso;simp_all;done)
 obtain ⟨e1,e2⟩:=zgU (l:=l) q hgz
 focus focus first|(rw [e1,e2];done)|(rw [e1,e2];rfl)|(rw [e1,e2];simp_all;done)
 refine gz2 ?_;obtain ⟨g0,gr,hgs⟩: ∃g0 gr,zbj f (zaY l s w) w=g0::gr:=by
  cases hq:zbj f (zaY l s w) w with
  |nil=>simp_all
  |cons a r=>exact ⟨a,r,rfl⟩
 have hg0:(zbj f (zaY l s w) w)[0]? =some g0:=by rw [hgs];rfl
 refine gz2 ?_;refine dq (zK (f:=zau) (l:=zbj f (zaY l s w) w) (j:=0) (a:=g0) zaF zaa rfl rfl rfl hg0) ?_;refine gz6 ?_;refine zC rfl ?_
 show HVal.tup [.int .i64 _,.bool _]=_
 rcases Decidable.em (zaY l s w=[]) with q|q
 obtain ⟨e1,e2⟩:=zgT (l:=l) (f:=f) q
 focus focus first|(rw [e1,e2];done)|(rw [e1,e2];rfl)|(rw [e1,e2];exfalso;simp_all;done)
 rcases hgz:zbj f (zaY l s w) w with _|⟨g1,gr1⟩
 obtain ⟨e1,e2⟩:=zgS (l:=l) hgz
 focus focus first|(rw [e1,e2];done)|(rw [e1,e2];rfl)|(rw [e1,e2];exfalso;simp_all;done)
 obtain ⟨e1,e2⟩:=zgU (l:=l) q hgz
 focus focus first|(rw [e1,e2];done)|(rw [e1,e2];rfl)|(rw [e1,e2];simp_all;done)
theorem zoU [Tracks] {L:List PlayerS} {l:List StintS} {f:List FixS} {s:Str} {w:Int} (hT:Tracks.on=false) (hL:L.length<=1000000) (hn: ∀p∈L,p.Name∈zcq) (hp: ∀p∈L,p.Positions.length<=1000000) (hl:l.length<=1000000) (hf:f.length<=1000000) (hz:zfZ L l=0) (hfz:zhm f=0) (hpl:zbM L s=true) (hwk:zbc w=true):ConP prog 79 [zaC L,zbJ l,zde f,.str s,.int .i64 w] (.tup [.int .i64 (zgR l f s w),.bool (zdZ l f s w),.int .i64 0]):=by
 refine uOb func79 ntmps79 ?_;refine gz9 ?_;refine dq (uCl zwk rfl (zgK (L:=L) (l:=l) hT hL hn hp hl)) ?_;refine gz1 ?_;refine dq (uCl zwl rfl (zf5 uS)) ?_;refine gz3 ?_;refine dq (uCl zwj rfl (zj7 (L:=L) hL (zxN hz))) ?_;refine dq (za (hs:=[_,_,_]) zeq zgo rfl rfl (by decide) (by decide) rfl) ?_;refine dq (zaq (h':= .int .i64 0) (uCl znm rfl (zdr (l:=[_,_,_]) (by simp))) (by rw [hz,hfz,ztW hpl hwk];rfl)) ?_;refine gz6 ?_;refine za3 rfl (fun h1=> ?_) (fun h1=> ?_)
 ·exfalso
  try simp at h1
  done
 ·try simp at h1
  refine gz7 ?_;refine dq (uCl zyZ rfl (zoV uS uS)) ?_;refine zeu ?_;refine zC rfl ?_
  rfl
theorem znR [Tracks] {s:Str} {l:List Str} (hl:l.length<=1000000):ConP prog 158 [.str s,.vptr [eSs l] 0] (.bool (l.contains s)):=by
 refine uOb func158 ntmps158 ?_;refine gz4 ?_;refine dq (zU (h:=eSs l) zu rfl rfl rfl) ?_;refine gz1 ?_;refine dq (uCl zfU rfl (zH uS)) ?_;refine gz3 ?_;refine zC rfl ?_
 rfl
theorem zqh [Tracks] {a b:List Str} (ha:a.length<=1000000) (hb:b.length<=1000000):ConP prog 80 [eSs a,eSs b] (.bool (zkc a b)):=by
 refine uOb func80 ntmps80 ?_;refine gz7 ?_;refine dq (uCl ztj rfl (zbS (l:=a) (p:=fun s=>b.contains s) zy0 (fun _=>znR hb) ha)) ?_;refine gz3 ?_;refine zC rfl ?_
 rfl
theorem zkG [Tracks] {kb pb hb ob db ab:Nat} {b:BoundS} {k:RosS} {t:Str} (hP: ∀t,(rPl k t).length<=1000000) (hH: ∀t,(rHu k t).length<=1000000):Con prog 76 [.raw (.pointer (some ⟨kb,0,none⟩)),.str t] (zcH kb pb hb ob db ab b k) (fun x1 M'=>x1=zkL t (rPl k t) (rHu k t)/\M'=[]):=by
 refine zbz func76 rfl ntmps76 rfl rfl ?_;refine gz1 ?_;refine de rfl (zq zdO rfl fun b4=> ?_)
 refine gz1 ?_;refine zbu (fun M=>M=(.cells b4 [.str [],.raw (.slice none 0 0),.raw (.slice none 0 0)]::(zcH kb pb hb ob db ab b k))) [4,6,11,13] mixed ?_;refine gz2 ?_;refine uB 2 rfl ((by first|exact zw rfl|exact zn rfl)) ?_;refine gz1 ?_;refine uM 4 rfl rfl (fun M hM=>by subst hM;exact zV (i:=1) zdh rfl rfl (.inl ⟨rfl,rfl⟩) ⟨rfl,rfl⟩) ?_;refine gz1 ?_;refine uM 6 rfl rfl (fun M hM=>by subst hM;exact ze4 (i:=2) (f:=eSs) (z0:=([]:List Str)) zdh ty9 zu rfl rfl rfl (zX 1) ⟨rfl,rfl⟩) ?_;refine uA 8 ?_;refine uB 9 rfl ((by first|exact zw rfl|exact zn rfl)) ?_;refine gz1 ?_;refine uM 11 rfl rfl (fun M hM=>by subst hM;exact zV (i:=1) zdh rfl rfl (.inl ⟨rfl,rfl⟩) ⟨rfl,rfl⟩) ?_;refine gz1 ?_;refine uM 13 rfl rfl (fun M hM=>by subst hM;exact ze4 (i:=3) (f:=eSs) (z0:=([]:List Str)) zdh ty9 zu rfl rfl rfl (zX 1) ⟨rfl,rfl⟩) ?_;refine uF 7 ?_;refine zA rfl (ztR (uCa zlW rfl (zay (l:=rPl k t) (hP t)) fun v=>⟨v,rfl,rfl⟩) ?_)
 refine ⟨fun _=> .inl rfl,?_⟩
 refine uF 14 ?_;refine zA rfl (ztR (uCa zlW rfl (zay (l:=rHu k t) (hH t)) fun v=>⟨v,rfl,rfl⟩) ?_)
 refine ⟨fun _=> .inl rfl,?_⟩
 refine uB 15 rfl (zO (cs:=[_,_,_]) zdO pl85 rfl) ?_;refine uF 16 ?_;refine zT (zz (h:=zkL t (rPl k t) (rHu k t)) zdO rfl rfl rfl rfl rfl ?_)
 refine ⟨uE,?_⟩
 refine gz2 ?_;exact ⟨_,_,(zbi 4 (i:=0) rfl rfl).trans Ghost.clear,[_],_,⟨⟨_,_,_,_,_,rfl,zdO,.inr ⟨rfl,rfl,rfl⟩⟩,trivial⟩,Weak.refl _,rfl,rfl⟩
theorem zrZ [Tracks] {b:BoundS} {l:List MoveS} {t:Str} {n:Int} (hl:l.length<=1000000) (hz:zjz b l t n=0):ConP prog 30 [zcn b,zbs l,.str t,.int .i64 n] (.tup [zkL t (rPl (zah b l n) t) (rHu (zah b l n) t),.int .i64 0]):=by
 obtain ⟨hm0,hk0,hn0⟩:=zxU hz;have hok:=zmJ (b:=b) (n:=n) hm0;refine zbz func30 rfl ntmps30 rfl rfl ?_;refine gz2 ?_;refine de rfl (zq zdO rfl fun b8=> ?_)
 refine gz8 ?_;refine dq (zaq (h':= .int .i64 0) (uCl ca75 rfl (zlp (b:=b) (l:=l) (p:=t) (n:=n) hl)) (by rw [hz])) ?_;refine gz6 ?_;refine za3 rfl (fun h1=> ?_) (fun h1=> ?_)
 ·exfalso
  try simp at h1
  done
 ·try simp at h1
  refine gz6 ?_;refine de rfl (zbe (M1:=[]) (R:=[_]) ca72 rfl (WeakL.refl _) (Ab _) (zm0 (b:=b) (l:=l) (n:=n) hm0) ?_)
  rintro _ _ ⟨kb,pb,hb,ob,db,ab,rfl,rfl⟩;refine gz1 ?_;refine de rfl (zbe (M1:=(zcH kb pb hb ob db ab b (zah b l n))) (R:=[_]) ca76 rfl (WeakL.refl _) (Ab _) (zkG (t:=t) (fun t=>by have:=(hok.p t).2;omega) (fun t=>by have:=(hok.h t).2;omega)) ?_)
  rintro _ _ ⟨rfl,rfl⟩;refine de0 (zz (h:=zkL t (rPl (zah b l n) t) (rHu (zah b l n) t)) zdO rfl rfl rfl rfl rfl ?_)
  refine gz3 ?_;exact ⟨_,_,zD 8 rfl,[_,_],_,⟨⟨_,_,_,_,_,rfl,zdO,.inr ⟨rfl,rfl,rfl⟩⟩,⟨rfl,trivial⟩⟩,Weak.refl _,rfl,rfl⟩
theorem zlL [Tracks] {b:BookS} {t:Str} {w n:Int} (hT:Tracks.on=false) (hb:BookC b):ConP prog 28 [.vptr (zd (zbg b)) 0,.str t,.int .i64 w,.int .i64 n] (.int .i64 (zd8 b t w n)):=by
 have htm:=hb.bb.lea.tm;refine uOb func28 ntmps28 ?_;refine gz6 ?_;refine dq ((by first|exact zw rfl|exact zn rfl)) ?_;refine dq (zaV (h:=zbg b) za0 rfl rfl rfl rfl) ?_;refine dq (uCl ca66 rfl (zhK (b:=b) hT hb.bb hb.hw)) ?_;refine gz6 ?_;refine uCo (fun h1=> ?_) fun h2=> ?_
 refine gz5 ?_;refine uRp ?_;unfold zd8
 simp_all
 refine gz6 ?_;refine dq ((by first|exact zw rfl|exact zn rfl)) ?_;refine gz2 ?_;refine dq (zU (h:=eSs b.League.Teams) zu rfl rfl rfl) ?_;refine gz1 ?_;refine dq (uCl zfU rfl (zH uS)) ?_;refine gz3 ?_;refine uCo (fun h3=> ?_) fun h4=> ?_
 refine gz4 ?_;refine uRp ?_;unfold zd8
 simp_all
 refine gz2 ?_;refine dq (uCl zlX rfl zdj) ?_;refine gz3 ?_;refine uGr rfl (fun hc=>uCl ziL rfl zbA) ?_;refine gz4 ?_;refine uCo (fun h5=> ?_) fun h6=> ?_
 refine gz4 ?_;refine uRp ?_;unfold zd8
 simp_all
 refine gz7 ?_;refine uRp ?_;unfold zd8
 simp_all
theorem zkC [Tracks] {b:BookS} {n w f:Int} {t:Str} (hl:b.Choices.length<=1000000):ConP prog 29 [zmC b n,.str t,.int .i64 w,.int .i64 f] (pCh (zcT b.Choices t w n f)):=by
 refine uOb func29 ntmps29 ?_;refine zaD ?_;refine dq (zU (h:= .vptr (zd (zbg b)) 0) znF rfl rfl rfl) ?_;refine dq ((by first|exact zw rfl|exact zn rfl)) ?_;refine gz1 ?_;refine dq (zU (h:=zc6 b.Choices) zeh rfl rfl rfl) ?_;refine dq (zaw (f:=z8) (l:=b.Choices) zeh rfl) ?_;refine gz3 ?_;refine uU2 [9,3,18,43] (fun (k:Nat) (o:Option ChoiceS)=>[(18,.int .i64 k),(9,pCh o)]) (fun (k:Nat) (o:Option ChoiceS)=>[]) (fun (k:Nat) (o:Option ChoiceS)=>k<=b.Choices.length/\(zcT b.Choices t w n f=zjj t w n f o (b.Choices.drop k))) (fun (k:Nat) (o:Option ChoiceS)=>b.Choices.length-k) (0) (none) ?_ ?_;exact ⟨Ad _,rfl⟩;rintro k o ⟨hk,hg⟩;refine gz4 ?_;refine uCo (fun h1=> ?_) fun h2=> ?_
 obtain ⟨x,hx⟩: ∃x,b.Choices[k]? =some x:=⟨_,Aa h1⟩
 have hdx:=zt hx;rw [hdx] at hg;refine zaD ?_;refine dq (zU (h:= .vptr (zd (zbg b)) 0) znF rfl rfl rfl) ?_;refine dq ((by first|exact zw rfl|exact zn rfl)) ?_;refine gz1 ?_;refine dq (zU (h:=zc6 b.Choices) zeh rfl rfl rfl) ?_;refine gz1 ?_;refine dq (zK (f:=z8) (l:=b.Choices) (j:=k) (a:=x) zeh zbZ rfl rfl rfl hx) ?_;refine gz2 ?_;refine uDr mixed ?_;refine gz1 ?_;refine uB 1 rfl ((by first|exact zw rfl|exact zn rfl)) ?_;refine gz6 ?_;refine uGy 8 rfl rfl (fun hc=>(by first|exact zw rfl|exact zn rfl)) ?_;refine gz7 ?_;refine uGy 16 rfl rfl (fun hc=>(by first|exact zw rfl|exact zn rfl)) ?_;refine gz8 ?_;refine uGy 25 rfl rfl (fun hc=>(by first|exact zw rfl|exact zn rfl)) ?_;refine gz6 ?_;refine uCo (fun h3=> ?_) fun h4=> ?_
 refine zaD ?_;exact ⟨k+1,some x,⟨by omega,by rw [hg,zjj,if_pos (by simp_all [zkR])]⟩,uD,⟨rfl,rfl,trivial⟩,uK,Ab _⟩;refine gz7 ?_;exact ⟨k+1,o,⟨by omega,by rw [hg,zjj,if_neg (by simp_all [zkR])]⟩,uD,⟨rfl,rfl,trivial⟩,uK,Ab _⟩;have hnk:b.Choices.length<=k:=by omega
 obtain rfl:k=b.Choices.length:=by omega
 rw [zP (Af _)] at hg;refine gz2 ?_;refine zY ?_;refine gz7 ?_;refine zC rfl ?_;rw [hg];rfl
theorem zkD [Tracks] {x:PlayerS} {s:Str}:ConP prog 152 [zcE x,.str s] (.int .i64 (zab x.Key s)):=by
 refine uOb func152 ntmps152 ?_;refine gz8 ?_;refine dq (uCl zcJ rfl zZ) ?_;refine gz3 ?_;refine zC rfl ?_
 rfl
theorem zlK [Tracks] {b:BookS} {n:Int} {s:Str} (hl:b.League.Players.length<=1000000) (hs:SortedS (b.League.Players.map (·.Key))):ConP prog 77 [zmC b n,.str s] (pPl (plO b.League.Players s)):=by
 refine uOb func77 ntmps77 ?_;refine gz6 ?_;refine dq (zU (h:= .vptr (zd (zbg b)) 0) znF rfl rfl rfl) ?_;refine dq ((by first|exact zw rfl|exact zn rfl)) ?_;refine gz2 ?_;refine dq (zU (h:=zaC b.League.Players) zcA rfl rfl rfl) ?_;refine gz5 ?_;refine dq (uCl zwi rfl (zdt (l:=b.League.Players) zyX (fun _=>zkD) hl hs)) ?_;refine zc8 ?_;refine uCo (fun h1=> ?_) fun h2=> ?_
 refine gz4 ?_;refine zC rfl ?_
 focus first
 |(rw [plO,hp3];rfl)
 |(rw [plO,zsE uSa];rfl)
 refine gz2 ?_;obtain ⟨p,hp1,hp2,hp3⟩:=zAp hs (s:=s) uSa;refine gz3 ?_;refine dq (zK (f:=zcE) (l:=b.League.Players) (j:=zdC (b.League.Players.map (·.Key)) s) (a:=p) zcA zdc rfl rfl rfl hp1) ?_;refine gz3 ?_;refine zC rfl ?_
 focus first
 |(rw [plO,hp3];rfl)
 |(rw [plO,zsE uSa];rfl)
theorem zln [Tracks] {b:BookS} {n w:Int} {own:List Str} {s:Str} {x:SlotS} (hT:Tracks.on=false) (hb:BookC b) (hw:BookW b) (hwk:zbc w=true) (ho:own.length<=1000000) (hx:x.Positions.length<=1000000):ConP prog 31 [zmC b n,eSs own,.str s,zbo x,.int .i64 w] (.str (zea b own s x w)):=by
 have hla:=hb.bb.lea;refine uOb func31 ntmps31 ?_;refine gz5 ?_;refine uDr mixed ?_;refine gz1 ?_;refine uB 1 rfl (zU (h:= .vptr (zd (zbg b)) 0) znF rfl rfl rfl) ?_;refine uB 2 rfl ((by first|exact zw rfl|exact zn rfl)) ?_;refine gz1 ?_;refine uB 4 rfl (zaV (h:=zmC b n) znG rfl rfl rfl rfl) ?_;refine gz1 ?_;refine uB 6 rfl (uCl ca77 rfl (zlK (b:=b) (n:=n) (s:=s) hla.pl hw.so)) ?_;refine gz6 ?_;refine dq (zoy (o:=(plO b.League.Players s).map fun p=>zd (zcE p)) zAt rfl rfl) ?_;refine gz3 ?_;refine uGr rfl (fun hc=>by have hq:=hc;(try simp at hq);exact uCl zfU rfl (zH (l:=own) uO)) ?_;refine gz3 ?_;refine uCo (fun h1=> ?_) fun h2=> ?_
 refine gz4 ?_;refine zC rfl ?_
 show HVal.str _=_
 rcases hq:plO b.League.Players s with _|p1
 rw [zfO hq]
 try focus first|rfl|(exfalso;simp_all;done)
 rw [zcQ hq];have hpm1:=A7 hq;have hpk1:p1.Key=s:=by have:=BJ hq;simpa using this
 have hne: ¬∀x∈b.League.Players,¬x.Key=s:=fun q=>q p1 hpm1 hpk1
 clear hpm1 hpk1
 simp_all [zi,zo,zj,zk]
 refine gz3 ?_;obtain ⟨p,hp⟩: ∃p,plO b.League.Players s=some p:=by
  cases hq:plO b.League.Players s with
  |none=>
    exfalso
    obtain ⟨⟨z,hz1,hz2⟩,hz3⟩:=h2;have:=List.find?_eq_none.1 hq z hz1
    simp_all
  |some p=>exact ⟨p,rfl⟩
 have hpm:=A7 hp;have hpk:zbM b.League.Players s=true:=by
  have:=BJ hp;simp only [zbM,Ca,decide_eq_true_eq];exact List.mem_map.2 ⟨p,hpm,by simpa using this⟩
 rw [hp];refine uDr mixed ?_;refine gz1 ?_;refine uB 1 rfl ((by first|exact zw rfl|exact zn rfl)) ?_;refine gz1 ?_;refine uB 3 rfl (zU (h:=zaC b.League.Players) zcA rfl rfl rfl) ?_;refine gz1 ?_;refine uB 5 rfl (zU (h:= .vptr (zd (zbg b)) 0) znF rfl rfl rfl) ?_;refine uB 6 rfl ((by first|exact zw rfl|exact zn rfl)) ?_;refine gz1 ?_;refine uB 8 rfl (zU (h:=zbw b.Health) zf0 rfl rfl rfl) ?_;refine gz2 ?_;refine uB 11 rfl (uCl ca78 rfl (znk (L:=b.League.Players) (h:=b.Health) (s:=s) (w:=w) hT hla.pl hla.nm hla.po hb.bb.he hb.hw hw.he hpk hwk)) ?_;refine zaD ?_;refine uCo (fun h3=> ?_) fun h4=> ?_
 refine gz4 ?_;refine zC rfl ?_
 show HVal.str _=_
 rcases hq:plO b.League.Players s with _|p1
 rw [zfO hq]
 try focus first|rfl|(exfalso;simp_all;done)
 rw [zcQ hq];have hpm1:=A7 hq;have hpk1:p1.Key=s:=by have:=BJ hq;simpa using this
 have hne: ¬∀x∈b.League.Players,¬x.Key=s:=fun q=>q p1 hpm1 hpk1
 clear hpm1 hpk1
 simp_all [zi,zo,zj,zk]
 refine gz3 ?_;refine uDr mixed ?_;refine gz1 ?_;refine uB 1 rfl ((by first|exact zw rfl|exact zn rfl)) ?_;refine gz1 ?_;refine uB 3 rfl (zU (h:=zaC b.League.Players) zcA rfl rfl rfl) ?_;refine gz1 ?_;refine uB 5 rfl ((by first|exact zw rfl|exact zn rfl)) ?_;refine gz1 ?_;refine uB 7 rfl (zU (h:=zbJ b.League.Stints) zcB rfl rfl rfl) ?_;refine gz1 ?_;refine uB 9 rfl ((by first|exact zw rfl|exact zn rfl)) ?_;refine gz1 ?_;refine uB 11 rfl (zU (h:=zde b.League.Fixtures) zaF rfl rfl rfl) ?_;refine gz2 ?_;refine uB 14 rfl (uCl ca79 rfl (zoU (L:=b.League.Players) (l:=b.League.Stints) (f:=b.League.Fixtures) (s:=s) (w:=w) hT hla.pl hla.nm hla.po hla.st hla.fx hw.st hw.fx hpk hwk)) ?_;refine zfq ?_;refine uCo (fun h5=> ?_) fun h6=> ?_
 refine gz4 ?_;refine zC rfl ?_
 show HVal.str _=_
 rcases hq:plO b.League.Players s with _|p1
 rw [zfO hq]
 try focus first|rfl|(exfalso;simp_all;done)
 rw [zcQ hq];have hpm1:=A7 hq;have hpk1:p1.Key=s:=by have:=BJ hq;simpa using this
 have hne: ¬∀x∈b.League.Players,¬x.Key=s:=fun q=>q p1 hpm1 hpk1
 clear hpm1 hpk1
 simp_all [zi,zo,zj,zk]
 refine gz3 ?_;refine uDr mixed ?_;refine gz1 ?_;refine uB 1 rfl ((by first|exact zw rfl|exact zn rfl)) ?_;refine gz1 ?_;refine uB 3 rfl (zU (h:=eSs p.Positions) zu rfl rfl rfl) ?_;refine gz1 ?_;refine uB 5 rfl (zU (h:=eSs x.Positions) zu rfl rfl rfl) ?_;refine uB 6 rfl (uCl ca80 rfl (zqh (a:=p.Positions) (b:=x.Positions) (hla.po p hpm) hx)) ?_;refine gz2 ?_;refine uCo (fun h7=> ?_) fun h8=> ?_
 refine gz4 ?_;refine zC rfl ?_
 show HVal.str _=_
 rcases hq:plO b.League.Players s with _|p1
 rw [zfO hq]
 try focus first|rfl|(exfalso;simp_all;done)
 rw [zcQ hq];have hpm1:=A7 hq;have hpk1:p1.Key=s:=by have:=BJ hq;simpa using this
 have hne: ¬∀x∈b.League.Players,¬x.Key=s:=fun q=>q p1 hpm1 hpk1
 clear hpm1 hpk1
 simp_all [zi,zo,zj,zk]
 refine gz6 ?_;refine zC rfl ?_
 show HVal.str _=_
 rcases hq:plO b.League.Players s with _|p1
 rw [zfO hq]
 try focus first|rfl|(exfalso;simp_all;done)
 rw [zcQ hq];have hpm1:=A7 hq;have hpk1:p1.Key=s:=by have:=BJ hq;simpa using this
 have hne: ¬∀x∈b.League.Players,¬x.Key=s:=fun q=>q p1 hpm1 hpk1
 clear hpm1 hpk1
 simp_all [zi,zo,zj,zk]
theorem zoR [Tracks] {b:BookS} {t:Str} {w n:Int} (hT:Tracks.on=false) (hb:BookC b):ConP prog 9 [zbg b,.str t,.int .i64 w,.int .i64 n] (.tup [zeW (zf1 b t w n),.int .i64 (zd8 b t w n)]):=by
 have hla:=hb.bb.lea;refine uOb func9 ntmps9 ?_;refine zaD ?_;refine dq (uCl ca28 rfl (zlL (b:=b) (t:=t) (w:=w) (n:=n) hT hb)) ?_;refine gz6 ?_;refine uCo (fun h1=> ?_) fun h2=> ?_
 refine gz6 ?_
 focus first
 | (refine zbD rfl (zas ?_ (Weak.refl _))
    rw [zhv h1];exact zX 2)
 | (refine zbD rfl (zas ?_ ?_)
    rw [znJ hz h3];exact zX 2;rw [hz];exact Weak.refl _)
 | (refine zB ((zap 8 (i:=0) rfl rfl).trans Ghost.clear) rfl ⟨?_,rfl⟩
    show HVal.tup _=_
    rw [zf1,if_neg (fun q=>q hz),hc,hz];rfl)
 refine gz2 ?_;have hz:zd8 b t w n=0:=by simp_all
 obtain ⟨hbz,htc,hwk,hnm⟩:=zps hz;have hW:=zqX hbz;refine gz2 ?_;refine dq (zO (cs:=[_,_]) znG pl81 rfl) ?_;refine de rfl (zq znG rfl fun b11=> ?_)
 refine de0 (zz znG rfl rfl rfl rfl rfl ?_)
 refine gz1 ?_;refine zl (zD 11 rfl) ?_;refine gz1 ?_;refine dq (zaV (h:=zmC b n) znG rfl rfl rfl rfl) ?_;refine gz2 ?_;refine dq (uCl ca29 rfl (zkC (b:=b) (n:=n) (w:=w) (t:=t) (f:=345686400000) hb.bb.ch)) ?_;refine gz5 ?_;refine dq (zoy (o:=(zcT b.Choices t w n 345686400000).map fun c=>zd (z8 c)) ty82 rfl rfl) ?_;refine gz1 ?_;refine uCo (fun h3=> ?_) fun h4=> ?_
 refine gz5 ?_
 focus first
 | (refine zbD rfl (zas ?_ (Weak.refl _))
    rw [zhv h1];exact zX 2)
 | (refine zbD rfl (zas ?_ ?_)
    rw [znJ hz h3];exact zX 2;rw [hz];exact Weak.refl _)
 | (refine zB ((zap 8 (i:=0) rfl rfl).trans Ghost.clear) rfl ⟨?_,rfl⟩
    show HVal.tup _=_
    rw [zf1,if_neg (fun q=>q hz),hc,hz];rfl)
 refine gz2 ?_;obtain ⟨c,hc⟩: ∃c,zcT b.Choices t w n 345686400000=some c:=by
  cases hq:zcT b.Choices t w n 345686400000 with
  |none=>simp_all
  |some c=>exact ⟨c,rfl⟩
 have hcm:c∈b.Choices:=by
  rcases zn3 hc with q|q
  cases q
  exact q.1
 have hcl:=(hW.ch c hcm).1;rw [hc];have hask:zjz b.League.Bounds b.Moves t n=0:=by
  unfold zjz;rw [if_neg (by simp [orI,hW.f.bo,hW.f.mo]),if_neg (by rw [hW.tm t htc];simp),if_neg (by rw [hnm];simp)]
 have hol:(rPl (zah b.League.Bounds b.Moves n) t).length<=1000000:=by have:=((zmJ (b:=b.League.Bounds) (n:=n) hW.f.mo).p t).2;omega
 refine gz1 ?_;refine dq ((by first|exact ze za0 rfl z7 (by decide) rfl|exact zb za0 rfl z7 (by decide) rfl)) ?_;refine dq ((by first|exact ze z7 rfl zdN (by decide) rfl|exact zb z7 rfl zdN (by decide) rfl)) ?_;refine dq (zaq (h':=zcn b.League.Bounds) (zaP zdN rfl rfl (Ak rfl)) rfl) ?_;refine dq ((by first|exact ze za0 rfl zbr (by decide) rfl|exact zb za0 rfl zbr (by decide) rfl)) ?_;refine dq (zU (h:=zbs b.Moves) zbr rfl rfl rfl) ?_;refine gz2 ?_;refine dq (uCl ca30 rfl (zrZ (b:=b.League.Bounds) (l:=b.Moves) (t:=t) (n:=n) hb.bb.mv hask)) ?_;refine gz3 ?_;refine de rfl (zq zdO rfl fun b13=> ?_)
 refine de0 (zz zdO rfl rfl rfl rfl rfl ?_)
 refine gz2 ?_;refine zl (zD 13 rfl) ?_;refine gz3 ?_;refine zl (zQ 2) ?_;refine gz2 ?_;refine dq ((by first|exact ze za0 rfl z7 (by decide) rfl|exact zb za0 rfl z7 (by decide) rfl)) ?_;refine dq ((by first|exact ze z7 rfl zdi (by decide) rfl|exact zb z7 rfl zdi (by decide) rfl)) ?_;refine dq (zU (h:=zf7 b.League.Slots) zdi rfl rfl rfl) ?_;refine dq (zaw (f:=zbo) (l:=b.League.Slots) zdi rfl) ?_;refine gz3 ?_;refine uV2 [15,4,49,36] (fun (k:Nat) (u:Value)=>[(49,.int .i64 k),(15,.raw u)]) (fun (k:Nat) (u:Value)=>[.arr u 2 ((zmu b (rPl (zah b.League.Bounds b.Moves n) t) c w k).map zn4)]) (fun (k:Nat) (u:Value)=>k<=b.League.Slots.length/\(True)) (fun (k:Nat) (u:Value)=>b.League.Slots.length-k) (0) (.slice none 0 0) ?_ ?_ ?_ ?_;exact ⟨Ad _,trivial⟩;exact ⟨rfl,rfl,trivial⟩;exact (Ab _)
 intro k u hinv
 obtain ⟨hk,-⟩:=hinv;refine gz4 ?_;refine uCo (fun h5=> ?_) fun h6=> ?_
 obtain ⟨x,hx⟩: ∃x,b.League.Slots[k]? =some x:=⟨_,Aa h5⟩
 have hdx:=zt hx;have hsk:b.League.Slots.getD k zk8=x:=by rw [Ae,hx];rfl
 have hsl:=hW.sl;refine gz6 ?_;refine dq (zK (f:=zbo) (l:=b.League.Slots) (j:=k) (a:=x) zdi zbb rfl rfl rfl hx) ?_;refine gz1 ?_;refine de rfl (zq zbb rfl fun b17=> ?_)
 refine gz1 ?_;refine de0 (zz zbb rfl rfl rfl rfl rfl ?_)
 refine gz1 ?_;refine zl (zD 17 rfl) ?_;refine gz3 ?_;refine dq ((by first|exact zw rfl|exact zn rfl)) ?_;refine dq ((by first|exact ze zbZ rfl zu (by decide) rfl|exact zb zbZ rfl zu (by decide) rfl)) ?_;refine dq (zU (h:=eSs c.Players) zu rfl rfl rfl) ?_;refine gz1 ?_;refine dq (zK (f:=HVal.str) (l:=c.Players) (j:=k) (a:=c.Players.getD k []) zu ty9 rfl rfl rfl (getD_some uO)) ?_;refine gz3 ?_;refine uCo (fun h7=> ?_) fun h8=> ?_
 refine gz8 ?_;exact ⟨k+1,u,⟨by omega,trivial⟩,uD,⟨rfl,rfl,trivial⟩,uK,zg (by dsimp only;rw [zm,zhu,if_pos uSa];simp)⟩;refine gz2 ?_;refine uDr mixed ?_;refine uB 0 rfl (zaV (h:=zmC b n) znG rfl rfl rfl rfl) ?_;refine uB 1 rfl ((by first|exact ze zdO rfl zu (by decide) rfl|exact zb zdO rfl zu (by decide) rfl)) ?_;refine uB 2 rfl (zU (h:=eSs (rPl (zah b.League.Bounds b.Moves n) t)) zu rfl rfl rfl) ?_;refine gz1 ?_;refine uB 4 rfl ((by first|exact zw rfl|exact zn rfl)) ?_;refine uB 5 rfl ((by first|exact ze zbZ rfl zu (by decide) rfl|exact zb zbZ rfl zu (by decide) rfl)) ?_;refine uB 6 rfl (zU (h:=eSs c.Players) zu rfl rfl rfl) ?_;refine gz1 ?_;refine uB 8 rfl (zK (f:=HVal.str) (l:=c.Players) (j:=k) (a:=c.Players.getD k []) zu ty9 rfl rfl rfl (getD_some uO)) ?_;refine gz1 ?_;refine uB 10 rfl (zaV (h:=zbo x) zbb rfl rfl rfl rfl) ?_;refine gz1 ?_;refine uB 12 rfl (uCl ca31 rfl (zln (b:=b) (n:=n) (w:=w) (own:=rPl (zah b.League.Bounds b.Moves n) t) (s:=c.Players.getD k []) (x:=x) hT hb hW hwk hol (hla.sp x (Ac hx)))) ?_;refine gz6 ?_;refine uCo (fun h9=> ?_) fun h10=> ?_
 refine gz2 ?_;refine dq ((by first|exact ze zbb rfl ty9 (by decide) rfl|exact zb zbb rfl ty9 (by decide) rfl)) ?_;refine gz2 ?_;refine dq (zO (cs:=[_,_]) zb7 zkZ rfl) ?_;refine dq (za (hs:=[_]) zei zb7 rfl rfl (by decide) (by decide) rfl) ?_;refine de rfl (zN (i:=0) zei zb7 rfl rfl rfl rfl rfl (by simp [zal,zd]) (by have:=zdD b (rPl (zah b.League.Bounds b.Moves n) t) c w k;simp only [Ag,Ah,Al] at*;omega) fun v83=> ?_)
 refine gz8 ?_;exact ⟨k+1,v83,⟨by omega,trivial⟩,uD,⟨rfl,rfl,trivial⟩,uK,zg (by dsimp only;rw [zm,zhu,hsk,if_neg uSa,if_neg uSa];simp)⟩;refine gz7 ?_;exact ⟨k+1,u,⟨by omega,trivial⟩,uD,⟨rfl,rfl,trivial⟩,uK,zg (by dsimp only;rw [zm,zhu,hsk,if_neg uSa,if_pos uSa];simp)⟩;have hnk:b.League.Slots.length<=k:=by omega
 obtain rfl:k=b.League.Slots.length:=by omega
 refine gz2 ?_;refine zY ?_;refine gz8 ?_
 focus first
 | (refine zbD rfl (zas ?_ (Weak.refl _))
    rw [zhv h1];exact zX 2)
 | (refine zbD rfl (zas ?_ ?_)
    rw [znJ hz h3];exact zX 2;rw [hz];exact Weak.refl _)
 | (refine zB ((zap 8 (i:=0) rfl rfl).trans Ghost.clear) rfl ⟨?_,rfl⟩
    show HVal.tup _=_
    rw [zf1,if_neg (fun q=>q hz),hc,hz];rfl)
end
section
open Go.Proofs.Tryz
open Go.HL
theorem zky [Tracks] {s:Str} {l:List Str} (hl:l.length<=1000000):ConP prog 98 [.str s,.vptr [eSs l] 0] (.bool (l.contains s)):=by
 refine uOb func98 ntmps98 ?_;refine gz4 ?_;refine dq (zU (h:=eSs l) zu rfl rfl rfl) ?_;refine gz1 ?_;refine dq (uCl zfU rfl (zH uS)) ?_;refine gz3 ?_;refine zC rfl ?_
 rfl
theorem zlF [Tracks] {a b:List Str} (ha:a.length<=1000000) (hb:b.length<=1000000):ConP prog 47 [eSs a,eSs b] (.bool (zkc a b)):=by
 refine uOb func47 ntmps47 ?_;refine gz7 ?_;refine dq (uCl ztj rfl (zbS (l:=a) (p:=fun s=>b.contains s) ca98 (fun _=>zky hb) ha)) ?_;refine gz3 ?_;refine zC rfl ?_
 rfl
theorem zj3 [Tracks] {g:LeagueS} {t:Str} (hT:g.Teams.length<=1000000):ConP prog 16 [zca g,.str t] (.int .i64 (if g.Teams.contains t=true then 0 else 8)):=by
 refine uOb func16 ntmps16 ?_;refine gz6 ?_;refine dq (zU (h:=eSs g.Teams) zu rfl rfl rfl) ?_;refine gz1 ?_;refine dq (uCl zfU rfl (zH uS)) ?_;refine gz1 ?_;refine dq (uCl ca40 rfl zj1) ?_;refine gz3 ?_;refine uRp ?_
 cases g.Teams.contains t<;>rfl
theorem zlB [Tracks] {b:BookS} {n:Int} (hL:b.League.Players.length<=1000000) (hm:zcj b.Moves=0) (hn:0<=n/\n<=345686399999):ConP prog 18 [zbg b,.int .i64 n] (eSs (zb0 b.League.Bounds (zah b.League.Bounds b.Moves n) n (b.League.Players.map (·.Key)))):=by
 refine uOb func18 ntmps18 ?_;refine gz7 ?_;refine zl (zQ 1) ?_;refine gz2 ?_;refine dq ((by first|exact ze za0 rfl z7 (by decide) rfl|exact zb za0 rfl z7 (by decide) rfl)) ?_;refine dq ((by first|exact ze z7 rfl zcA (by decide) rfl|exact zb z7 rfl zcA (by decide) rfl)) ?_;refine dq (zU (h:=zaC b.League.Players) zcA rfl rfl rfl) ?_;refine dq (zaw (f:=zcE) (l:=b.League.Players) zcA rfl) ?_;refine gz3 ?_;refine uV2 [5,1,7,1,12,10] (fun (k:Nat) (u:Value)=>[(12,.int .i64 k),(5,.raw u)]) (fun (k:Nat) (u:Value)=>[.arr u 1 ((b.League.Players.take k).map fun x=>HVal.str x.Key)]) (fun (k:Nat) (u:Value)=>k<=b.League.Players.length/\(True)) (fun (k:Nat) (u:Value)=>b.League.Players.length-k) (0) (.slice none 0 0) ?_ ?_ ?_ ?_;exact ⟨Ad _,trivial⟩;exact ⟨rfl,rfl,trivial⟩;exact (Ab _)
 intro k u hinv
 obtain ⟨hk,-⟩:=hinv;refine gz4 ?_;refine uCo (fun h1=> ?_) fun h2=> ?_
 obtain ⟨x,hx⟩: ∃x,b.League.Players[k]? =some x:=⟨_,Aa h1⟩
 have hdx:=zt hx;refine gz5 ?_;refine dq (zK zcA zdc rfl rfl rfl (by first|assumption|simp_all)) ?_;refine gz1 ?_;refine de rfl (zq zdc rfl fun b7=> ?_)
 refine de0 (zz zdc rfl rfl rfl rfl rfl ?_)
 refine gz1 ?_;refine zl (zD 7 rfl) ?_;refine gz2 ?_;refine dq ((by first|exact ze zdc rfl ty9 (by decide) rfl|exact zb zdc rfl ty9 (by decide) rfl)) ?_;refine gz1 ?_;refine dq (za (hs:=[_]) zu ty9 rfl rfl (by decide) (by decide) rfl) ?_;refine de rfl (zN (i:=0) zu ty9 rfl rfl rfl rfl rfl (by simp [zal,zd]) (by simp only [Ag,Ah,Al,AC] at*;omega) fun v20=> ?_)
 refine gz8 ?_;exact ⟨k+1,v20,⟨by omega,trivial⟩,uD,⟨rfl,rfl,trivial⟩,uK,zg (by dsimp only;rw [za1 hx,Ay];rfl)⟩;have hnk:b.League.Players.length<=k:=by omega
 obtain rfl:k=b.League.Players.length:=by omega
 rw [Aw];refine gz2 ?_;refine zY ?_;refine gz2 ?_;refine zl (zap 5 (i:=0) rfl rfl) ?_;rw [show List.map (fun x:PlayerS=>HVal.str x.Key) b.League.Players=(b.League.Players.map (·.Key)).map HVal.str by rw [Bb];rfl];refine gz1 ?_;refine dq ((by first|exact ze za0 rfl z7 (by decide) rfl|exact zb za0 rfl z7 (by decide) rfl)) ?_;refine dq ((by first|exact ze z7 rfl zdN (by decide) rfl|exact zb z7 rfl zdN (by decide) rfl)) ?_;refine dq (zaq (h':=zcn b.League.Bounds) (zaP zdN rfl rfl (Ak rfl)) rfl) ?_;refine dq ((by first|exact ze za0 rfl zbr (by decide) rfl|exact zb za0 rfl zbr (by decide) rfl)) ?_;refine dq (zU (h:=zbs b.Moves) zbr rfl rfl rfl) ?_;refine gz2 ?_;refine dq (uCl ca41 rfl (zlH (b:=b.League.Bounds) (l:=b.Moves) (p:=b.League.Players.map (·.Key)) (n:=n) hm (by rw [Ag];exact hL) hn)) ?_;refine gz3 ?_;refine zC rfl ?_
 rfl
end
end Go.Proofs.YtahegdhbakjdoaaGreatDoor
namespace Go.HL
section
open Go
def RF (r:Option Nat):Fence:={fn:=fun _=>True,depth:=none,alive:=false,round:=r}
def NoDef (l:List Oper):Bool:=l.all fun o=>match o.op with| .defer _=>false|_=>true
theorem NoDef.at {l:List Oper} (h:NoDef l=true) {i:Nat} {o:Oper} (hi:l.toArray[i]? =some o): ∀c,o.op≠ .defer c:=fun c e=>by
 have h1:=List.all_eq_true.1 h o (Ac (by simpa using hi));rw [e] at h1;cases h1
section
variable {P:Program} {r:Option Nat} {m:Nat} {l:List Oper}
theorem zvU {f:FuncId} {args:Array Value} {w:World} {R:Ending->World->Prop} (h:Calls P f args w R):CallsIn (RF r) m P f args w R:=by
 have h1:CallsIn Fence.wide m P f args w R:=callsIn_wide.2 h;exact h1
theorem zxH {row:String} {args:Array Value} {w:World} {R:Value->World->Prop} (h:Rows P row args w R):RowsIn (RF r) m P row args w R:=fun c cs _=>by
 obtain ⟨v,w',h1,h2⟩:=h c cs;exact ⟨v,w',h1,(stepsIn_wide (P:=P)).2 h2⟩
theorem zvV {o:Oper} {a:Act} {w:World} {K K':Act->World->Prop} {Q:Exit->Act->World->Prop} (nd: ∀c,o.op≠ .defer c) (hk: ∀a w,K a w->K' a w) (h:o.wp P a w K NoQ):o.wpIn (RF r) m P a w K' Q:=by
 refine ⟨fun _ _=>trivial,?_⟩
 rw [Oper.semAt_eq _ _ _ nd];unfold Oper.wp at h
 generalize (execOp a.eval o).run P w=q at*
 cases q with
 |ok x w'=>
   cases x<;>simp only [Oper.upon,Oper.uponIn] at h⊢
   case value=>exact hk _ _ h
   case skip=>exact hk _ _ h
   case defer=>exact hk _ _ h
   case enter f args=>
    refine ⟨fun q=>by simp [RF] at q,zvU (Calls.mono h fun e w'' he=> ?_)⟩
    cases e with
    |returned v=>exact hk _ _ he
    |panicked c=>exact (he:False).elim
    |outgrown=>obtain ⟨_,_,hf⟩:=he;exact (hf:False).elim
   case row row args=>exact ⟨fun q=>by simp [RF] at q,zxH (Rows.mono h fun _ _ he=>hk _ _ he)⟩
   all_goals exact h.elim
 |halt x w'=>
   cases x<;>simp only [Oper.upon,Oper.uponIn] at h⊢
   all_goals exact (h:False).elim
theorem HOp.soundG [Tracks] {n:Nat} {o:Oper} {e:Env} {M:List MObj} {K:Env->List MObj->Prop} (hnd:NoDef l=true) (h:HOp P l.toArray n o e M K)
 {i:Nat} (hi:l.toArray[i]? =some o) {Q:Exit->Act->World->Prop} {I:Imm} {F:List MObj} {a:Act} {w:World} {ds:List Deferred} (hd:a.defers=ds) (hn:a.tmps.size=n)
 (he:EnvV I e a.tmps) (hs:Sat P I (M++F) w) {K':Act->World->Prop}
 (hk: ∀J e' M' a' w',Le I J->K e' M'->a'.defers=ds->a'.tmps.size=n->EnvV J e' a'.tmps->Sat P J (M'++F) w'->K' a' w'):wpOpIn (RF r) m P l.toArray Q i K' a w:=by
 unfold wpOpIn;simp only [hi];obtain ⟨hdst,c,hw,ht,hf⟩:=h;rw [hw.real he]
 cases c with
 |false=>
   simp only [AP,if_false];obtain ⟨h,hh⟩:=hf rfl;exact ⟨fun _ _=>trivial,hk I _ M _ _ (.refl I) hh (by rw [zg4];exact hd) (by rw [ziW];exact hn) (he.put (by rw [hn];exact hdst) (.opt (fun h=>by cases h) (fun _=>rfl))) hs⟩
 |true=>
   simp only [if_true];refine zvV (NoDef.at hnd hi) ?_ (ht rfl I F a w (he.opds o) hs)
   rintro a' w' ⟨v,x,M',J,rfl,h2,h3,h4,h5⟩;exact hk J _ M' _ _ h2 h3 (by rw [zg4];exact hd) (by rw [ziW];exact hn) ((he.mono h2).put (by rw [hn];exact hdst) h4) h5
theorem Der.soundG [Tracks] {n:Nat} {K:Env->List MObj->Prop} {I:Imm} {F:List MObj} {Q:Exit->Act->World->Prop} {ds:List Deferred} (hnd:NoDef l=true)
 (hq: ∀J e M a w,Le I J->K e M->a.defers=ds->a.tmps.size=n->EnvV J e a.tmps->Sat P J (M++F) w->Q .normal a w):
 ∀(q:List Oper) (k:Nat),(∀j,l.toArray[k+j]? =q[j]?)->∀(J:Imm) (e:Env) (M:List MObj) (a:Act) (w:World),Le I J->Der P l.toArray n K q e M->
  a.defers=ds->a.tmps.size=n->EnvV J e a.tmps->Sat P J (M++F) w->wpOpsIn (RF r) m P l.toArray Q (List.range' k q.length) a w:=by
 intro q
 induction q with
 |nil=>intro k _ J e M a w hl h hd hn he hs;exact hq J e M a w hl h hd hn he hs
 |cons o rest ih=>
   intro k hk J e M a w hl h hd hn he hs
   rw [Ah,B4,wpOpsIn_cons];have hi:l.toArray[k]? =some o:=by simpa using hk 0
   refine HOp.soundG hnd h hi hd hn he hs fun J' e' M' a' w' hl' hK hd' hn' he' hs'=> ?_
   exact ih (k+1) (fun j=>by have:=hk (j+1);simp only [AJ] at this;rw [<-this];congr 1;omega) J' e' M' a' w' (hl.trans hl') hK hd' hn' he' hs'
end
def PostG [Tracks] (P:Program) (n:Nat) (I:Imm) (F:List MObj) (Q:List Deferred->Exit->Env->List MObj->Prop):Exit->Act->World->Prop:=
 fun x a w=>a.tmps.size=n/\∃J e M,Le I J/\Q a.defers x e M/\EnvV J e a.tmps/\Sat P J (M++F) w
theorem PostG.le [Tracks] {P:Program} {n:Nat} {I J:Imm} {F:List MObj} {Q:List Deferred->Exit->Env->List MObj->Prop} {x:Exit} {a:Act} {w:World} (hl:Le I J) (h:PostG P n J F Q x a w):PostG P n I F Q x a w:=
 let ⟨h2,J',e,M,h3,h4⟩:=h;⟨h2,J',e,M,hl.trans h3,h4⟩
def zdI [Tracks] (P:Program) (r:Option Nat) (ds:List Deferred) (n:Nat) (c:Code) (e:Env) (M:List MObj) (Q:List Deferred->Exit->Env->List MObj->Prop):Prop:=
 ∀m I F a w,a.defers=ds->a.tmps.size=n->EnvV I e a.tmps->Sat P I (M++F) w->c.wpIn (RF r) m P (PostG P n I F Q) a w
def SeqG [Tracks] (P:Program) (r:Option Nat) (n:Nat) (c:Code) (Q:List Deferred->Exit->Env->List MObj->Prop):List Deferred->Exit->Env->List MObj->Prop
 |ds,.normal,e,M=>zdI P r ds n c e M Q
 |ds,x,e,M=>Q ds x e M
def znL (id:Nat) (Q:List Deferred->Exit->Env->List MObj->Prop):List Deferred->Exit->Env->List MObj->Prop
 |ds,.exit id',e,M=>if id'=id then Q ds .normal e M else Q ds (.exit id') e M
 |ds,x,e,M=>Q ds x e M
section
variable {P:Program} {r:Option Nat} {ds:List Deferred} {n:Nat} {e e':Env} {M M':List MObj} {Q Q':List Deferred->Exit->Env->List MObj->Prop} {c c':Code} {id:Nat} {l:List Oper}
theorem zuq [Tracks] (hg:Ghost e M e' M') (h:zdI P r ds n c e' M' Q):zdI P r ds n c e M Q:=fun m I F a w h1 h2 h3 h4=>by
 obtain ⟨J,hl,he,hs⟩:=hg I F a.tmps w h3 h4;exact wpIn_mono (h m J F a w h1 h2 he hs) fun _ _ _ hp=>hp.le hl
theorem zsp [Tracks] (h:zdI P r ds n c e M (SeqG P r n c' Q)):zdI P r ds n (.seq c c') e M Q:=fun m I F a w h1 h2 h3 h4=>by
 refine wpIn_seq (wpIn_mono (h m I F a w h1 h2 h3 h4) ?_)
 rintro x a' w' ⟨p2,J,e',M',p3,p4,p5,p6⟩
 cases x with
 |normal=>exact wpIn_mono (p4 m J F a' w' rfl p2 p5 p6) fun _ _ _ hp=>hp.le p3
 |_=>exact ⟨p2,J,e',M',p3,p4,p5,p6⟩
theorem zkP [Tracks] (h:Der P l.toArray n (fun e M=>Q ds .normal e M) l e M) (hn:NoDef l=true:=by rfl):zdI P r ds n (.region id l.toArray false) e M Q:=fun m I F a w h1 h2 h3 h4=>by
 refine wpIn_region ?_;have:=Der.soundG (r:=r) (m:=m) (K:=fun e M=>Q ds .normal e M) (I:=I) (F:=F) (Q:=PostG P n I F Q) hn
  (fun J e M a w hl hK hd hn he hs=>⟨hn,J,e,M,hl,by rw [hd];exact hK,he,hs⟩) l 0 (fun j=>by simp) I e M a w (.refl I) h h1 h2 h3 h4
 rw [BP]
 simpa using this
theorem zkh [Tracks] (h:Der P l.toArray n (fun e M=>zdI P r ds n c e M Q) l e M) (hn:NoDef l=true:=by rfl):zdI P r ds n (.seq (.region id l.toArray false) c) e M Q:=
 zsp (zkP h hn)
theorem znq [Tracks] (h:Q ds .normal e M):zdI P r ds n .skip e M Q:=fun m I F a w h1 h2 h3 h4=>wpIn_skip ⟨h2,I,e,M,.refl I,by rw [h1];exact h,h3,h4⟩
theorem zmD [Tracks] (h:Q ds .ret e M):zdI P r ds n .ret e M Q:=fun m I F a w h1 h2 h3 h4=>wpIn_ret ⟨h2,I,e,M,.refl I,by rw [h1];exact h,h3,h4⟩
theorem zvr [Tracks] (h:Q ds (.exit id) e M):zdI P r ds n (.exit id) e M Q:=fun m I F a w h1 h2 h3 h4=>wpIn_exit ⟨h2,I,e,M,.refl I,by rw [h1];exact h,h3,h4⟩
theorem zvq [Tracks] {x:Operand} {b:Bool} (hx:zh e x=some (.bool b)) (ht:b=true->zdI P r ds n c e M Q) (hf:b=false->zdI P r ds n c' e M Q):zdI P r ds n (.cond x c c') e M Q:=
 fun m I F a w h1 h2 h3 h4=>by
  have hv:=h3.eval hx;have:a.eval x= .bool b:=by generalize a.eval x=y at*;cases hv;rfl
  exact wpIn_cond_split this (fun h=>ht h m I F a w h1 h2 h3 h4) (fun h=>hf h m I F a w h1 h2 h3 h4)
theorem zpO [Tracks] (h:zdI P r ds n c e M (znL id Q)):zdI P r ds n (.block id c) e M Q:=fun m I F a w h1 h2 h3 h4=>by
 refine wpIn_block (wpIn_mono (h m I F a w h1 h2 h3 h4) ?_)
 rintro x a' w' ⟨p2,J,e',M',p3,p4,p5,p6⟩
 cases x with
 |exit id'=>
   simp only [Exit.inBlock,znL] at*
   split
   rename_i hh;rw [if_pos hh] at p4;exact ⟨p2,J,e',M',p3,p4,p5,p6⟩
   rename_i hh;rw [if_neg hh] at p4;exact ⟨p2,J,e',M',p3,p4,p5,p6⟩
 |_=>exact ⟨p2,J,e',M',p3,p4,p5,p6⟩
end
end
section
open Go
section
variable {P:Program}
abbrev zmH (D:Nat):Deferred:={target:= .collected D,args:= #[]}
abbrev zh2 (D:Nat):MObj:= .obj D (.deferred (some []))
theorem Sat.putObj [Tracks] {I:Imm} {M:List MObj} {b:Nat} {o:Obj} (o':Obj) {w:World} (h:Sat P I (.obj b o::M) w):Sat P I (.obj b o'::M) (w.putObj b o'):=by
 have hb:w.heap[b]? =some o:=h.obj _ Ai;exact h.change (fun x _ hn=>World.putObj_heap_other (by simpa [MObj.blocks] using hn)) (fun x hx=> .inl hx) (by simp [MObj.blocks]) (World.putObj_heap_same (Array.getElem?_eq_some_iff.1 hb).1) rfl rfl rfl
def ConI [Tracks] (P:Program) (I0:Imm) (f:FuncId) (hargs:List HVal) (M:List MObj) (Q:HVal->List MObj->Prop):Prop:=
 ∀m I F (w:World) (args:List Value),Le I0 I->VL I hargs args->Sat P I (M++F) w->CallsIn (RF none) m P f args.toArray w (fun e w'=> ∃v h M' J,e= .returned v/\Le I J/\Q h M'/\V J h v/\Sat P J (M'++F) w')
def znP [Tracks] (P:Program) (I0:Imm) (l:Nat) (hs:List HVal) (M:List MObj) (Q:Bool->List MObj->Prop):Prop:=
 ∀m I F (w:World) (vs:List Value),Le I0 I->VL I hs vs->Sat P I (M++F) w->YieldAt (RF none) m P l vs.toArray w (fun e w'=> ∃b M' J,e= .returned (.bool b)/\Le I J/\Q b M'/\Sat P J (M'++F) w')
theorem zsa [Tracks] {n m i d lp:Nat} {l:List Oper} {e:Env} {M:List MObj} {x:Operand} {xs:Array Operand} {ats:Array TypeId} {ty:TypeId} {pos:String} {af:Array Edge} {hs hs':List HVal} {Qy:Bool->List MObj->Prop}
 (hi:l.toArray[i]? =some ⟨some d,.call ⟨.value x,xs,ats⟩,ty,pos,af,none⟩) (hdn:d<n) (hx:zh e x=some (.raw (.func (.yield lp) #[] #[]))) (ha:zcL e xs.toList=some hs) (hw:WeakL hs hs') {I0:Imm}
 (hy:znP P I0 lp hs' M Qy) {Q:Exit->Act->World->Prop} {I:Imm} (h0:Le I0 I) {F:List MObj} {a:Act} {w:World} {ds:List Deferred} (hd:a.defers=ds) (hn:a.tmps.size=n)
 (he:EnvV I e a.tmps) (hsat:Sat P I (M++F) w) {K':Act->World->Prop}
 (hk: ∀J b M' a' w',Le I J->Qy b M'->a'.defers=ds->a'.tmps.size=n->EnvV J (upd e d (.bool b)) a'.tmps->Sat P J (M'++F) w'->K' a' w'):wpOpIn (RF none) m P l.toArray Q i K' a w:=by
 unfold wpOpIn;simp only [hi];have hwant:Region.wanted (⟨some d,.call ⟨.value x,xs,ats⟩,ty,pos,af,none⟩:Oper) (yielded l.toArray a.tmps)=true:=rfl;rw [if_pos hwant];have ho:=he.opds (⟨some d,.call ⟨.value x,xs,ats⟩,ty,pos,af,none⟩:Oper);have h1:=(ho.one (x:=x) (by simp [Op.operands,Call.operands]) hx).raw_inv;have hv:=zhj (I:=I) (f:=a.eval) _ _ ha fun x hx h hh=>ho.one (by simp only [Op.operands,Call.operands];exact Bn _ (by simpa using hx)) hh
 obtain ⟨fn,tmps,assign,body,hrun,hR⟩:=hy (m-1) I F w _ h0 (hw.vl hv) hsat;have hr:(execOp a.eval ⟨some d,.call ⟨.value x,xs,ats⟩,ty,pos,af,none⟩).run P w= .ok (.round lp fn tmps assign body) w:=by
  have e1:(xs.toList.map a.eval).toArray=xs.map a.eval:=by apply B8;simp
  rw [e1] at hrun
  simp [execOp,resolve,h1,Deferred.ofValue,invoke,hrun]
 refine ⟨fun _ _=>trivial,?_⟩
 rw [Oper.semAt_eq _ _ _ (by intro c q;cases q),hr];refine ⟨fun q=>by simp [RF] at q,hR.mono ?_⟩
 rintro e' w' ⟨b,M',J,rfl,h2,h3,h4⟩;exact hk J b M' _ _ h2 h3 (by rw [zg4];exact hd) (by rw [ziW];exact hn) ((he.mono h2).put (d:=some d) (by intro t ht;cases ht;rw [hn];exact hdn) (.bool b)) h4
def zrC (e:Env):List Tmp->List HVal->Env
 |p::ps,h::hs=>zrC (upd e p h) ps hs
 |_,_=>e
theorem zpz [Tracks] {I:Imm}: ∀{ps:List Tmp} {hs:List HVal} {vs:List Value} {e:Env} {tmps:Array Value},EnvV I e tmps->VL I hs vs->(∀p∈ps,p<tmps.size)->
 EnvV I (zrC e ps hs) ((ps.zip vs).foldl (fun t (q:Tmp×Value)=>t.setIfInBounds q.1 q.2) tmps)/\((ps.zip vs).foldl (fun t (q:Tmp×Value)=>t.setIfInBounds q.1 q.2) tmps).size=tmps.size
 |[],hs,vs,e,tmps,he,_,_=>⟨by unfold zrC;cases hs<;>exact he,rfl⟩
 |p::ps,[],vs,e,tmps,he,hv,_=>by
   have:vs=[]:=by have:=hv.1;simpa using this
   subst this;exact ⟨by unfold zrC;exact he,rfl⟩
 |p::ps,h::hs,[],e,tmps,he,hv,_=>by have:=hv.1;simp at this
 |p::ps,h::hs,v::vs,e,tmps,he,hv,hp=>by
   have h1:EnvV I (upd e p h) (tmps.setIfInBounds p v):=by
    have:=EnvV.put (a:={tmps:=tmps,defers:=[]}) (d:=some p) he (by intro t ht;cases ht;exact hp p Ai) hv.head;exact this
   have h2:=zpz (ps:=ps) (hs:=hs) (vs:=vs) h1 hv.tail (fun q hq=>by rw [BU];exact hp q (Ap _ hq));refine ⟨h2.1,?_⟩
   have:=h2.2;rw [BU] at this;exact this
def zrD (fn:FuncId) (tmps:Array Value) (ps:Array Tmp) (assign body:Code) (D:Nat) (st:LoopState) (pe:Option Code):Obj:= .loop {state:=st,pending:=pe,fn,tmps,params:=ps,assign,body,defers:=D}
def zxT (Y:List MObj->Prop) (X:Code->List MObj->Prop):List Deferred->Exit->Env->List MObj->Prop
 |_,.normal,_,M=>Y M
 |_,.ret,_,M=>X .ret M
 |_,.exit id,_,M=>X (.exit id) M
 |_,.goto t,_,M=>X (.goto t) M
 |_,_,_,_=>False
theorem zur [Tracks] {g:Operand} {ps:Array Tmp} {assign body:Code} {n N:Nat} {e:Env} {Q:List Deferred->Exit->Env->List MObj->Prop} {gf:FuncId} {cap:List HVal} (Y:Nat->List MObj) (YP:Nat->Prop) (X:Code->List MObj->Prop) (enc:Nat->List HVal) (hN:YP N)
 (hc:Callable P gf) (hg:zh e g=some (.fn (.func gf) [] cap)) (hpn: ∀p∈ps.toList,p<n) (hps: ∀k,(enc k).length=ps.size)
 (hit: ∀I0 l (Y':Nat->List MObj) (X':List MObj->Prop),(∀k,k<N->YP (k+1)->znP P I0 l (enc k) (Y' (k+1)) (fun b M'=>(b=true/\M'=Y' k/\YP k)\/(b=false/\X' M')))->ConI P I0 gf (.raw (.func (.yield l) #[] #[])::cap) (Y' N) (fun _ M'=>(M'=Y' 0/\YP 0)\/X' M'))
 (hround: ∀l k,k<N->YP (k+1)->zdI P (some l) [] n assign (zrC e ps.toList (enc k)) (Y (k+1)) (fun d1 x e1 M1=>x= .normal/\zdI P (some l) d1 n body e1 M1 (zxT (fun M=>M=Y k/\YP k) X)))
 (hdone:YP 0->∀D,Q [zmH D] .normal e (zh2 D::Y 0))
 (hstop: ∀D c M',X c M'->zdI P none [zmH D] n c e (zh2 D::M') Q):
 zdI P none [] n (.rangeFunc g ps assign body) e (Y N) Q:=fun m I F a w hd hn he hs=>by
 refine wpIn_rangeFunc ?_
 intro fn hfn
 obtain ⟨v1,v2,h1,h2,h3⟩:=(he.eval hg).fn_inv;obtain rfl:v1= #[]:=by have:=h2.1;exact BI (by simpa using this)
 obtain ⟨D,hD⟩: ∃D,D=w.heap.size:=⟨_,rfl⟩
 obtain ⟨rec,hrec⟩: ∃rec:LoopState->Option Code->Obj,rec=zrD fn a.tmps ps assign body D:=⟨_,rfl⟩
 obtain ⟨W1,hW1⟩: ∃W1,(w.alloc (.deferred (some []))).alloc (rec .ready none)=W1:=⟨_,rfl⟩
 have hs1:Sat P I (zh2 D::(Y N++F)) (push w (.deferred (some []))):=hs.new_own _ _ (by rw [hD];rfl) (by show (push w _).heap[D]? =_;rw [hD];simp [push]);have hs2:Sat P I (.obj (D+1) (rec .ready none)::zh2 D::(Y N++F)) W1:=by
  rw [<-hW1];have hsz:(push w (.deferred (some []))).heap.size=D+1:=by rw [hD];simp [push]
  exact hs1.new_own (rec .ready none) (.obj (D+1) (rec .ready none)) (by rw [hsz];rfl) (by show (push (push w _) _).heap[D+1]? =_;rw [<-hsz];exact Array.getElem?_push_size)
 refine ⟨D+1,[zmH D],W1,{target:= .fn (.func gf) v2,args:= #[.func (.yield (D+1)) #[] #[]]},W1,gf,#[.func (.yield (D+1)) #[] #[]]++v2,W1,?_,?_,?_,?_,fun q=>by simp [RF] at q,?_⟩
 rw [<-hW1,hrec,hD];exact run_enterLoop_outer _ _ _ _ _;simp only [resolve,h1]
 simp [go_sem]
 intro f' hf';trivial
 simp [invoke,zfw hc]
 have hcon:=hit I (D+1) (fun k=> .obj (D+1) (rec .ready none)::zh2 D::Y k) (fun M'=> ∃c M'',M'= .obj (D+1) (rec .done (some c))::zh2 D::M''/\X c M'') (fun k hk hyp=> ?_);have hargs:VL I (.raw (.func (.yield (D+1)) #[] #[])::cap) (.func (.yield (D+1)) #[] #[]::v2.toList):=VL.cons (.raw _ rfl) h3;have hcall:=hcon (m-1) I F W1 _ (.refl I) hargs hs2;have e1:(Value.func (.yield (D+1)) #[] #[]::v2.toList).toArray= #[.func (.yield (D+1)) #[] #[]]++v2:=by apply B8;simp
 rw [e1] at hcall;refine hcall.mono ?_;rintro x w' ⟨v,h,M',J,rfl,hl,hq,hvv,hs'⟩
 rcases hq with ⟨rfl,hy0⟩|⟨c,M'',rfl,hx⟩
 have hlo:w'.heap[D+1]? =some (rec .ready none):=hs'.obj _ Ai;refine ⟨none,_,by rw [hrec] at hlo;exact run_endLoop hlo (by simp),?_⟩
 refine ⟨hn,J,e,_,hl,?_,he.mono hl,(hs'.putObj _).drop⟩
 show Q ([zmH D]++a.defers) _ _ _
 rw [hd];exact hdone hy0 D;have hlo:w'.heap[D+1]? =some (rec .done (some c)):=hs'.obj _ Ai;refine ⟨some c,_,by rw [hrec] at hlo;exact run_endLoop hlo (by simp),?_⟩
 refine wpIn_mono (hstop D c M'' hx m J F _ _ (by show [zmH D]++a.defers=_;rw [hd];rfl) hn (he.mono hl) (hs'.putObj _).drop) fun _ _ _ hp=>hp.le hl
 intro m' I' F' w' vs h0 hvl hs'
 have hlo:w'.heap[D+1]? =some (rec .ready none):=hs'.obj _ Ai;have hsz:vs.toArray.size=ps.size:=by have:=hvl.1;rw [hps] at this;simpa using this
 have hy:=run_yield (P:=P) (args:=vs.toArray) (by rw [hrec] at hlo;exact hlo) hsz;refine ⟨fn,_,assign,body,hy,roundIn_of_wpIn trivial ?_⟩
 have hen:=zpz (ps:=ps.toList) (vs:=vs) (he.mono h0) hvl (by intro p hp;rw [hn];exact hpn p hp);have hfold:(ps.zip vs.toArray).foldl (fun tmps (q:Tmp×Value)=>tmps.setIfInBounds q.1 q.2) a.tmps=(ps.toList.zip vs).foldl (fun t (q:Tmp×Value)=>t.setIfInBounds q.1 q.2) a.tmps:=by
  rw [<-Array.foldl_toList];simp
 have hsF:Sat P I' (Y (k+1)++(.obj (D+1) (rec .ready none)::zh2 D::F')) w':=hs'.perm (by
  show (_::_::(Y (k+1)++F')).Perm _
  exact (List.perm_middle.trans (List.perm_middle.cons _)).symm)
 refine wpIn_mono (hround (D+1) k hk hyp m' I' _ {tmps:=_,defers:=[]} w' rfl (by show Array.size _=_;rw [hfold,hen.2,hn]) (by rw [hfold];exact hen.1) hsF) ?_;rintro x a1 w1 ⟨p2,J,e1,M1,p3,⟨rfl,hbody⟩,p5,p6⟩;have hsA:=p6.perm (N:= .obj (D+1) (rec .ready none)::(M1++(zh2 D::F'))) BO;have hlo1:w1.heap[D+1]? =some (rec .ready none):=hsA.obj _ Ai;have hsB:=(hsA.putObj (rec .busy none)).perm (N:=M1++(.obj (D+1) (rec .busy none)::zh2 D::F')) List.perm_middle.symm;refine ⟨_,run_beginRound (by rw [hrec] at hlo1;exact hlo1) rfl,?_⟩
 refine wpIn_mono (hbody m' J _ a1 _ rfl p2 p5 (by rw [hrec] at hsB;exact hsB)) ?_;rintro x2 a2 w2 ⟨q2,J2,e2,M2,q3,q4,q5,q6⟩;have hsC:=q6.perm (N:= .obj (D+1) (rec .busy none)::(M2++(zh2 D::F'))) (by rw [hrec];exact BO);have hlo2:w2.heap[D+1]? =some (rec .busy none):=hsC.obj _ Ai;have hlo2':=hlo2;rw [hrec] at hlo2';have hfin: ∀o:Obj,Sat P J2 ((.obj (D+1) o::zh2 D::M2)++F') (w2.putObj (D+1) o):=fun o=>(hsC.putObj o).perm (List.Perm.cons _ BO)
 have hl2:=p3.trans q3
 cases x2 with
 |normal=>
   obtain ⟨rfl,hyk⟩:M2=Y k/\YP k:=q4;refine ⟨_,_,run_endRound none hlo2',true,_,J2,rfl,hl2,.inl ⟨rfl,rfl,hyk⟩,?_⟩
   subst hrec;exact hfin (zrD fn a.tmps ps assign body D .ready none)
 |ret=>
   refine ⟨_,_,run_endRound (some .ret) hlo2',false,_,J2,rfl,hl2,.inr ⟨rfl,_,M2,rfl,q4⟩,?_⟩
   subst hrec;exact hfin (zrD fn a.tmps ps assign body D .done (some .ret))
 |exit id=>
   refine ⟨_,_,run_endRound (some (.exit id)) hlo2',false,_,J2,rfl,hl2,.inr ⟨rfl,_,M2,rfl,q4⟩,?_⟩
   subst hrec;exact hfin (zrD fn a.tmps ps assign body D .done (some (.exit id)))
 |goto t=>
   refine ⟨_,_,run_endRound (some (.goto t)) hlo2',false,_,J2,rfl,hl2,.inr ⟨rfl,_,M2,rfl,q4⟩,?_⟩
   subst hrec;exact hfin (zrD fn a.tmps ps assign body D .done (some (.goto t)))
 |panic=>exact q4.elim
 |outgrown=>exact q4.elim
end
end
section
open Go
section
variable {P:Program}
theorem zAr [Tracks] {I:Imm}: ∀{l:List HVal} {vs:List Value},VL I l vs->V I (ztN l) (if h:vs.length=1 then vs[0] else .tuple vs.toArray)
 |[],vs,h4=>by
   have:vs=[]:=by have:=h4.1;simpa using this
   subst this;exact .tup (by simp) (fun j c v h _=>by simp at h)
 |[x],vs,h4=>by
   have hl1:vs.length=1:=by have:=h4.1;simpa using this
   match vs,hl1,h4 with
   |[v],_,h4=>exact h4.head
 |x::y::r,vs,h4=>by
   have hl1:vs.length=r.length+2:=by have:=h4.1;simpa using this
   rw [dif_neg (by omega)];exact .tup (by simp [hl1]) (fun j c v h1 h2=>h4.2 j c v h1 (by simpa using h2))
def zsT [Tracks] (P:Program) (rs:List ResultVar) (Q:HVal->List MObj->Prop):List Deferred->Exit->Env->List MObj->Prop:=
 fun ds x e M=>(x= .normal\/x= .ret)/\((ds=[]/\zsS P rs Q .ret e M)\/∃D M0,ds=[zmH D]/\M=zh2 D::M0/\zsS P rs Q .ret e M0)
theorem zsI [Tracks] {fn:Func} {tmps:Array Value} {J:Imm} {e:Env} {M F:List MObj} {w:World} {Q:HVal->List MObj->Prop} (hr:zsS P fn.results.toList Q .ret e M) (he:EnvV J e tmps) (hs:Sat P J (M++F) w):
 ∃v,(results fn tmps).run P w= .ok v w/\∃v_1 h M' J',Ending.returned v=Ending.returned v_1/\Le J J'/\Q h M'/\V J' h v_1/\Sat P J' (M'++F) w:=by
 obtain ⟨e',M'',hg,l,h',hr,hw,hq⟩:=hr;obtain ⟨J2,hl2,he2,hs2⟩:=hg J F tmps w he hs;obtain ⟨vs,h3,h4⟩:=zrH he2 hs2 _ _ hr;have hrun:(results fn tmps).run P w= .ok (if h:vs.length=1 then vs[0] else .tuple vs.toArray) w:=by
  rw [zk4];have hm:(fn.results.mapM (zg5 tmps)).run P w= .ok vs.toArray w:=by
   rw [Bw];simp only [Sem.run_map,h3,Result.andThen_ok]
  simp only [Sem.run_bind,Sem.run_pure];rw [hm]
  simp
 exact ⟨_,hrun,_,h',M'',J2,rfl,hl2,hq,hw _ _ (zAr h4),hs2⟩
theorem ztE [Tracks] {m:Nat} {fn:Func} {tmps:Array Value} {ds:List Deferred} {x:Exit} {I J:Imm} {e:Env} {M F:List MObj} {w:World} {Q:HVal->List MObj->Prop} (hl:Le I J) (h:zsT P fn.results.toList Q ds x e M) (he:EnvV J e tmps) (hs:Sat P J (M++F) w):
 LeavesInM (RF none) m P fn tmps (fun e w'=> ∃v h M' J',e= .returned v/\Le I J'/\Q h M'/\V J' h v/\Sat P J' (M'++F) w') ds .returning w:=by
 obtain ⟨_,⟨rfl,hr⟩|⟨D,M0,rfl,rfl,hr⟩⟩:=h;obtain ⟨v,h1,v1,h,M',J',h2,h3,h4,h5,h6⟩:=zsI hr he hs;exact ⟨v,h1,v1,h,M',J',h2,hl.trans h3,h4,h5,h6⟩;have hlo:w.heap[D]? =some (.deferred (some [])):=hs.obj _ Ai;refine ⟨by simp,.inl ⟨D,_,rfl,run_takeDeferred hlo,?_⟩⟩
 obtain ⟨v,h1,v1,h,M',J',h2,h3,h4,h5,h6⟩:=zsI hr he (hs.putObj (.deferred none)).drop;exact ⟨v,h1,v1,h,M',J',h2,hl.trans h3,h4,h5,h6⟩
theorem zrI [Tracks] {m n:Nat} {fn:Func} {I:Imm} {F:List MObj} {Q:HVal->List MObj->Prop} {x:Exit} {a:Act} {w:World} (h:PostG P n I F (zsT P fn.results.toList Q) x a w):
 bodyPostM (RF none) m P fn (fun e w'=> ∃v h M' J',e= .returned v/\Le I J'/\Q h M'/\V J' h v/\Sat P J' (M'++F) w') x a w:=by
 obtain ⟨_,J,e,M,h1,h2,h3,h4⟩:=h;have:=ztE (m:=m) h1 h2 h3 h4
 rcases h2.1 with rfl|rfl<;>exact this
theorem zqV [Tracks] {I:Imm} {hargs:List HVal} {args:List Value} {k:Nat} (h1:VL I hargs args):EnvV I (zjb hargs) (args.toArray++Array.replicate k undef):=by
 intro t x hx
 obtain ⟨v,h3,h4⟩:=h1.get hx;have hlt:t<args.length:=zx h3;refine ⟨v,?_,h4⟩
 rw [AD (by simpa using hlt)]
 simpa using h3
theorem zqI [Tracks] {f:FuncId} {fn:Func} {c:Code} {hargs:List HVal} {M:List MObj} {Q:HVal->List MObj->Prop}
 {n:Nat} (hf:P.funcs[f]? =some fn) (hb:fn.body=some c) (hnt:fn.ntmps=n) (hn':Nat.ble hargs.length n=true) {rs:List ResultVar} (hrs:fn.results.toList=rs) (h:zdI P none [] n c (zjb hargs) M (zsT P rs Q)):Con P f hargs M Q:=by
 have hn:=Ak hn';subst hnt hrs
 intro I F w args h1 h2
 refine (callsIn_wide (n:=0)).1 ?_
 show CallsIn (RF none) 0 P f args.toArray w _
 have hlen:=h1.1;exact callsIn_of_wp_marks hf hb trivial (wpIn_mono (h 0 I F _ w rfl (by simp;omega) (zqV h1) h2) fun _ _ _ hp=>zrI hp)
def zfQ [Tracks] (P:Program) (I0:Imm) (n:Nat) (c:Code) (e:Env) (M:List MObj) (Q:List Deferred->Exit->Env->List MObj->Prop):Prop:=
 ∀m I F a w,Le I0 I->a.defers=[]->a.tmps.size=n->EnvV I e a.tmps->Sat P I (M++F) w->c.wpIn (RF none) m P (PostG P n I F Q) a w
theorem ConI.of_body [Tracks] {I0:Imm} {f:FuncId} {fn:Func} {c:Code} {hargs:List HVal} {M:List MObj} {Q:HVal->List MObj->Prop}
 {n:Nat} (hf:P.funcs[f]? =some fn) (hb:fn.body=some c) (hnt:fn.ntmps=n) (hn':Nat.ble hargs.length n=true) {rs:List ResultVar} (hrs:fn.results.toList=rs) (h:zfQ P I0 n c (zjb hargs) M (zsT P rs Q)):ConI P I0 f hargs M Q:=by
 have hn:=Ak hn';subst hnt hrs
 intro m I F w args h0 h1 h2
 have hlen:=h1.1;exact callsIn_of_wp_marks hf hb trivial (wpIn_mono (h m I F _ w h0 rfl (by simp;omega) (zqV h1) h2) fun _ _ _ hp=>zrI hp)
variable {I0:Imm} {n:Nat} {e e':Env} {M M':List MObj} {Q:List Deferred->Exit->Env->List MObj->Prop} {c c':Code} {id:Nat} {l:List Oper}
theorem zoh [Tracks] (h:zdI P none [] n c e M Q):zfQ P I0 n c e M Q:=fun m I F a w _=>h m I F a w
theorem zsr [Tracks] (h:zfQ P I0 n c e M fun d x e M=>d=[]/\((x= .normal/\zfQ P I0 n c' e M Q)\/(x≠ .normal/\Q d x e M))):zfQ P I0 n (.seq c c') e M Q:=fun m I F a w h0 h1 h2 h3 h4=>by
 refine wpIn_seq (wpIn_mono (h m I F a w h0 h1 h2 h3 h4) ?_)
 rintro x a' w' ⟨p2,J,e',M',p3,⟨p0,p4⟩,p5,p6⟩
 rcases p4 with ⟨rfl,p4⟩|⟨hx,p4⟩
 exact wpIn_mono (p4 m J F a' w' (h0.trans p3) p0 p2 p5 p6) fun _ _ _ hp=>hp.le p3
 cases x with
 |normal=>exact absurd rfl hx
 |_=>exact ⟨p2,J,e',M',p3,p4,p5,p6⟩
theorem zrk [Tracks] {x:Operand} {b:Bool} (hx:zh e x=some (.bool b)) (ht:b=true->zfQ P I0 n c e M Q) (hf:b=false->zfQ P I0 n c' e M Q):zfQ P I0 n (.cond x c c') e M Q:=
 fun m I F a w h0 h1 h2 h3 h4=>by
  have hv:=h3.eval hx;have:a.eval x= .bool b:=by generalize a.eval x=y at*;cases hv;rfl
  exact wpIn_cond_split this (fun h=>ht h m I F a w h0 h1 h2 h3 h4) (fun h=>hf h m I F a w h0 h1 h2 h3 h4)
theorem zpP [Tracks] (h:zfQ P I0 n c e M (znL id Q)):zfQ P I0 n (.block id c) e M Q:=fun m I F a w h0 h1 h2 h3 h4=>by
 refine wpIn_block (wpIn_mono (h m I F a w h0 h1 h2 h3 h4) ?_)
 rintro x a' w' ⟨p2,J,e',M',p3,p4,p5,p6⟩
 cases x with
 |exit id'=>
   simp only [Exit.inBlock,znL] at*
   split
   rename_i hh;rw [if_pos hh] at p4;exact ⟨p2,J,e',M',p3,p4,p5,p6⟩
   rename_i hh;rw [if_neg hh] at p4;exact ⟨p2,J,e',M',p3,p4,p5,p6⟩
 |_=>exact ⟨p2,J,e',M',p3,p4,p5,p6⟩
theorem zvs [Tracks] {ι:Type} (E:ι->Env) (MM:ι->List MObj) (Iv:ι->Prop) (μ:ι->Nat) (i:ι) (h00:Iv i) (hg:Ghost e M (E i) (MM i))
 (hb: ∀i,Iv i->zfQ P I0 n c (E i) (MM i) fun d x e M=>(x= .normal/\d=[]/\∃j,Iv j/\μ j<μ i/\Ghost e M (E j) (MM j))\/(x≠ .normal/\Q d x e M)):zfQ P I0 n (.loop c) e M Q:=fun m I F a w h0 h1 h2 h3 h4=>by
 obtain ⟨J0,hl0,he0,hs0⟩:=hg I F a.tmps w h3 h4;refine wpIn_loop_ghost (fun k a w=> ∃i J,μ i=k/\Iv i/\Le I J/\a.defers=[]/\a.tmps.size=n/\EnvV J (E i) a.tmps/\Sat P J (MM i++F) w) (μ i)
  ⟨i,J0,rfl,h00,hl0,h1,h2,he0,hs0⟩ ?_
 rintro k a w ⟨i,J,rfl,hi,hl,h1,h2,h3,h4⟩;refine wpIn_mono (hb i hi m J F a w (h0.trans hl) h1 h2 h3 h4) ?_;rintro x a' w' ⟨p2,J',e',M',p3,p4,p5,p6⟩
 rcases p4 with ⟨rfl,hd,j,hj,hlt,hg'⟩|⟨hx,hq⟩
 obtain ⟨J2,hl2,he2,hs2⟩:=hg' J' F a'.tmps w' p5 p6;exact ⟨μ j,hlt,j,J2,rfl,hj,(hl.trans p3).trans hl2,hd,p2,he2,hs2⟩
 cases x with
 |normal=>exact absurd rfl hx
 |_=>exact ⟨p2,J',e',M',hl.trans p3,hq,p5,p6⟩
theorem zkp [Tracks] {m:Nat} {K:Env->List MObj->Prop} {I:Imm} {F:List MObj} {Q:Exit->Act->World->Prop} {ds:List Deferred} (hnd:NoDef l=true) {R:List Nat}
 (hq: ∀J e M a w,Le I J->K e M->a.defers=ds->a.tmps.size=n->EnvV J e a.tmps->Sat P J (M++F) w->wpOpsIn (RF none) m P l.toArray Q R a w):
 ∀(q:List Oper) (k:Nat),(∀j o,q[j]? =some o->l.toArray[k+j]? =some o)->∀(J:Imm) (e:Env) (M:List MObj) (a:Act) (w:World),Le I J->Der P l.toArray n K q e M->
  a.defers=ds->a.tmps.size=n->EnvV J e a.tmps->Sat P J (M++F) w->wpOpsIn (RF none) m P l.toArray Q (List.range' k q.length++R) a w:=by
 intro q
 induction q with
 |nil=>intro k _ J e M a w hl h hd hn he hs;exact hq J e M a w hl h hd hn he hs
 |cons o rest ih=>
   intro k hk J e M a w hl h hd hn he hs
   rw [Ah,B4,AT,wpOpsIn_cons];have hi:l.toArray[k]? =some o:=by simpa using hk 0 o rfl
   refine HOp.soundG hnd h hi hd hn he hs fun J' e' M' a' w' hl' hK hd' hn' he' hs'=> ?_
   exact ih (k+1) (fun j o ho=>by have:=hk (j+1) o (by simpa using ho);rw [<-this];congr 1;omega) J' e' M' a' w' (hl.trans hl') hK hd' hn' he' hs'
theorem zsq [Tracks] (h:Der P l.toArray n (fun e M=>zfQ P I0 n c e M Q) l e M) (hn:NoDef l=true:=by rfl):zfQ P I0 n (.seq (.region id l.toArray false) c) e M Q:=fun m I F a w h0 h1 h2 h3 h4=>by
 refine wpIn_seq (wpIn_region ?_)
 have hr:List.range l.toArray.size=List.range' 0 l.length++[]:=by rw [BP];simp
 rw [hr];refine zkp hn (I:=I) (F:=F) (ds:=[]) ?_ l 0 (fun j o ho=>by simpa using ho) I e M a w (.refl I) h h1 h2 h3 h4
 intro J3 e3 M3 a3 w3 hl3 hK hd3 hn3 he3 hs3
 exact wpIn_mono (hK m J3 F a3 w3 (h0.trans hl3) hd3 hn3 he3 hs3) fun _ _ _ hp=>hp.le hl3
theorem zus [Tracks] {d lp:Nat} (pre post:List Oper) {x:Operand} {xs:Array Operand} {ats:Array TypeId} {ty:TypeId} {pos:String} {af:Array Edge} {hs':List HVal} {Y:List MObj} {Qy:Bool->List MObj->Prop}
 (hl:l=pre++⟨some d,.call ⟨.value x,xs,ats⟩,ty,pos,af,none⟩::post) (hdn:Nat.blt d n=true) (hy:znP P I0 lp hs' Y Qy)
 (h:Der P l.toArray n (fun e1 M1=>zh e1 x=some (.raw (.func (.yield lp) #[] #[]))/\(∃hs,zcL e1 xs.toList=some hs/\WeakL hs hs')/\M1=Y/\
   ∀b M',Qy b M'->Der P l.toArray n (fun e M=>zfQ P I0 n c e M Q) post (upd e1 d (.bool b)) M') pre e M) (hnd:NoDef l=true:=by rfl):
 zfQ P I0 n (.seq (.region id l.toArray false) c) e M Q:=fun m I F a w h0 h1 h2 h3 h4=>by
 refine wpIn_seq (wpIn_region ?_)
 have hr:List.range l.toArray.size=List.range' 0 pre.length++(pre.length::(List.range' (pre.length+1) post.length++[])):=by
  rw [BP,hl];simp only [Bl,AB,Ah,AR];rw [<-List.range'_append_1,Bc,B4]
 rw [hr];refine zkp hnd (I:=I) (F:=F) (ds:=[]) ?_ pre 0 (fun j o ho=> ?_) I e M a w (.refl I) h h1 h2 h3 h4
 rintro J e1 M1 a1 w1 hl1 ⟨hx,⟨hs,ha,hw⟩,rfl,hpost⟩ hd hn he1 hs1;rw [wpOpsIn_cons];have hi:l.toArray[pre.length]? =some ⟨some d,.call ⟨.value x,xs,ats⟩,ty,pos,af,none⟩:=by rw [hl];simp
 refine zsa hi (zfg hdn) hx ha hw hy (h0.trans hl1) hd hn he1 hs1 fun J2 b M2 a2 w2 hl2 hq hd2 hn2 he2 hs2=> ?_
 refine zkp hnd (I:=J2) (F:=F) (ds:=[]) ?_ post (pre.length+1) (fun j o ho=> ?_) J2 _ M2 a2 w2 (.refl J2) (hpost b M2 hq) hd2 hn2 he2 hs2
 intro J3 e3 M3 a3 w3 hl3 hK hd3 hn3 he3 hs3
 exact wpIn_mono (hK m J3 F a3 w3 (((h0.trans hl1).trans hl2).trans hl3) hd3 hn3 he3 hs3) fun _ _ _ hp=>hp.le ((hl1.trans hl2).trans hl3)
 rw [hl];simp only [AV];rw [An (by omega),show pre.length+1+j-pre.length=j+1 by omega];exact ho;rw [hl];simp only [AV,Bc];rw [Ar (zx ho)];exact ho
end
end
end Go.HL
namespace Go.Proofs.YtahegdhbakjdoaaGreatDoor
set_option maxRecDepth 100000
set_option linter.unusedVariables false
set_option linter.unusedSimpArgs false
section
open Go.Proofs.Tryz
open Go.HL
abbrev zo5 (l:List ChoiceS) (k:Nat):List HVal:=[.int .i64 (k:Int),z8 (l.getD k zdn)]
theorem zqb [Tracks] {x y:HVal} {e:Env} (h0:e 0=some x) (h1:e 1=some y):Sub (zjb [x,y]) e:=fun t h ht=>by
 match t,ht with
 |0,ht=>cases ht;exact h0
 |1,ht=>cases ht;exact h1
 |t+2,ht=>cases ht
theorem zrP [Tracks] {b e:Env} {t:Nat} {x:HVal} (hb:Sub b e) (h:e t=some x):Sub (upd b t x) e:=fun s y hs=>by
 unfold upd at hs
 cases q:Nat.beq s t with
 |true=>
   rw [q] at hs;have:=Bj q;subst this
   cases hs;exact h
 |false=>
   rw [q] at hs;exact hb s y hs
theorem zoX [Tracks] {l:List ChoiceS} (hl:l.length<=1000000) (I0:Imm) (lp:Nat) (Y:Nat->List MObj) (YP:Nat->Prop) (hN:YP l.length) (X:List MObj->Prop)
 (hy: ∀k,k<l.length->YP (k+1)->znP prog I0 lp (zo5 l k) (Y (k+1)) (fun b M'=>(b=true/\M'=Y k/\YP k)\/(b=false/\X M'))):
 ConI prog I0 175 [.raw (.func (.yield lp) #[] #[]),.vptr [zc6 l] 0] (Y l.length) (fun _ M'=>(M'=Y 0/\YP 0)\/X M'):=by
 refine ConI.of_body func175 rfl ntmps175 rfl rfl ?_;refine zsq ?_;refine dq (zU (h:=zc6 l) zeh rfl rfl rfl) ?_;refine gz3 ?_;refine zpP ?_;refine zvs (ι:=Nat) (fun k=>upd (zjb [.raw (.func (.yield lp) #[] #[]),.vptr [zc6 l] 0]) 3 (.int .i64 ((k:Int)-1))) Y (fun k=>k<=l.length/\YP k) id l.length ⟨Af _,hN⟩ (Ghost.sub (zrP (zqb rfl rfl) rfl)) ?_;rintro k ⟨hk,hyk⟩;refine zsr ?_;refine zsq ?_;refine gz2 ?_;refine zrk rfl (fun h1=> ?_) (fun h2=> ?_)
 refine zoh (znq ⟨rfl,.inl ⟨rfl,?_⟩⟩)
 obtain ⟨j,rfl⟩: ∃j,k=j+1:=⟨k-1,by simp at h1;omega⟩
 have e9:((j+1:Nat):Int)-1=(j:Int):=by omega
 obtain ⟨x,hx⟩: ∃x,l[j]? =some x:=⟨_,Aa uO⟩
 have hE:zo5 l j=[.int .i64 (j:Int),z8 x]:=by simp [zo5,Ae,hx]
 have hyj:=hy j uO hyk;rw [hE] at hyj;rw [e9];refine zsr ?_;refine zpP ?_;refine zus [_,_,_,_,_,_] [_] rfl rfl hyj ?_;refine gz2 ?_;refine dq (zU (h:=zc6 l) zeh rfl rfl rfl) ?_;refine gz1 ?_;refine dq (zK (f:=z8) (l:=l) (j:=j) (a:=x) zeh zbZ rfl rfl rfl hx) ?_;refine dq (zaV (h:=z8 x) zbZ rfl rfl rfl rfl) ?_;refine ⟨rfl,⟨_,rfl,WeakL.refl _⟩,rfl,fun b M' hq=> ?_⟩
 refine gz1 ?_;refine zrk rfl (fun h3=> ?_) (fun h4=> ?_)
 rcases hq with ⟨rfl,_⟩|⟨rfl,hX⟩
 cases h3
 exact zoh (zmD ⟨rfl,.inr ⟨by simp,.inr ⟨by simp,⟨.inr rfl,.inl ⟨rfl,_,_,Ghost.sub (Sub.refl _),[],_,trivial,Weak.refl _,.inr hX⟩⟩⟩⟩⟩)
 rcases hq with ⟨rfl,rfl,hyj2⟩|⟨rfl,hX⟩
 refine zoh (znq ⟨rfl,.inl ⟨rfl,?_⟩⟩)
 refine zoh (zkP ?_)
 refine gz3 ?_;exact .inl ⟨rfl,rfl,j,⟨by omega,hyj2⟩,by simp,Ghost.sub (zrP (zqb rfl rfl) rfl)⟩
 cases h4
 have hk0:k=0:=by simp at h2;omega
 subst hk0;exact zoh (zvr ⟨rfl,.inr ⟨by simp,.inr ⟨by simp,⟨.inl rfl,.inl ⟨rfl,_,_,Ghost.sub (Sub.refl _),[],_,trivial,Weak.refl _,.inl ⟨rfl,hyk⟩⟩⟩⟩⟩⟩)
theorem zeU [Tracks] {l:List ChoiceS}:ConP prog 94 [zc6 l] (.fn (.func 175) [] [.vptr [zc6 l] 0]):=by
 refine uOb func94 ntmps94 ?_;refine gz9 ?_;refine zC rfl ?_
 rfl
end
end Go.Proofs.YtahegdhbakjdoaaGreatDoor
namespace Go.HL
section
open Go
def zeM {α:Type} (q:α->Bool) (o:Option α):List α->Option α
 |[]=>o
 |x::r=>zeM q (if q x=true then some x else o) r
theorem zmb {α:Type} {q:α->Bool}: ∀{l:List α} {o:Option α},(∀(j:Nat) (x:α),l[j]? =some x->q x=false)->zeM q o l=o
 |[],_,_=>rfl
 |x::r,o,h=>by
   rw [zeM,if_neg (by rw [h 0 x rfl];simp)];exact zmb fun j y hy=>h (j+1) y hy
theorem zsw {α:Type} {q:α->Bool} {x:α} (hq:q x=true): ∀{l:List α} {k:Nat} {o:Option α},l[k]? =some x->(∀(j:Nat) (y:α),k<j->l[j]? =some y->q y=false)->zeM q o l=some x
 |[],k,_,hx,_=>by cases k<;>cases hx
 |y::r,0,o,hx,h=>by
   obtain rfl:=Av hx;rw [zeM,if_pos hq];exact zmb fun j z hz=>h (j+1) z (Nat.succ_pos j) hz
 |y::r,k+1,o,hx,h=>by
   rw [zeM];exact zsw hq (l:=r) (k:=k) hx fun j z hj hz=>h (j+1) z (Nat.succ_lt_succ hj) hz
theorem zon {α:Type} {q q':α->Bool}: ∀{l:List α} {o:Option α},(∀x∈l,q x=q' x)->zeM q o l=zeM q' o l
 |[],_,_=>rfl
 |x::r,o,h=>by
   rw [zeM,zeM,h x Ai];exact zon fun y hy=>h y (Ap _ hy)
theorem zq6 (t:Str) (w n b:Int): ∀(l:List ChoiceS) (o:Option ChoiceS),zjj t w n b o l=zeM (zkR t w n b) o l
 |[],_=>rfl
 |x::r,o=>by rw [zjj,zeM];exact zq6 t w n b r _
def chQ (t:Str) (w:Int) (p:Int->Bool) (x:ChoiceS):Bool:=(x.Team==t&&x.Week==w)&&p x.At
theorem zxW {t:Str} {w n:Int} {l:List ChoiceS} (h: ∀c∈l,zL c.At=true):zeM (chQ t w fun a=>decide (a<=n)) none l=zcT l t w n 345686400000:=by
 unfold zcT;rw [zq6];refine zon fun x hx=> ?_
 have h1:=h x hx;have h2:x.At<345686400000:=by
  unfold zL at h1;have h3:out x.At 0 345686399999=false:=by simpa using h1
  have:=(zeP h3).2
  omega
 unfold chQ zkR;rw [decide_eq_true h2,Bool.and_true]
theorem zu0 [Tracks]:Weak (.agg [.str [],.int .i64 0,.int .i64 0,.raw (.slice none 0 0),.str []]) (z8 zdn):=
 zrW rfl fun j h h' x y=>by
  match j,x,y with
  |0,x,y=>simp at x y;subst x y;exact Weak.refl _
  |1,x,y=>simp at x y;subst x y;exact Weak.refl _
  |2,x,y=>simp at x y;subst x y;exact Weak.refl _
  |3,x,y=>simp at x y;subst x y;exact zX 1
  |4,x,y=>simp at x y;subst x y;exact Weak.refl _
end
end Go.HL
namespace Go.Proofs.YtahegdhbakjdoaaGreatDoor
set_option maxRecDepth 100000
set_option linter.unusedVariables false
set_option linter.unusedSimpArgs false
section
open Go.Proofs.Tryz
open Go.HL
theorem zlE [Tracks] {b:BookS} {t:Str} {w:Int} {p:Int->Bool} {fid:FuncId} {caps:List HVal} (hca:Callable prog fid) (hp: ∀a,ConP prog fid ([.int .i64 a]++caps) (.bool (p a))) (hl:b.Choices.length<=1000000):
 Con prog 42 [zbg b,.str t,.int .i64 w,.fn (.func fid) [] caps] [] (fun x M'=>x= .tup [z8 ((zeM (chQ t w p) none b.Choices).getD zdn),.bool (zeM (chQ t w p) none b.Choices).isSome]/\M'=[]):=by
 refine zqI func42 rfl ntmps42 rfl rfl ?_;refine zkh ?_;refine gz4 ?_;refine de rfl (zq zbZ rfl fun b8=> ?_)
 refine de rfl (zq ty4 rfl fun b9=> ?_)
 refine zsp ?_;refine zkh ?_;refine gz1 ?_;refine dq (zU (h:=zc6 b.Choices) zeh rfl rfl rfl) ?_;refine dq (uCl ca94 rfl (zeU (l:=b.Choices))) ?_;refine zpO ?_;refine zur (N:=b.Choices.length) (fun _=>[.cells b9 [.bool false],.cells b8 [.str [],.int .i64 0,.int .i64 0,.raw (.slice none 0 0),.str []]]) (fun k=> ∀(j:Nat) (x:ChoiceS),k<=j->b.Choices[j]? =some x->chQ t w p x=false)
  (fun c M'=>c= .ret/\∃(k:Nat) (x:ChoiceS),b.Choices[k]? =some x/\chQ t w p x=true/\(∀(j:Nat) (y:ChoiceS),k<j->b.Choices[j]? =some y->chQ t w p y=false)/\M'=[.cells b9 [.bool true],.cells b8 (zd (z8 x))])
  (zo5 b.Choices) (fun j x hj hx=>absurd (zx hx) uO) zy5 rfl (by decide) (fun _=>rfl) (fun I0 lp Y' X' hy=>zoX hl I0 lp Y' (fun k=> ∀(j:Nat) (x:ChoiceS),k<=j->b.Choices[j]? =some x->chQ t w p x=false) (fun j x hj hx=>absurd (zx hx) uO) X' hy) ?_ ?_ ?_
 intro lp k hk hyk
 obtain ⟨x,hx⟩: ∃x,b.Choices[k]? =some x:=⟨_,Aa hk⟩
 have hE:zo5 b.Choices k=[.int .i64 (k:Int),z8 x]:=by simp [zo5,Ae,hx]
 rw [hE];refine zkP ?_;refine de rfl (zq zbZ rfl fun b11=> ?_)
 refine de0 (zz (h:=z8 x) zbZ rfl rfl rfl rfl rfl ?_)
 refine ⟨rfl,?_⟩
 refine zuq (zD 11 rfl) ?_;refine zpO ?_;refine zkh ?_;refine zeu ?_;refine uGr rfl (fun hc=>zaB hca rfl rfl (WeakL.refl _) (hp _)) ?_;refine gz1 ?_;refine zvq rfl (fun h1=> ?_) (fun h2=> ?_)
 refine zkh ?_;refine dq (zaV (h:=z8 x) zbZ rfl rfl rfl rfl) ?_;refine de0 (zeC (i:=1) (h:=z8 x) zbZ rfl rfl rfl rfl rfl (Ak rfl) ?_)
 refine de0 (uY 0 ?_)
 refine zmD ?_;exact ⟨rfl,k,x,hx,by unfold chQ;simp_all,fun j y hj hy=>hyk j y hj hy,rfl⟩;refine znq ⟨rfl,fun j y hj hy=> ?_⟩
 by_cases e:j=k
 subst e;rw [hx] at hy;obtain rfl:=Av hy;unfold chQ;simp_all;exact hyk j y uO hy
 intro hy0 D
 refine zkh ?_;refine dq (zvQ zu0 (zO (cs:=[_,_,_,_,_]) zbZ pl54 rfl)) ?_;refine de0 (zeC (i:=2) (h:=z8 zdn) zbZ rfl rfl rfl rfl rfl (Ak rfl) ?_)
 refine de0 (uY 1 ?_)
 refine zmD ⟨.inr rfl,.inr ⟨D,_,rfl,rfl,?_⟩⟩
 refine ⟨_,_,(zbi 8 (i:=1) rfl rfl).trans (zbi 9 (i:=0) rfl rfl),[_,_],_,⟨⟨_,_,_,_,_,rfl,zbZ,.inr ⟨rfl,rfl,rfl⟩⟩,⟨_,_,_,_,_,rfl,ty4,.inl ⟨rfl,rfl⟩⟩,trivial⟩,Weak.refl _,?_,rfl⟩
 rw [zmb fun j x hx=>hy0 j x (Ad j) hx]
 rfl
 rintro D c M' ⟨rfl,k,x,hx,hq,hkj,rfl⟩;refine zmD ⟨.inr rfl,.inr ⟨D,_,rfl,rfl,?_⟩⟩
 refine ⟨_,_,(zbi 8 (i:=1) rfl rfl).trans (zbi 9 (i:=0) rfl rfl),[_,_],_,⟨⟨_,_,_,_,_,rfl,zbZ,.inr ⟨rfl,rfl,rfl⟩⟩,⟨_,_,_,_,_,rfl,ty4,.inl ⟨rfl,rfl⟩⟩,trivial⟩,Weak.refl _,?_,rfl⟩
 rw [zsw hq hx hkj]
 rfl
end
end Go.Proofs.YtahegdhbakjdoaaGreatDoor
namespace Go.HL
section
open Go
theorem znr {α:Type} {q:α->Bool}: ∀{l:List α} {i:Int},(l.find? q=none/\zag q l i= -1)\/∃(j:Nat) (p:α),l.find? q=some p/\l[j]? =some p/\zag q l i=i+(j:Int)
 |[],i=> .inl ⟨rfl,rfl⟩
 |x::r,i=>by
   by_cases h:q x=true
   exact .inr ⟨0,x,List.find?_cons_of_pos h,rfl,by rw [zag,if_pos h];simp⟩;have hn: ¬q x=true:=h;rw [List.find?_cons_of_neg hn,zag,if_neg h]
   rcases znr (q:=q) (l:=r) (i:=i+1) with ⟨h1,h2⟩|⟨j,p,h1,h2,h3⟩
   exact .inl ⟨h1,h2⟩;exact .inr ⟨j+1,p,h1,h2,by rw [h3];omega⟩
section
variable {b:BookS} {own:List Str} {s:Str} {x:SlotS} {w:Int} {p:PlayerS}
theorem zce (h:zag (fun p:PlayerS=>p.Key==s) b.League.Players 0<0\/own.contains s=false):zea b own s x w=zi:=by
 rcases hq:plO b.League.Players s with _|p
 exact zfO hq;rw [zcQ hq]
 rcases h with h|h
 rcases znr (q:=fun p:PlayerS=>p.Key==s) (l:=b.League.Players) (i:=0) with ⟨h1,h2⟩|⟨j,p,h1,h2,h3⟩
 have hq':b.League.Players.find? (fun p=>p.Key==s)=some p:=hq;rw [h1] at hq';cases hq'
 omega
 rw [if_pos h]
theorem zc0 (hf:plO b.League.Players s=some p) (ho:own.contains s=true) (hs:zcC b.Health s w=2):zea b own s x w=zo:=by
 rw [zcQ hf,if_neg (by rw [ho];simp),if_pos hs]
theorem zcf (hf:plO b.League.Players s=some p) (ho:own.contains s=true) (hs: ¬zcC b.Health s w=2) (h1:zdZ b.League.Stints b.League.Fixtures s w=false):zea b own s x w=zj:=by
 rw [zcQ hf,if_neg (by rw [ho];simp),if_neg hs,if_pos h1]
theorem zch (hf:plO b.League.Players s=some p) (ho:own.contains s=true) (hs: ¬zcC b.Health s w=2) (h1:zdZ b.League.Stints b.League.Fixtures s w=true) (hc:zkc p.Positions x.Positions=false):zea b own s x w=zk:=by
 rw [zcQ hf,if_neg (by rw [ho];simp),if_neg hs,if_neg (by rw [h1];simp),if_pos hc]
theorem zcg (hf:plO b.League.Players s=some p) (ho:own.contains s=true) (hs: ¬zcC b.Health s w=2) (h1:zdZ b.League.Stints b.League.Fixtures s w=true) (hc:zkc p.Positions x.Positions=true):zea b own s x w=[]:=by
 rw [zcQ hf,if_neg (by rw [ho];simp),if_neg hs,if_neg (by rw [h1];simp),if_neg (by rw [hc];simp)]
variable {c:ChoiceS} {i:Nat} {v:Str}
theorem zcY (h:c.Players.getD i []=[]):zhu b own c w i=none:=by unfold zhu;rw [if_pos h]
theorem zR (hx:b.League.Slots.getD i zk8=x) (hs: ¬c.Players.getD i []=[]) (hv:zea b own (c.Players.getD i []) x w=v) (hn:v≠[]):zhu b own c w i=some ⟨x.Key,v⟩:=by
 unfold zhu;rw [if_neg hs,hx,hv,if_neg hn]
theorem zcZ (hx:b.League.Slots.getD i zk8=x) (hs: ¬c.Players.getD i []=[]) (hv:zea b own (c.Players.getD i []) x w=[]):zhu b own c w i=none:=by
 unfold zhu;rw [if_neg hs,hx,hv,if_pos rfl]
end
theorem zd1:zi≠[]:=by decide
theorem zfv:zo≠[]:=by decide
theorem zd4:zj≠[]:=by decide
theorem zd9:zk≠[]:=by decide
end
end Go.HL
namespace Go.Proofs.YtahegdhbakjdoaaGreatDoor
set_option maxRecDepth 100000
set_option linter.unusedVariables false
set_option linter.unusedSimpArgs false
section
open Go.Proofs.Tryz
open Go.HL
theorem zgr [Tracks] {b:BookS} {t:Str} {w n:Int} (hb:BookC b) (hW:BookW b) (hwk:zbc w=true) (ht:t≠[]):ConP prog 19 [zbg b,.str t,.int .i64 w,.int .i64 n] (zeW (zf2 b t w n (zcT b.Choices t w n 345686400000))):=by
 have hla:=hb.bb.lea;obtain ⟨hso,hs1,hsl0⟩:=zxM hW.st;have hwb:0<=w/\w<=1000000:=by
  have h9:out w 1 60=false:=by unfold zbc at hwk;simpa using hwk
  have:=zeP h9
  omega
 have hol:(rPl (zah b.League.Bounds b.Moves n) t).length<=1000000:=by have:=((zmJ (b:=b.League.Bounds) (n:=n) hW.f.mo).p t).2;omega
 have hcof:=zxW (t:=t) (w:=w) (n:=n) (fun c hc=>(hW.ch c hc).2.2);refine uOb func19 ntmps19 ?_;refine gz6 ?_;refine dq ((by first|exact ze za0 rfl z7 (by decide) rfl|exact zb za0 rfl z7 (by decide) rfl)) ?_;refine dq (zaq (h':=zca b.League) (zaP z7 rfl rfl (Ak rfl)) rfl) ?_;refine de rfl (zq z7 rfl fun b9=> ?_)
 refine de0 (zz z7 rfl rfl rfl rfl rfl ?_)
 refine gz1 ?_;refine zl (zD 9 rfl) ?_;refine gz1 ?_;refine dq (zaV (h:=zbg b) za0 rfl rfl rfl rfl) ?_;refine gz3 ?_;refine de rfl (zbe (M1:=[]) (R:=[]) ca42 rfl (WeakL.refl _) (Ab _) (zlE (b:=b) (t:=t) (w:=w) (p:=fun a=>decide (a<=n)) ca43 (fun _=>zi4) hb.bb.ch) ?_)
 rintro _ _ ⟨rfl,rfl⟩;rw [hcof];refine gz3 ?_;refine de rfl (zq zbZ rfl fun b10=> ?_)
 refine de0 (zz zbZ rfl rfl rfl rfl rfl ?_)
 refine gz2 ?_;refine zl (zD 10 rfl) ?_;refine gz5 ?_;refine uCo (fun h1=> ?_) fun h2=> ?_
 refine gz4 ?_
 focus first
 | (refine zbD rfl ?_
    have hn:(zcT b.Choices t w n 345686400000)=none:=by simp_all
    rw [hn];exact zX 2)
 | (refine zB ((zap 8 (i:=0) rfl rfl).trans Ghost.clear) rfl ⟨?_,rfl⟩
    first|rfl|(rw [hc];rfl))
 refine gz2 ?_;obtain ⟨c,hc⟩: ∃c,(zcT b.Choices t w n 345686400000)=some c:=by
  cases hq:(zcT b.Choices t w n 345686400000) with
  |none=>simp_all
  |some c=>exact ⟨c,rfl⟩
 have hcm:c∈b.Choices:=by
  rcases zn3 hc with q|q
  cases q
  exact q.1
 have hcl:=(hW.ch c hcm).1;rw [hc];refine gz1 ?_;refine dq ((by first|exact ze z7 rfl zdN (by decide) rfl|exact zb z7 rfl zdN (by decide) rfl)) ?_;refine dq (zaq (h':=zcn b.League.Bounds) (zaP zdN rfl rfl (Ak rfl)) rfl) ?_;refine dq ((by first|exact ze za0 rfl zbr (by decide) rfl|exact zb za0 rfl zbr (by decide) rfl)) ?_;refine dq (zU (h:=zbs b.Moves) zbr rfl rfl rfl) ?_;refine gz2 ?_;refine dq (uCl ca44 rfl (zkz (b:=b.League.Bounds) (l:=b.Moves) (t:=t) (n:=n) hW.f.mo ht)) ?_;refine dq (zmh zdO rfl zu rfl rfl rfl) ?_;refine gz5 ?_;refine zl (zQ 2) ?_;refine gz2 ?_;refine dq ((by first|exact ze z7 rfl zdi (by decide) rfl|exact zb z7 rfl zdi (by decide) rfl)) ?_;refine dq (zU (h:=zf7 b.League.Slots) zdi rfl rfl rfl) ?_;refine dq (zaw (f:=zbo) (l:=b.League.Slots) zdi rfl) ?_;refine gz3 ?_;refine uV2 [13,8,44,74] (fun (k:Nat) (u:Value)=>[(44,.int .i64 k),(13,.raw u)]) (fun (k:Nat) (u:Value)=>[.arr u 2 ((zmu b (rPl (zah b.League.Bounds b.Moves n) t) c w k).map zn4)]) (fun (k:Nat) (u:Value)=>k<=b.League.Slots.length/\(True)) (fun (k:Nat) (u:Value)=>b.League.Slots.length-k) (0) (.slice none 0 0) ?_ ?_ ?_ ?_;exact ⟨Ad _,trivial⟩;exact ⟨rfl,rfl,trivial⟩;exact (Ab _)
 intro k u hinv
 obtain ⟨hk,-⟩:=hinv;refine gz4 ?_;refine uCo (fun h3=> ?_) fun h4=> ?_
 obtain ⟨x,hx⟩: ∃x,b.League.Slots[k]? =some x:=⟨_,Aa h3⟩
 have hdx:=zt hx;have hsk:b.League.Slots.getD k zk8=x:=by rw [Ae,hx];rfl
 have hsl:=hW.sl;refine gz6 ?_;refine dq (zK (f:=zbo) (l:=b.League.Slots) (j:=k) (a:=x) zdi zbb rfl rfl rfl hx) ?_;refine gz1 ?_;refine de rfl (zq zbb rfl fun b15=> ?_)
 refine gz1 ?_;refine de0 (zz zbb rfl rfl rfl rfl rfl ?_)
 refine gz1 ?_;refine zl (zD 15 rfl) ?_;refine gz1 ?_;refine dq ((by first|exact ze zbZ rfl zu (by decide) rfl|exact zb zbZ rfl zu (by decide) rfl)) ?_;refine dq (zU (h:=eSs c.Players) zu rfl rfl rfl) ?_;refine gz1 ?_;refine dq (zK (f:=HVal.str) (l:=c.Players) (j:=k) (a:=(c.Players.getD k [])) zu ty9 rfl rfl rfl (getD_some uO)) ?_;refine gz5 ?_;refine dq ((by first|exact ze z7 rfl zcA (by decide) rfl|exact zb z7 rfl zcA (by decide) rfl)) ?_;refine dq (zU (h:=zaC b.League.Players) zcA rfl rfl rfl) ?_;refine gz1 ?_;refine dq (uCl zq2 rfl (zcm (l:=b.League.Players) (s:=(c.Players.getD k [])) hla.pl)) ?_;refine gz9 ?_;refine uCo (fun h5=> ?_) fun h6=> ?_
 refine gz9 ?_
 focus first
 |(exfalso;simp_all;done)
 |(exact ⟨k+1,u,⟨by omega,trivial⟩,uD,⟨rfl,rfl,trivial⟩,uK,zg (by first|(dsimp only;rw [zm,zcY (by first|(simp_all;done)|fail)];focus first|rfl|(simp [zi,zo,zj,zk];done)|(simp [zi,zo,zj,zk];rfl))|fail)⟩)
 |(exact ⟨k+1,u,⟨by omega,trivial⟩,uD,⟨rfl,rfl,trivial⟩,uK,zg (by first|(dsimp only;rw [zm,zcZ hsk (by first|(simp_all;done)|fail) (zcg hf (by first|(simp_all;done)|fail) (by first|(simp_all;done)|fail) (by first|(simp_all;done)|fail) (by first|(simp_all;done)|fail))];focus first|rfl|(simp [zi,zo,zj,zk];done)|(simp [zi,zo,zj,zk];rfl))|fail)⟩)
 |(exact ⟨k+1,v116,⟨by omega,trivial⟩,uD,⟨rfl,rfl,trivial⟩,uK,zg (by first|(dsimp only;rw [zm,zR hsk (by first|(simp_all;done)|fail) (zce (b:=b) uSa) zd1];focus first|rfl|(simp [zi,zo,zj,zk];done)|(simp [zi,zo,zj,zk];rfl))|fail)⟩)
 |(exact ⟨k+1,v116,⟨by omega,trivial⟩,uD,⟨rfl,rfl,trivial⟩,uK,zg (by first|(dsimp only;rw [zm,zR hsk (by first|(simp_all;done)|fail) (zc0 hf (by first|(simp_all;done)|fail) (by first|(simp_all;done)|fail)) zfv];focus first|rfl|(simp [zi,zo,zj,zk];done)|(simp [zi,zo,zj,zk];rfl))|fail)⟩)
 |(exact ⟨k+1,v116,⟨by omega,trivial⟩,uD,⟨rfl,rfl,trivial⟩,uK,zg (by first|(dsimp only;rw [zm,zR hsk (by first|(simp_all;done)|fail) (zcf hf (by first|(simp_all;done)|fail) (by first|(simp_all;done)|fail) (by first|(simp_all;done)|fail)) zd4];focus first|rfl|(simp [zi,zo,zj,zk];done)|(simp [zi,zo,zj,zk];rfl))|fail)⟩)
 |(exact ⟨k+1,v116,⟨by omega,trivial⟩,uD,⟨rfl,rfl,trivial⟩,uK,zg (by first|(dsimp only;rw [zm,zR hsk (by first|(simp_all;done)|fail) (zch hf (by first|(simp_all;done)|fail) (by first|(simp_all;done)|fail) (by first|(simp_all;done)|fail) (by first|(simp_all;done)|fail)) zd9];focus first|rfl|(simp [zi,zo,zj,zk];done)|(simp [zi,zo,zj,zk];rfl))|fail)⟩)
 refine gz6 ?_;refine uGr rfl (fun hc=>by have hq:=hc;(try simp at hq);exact uCl zfU rfl (zH (l:=(rPl (zah b.League.Bounds b.Moves n) t)) uO)) ?_;refine gz4 ?_;refine uCo (fun h7=> ?_) fun h8=> ?_
 refine gz7 ?_;refine dq ((by first|exact ze z7 rfl zcB (by decide) rfl|exact zb z7 rfl zcB (by decide) rfl)) ?_;refine dq (zU (h:=zbJ b.League.Stints) zcB rfl rfl rfl) ?_;refine dq ((by first|exact ze z7 rfl zaF (by decide) rfl|exact zb z7 rfl zaF (by decide) rfl)) ?_;refine dq (zU (h:=zde b.League.Fixtures) zaF rfl rfl rfl) ?_;refine gz2 ?_;refine dq (uCl zti rfl (zdE (l:=b.League.Stints) (f:=b.League.Fixtures) (s:=(c.Players.getD k [])) (w:=w) hla.st hla.fx hso hs1 hwb)) ?_;refine zl5 ?_;refine uCo (fun h9=> ?_) fun h10=> ?_
 refine gz8 ?_;refine uCo (fun h11=> ?_) fun h12=> ?_
 refine gz2 ?_;refine dq ((by first|exact ze zbb rfl ty9 (by decide) rfl|exact zb zbb rfl ty9 (by decide) rfl)) ?_;refine gz2 ?_;refine dq (zO (cs:=[_,_]) zb7 zkZ rfl) ?_;refine dq (za (hs:=[_]) zei zb7 rfl rfl (by decide) (by decide) rfl) ?_;refine de rfl (zN (i:=0) zei zb7 rfl rfl rfl rfl rfl (by first|(simp [zal,zd];done)|(simp [zal,zd];rfl)) (by have:=zdD b (rPl (zah b.League.Bounds b.Moves n) t) c w k;focus first|(simp only [Ag,Ah,Al] at*;done)|(simp only [Ag,Ah,Al] at*;omega)) fun v116=> ?_)
 refine gz8 ?_
 focus first
 |(exfalso;simp_all;done)
 |(exact ⟨k+1,u,⟨by omega,trivial⟩,uD,⟨rfl,rfl,trivial⟩,uK,zg (by first|(dsimp only;rw [zm,zcY (by first|(simp_all;done)|fail)];focus first|rfl|(simp [zi,zo,zj,zk];done)|(simp [zi,zo,zj,zk];rfl))|fail)⟩)
 |(exact ⟨k+1,u,⟨by omega,trivial⟩,uD,⟨rfl,rfl,trivial⟩,uK,zg (by first|(dsimp only;rw [zm,zcZ hsk (by first|(simp_all;done)|fail) (zcg hf (by first|(simp_all;done)|fail) (by first|(simp_all;done)|fail) (by first|(simp_all;done)|fail) (by first|(simp_all;done)|fail))];focus first|rfl|(simp [zi,zo,zj,zk];done)|(simp [zi,zo,zj,zk];rfl))|fail)⟩)
 |(exact ⟨k+1,v116,⟨by omega,trivial⟩,uD,⟨rfl,rfl,trivial⟩,uK,zg (by first|(dsimp only;rw [zm,zR hsk (by first|(simp_all;done)|fail) (zce (b:=b) uSa) zd1];focus first|rfl|(simp [zi,zo,zj,zk];done)|(simp [zi,zo,zj,zk];rfl))|fail)⟩)
 |(exact ⟨k+1,v116,⟨by omega,trivial⟩,uD,⟨rfl,rfl,trivial⟩,uK,zg (by first|(dsimp only;rw [zm,zR hsk (by first|(simp_all;done)|fail) (zc0 hf (by first|(simp_all;done)|fail) (by first|(simp_all;done)|fail)) zfv];focus first|rfl|(simp [zi,zo,zj,zk];done)|(simp [zi,zo,zj,zk];rfl))|fail)⟩)
 |(exact ⟨k+1,v116,⟨by omega,trivial⟩,uD,⟨rfl,rfl,trivial⟩,uK,zg (by first|(dsimp only;rw [zm,zR hsk (by first|(simp_all;done)|fail) (zcf hf (by first|(simp_all;done)|fail) (by first|(simp_all;done)|fail) (by first|(simp_all;done)|fail)) zd4];focus first|rfl|(simp [zi,zo,zj,zk];done)|(simp [zi,zo,zj,zk];rfl))|fail)⟩)
 |(exact ⟨k+1,v116,⟨by omega,trivial⟩,uD,⟨rfl,rfl,trivial⟩,uK,zg (by first|(dsimp only;rw [zm,zR hsk (by first|(simp_all;done)|fail) (zch hf (by first|(simp_all;done)|fail) (by first|(simp_all;done)|fail) (by first|(simp_all;done)|fail) (by first|(simp_all;done)|fail)) zd9];focus first|rfl|(simp [zi,zo,zj,zk];done)|(simp [zi,zo,zj,zk];rfl))|fail)⟩)
 refine gz7 ?_
 focus first
 |(exfalso;simp_all;done)
 |(exact ⟨k+1,u,⟨by omega,trivial⟩,uD,⟨rfl,rfl,trivial⟩,uK,zg (by first|(dsimp only;rw [zm,zcY (by first|(simp_all;done)|fail)];focus first|rfl|(simp [zi,zo,zj,zk];done)|(simp [zi,zo,zj,zk];rfl))|fail)⟩)
 |(exact ⟨k+1,u,⟨by omega,trivial⟩,uD,⟨rfl,rfl,trivial⟩,uK,zg (by first|(dsimp only;rw [zm,zcZ hsk (by first|(simp_all;done)|fail) (zcg hf (by first|(simp_all;done)|fail) (by first|(simp_all;done)|fail) (by first|(simp_all;done)|fail) (by first|(simp_all;done)|fail))];focus first|rfl|(simp [zi,zo,zj,zk];done)|(simp [zi,zo,zj,zk];rfl))|fail)⟩)
 |(exact ⟨k+1,v116,⟨by omega,trivial⟩,uD,⟨rfl,rfl,trivial⟩,uK,zg (by first|(dsimp only;rw [zm,zR hsk (by first|(simp_all;done)|fail) (zce (b:=b) uSa) zd1];focus first|rfl|(simp [zi,zo,zj,zk];done)|(simp [zi,zo,zj,zk];rfl))|fail)⟩)
 |(exact ⟨k+1,v116,⟨by omega,trivial⟩,uD,⟨rfl,rfl,trivial⟩,uK,zg (by first|(dsimp only;rw [zm,zR hsk (by first|(simp_all;done)|fail) (zc0 hf (by first|(simp_all;done)|fail) (by first|(simp_all;done)|fail)) zfv];focus first|rfl|(simp [zi,zo,zj,zk];done)|(simp [zi,zo,zj,zk];rfl))|fail)⟩)
 |(exact ⟨k+1,v116,⟨by omega,trivial⟩,uD,⟨rfl,rfl,trivial⟩,uK,zg (by first|(dsimp only;rw [zm,zR hsk (by first|(simp_all;done)|fail) (zcf hf (by first|(simp_all;done)|fail) (by first|(simp_all;done)|fail) (by first|(simp_all;done)|fail)) zd4];focus first|rfl|(simp [zi,zo,zj,zk];done)|(simp [zi,zo,zj,zk];rfl))|fail)⟩)
 |(exact ⟨k+1,v116,⟨by omega,trivial⟩,uD,⟨rfl,rfl,trivial⟩,uK,zg (by first|(dsimp only;rw [zm,zR hsk (by first|(simp_all;done)|fail) (zch hf (by first|(simp_all;done)|fail) (by first|(simp_all;done)|fail) (by first|(simp_all;done)|fail) (by first|(simp_all;done)|fail)) zd9];focus first|rfl|(simp [zi,zo,zj,zk];done)|(simp [zi,zo,zj,zk];rfl))|fail)⟩)
 refine gz6 ?_;refine uCo (fun h13=> ?_) fun h14=> ?_
 refine gz2 ?_;refine dq ((by first|exact ze zbb rfl ty9 (by decide) rfl|exact zb zbb rfl ty9 (by decide) rfl)) ?_;refine gz2 ?_;refine dq (zO (cs:=[_,_]) zb7 zkZ rfl) ?_;refine dq (za (hs:=[_]) zei zb7 rfl rfl (by decide) (by decide) rfl) ?_;refine de rfl (zN (i:=0) zei zb7 rfl rfl rfl rfl rfl (by first|(simp [zal,zd];done)|(simp [zal,zd];rfl)) (by have:=zdD b (rPl (zah b.League.Bounds b.Moves n) t) c w k;focus first|(simp only [Ag,Ah,Al] at*;done)|(simp only [Ag,Ah,Al] at*;omega)) fun v116=> ?_)
 refine gz8 ?_
 focus first
 |(exfalso;simp_all;done)
 |(exact ⟨k+1,u,⟨by omega,trivial⟩,uD,⟨rfl,rfl,trivial⟩,uK,zg (by first|(dsimp only;rw [zm,zcY (by first|(simp_all;done)|fail)];focus first|rfl|(simp [zi,zo,zj,zk];done)|(simp [zi,zo,zj,zk];rfl))|fail)⟩)
 |(exact ⟨k+1,u,⟨by omega,trivial⟩,uD,⟨rfl,rfl,trivial⟩,uK,zg (by first|(dsimp only;rw [zm,zcZ hsk (by first|(simp_all;done)|fail) (zcg hf (by first|(simp_all;done)|fail) (by first|(simp_all;done)|fail) (by first|(simp_all;done)|fail) (by first|(simp_all;done)|fail))];focus first|rfl|(simp [zi,zo,zj,zk];done)|(simp [zi,zo,zj,zk];rfl))|fail)⟩)
 |(exact ⟨k+1,v116,⟨by omega,trivial⟩,uD,⟨rfl,rfl,trivial⟩,uK,zg (by first|(dsimp only;rw [zm,zR hsk (by first|(simp_all;done)|fail) (zce (b:=b) uSa) zd1];focus first|rfl|(simp [zi,zo,zj,zk];done)|(simp [zi,zo,zj,zk];rfl))|fail)⟩)
 |(exact ⟨k+1,v116,⟨by omega,trivial⟩,uD,⟨rfl,rfl,trivial⟩,uK,zg (by first|(dsimp only;rw [zm,zR hsk (by first|(simp_all;done)|fail) (zc0 hf (by first|(simp_all;done)|fail) (by first|(simp_all;done)|fail)) zfv];focus first|rfl|(simp [zi,zo,zj,zk];done)|(simp [zi,zo,zj,zk];rfl))|fail)⟩)
 |(exact ⟨k+1,v116,⟨by omega,trivial⟩,uD,⟨rfl,rfl,trivial⟩,uK,zg (by first|(dsimp only;rw [zm,zR hsk (by first|(simp_all;done)|fail) (zcf hf (by first|(simp_all;done)|fail) (by first|(simp_all;done)|fail) (by first|(simp_all;done)|fail)) zd4];focus first|rfl|(simp [zi,zo,zj,zk];done)|(simp [zi,zo,zj,zk];rfl))|fail)⟩)
 |(exact ⟨k+1,v116,⟨by omega,trivial⟩,uD,⟨rfl,rfl,trivial⟩,uK,zg (by first|(dsimp only;rw [zm,zR hsk (by first|(simp_all;done)|fail) (zch hf (by first|(simp_all;done)|fail) (by first|(simp_all;done)|fail) (by first|(simp_all;done)|fail) (by first|(simp_all;done)|fail)) zd9];focus first|rfl|(simp [zi,zo,zj,zk];done)|(simp [zi,zo,zj,zk];rfl))|fail)⟩)
 refine gz7 ?_
 focus first
 |(exfalso;simp_all;done)
 |(exact ⟨k+1,u,⟨by omega,trivial⟩,uD,⟨rfl,rfl,trivial⟩,uK,zg (by first|(dsimp only;rw [zm,zcY (by first|(simp_all;done)|fail)];focus first|rfl|(simp [zi,zo,zj,zk];done)|(simp [zi,zo,zj,zk];rfl))|fail)⟩)
 |(exact ⟨k+1,u,⟨by omega,trivial⟩,uD,⟨rfl,rfl,trivial⟩,uK,zg (by first|(dsimp only;rw [zm,zcZ hsk (by first|(simp_all;done)|fail) (zcg hf (by first|(simp_all;done)|fail) (by first|(simp_all;done)|fail) (by first|(simp_all;done)|fail) (by first|(simp_all;done)|fail))];focus first|rfl|(simp [zi,zo,zj,zk];done)|(simp [zi,zo,zj,zk];rfl))|fail)⟩)
 |(exact ⟨k+1,v116,⟨by omega,trivial⟩,uD,⟨rfl,rfl,trivial⟩,uK,zg (by first|(dsimp only;rw [zm,zR hsk (by first|(simp_all;done)|fail) (zce (b:=b) uSa) zd1];focus first|rfl|(simp [zi,zo,zj,zk];done)|(simp [zi,zo,zj,zk];rfl))|fail)⟩)
 |(exact ⟨k+1,v116,⟨by omega,trivial⟩,uD,⟨rfl,rfl,trivial⟩,uK,zg (by first|(dsimp only;rw [zm,zR hsk (by first|(simp_all;done)|fail) (zc0 hf (by first|(simp_all;done)|fail) (by first|(simp_all;done)|fail)) zfv];focus first|rfl|(simp [zi,zo,zj,zk];done)|(simp [zi,zo,zj,zk];rfl))|fail)⟩)
 |(exact ⟨k+1,v116,⟨by omega,trivial⟩,uD,⟨rfl,rfl,trivial⟩,uK,zg (by first|(dsimp only;rw [zm,zR hsk (by first|(simp_all;done)|fail) (zcf hf (by first|(simp_all;done)|fail) (by first|(simp_all;done)|fail) (by first|(simp_all;done)|fail)) zd4];focus first|rfl|(simp [zi,zo,zj,zk];done)|(simp [zi,zo,zj,zk];rfl))|fail)⟩)
 |(exact ⟨k+1,v116,⟨by omega,trivial⟩,uD,⟨rfl,rfl,trivial⟩,uK,zg (by first|(dsimp only;rw [zm,zR hsk (by first|(simp_all;done)|fail) (zch hf (by first|(simp_all;done)|fail) (by first|(simp_all;done)|fail) (by first|(simp_all;done)|fail) (by first|(simp_all;done)|fail)) zd9];focus first|rfl|(simp [zi,zo,zj,zk];done)|(simp [zi,zo,zj,zk];rfl))|fail)⟩)
 obtain ⟨j,p,hf,hjp,hji⟩: ∃(j:Nat) (p:PlayerS),plO b.League.Players (c.Players.getD k [])=some p/\b.League.Players[j]? =some p/\zag (fun p:PlayerS=>p.Key==(c.Players.getD k [])) b.League.Players 0=(j:Int):=by
  rcases znr (q:=fun p:PlayerS=>p.Key==(c.Players.getD k [])) (l:=b.League.Players) (i:=0) with ⟨q1,q2⟩|⟨j,p,q1,q2,q3⟩
  exfalso;simp_all
  exact ⟨j,p,q1,q2,by rw [q3];omega⟩
 have hpm:=Ac hjp;rw [hji];refine gz1 ?_;refine dq ((by first|exact ze za0 rfl zf0 (by decide) rfl|exact zb za0 rfl zf0 (by decide) rfl)) ?_;refine dq (zU (h:=zbw b.Health) zf0 rfl rfl rfl) ?_;refine gz2 ?_;refine dq (uCl ca46 rfl (zlm (h:=b.Health) (s:=(c.Players.getD k [])) (w:=w) hb.bb.he)) ?_;refine gz3 ?_;refine uCo (fun h15=> ?_) fun h16=> ?_
 refine gz7 ?_;refine dq ((by first|exact ze z7 rfl zcB (by decide) rfl|exact zb z7 rfl zcB (by decide) rfl)) ?_;refine dq (zU (h:=zbJ b.League.Stints) zcB rfl rfl rfl) ?_;refine dq ((by first|exact ze z7 rfl zaF (by decide) rfl|exact zb z7 rfl zaF (by decide) rfl)) ?_;refine dq (zU (h:=zde b.League.Fixtures) zaF rfl rfl rfl) ?_;refine gz2 ?_;refine dq (uCl zti rfl (zdE (l:=b.League.Stints) (f:=b.League.Fixtures) (s:=(c.Players.getD k [])) (w:=w) hla.st hla.fx hso hs1 hwb)) ?_;refine zl5 ?_;refine uCo (fun h17=> ?_) fun h18=> ?_
 refine gz8 ?_;refine uCo (fun h19=> ?_) fun h20=> ?_
 refine gz2 ?_;refine dq ((by first|exact ze zbb rfl ty9 (by decide) rfl|exact zb zbb rfl ty9 (by decide) rfl)) ?_;refine gz2 ?_;refine dq (zO (cs:=[_,_]) zb7 zkZ rfl) ?_;refine dq (za (hs:=[_]) zei zb7 rfl rfl (by decide) (by decide) rfl) ?_;refine de rfl (zN (i:=0) zei zb7 rfl rfl rfl rfl rfl (by first|(simp [zal,zd];done)|(simp [zal,zd];rfl)) (by have:=zdD b (rPl (zah b.League.Bounds b.Moves n) t) c w k;focus first|(simp only [Ag,Ah,Al] at*;done)|(simp only [Ag,Ah,Al] at*;omega)) fun v116=> ?_)
 refine gz8 ?_
 focus first
 |(exfalso;simp_all;done)
 |(exact ⟨k+1,u,⟨by omega,trivial⟩,uD,⟨rfl,rfl,trivial⟩,uK,zg (by first|(dsimp only;rw [zm,zcY (by first|(simp_all;done)|fail)];focus first|rfl|(simp [zi,zo,zj,zk];done)|(simp [zi,zo,zj,zk];rfl))|fail)⟩)
 |(exact ⟨k+1,u,⟨by omega,trivial⟩,uD,⟨rfl,rfl,trivial⟩,uK,zg (by first|(dsimp only;rw [zm,zcZ hsk (by first|(simp_all;done)|fail) (zcg hf (by first|(simp_all;done)|fail) (by first|(simp_all;done)|fail) (by first|(simp_all;done)|fail) (by first|(simp_all;done)|fail))];focus first|rfl|(simp [zi,zo,zj,zk];done)|(simp [zi,zo,zj,zk];rfl))|fail)⟩)
 |(exact ⟨k+1,v116,⟨by omega,trivial⟩,uD,⟨rfl,rfl,trivial⟩,uK,zg (by first|(dsimp only;rw [zm,zR hsk (by first|(simp_all;done)|fail) (zce (b:=b) uSa) zd1];focus first|rfl|(simp [zi,zo,zj,zk];done)|(simp [zi,zo,zj,zk];rfl))|fail)⟩)
 |(exact ⟨k+1,v116,⟨by omega,trivial⟩,uD,⟨rfl,rfl,trivial⟩,uK,zg (by first|(dsimp only;rw [zm,zR hsk (by first|(simp_all;done)|fail) (zc0 hf (by first|(simp_all;done)|fail) (by first|(simp_all;done)|fail)) zfv];focus first|rfl|(simp [zi,zo,zj,zk];done)|(simp [zi,zo,zj,zk];rfl))|fail)⟩)
 |(exact ⟨k+1,v116,⟨by omega,trivial⟩,uD,⟨rfl,rfl,trivial⟩,uK,zg (by first|(dsimp only;rw [zm,zR hsk (by first|(simp_all;done)|fail) (zcf hf (by first|(simp_all;done)|fail) (by first|(simp_all;done)|fail) (by first|(simp_all;done)|fail)) zd4];focus first|rfl|(simp [zi,zo,zj,zk];done)|(simp [zi,zo,zj,zk];rfl))|fail)⟩)
 |(exact ⟨k+1,v116,⟨by omega,trivial⟩,uD,⟨rfl,rfl,trivial⟩,uK,zg (by first|(dsimp only;rw [zm,zR hsk (by first|(simp_all;done)|fail) (zch hf (by first|(simp_all;done)|fail) (by first|(simp_all;done)|fail) (by first|(simp_all;done)|fail) (by first|(simp_all;done)|fail)) zd9];focus first|rfl|(simp [zi,zo,zj,zk];done)|(simp [zi,zo,zj,zk];rfl))|fail)⟩)
 refine gz7 ?_
 focus first
 |(exfalso;simp_all;done)
 |(exact ⟨k+1,u,⟨by omega,trivial⟩,uD,⟨rfl,rfl,trivial⟩,uK,zg (by first|(dsimp only;rw [zm,zcY (by first|(simp_all;done)|fail)];focus first|rfl|(simp [zi,zo,zj,zk];done)|(simp [zi,zo,zj,zk];rfl))|fail)⟩)
 |(exact ⟨k+1,u,⟨by omega,trivial⟩,uD,⟨rfl,rfl,trivial⟩,uK,zg (by first|(dsimp only;rw [zm,zcZ hsk (by first|(simp_all;done)|fail) (zcg hf (by first|(simp_all;done)|fail) (by first|(simp_all;done)|fail) (by first|(simp_all;done)|fail) (by first|(simp_all;done)|fail))];focus first|rfl|(simp [zi,zo,zj,zk];done)|(simp [zi,zo,zj,zk];rfl))|fail)⟩)
 |(exact ⟨k+1,v116,⟨by omega,trivial⟩,uD,⟨rfl,rfl,trivial⟩,uK,zg (by first|(dsimp only;rw [zm,zR hsk (by first|(simp_all;done)|fail) (zce (b:=b) uSa) zd1];focus first|rfl|(simp [zi,zo,zj,zk];done)|(simp [zi,zo,zj,zk];rfl))|fail)⟩)
 |(exact ⟨k+1,v116,⟨by omega,trivial⟩,uD,⟨rfl,rfl,trivial⟩,uK,zg (by first|(dsimp only;rw [zm,zR hsk (by first|(simp_all;done)|fail) (zc0 hf (by first|(simp_all;done)|fail) (by first|(simp_all;done)|fail)) zfv];focus first|rfl|(simp [zi,zo,zj,zk];done)|(simp [zi,zo,zj,zk];rfl))|fail)⟩)
 |(exact ⟨k+1,v116,⟨by omega,trivial⟩,uD,⟨rfl,rfl,trivial⟩,uK,zg (by first|(dsimp only;rw [zm,zR hsk (by first|(simp_all;done)|fail) (zcf hf (by first|(simp_all;done)|fail) (by first|(simp_all;done)|fail) (by first|(simp_all;done)|fail)) zd4];focus first|rfl|(simp [zi,zo,zj,zk];done)|(simp [zi,zo,zj,zk];rfl))|fail)⟩)
 |(exact ⟨k+1,v116,⟨by omega,trivial⟩,uD,⟨rfl,rfl,trivial⟩,uK,zg (by first|(dsimp only;rw [zm,zR hsk (by first|(simp_all;done)|fail) (zch hf (by first|(simp_all;done)|fail) (by first|(simp_all;done)|fail) (by first|(simp_all;done)|fail) (by first|(simp_all;done)|fail)) zd9];focus first|rfl|(simp [zi,zo,zj,zk];done)|(simp [zi,zo,zj,zk];rfl))|fail)⟩)
 refine gz6 ?_;refine uCo (fun h21=> ?_) fun h22=> ?_
 refine gz2 ?_;refine dq ((by first|exact ze zbb rfl ty9 (by decide) rfl|exact zb zbb rfl ty9 (by decide) rfl)) ?_;refine gz2 ?_;refine dq (zO (cs:=[_,_]) zb7 zkZ rfl) ?_;refine dq (za (hs:=[_]) zei zb7 rfl rfl (by decide) (by decide) rfl) ?_;refine de rfl (zN (i:=0) zei zb7 rfl rfl rfl rfl rfl (by first|(simp [zal,zd];done)|(simp [zal,zd];rfl)) (by have:=zdD b (rPl (zah b.League.Bounds b.Moves n) t) c w k;focus first|(simp only [Ag,Ah,Al] at*;done)|(simp only [Ag,Ah,Al] at*;omega)) fun v116=> ?_)
 refine gz8 ?_
 focus first
 |(exfalso;simp_all;done)
 |(exact ⟨k+1,u,⟨by omega,trivial⟩,uD,⟨rfl,rfl,trivial⟩,uK,zg (by first|(dsimp only;rw [zm,zcY (by first|(simp_all;done)|fail)];focus first|rfl|(simp [zi,zo,zj,zk];done)|(simp [zi,zo,zj,zk];rfl))|fail)⟩)
 |(exact ⟨k+1,u,⟨by omega,trivial⟩,uD,⟨rfl,rfl,trivial⟩,uK,zg (by first|(dsimp only;rw [zm,zcZ hsk (by first|(simp_all;done)|fail) (zcg hf (by first|(simp_all;done)|fail) (by first|(simp_all;done)|fail) (by first|(simp_all;done)|fail) (by first|(simp_all;done)|fail))];focus first|rfl|(simp [zi,zo,zj,zk];done)|(simp [zi,zo,zj,zk];rfl))|fail)⟩)
 |(exact ⟨k+1,v116,⟨by omega,trivial⟩,uD,⟨rfl,rfl,trivial⟩,uK,zg (by first|(dsimp only;rw [zm,zR hsk (by first|(simp_all;done)|fail) (zce (b:=b) uSa) zd1];focus first|rfl|(simp [zi,zo,zj,zk];done)|(simp [zi,zo,zj,zk];rfl))|fail)⟩)
 |(exact ⟨k+1,v116,⟨by omega,trivial⟩,uD,⟨rfl,rfl,trivial⟩,uK,zg (by first|(dsimp only;rw [zm,zR hsk (by first|(simp_all;done)|fail) (zc0 hf (by first|(simp_all;done)|fail) (by first|(simp_all;done)|fail)) zfv];focus first|rfl|(simp [zi,zo,zj,zk];done)|(simp [zi,zo,zj,zk];rfl))|fail)⟩)
 |(exact ⟨k+1,v116,⟨by omega,trivial⟩,uD,⟨rfl,rfl,trivial⟩,uK,zg (by first|(dsimp only;rw [zm,zR hsk (by first|(simp_all;done)|fail) (zcf hf (by first|(simp_all;done)|fail) (by first|(simp_all;done)|fail) (by first|(simp_all;done)|fail)) zd4];focus first|rfl|(simp [zi,zo,zj,zk];done)|(simp [zi,zo,zj,zk];rfl))|fail)⟩)
 |(exact ⟨k+1,v116,⟨by omega,trivial⟩,uD,⟨rfl,rfl,trivial⟩,uK,zg (by first|(dsimp only;rw [zm,zR hsk (by first|(simp_all;done)|fail) (zch hf (by first|(simp_all;done)|fail) (by first|(simp_all;done)|fail) (by first|(simp_all;done)|fail) (by first|(simp_all;done)|fail)) zd9];focus first|rfl|(simp [zi,zo,zj,zk];done)|(simp [zi,zo,zj,zk];rfl))|fail)⟩)
 refine gz7 ?_
 focus first
 |(exfalso;simp_all;done)
 |(exact ⟨k+1,u,⟨by omega,trivial⟩,uD,⟨rfl,rfl,trivial⟩,uK,zg (by first|(dsimp only;rw [zm,zcY (by first|(simp_all;done)|fail)];focus first|rfl|(simp [zi,zo,zj,zk];done)|(simp [zi,zo,zj,zk];rfl))|fail)⟩)
 |(exact ⟨k+1,u,⟨by omega,trivial⟩,uD,⟨rfl,rfl,trivial⟩,uK,zg (by first|(dsimp only;rw [zm,zcZ hsk (by first|(simp_all;done)|fail) (zcg hf (by first|(simp_all;done)|fail) (by first|(simp_all;done)|fail) (by first|(simp_all;done)|fail) (by first|(simp_all;done)|fail))];focus first|rfl|(simp [zi,zo,zj,zk];done)|(simp [zi,zo,zj,zk];rfl))|fail)⟩)
 |(exact ⟨k+1,v116,⟨by omega,trivial⟩,uD,⟨rfl,rfl,trivial⟩,uK,zg (by first|(dsimp only;rw [zm,zR hsk (by first|(simp_all;done)|fail) (zce (b:=b) uSa) zd1];focus first|rfl|(simp [zi,zo,zj,zk];done)|(simp [zi,zo,zj,zk];rfl))|fail)⟩)
 |(exact ⟨k+1,v116,⟨by omega,trivial⟩,uD,⟨rfl,rfl,trivial⟩,uK,zg (by first|(dsimp only;rw [zm,zR hsk (by first|(simp_all;done)|fail) (zc0 hf (by first|(simp_all;done)|fail) (by first|(simp_all;done)|fail)) zfv];focus first|rfl|(simp [zi,zo,zj,zk];done)|(simp [zi,zo,zj,zk];rfl))|fail)⟩)
 |(exact ⟨k+1,v116,⟨by omega,trivial⟩,uD,⟨rfl,rfl,trivial⟩,uK,zg (by first|(dsimp only;rw [zm,zR hsk (by first|(simp_all;done)|fail) (zcf hf (by first|(simp_all;done)|fail) (by first|(simp_all;done)|fail) (by first|(simp_all;done)|fail)) zd4];focus first|rfl|(simp [zi,zo,zj,zk];done)|(simp [zi,zo,zj,zk];rfl))|fail)⟩)
 |(exact ⟨k+1,v116,⟨by omega,trivial⟩,uD,⟨rfl,rfl,trivial⟩,uK,zg (by first|(dsimp only;rw [zm,zR hsk (by first|(simp_all;done)|fail) (zch hf (by first|(simp_all;done)|fail) (by first|(simp_all;done)|fail) (by first|(simp_all;done)|fail) (by first|(simp_all;done)|fail)) zd9];focus first|rfl|(simp [zi,zo,zj,zk];done)|(simp [zi,zo,zj,zk];rfl))|fail)⟩)
 refine uDr mixed ?_;refine uB 0 rfl ((by first|exact ze z7 rfl zcA (by decide) rfl|exact zb z7 rfl zcA (by decide) rfl)) ?_;refine uB 1 rfl (zU (h:=zaC b.League.Players) zcA rfl rfl rfl) ?_;refine gz1 ?_;refine uB 3 rfl (zK (f:=zcE) (l:=b.League.Players) (j:=j) (a:=p) zcA zdc rfl rfl rfl hjp) ?_;refine uB 4 rfl ((by first|exact ze zdc rfl zu (by decide) rfl|exact zb zdc rfl zu (by decide) rfl)) ?_;refine uB 5 rfl (zU (h:=eSs p.Positions) zu rfl rfl rfl) ?_;refine uB 6 rfl ((by first|exact ze zbb rfl zu (by decide) rfl|exact zb zbb rfl zu (by decide) rfl)) ?_;refine uB 7 rfl (zU (h:=eSs x.Positions) zu rfl rfl rfl) ?_;refine uB 8 rfl (uCl ca47 rfl (zlF (a:=p.Positions) (b:=x.Positions) (hla.po p hpm) (hla.sp x (Ac hx)))) ?_;refine gz3 ?_;refine uCo (fun h23=> ?_) fun h24=> ?_
 refine gz7 ?_;refine dq ((by first|exact ze z7 rfl zcB (by decide) rfl|exact zb z7 rfl zcB (by decide) rfl)) ?_;refine dq (zU (h:=zbJ b.League.Stints) zcB rfl rfl rfl) ?_;refine dq ((by first|exact ze z7 rfl zaF (by decide) rfl|exact zb z7 rfl zaF (by decide) rfl)) ?_;refine dq (zU (h:=zde b.League.Fixtures) zaF rfl rfl rfl) ?_;refine gz2 ?_;refine dq (uCl zti rfl (zdE (l:=b.League.Stints) (f:=b.League.Fixtures) (s:=(c.Players.getD k [])) (w:=w) hla.st hla.fx hso hs1 hwb)) ?_;refine zl5 ?_;refine uCo (fun h25=> ?_) fun h26=> ?_
 refine gz8 ?_;refine uCo (fun h27=> ?_) fun h28=> ?_
 refine gz2 ?_;refine dq ((by first|exact ze zbb rfl ty9 (by decide) rfl|exact zb zbb rfl ty9 (by decide) rfl)) ?_;refine gz2 ?_;refine dq (zO (cs:=[_,_]) zb7 zkZ rfl) ?_;refine dq (za (hs:=[_]) zei zb7 rfl rfl (by decide) (by decide) rfl) ?_;refine de rfl (zN (i:=0) zei zb7 rfl rfl rfl rfl rfl (by first|(simp [zal,zd];done)|(simp [zal,zd];rfl)) (by have:=zdD b (rPl (zah b.League.Bounds b.Moves n) t) c w k;focus first|(simp only [Ag,Ah,Al] at*;done)|(simp only [Ag,Ah,Al] at*;omega)) fun v116=> ?_)
 refine gz8 ?_
 focus first
 |(exfalso;simp_all;done)
 |(exact ⟨k+1,u,⟨by omega,trivial⟩,uD,⟨rfl,rfl,trivial⟩,uK,zg (by first|(dsimp only;rw [zm,zcY (by first|(simp_all;done)|fail)];focus first|rfl|(simp [zi,zo,zj,zk];done)|(simp [zi,zo,zj,zk];rfl))|fail)⟩)
 |(exact ⟨k+1,u,⟨by omega,trivial⟩,uD,⟨rfl,rfl,trivial⟩,uK,zg (by first|(dsimp only;rw [zm,zcZ hsk (by first|(simp_all;done)|fail) (zcg hf (by first|(simp_all;done)|fail) (by first|(simp_all;done)|fail) (by first|(simp_all;done)|fail) (by first|(simp_all;done)|fail))];focus first|rfl|(simp [zi,zo,zj,zk];done)|(simp [zi,zo,zj,zk];rfl))|fail)⟩)
 |(exact ⟨k+1,v116,⟨by omega,trivial⟩,uD,⟨rfl,rfl,trivial⟩,uK,zg (by first|(dsimp only;rw [zm,zR hsk (by first|(simp_all;done)|fail) (zce (b:=b) uSa) zd1];focus first|rfl|(simp [zi,zo,zj,zk];done)|(simp [zi,zo,zj,zk];rfl))|fail)⟩)
 |(exact ⟨k+1,v116,⟨by omega,trivial⟩,uD,⟨rfl,rfl,trivial⟩,uK,zg (by first|(dsimp only;rw [zm,zR hsk (by first|(simp_all;done)|fail) (zc0 hf (by first|(simp_all;done)|fail) (by first|(simp_all;done)|fail)) zfv];focus first|rfl|(simp [zi,zo,zj,zk];done)|(simp [zi,zo,zj,zk];rfl))|fail)⟩)
 |(exact ⟨k+1,v116,⟨by omega,trivial⟩,uD,⟨rfl,rfl,trivial⟩,uK,zg (by first|(dsimp only;rw [zm,zR hsk (by first|(simp_all;done)|fail) (zcf hf (by first|(simp_all;done)|fail) (by first|(simp_all;done)|fail) (by first|(simp_all;done)|fail)) zd4];focus first|rfl|(simp [zi,zo,zj,zk];done)|(simp [zi,zo,zj,zk];rfl))|fail)⟩)
 |(exact ⟨k+1,v116,⟨by omega,trivial⟩,uD,⟨rfl,rfl,trivial⟩,uK,zg (by first|(dsimp only;rw [zm,zR hsk (by first|(simp_all;done)|fail) (zch hf (by first|(simp_all;done)|fail) (by first|(simp_all;done)|fail) (by first|(simp_all;done)|fail) (by first|(simp_all;done)|fail)) zd9];focus first|rfl|(simp [zi,zo,zj,zk];done)|(simp [zi,zo,zj,zk];rfl))|fail)⟩)
 refine gz7 ?_
 focus first
 |(exfalso;simp_all;done)
 |(exact ⟨k+1,u,⟨by omega,trivial⟩,uD,⟨rfl,rfl,trivial⟩,uK,zg (by first|(dsimp only;rw [zm,zcY (by first|(simp_all;done)|fail)];focus first|rfl|(simp [zi,zo,zj,zk];done)|(simp [zi,zo,zj,zk];rfl))|fail)⟩)
 |(exact ⟨k+1,u,⟨by omega,trivial⟩,uD,⟨rfl,rfl,trivial⟩,uK,zg (by first|(dsimp only;rw [zm,zcZ hsk (by first|(simp_all;done)|fail) (zcg hf (by first|(simp_all;done)|fail) (by first|(simp_all;done)|fail) (by first|(simp_all;done)|fail) (by first|(simp_all;done)|fail))];focus first|rfl|(simp [zi,zo,zj,zk];done)|(simp [zi,zo,zj,zk];rfl))|fail)⟩)
 |(exact ⟨k+1,v116,⟨by omega,trivial⟩,uD,⟨rfl,rfl,trivial⟩,uK,zg (by first|(dsimp only;rw [zm,zR hsk (by first|(simp_all;done)|fail) (zce (b:=b) uSa) zd1];focus first|rfl|(simp [zi,zo,zj,zk];done)|(simp [zi,zo,zj,zk];rfl))|fail)⟩)
 |(exact ⟨k+1,v116,⟨by omega,trivial⟩,uD,⟨rfl,rfl,trivial⟩,uK,zg (by first|(dsimp only;rw [zm,zR hsk (by first|(simp_all;done)|fail) (zc0 hf (by first|(simp_all;done)|fail) (by first|(simp_all;done)|fail)) zfv];focus first|rfl|(simp [zi,zo,zj,zk];done)|(simp [zi,zo,zj,zk];rfl))|fail)⟩)
 |(exact ⟨k+1,v116,⟨by omega,trivial⟩,uD,⟨rfl,rfl,trivial⟩,uK,zg (by first|(dsimp only;rw [zm,zR hsk (by first|(simp_all;done)|fail) (zcf hf (by first|(simp_all;done)|fail) (by first|(simp_all;done)|fail) (by first|(simp_all;done)|fail)) zd4];focus first|rfl|(simp [zi,zo,zj,zk];done)|(simp [zi,zo,zj,zk];rfl))|fail)⟩)
 |(exact ⟨k+1,v116,⟨by omega,trivial⟩,uD,⟨rfl,rfl,trivial⟩,uK,zg (by first|(dsimp only;rw [zm,zR hsk (by first|(simp_all;done)|fail) (zch hf (by first|(simp_all;done)|fail) (by first|(simp_all;done)|fail) (by first|(simp_all;done)|fail) (by first|(simp_all;done)|fail)) zd9];focus first|rfl|(simp [zi,zo,zj,zk];done)|(simp [zi,zo,zj,zk];rfl))|fail)⟩)
 refine gz6 ?_;refine uCo (fun h29=> ?_) fun h30=> ?_
 refine gz2 ?_;refine dq ((by first|exact ze zbb rfl ty9 (by decide) rfl|exact zb zbb rfl ty9 (by decide) rfl)) ?_;refine gz2 ?_;refine dq (zO (cs:=[_,_]) zb7 zkZ rfl) ?_;refine dq (za (hs:=[_]) zei zb7 rfl rfl (by decide) (by decide) rfl) ?_;refine de rfl (zN (i:=0) zei zb7 rfl rfl rfl rfl rfl (by first|(simp [zal,zd];done)|(simp [zal,zd];rfl)) (by have:=zdD b (rPl (zah b.League.Bounds b.Moves n) t) c w k;focus first|(simp only [Ag,Ah,Al] at*;done)|(simp only [Ag,Ah,Al] at*;omega)) fun v116=> ?_)
 refine gz8 ?_
 focus first
 |(exfalso;simp_all;done)
 |(exact ⟨k+1,u,⟨by omega,trivial⟩,uD,⟨rfl,rfl,trivial⟩,uK,zg (by first|(dsimp only;rw [zm,zcY (by first|(simp_all;done)|fail)];focus first|rfl|(simp [zi,zo,zj,zk];done)|(simp [zi,zo,zj,zk];rfl))|fail)⟩)
 |(exact ⟨k+1,u,⟨by omega,trivial⟩,uD,⟨rfl,rfl,trivial⟩,uK,zg (by first|(dsimp only;rw [zm,zcZ hsk (by first|(simp_all;done)|fail) (zcg hf (by first|(simp_all;done)|fail) (by first|(simp_all;done)|fail) (by first|(simp_all;done)|fail) (by first|(simp_all;done)|fail))];focus first|rfl|(simp [zi,zo,zj,zk];done)|(simp [zi,zo,zj,zk];rfl))|fail)⟩)
 |(exact ⟨k+1,v116,⟨by omega,trivial⟩,uD,⟨rfl,rfl,trivial⟩,uK,zg (by first|(dsimp only;rw [zm,zR hsk (by first|(simp_all;done)|fail) (zce (b:=b) uSa) zd1];focus first|rfl|(simp [zi,zo,zj,zk];done)|(simp [zi,zo,zj,zk];rfl))|fail)⟩)
 |(exact ⟨k+1,v116,⟨by omega,trivial⟩,uD,⟨rfl,rfl,trivial⟩,uK,zg (by first|(dsimp only;rw [zm,zR hsk (by first|(simp_all;done)|fail) (zc0 hf (by first|(simp_all;done)|fail) (by first|(simp_all;done)|fail)) zfv];focus first|rfl|(simp [zi,zo,zj,zk];done)|(simp [zi,zo,zj,zk];rfl))|fail)⟩)
 |(exact ⟨k+1,v116,⟨by omega,trivial⟩,uD,⟨rfl,rfl,trivial⟩,uK,zg (by first|(dsimp only;rw [zm,zR hsk (by first|(simp_all;done)|fail) (zcf hf (by first|(simp_all;done)|fail) (by first|(simp_all;done)|fail) (by first|(simp_all;done)|fail)) zd4];focus first|rfl|(simp [zi,zo,zj,zk];done)|(simp [zi,zo,zj,zk];rfl))|fail)⟩)
 |(exact ⟨k+1,v116,⟨by omega,trivial⟩,uD,⟨rfl,rfl,trivial⟩,uK,zg (by first|(dsimp only;rw [zm,zR hsk (by first|(simp_all;done)|fail) (zch hf (by first|(simp_all;done)|fail) (by first|(simp_all;done)|fail) (by first|(simp_all;done)|fail) (by first|(simp_all;done)|fail)) zd9];focus first|rfl|(simp [zi,zo,zj,zk];done)|(simp [zi,zo,zj,zk];rfl))|fail)⟩)
 refine gz7 ?_
 focus first
 |(exfalso;simp_all;done)
 |(exact ⟨k+1,u,⟨by omega,trivial⟩,uD,⟨rfl,rfl,trivial⟩,uK,zg (by first|(dsimp only;rw [zm,zcY (by first|(simp_all;done)|fail)];focus first|rfl|(simp [zi,zo,zj,zk];done)|(simp [zi,zo,zj,zk];rfl))|fail)⟩)
 |(exact ⟨k+1,u,⟨by omega,trivial⟩,uD,⟨rfl,rfl,trivial⟩,uK,zg (by first|(dsimp only;rw [zm,zcZ hsk (by first|(simp_all;done)|fail) (zcg hf (by first|(simp_all;done)|fail) (by first|(simp_all;done)|fail) (by first|(simp_all;done)|fail) (by first|(simp_all;done)|fail))];focus first|rfl|(simp [zi,zo,zj,zk];done)|(simp [zi,zo,zj,zk];rfl))|fail)⟩)
 |(exact ⟨k+1,v116,⟨by omega,trivial⟩,uD,⟨rfl,rfl,trivial⟩,uK,zg (by first|(dsimp only;rw [zm,zR hsk (by first|(simp_all;done)|fail) (zce (b:=b) uSa) zd1];focus first|rfl|(simp [zi,zo,zj,zk];done)|(simp [zi,zo,zj,zk];rfl))|fail)⟩)
 |(exact ⟨k+1,v116,⟨by omega,trivial⟩,uD,⟨rfl,rfl,trivial⟩,uK,zg (by first|(dsimp only;rw [zm,zR hsk (by first|(simp_all;done)|fail) (zc0 hf (by first|(simp_all;done)|fail) (by first|(simp_all;done)|fail)) zfv];focus first|rfl|(simp [zi,zo,zj,zk];done)|(simp [zi,zo,zj,zk];rfl))|fail)⟩)
 |(exact ⟨k+1,v116,⟨by omega,trivial⟩,uD,⟨rfl,rfl,trivial⟩,uK,zg (by first|(dsimp only;rw [zm,zR hsk (by first|(simp_all;done)|fail) (zcf hf (by first|(simp_all;done)|fail) (by first|(simp_all;done)|fail) (by first|(simp_all;done)|fail)) zd4];focus first|rfl|(simp [zi,zo,zj,zk];done)|(simp [zi,zo,zj,zk];rfl))|fail)⟩)
 |(exact ⟨k+1,v116,⟨by omega,trivial⟩,uD,⟨rfl,rfl,trivial⟩,uK,zg (by first|(dsimp only;rw [zm,zR hsk (by first|(simp_all;done)|fail) (zch hf (by first|(simp_all;done)|fail) (by first|(simp_all;done)|fail) (by first|(simp_all;done)|fail) (by first|(simp_all;done)|fail)) zd9];focus first|rfl|(simp [zi,zo,zj,zk];done)|(simp [zi,zo,zj,zk];rfl))|fail)⟩)
 refine gz5 ?_;refine dq ((by first|exact ze z7 rfl zcB (by decide) rfl|exact zb z7 rfl zcB (by decide) rfl)) ?_;refine dq (zU (h:=zbJ b.League.Stints) zcB rfl rfl rfl) ?_;refine dq ((by first|exact ze z7 rfl zaF (by decide) rfl|exact zb z7 rfl zaF (by decide) rfl)) ?_;refine dq (zU (h:=zde b.League.Fixtures) zaF rfl rfl rfl) ?_;refine gz2 ?_;refine dq (uCl zti rfl (zdE (l:=b.League.Stints) (f:=b.League.Fixtures) (s:=(c.Players.getD k [])) (w:=w) hla.st hla.fx hso hs1 hwb)) ?_;refine zl5 ?_;refine uCo (fun h31=> ?_) fun h32=> ?_
 refine gz8 ?_;refine uCo (fun h33=> ?_) fun h34=> ?_
 refine gz2 ?_;refine dq ((by first|exact ze zbb rfl ty9 (by decide) rfl|exact zb zbb rfl ty9 (by decide) rfl)) ?_;refine gz2 ?_;refine dq (zO (cs:=[_,_]) zb7 zkZ rfl) ?_;refine dq (za (hs:=[_]) zei zb7 rfl rfl (by decide) (by decide) rfl) ?_;refine de rfl (zN (i:=0) zei zb7 rfl rfl rfl rfl rfl (by first|(simp [zal,zd];done)|(simp [zal,zd];rfl)) (by have:=zdD b (rPl (zah b.League.Bounds b.Moves n) t) c w k;focus first|(simp only [Ag,Ah,Al] at*;done)|(simp only [Ag,Ah,Al] at*;omega)) fun v116=> ?_)
 refine gz8 ?_
 focus first
 |(exfalso;simp_all;done)
 |(exact ⟨k+1,u,⟨by omega,trivial⟩,uD,⟨rfl,rfl,trivial⟩,uK,zg (by first|(dsimp only;rw [zm,zcY (by first|(simp_all;done)|fail)];focus first|rfl|(simp [zi,zo,zj,zk];done)|(simp [zi,zo,zj,zk];rfl))|fail)⟩)
 |(exact ⟨k+1,u,⟨by omega,trivial⟩,uD,⟨rfl,rfl,trivial⟩,uK,zg (by first|(dsimp only;rw [zm,zcZ hsk (by first|(simp_all;done)|fail) (zcg hf (by first|(simp_all;done)|fail) (by first|(simp_all;done)|fail) (by first|(simp_all;done)|fail) (by first|(simp_all;done)|fail))];focus first|rfl|(simp [zi,zo,zj,zk];done)|(simp [zi,zo,zj,zk];rfl))|fail)⟩)
 |(exact ⟨k+1,v116,⟨by omega,trivial⟩,uD,⟨rfl,rfl,trivial⟩,uK,zg (by first|(dsimp only;rw [zm,zR hsk (by first|(simp_all;done)|fail) (zce (b:=b) uSa) zd1];focus first|rfl|(simp [zi,zo,zj,zk];done)|(simp [zi,zo,zj,zk];rfl))|fail)⟩)
 |(exact ⟨k+1,v116,⟨by omega,trivial⟩,uD,⟨rfl,rfl,trivial⟩,uK,zg (by first|(dsimp only;rw [zm,zR hsk (by first|(simp_all;done)|fail) (zc0 hf (by first|(simp_all;done)|fail) (by first|(simp_all;done)|fail)) zfv];focus first|rfl|(simp [zi,zo,zj,zk];done)|(simp [zi,zo,zj,zk];rfl))|fail)⟩)
 |(exact ⟨k+1,v116,⟨by omega,trivial⟩,uD,⟨rfl,rfl,trivial⟩,uK,zg (by first|(dsimp only;rw [zm,zR hsk (by first|(simp_all;done)|fail) (zcf hf (by first|(simp_all;done)|fail) (by first|(simp_all;done)|fail) (by first|(simp_all;done)|fail)) zd4];focus first|rfl|(simp [zi,zo,zj,zk];done)|(simp [zi,zo,zj,zk];rfl))|fail)⟩)
 |(exact ⟨k+1,v116,⟨by omega,trivial⟩,uD,⟨rfl,rfl,trivial⟩,uK,zg (by first|(dsimp only;rw [zm,zR hsk (by first|(simp_all;done)|fail) (zch hf (by first|(simp_all;done)|fail) (by first|(simp_all;done)|fail) (by first|(simp_all;done)|fail) (by first|(simp_all;done)|fail)) zd9];focus first|rfl|(simp [zi,zo,zj,zk];done)|(simp [zi,zo,zj,zk];rfl))|fail)⟩)
 refine gz7 ?_
 focus first
 |(exfalso;simp_all;done)
 |(exact ⟨k+1,u,⟨by omega,trivial⟩,uD,⟨rfl,rfl,trivial⟩,uK,zg (by first|(dsimp only;rw [zm,zcY (by first|(simp_all;done)|fail)];focus first|rfl|(simp [zi,zo,zj,zk];done)|(simp [zi,zo,zj,zk];rfl))|fail)⟩)
 |(exact ⟨k+1,u,⟨by omega,trivial⟩,uD,⟨rfl,rfl,trivial⟩,uK,zg (by first|(dsimp only;rw [zm,zcZ hsk (by first|(simp_all;done)|fail) (zcg hf (by first|(simp_all;done)|fail) (by first|(simp_all;done)|fail) (by first|(simp_all;done)|fail) (by first|(simp_all;done)|fail))];focus first|rfl|(simp [zi,zo,zj,zk];done)|(simp [zi,zo,zj,zk];rfl))|fail)⟩)
 |(exact ⟨k+1,v116,⟨by omega,trivial⟩,uD,⟨rfl,rfl,trivial⟩,uK,zg (by first|(dsimp only;rw [zm,zR hsk (by first|(simp_all;done)|fail) (zce (b:=b) uSa) zd1];focus first|rfl|(simp [zi,zo,zj,zk];done)|(simp [zi,zo,zj,zk];rfl))|fail)⟩)
 |(exact ⟨k+1,v116,⟨by omega,trivial⟩,uD,⟨rfl,rfl,trivial⟩,uK,zg (by first|(dsimp only;rw [zm,zR hsk (by first|(simp_all;done)|fail) (zc0 hf (by first|(simp_all;done)|fail) (by first|(simp_all;done)|fail)) zfv];focus first|rfl|(simp [zi,zo,zj,zk];done)|(simp [zi,zo,zj,zk];rfl))|fail)⟩)
 |(exact ⟨k+1,v116,⟨by omega,trivial⟩,uD,⟨rfl,rfl,trivial⟩,uK,zg (by first|(dsimp only;rw [zm,zR hsk (by first|(simp_all;done)|fail) (zcf hf (by first|(simp_all;done)|fail) (by first|(simp_all;done)|fail) (by first|(simp_all;done)|fail)) zd4];focus first|rfl|(simp [zi,zo,zj,zk];done)|(simp [zi,zo,zj,zk];rfl))|fail)⟩)
 |(exact ⟨k+1,v116,⟨by omega,trivial⟩,uD,⟨rfl,rfl,trivial⟩,uK,zg (by first|(dsimp only;rw [zm,zR hsk (by first|(simp_all;done)|fail) (zch hf (by first|(simp_all;done)|fail) (by first|(simp_all;done)|fail) (by first|(simp_all;done)|fail) (by first|(simp_all;done)|fail)) zd9];focus first|rfl|(simp [zi,zo,zj,zk];done)|(simp [zi,zo,zj,zk];rfl))|fail)⟩)
 refine gz6 ?_;refine uCo (fun h35=> ?_) fun h36=> ?_
 refine gz2 ?_;refine dq ((by first|exact ze zbb rfl ty9 (by decide) rfl|exact zb zbb rfl ty9 (by decide) rfl)) ?_;refine gz2 ?_;refine dq (zO (cs:=[_,_]) zb7 zkZ rfl) ?_;refine dq (za (hs:=[_]) zei zb7 rfl rfl (by decide) (by decide) rfl) ?_;refine de rfl (zN (i:=0) zei zb7 rfl rfl rfl rfl rfl (by first|(simp [zal,zd];done)|(simp [zal,zd];rfl)) (by have:=zdD b (rPl (zah b.League.Bounds b.Moves n) t) c w k;focus first|(simp only [Ag,Ah,Al] at*;done)|(simp only [Ag,Ah,Al] at*;omega)) fun v116=> ?_)
 refine gz8 ?_
 focus first
 |(exfalso;simp_all;done)
 |(exact ⟨k+1,u,⟨by omega,trivial⟩,uD,⟨rfl,rfl,trivial⟩,uK,zg (by first|(dsimp only;rw [zm,zcY (by first|(simp_all;done)|fail)];focus first|rfl|(simp [zi,zo,zj,zk];done)|(simp [zi,zo,zj,zk];rfl))|fail)⟩)
 |(exact ⟨k+1,u,⟨by omega,trivial⟩,uD,⟨rfl,rfl,trivial⟩,uK,zg (by first|(dsimp only;rw [zm,zcZ hsk (by first|(simp_all;done)|fail) (zcg hf (by first|(simp_all;done)|fail) (by first|(simp_all;done)|fail) (by first|(simp_all;done)|fail) (by first|(simp_all;done)|fail))];focus first|rfl|(simp [zi,zo,zj,zk];done)|(simp [zi,zo,zj,zk];rfl))|fail)⟩)
 |(exact ⟨k+1,v116,⟨by omega,trivial⟩,uD,⟨rfl,rfl,trivial⟩,uK,zg (by first|(dsimp only;rw [zm,zR hsk (by first|(simp_all;done)|fail) (zce (b:=b) uSa) zd1];focus first|rfl|(simp [zi,zo,zj,zk];done)|(simp [zi,zo,zj,zk];rfl))|fail)⟩)
 |(exact ⟨k+1,v116,⟨by omega,trivial⟩,uD,⟨rfl,rfl,trivial⟩,uK,zg (by first|(dsimp only;rw [zm,zR hsk (by first|(simp_all;done)|fail) (zc0 hf (by first|(simp_all;done)|fail) (by first|(simp_all;done)|fail)) zfv];focus first|rfl|(simp [zi,zo,zj,zk];done)|(simp [zi,zo,zj,zk];rfl))|fail)⟩)
 |(exact ⟨k+1,v116,⟨by omega,trivial⟩,uD,⟨rfl,rfl,trivial⟩,uK,zg (by first|(dsimp only;rw [zm,zR hsk (by first|(simp_all;done)|fail) (zcf hf (by first|(simp_all;done)|fail) (by first|(simp_all;done)|fail) (by first|(simp_all;done)|fail)) zd4];focus first|rfl|(simp [zi,zo,zj,zk];done)|(simp [zi,zo,zj,zk];rfl))|fail)⟩)
 |(exact ⟨k+1,v116,⟨by omega,trivial⟩,uD,⟨rfl,rfl,trivial⟩,uK,zg (by first|(dsimp only;rw [zm,zR hsk (by first|(simp_all;done)|fail) (zch hf (by first|(simp_all;done)|fail) (by first|(simp_all;done)|fail) (by first|(simp_all;done)|fail) (by first|(simp_all;done)|fail)) zd9];focus first|rfl|(simp [zi,zo,zj,zk];done)|(simp [zi,zo,zj,zk];rfl))|fail)⟩)
 refine gz7 ?_
 focus first
 |(exfalso;simp_all;done)
 |(exact ⟨k+1,u,⟨by omega,trivial⟩,uD,⟨rfl,rfl,trivial⟩,uK,zg (by first|(dsimp only;rw [zm,zcY (by first|(simp_all;done)|fail)];focus first|rfl|(simp [zi,zo,zj,zk];done)|(simp [zi,zo,zj,zk];rfl))|fail)⟩)
 |(exact ⟨k+1,u,⟨by omega,trivial⟩,uD,⟨rfl,rfl,trivial⟩,uK,zg (by first|(dsimp only;rw [zm,zcZ hsk (by first|(simp_all;done)|fail) (zcg hf (by first|(simp_all;done)|fail) (by first|(simp_all;done)|fail) (by first|(simp_all;done)|fail) (by first|(simp_all;done)|fail))];focus first|rfl|(simp [zi,zo,zj,zk];done)|(simp [zi,zo,zj,zk];rfl))|fail)⟩)
 |(exact ⟨k+1,v116,⟨by omega,trivial⟩,uD,⟨rfl,rfl,trivial⟩,uK,zg (by first|(dsimp only;rw [zm,zR hsk (by first|(simp_all;done)|fail) (zce (b:=b) uSa) zd1];focus first|rfl|(simp [zi,zo,zj,zk];done)|(simp [zi,zo,zj,zk];rfl))|fail)⟩)
 |(exact ⟨k+1,v116,⟨by omega,trivial⟩,uD,⟨rfl,rfl,trivial⟩,uK,zg (by first|(dsimp only;rw [zm,zR hsk (by first|(simp_all;done)|fail) (zc0 hf (by first|(simp_all;done)|fail) (by first|(simp_all;done)|fail)) zfv];focus first|rfl|(simp [zi,zo,zj,zk];done)|(simp [zi,zo,zj,zk];rfl))|fail)⟩)
 |(exact ⟨k+1,v116,⟨by omega,trivial⟩,uD,⟨rfl,rfl,trivial⟩,uK,zg (by first|(dsimp only;rw [zm,zR hsk (by first|(simp_all;done)|fail) (zcf hf (by first|(simp_all;done)|fail) (by first|(simp_all;done)|fail) (by first|(simp_all;done)|fail)) zd4];focus first|rfl|(simp [zi,zo,zj,zk];done)|(simp [zi,zo,zj,zk];rfl))|fail)⟩)
 |(exact ⟨k+1,v116,⟨by omega,trivial⟩,uD,⟨rfl,rfl,trivial⟩,uK,zg (by first|(dsimp only;rw [zm,zR hsk (by first|(simp_all;done)|fail) (zch hf (by first|(simp_all;done)|fail) (by first|(simp_all;done)|fail) (by first|(simp_all;done)|fail) (by first|(simp_all;done)|fail)) zd9];focus first|rfl|(simp [zi,zo,zj,zk];done)|(simp [zi,zo,zj,zk];rfl))|fail)⟩)
 have hnk:b.League.Slots.length<=k:=by omega
 obtain rfl:k=b.League.Slots.length:=by omega
 refine gz2 ?_;refine zY ?_;refine gz7 ?_
 focus first
 | (refine zbD rfl ?_
    have hn:(zcT b.Choices t w n 345686400000)=none:=by simp_all
    rw [hn];exact zX 2)
 | (refine zB ((zap 8 (i:=0) rfl rfl).trans Ghost.clear) rfl ⟨?_,rfl⟩
    first|rfl|(rw [hc];rfl))
end
section
open Go.Proofs.Tryz
open Go.HL
theorem zat [Tracks] {b:Nat} {l:List Int} {a:Nat} (ha:a<=800000):Con prog 109 [pAt b] [St b l a] (fun x M'=> ∃t a',x=eSs t/\GoodTr t/\a'<=a+10/\M'=[St b l a']):=by
 refine uOb func109 ntmps109 ?_;refine gz6 ?_;refine zl (zQ 1) ?_;refine gz3 ?_;refine de rfl (uCx 1 zwo rfl rfl (zfi (n:=3) uO uO uO) ?_)
 rintro _ _ ⟨L7,a7,rfl,hL7,ha7,rfl⟩;refine gz3 ?_;obtain ⟨hLn,hLb⟩:=hL7;refine gz1 ?_;refine uV2 [3,1,5,1,9,15] (fun (k:Nat) (q:GL Str)=>[(9,.int .i64 k),(3,.raw q.u)]) (fun (k:Nat) (q:GL Str)=>[St b l q.a,.arr q.u 1 (q.out.map .str)]) (fun (k:Nat) (q:GL Str)=>k<=L7.length/\(GLok Sh k (a7+k) q)) (fun (k:Nat) (q:GL Str)=>L7.length-k) (0) (⟨.slice none 0 0,[],a7⟩) ?_ ?_ ?_ ?_;exact ⟨Ad _,⟨by simp,by simp,uD⟩⟩;exact ⟨rfl,rfl,trivial⟩;exact uP
 intro k q hinv
 obtain ⟨hk,hq⟩:=hinv;obtain ⟨u,out,a2⟩:=q;obtain ⟨g1,g2,g3⟩:=id hq;dsimp only at g1 g2 g3;refine gz4 ?_;refine uCo (fun h1=> ?_) fun h2=> ?_
 obtain ⟨y,hy⟩: ∃y,L7[k]? =some y:=⟨_,Aa h1⟩
 have hdy:=zt hy;refine zc8 ?_;refine de rfl (uCx 0 zeb rfl rfl (zI uSo uO) ?_)
 rintro _ _ ⟨y14,rfl,rfl⟩;refine gz2 ?_;refine uCo (fun h3=> ?_) fun h4=> ?_
 refine gz2 ?_;refine dq (za (hs:=[_,_,_]) zu ty9 rfl rfl (by decide) (by decide) rfl) ?_;refine gz1 ?_;refine dq (zK (f:=HVal.str) (l:=zfY) (j:=y.toNat) (a:=zfY.getD y.toNat []) zu ty9 rfl rfl (by have:=hLb y (Ac hy);omega) (getD_some (by have:=hLb y (Ac hy);simp [zfY];omega))) ?_;refine gz1 ?_;refine dq (za (hs:=[_]) zu ty9 rfl rfl (by decide) (by decide) rfl) ?_;refine de rfl (zN (i:=1) zu ty9 rfl rfl rfl rfl rfl (by simp [zal,zd]) uSo fun v22=> ?_)
 refine gz8 ?_;exact ⟨k+1,⟨v22,out++[zfY.getD y.toNat []],a2+1⟩,⟨by omega,hq.add (x:=zfY.getD y.toNat []) (zkm _ (zvl (by have:=hLb y (Ac hy);simp [zfY];omega))) uO⟩,uD,⟨rfl,rfl,trivial⟩,uK,uP⟩;refine gz7 ?_;exact ⟨k+1,⟨u,out,a2+1⟩,⟨by omega,hq.same uO⟩,uD,⟨rfl,rfl,trivial⟩,uK,uP⟩;have hnk:L7.length<=k:=by omega
 obtain rfl:k=L7.length:=by omega
 refine gz2 ?_;refine zY ?_;refine gz3 ?_
 dsimp only
 refine gz2 ?_;refine de rfl (uCx 0 zeb rfl rfl (zI uO uO) ?_)
 rintro _ _ ⟨y25,rfl,rfl⟩;refine gz1 ?_;refine uCo (fun h5=> ?_) fun h6=> ?_
 refine gz3 ?_;refine dq (za (hs:=[_,_,_]) zu ty9 rfl rfl (by decide) (by decide) rfl) ?_;refine de rfl (uCx 0 ca7 rfl rfl (zp (L:=[_,_,_]) uO uSa uSa) ?_)
 rintro _ _ ⟨y29,rfl,hy29,rfl⟩;refine dq (za (hs:=[_]) zu ty9 rfl rfl (by decide) (by decide) rfl) ?_;refine de rfl (zN (i:=1) zu ty9 rfl rfl rfl rfl rfl (by simp [zal,zd]) uSo fun v31=> ?_)
 refine gz8 ?_;exact zB (zap 2 (i:=1) rfl rfl) rfl ⟨out++[y29],_,by simp,⟨by simp;omega,fun s hs=>by
  rcases List.mem_append.1 hs with hs|hs
  exact g2 s hs;rw [List.mem_singleton.1 hs];simp at hy29;rcases hy29 with rfl|rfl|rfl<;>(unfold Sh;simp)⟩,by omega,rfl⟩
 refine gz7 ?_;exact zB (zap 2 (i:=1) rfl rfl) rfl ⟨out,_,rfl,⟨by omega,g2⟩,by omega,rfl⟩
theorem zi2 [Tracks] {b:Nat} {l:List Int} {a:Nat} (ha:a<=700000):Con prog 51 [pAt b] [St b l a] (fun x M'=> ∃k a',x=zcV k/\GoodPl k/\a'<=a+500/\M'=[St b l a']):=by
 refine uOb func51 ntmps51 ?_;refine gz6 ?_;refine zl (zQ 9) ?_;refine gz2 ?_;refine dq (za (hs:=[_,_,_]) zu ty9 rfl rfl (by decide) (by decide) rfl) ?_;refine dq (zaw (f:=HVal.str) (l:=zfY) zu rfl) ?_;refine gz3 ?_;refine uV2 [3,1,5,5,11,1,15,97] (fun (k:Nat) (q:GL Play)=>[(15,.int .i64 k),(3,.raw q.u)]) (fun (k:Nat) (q:GL Play)=>[St b l q.a,.arr q.u 9 (q.out.map zav)]) (fun (k:Nat) (q:GL Play)=>k<=zfY.length/\(GLok zc1 (5*k) (a+130*k) q)) (fun (k:Nat) (q:GL Play)=>zfY.length-k) (0) (⟨.slice none 0 0,[],a⟩) ?_ ?_ ?_ ?_;exact ⟨by decide,⟨by simp,by simp,uD⟩⟩;exact ⟨rfl,rfl,trivial⟩;exact uP
 intro k q hinv
 obtain ⟨hk,hq⟩:=hinv;obtain ⟨u,out,a1⟩:=q;obtain ⟨g1,g2,g3⟩:=id hq;dsimp only at g1 g2 g3;have h3:zfY.length=3:=rfl;refine gz4 ?_;refine uCo (fun h1=> ?_) fun h2=> ?_
 obtain ⟨x,hx⟩: ∃x,zfY[k]? =some x:=⟨_,Aa h1⟩
 have hdx:=zt hx;refine gz5 ?_;refine dq (zK (f:=HVal.str) (l:=zfY) (j:=k) (a:=x) zu ty9 rfl rfl rfl hx) ?_;refine gz5 ?_;refine dq (za (hs:=[_,_]) zad ty3 rfl rfl (by decide) (by decide) rfl) ?_;refine de rfl (uCx 0 zaI rfl rfl (zf (L:=[_,_]) uSo uSa uSa) ?_)
 rintro _ _ ⟨y21,rfl,hy21,rfl⟩;refine gz5 ?_;refine de rfl (uCx 0 ca6 rfl rfl (zS uSo uO uO uO) ?_)
 rintro _ _ ⟨y23,rfl,hy23,rfl⟩;refine gz3 ?_;refine zpM (3::6::7::8::9::11::24::25::26::27::28::29::30::31::32::33::34::35::36::37::38::39::40::41::42::43::44::45::46::47::48::49::50::51::52::53::54::55::56::57::58::59::60::61::62::63::64::65::66::67::68::69::70::71::72::73::74::75::76::77::78::79::80::81::82::83::84::85::86::87::88::89::90::91::92::93::94::95::96::97::98::99::100::101::102::103::104::105::106::107::108::109::110::[]) (fun (n:Nat) (no:Int) (at1:Int) (q2:GL Play)=>[(24,.int .i64 (n:Int)),(6,.int .i64 no),(7,.int .i64 at1),(3,.raw q2.u)]) (fun (n:Nat) (no:Int) (at1:Int) (q2:GL Play)=>[St b l q2.a,.arr q2.u 9 (q2.out.map zav)]) (fun (n:Nat) (no:Int) (at1:Int) (q2:GL Play)=>(n:Int)<=y23/\(0<=no/\no<=2*n)/\(0<=at1/\at1<=5+40*n)/\GLok zc1 (5*k+n) (a1+2+25*n) q2) (fun (n:Nat) (no:Int) (at1:Int) (q2:GL Play)=>y23.toNat-n) (0) (0) (y21) (⟨u,out,a1+2⟩) ?_ ?_ ?_ ?_;exact ⟨by omega,⟨by omega,by omega⟩,⟨by simp at hy21;omega,by simp at hy21;omega⟩,⟨uD,g2,uD⟩⟩;exact ⟨rfl,rfl,rfl,rfl,trivial⟩;exact uP
 intro n no at1 q2 hinv
 obtain ⟨hn,hno,hat,hq2⟩:=hinv;obtain ⟨u,out,a2⟩:=q2;obtain ⟨g1,g2,g3⟩:=id hq2;dsimp only at g1 g2 g3;refine gz4 ?_;refine uCo (fun h3=> ?_) fun h4=> ?_
 refine gz7 ?_;refine dq (za (hs:=[_,_,_]) zad ty3 rfl rfl (by decide) (by decide) rfl) ?_;refine de rfl (uCx 0 zaI rfl rfl (zf (L:=[_,_,_]) uSo uSa uSa) ?_)
 rintro _ _ ⟨y29,rfl,hy29,rfl⟩;refine dq (zbf rfl rfl (by simp at hy29;omega) (by simp at hy29;omega)) ?_;refine gz4 ?_;refine de rfl (uCx 0 zhZ rfl rfl (zak uSo uO) ?_)
 rintro _ _ ⟨y32,rfl,hy32,rfl⟩;refine gz2 ?_;have hyb:1<=y29/\y29<=2:=by simp at hy29;omega
 refine uVj [9,1,33,21] (fun (q9:Nat×Play)=>[(9,pAt q9.1)]) (fun (q9:Nat×Play)=>[St b l (a2+5),.arr u 9 (out.map zav),.cells q9.1 (zd (zav q9.2))]) (fun (q9:Nat×Play)=>zc1 q9.2) ?_ ?_
 skip
 refine zmt mixed ?_;refine gz3 ?_;refine uB 3 rfl (za (hs:=[_,_,_]) zad ty3 rfl rfl (by decide) (by decide) rfl) ?_;refine gz1 ?_;refine uB 5 rfl (zK (f:=HVal.int .i64) (l:=zlc) (j:=y32) (a:=zlc.getD y32 0) zad ty3 rfl rfl rfl (getD_some (by simp [zlc];omega))) ?_;refine gz1 ?_;refine uB 7 rfl (za (hs:=[_,_,_]) zu ty9 rfl rfl (by decide) (by decide) rfl) ?_;refine gz1 ?_;refine uB 9 rfl (zK (f:=HVal.str) (l:=zeX) (j:=y32) (a:=zeX.getD y32 []) zu ty9 rfl rfl rfl (getD_some (by simp [zeX];omega))) ?_;refine gz2 ?_;refine uB 12 rfl (za (hs:=[_,_,_]) zu ty9 rfl rfl (by decide) (by decide) rfl) ?_;refine uA 14 ?_;refine uB 15 rfl (za (hs:=[_,_,_,_]) zu ty9 rfl rfl (by decide) (by decide) rfl) ?_;refine uA 17 ?_;refine uB 18 rfl (za (hs:=[_,_,_,_,_]) zad ty3 rfl rfl (by decide) (by decide) rfl) ?_;refine zhV 13 21 rfl rfl (by kernel_rfl) ?_ ?_
 skip
 refine zA rfl (uCx 0 ca7 rfl rfl (zp (L:=[_,_,_]) uSo uSa uSa) ?_)
 rintro _ _ ⟨y46,rfl,hy46,rfl⟩;refine ⟨uE,?_⟩
 refine zhV 16 21 rfl rfl (by kernel_rfl) ?_ ?_
 skip
 refine zA rfl (uCx 0 ca7 rfl rfl (zp (L:=[_,_,_,_]) uSo uSa uSa) ?_)
 rintro _ _ ⟨y49,rfl,hy49,rfl⟩;refine ⟨uE,?_⟩
 refine zhV 19 21 rfl rfl (by kernel_rfl) ?_ ?_
 skip
 refine zA rfl (uCx 0 zaI rfl rfl (zf (L:=[_,_,_,_,_]) uSo uSa uSa) ?_)
 rintro _ _ ⟨y52,rfl,hy52,rfl⟩;refine ⟨uE,?_⟩
 refine uB 20 rfl (zO (cs:=[_,_,_,_,_,_,_,_,_]) zdP ztA rfl) ?_;refine uF 21 ?_;refine zA rfl (zq zdP rfl fun b9=> ?_)
 refine ⟨uE,?_⟩
 refine uF 22 ?_;refine zT (uY 0 ?_)
 refine ⟨uE,?_⟩
 refine uAz ?_;refine ⟨(b9,(⟨x,no+y29,at1,zlc.getD y32 0,zeX.getD y32 [],y46,y49,y52,0⟩:Play)),?_,⟨rfl,trivial⟩,uK,?_⟩
 exact ⟨zkm x (Ac hx),zjr y32,by simp at hy46;rcases hy46 with rfl|rfl|rfl<;>(unfold Sh;simp),by simp at hy49;rcases hy49 with rfl|rfl|rfl<;>(unfold Sh;simp)⟩;exact uP
 skip
 refine zA rfl (zq zdP rfl fun b9=> ?_)
 refine ⟨uE,?_⟩
 refine uF 19 ?_;refine zA rfl (uCx 1 zaI rfl rfl (zf (L:=[_,_,_,_,_]) uSo uSa uSa) ?_)
 rintro _ _ ⟨y52,rfl,hy52,rfl⟩;refine ⟨uE,?_⟩
 refine uB 20 rfl (zO (cs:=[_,_,_,_,_,_,_,_,_]) zdP ztA rfl) ?_;refine uF 22 ?_;refine zT (uY 1 ?_)
 refine ⟨uE,?_⟩
 refine uAz ?_;refine ⟨(b9,(⟨x,no+y29,at1,zlc.getD y32 0,zeX.getD y32 [],y46,y49,y52,0⟩:Play)),?_,⟨rfl,trivial⟩,uK,?_⟩
 exact ⟨zkm x (Ac hx),zjr y32,by simp at hy46;rcases hy46 with rfl|rfl|rfl<;>(unfold Sh;simp),by simp at hy49;rcases hy49 with rfl|rfl|rfl<;>(unfold Sh;simp)⟩;exact uP
 skip
 refine zA rfl (zq zdP rfl fun b9=> ?_)
 refine ⟨uE,?_⟩
 refine uF 16 ?_;refine zA rfl (uCx 1 ca7 rfl rfl (zp (L:=[_,_,_,_]) uSo uSa uSa) ?_)
 rintro _ _ ⟨y49,rfl,hy49,rfl⟩;refine ⟨uE,?_⟩
 refine uF 19 ?_;refine zA rfl (uCx 0 zaI rfl rfl (zf (L:=[_,_,_,_,_]) uSo uSa uSa) ?_)
 rintro _ _ ⟨y52,rfl,hy52,rfl⟩;refine ⟨uE,?_⟩
 refine uB 20 rfl (zO (cs:=[_,_,_,_,_,_,_,_,_]) zdP ztA rfl) ?_;refine uF 22 ?_;refine zT (uY 1 ?_)
 refine ⟨uE,?_⟩
 refine uAz ?_;refine ⟨(b9,(⟨x,no+y29,at1,zlc.getD y32 0,zeX.getD y32 [],y46,y49,y52,0⟩:Play)),?_,⟨rfl,trivial⟩,uK,?_⟩
 exact ⟨zkm x (Ac hx),zjr y32,by simp at hy46;rcases hy46 with rfl|rfl|rfl<;>(unfold Sh;simp),by simp at hy49;rcases hy49 with rfl|rfl|rfl<;>(unfold Sh;simp)⟩;exact uP
 skip
 refine zA rfl (zq zdP rfl fun b9=> ?_)
 refine ⟨uE,?_⟩
 refine uF 13 ?_;refine zA rfl (uCx 1 ca7 rfl rfl (zp (L:=[_,_,_]) uSo uSa uSa) ?_)
 rintro _ _ ⟨y46,rfl,hy46,rfl⟩;refine ⟨uE,?_⟩
 refine uF 16 ?_;refine zA rfl (uCx 0 ca7 rfl rfl (zp (L:=[_,_,_,_]) uSo uSa uSa) ?_)
 rintro _ _ ⟨y49,rfl,hy49,rfl⟩;refine ⟨uE,?_⟩
 refine uF 19 ?_;refine zA rfl (uCx 0 zaI rfl rfl (zf (L:=[_,_,_,_,_]) uSo uSa uSa) ?_)
 rintro _ _ ⟨y52,rfl,hy52,rfl⟩;refine ⟨uE,?_⟩
 refine uB 20 rfl (zO (cs:=[_,_,_,_,_,_,_,_,_]) zdP ztA rfl) ?_;refine uF 22 ?_;refine zT (uY 1 ?_)
 refine ⟨uE,?_⟩
 refine uAz ?_;refine ⟨(b9,(⟨x,no+y29,at1,zlc.getD y32 0,zeX.getD y32 [],y46,y49,y52,0⟩:Play)),?_,⟨rfl,trivial⟩,uK,?_⟩
 exact ⟨zkm x (Ac hx),zjr y32,by simp at hy46;rcases hy46 with rfl|rfl|rfl<;>(unfold Sh;simp),by simp at hy49;rcases hy49 with rfl|rfl|rfl<;>(unfold Sh;simp)⟩;exact uP
 intro q9 hq9
 obtain ⟨b9,x9⟩:=q9;dsimp only at hq9;refine uVj [11,1,54,47] (fun (q4:Play×Nat)=>[]) (fun (q4:Play×Nat)=>[St b l q4.2,.arr u 9 (out.map zav),.cells b9 (zd (zav q4.1))]) (fun (q4:Play×Nat)=>zc1 q4.1/\q4.2<=a2+22) ?_ ?_
 skip
 refine gz5 ?_;refine dgx (fun x M'=> ∃(y:Bool) (a3:Nat),x= .bool y/\a3<=(a2+5)+1/\M'=[St b l a3,.arr u 9 (out.map zav),.cells b9 (zd (zav x9))]) rfl rfl (fun hc=>⟨_,false,(a2+5),rfl,by omega,rfl⟩) (fun hc=>⟨_,OpenTo.upd (t:=57) rfl (hc) (OpenTo.refl _),uCx 0 zeb rfl rfl (zI (a:=(a2+5)) uO uO) (fun h M' hh=>by
  obtain ⟨y,h1,h2⟩:=hh;exact ⟨y,(a2+5)+1,h1,by omega,by rw [h2];rfl⟩)⟩) ?_
 rintro _ _ ⟨y10,a310,rfl,ha310,rfl⟩;refine gz2 ?_;refine uCo (fun h5=> ?_) fun h6=> ?_
 refine gz4 ?_;refine de rfl (uCx 0 ca6 rfl rfl (zS uO uO uO uO) ?_)
 rintro _ _ ⟨y63,rfl,hy63,rfl⟩;refine gz1 ?_;refine de0 (uY 2 ?_)
 refine gz1 ?_;refine de0 (uY 2 ?_)
 refine gz1 ?_;obtain ⟨s9,n9,t9,w9,m9,p9,st9,c9,u9⟩:=x9;refine zl (Ghost.perm (M':=[St b l (a310+1),.arr u 9 (out.map zav),.cells b9 (zd (zav ⟨s9,n9,t9,w9,m9,p9,st9,0,y63⟩))]) uP) ?_;refine gz2 ?_;refine de rfl (za6 (i:=1) (es:=out) zi1 rfl rfl ?_)
 refine gz3 ?_;refine uV2 [11,1,68,33] (fun (j:Nat) (q3:Play×Nat)=>[(68,.int .i64 j)]) (fun (j:Nat) (q3:Play×Nat)=>[St b l q3.2,.arr u 9 (out.map zav),.cells b9 (zd (zav q3.1))]) (fun (j:Nat) (q3:Play×Nat)=>j<=out.length/\(zc1 q3.1/\q3.2<=a310+1+j)) (fun (j:Nat) (q3:Play×Nat)=>out.length-j) (0) ((⟨s9,n9,t9,w9,m9,p9,st9,0,y63⟩,a310+1)) ?_ ?_ ?_ ?_;exact ⟨Ad _,hq9,uD⟩;exact ⟨rfl,trivial⟩;exact uP
 intro j q3 hinv
 obtain ⟨hj,hq3⟩:=hinv;obtain ⟨⟨s3,n3,t3,w3,m3,p3,st3,c3,u3⟩,a4⟩:=q3;obtain ⟨hs3,ha4⟩:=hq3;dsimp only at hs3 ha4;refine gz4 ?_;refine uCo (fun h7=> ?_) fun h8=> ?_
 obtain ⟨z,hz⟩: ∃z,out[j]? =some z:=⟨_,Aa h7⟩
 have hdz:=zt hz;have hgz:=g2 z (Ac hz);refine zc4 (i:=1) rfl (fun h0 he=> ?_) (fun ob off cap hv hcap=> ?_)
 exfalso;have:=congrArg List.length he;simp at this;subst this;simp at hz
 subst hv;refine gz5 ?_;refine dq (zM (j:=j) zi1 zdP rfl rfl rfl uSo) ?_;refine de rfl (zao (i:=1) (j:=j) (f:=zav) (es:=out) zdP rfl rfl rfl hz rfl rfl rfl ?_)
 refine de rfl (zq zdP rfl fun b11=> ?_)
 refine de0 (zz zdP rfl rfl rfl rfl rfl ?_)
 refine gz1 ?_;refine zl (zD 11 rfl) ?_;refine gz9 ?_;refine dgl rfl rfl (fun hc=>⟨_,OpenTo.upd (t:=79) rfl (hc) (OpenTo.refl _),zV (i:=2) ty3 rfl rfl (.inl ⟨rfl,rfl⟩) ⟨rfl,rfl⟩⟩) ?_;refine gz4 ?_;refine dgx (fun x M'=> ∃(y:Bool) (a3:Nat),x= .bool y/\a3<=a4+1/\M'=[St b l a3,.arr (.slice (some ⟨ob,off,none⟩) (out.map zav).length cap) 9 (out.map zav),.cells b9 (zd (zav ⟨s3,n3,t3,w3,m3,p3,st3,c3,u3⟩))]) rfl rfl (fun hc=>⟨_,false,a4,rfl,by omega,rfl⟩) (fun hc=>⟨_,OpenTo.upd (t:=84) rfl (hc) (OpenTo.refl _),uCx 0 zeb rfl rfl (zI (a:=a4) uO uO) (fun h M' hh=>by
  obtain ⟨y,h1,h2⟩:=hh;exact ⟨y,a4+1,h1,by omega,by rw [h2];rfl⟩)⟩) ?_
 rintro _ _ ⟨y6,a36,rfl,ha36,rfl⟩;refine gz3 ?_;refine uCo (fun h9=> ?_) fun h10=> ?_
 refine zmt mixed ?_;refine gz9 ?_;refine uF 9 ?_;refine zT (uY 2 ?_)
 refine ⟨uE,?_⟩
 refine gz1 ?_;refine uF 11 ?_;refine zT (uY 2 ?_)
 refine ⟨uE,?_⟩
 refine gz1 ?_;refine uF 13 ?_;refine zT (uY 2 ?_)
 refine ⟨uE,?_⟩
 refine gz1 ?_;refine uF 15 ?_;refine zT (uY 2 ?_)
 refine ⟨uE,?_⟩
 refine gz7 ?_;exact ⟨j+1,(⟨s3,n3,t3,z.Week,z.Match,z.Player,z.Stat,c3,u3⟩,a36),⟨by omega,⟨hs3.1,hgz.2.1,hgz.2.2.1,hgz.2.2.2⟩,uD⟩,uD,⟨rfl,trivial⟩,uK,uP⟩;refine gz7 ?_;exact ⟨j+1,(⟨s3,n3,t3,w3,m3,p3,st3,c3,u3⟩,a36),⟨by omega,hs3,uD⟩,uD,⟨rfl,trivial⟩,uK,uP⟩;have hnj:out.length<=j:=by omega
 obtain rfl:j=out.length:=by omega
 refine gz2 ?_;refine zY ?_;refine gz1 ?_;exact ⟨(⟨s3,n3,t3,w3,m3,p3,st3,c3,u3⟩,a4),⟨hs3,uD⟩,trivial,uK,uP⟩;refine gz1 ?_;exact ⟨(x9,a310),⟨hq9,uD⟩,trivial,uK,uP⟩
 intro q4 hq4
 obtain ⟨x5,a5⟩:=q4;obtain ⟨hx5,ha5⟩:=hq4;dsimp only at hx5 ha5;refine zl (zbi 9 (i:=2) rfl rfl) ?_;refine gz3 ?_;refine dq (za (hs:=[_]) zi1 zdP rfl rfl (by decide) (by decide) rfl) ?_;refine de rfl (zN (i:=1) zi1 zdP rfl rfl rfl rfl rfl (by simp [zal,zd]) uSo fun v104=> ?_)
 refine gz5 ?_;refine dq (za (hs:=[_,_,_,_]) zad ty3 rfl rfl (by decide) (by decide) rfl) ?_;refine de rfl (uCx 0 zaI rfl rfl (zf (L:=[_,_,_,_]) uO uSa uSa) ?_)
 rintro _ _ ⟨y108,rfl,hy108,rfl⟩;refine dq (zbf rfl rfl (by simp at hy108;omega) (by simp at hy108;omega)) ?_;refine gz8 ?_;exact ⟨n+1,no+y29,at1+y108,⟨v104,out++[x5],a5+1⟩,⟨by omega,⟨by simp at hy29;omega,by simp at hy29;omega⟩,⟨by simp at hy108;omega,by simp at hy108;omega⟩,hq2.add (x:=x5) hx5 uO⟩,uD,⟨rfl,rfl,rfl,rfl,trivial⟩,uK,uP⟩;refine gz2 ?_;refine zrp ?_;refine gz7 ?_;exact ⟨k+1,⟨u,out,a2⟩,⟨by omega,⟨uD,g2,uD⟩⟩,uD,⟨rfl,rfl,trivial⟩,uK,uP⟩;have hnk:zfY.length<=k:=by omega
 obtain rfl:k=zfY.length:=by omega
 refine gz2 ?_;refine zY ?_;refine gz2 ?_;refine uVj [12,1,112,111] (fun (q5:List Play×Nat)=>[]) (fun (q5:List Play×Nat)=>[St b l q5.2,.arr u 9 (q5.1.map zav)]) (fun (q5:List Play×Nat)=>q5.1.length<=15/\(∀x∈q5.1,zc1 x)/\q5.2<=a+500) ?_ ?_
 skip
 refine gz2 ?_;refine de rfl (za6 (i:=1) zi1 rfl rfl ?_)
 refine gz3 ?_;refine dgx (fun x M'=> ∃(y:Bool) (a3:Nat),x= .bool y/\a3<=a1+1/\M'=[St b l a3,.arr u 9 (out.map zav)]) rfl rfl (fun hc=>⟨_,false,a1,rfl,by omega,rfl⟩) (fun hc=>⟨_,OpenTo.upd (t:=116) rfl (hc) (OpenTo.refl _),uCx 0 zeb rfl rfl (zI (a:=a1) uO uO) (fun h M' hh=>by
  obtain ⟨y,h1,h2⟩:=hh;exact ⟨y,a1+1,h1,by omega,by rw [h2];rfl⟩)⟩) ?_
 rintro _ _ ⟨y,a3,rfl,ha3,rfl⟩;refine gz2 ?_;refine uCo (fun h11=> ?_) fun h12=> ?_
 have ho0:0<out.length:=by simp_all
 refine zc4 (i:=1) rfl (fun h0 he=> ?_) (fun ob off cap hv hcap=> ?_)
 exfalso;have:=congrArg List.length he;simp at this;subst this;simp at ho0
 subst hv;refine gz4 ?_;refine de rfl (za6 (i:=1) zi1 rfl rfl ?_)
 refine de rfl (uCx 0 zhZ rfl rfl (zak uO uO) ?_)
 rintro _ _ ⟨y123,rfl,hy123,rfl⟩;refine dq (zM (j:=y123) zi1 zdP rfl rfl rfl uSo) ?_;refine gz2 ?_;obtain ⟨x,hx⟩: ∃x,out[y123]? =some x:=⟨_,Aa uO⟩
 refine gz2 ?_;refine de rfl (uCx 0 zhZ rfl rfl (zak uO uO) ?_)
 rintro _ _ ⟨y126,rfl,hy126,rfl⟩;refine gz6 ?_;refine uCo (fun h13=> ?_) fun h14=> ?_
 refine zba (fun M=> ∃i:Nat,M[i]? =some (.arr (.slice (some ⟨ob,off,none⟩) (out.map zav).length cap) 9 (out.map zav))) [6,13] mixed ?_;refine gz6 ?_;refine uM 6 rfl ⟨1,rfl⟩ (fun M hM=>by obtain ⟨i,hi⟩:=hM;exact zax (i:=i) (j:=y123) 0 ty9 rfl uO hi hx rfl rfl ⟨rfl,rfl⟩) ?_;refine uB 7 rfl (za (hs:=[_,_,_]) zu ty9 rfl rfl (by decide) (by decide) rfl) ?_;refine uA 9 ?_;refine gz3 ?_;refine uM 13 rfl ⟨1,rfl⟩ (fun M hM=>by obtain ⟨i,hi⟩:=hM;exact zax (i:=i) (j:=y123) 1 ty3 rfl uO hi hx rfl rfl ⟨rfl,rfl⟩) ?_;refine uB 14 rfl (za (hs:=[_,_,_,_]) zad ty3 rfl rfl (by decide) (by decide) rfl) ?_;refine uF 8 ?_;refine zA rfl (uCx 0 ca7 rfl rfl (zp (L:=[_,_,_]) uO uSa uSa) ?_)
 rintro _ _ ⟨y167,rfl,hy167,rfl⟩;refine ⟨uE,?_⟩
 refine uF 15 ?_;refine zA rfl (uCx 0 zaI rfl rfl (zf (L:=[_,_,_,_]) uO uSa uSa) ?_)
 rintro _ _ ⟨y174,rfl,hy174,rfl⟩;refine ⟨uE,?_⟩
 refine gz2 ?_;refine uF 18 ?_;refine zT (zac (i:=1) (j:=y123) (f:=0) (y:=zav x) (y':=zav ⟨y167,x.No,x.At,x.Week,x.Match,x.Player,x.Stat,x.Count,x.Undo⟩) ty9 rfl uO rfl rfl (zbl hx) rfl rfl (by simp [zd]) rfl ?_)
 refine ⟨uE,?_⟩
 refine gz2 ?_;refine uF 21 ?_;refine zT (zac (i:=1) (j:=y123) (f:=1) (y:=zav ⟨y167,x.No,x.At,x.Week,x.Match,x.Player,x.Stat,x.Count,x.Undo⟩) (y':=zav ⟨y167,y174,x.At,x.Week,x.Match,x.Player,x.Stat,x.Count,x.Undo⟩) ty3 rfl uO rfl rfl (zaL (zbl hx)) rfl rfl (by simp [zd]) rfl ?_)
 refine ⟨uE,?_⟩
 refine gz2 ?_;exact ⟨(out.set y123 ⟨y167,y174,x.At,x.Week,x.Match,x.Player,x.Stat,x.Count,x.Undo⟩,a3+4),⟨by simp;omega,ze2 (P:=zc1) g2 (by
  have hgx:=g2 x (Ac hx);exact ⟨by simp at hy167;rcases hy167 with rfl|rfl|rfl;exact hgx.1;exact zos;(unfold Sh;simp),hgx.2.1,hgx.2.2.1,hgx.2.2.2⟩),uD⟩,trivial,uK,uP⟩
 refine gz4 ?_;refine uCo (fun h15=> ?_) fun h16=> ?_
 refine zba (fun M=> ∃i:Nat,M[i]? =some (.arr (.slice (some ⟨ob,off,none⟩) (out.map zav).length cap) 9 (out.map zav))) [6,13] mixed ?_;refine gz6 ?_;refine uM 6 rfl ⟨1,rfl⟩ (fun M hM=>by obtain ⟨i,hi⟩:=hM;exact zax (i:=i) (j:=y123) 3 ty3 rfl uO hi hx rfl rfl ⟨rfl,rfl⟩) ?_;refine uB 7 rfl (za (hs:=[_,_,_]) zad ty3 rfl rfl (by decide) (by decide) rfl) ?_;refine uA 9 ?_;refine gz3 ?_;refine uM 13 rfl ⟨1,rfl⟩ (fun M hM=>by obtain ⟨i,hi⟩:=hM;exact zax (i:=i) (j:=y123) 4 ty9 rfl uO hi hx rfl rfl ⟨rfl,rfl⟩) ?_;refine uB 14 rfl (za (hs:=[_,_]) zu ty9 rfl rfl (by decide) (by decide) rfl) ?_;refine uF 8 ?_;refine zA rfl (uCx 0 zaI rfl rfl (zf (L:=[_,_,_]) uO uSa uSa) ?_)
 rintro _ _ ⟨y189,rfl,hy189,rfl⟩;refine ⟨uE,?_⟩
 refine uF 15 ?_;refine zA rfl (uCx 0 ca7 rfl rfl (zp (L:=[_,_]) uO uSa uSa) ?_)
 rintro _ _ ⟨y196,rfl,hy196,rfl⟩;refine ⟨uE,?_⟩
 refine gz2 ?_;refine uF 18 ?_;refine zT (zac (i:=1) (j:=y123) (f:=3) (y:=zav x) (y':=zav ⟨x.Source,x.No,x.At,y189,x.Match,x.Player,x.Stat,x.Count,x.Undo⟩) ty3 rfl uO rfl rfl (zbl hx) rfl rfl (by simp [zd]) rfl ?_)
 refine ⟨uE,?_⟩
 refine gz2 ?_;refine uF 21 ?_;refine zT (zac (i:=1) (j:=y123) (f:=4) (y:=zav ⟨x.Source,x.No,x.At,y189,x.Match,x.Player,x.Stat,x.Count,x.Undo⟩) (y':=zav ⟨x.Source,x.No,x.At,y189,y196,x.Player,x.Stat,x.Count,x.Undo⟩) ty9 rfl uO rfl rfl (zaL (zbl hx)) rfl rfl (by simp [zd]) rfl ?_)
 refine ⟨uE,?_⟩
 refine gz2 ?_;exact ⟨(out.set y123 ⟨x.Source,x.No,x.At,y189,y196,x.Player,x.Stat,x.Count,x.Undo⟩,a3+4),⟨by simp;omega,ze2 (P:=zc1) g2 (by
  have hgx:=g2 x (Ac hx);exact ⟨hgx.1,by simp at hy196;rcases hy196 with rfl|rfl;exact hgx.2.1;exact zos,hgx.2.2.1,hgx.2.2.2⟩),uD⟩,trivial,uK,uP⟩
 refine gz4 ?_;refine uCo (fun h17=> ?_) fun h18=> ?_
 refine zba (fun M=> ∃i:Nat,M[i]? =some (.arr (.slice (some ⟨ob,off,none⟩) (out.map zav).length cap) 9 (out.map zav))) [6,13] mixed ?_;refine gz6 ?_;refine uM 6 rfl ⟨1,rfl⟩ (fun M hM=>by obtain ⟨i,hi⟩:=hM;exact zax (i:=i) (j:=y123) 7 ty3 rfl uO hi hx rfl rfl ⟨rfl,rfl⟩) ?_;refine uB 7 rfl (za (hs:=[_,_,_]) zad ty3 rfl rfl (by decide) (by decide) rfl) ?_;refine uA 9 ?_;refine gz3 ?_;refine uM 13 rfl ⟨1,rfl⟩ (fun M hM=>by obtain ⟨i,hi⟩:=hM;exact zax (i:=i) (j:=y123) 8 ty3 rfl uO hi hx rfl rfl ⟨rfl,rfl⟩) ?_;refine uB 14 rfl (za (hs:=[_,_,_]) zad ty3 rfl rfl (by decide) (by decide) rfl) ?_;refine uF 8 ?_;refine zA rfl (uCx 0 zaI rfl rfl (zf (L:=[_,_,_]) uO uSa uSa) ?_)
 rintro _ _ ⟨y211,rfl,hy211,rfl⟩;refine ⟨uE,?_⟩
 refine uF 15 ?_;refine zA rfl (uCx 0 zaI rfl rfl (zf (L:=[_,_,_]) uO uSa uSa) ?_)
 rintro _ _ ⟨y218,rfl,hy218,rfl⟩;refine ⟨uE,?_⟩
 refine gz2 ?_;refine uF 18 ?_;refine zT (zac (i:=1) (j:=y123) (f:=7) (y:=zav x) (y':=zav ⟨x.Source,x.No,x.At,x.Week,x.Match,x.Player,x.Stat,y211,x.Undo⟩) ty3 rfl uO rfl rfl (zbl hx) rfl rfl (by simp [zd]) rfl ?_)
 refine ⟨uE,?_⟩
 refine gz2 ?_;refine uF 21 ?_;refine zT (zac (i:=1) (j:=y123) (f:=8) (y:=zav ⟨x.Source,x.No,x.At,x.Week,x.Match,x.Player,x.Stat,y211,x.Undo⟩) (y':=zav ⟨x.Source,x.No,x.At,x.Week,x.Match,x.Player,x.Stat,y211,y218⟩) ty3 rfl uO rfl rfl (zaL (zbl hx)) rfl rfl (by simp [zd]) rfl ?_)
 refine ⟨uE,?_⟩
 refine gz2 ?_;exact ⟨(out.set y123 ⟨x.Source,x.No,x.At,x.Week,x.Match,x.Player,x.Stat,y211,y218⟩,a3+4),⟨by simp;omega,ze2 (P:=zc1) g2 (by
  have hgx:=g2 x (Ac hx);exact ⟨hgx.1,hgx.2.1,hgx.2.2.1,hgx.2.2.2⟩),uD⟩,trivial,uK,uP⟩
 refine zba (fun M=> ∃i:Nat,M[i]? =some (.arr (.slice (some ⟨ob,off,none⟩) (out.map zav).length cap) 9 (out.map zav))) [7,14,21] mixed ?_;refine gz7 ?_;refine uM 7 rfl ⟨1,rfl⟩ (fun M hM=>by obtain ⟨i,hi⟩:=hM;exact zax (i:=i) (j:=y123) 5 ty9 rfl uO hi hx rfl rfl ⟨rfl,rfl⟩) ?_;refine uB 8 rfl (za (hs:=[_,_]) zu ty9 rfl rfl (by decide) (by decide) rfl) ?_;refine uA 10 ?_;refine gz3 ?_;refine uM 14 rfl ⟨1,rfl⟩ (fun M hM=>by obtain ⟨i,hi⟩:=hM;exact zax (i:=i) (j:=y123) 6 ty9 rfl uO hi hx rfl rfl ⟨rfl,rfl⟩) ?_;refine uB 15 rfl (za (hs:=[_,_]) zu ty9 rfl rfl (by decide) (by decide) rfl) ?_;refine uA 17 ?_;refine gz3 ?_;refine uM 21 rfl ⟨1,rfl⟩ (fun M hM=>by obtain ⟨i,hi⟩:=hM;exact zax (i:=i) (j:=y123) 2 ty3 rfl uO hi hx rfl rfl ⟨rfl,rfl⟩) ?_;refine uB 22 rfl (za (hs:=[_,_]) zad ty3 rfl rfl (by decide) (by decide) rfl) ?_;refine uF 9 ?_;refine zA rfl (uCx 0 ca7 rfl rfl (zp (L:=[_,_]) uO uSa uSa) ?_)
 rintro _ _ ⟨y136,rfl,hy136,rfl⟩;refine ⟨uE,?_⟩
 refine uF 16 ?_;refine zA rfl (uCx 0 ca7 rfl rfl (zp (L:=[_,_]) uO uSa uSa) ?_)
 rintro _ _ ⟨y143,rfl,hy143,rfl⟩;refine ⟨uE,?_⟩
 refine uF 23 ?_;refine zA rfl (uCx 0 zaI rfl rfl (zf (L:=[_,_]) uO uSa uSa) ?_)
 rintro _ _ ⟨y150,rfl,hy150,rfl⟩;refine ⟨uE,?_⟩
 refine gz2 ?_;refine uF 26 ?_;refine zT (zac (i:=1) (j:=y123) (f:=5) (y:=zav x) (y':=zav ⟨x.Source,x.No,x.At,x.Week,x.Match,y136,x.Stat,x.Count,x.Undo⟩) ty9 rfl uO rfl rfl (zbl hx) rfl rfl (by simp [zd]) rfl ?_)
 refine ⟨uE,?_⟩
 refine gz2 ?_;refine uF 29 ?_;refine zT (zac (i:=1) (j:=y123) (f:=6) (y:=zav ⟨x.Source,x.No,x.At,x.Week,x.Match,y136,x.Stat,x.Count,x.Undo⟩) (y':=zav ⟨x.Source,x.No,x.At,x.Week,x.Match,y136,y143,x.Count,x.Undo⟩) ty9 rfl uO rfl rfl (zaL (zbl hx)) rfl rfl (by simp [zd]) rfl ?_)
 refine ⟨uE,?_⟩
 refine gz2 ?_;refine uF 32 ?_;refine zT (zac (i:=1) (j:=y123) (f:=2) (y:=zav ⟨x.Source,x.No,x.At,x.Week,x.Match,y136,y143,x.Count,x.Undo⟩) (y':=zav ⟨x.Source,x.No,y150,x.Week,x.Match,y136,y143,x.Count,x.Undo⟩) ty3 rfl uO rfl rfl (zaL (zaL (zbl hx))) rfl rfl (by simp [zd]) rfl ?_)
 refine ⟨uE,?_⟩
 refine gz2 ?_;exact ⟨(out.set y123 ⟨x.Source,x.No,y150,x.Week,x.Match,y136,y143,x.Count,x.Undo⟩,a3+5),⟨by simp;omega,ze2 (P:=zc1) g2 (by
  have hgx:=g2 x (Ac hx);exact ⟨hgx.1,hgx.2.1,by simp at hy136;rcases hy136 with rfl|rfl;exact hgx.2.2.1;(unfold Sh;simp),by simp at hy143;rcases hy143 with rfl|rfl;exact hgx.2.2.2;exact zos⟩),uD⟩,trivial,uK,uP⟩
 refine gz1 ?_;exact ⟨(out,a3),⟨uD,g2,uD⟩,trivial,uK,uP⟩
 intro q5 hq5
 obtain ⟨k1,a4⟩:=q5;dsimp only at hq5;obtain ⟨q1,q2,q3⟩:=hq5;refine gz5 ?_;exact zB (zap 2 (i:=1) rfl rfl) rfl ⟨k1,a4,rfl,⟨by omega,q2⟩,by omega,rfl⟩
end
section
open Go.Proofs.Tryz
open Go.HL
theorem zds [Tracks] {b:Nat} {l:List Int} {a:Nat} (ha:a<=800000):Con prog 184 [pAt b] [St b l a] (fun x M'=> ∃t a',x=eSs t/\t.length<=4/\a'<=a+5/\M'=[St b l a']):=by
 refine uOb func184 ntmps184 ?_;refine gz6 ?_;refine zl (zQ 1) ?_;refine gz2 ?_;refine dq (za (hs:=[_,_,_,_]) zu ty9 rfl rfl (by decide) (by decide) rfl) ?_;refine dq (zaw (f:=HVal.str) (l:=sp4) zu rfl) ?_;refine gz3 ?_;refine uV2 [3,1,5,1,8,11] (fun (k:Nat) (q:GL Str)=>[(8,.int .i64 k),(3,.raw q.u)]) (fun (k:Nat) (q:GL Str)=>[St b l q.a,.arr q.u 1 (q.out.map HVal.str)]) (fun (k:Nat) (q:GL Str)=>k<=sp4.length/\(GLok (fun _=>True) (k) (a+k) q)) (fun (k:Nat) (q:GL Str)=>sp4.length-k) (0) (⟨.slice none 0 0,[],a⟩) ?_ ?_ ?_ ?_
 ·exact ⟨Ad _,⟨by simp,by simp,uD⟩⟩
 ·exact ⟨rfl,rfl,trivial⟩
 ·exact uP
 ·intro k q hinv
  obtain ⟨hk,hq⟩:=hinv;have hlen:sp4.length=4:=rfl;obtain ⟨u,out,a2⟩:=q;obtain ⟨g1,g2,g3⟩:=id hq;dsimp only at g1 g2 g3;refine gz4 ?_;refine uCo (fun h1=> ?_) fun h2=> ?_
  ·obtain ⟨x,hx⟩: ∃x,sp4[k]? =some x:=⟨_,Aa h1⟩
   have hdx:=zt hx;refine gz5 ?_;refine dq (zK (f:=HVal.str) (l:=sp4) (j:=k) (a:=x) zu ty9 rfl rfl rfl hx) ?_;refine gz5 ?_;refine de rfl (uCx 0 zeb rfl rfl (zI uS uS) ?_)
   rintro _ _ ⟨y13,rfl,rfl⟩;refine gz1 ?_;refine uCo (fun h3=> ?_) fun h4=> ?_
   ·refine gz3 ?_;refine dq (za (hs:=[_]) zu ty9 rfl rfl (by decide) (by decide) rfl) ?_;refine de rfl (zN (i:=1) zu ty9 rfl rfl rfl rfl rfl (by simp [zal,zd,zaR,za8]) uSo fun v17=> ?_)
    refine gz8 ?_;exact ⟨k+1,⟨v17,out++[x],a2+1⟩,⟨by omega,hq.add (x:=x) trivial uO⟩,uD,⟨rfl,rfl,trivial⟩,uK,zg (by dsimp only;first|rfl|(rw [Ay];rfl))⟩
   ·refine gz7 ?_;exact ⟨k+1,⟨u,out,a2+1⟩,⟨by omega,hq.same uO⟩,uD,⟨rfl,rfl,trivial⟩,uK,zg (by dsimp only;first|rfl|(rw [Ay];rfl))⟩
  ·have hnk:sp4.length<=k:=by omega
   obtain rfl:k=sp4.length:=by omega
   refine gz2 ?_;refine zY ?_;refine gz5 ?_;refine de rfl (za6 (i:=1) zu rfl rfl ?_)
   refine gz2 ?_;refine uCo (fun h5=> ?_) fun h6=> ?_
   ·refine gz2 ?_;refine dq (za (hs:=[_,_,_]) zu ty9 rfl rfl (by decide) (by decide) rfl) ?_;refine de rfl (uCx 0 ca7 rfl rfl (zp (L:=[_,_,_]) uS uS uS) ?_)
    rintro _ _ ⟨y24,rfl,hy24,rfl⟩;refine dq (za (hs:=[_]) zu ty9 rfl rfl (by decide) (by decide) rfl) ?_;refine gz3 ?_;exact zB ((zcI (M':=[St b l (a2+1),.arr u 1 (out.map HVal.str)]) rfl).trans ((Ghost.perm (List.Perm.swap _ _ _)).trans Ghost.drop)) rfl ⟨[y24],_,rfl,by simp,by omega,rfl⟩
   ·refine gz7 ?_;exact zB (zap 2 (i:=1) rfl rfl) rfl ⟨out,a2,rfl,by omega,by omega,rfl⟩
theorem zdH [Tracks] {b:Nat} {l:List Int} {a:Nat} (ha:a<=700000):Con prog 103 [pAt b] [St b l a] (fun x M'=> ∃k a',x=zaC k/\GoodPys k/\a'<=a+40/\M'=[St b l a']):=by
 refine uOb func103 ntmps103 ?_;refine gz6 ?_;refine zl (zQ 3) ?_;refine gz2 ?_;refine dq (za (hs:=[_,_,_,_,_]) zu ty9 rfl rfl (by decide) (by decide) rfl) ?_;refine dq (zaw (f:=HVal.str) (l:=nm5) zu rfl) ?_;refine gz3 ?_;refine uV2 [3,1,5,1,8,17] (fun (k:Nat) (q:GL PlayerS)=>[(8,.int .i64 k),(3,.raw q.u)]) (fun (k:Nat) (q:GL PlayerS)=>[St b l q.a,.arr q.u 3 (q.out.map zcE)]) (fun (k:Nat) (q:GL PlayerS)=>k<=nm5.length/\(GLok (GoodPy) (k) (a+8*k) q)) (fun (k:Nat) (q:GL PlayerS)=>nm5.length-k) (0) (⟨.slice none 0 0,[],a⟩) ?_ ?_ ?_ ?_;exact ⟨Ad _,⟨by simp,by simp,uD⟩⟩;exact ⟨rfl,rfl,trivial⟩;exact uP
 intro k q hinv
 obtain ⟨hk,hq⟩:=hinv;have hlen:nm5.length=5:=rfl;obtain ⟨u,out,a2⟩:=q;obtain ⟨g1,g2,g3⟩:=id hq;dsimp only at g1 g2 g3;refine gz4 ?_;refine uCo (fun h1=> ?_) fun h2=> ?_
 obtain ⟨x,hx⟩: ∃x,nm5[k]? =some x:=⟨_,Aa h1⟩
 have hdx:=zt hx;refine gz5 ?_;refine dq (zK (f:=HVal.str) (l:=nm5) (j:=k) (a:=x) zu ty9 rfl rfl rfl hx) ?_;refine gz6 ?_;refine de rfl (uCx 0 zeb rfl rfl (zI uS uS) ?_)
 rintro _ _ ⟨y13,rfl,rfl⟩;refine gz1 ?_;refine uCo (fun h3=> ?_) fun h4=> ?_
 refine gz8 ?_;exact ⟨k+1,⟨u,out,a2+1⟩,⟨by omega,hq.same uO⟩,uD,⟨rfl,rfl,trivial⟩,uK,zg (by dsimp only;first|rfl|(rw [Ay];rfl))⟩;refine gz6 ?_;refine dq (za (hs:=[_,_,_,_,_,_]) zu ty9 rfl rfl (by decide) (by decide) rfl) ?_;refine de rfl (uCx 0 ca7 rfl rfl (zp (L:=[_,_,_,_,_,_]) uS uS uS) ?_)
 rintro _ _ ⟨y18,rfl,hy18,rfl⟩;refine gz1 ?_;refine de rfl (uCx 0 zs7 rfl rfl (zds uS) ?_)
 rintro _ _ ⟨t20,a20,rfl,ht20,ha20,rfl⟩;refine dq (zO (cs:=[_,_,_]) zdc pl77 rfl) ?_;refine dq (za (hs:=[_]) zcA zdc rfl rfl (by decide) (by decide) rfl) ?_;refine de rfl (zN (i:=1) zcA zdc rfl rfl rfl rfl rfl (by simp [zal,zd,zaR,za8]) uSo fun v23=> ?_)
 refine gz8 ?_;exact ⟨k+1,⟨v23,out++[(⟨x,y18,t20⟩:PlayerS)],a20⟩,⟨by omega,hq.add (x:=(⟨x,y18,t20⟩:PlayerS)) ⟨by exact hy18,ht20⟩ (by dsimp only at ha20;omega)⟩,uD,⟨rfl,rfl,trivial⟩,uK,zg (by dsimp only;first|rfl|(rw [Ay];rfl))⟩;have hnk:nm5.length<=k:=by omega
 obtain rfl:k=nm5.length:=by omega
 refine gz2 ?_;refine zY ?_;refine gz7 ?_;exact zB (zap 2 (i:=1) rfl rfl) rfl ⟨out,a2,rfl,⟨by omega,g2⟩,by omega,rfl⟩
theorem zaN [Tracks] {b:Nat} {l:List Int} {a:Nat} (ha:a<=800000):Con prog 107 [pAt b] [St b l a] (fun x M'=> ∃y:BoundS,x=zcn y/\M'=[St b l (a+4)]):=by
 refine zbz func107 rfl ntmps107 rfl rfl ?_;refine gz1 ?_;refine de rfl (zq zdN rfl fun b2=> ?_)
 refine gz3 ?_;refine dq (za (hs:=[_,_,_,_]) zad ty3 rfl rfl (by decide) (by decide) rfl) ?_;refine de rfl (uCx 1 zaI rfl rfl (zf (L:=[_,_,_,_]) uS uS uS) ?_)
 rintro _ _ ⟨y5,rfl,hy5,rfl⟩;refine gz1 ?_;refine dq (za (hs:=[_,_,_]) zad ty3 rfl rfl (by decide) (by decide) rfl) ?_;refine de rfl (uCx 0 zaI rfl rfl (zf (L:=[_,_,_]) uS uS uS) ?_)
 rintro _ _ ⟨y8,rfl,hy8,rfl⟩;refine gz1 ?_;refine dq (za (hs:=[_,_,_,_]) zad ty3 rfl rfl (by decide) (by decide) rfl) ?_;refine de rfl (uCx 0 zaI rfl rfl (zf (L:=[_,_,_,_]) uS uS uS) ?_)
 rintro _ _ ⟨y11,rfl,hy11,rfl⟩;refine gz1 ?_;refine dq (za (hs:=[_,_,_,_]) zad ty3 rfl rfl (by decide) (by decide) rfl) ?_;refine de rfl (uCx 0 zaI rfl rfl (zf (L:=[_,_,_,_]) uS uS uS) ?_)
 rintro _ _ ⟨y14,rfl,hy14,rfl⟩;refine dq (zO (cs:=[_,_,_,_]) zdN pl32 rfl) ?_;refine de0 (uY 1 ?_)
 refine gz2 ?_;exact ⟨_,_,zbi 2 (i:=1) rfl rfl,[_],_,⟨⟨_,_,_,_,_,rfl,zdN,.inr ⟨rfl,rfl,rfl⟩⟩,trivial⟩,Weak.refl _,⟨y5,y8,y11,y14⟩,rfl,rfl⟩
theorem zbd [Tracks] {b:Nat} {l:List Int} {a:Nat} (ha:a<=700000):Con prog 106 [pAt b] [St b l a] (fun x M'=> ∃k a',x=zf7 k/\GoodS4s k/\0<k.length/\a'<=a+25/\M'=[St b l a']):=by
 refine uOb func106 ntmps106 ?_;refine gz6 ?_;refine zl (zQ 2) ?_;refine gz2 ?_;refine dq (za (hs:=[_,_,_,_]) zu ty9 rfl rfl (by decide) (by decide) rfl) ?_;refine gz1 ?_;refine de rfl (uCx 1 ca6 rfl rfl (zS uS uS uS uS) ?_)
 rintro _ _ ⟨y8,rfl,hy8,rfl⟩;refine dq (za9 (es:=sl4) (f:=HVal.str) (h:=y8.toNat) zu ty9 rfl rfl ⟨_,_,rfl,by omega⟩ uO (by simp [sl4];omega)) ?_;refine dq (zaw (f:=HVal.str) (l:=(sl4.take y8.toNat)) zu rfl) ?_;refine gz2 ?_;have hlen:(sl4.take y8.toNat).length=y8.toNat:=by simp [sl4];omega
 refine gz1 ?_;refine uV2 [3,1,5,1,11,12] (fun (k:Nat) (q:GL SlotS)=>[(11,.int .i64 k),(3,.raw q.u)]) (fun (k:Nat) (q:GL SlotS)=>[St b l q.a,.arr q.u 2 (q.out.map zbo)]) (fun (k:Nat) (q:GL SlotS)=>k<=(sl4.take y8.toNat).length/\(q.out.length=k/\GLok zjX k (a+1+5*k) q)) (fun (k:Nat) (q:GL SlotS)=>(sl4.take y8.toNat).length-k) (0) (⟨.slice none 0 0,[],a+1⟩) ?_ ?_ ?_ ?_;exact ⟨Ad _,rfl,⟨by simp,by simp,uD⟩⟩;exact ⟨rfl,rfl,trivial⟩;exact uP
 intro k q hinv
 obtain ⟨hk,⟨hn,hq⟩⟩:=hinv;obtain ⟨u,out,a2⟩:=q;obtain ⟨g1,g2,g3⟩:=id hq;dsimp only at g1 g2 g3;dsimp only at hn;refine gz4 ?_;refine uCo (fun h1=> ?_) fun h2=> ?_
 obtain ⟨x,hx⟩: ∃x,(sl4.take y8.toNat)[k]? =some x:=⟨_,Aa (by simpa using h1)⟩
 have hdx:=zt hx;refine gz5 ?_;refine dq (zK (f:=HVal.str) (l:=(sl4.take y8.toNat)) (j:=k) (a:=x) zu ty9 rfl rfl rfl hx) ?_;refine gz7 ?_;refine de rfl (uCx 0 zs7 rfl rfl (zds uS) ?_)
 rintro _ _ ⟨t18,a18,rfl,ht18,ha18,rfl⟩;refine dq (zO (cs:=[_,_]) zbb zvE rfl) ?_;refine dq (za (hs:=[_]) zdi zbb rfl rfl (by decide) (by decide) rfl) ?_;refine de rfl (zN (i:=1) zdi zbb rfl rfl rfl rfl rfl (by simp [zal,zd,zaR,za8]) uSo fun v21=> ?_)
 refine gz8 ?_;exact ⟨k+1,⟨v21,out++[(⟨x,t18⟩:SlotS)],a18⟩,⟨by omega,by simp;omega,hq.add (x:=(⟨x,t18⟩:SlotS)) (by show t18.length<=4;omega) (by dsimp only at ha18;omega)⟩,uD,⟨rfl,rfl,trivial⟩,uK,zg (by dsimp only;first|rfl|(rw [Ay];rfl))⟩;have hnk:(sl4.take y8.toNat).length<=k:=by simpa using h2
 obtain rfl:k=(sl4.take y8.toNat).length:=by omega
 refine gz2 ?_;refine zY ?_;refine gz7 ?_;exact zB (zap 2 (i:=1) rfl rfl) rfl ⟨out,a2,rfl,⟨by omega,g2⟩,by omega,by omega,rfl⟩
end
section
open Go.HL
set_option linter.unusedSimpArgs false
end
end Go.Proofs.YtahegdhbakjdoaaGreatDoor
namespace Go.HL
section
section
variable {P:Program} {e:Env} {dst:Option Tmp} {ty:TypeId} {pos:String} {af:Array Edge} {g:Option (Nat×Bool)} {M:List MObj} {K:HVal->List MObj->Prop}
end
end
end Go.HL
namespace Go.Proofs.YtahegdhbakjdoaaGreatDoor
set_option maxRecDepth 100000
set_option linter.unusedVariables false
set_option linter.unusedSimpArgs false
section
open Go.Proofs.Tryz
open Go.HL
theorem zfT [Tracks] {l:List MoveS} {v:Value} (hl:l.length<=1000000):Con prog 55 [.raw v] [.arr v 4 (l.map zcK)] (fun x M'=> ∃u,x= .raw u/\M'=[.arr u 4 ((zai none l).map zcK)]):=by
 refine uOb func55 ntmps55 ?_;refine gz6 ?_;refine de rfl (za6 (i:=0) zbr rfl rfl ?_)
 refine gz2 ?_;refine uCo (fun h1=> ?_) fun h2=> ?_
 refine gz5 ?_
 (refine zaf rfl ⟨_,rfl,?_⟩
  rw [zqe uO])
 refine gz3 ?_;refine zc4 (i:=0) rfl (fun h0 he=> ?_) (fun b off cap hv hcap=> ?_)
 exfalso;have:=congrArg List.length he;simp at this;subst this;simp at h2
 rw [Ag] at hv hcap;subst hv;refine gz4 ?_;refine uT1 [2,4,10,50] (fun k=>[(3,.int .i64 (k:Int))]) (fun k=>[.arr (.slice (some ⟨b,off,none⟩) l.length cap) 4 (l.map zcK)]) (fun k=>(1<=k/\k<=l.length)/\zai none (l.take k)=l.take k) (fun k=>l.length-k) (1) ?_ ?_;exact ⟨⟨by omega,by omega⟩,zqe uSo⟩;rintro k ⟨⟨hk1,hk⟩,hu⟩;refine gz4 ?_;refine de rfl (za6 (i:=0) zbr rfl rfl ?_)
 refine gz2 ?_;refine uCo (fun h3=> ?_) fun h4=> ?_
 obtain ⟨x,hx⟩: ∃x,l[k]? =some x:=⟨_,Aa uO⟩
 obtain ⟨y,hy⟩: ∃y,l[k-1]? =some y:=⟨_,Aa uO⟩
 refine gz4 ?_;refine zbu (fun M=>M=[.arr (.slice (some ⟨b,off,none⟩) l.length cap) 4 (l.map zcK)]) [3,8] mixed ?_;refine gz2 ?_;refine uB 2 rfl (zM (j:=k) zbr zv rfl rfl rfl uO) ?_;refine uM 3 rfl rfl (uW (zao (i:=0) (j:=k) zv rfl uO rfl hx rfl rfl rfl ⟨rfl,rfl⟩)) ?_;refine gz3 ?_;refine uB 7 rfl (zM (j:=k-1) zbr zv rfl rfl uO uO) ?_;refine uM 8 rfl rfl (uW (zao (i:=0) (j:=k-1) zv rfl uO rfl hy rfl rfl rfl ⟨rfl,rfl⟩)) ?_;refine uB 9 rfl (zvG zv zwH rfl rfl ⟨rfl,⟨_,_,_,_,ty3,rfl⟩,⟨rfl,⟨_,_,_,_,ty3,rfl⟩,⟨rfl,⟨_,_,_,_,ty9,rfl⟩,⟨rfl,⟨_,_,_,_,ty9,rfl⟩,trivial⟩⟩⟩⟩) ?_;refine gz1 ?_;refine uCo (fun h5=> ?_) fun h6=> ?_
 have hxy:x=y:=(zhP _ _).1 (by simpa using h5);obtain ⟨hC0,hU0⟩:=CmpA.start hx hy uO hxy hu;refine gz3 ?_;refine dq (zeF (l:=k) (h:=l.length) zbr zv rfl ⟨_,_,rfl,rfl⟩ rfl uO uO hcap) ?_;refine gz2 ?_;rw [zp8 uO];refine gz5 ?_;refine uV2 [3,1,5,1,29,25] (fun (k2:Nat) (D:List MoveS)=>[(5,.int .i64 (k2:Int)),(3,.int .i64 ((zai none (l.take (k+k2))).length:Int))]) (fun (k2:Nat) (D:List MoveS)=>[.arr (.slice (some ⟨b,off,none⟩) l.length cap) 4 (D.map zcK)]) (fun (k2:Nat) (D:List MoveS)=>(1<=k2/\k+k2<=l.length)/\CmpA l (k+k2) D) (fun (k2:Nat) (D:List MoveS)=>l.length-k2) (1) (l) ?_ ?_ ?_ ?_;exact ⟨⟨by omega,by have:=zx hx;omega⟩,hC0⟩;exact ⟨rfl,zW (by rw [hU0]),trivial⟩;exact Ab _
 intro k2 D hinv
 obtain ⟨⟨hk2,hkk⟩,hD⟩:=hinv;have hlt0:=hD.lt;have hle0:=hD.len;refine gz4 ?_;refine dq (ze6 zbr rfl) ?_;refine gz2 ?_;refine uCo (fun h7=> ?_) fun h8=> ?_
 obtain ⟨x2,hx2⟩: ∃x,l[k+k2]? =some x:=⟨_,Aa uO⟩
 obtain ⟨y2,hy2⟩: ∃y,l[k+k2-1]? =some y:=⟨_,Aa uO⟩
 have hDx:D[k+k2]? =some x2:=by rw [hD.hi _ uO,hx2]
 have hDy:D[k+k2-1]? =some y2:=by rw [hD.hi _ uO,hy2]
 refine gz4 ?_;refine zbu (fun M=>M=[.arr (.slice (some ⟨b,off,none⟩) l.length cap) 4 (D.map zcK)]) [3,8] mixed ?_;refine gz2 ?_;refine uB 2 rfl (zM (j:=k2) zbr zv rfl rfl rfl uO) ?_;refine uM 3 rfl rfl (uW (zao (i:=0) (j:=(k+k2)) zv rfl uO rfl hDx rfl rfl rfl ⟨rfl,rfl⟩)) ?_;refine gz3 ?_;refine uB 7 rfl (zM (j:=k2-1) zbr zv rfl rfl uO uO) ?_;refine uM 8 rfl rfl (uW (zao (i:=0) (j:=(k+k2-1)) zv rfl uO rfl hDy rfl rfl rfl ⟨rfl,rfl⟩)) ?_;refine uB 9 rfl (zgB zv zwH rfl rfl ⟨rfl,⟨_,_,_,_,ty3,rfl⟩,⟨rfl,⟨_,_,_,_,ty3,rfl⟩,⟨rfl,⟨_,_,_,_,ty9,rfl⟩,⟨rfl,⟨_,_,_,_,ty9,rfl⟩,trivial⟩⟩⟩⟩) ?_;refine gz1 ?_;refine uCo (fun h9=> ?_) fun h10=> ?_
 refine gz5 ?_;refine dq (zM (j:=k2) zbr zv rfl rfl rfl uO) ?_;refine de rfl (zao (i:=0) (j:=(k+k2)) zv rfl uO rfl hDx rfl rfl rfl ?_)
 refine dq (zM (j:=(zai none (l.take (k+k2))).length) zbr zv rfl rfl rfl uO) ?_;refine de0 (zbh (i:=0) (j:=(zai none (l.take (k+k2))).length) (y:=D[(zai none (l.take (k+k2))).length]'uO) (y':=x2) zv rfl rfl rfl rfl (Aa _) rfl rfl rfl ?_)
 refine zfW ?_;have hxy:x2≠y2:=fun q=>by have q2:=(zhP _ _).2 q;simp_all
 obtain ⟨hC1,hU1⟩:=hD.more hx2 hy2 hxy;exact ⟨k2+1,_,⟨⟨by omega,by omega⟩,hC1⟩,uD,⟨rfl,zW (by rw [<-A2,hU1];rfl),trivial⟩,uK,Ab _⟩;refine gz8 ?_;have hxy:x2=y2:=(zhP _ _).1 (by simpa using h10);obtain ⟨hC1,hU1⟩:=hD.same hx2 hy2 hxy;exact ⟨k2+1,D,⟨⟨by omega,by omega⟩,hC1⟩,uD,⟨rfl,zW (by rw [<-A2,hU1]),trivial⟩,uK,Ab _⟩;have hkl:k+k2=l.length:=by omega
 refine gz2 ?_;refine zY ?_;refine gz5 ?_;refine dq (zeF (l:=(zai none (l.take (k+k2))).length) (h:=l.length) zbr zv rfl ⟨_,_,rfl,rfl⟩ rfl uO uO hcap) ?_;refine de0 (zet (i:=0) (m:=(zai none (l.take (k+k2))).length) ((zai none (l.take (k+k2))).length) zbr zv rfl rfl rfl (zhs uO hcap) rfl uO (Af _) (by rw [Ag,hD.len];omega) ?_)
 refine gz4 ?_;refine dq (zfK (h:=(zai none (l.take (k+k2))).length) zbr zv rfl ⟨_,_,rfl,rfl⟩ uO) ?_;refine gz3 ?_
 (refine zaf rfl ⟨_,rfl,?_⟩
  have hlo:=hD.lo;rw [hkl,Aw] at hlo⊢;rw [<-Bu,hlo];rfl)
 refine gz8 ?_;have hxy:x≠y:=fun q=>by have q2:=(zhP _ _).2 q;simp_all
 exact ⟨k+1,⟨⟨by omega,by omega⟩,by rw [zio hx hy uO,if_neg hxy,hu,za1 hx]⟩,uD,⟨rfl,trivial⟩,uK,Ab _⟩;have hkl:k=l.length:=by omega
 rw [hkl,Aw] at hu;refine gz2 ?_;refine zG ?_;refine gz7 ?_
 (refine zaf rfl ⟨_,rfl,?_⟩
  rw [hu])
theorem zeI [Tracks] {l:List HealthS} {fid:FuncId} {caps:List HVal} {p:HealthS->Bool} (hca:Callable prog fid) (hp: ∀x,ConP prog fid ([zb9 x]++caps) (.bool (p x))) (hl:l.length<=1000000):ConP prog 262 [.slice 4 (l.map zb9),.fn (.func fid) [] caps] (.int .i64 (zag p l 0)):=by
 refine uOb func262 ntmps262 ?_;refine zaD ?_;refine uT1 [4,2,8,11] (fun k=>[(8,.int .i64 k)]) (fun k=>[]) (fun k=>k<=l.length/\(zag p l 0=zag p (l.drop k) k)) (fun k=>l.length-k) (0) ?_ ?_;exact ⟨Ad _,rfl⟩;rintro k ⟨hk,hg⟩;refine gz4 ?_;refine uCo (fun h1=> ?_) fun h2=> ?_
 obtain ⟨x,hx⟩: ∃x,l[k]? =some x:=⟨_,Aa h1⟩
 have hdx:=zt hx;rw [hdx] at hg;refine zeu ?_;refine dq (zaB hca rfl rfl (WeakL.refl _) (hp _)) ?_;refine gz1 ?_;refine uCo (fun h3=> ?_) fun h4=> ?_
 refine gz5 ?_;refine uRp ?_
 (rw [hg];simp_all [zag])
 refine gz7 ?_;refine ⟨k+1,?_,?_,⟨rfl,trivial⟩,uK,Ab _⟩
 refine ⟨by omega,?_⟩
 rw [hg,zag,if_neg uSa];rfl
 dsimp only;omega
 have hnk:l.length<=k:=by omega
 obtain rfl:k=l.length:=by omega
 rw [zP (Af _)] at hg;refine gz2 ?_;refine zG ?_;refine gz6 ?_;refine uRp ?_
 (rw [hg];rfl)
end
end Go.Proofs.YtahegdhbakjdoaaGreatDoor
