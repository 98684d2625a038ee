/- Part 4 of the proof: a program logic, contracts of functions and plain facts; no conditions. -/
import Derived.Test.YtaihpegdcgdcgaaGreatDoorQTopFreeHaveNoOwner3
set_option linter.unusedVariables false
set_option linter.unusedSimpArgs false
set_option maxHeartbeats 16000000
namespace Go.Proofs.YtaihpegdcgdcgaaGreatDoor
set_option maxRecDepth 100000
set_option linter.unusedVariables false
set_option linter.unusedSimpArgs false
section
open Go.Proofs.Tryz
open Go.HL
theorem zaK [Tracks] {n lo hi:Int}:ConP prog 93 [.int .i64 n,.int .i64 lo,.int .i64 hi] (.bool (!(out n lo hi))):=by
 refine uOb func93 ntmps93 ?_;refine zi6 ?_;refine zB rfl ?_
 show HVal.bool _=_
 congr 1;simp [out];rw [AK];simp;try omega
theorem zfh [Tracks] {n:Int}:ConP prog 74 [.int .i64 n] (.int .i64 (zko n)):=by
 refine uOb func74 ntmps74 ?_;refine zat ?_;refine uCo (fun h1=> ?_) fun h2=> ?_
 refine gz4 ?_;refine uRp ?_;unfold zko
 (rw [if_pos uO])
 refine gz5 ?_;refine uCo (fun h3=> ?_) fun h4=> ?_
 refine gz4 ?_;refine uRp ?_;unfold zko
 (rw [if_neg uO,if_pos uO])
 refine gz7 ?_;refine uRp ?_;unfold zko
 (rw [if_neg uO,if_neg uO])
theorem zhP [Tracks] {s l:Str} (hs:s.length<=1000000):ConP prog 160 [.str s,.str l] (.bool (zfX s l)):=by
 refine uOb func160 ntmps160 ?_;refine zat ?_;refine uT1 [4,2,8,10] (fun k=>[(8,.int .i64 (k:Int))]) (fun k=>[]) (fun k=>k<=s.length/\zfX s l=zfX (s.drop k) l) (fun k=>s.length-k) (0) ?_ ?_;exact ⟨Ad _,rfl⟩;rintro k ⟨hk,hg⟩;refine gz4 ?_;refine uCo (fun h1=> ?_) fun h2=> ?_
 obtain ⟨x,hx⟩: ∃x,s[k]? =some x:=⟨_,Aa uO⟩
 have hd:=zg hx;rw [hd] at hg;refine zdz ?_;refine dq (zaA (j:=k) (b:=x) ty9 rfl rfl rfl hx) ?_;refine dq (uCl zvp rfl (zf9 (s:=l) (c:=x.toNat))) ?_;refine gz2 ?_;refine uCo (fun h3=> ?_) fun h4=> ?_
 refine gz4 ?_;refine zB rfl ?_
 show HVal.bool _=_
 rw [hg]
 (rw [zxa (by assumption)])
 refine gz7 ?_;refine ⟨k+1,?_,?_,⟨rfl,trivial⟩,uK,Ac _⟩
 refine ⟨by omega,?_⟩
 rw [hg,zxb (by assumption)]
 dsimp only;omega
 rw [zD uO] at hg;refine gz2 ?_;refine zn ?_;refine gz6 ?_;refine zB rfl ?_
 show HVal.bool _=_
 rw [hg]
 rfl
theorem zaQ [Tracks] {s:Str}:ConP prog 94 [.str s] (.bool (key s)):=by
 refine uOb func94 ntmps94 ?_;refine gz6 ?_;refine dq (uCl zge rfl zaK) ?_;refine gz2 ?_;refine dg rfl rfl (fun hc=>by
  have hb:=zeT (n:=(s.length:Int)) (lo:=1) (hi:=40) (by simpa using hc);exact ⟨_,OpenTo.upd (t:=7) rfl (hc) (OpenTo.refl _),zfY (l:=0) (h:=1) ty9 rfl rfl ⟨_,_,rfl,by omega⟩ uO uO⟩) ?_
 refine uGr rfl (fun hc=>by have hq:=hc;(try simp at hq);exact uCl zvn rfl (zhP (s:=s.take 1) (l:=zhC) (by rw [AD];omega))) ?_;refine gz3 ?_;refine dg rfl rfl (fun hc=>by
  have hb:=zeT (n:=(s.length:Int)) (lo:=1) (hi:=40) (by (have q:=hc;simp at q;exact q.1));exact ⟨_,OpenTo.upd (t:=12) rfl (hc) (OpenTo.refl _),uCl zvn rfl (zhP (s:=s) (l:=zfd) uO)⟩) ?_
 refine gz4 ?_;refine zB rfl ?_
 show HVal.bool _=_
 rw [zuu]
 simp
theorem zgJ [Tracks] {n:Int}:ConP prog 92 [.int .i64 n] (.bool (zY n)):=by
 refine uOb func92 ntmps92 ?_;refine gz5 ?_;refine dq (uCl zge rfl zaK) ?_;refine gz3 ?_;refine zB rfl ?_
 show HVal.bool _=_
 rfl
theorem zfg [Tracks] {n:Int}:ConP prog 150 [.int .i64 n] (.bool (zcA n)):=by
 refine uOb func150 ntmps150 ?_;refine gz5 ?_;refine dq (uCl zge rfl zaK) ?_;refine gz3 ?_;refine zB rfl ?_
 show HVal.bool _=_
 rfl
theorem zgK [Tracks] {l:List Str} (hl:l.length<=1000000):ConP prog 154 [eSs l] (.int .i64 (zdA l)):=by
 refine uOb func154 ntmps154 ?_;refine zat ?_;refine uT1 [2,3,7,20] (fun k=>[(7,.int .i64 k)]) (fun k=>[]) (fun k=>k<=l.length/\(zdA l=zbr l k (l.drop k))) (fun k=>l.length-k) (0) ?_ ?_;exact ⟨Ad _,rfl⟩;rintro k ⟨hk,hg⟩;refine gz4 ?_;refine uCo (fun h1=> ?_) fun h2=> ?_
 obtain ⟨x,hx⟩: ∃x,l[k]? =some x:=⟨_,Aa h1⟩
 have hdx:=zg hx;rw [hdx] at hg;refine zdN ?_;refine dq (uCl zhU rfl zaQ) ?_;refine gz2 ?_;refine uCo (fun h3=> ?_) fun h4=> ?_
 refine gz4 ?_;refine uRp ?_;rw [hg];simp_all [zbr,leS];refine zat ?_;refine uGr rfl (fun hc=>by have hq:=hc;(try simp at hq);exact zC (j:=k-1) (a:=l.getD (k-1) []) zj ty9 rfl rfl uO (getD_some uO)) ?_;refine gz4 ?_;refine uCo (fun h5=> ?_) fun h6=> ?_
 refine gz4 ?_;refine uRp ?_;rw [hg];simp_all [zbr,leS];refine gz7 ?_;refine ⟨k+1,?_,?_,⟨rfl,trivial⟩,uK,Ac _⟩
 refine ⟨by omega,?_⟩
 rw [hg];simp_all [zbr,leS]
 dsimp only;omega
 have hnk:l.length<=k:=by omega
 obtain rfl:k=l.length:=by omega
 rw [zD (Ae _)] at hg;refine gz2 ?_;refine zn ?_;refine gz6 ?_;refine uRp ?_;rw [hg];simp_all [zbr,leS]
theorem zfv [Tracks] {l:List Str} (hl:l.length<=1000000):ConP prog 149 [eSs l,.bool true] (.int .i64 (zgl l)):=by
 refine uOb func149 ntmps149 ?_;refine zdN ?_;refine uCo (fun h1=> ?_) fun h2=> ?_
 refine gz4 ?_;refine uRp ?_;rw [zoi]
 (rw [if_pos uSa])
 refine gz6 ?_;refine uCo (fun h3=> ?_) fun h4=> ?_
 refine gz4 ?_;refine uRp ?_;rw [zoi]
 (rw [if_neg uO,if_pos uO])
 refine gz5 ?_;refine dq (uCl zvk rfl (zgK (by assumption))) ?_;refine gz3 ?_;refine uRp ?_;rw [zoi]
 (rw [if_neg uSa,if_neg uO])
theorem zhN [Tracks] {l:List PlayerS} (hT:Tracks.on=false) (hl:l.length<=1000000) (hn: ∀p∈l,p.Name∈zb8) (hp: ∀p∈l,p.Positions.length<=1000000):ConP prog 79 [zaT l] (.int .i64 (zce l)):=by
 refine uOb func79 ntmps79 ?_;refine gz9 ?_;refine uCo (fun h1=> ?_) fun h2=> ?_
 refine gz4 ?_;refine uRp ?_
 (refine congrArg _ (zbW ?_)
  omega)
 refine zdz ?_;refine uT1 [2,2,5,2,12,35] (fun k=>[(12,.int .i64 k),(3,.str (zlU PlayerS.Key zc7 l k))]) (fun k=>[]) (fun k=>k<=l.length/\(zaO zb2 zc7 l 0 l=zaO zb2 zc7 l k (l.drop k))) (fun k=>l.length-k) (0) ?_ ?_;exact ⟨Ad _,rfl⟩;rintro k ⟨hk,hg⟩;refine gz4 ?_;refine uCo (fun h3=> ?_) fun h4=> ?_
 obtain ⟨x,hx⟩: ∃x,l[k]? =some x:=⟨_,Aa h3⟩
 have hdx:=zg hx;rw [hdx] at hg;refine gz7 ?_;refine de rfl (zi ze2 rfl fun b5=> ?_)
 refine de0 (zo ze2 rfl rfl rfl rfl rfl ?_)
 refine gz1 ?_;refine zf (zp 5 rfl) ?_;refine gz5 ?_;refine dq (uCl zhU rfl zaQ) ?_;refine gz3 ?_;refine uCo (fun h5=> ?_) fun h6=> ?_
 refine gz4 ?_;refine uRp ?_
 (refine congrArg _ (zA (e:=5) ?_ hg ?_ ?_)
  omega
  unfold zb2;exact uT
  first|decide|assumption)
 have hkx:key x.Key=true:=by first|assumption|simp_all
 have hll:=zrC (f:=PlayerS.Key) (d:=zc7) (l:=l) (k:=k) (x:=x) hkx;refine gz7 ?_;refine uCo (fun h7=> ?_) fun h8=> ?_
 refine gz4 ?_;refine uRp ?_
 (refine congrArg _ (zA (e:=7) ?_ hg ?_ ?_)
  omega
  unfold zb2;exact uT
  first|decide|assumption)
 have hn6:=zlz (hn x (Ab hx));refine gz3 ?_;refine dq (uCl zxS rfl (zl2 hT (hn x (Ab hx)))) ?_;refine gz5 ?_;refine uGr rfl (fun hc=>uCl zge rfl zaK) ?_;refine gz4 ?_;refine zaF rfl (fun h9=> ?_) (fun h9=> ?_)
 exfalso
 try simp at h9
 simp_all
 try simp at h9
 refine gz7 ?_;refine dq (uCl zvi rfl (zfv (hp x (Ab hx)))) ?_;refine gz6 ?_;refine uCo (fun h10=> ?_) fun h11=> ?_
 refine gz5 ?_;refine uRp ?_
 (refine congrArg _ (zA (e:=(zgl x.Positions)) ?_ hg ?_ ?_)
  omega
  unfold zb2;exact uT
  first|decide|assumption)
 refine zeZ ?_;exact ⟨k+1,⟨by omega,by rw [hg,zaN (by unfold zb2;(try clear hdx hg);(try simp only [Af]);focus first|(simp_all;done)|((repeat' split)<;>focus first|rfl|(exfalso;omega)|(simp_all;done)|(exfalso;rcases ‹_\/_› with q|q<;>simp_all;done)|(exfalso;simp_all;omega)))]⟩,uD,⟨rfl,congrArg (fun q=>some (HVal.str q)) (zoT hx).symm,trivial⟩,uK,Ac _⟩;have hnk:l.length<=k:=by omega
 obtain rfl:k=l.length:=by omega
 rw [zD (Ae _)] at hg;refine gz2 ?_;refine zn ?_;refine gz6 ?_;refine uRp ?_
 (refine congrArg _ (zbG ?_ hg)
  omega)
theorem ziQ [Tracks] {x:PlayerS} {s:Str}:ConP prog 163 [zc4 x,.vptr [.str s] 0] (.bool (x.Key==s)):=by
 refine uOb func163 ntmps163 ?_;refine zdz ?_;refine zB rfl ?_
 rfl
theorem zbM [Tracks] {l:List PlayerS} {fid:FuncId} {caps:List HVal} {p:PlayerS->Bool} (hca:Callable prog fid) (hp: ∀x,ConP prog fid ([zc4 x]++caps) (.bool (p x))) (hl:l.length<=1000000):ConP prog 18 [.slice 3 (l.map zc4),.fn (.func fid) [] caps] (.int .i64 (zaf p l 0)):=by
 refine uOb func18 ntmps18 ?_;refine zat ?_;refine uT1 [4,2,8,11] (fun k=>[(8,.int .i64 k)]) (fun k=>[]) (fun k=>k<=l.length/\(zaf p l 0=zaf p (l.drop k) k)) (fun k=>l.length-k) (0) ?_ ?_;exact ⟨Ad _,rfl⟩;rintro k ⟨hk,hg⟩;refine gz4 ?_;refine uCo (fun h1=> ?_) fun h2=> ?_
 obtain ⟨x,hx⟩: ∃x,l[k]? =some x:=⟨_,Aa h1⟩
 have hdx:=zg hx;rw [hdx] at hg;refine zdN ?_;refine dq (zan hca rfl rfl (WeakL.refl _) (hp _)) ?_;refine gz1 ?_;refine uCo (fun h3=> ?_) fun h4=> ?_
 refine gz5 ?_;refine uRp ?_
 (rw [hg];simp_all [zaf])
 refine gz7 ?_;refine ⟨k+1,?_,?_,⟨rfl,trivial⟩,uK,Ac _⟩
 refine ⟨by omega,?_⟩
 rw [hg,zaf,if_neg uSa];rfl
 dsimp only;omega
 have hnk:l.length<=k:=by omega
 obtain rfl:k=l.length:=by omega
 rw [zD (Ae _)] at hg;refine gz2 ?_;refine zn ?_;refine gz6 ?_;refine uRp ?_
 (rw [hg];rfl)
theorem zdr [Tracks] {l:List PlayerS} {fid:FuncId} {caps:List HVal} {p:PlayerS->Bool} (hca:Callable prog fid) (hp: ∀x,ConP prog fid ([zc4 x]++caps) (.bool (p x))) (hl:l.length<=1000000):ConP prog 8 [.slice 3 (l.map zc4),.fn (.func fid) [] caps] (.bool (l.any p)):=by
 refine uOb func8 ntmps8 ?_;refine gz6 ?_;refine dq (uCl ca18 rfl (zbM hca hp hl)) ?_;refine gz4 ?_;refine zB rfl ?_
 congr 1;exact zcH p l 0 uO
theorem zcs [Tracks] {l:List PlayerS} {s:Str} (hl:l.length<=1000000):ConP prog 101 [zaT l,.str s] (.int .i64 (zaf (fun x:PlayerS=>x.Key==s) l 0)):=by
 refine uOb func101 ntmps101 ?_;refine gz7 ?_;refine dq (uCl ca18 rfl (zbM (l:=l) (p:=fun x=>x.Key==s) zxX (fun _=>ziQ) hl)) ?_;refine gz3 ?_;refine zB rfl ?_
 rfl
theorem zig [Tracks] {L:List PlayerS} {l:List StintS} (hL:L.length<=1000000) (hl:l.length<=1000000):ConP prog 80 [zaT L,zd2 l] (.int .i64 (zg5 L l)):=by
 refine uOb func80 ntmps80 ?_;refine gz9 ?_;refine uCo (fun h1=> ?_) fun h2=> ?_
 refine gz4 ?_;refine uRp ?_
 (refine congrArg _ (zbW ?_)
  omega)
 refine gz9 ?_;refine uT1 [4,3,12,63] (fun k=>[(12,.int .i64 k)]) (fun k=>[]) (fun k=>k<=l.length/\(zaO (zcV L) zdY l 0 l=zaO (zcV L) zdY l k (l.drop k))) (fun k=>l.length-k) (0) ?_ ?_;exact ⟨Ad _,rfl⟩;rintro k ⟨hk,hg⟩;refine gz4 ?_;refine uCo (fun h3=> ?_) fun h4=> ?_
 obtain ⟨x,hx⟩: ∃x,l[k]? =some x:=⟨_,Aa h3⟩
 have hdx:=zg hx;rw [hdx] at hg;refine gz8 ?_;refine de rfl (zi zbV rfl fun b6=> ?_)
 refine gz1 ?_;refine de0 (zo zbV rfl rfl rfl rfl rfl ?_)
 refine gz1 ?_;refine zf (zp 6 rfl) ?_;refine gz5 ?_;refine dq (uCl zpA rfl (zcs (l:=L) (s:=x.Player) hL)) ?_;refine gz3 ?_;refine uCo (fun h5=> ?_) fun h6=> ?_
 have hph:=znv (L:=L) (s:=x.Player);refine gz4 ?_;refine uRp ?_
 (refine congrArg _ (zA (e:=8) ?_ hg ?_ ?_)
  omega
  unfold zcV;exact uT
  first|decide|assumption)
 have hph:=znv (L:=L) (s:=x.Player);have hpl:zeR L x.Player=true:=by
  cases hq:zeR L x.Player with
  |true=>rfl
  |false=>have:=hph.2 hq;omega
 refine gz7 ?_;refine uGr rfl (fun hc=>uCl zhU rfl zaQ) ?_;refine gz4 ?_;refine uCo (fun h7=> ?_) fun h8=> ?_
 refine gz4 ?_;refine uRp ?_
 (refine congrArg _ (zA (e:=5) ?_ hg ?_ ?_)
  omega
  unfold zcV;exact uT
  first|decide|assumption)
 refine gz3 ?_;refine dq (uCl zr6 rfl zfg) ?_;refine gz3 ?_;refine uCo (fun h9=> ?_) fun h10=> ?_
 refine gz4 ?_;refine uRp ?_
 (refine congrArg _ (zA (e:=1) ?_ hg ?_ ?_)
  omega
  unfold zcV;exact uT
  first|decide|assumption)
 have hord:=ord2 (a:=x.Player) (b:=(l.getD (k-1) zdY).Player) (m:=x.Week) (n:=(l.getD (k-1) zdY).Week);refine uDr mixed ?_;refine gz8 ?_;refine uGy 8 rfl rfl (fun hc=>by have hq:=hc;(try simp at hq);exact zC (j:=k-1) (a:=l.getD (k-1) zdY) zfr zbV rfl rfl uO (getD_some uO)) ?_;refine gz9 ?_;refine uGy 18 rfl rfl (fun hc=>by have hq:=hc;(try simp at hq);exact zC (j:=k-1) (a:=l.getD (k-1) zdY) zfr zbV rfl rfl uO (getD_some uO)) ?_;refine gz9 ?_;refine uGy 28 rfl rfl (fun hc=>by have hq:=hc;(try simp at hq);exact zC (j:=k-1) (a:=l.getD (k-1) zdY) zfr zbV rfl rfl uO (getD_some uO)) ?_;refine gz8 ?_;refine uCo (fun h11=> ?_) fun h12=> ?_
 refine gz4 ?_;refine uRp ?_
 (refine congrArg _ (zA (e:=7) ?_ hg ?_ ?_)
  omega
  unfold zcV;exact uT
  first|decide|assumption)
 refine gz8 ?_;refine ⟨k+1,?_,?_,⟨rfl,trivial⟩,uK,Ac _⟩
 refine ⟨by omega,?_⟩
 rw [hg,zaN (by unfold zcV;(try clear hdx hg);(try simp only [Af]);focus first|(simp_all;done)|((repeat' split)<;>focus first|rfl|(exfalso;omega)|(simp_all;done)|(exfalso;rcases ‹_\/_› with q|q<;>simp_all;done)|(exfalso;simp_all;omega)))]
 dsimp only;omega
 have hnk:l.length<=k:=by omega
 obtain rfl:k=l.length:=by omega
 rw [zD (Ae _)] at hg;refine gz2 ?_;refine zn ?_;refine gz6 ?_;refine uRp ?_
 (refine congrArg _ (zbG ?_ hg)
  omega)
theorem zif [Tracks] {L:List PlayerS} {l:List HealthS} (hL:L.length<=1000000) (hl:l.length<=1000000) (hw: ∀x∈l,-1000000000000000<=x.To/\x.To<=1000000000000000):ConP prog 39 [zaT L,zbN l] (.int .i64 (zob L l)):=by
 refine uOb func39 ntmps39 ?_;refine gz9 ?_;refine uCo (fun h1=> ?_) fun h2=> ?_
 refine gz4 ?_;refine uRp ?_
 (refine congrArg _ (zbW ?_)
  omega)
 refine gz9 ?_;refine uT1 [4,4,13,74] (fun k=>[(13,.int .i64 k)]) (fun k=>[]) (fun k=>k<=l.length/\(zaO (zbn L) zeS l 0 l=zaO (zbn L) zeS l k (l.drop k))) (fun k=>l.length-k) (0) ?_ ?_;exact ⟨Ad _,rfl⟩;rintro k ⟨hk,hg⟩;refine gz4 ?_;refine uCo (fun h3=> ?_) fun h4=> ?_
 obtain ⟨x,hx⟩: ∃x,l[k]? =some x:=⟨_,Aa h3⟩
 have hdx:=zg hx;rw [hdx] at hg;refine gz8 ?_;refine de rfl (zi zbJ rfl fun b6=> ?_)
 refine gz1 ?_;refine de0 (zo zbJ rfl rfl rfl rfl rfl ?_)
 refine gz1 ?_;refine zf (zp 6 rfl) ?_;refine gz2 ?_;have hwx:=hw x (Ab hx);refine gz4 ?_;refine dq (uCl zpA rfl (zcs (l:=L) (s:=x.Player) hL)) ?_;refine gz3 ?_;refine uCo (fun h5=> ?_) fun h6=> ?_
 have hph:=znv (L:=L) (s:=x.Player);refine gz4 ?_;refine uRp ?_
 (refine congrArg _ (zA (e:=8) ?_ hg ?_ ?_)
  omega
  unfold zbn;exact uT
  first|decide|assumption)
 have hph:=znv (L:=L) (s:=x.Player);have hpl:zeR L x.Player=true:=by
  cases hq:zeR L x.Player with
  |true=>rfl
  |false=>have:=hph.2 hq;omega
 refine gz6 ?_;refine dq (uCl zge rfl zaK) ?_;refine gz8 ?_;refine uCo (fun h7=> ?_) fun h8=> ?_
 have hag:=zup (f:=x.From) (t:=x.To) (by assumption);refine gz4 ?_;refine uRp ?_
 (refine congrArg _ (zA (e:=1) ?_ hg ?_ ?_)
  omega
  unfold zbn;exact uT
  first|decide|assumption)
 have hag:=zuo (f:=x.From) (t:=x.To) (by assumption);refine zct ?_;refine uCo (fun h9=> ?_) fun h10=> ?_
 have hkd:=zw0 (k:=x.Kind) (by assumption);refine gz4 ?_;refine uRp ?_
 (refine congrArg _ (zA (e:=4) ?_ hg ?_ ?_)
  omega
  unfold zbn;exact uT
  first|decide|assumption)
 refine gz4 ?_;have hkd:=zwZ (k:=x.Kind) (by assumption);refine gz4 ?_;refine uCo (fun h11=> ?_) fun h12=> ?_
 refine gz8 ?_;refine ⟨k+1,?_,?_,⟨rfl,trivial⟩,uK,Ac _⟩
 refine ⟨by omega,?_⟩
 rw [hg,zaN (by unfold zbn;(try clear hdx hg);(try simp only [Af]);focus first|(simp_all;done)|((repeat' split)<;>focus first|rfl|(exfalso;omega)|(simp_all;done)|(exfalso;rcases ‹_\/_› with q|q<;>simp_all;done)|(exfalso;simp_all;omega)))]
 dsimp only;omega
 refine gz2 ?_;have hk0:0<k:=by omega
 refine gz4 ?_;refine dq (zC (j:=k-1) (a:=l.getD (k-1) zeS) zg9 zbJ rfl rfl uO (getD_some uO)) ?_;refine gz1 ?_;refine de rfl (zi zbJ rfl fun b7=> ?_)
 refine de0 (zo zbJ rfl rfl rfl rfl rfl ?_)
 refine gz1 ?_;refine zf (zp 7 rfl) ?_;refine gz1 ?_;have hord:=ord2 (a:=x.Player) (b:=(l.getD (k-1) zeS).Player) (m:=x.From) (n:=(l.getD (k-1) zeS).From);refine gz22 ?_;refine uCo (fun h13=> ?_) fun h14=> ?_
 refine gz4 ?_;refine uRp ?_
 (refine congrArg _ (zA (e:=7) ?_ hg ?_ ?_)
  omega
  unfold zbn;exact uT
  first|decide|assumption)
 refine zi6 ?_;refine uCo (fun h15=> ?_) fun h16=> ?_
 refine gz4 ?_;refine uRp ?_
 (refine congrArg _ (zA (e:=13) ?_ hg ?_ ?_)
  omega
  unfold zbn;exact uT
  first|decide|assumption)
 refine gz8 ?_;refine ⟨k+1,?_,?_,⟨rfl,trivial⟩,uK,Ac _⟩
 refine ⟨by omega,?_⟩
 rw [hg,zaN (by unfold zbn;(try clear hdx hg);(try simp only [Af]);focus first|(simp_all;done)|((repeat' split)<;>focus first|rfl|(exfalso;omega)|(simp_all;done)|(exfalso;rcases ‹_\/_› with q|q<;>simp_all;done)|(exfalso;simp_all;omega)))]
 dsimp only;omega
 have hnk:l.length<=k:=by omega
 obtain rfl:k=l.length:=by omega
 rw [zD (Ae _)] at hg;refine gz2 ?_;refine zn ?_;refine gz6 ?_;refine uRp ?_
 (refine congrArg _ (zbG ?_ hg)
  omega)
theorem zem [Tracks] {a b:List Int} (ha:a.length<=1000) (hb:b.length<=1000):ConP prog 131 [.slice 1 (a.map (HVal.int .i64)),.slice 1 (b.map (HVal.int .i64))] (.int .i64 (zd7 a b)):=by
 refine uOb func131 ntmps131 ?_;refine zat ?_;refine uT1 [4,5,11,20] (fun k=>[(11,.int .i64 k)]) (fun k=>[]) (fun k=>k<=a.length/\(zd7 a b=zd7 (a.drop k) (b.drop k))) (fun k=>a.length-k) (0) ?_ ?_;exact ⟨Ad _,rfl⟩;rintro k ⟨hk,hg⟩;refine gz4 ?_;refine uCo (fun h1=> ?_) fun h2=> ?_
 obtain ⟨x,hx⟩: ∃x,a[k]? =some x:=⟨_,Aa h1⟩
 have hdx:=zg hx;rw [hdx] at hg;refine zun ?_;refine uCo (fun h3=> ?_) fun h4=> ?_
 refine gz4 ?_;refine uRp ?_
 (rw [hg,Bj (show b.length<=k by omega)];rfl)
 refine gz2 ?_;obtain ⟨y,hy⟩: ∃y,b[k]? =some y:=⟨_,Aa uO⟩
 refine zat ?_;refine dq (uCl zch rfl (zN (a:=x) (b:=y))) ?_;refine gz6 ?_;refine uCo (fun h5=> ?_) fun h6=> ?_
 refine gz5 ?_;refine uRp ?_
 (rw [hg,zg hy,zd7,if_pos (by assumption)])
 refine gz7 ?_;exact ⟨k+1,⟨by omega,by rw [hg,zg hy,zd7,if_neg uSa]⟩,uD,⟨rfl,trivial⟩,uK,Ac _⟩;have hnk:a.length<=k:=by omega
 obtain rfl:k=a.length:=by omega
 rw [zD (Ae _)] at hg;refine gz2 ?_;refine zn ?_;refine zat ?_;refine uCo (fun h7=> ?_) fun h8=> ?_
 refine gz4 ?_;refine uRp ?_
 (obtain ⟨y,hy⟩: ∃y,b[a.length]? =some y:=⟨_,Aa uO⟩
  rw [hg,zg hy];rfl)
 refine gz6 ?_;refine uRp ?_
 (rw [hg,Bj (show b.length<=a.length by omega)];rfl)
theorem zhh [Tracks] {l:List FixS} (hl:l.length<=1000000):ConP prog 81 [zj8 l] (.int .i64 (zhZ l)):=by
 refine uOb func81 ntmps81 ?_;refine gz9 ?_;refine uCo (fun h1=> ?_) fun h2=> ?_
 refine gz4 ?_;refine uRp ?_
 (refine congrArg _ (zbW ?_)
  omega)
 refine gz9 ?_;refine uT1 [2,5,12,65] (fun k=>[(12,.int .i64 k)]) (fun k=>[]) (fun k=>k<=l.length/\(zaO zeu zi2 l 0 l=zaO zeu zi2 l k (l.drop k))) (fun k=>l.length-k) (0) ?_ ?_;exact ⟨Ad _,rfl⟩;rintro k ⟨hk,hg⟩;refine gz4 ?_;refine uCo (fun h3=> ?_) fun h4=> ?_
 obtain ⟨x,hx⟩: ∃x,l[k]? =some x:=⟨_,Aa h3⟩
 have hdx:=zg hx;rw [hdx] at hg;refine gz8 ?_;refine de rfl (zi zaw rfl fun b4=> ?_)
 refine gz1 ?_;refine de0 (zo zaw rfl rfl rfl rfl rfl ?_)
 refine gz1 ?_;refine zf (zp 4 rfl) ?_;refine gz5 ?_;refine dq (uCl zr6 rfl zfg) ?_;refine gz4 ?_;refine uGr rfl (fun hc=>uCl ca92 rfl zgJ) ?_;refine gz4 ?_;refine uCo (fun h5=> ?_) fun h6=> ?_
 refine gz4 ?_;refine uRp ?_
 (refine congrArg _ (zA (e:=1) ?_ hg ?_ ?_)
  omega
  unfold zeu;exact uT
  first|decide|assumption)
 refine gz3 ?_;refine dq (uCl zhU rfl zaQ) ?_;refine gz4 ?_;refine uGr rfl (fun hc=>uCl zhU rfl zaQ) ?_;refine gz4 ?_;refine uCo (fun h7=> ?_) fun h8=> ?_
 refine gz4 ?_;refine uRp ?_
 (refine congrArg _ (zA (e:=5) ?_ hg ?_ ?_)
  omega
  unfold zeu;exact uT
  first|decide|assumption)
 refine gz8 ?_;refine uCo (fun h9=> ?_) fun h10=> ?_
 refine gz4 ?_;refine uRp ?_
 (refine congrArg _ (zA (e:=6) ?_ hg ?_ ?_)
  omega
  unfold zeu;exact uT
  first|decide|assumption)
 refine gz7 ?_;refine uCo (fun h11=> ?_) fun h12=> ?_
 refine gz4 ?_;refine dq (zC (j:=k-1) (a:=l.getD (k-1) zi2) zb3 zaw rfl rfl uO (getD_some uO)) ?_;refine gz1 ?_;refine de rfl (zi zaw rfl fun b5=> ?_)
 refine de0 (zo zaw rfl rfl rfl rfl rfl ?_)
 refine gz1 ?_;refine zf (zp 5 rfl) ?_;refine gz5 ?_;refine dq (za (hs:=[_,_]) zV ty3 rfl rfl (by decide) (by decide) rfl) ?_;refine gz4 ?_;refine dq (za (hs:=[_,_]) zV ty3 rfl rfl (by decide) (by decide) rfl) ?_;refine dq (uCl zvd rfl (zem (a:=[(l.getD (k-1) zi2).Week,(l.getD (k-1) zi2).At]) (b:=[x.Week,x.At]) (by simp) (by simp))) ?_;refine gz2 ?_;have hord:=zvX (x:=x) (p:=l.getD (k-1) zi2);refine zi6 ?_;refine uCo (fun h13=> ?_) fun h14=> ?_
 refine gz4 ?_;refine uRp ?_
 (refine congrArg _ (zA (e:=7) ?_ hg ?_ ?_)
  omega
  unfold zeu;exact uT
  first|decide|assumption)
 refine gz7 ?_;refine ⟨k+1,?_,?_,⟨rfl,trivial⟩,uK,Ac _⟩
 refine ⟨by omega,?_⟩
 rw [hg,zaN (by unfold zeu;(try clear hdx hg);(try simp only [Af]);focus first|(simp_all;done)|((repeat' split)<;>focus first|rfl|(exfalso;omega)|(simp_all;done)|(exfalso;rcases ‹_\/_› with q|q<;>simp_all;done)|(exfalso;simp_all;omega)))]
 dsimp only;omega
 refine gz7 ?_;refine ⟨k+1,?_,?_,⟨rfl,trivial⟩,uK,Ac _⟩
 refine ⟨by omega,?_⟩
 rw [hg,zaN (by unfold zeu;(try clear hdx hg);(try simp only [Af]);focus first|(simp_all;done)|((repeat' split)<;>focus first|rfl|(exfalso;omega)|(simp_all;done)|(exfalso;rcases ‹_\/_› with q|q<;>simp_all;done)|(exfalso;simp_all;omega)))]
 dsimp only;omega
 have hnk:l.length<=k:=by omega
 obtain rfl:k=l.length:=by omega
 rw [zD (Ae _)] at hg;refine gz2 ?_;refine zn ?_;refine gz6 ?_;refine uRp ?_
 (refine congrArg _ (zbG ?_ hg)
  omega)
theorem zf7 [Tracks] {n d:Int} (hn: -1000000000000<=n/\n<=1000000000000) (hd:0<=d/\d<=1000000000000):ConP prog 212 [.int .i64 n,.int .i64 d] (.int .i64 ((Nat.gcd n.natAbs d.natAbs:Nat):Int)):=by
 refine uOb func212 ntmps212 ?_;refine gz5 ?_;refine uU2 [0,2,5,6] (fun (a:Int) (b:Int)=>[(0,.int .i64 a),(1,.int .i64 b)]) (fun (a:Int) (b:Int)=>[]) (fun (a:Int) (b:Int)=>(-1000000000000<=a/\a<=1000000000000)/\(-1000000000000<=b/\b<=1000000000000)/\Nat.gcd a.natAbs b.natAbs=Nat.gcd n.natAbs d.natAbs) (fun (a:Int) (b:Int)=>b.natAbs) (n) (d) ?_ ?_;exact ⟨hn,by omega,rfl⟩;rintro a b ⟨ha,hb,hg⟩;refine gz5 ?_;refine uCo (fun h1=> ?_) fun h2=> ?_
 have hb0:b≠0:=by simpa using h1
 obtain ⟨m1,m2,m3⟩:=zqT (a:=a) hb0;refine gz3 ?_;refine zkv mixed ?_;refine gz3 ?_;refine uB 3 rfl (zcL rfl rfl uO) ?_;refine gz4 ?_;refine ⟨b,a.tmod b,?_,?_,⟨rfl,rfl,trivial⟩,uK,Ac _⟩
 exact ⟨hb,by omega,by rw [zuZ];exact hg⟩
 dsimp only;exact m3
 obtain rfl:b=0:=by simpa using h2
 rw [show (0:Int).natAbs=0 from rfl,Nat.gcd_zero_right] at hg;refine gz2 ?_;refine zJ ?_;refine gz5 ?_;refine dq (zlB rfl uO uO) ?_;refine dq (zwu rfl rfl) ?_;refine gz3 ?_;refine uRp ?_;rw [<-hg]
 congr 1
 omega
theorem zc1 [Tracks] {n d most:Int} (hn: -1000000000<=n/\n<=1000000000) (hd: -1000000000<=d/\d<=1000000000) (hm:0<=most/\most<=1000000):ConP prog 151 [.agg [.int .i64 n,.int .i64 d],.int .i64 most] (.int .i64 (zcj n d most)):=by
 refine uOb func151 ntmps151 ?_;refine zi6 ?_;refine dg rfl rfl (fun hc=>by
  have hd1:1<=d:=by (have q:=hc;simp at q;omega)
  exact ⟨_,OpenTo.upd (t:=13) rfl (hc) (OpenTo.upd (t:=11) rfl (hc) (OpenTo.refl _)),uCl zvx rfl (zf7 (n:=n) (d:=d) uO uO)⟩) ?_
 refine gz4 ?_;refine uCo (fun h1=> ?_) fun h2=> ?_
 have hp3:=pts3 (n:=n) (d:=d) (by assumption);refine gz4 ?_;refine uRp ?_;unfold zcj
 (rw [if_pos hp3])
 have hp0:=pts0 (n:=n) (d:=d) uSa;have hd1:1<=d:=by (focus first|omega|(simp_all;done)|(simp_all;omega))
 have hmd:=zqA (a:=most) (b:=d) (A:=1000000) (B:=1000000000) uO uO uO uO;have hmn: -most*d= -(most*d):=Int.neg_mul _ _;refine gz3 ?_;refine dq (zcL rfl rfl uO) ?_;refine gz5 ?_;refine uGr rfl (fun hc=>by have hq:=hc;(try simp at hq);exact zlB rfl uO uO) ?_;refine gz2 ?_;refine uGr rfl (fun hc=>by have hq:=hc;(try simp at hq);exact zfB rfl rfl uO uO) ?_;refine gz8 ?_;refine uGr rfl (fun hc=>by have hq:=hc;(try simp at hq);exact zfB rfl rfl uO uO) ?_;refine gz4 ?_;refine uCo (fun h3=> ?_) fun h4=> ?_
 have hp1:=pts1 (n:=n) (d:=d) (m:=most) (by assumption);refine gz4 ?_;refine uRp ?_;unfold zcj
 (rw [if_neg (by rw [hp0];simp;omega),if_pos hp1])
 refine gz3 ?_;have hp2:=pts2 (n:=n) (d:=d) (m:=most) (by assumption);refine gz4 ?_;refine uRp ?_;unfold zcj
 (rw [if_neg (by rw [hp0];simp;omega),if_neg hp2])
theorem ziR [Tracks] {l:List RuleS} (hl:l.length<=1000000) (hb: ∀x∈l,((-1000000000<=x.Num/\x.Num<=1000000000)/\ -1000000000<=x.Den/\x.Den<=1000000000)):ConP prog 82 [zhW l] (.int .i64 (zh8 l)):=by
 refine uOb func82 ntmps82 ?_;refine gz9 ?_;refine uCo (fun h1=> ?_) fun h2=> ?_
 refine gz4 ?_;refine uRp ?_
 (refine congrArg _ (zbW ?_)
  omega)
 refine zdz ?_;refine uT1 [2,2,5,3,13,70] (fun k=>[(13,.int .i64 k),(3,.str (zlU RuleS.Key ziG l k))]) (fun k=>[]) (fun k=>k<=l.length/\(zaO zdd ziG l 0 l=zaO zdd ziG l k (l.drop k))) (fun k=>l.length-k) (0) ?_ ?_;exact ⟨Ad _,rfl⟩;rintro k ⟨hk,hg⟩;refine gz4 ?_;refine uCo (fun h3=> ?_) fun h4=> ?_
 obtain ⟨x,hx⟩: ∃x,l[k]? =some x:=⟨_,Aa h3⟩
 have hdx:=zg hx;rw [hdx] at hg;refine gz7 ?_;refine de rfl (zi zgC rfl fun b5=> ?_)
 refine de0 (zo zgC rfl rfl rfl rfl rfl ?_)
 refine gz1 ?_;refine zf (zp 5 rfl) ?_;refine gz9 ?_;refine dq (zau (h':= .bool (zpK x.Kind)) (zhq rfl) rfl) ?_;refine gz6 ?_;refine dq (uCl zhU rfl zaQ) ?_;refine gz4 ?_;refine uGr rfl (fun hc=>uCl zhU rfl zaQ) ?_;refine gz9 ?_;refine uGr rfl (fun hc=>uCl zhU rfl zaQ) ?_;refine gz5 ?_;refine uCo (fun h5=> ?_) fun h6=> ?_
 refine gz4 ?_;refine uRp ?_
 (refine congrArg _ (zA (e:=5) ?_ hg ?_ ?_)
  omega
  unfold zdd;exact uT
  first|decide|assumption)
 have hkx:key x.Key=true:=by simp_all
 have hll:=zrC (f:=RuleS.Key) (d:=ziG) (l:=l) (k:=k) (x:=x) hkx;refine gz7 ?_;refine uCo (fun h7=> ?_) fun h8=> ?_
 refine gz4 ?_;refine uRp ?_
 (refine congrArg _ (zA (e:=7) ?_ hg ?_ ?_)
  omega
  unfold zdd;exact uT
  first|decide|assumption)
 refine gz3 ?_;refine dq (uCl zge rfl zaK) ?_;refine gz3 ?_;refine uCo (fun h9=> ?_) fun h10=> ?_
 refine gz4 ?_;refine uRp ?_
 (refine congrArg _ (zA (e:=4) ?_ hg ?_ ?_)
  omega
  unfold zdd;exact uT
  first|decide|assumption)
 refine gz5 ?_;refine uGr rfl (fun hc=>uCl zge rfl zaK) ?_;refine zeZ ?_;refine uCo (fun h11=> ?_) fun h12=> ?_
 refine gz4 ?_;refine uRp ?_
 (refine congrArg _ (zA (e:=1) ?_ hg ?_ ?_)
  omega
  unfold zdd;exact uT
  first|decide|assumption)
 refine gz6 ?_;refine dq (zau (h':= .agg [.int .i64 x.Num,.int .i64 x.Den]) (zaV za4 rfl rfl (An rfl)) rfl) ?_;refine dq (uCl zr7 rfl (zc1 (n:=x.Num) (d:=x.Den) (most:=10000) (hb x (Ab hx)).1 (hb x (Ab hx)).2 uO)) ?_;refine gz6 ?_;refine uCo (fun h13=> ?_) fun h14=> ?_
 refine gz5 ?_;refine uRp ?_
 (refine congrArg _ (zA (e:=(zcj x.Num x.Den 10000)) ?_ hg ?_ ?_)
  omega
  unfold zdd;exact uT
  first|decide|assumption)
 refine zeZ ?_;exact ⟨k+1,⟨by omega,by rw [hg,zaN (by unfold zdd;(try clear hdx hg);(try simp only [Af]);focus first|(simp_all;done)|((repeat' split)<;>focus first|rfl|(exfalso;omega)|(simp_all;done)|(exfalso;rcases ‹_\/_› with q|q<;>simp_all;done)|(exfalso;simp_all;omega)))]⟩,uD,⟨rfl,congrArg (fun q=>some (HVal.str q)) (zoT hx).symm,trivial⟩,uK,Ac _⟩;have hnk:l.length<=k:=by omega
 obtain rfl:k=l.length:=by omega
 rw [zD (Ae _)] at hg;refine gz2 ?_;refine zn ?_;refine gz6 ?_;refine uRp ?_
 (refine congrArg _ (zbG ?_ hg)
  omega)
theorem zhO [Tracks] {y x:SlotS}:ConP prog 153 [zbs y,.vptr (zb (zbs x)) 0] (.bool (y.Key==x.Key)):=by
 refine uOb func153 ntmps153 ?_;refine zeZ ?_;refine zB rfl ?_
 rfl
theorem ziT [Tracks] {l:List SlotS} (hl:l.length<=1000000) (hp: ∀x∈l,x.Positions.length<=1000000):ConP prog 83 [zgP l] (.int .i64 (zdR l)):=by
 refine uOb func83 ntmps83 ?_;refine zct ?_;refine uCo (fun h1=> ?_) fun h2=> ?_
 ·refine gz4 ?_;refine uRp ?_
  (unfold zdR;simp_all;done)
 ·refine gz6 ?_;refine uCo (fun h3=> ?_) fun h4=> ?_
  ·refine gz4 ?_;refine uRp ?_
   (rw [zdR,if_neg (by first|omega|simp_all),if_pos uO];done)
  ·refine zat ?_;refine uT1 [2,4,16,21] (fun k=>[(16,.int .i64 k)]) (fun k=>[]) (fun k=>k<=l.length/\(zbU l 0 l=zbU l k (l.drop k))) (fun k=>l.length-k) (0) ?_ ?_
   ·exact ⟨Ad _,rfl⟩
   ·rintro k ⟨hk,hg⟩;refine gz4 ?_;refine uCo (fun h5=> ?_) fun h6=> ?_
    ·obtain ⟨x,hx⟩: ∃x,l[k]? =some x:=⟨_,Aa h5⟩
     have hdx:=zg hx;rw [hdx] at hg;refine gz8 ?_;refine de rfl (zi ze3 rfl fun b4=> ?_)
     refine gz1 ?_;refine de0 (zo ze3 rfl rfl rfl rfl rfl ?_)
     refine gz1 ?_;refine zf (zp 4 rfl) ?_;refine gz4 ?_;refine dq (uCl zhU rfl zaQ) ?_;refine gz2 ?_;refine uCo (fun h7=> ?_) fun h8=> ?_
     ·refine gz4 ?_;refine uRp ?_
      (refine congrArg _ (zgp (e:=5) ?_ ?_ hg ?_)
       ·first|omega|simp_all
       ·omega
       ·rw [zbU]
        simp_all
        done)
     ·refine gz6 ?_;refine dq (zaI zf3 ze3 rfl rfl ⟨_,_,rfl,rfl⟩ uO uO) ?_;refine gz1 ?_;refine dq (uCl zvj rfl (zbX (l:=l.take k) (p:=fun y=>y.Key==x.Key) zxT (fun _=>zhO) (by rw [AD];omega))) ?_;refine gz1 ?_;refine uCo (fun h9=> ?_) fun h10=> ?_
      ·refine gz4 ?_;refine uRp ?_
       (refine congrArg _ (zgp (e:=6) ?_ ?_ hg ?_)
        ·first|omega|simp_all
        ·omega
        ·rw [zbU]
         simp_all
         done)
      ·refine gz5 ?_;refine dq (uCl zvi rfl (zfv (hp x (Ab hx)))) ?_;refine gz6 ?_;refine uCo (fun h11=> ?_) fun h12=> ?_
       ·refine gz5 ?_;refine uRp ?_
        (refine congrArg _ (zgp (e:=(zgl x.Positions)) ?_ ?_ hg ?_)
         ·first|omega|simp_all
         ·omega
         ·rw [zbU]
          simp_all
          done)
       ·refine gz7 ?_;refine ⟨k+1,?_,?_,⟨rfl,trivial⟩,uK,Ac _⟩
        ·refine ⟨by omega,?_⟩
         rw [hg,zbU,if_neg uSa,if_neg uSa,if_neg uSa]
        ·dsimp only;omega
    ·have hnk:l.length<=k:=by omega
     obtain rfl:k=l.length:=by omega
     rw [zD (Ae _)] at hg;refine gz2 ?_;refine zn ?_;refine gz6 ?_;refine uRp ?_
     (refine congrArg _ (zqP ?_ ?_ hg)<;>first|omega|simp_all)
theorem zid [Tracks] {b:BoundS}:ConP prog 84 [zdy b] (.int .i64 (zbL b)):=by
 refine uOb func84 ntmps84 ?_;refine gz8 ?_;refine dq (uCl zge rfl zaK) ?_;refine gz4 ?_;refine uGr rfl (fun hc=>uCl zge rfl zaK) ?_;refine gz5 ?_;refine uGr rfl (fun hc=>uCl zge rfl zaK) ?_;refine gz5 ?_;refine uGr rfl (fun hc=>uCl zge rfl zaK) ?_;refine gz3 ?_;refine uCo (fun h1=> ?_) fun h2=> ?_
 refine gz4 ?_;refine uRp ?_;unfold zbL
 (rw [if_pos uSa])
 refine gz6 ?_;refine uRp ?_;unfold zbL
 (rw [if_neg uSa])
theorem zfw [Tracks] {a b:MoveS} (ha:MovB a) (hb:MovB b):ConP prog 29 [zci a,zci b] (.int .i64 (zfb a b)):=by
 obtain ⟨a1,a2⟩:=ha;obtain ⟨b1,b2⟩:=hb;refine uOb func29 ntmps29 ?_;refine zi6 ?_;refine uCo (fun h1=> ?_) fun h2=> ?_
 refine gz6 ?_;refine dq (uCl zt8 rfl zfh) ?_;refine gz3 ?_;refine uRp ?_;rw [zjR]
 try rw [zfq]
 simp_all
 refine gz8 ?_;refine uCo (fun h3=> ?_) fun h4=> ?_
 refine gz5 ?_;refine dq (uCl zcT rfl zG) ?_;refine gz3 ?_;refine uRp ?_;rw [zjR]
 try rw [zfq]
 simp_all
 refine gz8 ?_;refine uCo (fun h5=> ?_) fun h6=> ?_
 refine gz5 ?_;refine dq (uCl zcT rfl zG) ?_;refine gz3 ?_;refine uRp ?_;rw [zjR]
 try rw [zfq]
 simp_all
 refine gz9 ?_;refine dq (uCl zt8 rfl zfh) ?_;refine gz3 ?_;refine uRp ?_;rw [zjR]
 try rw [zfq]
 simp_all
theorem ziP [Tracks] {l:List MoveS} (hl:l.length<=1000000) (hb: ∀x∈l,MovB x):ConP prog 36 [zbz l] (.int .i64 (zcw l)):=by
 refine uOb func36 ntmps36 ?_;refine gz9 ?_;refine uCo (fun h1=> ?_) fun h2=> ?_
 refine gz4 ?_;refine uRp ?_
 (refine congrArg _ (zbW ?_)
  omega)
 refine gz9 ?_;refine uT1 [2,3,10,40] (fun k=>[(10,.int .i64 k)]) (fun k=>[]) (fun k=>k<=l.length/\(zaO zdt zhn l 0 l=zaO zdt zhn l k (l.drop k))) (fun k=>l.length-k) (0) ?_ ?_;exact ⟨Ad _,rfl⟩;rintro k ⟨hk,hg⟩;refine gz4 ?_;refine uCo (fun h3=> ?_) fun h4=> ?_
 obtain ⟨x,hx⟩: ∃x,l[k]? =some x:=⟨_,Aa h3⟩
 have hdx:=zg hx;rw [hdx] at hg;refine gz8 ?_;refine de rfl (zi zu rfl fun b4=> ?_)
 refine gz1 ?_;refine de0 (zo zu rfl rfl rfl rfl rfl ?_)
 refine gz1 ?_;refine zf (zp 4 rfl) ?_;refine gz4 ?_;refine dq (uCl ca92 rfl zgJ) ?_;refine gz3 ?_;refine uCo (fun h5=> ?_) fun h6=> ?_
 refine gz4 ?_;refine uRp ?_
 (refine congrArg _ (zA (e:=1) ?_ hg ?_ ?_)
  omega
  unfold zdt;exact uT
  first|decide|assumption)
 refine gz3 ?_;refine dq (uCl zge rfl zaK) ?_;refine gz3 ?_;refine uCo (fun h7=> ?_) fun h8=> ?_
 refine gz4 ?_;refine uRp ?_
 (refine congrArg _ (zA (e:=4) ?_ hg ?_ ?_)
  omega
  unfold zdt;exact uT
  first|decide|assumption)
 refine gz3 ?_;refine dq (uCl zhU rfl zaQ) ?_;refine gz4 ?_;refine uGr rfl (fun hc=>uCl zhU rfl zaQ) ?_;refine gz4 ?_;refine uCo (fun h9=> ?_) fun h10=> ?_
 refine gz4 ?_;refine uRp ?_
 (refine congrArg _ (zA (e:=5) ?_ hg ?_ ?_)
  omega
  unfold zdt;exact uT
  first|decide|assumption)
 have htu:=zuB (x:=x) (p:=l.getD (k-1) zhn);refine uDr mixed ?_;refine gz6 ?_;refine uGy 6 rfl rfl (fun hc=>by have hq:=hc;(try simp at hq);exact zC (j:=k-1) (a:=l.getD (k-1) zhn) zbA zu rfl rfl uO (getD_some uO)) ?_;refine gz2 ?_;refine uGy 9 rfl rfl (fun hc=>by have hq:=hc;(try simp at hq);exact uCl ca29 rfl (zfw (a:=l.getD (k-1) zhn) (b:=x) (hb _ (Ab (getD_some uO))) (hb _ (Ab hx)))) ?_;refine gz4 ?_;refine uCo (fun h11=> ?_) fun h12=> ?_
 refine gz4 ?_;refine uRp ?_
 (refine congrArg _ (zA (e:=7) ?_ hg ?_ ?_)
  omega
  unfold zdt;exact uT
  first|decide|assumption)
 refine gz8 ?_;refine ⟨k+1,?_,?_,⟨rfl,trivial⟩,uK,Ac _⟩
 refine ⟨by omega,?_⟩
 rw [hg,zaN (by unfold zdt;(try clear hdx hg);(try simp only [Af]);focus first|(simp_all;done)|((repeat' split)<;>focus first|rfl|(exfalso;omega)|(simp_all;done)|(exfalso;rcases ‹_\/_› with q|q<;>simp_all;done)|(exfalso;simp_all;omega)))]
 dsimp only;omega
 have hnk:l.length<=k:=by omega
 obtain rfl:k=l.length:=by omega
 rw [zD (Ae _)] at hg;refine gz2 ?_;refine zn ?_;refine gz6 ?_;refine uRp ?_
 (refine congrArg _ (zbG ?_ hg)
  omega)
theorem ze7 [Tracks] {l:List Str} (hl:l.length<=1000000):ConP prog 85 [eSs l] (.int .i64 (zcY l)):=by
 refine uOb func85 ntmps85 ?_;refine zct ?_;refine uCo (fun h1=> ?_) fun h2=> ?_
 refine gz4 ?_;refine uRp ?_
 (rw [zcY,if_pos uO])
 refine gz6 ?_;refine uCo (fun h3=> ?_) fun h4=> ?_
 refine gz4 ?_;refine uRp ?_
 (rw [zcY,if_neg uO,if_pos uO])
 refine gz5 ?_;refine dq (uCl zvk rfl (zgK (by assumption))) ?_;refine gz3 ?_;refine uRp ?_
 (rw [zcY,if_neg uO,if_neg uO])
theorem zfu [Tracks] {a b:GameS} (ha: -1000000000000000<=a.Week/\a.Week<=1000000000000000) (hb: -1000000000000000<=b.Week/\b.Week<=1000000000000000):ConP prog 71 [zaG a,zaG b] (.int .i64 (zeI a b)):=by
 refine uOb func71 ntmps71 ?_;refine zi6 ?_;refine uCo (fun h1=> ?_) fun h2=> ?_
 refine gz6 ?_;refine dq (uCl zt8 rfl zfh) ?_;refine gz3 ?_;refine uRp ?_;rw [zmt]
 try rw [zfq]
 simp_all
 refine gz8 ?_;refine uCo (fun h3=> ?_) fun h4=> ?_
 refine gz5 ?_;refine dq (uCl zcT rfl zG) ?_;refine gz3 ?_;refine uRp ?_;rw [zmt]
 try rw [zfq]
 simp_all
 refine gz8 ?_;refine dq (uCl zcT rfl zG) ?_;refine gz3 ?_;refine uRp ?_;rw [zmt]
 try rw [zfq]
 simp_all
theorem zhQ [Tracks] {x:GameS} (hb:((-1000000000<=x.FNum/\x.FNum<=1000000000)/\ -1000000000<=x.FDen/\x.FDen<=1000000000)/\((-1000000000<=x.ONum/\x.ONum<=1000000000)/\ -1000000000<=x.ODen/\x.ODen<=1000000000)):ConP prog 155 [zaG x] (.int .i64 (zfQ x)):=by
 refine uOb func155 ntmps155 ?_;refine zat ?_;refine uCo (fun h1=> ?_) fun h2=> ?_
 refine gz3 ?_;refine dq (zau (h':= .agg [.int .i64 x.FNum,.int .i64 x.FDen]) (zaV za4 rfl rfl (An rfl)) rfl) ?_;refine dq (zH (cs:=[_,_]) za4 zkh rfl) ?_;refine dq (zgV za4 zpH rfl rfl ⟨rfl,⟨_,_,_,_,ty3,rfl⟩,⟨rfl,⟨_,_,_,_,ty3,rfl⟩,trivial⟩⟩) ?_;refine gz2 ?_;refine uGr rfl (fun hc=>zau (h':= .agg [.int .i64 x.ONum,.int .i64 x.ODen]) (zaV za4 rfl rfl (An rfl)) rfl) ?_;refine uGr rfl (fun hc=>zH (cs:=[_,_]) za4 zkh rfl) ?_;refine uGr rfl (fun hc=>zgV za4 zpH rfl rfl ⟨rfl,⟨_,_,_,_,ty3,rfl⟩,⟨rfl,⟨_,_,_,_,ty3,rfl⟩,trivial⟩⟩) ?_;refine gz2 ?_;refine uCo (fun h3=> ?_) fun h4=> ?_
 simp [zaM,zfm,eqH] at h3
 refine gz4 ?_;refine uRp ?_
 (unfold zfQ;simp_all)
 refine gz2 ?_
 simp [zaM,zfm,eqH] at h4
 refine gz4 ?_;refine uRp ?_
 (unfold zfQ;simp_all)
 refine gz2 ?_;have hpl:x.Played=true:=by simpa using h2
 have hgf:=zuj hpl;refine uDr mixed ?_;refine gz1 ?_;refine uB 1 rfl (zau (h':= .agg [.int .i64 x.FNum,.int .i64 x.FDen]) (zaV za4 rfl rfl (An rfl)) rfl) ?_;refine uB 2 rfl (uCl zr7 rfl (zc1 (n:=x.FNum) (d:=x.FDen) (most:=1000000) hb.1.1 hb.1.2 uO)) ?_;refine gz1 ?_;refine uB 4 rfl (zau (h':= .agg [.int .i64 x.ONum,.int .i64 x.ODen]) (zaV za4 rfl rfl (An rfl)) rfl) ?_;refine uB 5 rfl (uCl zr7 rfl (zc1 (n:=x.ONum) (d:=x.ODen) (most:=1000000) hb.2.1 hb.2.2 uO)) ?_;refine gz5 ?_;refine dq (za (hs:=[_,_]) zef zgv rfl rfl (by decide) (by decide) rfl) ?_;refine dq (zax (f:=HVal.int .i64) (l:=([3,1]:List Int)) zef rfl) ?_;refine gz3 ?_;refine uT1 [2,1,6,1,28,14] (fun k=>[(28,.int .i64 k)]) (fun k=>[]) (fun k=>k<=([3,1]:List Int).length/\(zu2 (zcj x.FNum x.FDen 1000000) (zcj x.ONum x.ODen 1000000)=zlM (zcj x.FNum x.FDen 1000000) (zcj x.ONum x.ODen 1000000) (([3,1]:List Int).drop k))) (fun k=>([3,1]:List Int).length-k) (0) ?_ ?_;exact ⟨Ad _,rfl⟩;rintro k ⟨hk,hg⟩;refine gz4 ?_;refine uCo (fun h5=> ?_) fun h6=> ?_
 obtain ⟨z,hz⟩: ∃z,([3,1]:List Int)[k]? =some z:=⟨_,Aa (by show k<2;omega)⟩
 have hdz:=zg hz;rw [hdz] at hg;refine gz5 ?_;refine dq (zC zef zgv rfl rfl rfl (by assumption)) ?_;refine zeZ ?_;refine uCo (fun h7=> ?_) fun h8=> ?_
 refine gz5 ?_;refine uRp ?_
 (rw [hgf,hg,zlM,if_pos uSa])
 refine gz7 ?_;refine ⟨k+1,?_,?_,⟨rfl,trivial⟩,uK,Ac _⟩
 refine ⟨by show k+1<=2;omega,?_⟩
 rw [hg,zlM,if_neg uSa]
 show 2-(k+1)<2-k
 omega
 refine gz2 ?_;refine zn ?_;refine gz6 ?_;refine uRp ?_
 (have e2:k=2:=by (have q:([3,1]:List Int).length=2:=rfl;omega)
  subst e2;rw [hgf,hg];rfl)
theorem zhL [Tracks] {y x:GameS}:ConP prog 156 [zaG y,.vptr (zb (zaG x)) 0] (.bool (zgO x y)):=by
 refine uOb func156 ntmps156 ?_;refine gz40 ?_;refine gz1 ?_;refine zB rfl ?_
 show HVal.bool _=_
 unfold zgO
 simp [B2]
theorem ziO [Tracks] {T:List Str} {l:List GameS} (hT:T.length<=1000000) (hl:l.length<=1000000) (hb: ∀x∈l,GamB x):ConP prog 86 [eSs T,zjw l] (.int .i64 (zfP T l)):=by
 refine uOb func86 ntmps86 ?_;refine gz6 ?_;refine dq (uCl ca85 rfl (ze7 (by assumption))) ?_;refine gz6 ?_;refine uCo (fun h1=> ?_) fun h2=> ?_
 ·refine gz5 ?_;refine uRp ?_
  try rw [hE]
  (rw [zfP,if_pos (by assumption)];done)
 ·refine gz3 ?_;have hz:zcY T=0:=by first|assumption|simp_all
  have hE:zfP T l=zdm T l:=by rw [zfP,if_neg (by simp [hz])]
  refine gz5 ?_;refine uCo (fun h3=> ?_) fun h4=> ?_
  ·refine gz4 ?_;refine uRp ?_
   try rw [hE]
   (refine congrArg _ (zc5 (zbW ?_) (by decide))
    omega)
  ·refine gz9 ?_;refine uT1 [4,1,6,3,21,47] (fun k=>[(21,.int .i64 k)]) (fun k=>[]) (fun k=>k<=l.length/\(zaO (zbP T) zdu l 0 l=zaO (zbP T) zdu l k (l.drop k))) (fun k=>l.length-k) (0) ?_ ?_
   ·exact ⟨Ad _,rfl⟩
   ·rintro k ⟨hk,hg⟩;refine gz4 ?_;refine uCo (fun h5=> ?_) fun h6=> ?_
    ·obtain ⟨x,hx⟩: ∃x,l[k]? =some x:=⟨_,Aa h5⟩
     have hdx:=zg hx;rw [hdx] at hg;refine gz8 ?_;refine de rfl (zi zbD rfl fun b7=> ?_)
     refine gz1 ?_;refine de0 (zo zbD rfl rfl rfl rfl rfl ?_)
     refine gz1 ?_;refine zf (zp 7 rfl) ?_;refine gz5 ?_;refine dq (uCl zr6 rfl zfg) ?_;refine gz3 ?_;refine uCo (fun h7=> ?_) fun h8=> ?_
     ·refine gz4 ?_;refine uRp ?_
      try rw [hE]
      (refine congrArg _ (zc5 (e:=1) (zA ?_ hg ?_ ?_) ?_)
       ·omega
       ·unfold zbP
        simp_all
        done
       ·first|decide|assumption
       ·first|decide|assumption)
     ·refine gz4 ?_;refine dq (uCl zeL rfl (zF (l:=T) (s:=x.Home) uO)) ?_;refine gz5 ?_;refine uGr rfl (fun hc=>by have hq:=hc;(try simp at hq);exact uCl zeL rfl (zF (l:=T) (s:=x.Away) uO)) ?_;refine gz4 ?_;refine uCo (fun h9=> ?_) fun h10=> ?_
      ·refine gz4 ?_;refine uRp ?_
       try rw [hE]
       (refine congrArg _ (zc5 (e:=8) (zA ?_ hg ?_ ?_) ?_)
        ·omega
        ·unfold zbP
         simp_all
         done
        ·first|decide|assumption
        ·first|decide|assumption)
      ·refine gz8 ?_;refine uCo (fun h11=> ?_) fun h12=> ?_
       ·refine gz4 ?_;refine uRp ?_
        try rw [hE]
        (refine congrArg _ (zc5 (e:=6) (zA ?_ hg ?_ ?_) ?_)
         ·omega
         ·unfold zbP
          simp_all
          done
         ·first|decide|assumption
         ·first|decide|assumption)
       ·refine gz5 ?_;refine dq (zeA (h:=zaG x) zbD rfl rfl rfl rfl) ?_;refine dq (uCl zxU rfl (zhQ (x:=x) ⟨(hb x (Ab hx)).fr,(hb x (Ab hx)).ot⟩)) ?_;refine gz6 ?_;refine uCo (fun h13=> ?_) fun h14=> ?_
        ·refine gz5 ?_;refine uRp ?_
         try rw [hE]
         (refine congrArg _ (zc5 (e:=(zfQ x)) (zA ?_ hg ?_ ?_) ?_)
          ·omega
          ·unfold zbP
           simp_all
           done
          ·first|decide|assumption
          ·first|decide|assumption)
        ·refine gz2 ?_;have htu:=zuk (x:=x) (p:=l.getD (k-1) zdu);refine uDr mixed ?_;refine gz6 ?_;refine uGy 6 rfl rfl (fun hc=>by have hq:=hc;(try simp at hq);exact zC (j:=k-1) (a:=l.getD (k-1) zdu) zeE zbD rfl rfl uO (getD_some uO)) ?_;refine gz2 ?_;refine uGy 9 rfl rfl (fun hc=>by have hq:=hc;(try simp at hq);exact uCl ca71 rfl (zfu (a:=l.getD (k-1) zdu) (b:=x) (hb _ (Ab (getD_some uO))).week (hb _ (Ab hx)).week)) ?_;refine gz3 ?_;refine uCo (fun h15=> ?_) fun h16=> ?_
         ·refine gz4 ?_;refine uRp ?_
          try rw [hE]
          (refine congrArg _ (zc5 (e:=7) (zA ?_ hg ?_ ?_) ?_)
           ·omega
           ·unfold zbP
            simp_all
            done
           ·first|decide|assumption
           ·first|decide|assumption)
         ·refine gz7 ?_;refine ⟨k+1,?_,?_,⟨rfl,trivial⟩,uK,Ac _⟩
          ·refine ⟨by omega,?_⟩
           rw [hg,zaN (by unfold zbP;(try clear hdx hg);(try simp only [Af]);first|(simp_all;done)|((repeat' split)<;>first|rfl|(exfalso;omega)|(simp_all;done)|(exfalso;rcases ‹_\/_› with q|q<;>simp_all;done)|(exfalso;simp_all;omega)))]
          ·dsimp only;omega
    ·have hnk:l.length<=k:=by omega
     obtain rfl:k=l.length:=by omega
     rw [zD (Ae _)] at hg;refine gz2 ?_;refine zn ?_;refine gz9 ?_;refine uT1 [4,1,9,2,70,11] (fun k=>[(70,.int .i64 k)]) (fun k=>[]) (fun k=>k<=l.length/\(zcU l 0 l=zcU l k (l.drop k))) (fun k=>l.length-k) (0) ?_ ?_
     ·exact ⟨Ad _,rfl⟩
     ·rintro k ⟨hk,hg2⟩;refine gz4 ?_;refine uCo (fun h17=> ?_) fun h18=> ?_
      ·obtain ⟨x,hx⟩: ∃x,l[k]? =some x:=⟨_,Aa h17⟩
       have hdx:=zg hx;rw [hdx] at hg2;refine gz8 ?_;refine de rfl (zi zbD rfl fun b10=> ?_)
       refine gz1 ?_;refine de0 (zo zbD rfl rfl rfl rfl rfl ?_)
       refine gz1 ?_;refine zf (zp 10 rfl) ?_;refine gz3 ?_;refine dq (zaI zeE zbD rfl rfl ⟨_,_,rfl,rfl⟩ uO uO) ?_;refine gz1 ?_;refine dq (uCl zt9 rfl (za6 (l:=l.take k) (p:=zgO x) zxV (fun _=>zhL) (by rw [AD];omega))) ?_;refine gz1 ?_;refine uCo (fun h19=> ?_) fun h20=> ?_
       ·refine gz4 ?_;refine uRp ?_
        try rw [hE]
        (rw [zdm,if_neg (by rw [<-zbG uO hg];simp),if_pos (by rw [hg2,zcU];simp_all)];done)
       ·refine gz7 ?_;refine ⟨k+1,?_,?_,⟨rfl,trivial⟩,uK,Ac _⟩
        ·refine ⟨by omega,?_⟩
         rw [hg2,zcU];simp_all
        ·dsimp only;omega
      ·have hnk:l.length<=k:=by omega
       obtain rfl:k=l.length:=by omega
       rw [zD (Ae _)] at hg2;refine gz2 ?_;refine zn ?_;refine gz6 ?_;refine uRp ?_
       try rw [hE]
       (rw [zdm,if_neg (by rw [<-zbG uO hg];simp),if_neg (by rw [hg2];simp [zcU])];done)
theorem zie [Tracks] {l:List Int} (hl:l.length<=1000000):ConP prog 89 [.slice 1 (l.map (HVal.int .i64))] (.int .i64 (zg0 l)):=by
 refine uOb func89 ntmps89 ?_;refine gz9 ?_;refine uCo (fun h1=> ?_) fun h2=> ?_
 ·refine gz4 ?_;refine uRp ?_
  (rw [zg0,if_pos uO];done)
 ·refine gz9 ?_;refine uT1 [2,3,10,14] (fun k=>[(10,.int .i64 k)]) (fun k=>[]) (fun k=>k<=l.length/\(zc9 l 0 l=zc9 l k (l.drop k))) (fun k=>l.length-k) (0) ?_ ?_
  ·exact ⟨Ad _,rfl⟩
  ·rintro k ⟨hk,hg⟩;refine gz4 ?_;refine uCo (fun h3=> ?_) fun h4=> ?_
   ·obtain ⟨x,hx⟩: ∃x,l[k]? =some x:=⟨_,Aa h3⟩
    have hdx:=zg hx;rw [hdx] at hg;refine zdN ?_;refine dq (uCl zge rfl zaK) ?_;refine gz2 ?_;refine uCo (fun h5=> ?_) fun h6=> ?_
    ·refine gz4 ?_;refine uRp ?_
     (refine congrArg _ (zlP (e:=4) ?_ hg ?_)
      ·omega
      ·rw [zc9]
       simp_all
       done)
    ·refine gz5 ?_;refine dq (zaI zV ty3 rfl rfl ⟨_,_,rfl,rfl⟩ uO uO) ?_;refine gz1 ?_;refine dq (uCl zvl rfl (zea (l:=l.take k) (z:=x) (by rw [AD];omega))) ?_;refine gz1 ?_;refine uCo (fun h7=> ?_) fun h8=> ?_
     ·refine gz4 ?_;refine uRp ?_
      (refine congrArg _ (zlP (e:=6) ?_ hg ?_)
       ·omega
       ·rw [zc9]
        simp_all
        done)
     ·refine gz7 ?_;refine ⟨k+1,?_,?_,⟨rfl,trivial⟩,uK,Ac _⟩
      ·refine ⟨by omega,?_⟩
       rw [hg,zc9,if_neg uSa,if_neg uSa]
      ·dsimp only;omega
   ·have hnk:l.length<=k:=by omega
    obtain rfl:k=l.length:=by omega
    rw [zD (Ae _)] at hg;refine gz2 ?_;refine zn ?_;refine gz6 ?_;refine uRp ?_
    (refine congrArg _ (zrn ?_ hg)
     omega)
end
section
open Go.Proofs.Tryz
open Go.HL
theorem zkY [Tracks] {a b:MendS}:ConP prog 100 [zbO a,zbO b] (.int .i64 (zdK a b)):=by
 refine uOb func100 ntmps100 ?_;refine gz5 ?_;refine uDr mixed ?_;refine gz4 ?_;refine uB 4 rfl (uCl zcT rfl zG) ?_;refine gz4 ?_;refine uB 9 rfl (uCl zch rfl zN) ?_;refine gz4 ?_;refine uB 14 rfl (uCl zcT rfl zG) ?_;refine gz4 ?_;refine uB 19 rfl (uCl zch rfl zN) ?_;refine uB 20 rfl (za (hs:=[_,_,_,_]) zV ty3 rfl rfl (by decide) (by decide) rfl) ?_;refine uB 21 rfl (uCl zeM rfl (zaW (l:=[_,_,_,_]) (by simp))) ?_;refine gz3 ?_;refine zB rfl ?_
 rfl
theorem ziL [Tracks] {m:List MendS} (hl:m.length<=1000000) (hgm: ∀x∈m,zfE x):ConP prog 38 [zcc m] (.int .i64 (zdX m)):=by
 refine uOb func38 ntmps38 ?_;refine gz9 ?_;refine uCo (fun h1=> ?_) fun h2=> ?_
 ·refine gz4 ?_;refine uRp ?_
  (rw [zdX,if_pos uO];done)
 ·refine gz9 ?_;refine uT1 [2,3,10,59] (fun k=>[(10,.int .i64 k)]) (fun k=>[]) (fun k=>k<=m.length/\(zdb zaD zdK zdv m 0 m=zdb zaD zdK zdv m k (m.drop k))) (fun k=>m.length-k) (0) ?_ ?_
  ·exact ⟨Ad _,rfl⟩
  ·rintro k ⟨hk,hg⟩;refine gz4 ?_;refine uCo (fun h3=> ?_) fun h4=> ?_
   ·obtain ⟨x,hx⟩: ∃x,m[k]? =some x:=⟨_,Aa h3⟩
    have hdx:=zg hx;rw [hdx] at hg;refine gz8 ?_;refine de rfl (zi zf2 rfl fun b4=> ?_)
    refine gz1 ?_;refine de0 (zo zf2 rfl rfl rfl rfl rfl ?_)
    refine gz1 ?_;refine zf (zp 4 rfl) ?_;refine gz4 ?_;refine dq (uCl zj6 rfl (zbd (hgm x (Ab hx)).1)) ?_;refine gz4 ?_;refine uGr rfl (fun hc=>uCl zj6 rfl (zbd (hgm x (Ab hx)).2.1)) ?_;refine gz5 ?_;refine uGr rfl (fun hc=>uCl zj6 rfl (zbd (hgm x (Ab hx)).2.2)) ?_;refine gz4 ?_;refine uCo (fun h5=> ?_) fun h6=> ?_
    ·refine gz4 ?_;refine uRp ?_
     (refine congrArg _ (ziD (c:=5) uO hg (by decide) ?_)
      rw [zaD,if_pos]
      simp_all
      done)
    ·refine gz3 ?_;refine dq (uCl zua rfl zdw) ?_;refine gz4 ?_;refine uGr rfl (fun hc=>uCl zmD rfl zb1) ?_;refine gz5 ?_;refine uGr rfl (fun hc=>uCl zsd rfl zbZ) ?_;refine gz5 ?_;refine uGr rfl (fun hc=>uCl zmD rfl zb1) ?_;refine gz4 ?_;refine uCo (fun h7=> ?_) fun h8=> ?_
     ·refine gz4 ?_;refine uRp ?_
      (refine congrArg _ (ziD (c:=1) uO hg (by decide) ?_)
       rw [zaD,if_neg,if_pos]
       all_goals simp_all
       done)
     ·refine uDr mixed ?_;refine gz6 ?_;refine uGy 6 rfl rfl (fun hc=>by have hq:=hc;(try simp at hq);exact zC (j:=k-1) (a:=m.getD (k-1) zdv) zkt zf2 rfl rfl uO (getD_some uO)) ?_;refine gz2 ?_;refine uGy 9 rfl rfl (fun hc=>uCl zxo rfl zkY) ?_;refine gz4 ?_;refine uCo (fun h9=> ?_) fun h10=> ?_
      ·refine gz4 ?_;refine uRp ?_
       (have f1:=ziq.flip x (m.getD (k-1) zdv) trivial trivial
        have f2:=ziq.flip (m.getD (k-1) zdv) x trivial trivial;refine congrArg _ (zoW uO hg ?_ ?_ ?_)
        ·rw [zaD,if_neg,if_neg]<;>simp_all
        ·simp_all
        ·simp_all;omega)
      ·refine gz8 ?_;refine ⟨k+1,?_,?_,⟨rfl,trivial⟩,uK,Ac _⟩
       ·refine ⟨by omega,?_⟩
        rw [hg,zqd (by rw [zaD,if_neg uSa,if_neg uSa]) (by intro hk0;have:=ziq.flip x (m.getD (k-1) zdv) trivial trivial;have:=ziq.flip (m.getD (k-1) zdv) x trivial trivial;simp_all;try omega)]
       ·dsimp only;omega
   ·have hnk:m.length<=k:=by omega
    obtain rfl:k=m.length:=by omega
    rw [zD (Ae _)] at hg;refine gz2 ?_;refine zn ?_;refine gz6 ?_;refine uRp ?_
    (rw [zdX,if_neg uO,hg];rfl)
end
section
open Go.Proofs.Tryz
open Go.HL
theorem zpg [Tracks] {l:List Str} {fid:FuncId} {caps:List HVal} {p:Str->Bool} (hca:Callable prog fid) (hp: ∀x∈l,ConP prog fid ([HVal.str x]++caps) (.bool (p x))) (hl:l.length<=1000000):ConP prog 112 [.slice 1 (l.map HVal.str),.fn (.func fid) [] caps] (.int .i64 (zaf p l 0)):=by
 refine uOb func112 ntmps112 ?_;refine zat ?_;refine uT1 [4,2,8,11] (fun k=>[(8,.int .i64 k)]) (fun k=>[]) (fun k=>k<=l.length/\(zaf p l 0=zaf p (l.drop k) k)) (fun k=>l.length-k) (0) ?_ ?_;exact ⟨Ad _,rfl⟩;rintro k ⟨hk,hg⟩;refine gz4 ?_;refine uCo (fun h1=> ?_) fun h2=> ?_
 obtain ⟨x,hx⟩: ∃x,l[k]? =some x:=⟨_,Aa h1⟩
 have hdx:=zg hx;rw [hdx] at hg;refine zdN ?_;refine dq (zan hca rfl rfl (WeakL.refl _) (hp _ (Ab hx))) ?_;refine gz1 ?_;refine uCo (fun h3=> ?_) fun h4=> ?_
 refine gz5 ?_;refine uRp ?_
 (rw [hg];simp_all [zaf])
 refine gz7 ?_;refine ⟨k+1,?_,?_,⟨rfl,trivial⟩,uK,Ac _⟩
 refine ⟨by omega,?_⟩
 rw [hg,zaf,if_neg uSa];rfl
 dsimp only;omega
 have hnk:l.length<=k:=by omega
 obtain rfl:k=l.length:=by omega
 rw [zD (Ae _)] at hg;refine gz2 ?_;refine zn ?_;refine gz6 ?_;refine uRp ?_
 (rw [hg];rfl)
theorem zmv [Tracks] {l:List Str} {fid:FuncId} {caps:List HVal} {p:Str->Bool} (hca:Callable prog fid) (hp: ∀x∈l,ConP prog fid ([HVal.str x]++caps) (.bool (p x))) (hl:l.length<=1000000):ConP prog 45 [.slice 1 (l.map HVal.str),.fn (.func fid) [] caps] (.bool (l.any p)):=by
 refine uOb func45 ntmps45 ?_;refine gz6 ?_;refine dq (uCl zr3 rfl (zpg hca hp hl)) ?_;refine gz4 ?_;refine zB rfl ?_
 congr 1;exact zcH p l 0 uO
theorem zhg [Tracks] {x:GameS}:ConP prog 88 [zaG x] (.bool x.Played):=by
 refine uOb func88 ntmps88 ?_;refine zat ?_;refine zB rfl ?_
 rfl
theorem zic [Tracks] {g:LeagueS} (hT:Tracks.on=false) (hb:LeaB g) (hg: ∀x∈g.Games,GamB x) (ht: ∀s∈g.Trust,Sh s):ConP prog 34 [zd1 g] (.int .i64 (zbQ g)):=by
 have hst:=hb.sta;refine uOb func34 ntmps34 ?_;refine gz8 ?_;refine dq (uCl ca79 rfl (zhN (l:=g.Players) hT hb.pl hb.nm hb.po)) ?_;refine gz6 ?_;refine uCo (fun h1=> ?_) fun h2=> ?_
 refine gz5 ?_;refine uRp ?_;exact congrArg _ (zts (by assumption));refine gz3 ?_;refine uDr mixed ?_;refine gz4 ?_;refine uB 4 rfl (uCl ca80 rfl (zig (L:=g.Players) (l:=g.Stints) hb.pl hb.st)) ?_;refine gz2 ?_;refine uB 7 rfl (uCl ca81 rfl (zhh (l:=g.Fixtures) hb.fx)) ?_;refine gz2 ?_;refine uB 10 rfl (uCl ca82 rfl (ziR (l:=g.Rules) hb.ru hb.rw')) ?_;refine gz2 ?_;refine uB 13 rfl (uCl ca83 rfl (ziT (l:=g.Slots) hb.sl hb.sp)) ?_;refine gz1 ?_;refine uB 15 rfl (zau (h':=zdy g.Bounds) (zaV zgt rfl rfl (An rfl)) rfl) ?_;refine uB 16 rfl (uCl ca84 rfl (zid (b:=g.Bounds))) ?_;refine gz2 ?_;refine uB 19 rfl (uCl ca85 rfl (ze7 (l:=g.Teams) hb.tm)) ?_;refine uB 20 rfl (za (hs:=[_,_,_,_,_,_]) zef zgv rfl rfl (by decide) (by decide) rfl) ?_;refine uB 21 rfl (uCl zt5 rfl (zel (l:=[_,_,_,_,_,_]) (by simp))) ?_;refine gz6 ?_;refine uCo (fun h3=> ?_) fun h4=> ?_
 refine gz5 ?_;refine uRp ?_;exact congrArg _ (zw1 (by assumption) (by assumption));refine gz3 ?_;have hB:zg4 g=0:=by assumption
 have hgt:=zvY (l:=g.Games) (zux hB);refine gz5 ?_;refine dq (zau (uCl ca86 rfl (ziO (T:=g.Teams) (l:=g.Games) hb.tm hb.ga hg)) (congrArg (HVal.int .i64) hgt)) ?_;refine gz6 ?_;refine uCo (fun h5=> ?_) fun h6=> ?_
 refine gz5 ?_;refine uRp ?_;exact congrArg _ (zw2 (by assumption) hB (by assumption));refine gz6 ?_;refine dq (uCl zt9 rfl (za6 (l:=g.Games) (p:=fun x=>x.Played) ca88 (fun _=>zhg) hb.ga)) ?_;refine gz1 ?_;refine uCo (fun h7=> ?_) fun h8=> ?_
 refine gz4 ?_;refine uRp ?_;exact congrArg _ (zw3 (by assumption) hB (by assumption) (by unfold zcK;simp_all));refine gz3 ?_;refine uDr mixed ?_;refine gz2 ?_;refine uB 2 rfl (uCl ca89 rfl (zie (l:=g.Breaks) hb.br)) ?_;refine gz2 ?_;refine uB 5 rfl (uCl ca90 rfl (ziN (l:=g.Trust) hb.tr ht)) ?_;refine gz2 ?_;refine uB 8 rfl (uCl zsd rfl zbZ) ?_;refine uB 9 rfl (za (hs:=[_,_,_]) zef zgv rfl rfl (by decide) (by decide) rfl) ?_;refine uB 10 rfl (uCl zt5 rfl (zel (l:=[_,_,_]) (by simp))) ?_;refine gz6 ?_;refine uCo (fun h9=> ?_) fun h10=> ?_
 refine gz5 ?_;refine uRp ?_;exact congrArg _ (zw4 (by assumption) hB (by assumption) (by unfold zcK;simp_all) (by assumption));refine gz8 ?_;refine uCo (fun h11=> ?_) fun h12=> ?_
 refine gz4 ?_;refine uRp ?_
 (rw [ztt (by assumption) hB (by assumption) (by unfold zcK;simp_all) (by assumption),if_pos uO])
 refine gz6 ?_;refine uRp ?_
 (rw [ztt (by assumption) hB (by assumption) (by unfold zcK;simp_all) (by assumption),if_neg uO])
theorem zjT [Tracks] {a b:ChoiceS}:ConP prog 104 [zao a,zao b] (.int .i64 (zim a b)):=by
 refine uOb func104 ntmps104 ?_;refine gz5 ?_;refine uDr mixed ?_;refine gz4 ?_;refine uB 4 rfl (uCl zcT rfl zG) ?_;refine gz4 ?_;refine uB 9 rfl (uCl zch rfl zN) ?_;refine gz4 ?_;refine uB 14 rfl (uCl zch rfl zN) ?_;refine uB 15 rfl (za (hs:=[_,_,_]) zV ty3 rfl rfl (by decide) (by decide) rfl) ?_;refine uB 16 rfl (uCl zeM rfl (zaW (l:=[_,_,_]) (by simp))) ?_;refine gz3 ?_;refine zB rfl ?_
 rfl
theorem zdT [Tracks] {s:Str} (hs:Sh s):ConP prog 102 [.str s] (.bool (!(zbo s))):=by
 refine uOb func102 ntmps102 ?_;refine gz8 ?_;refine uGr rfl (fun hc=>uCl zj6 rfl (zbd hs)) ?_;refine gz5 ?_;refine zB rfl ?_
 show HVal.bool _=_
 rw [ztB]
 cases s with
 |nil=>rfl
 |cons x r=>simp
theorem zhK [Tracks] {g:LeagueS} {l:List ChoiceS} (hb:LeaB g) (hl:l.length<=1000000) (hp: ∀x∈l,x.Players.length<=1000000) (hcs: ∀x∈l,(∀s∈x.Players,Sh s)/\Sh x.Captain):ConP prog 40 [zd1 g,zmE l] (.int .i64 (zse g.Teams g.Slots.length l)):=by
 refine uOb func40 ntmps40 ?_;refine zat ?_;refine uCo (fun h1=> ?_) fun h2=> ?_
 refine gz4 ?_;refine uRp ?_
 (refine congrArg _ (zbW ?_)
  omega)
 refine zdz ?_;refine uT1 [4,1,6,2,13,56] (fun k=>[(13,.int .i64 k)]) (fun k=>[]) (fun k=>k<=l.length/\(zaO (zbv g.Teams g.Slots.length) zeN l 0 l=zaO (zbv g.Teams g.Slots.length) zeN l k (l.drop k))) (fun k=>l.length-k) (0) ?_ ?_;exact ⟨Ad _,rfl⟩;rintro k ⟨hk,hg⟩;refine gz4 ?_;refine uCo (fun h3=> ?_) fun h4=> ?_
 obtain ⟨x,hx⟩: ∃x,l[k]? =some x:=⟨_,Aa h3⟩
 have hdx:=zg hx;rw [hdx] at hg;refine gz6 ?_;refine dq (zC zgu zee rfl rfl rfl (by assumption)) ?_;refine gz1 ?_;refine de rfl (zi zee rfl fun b7=> ?_)
 refine gz1 ?_;refine de0 (zo zee rfl rfl rfl rfl rfl ?_)
 refine gz1 ?_;refine zf (zp 7 rfl) ?_;refine gz1 ?_;have hwk: ∀n:Int,((if zcA n then (0:Int) else 1)=0)↔zcA n=true:=fun n=>by cases zcA n<;>simp
 have hmo: ∀n:Int,((if zY n then (0:Int) else 1)=0)↔zY n=true:=fun n=>by cases zY n<;>simp
 refine gz5 ?_;refine dq (uCl zeL rfl (zF (l:=g.Teams) (s:=x.Team) (by have:=hb.tm;omega))) ?_;refine gz3 ?_;refine uCo (fun h5=> ?_) fun h6=> ?_
 refine gz4 ?_;refine uRp ?_
 (refine congrArg _ (zA (e:=8) ?_ hg ?_ ?_)
  omega
  unfold zbv
  (try generalize ((x.Players++[x.Captain]).all zbo)=N at*)
  exact uT
  first|decide|assumption)
 refine gz3 ?_;refine dq (uCl zua rfl zdw) ?_;refine gz4 ?_;refine uGr rfl (fun hc=>uCl zsd rfl zbZ) ?_;refine gz4 ?_;refine uCo (fun h7=> ?_) fun h8=> ?_
 refine gz4 ?_;refine uRp ?_
 (refine congrArg _ (zA (e:=1) ?_ hg ?_ ?_)
  omega
  unfold zbv
  (try generalize ((x.Players++[x.Captain]).all zbo)=N at*)
  exact uT
  first|decide|assumption)
 refine gz3 ?_;refine dq (zax (f:=HVal.str) (l:=x.Players) zj rfl) ?_;refine gz2 ?_;refine dq (zax (f:=zbs) (l:=g.Slots) zf3 rfl) ?_;refine gz3 ?_;refine uCo (fun h9=> ?_) fun h10=> ?_
 refine gz4 ?_;refine uRp ?_
 (refine congrArg _ (zA (e:=3) ?_ hg ?_ ?_)
  omega
  unfold zbv
  (try generalize ((x.Players++[x.Captain]).all zbo)=N at*)
  exact uT
  first|decide|assumption)
 refine gz4 ?_;refine dq (uCl ca45 rfl (zmv (l:=x.Players) (p:=fun s=> !(zbo s)) zva (fun s hs=>zdT ((hcs x (Ab hx)).1 s hs)) (hp x (Ab hx)))) ?_;refine gz4 ?_;refine uGr rfl (fun hc=>zan zva rfl rfl (WeakL.refl _) (zdT (hcs x (Ab hx)).2)) ?_;refine gz3 ?_;refine uCo (fun h11=> ?_) fun h12=> ?_
 have hbad:((x.Players++[x.Captain]).all zbo)=false:=zrc (by assumption);refine gz4 ?_;refine uRp ?_
 (refine congrArg _ (zA (e:=5) ?_ hg ?_ ?_)
  omega
  unfold zbv
  (try generalize ((x.Players++[x.Captain]).all zbo)=N at*)
  exact uT
  first|decide|assumption)
 have hgood:((x.Players++[x.Captain]).all zbo)=true:=by rw [ztC];simp_all
 have htu:=zub (x:=x) (p:=l.getD (k-1) zeN);refine uDr mixed ?_;refine gz6 ?_;refine uGy 6 rfl rfl (fun hc=>by have hq:=hc;(try simp at hq);exact zC (j:=k-1) (a:=l.getD (k-1) zeN) zgu zee rfl rfl uO (getD_some uO)) ?_;refine gz2 ?_;refine uGy 9 rfl rfl (fun hc=>uCl zxp rfl zjT) ?_;refine gz4 ?_;refine uCo (fun h13=> ?_) fun h14=> ?_
 refine gz4 ?_;refine uRp ?_
 (refine congrArg _ (zA (e:=7) ?_ hg ?_ ?_)
  omega
  unfold zbv
  (try generalize ((x.Players++[x.Captain]).all zbo)=N at*)
  exact uT
  first|decide|assumption)
 refine gz8 ?_;refine ⟨k+1,?_,?_,⟨rfl,trivial⟩,uK,Ac _⟩
 refine ⟨by omega,?_⟩
 rw [hg,zaN (by unfold zbv;(try generalize ((x.Players++[x.Captain]).all zbo)=N at*);(try clear hdx hg);(try simp only [Af]);focus first|(simp_all;done)|((repeat' split)<;>focus first|rfl|(exfalso;omega)|(simp_all;done)|(exfalso;rcases ‹_\/_› with q|q<;>simp_all;done)|(exfalso;simp_all;omega)))]
 dsimp only;omega
 have hnk:l.length<=k:=by omega
 obtain rfl:k=l.length:=by omega
 rw [zD (Ae _)] at hg;refine gz2 ?_;refine zn ?_;refine gz6 ?_;refine uRp ?_
 (refine congrArg _ (zbG ?_ hg)
  omega)
theorem zjp [Tracks] {b:BookS} (hT:Tracks.on=false) (hb:BookC b):ConP prog 12 [zeb b] (.int .i64 (zdJ b)):=by
 refine uOb func12 ntmps12 ?_;refine gz7 ?_;refine dq (zau (h':=zd1 b.League) (zaV za9 rfl rfl (An rfl)) rfl) ?_;refine dq (uCl ca34 rfl (zic (g:=b.League) hT hb.bb.lea hb.gw hb.tr)) ?_;refine gz6 ?_;refine uCo (fun h1=> ?_) fun h2=> ?_
 refine gz5 ?_;refine uRp ?_;unfold zdJ
 (rw [if_pos (by assumption)])
 refine gz2 ?_;refine uDr mixed ?_;refine gz2 ?_;refine uB 2 rfl (uCl ca36 rfl (ziP (l:=b.Moves) hb.bb.mv hb.mb)) ?_;refine gz2 ?_;refine uB 5 rfl (uCl ca37 rfl (ziM (l:=b.Plays) hb.bb.pl hb.pg)) ?_;refine gz2 ?_;refine uB 8 rfl (uCl ca38 rfl (ziL (m:=b.Mends) hb.bb.me hb.mg)) ?_;refine gz5 ?_;refine uB 14 rfl (uCl ca39 rfl (zif (L:=b.League.Players) (l:=b.Health) hb.bb.lea.pl hb.bb.he hb.hw)) ?_;refine gz1 ?_;refine uB 16 rfl (zau (h':=zd1 b.League) (zaV za9 rfl rfl (An rfl)) rfl) ?_;refine gz2 ?_;refine uB 19 rfl (uCl ca40 rfl (zhK (g:=b.League) (l:=b.Choices) hb.bb.lea hb.bb.ch hb.bb.cp hb.cs)) ?_;refine uB 20 rfl (za (hs:=[_,_,_,_,_]) zef zgv rfl rfl (by decide) (by decide) rfl) ?_;refine uB 21 rfl (uCl zt5 rfl (zel (l:=[_,_,_,_,_]) (by simp))) ?_;refine gz3 ?_;refine uRp ?_;unfold zdJ
 (rw [if_neg (fun q=>q h2)])
end
end Go.Proofs.YtaihpegdcgdcgaaGreatDoor
namespace Go.HL
section
section
variable {κ:Type}
end
end
section

end
section
def zwL (x:LineS):Prop:=Sh x.Player/\∀s∈x.Stats,Sh s.Name
abbrev LnV:=LineS×Value
structure LG where
 u:Value
 out:List LnV
 a:Nat
def zsT (p:LnV):Prop:=zwL p.1/\p.1.Stats.length<=3
structure LGok (n m:Nat) (q:LG):Prop where
 len:q.out.length<=n
 all: ∀p∈q.out,zsT p
 a:q.a<=m
theorem LGok.mono {n n' m m':Nat} {q:LG} (h:LGok n m q) (hn:n<=n') (hm:m<=m'):LGok n' m' q:=⟨Ay h.len hn,h.all,Ay h.a hm⟩
theorem LGok.same {n m m':Nat} {u:Value} {out:List LnV} {a1 a2:Nat} (h:LGok n m ⟨u,out,a1⟩) (ha:a2<=m'):LGok (n+1) m' ⟨u,out,a2⟩:=⟨Nat.le_succ_of_le h.len,h.all,ha⟩
theorem LGok.add {n m m':Nat} {u u':Value} {out:List LnV} {a1 a2:Nat} {p:LnV} (h:LGok n m ⟨u,out,a1⟩) (hp:zsT p) (ha:a2<=m'):LGok (n+1) m' ⟨u',out++[p],a2⟩:=
 ⟨by have:=h.len;simp only [AA,Ak,AL] at*;omega,fun y hy=>by
  rcases List.mem_append.1 hy with hy|hy
  exact h.all y hy;rw [List.mem_singleton.1 hy];exact hp,ha⟩
end
section
/-! sums-/
def znH (p:Str) (c:List (Of2×Int)) (s:StatS):List (Of2×Int):=zv (p,s.Name) ((alk (p,s.Name) c).getD 0+s.Count) c
def zvK (p:Str) (c:List (Of2×Int)) (l:List StatS):List (Of2×Int):=l.foldl (znH p) c
theorem LnOk.addC {q:LnS} {n:Nat} (h:LnOk q n) (p:Str) {s:StatS} (hb: -100000<=s.Count/\s.Count<=100000):LnOk ⟨q.S,znH p q.c s⟩ (n+1):=by
 have hv:=h.val (p,s.Name);refine ⟨h.c.put,h.S,h.k,Ay (znV _ _ _) (by have:=h.cl;omega),by have:=h.Sl;dsimp only;omega,fun e he=> ?_⟩
 rcases zco he with rfl|he
 dsimp only;omega
 have:=h.bd e he;omega
theorem LnOk.row (p:Str): ∀(l:List StatS) {q:LnS} {n:Nat},LnOk q n->(∀s∈l,-100000<=s.Count/\s.Count<=100000)->LnOk ⟨q.S,zvK p q.c l⟩ (n+l.length)
 |[],q,n,h,_=>h
 |s::r,q,n,h,hb=>by
   have h1:=LnOk.row p r (h.addC p (hb s Am)) fun y hy=>hb y (Av _ hy)
   rw [Ak,show n+(r.length+1)=n+1+r.length by omega];exact h1
theorem zqz {κ α:Type} [DecidableEq κ]: ∀{S D:List (κ×α)},ANodup (D++S)->zog D S=D++S
 |[],D,_=>by simp [zog]
 |p::r,D,h=>by
   have hn:alk p.1 D=none:=by
    rw [zeh];intro hm;unfold ANodup at h;rw [AB] at h;exact (List.nodup_append.1 h).2.2 _ hm _ Am rfl
   have e:zv p.1 p.2 D=D++[p]:=zjN hn
   show zog (zv p.1 p.2 D) r=_
   rw [e,zqz (by simpa using h)]
   simp
end
section
def stP (l:List StatS):List (Str×Int):=l.foldl (fun c s=>zv s.Name s.Count c) []
theorem zrQ (l:List StatS):stP l=zog [] (stA l):=by
 unfold stP zog stA;rw [List.foldl_map]
theorem ztR (l:List StatS):ANodup (stP l):=by rw [zrQ];exact zno ANodup.nil
theorem zxh {l:List StatS} (h:(l.map (·.Name)).Nodup):stP l=stA l:=by
 rw [zrQ,zqz (by simpa using zpa h)];rfl
def zpN (l:List StatS) (s:Str) (n:Int):List StatS:=znJ (zv s n (stP l))
theorem zt0 {κ:Type} [DecidableEq κ] {c:List (κ×Int)} (hn:ANodup c) (k:κ):(alk k (c.filter fun e=>e.2 !=0)).getD 0=(alk k c).getD 0:=by
 have hn2:ANodup (c.filter fun e=>e.2 !=0):=by
  unfold ANodup at*;exact hn.sublist (List.filter_sublist.map _)
 cases hq:alk k (c.filter fun e=>e.2 !=0) with
 |some v=>
   have h1:=(List.mem_filter.1 (zbl hq)).1;rw [(zga hn).1 h1]
 |none=>
   cases hr:alk k c with
   |none=>rfl
   |some v=>
     by_cases hv:v=0
     rw [hv];rfl;have h1:(k,v)∈c.filter fun e=>e.2 !=0:=List.mem_filter.2 ⟨zbl hr,by simpa using hv⟩
     rw [(zga hn2).1 h1] at hq
     cases hq
theorem zoo {c:List (Str×Int)} (hn:ANodup c):StOk (zon c) where
 nd:=by
  unfold zon;rw [AX];unfold ANodup at hn;exact hn.sublist (List.filter_sublist.map _)
 nz x hx:=by
  unfold zon at hx;obtain ⟨e,he,rfl⟩:=List.mem_map.1 hx;have:=(List.mem_filter.1 he).2
  simpa using this
theorem ztT {c:List (Str×Int)} (hn:ANodup c):StOk (znJ c):=(zoo hn).sort
theorem zsG {c:List (Str×Int)} (hn:ANodup c) (s:Str):sv (znJ c) s=(alk s c).getD 0:=by
 have h1:sv (znJ c) s=sv (zon c) s:=zwJ (zoo hn).nd (zbC zei _) s;have h2:stA (zon c)=c.filter fun e=>e.2 !=0:=by
  unfold stA zon;rw [AX];exact List.map_id _
 rw [h1];unfold sv;rw [h2];exact zt0 hn s
theorem ztS {l:List StatS} (h:(l.map (·.Name)).Nodup) (hw:l.Pairwise fun a b=> ¬zei b a<0):zag zei l=l:=
 (zix zgb (fun _ _ hx hy e=>zwh h hx hy (zcb.1 e)) (Ac _) hw).symm
theorem zrb {l:List StatS} (h:(l.map (·.Name)).Nodup):zag zei (zag zei l)=zag zei l:=by
 have h1:=zh2 zgb (l:=l) (fun _ _=>trivial);refine ztS (((zbC zei l).map _).nodup_iff.2 h) (h1.imp fun {a b} hab=> ?_)
 have:=zgb.flip a b trivial trivial;have:=zgb.flip b a trivial trivial
 omega
structure RfSt (l:List StatS):Prop where
 ok:StOk l
 so:zag zei l=l
theorem RfSt.nil:RfSt []:=⟨StOk.nil,rfl⟩
theorem RfSt.put {l:List StatS} (h:RfSt l) (s:Str) (n:Int):RfSt (zpN l s n)/\∀t,sv (zpN l s n) t=if t=s then n else sv l t:=by
 have hn:ANodup (zv s n (stP l)):=(ztR l).put;refine ⟨⟨ztT hn,zrb (zoo hn).nd⟩,fun t=> ?_⟩
 unfold zpN;rw [zsG hn,zcI,zxh h.ok.nd]
 by_cases e:t=s
 rw [if_pos e,if_pos e];rfl;rw [if_neg e,if_neg e];rfl
structure RfOk (G:GrS):Prop where
 nd:ANodup G
 st: ∀q∈G,RfSt q.2
theorem RfOk.get {G:GrS} (h:RfOk G) (p:Plc):RfSt ((alk p G).getD []):=by
 cases hq:alk p G with
 |none=>exact RfSt.nil
 |some l=>exact h.st _ (zbl hq)
theorem zzf {G:GrS} (h:RfOk G):GSOk G:=⟨h.nd,fun q hq=>(h.st q hq).ok⟩
theorem RfOk.put {G:GrS} (h:RfOk G) (p:Plc) (s:Str) (n:Int):RfOk (zv p (zpN ((alk p G).getD []) s n) G):=
 ⟨h.nd.put,fun q hq=>by
  rcases zco hq with rfl|hq
  exact ((h.get p).put s n).1;exact h.st q hq⟩
end
section
theorem zov {κ α:Type} [DecidableEq κ] (s:κ) (v v':α): ∀G:List (κ×α),zv s v' (zv s v G)=zv s v' G
 |[]=>by simp [zv]
 |p::r=>by
   have ih:=zov s v v' r
   by_cases h:s=p.1
   simp [zv,h]
   simp [zv,h,ih]
theorem zow {κ α:Type} [DecidableEq κ] {s:κ} {v:α}: ∀{G:List (κ×α)},alk s G=some v->zv s v G=G
 |[],h=>by simp [alk] at h
 |p::r,h=>by
   by_cases e:s=p.1
   simp only [alk,if_pos e] at h;have:=Aw h;subst this;unfold zv;rw [if_pos e,e];simp only [alk,if_neg e] at h;have ih:=zow h;simp only [zv,if_neg e,ih]
def rowI (L:List (Str×Int)) (l:List StatS):List (Str×Int):=l.foldl (fun L s=>zv s.Name ((alk s.Name L).getD 0+s.Count) L) L
theorem GrOk.row {S:List Str} {p:Str} {b:Nat}: ∀(l:List StatS) {c:List (Of2×Int)} {G:GrM Str} {L:List (Str×Int)},GrOk S c G->alk p G=some (b,L)->GrOk S (zvK p c l) (zv p (b,rowI L l) G)
 |[],c,G,L,h,hq=>by
   show GrOk S c (zv p (b,L) G)
   rw [zow hq];exact h
 |s::r,c,G,L,h,hq=>by
   have hL:=h.get hq;have h1:=h.put hq s.Name ((alk s.Name L).getD 0+s.Count);have e:zv (p,s.Name) ((alk s.Name L).getD 0+s.Count) c=znH p c s:=by unfold znH;rw [hL,zoO]
   rw [e] at h1;have h2:=GrOk.row r h1 (L:=zv s.Name ((alk s.Name L).getD 0+s.Count) L) (by rw [zcI,if_pos rfl]);rw [zov] at h2;exact h2
end
section
structure DisOk (q:DisS) (n:Nat):Prop where
 c:ANodup q.c
 S:q.S.Nodup
 k: ∀s∈q.S,s.length<=40
 cl:q.c.length<=n
 Sl:q.S.length<=n
 bd: ∀e∈q.c,-(100000*(n:Int))<=e.2/\e.2<=100000*(n:Int)
theorem DisOk.val {q:DisS} {n:Nat} (h:DisOk q n) (s:Str×Of2): -(100000*(n:Int))<=(alk s q.c).getD 0/\(alk s q.c).getD 0<=100000*(n:Int):=by
 cases hq:alk s q.c with
 |none=>simp;omega
 |some v=>exact h.bd _ (zbl hq)
theorem DisOk.up {q:DisS} {n:Nat} (h:DisOk q n):DisOk q (n+1):=
 ⟨h.c,h.S,h.k,by have:=h.cl;omega,by have:=h.Sl;omega,fun e he=>by have:=h.bd e he;omega⟩
theorem DisOk.sput {q:DisS} {n:Nat} (h:DisOk q n) {p:Play} (hp:playFault p=0):DisOk ⟨zcf p.Source q.S,q.c⟩ (n+1):=by
 refine ⟨h.c,zht h.S,fun s hs=> ?_,by have:=h.cl;dsimp only;omega,Ay (zrM _ _) (by have:=h.Sl;omega),fun e he=>by have:=h.bd e he;omega⟩
 rcases zkg.1 hs with rfl|hs
 exact zrB (zez hp).1;exact h.k s hs
theorem DisOk.put {q:DisS} {n:Nat} (h:DisOk q n) {p:Play} (hp:playFault p=0):DisOk ⟨zcf p.Source q.S,zwQ q p⟩ (n+1):=by
 have hs:=h.sput hp;obtain ⟨_,_,_,_,_,hb,_⟩:=zez hp;have hv:=h.val (zqk p);refine ⟨h.c.put,hs.S,hs.k,Ay (znV _ _ _) (by have:=h.cl;omega),hs.Sl,fun e he=> ?_⟩
 rcases zco he with rfl|he
 dsimp only;omega
 have:=h.bd e he;omega
end
section

end
section
theorem znP (x:Of2): ∀(A:List Of2) (p:Option Of2),zdS p (A++[x])=zdS p A++if (A.getLast?.or p)=some x then [] else [x]
 |[],p=>by
   by_cases h:p=some x<;>simp [zdS,h]
 |y::A,p=>by
   have ih:=znP x A (some y);have e:((y::A).getLast?.or p)=(A.getLast?.or (some y)):=by
    cases A with
    |nil=>simp
    |cons z A=>simp [List.getLast?_cons_cons,List.getLast?_cons]
   simp only [AY,zdS];rw [e,ih]
   split<;>simp
theorem zsS {l:List Of2} {k:Nat} {x y:Of2} (hx:l[k]? =some x) (hy:l[k-1]? =some y) (h0:0<k):zdS none (l.take (k+1))=zdS none (l.take k)++if x=y then [] else [x]:=by
 have hk:=zl hx;rw [zaj hx,znP];have e:((l.take k).getLast?.or none)=some y:=by
  rw [List.getLast?_eq_getElem?,AD,Cb (by omega),AC (by omega),hy];rfl
 rw [e]
 by_cases h:x=y
 rw [if_pos h,if_pos (by rw [h])];rw [if_neg h,if_neg (by simpa using fun q:y=x=>h q.symm)]
structure CmpO (l:List Of2) (j:Nat) (D:List Of2):Prop where
 len:D.length=l.length
 lo:D.take (zdS none (l.take j)).length=zdS none (l.take j)
 lt:(zdS none (l.take j)).length<j
 hi: ∀i,j<=i+1->D[i]? =l[i]?
theorem CmpO.same {l D:List Of2} {j:Nat} (h:CmpO l j D) {x y:Of2} (hx:l[j]? =some x) (hy:l[j-1]? =some y) (e:x=y):CmpO l (j+1) D/\(zdS none (l.take (j+1))).length=(zdS none (l.take j)).length:=by
 have h0:=h.lt;have h1:zdS none (l.take (j+1))=zdS none (l.take j):=by rw [zsS hx hy (by omega),if_pos e];simp
 exact ⟨⟨h.len,by rw [h1];exact h.lo,by rw [h1];omega,fun i hi=>h.hi i (by omega)⟩,by rw [h1]⟩
end
section
theorem zul {l:List Str} {i:Nat} (h:i<l.length):l.getD i []∈l:=by
 rw [Af,Aa h];exact Bu h
end
section

end
section
open Op
end
end Go.HL
section
namespace Go.HL
section
variable {P:Program} {e:Env} {dst:Option Tmp} {ty:TypeId} {pos:String} {af:Array Edge} {g:Option (Nat×Bool)}
end
end Go.HL
namespace Go.HL
end Go.HL
end
namespace Go.HL
section
open Op
end
section
open Op
end
section
open Op
end
section
open Op
def sp4:List Str:=[[100,102],[102,119],[103,107],[109,102]]
def nm5:List Str:=[[97,110,110],[98,101,97],[99,105,100],[100,97,110],[101,118,101]]
def sl4:List Str:=[[115,98],[115,97],[115,99],[115,100]]
def ru5:List Str:=[[114,97],[114,98],[114,99],[114,100],[114,101]]
structure GoodPy (p:PlayerS):Prop where
 name:p.Name∈zb8
 pos:p.Positions.length<=4
structure GoodPys (l:List PlayerS):Prop where
 len:l.length<=5
 all: ∀p∈l,GoodPy p
def zlO (x:SlotS):Prop:=x.Positions.length<=10
structure GoodSlos (l:List SlotS):Prop where
 len:l.length<=4
 all: ∀x∈l,zlO x
def zjm (x:SlotS):Prop:=x.Positions.length<=4
structure GoodS4s (l:List SlotS):Prop where
 len:l.length<=4
 all: ∀x∈l,zjm x
theorem GoodS4s.up {l:List SlotS} (h:GoodS4s l):GoodSlos l:=⟨h.len,fun x hx=>by have:=h.all x hx;dsimp only [zjm] at this;show x.Positions.length<=10;omega⟩
def zpV (x:HealthS):Prop:= -1000000000000000<=x.To/\x.To<=1000000000000000
structure GoodHes (l:List HealthS):Prop where
 len:l.length<=10
 all: ∀x∈l,zpV x
def ofB (L:List PlayerS) (s:Str):Bool:=decide (zaf (fun x:PlayerS=>x.Key==s) L 0<0)&&(s !=[122,101,100])
theorem GoodHes.filter {l:List HealthS} {p:HealthS->Bool} (h1:l.length<=10) (h2: ∀x∈l,zpV x):GoodHes (l.filter p):=
 ⟨Ay (AW _ _) h1,fun x hx=>h2 x (List.mem_filter.1 hx).1⟩
def ztY (x:RuleS):Prop:=(-1000000000<=x.Num/\x.Num<=1000000000)/\ -1000000000<=x.Den/\x.Den<=1000000000
structure GoodRus (l:List RuleS):Prop where
 len:l.length<=5
 all: ∀x∈l,ztY x
theorem zrt {n g:Int} (h: -1000<=n/\n<=1000): -1000000000<=n.tdiv g/\n.tdiv g<=1000000000:=by
 have h1:(n.tdiv g).natAbs<=n.natAbs:=by
  rw [Int.natAbs_tdiv];exact Nat.div_le_self _ _
 omega
def zfU (n d:Int):Int:=((Nat.gcd n.natAbs d.natAbs:Nat):Int)
theorem zwe {n d:Int} (h:1<=d):1<=zfU n d:=by
 unfold zfU;have:=Nat.gcd_pos_of_pos_right n.natAbs (show 0<d.natAbs by omega)
 omega
end
section
open Op
def onI (W p n:Int):Int:=if 0<p then 1+((p-1-(W-1)).tmod (n-1)+(n-1)).tmod (n-1) else p
def onS (T:List Str) (W p n:Int):Str:=if T.length<=onI W p n then [] else T.getD (onI W p n).toNat []
theorem zyW {W p n:Int} (hp:0<=p/\p<=10) (hn:2<=n/\n<=10):(-10<=(p-1-(W-1)).tmod (n-1)/\(p-1-(W-1)).tmod (n-1)<=10)/\(0<=((p-1-(W-1)).tmod (n-1)+(n-1)).tmod (n-1)/\((p-1-(W-1)).tmod (n-1)+(n-1)).tmod (n-1)<=10)/\0<=onI W p n:=by
 obtain ⟨m1,m2,_⟩:=zqT (a:=p-1-(W-1)) (b:=n-1) (by omega);have h0:0<=(p-1-(W-1)).tmod (n-1)+(n-1):=by omega
 have h1:=Int.tmod_nonneg (n-1) h0;have h2:=BT ((p-1-(W-1)).tmod (n-1)+(n-1)) (show 0<n-1 by omega);refine ⟨⟨by omega,by omega⟩,⟨h1,by omega⟩,?_⟩
 unfold onI
 split<;>omega
def zfl:List Str->List Str->Int
 |[],[]=>0
 |[],_::_=> -1
 |_::_,[]=>1
 |a::l,b::m=>if zS a b≠0 then zS a b else zfl l m
theorem zud {l m:List Str} (h:m.length<=0\/m=[]) (hl:l≠[]):zfl l m=1:=by
 have hm:m=[]:=by
  rcases h with h|h
  cases m with
  |nil=>rfl
  |cons _ _=>simp at h
  exact h
 subst hm
 cases l with
 |nil=>exact absurd rfl hl
 |cons _ _=>rfl
theorem zs5 {a b:Str} {l m:List Str} (h:zS a b=0):zfl (a::l) (b::m)=zfl l m:=by rw [zfl,if_neg (by simp [h])]
theorem zs6 {a b:Str} {l m:List Str} (h:zS a b≠0):zfl (a::l) (b::m)=zS a b:=by rw [zfl,if_pos h]
theorem zj7 {m:List Str} {k:Nat} (h:k<m.length):m.drop k=m.getD k []::m.drop (k+1):=by
 rw [List.drop_eq_getElem_cons h,Af,Aa h];rfl
theorem zqf {m:List Str} (k:Nat):zfl [] (m.drop k)=if k<m.length then-1 else 0:=by
 split
 rename_i h;rw [zj7 h];rfl
 rename_i h;rw [Bj (by omega)];rfl
def zms (x y:FixS):Int:=if zd7 [x.Week,x.At] [y.Week,y.At]≠0 then zd7 [x.Week,x.At] [y.Week,y.At] else zfl [x.Home] [y.Home]
theorem zt3:Cmp zms fun _=>True:=by
 have h:=zc3 (zeO FixS.Week) (zc3 (zeO FixS.At) (zfz FixS.Home));have e:zms=fun a b=>if zX a.Week b.Week≠0 then zX a.Week b.Week else if zX a.At b.At≠0 then zX a.At b.At else zS a.Home b.Home:=by
  funext a b
  unfold zms;have e1:zd7 [a.Week,a.At] [b.Week,b.At]=if zX a.Week b.Week≠0 then zX a.Week b.Week else zX a.At b.At:=by
   rw [zd7,zd7,zd7]
   by_cases h2:zX a.At b.At≠0
   rw [if_pos h2];rw [if_neg h2];simp at h2;rw [h2]
  have e2:zfl [a.Home] [b.Home]=zS a.Home b.Home:=by
   rw [zfl,zfl]
   by_cases h2:zS a.Home b.Home≠0
   rw [if_pos h2];rw [if_neg h2];simp at h2;rw [h2]
  rw [e1,e2]
  by_cases h1:zX a.Week b.Week≠0
  rw [if_pos h1,if_pos h1,if_pos h1];rw [if_neg h1,if_neg h1]
 rw [e];exact h
def nOf (T:List Str):Int:=(T.length:Int)+(T.length:Int).tmod 2
def mOf (T:List Str):Int:=(nOf T).tdiv 2
theorem zw7 {T:List Str} (h:2<=T.length/\T.length<=4):(0<=(T.length:Int).tmod 2/\(T.length:Int).tmod 2<=1)/\(2<=nOf T/\nOf T<=4)/\(1<=mOf T/\mOf T<=2)/\2*mOf T=nOf T:=by
 have h3:T.length=2\/T.length=3\/T.length=4:=by omega
 unfold mOf nOf
 rcases h3 with e|e|e<;>(rw [e];decide)
theorem zrw {w:Nat} {x y:Str} (h:w<=10):GamB ⟨(w:Int)+1,x,y,false,0,0,0,0⟩:=⟨by dsimp only;omega,by dsimp only;omega,by dsimp only;omega⟩
structure GoodGas (l:List GameS):Prop where
 len:l.length<=6
 all: ∀x∈l,GamB x
def tm4:List Str:=[[116,97],[116,98],[116,99],[116,100]]
theorem zdZ {y:Int} (h:2<=y):HasAB (tm4.take y.toNat):=by
 obtain ⟨n,hn⟩: ∃n,y.toNat=n+2:=⟨y.toNat-2,by omega⟩
 rw [hn];unfold HasAB tm4
 constructor<;>simp
structure LeaC (g:LeagueS):Prop where
 lea:LeaB g
 gw: ∀x∈g.Games,GamB x
 tr: ∀s∈g.Trust,Sh s
 sl:g.Slots.length<=4
 tm:g.Teams.length<=5
 pl:g.Players.length<=5
 tt:HasAB g.Teams
theorem zhB {g:LeagueS} (h1:GoodPys g.Players) (h2:g.Stints.length<=10) (h3:g.Fixtures.length<=12) (h4:GoodRus g.Rules) (h5:GoodSlos g.Slots) (h6:g.Teams.length<=5) (h7:g.Games.length<=6/\∀x∈g.Games,GamB x)
 (h8:g.Breaks.length<=6) (h9:g.Trust.length<=100/\∀s∈g.Trust,Sh s) (h10: -1<=g.Start/\g.Start<=1000000000000) (h11:HasAB g.Teams):LeaC g:=by
 have l1:=h1.len;have l4:=h4.len;have l5:=h5.len;refine ⟨⟨by omega,fun p hp=>(h1.all p hp).name,fun p hp=>by have:=(h1.all p hp).pos;omega,by omega,by omega,by omega,fun x hx=>h4.all x hx,by omega,fun x hx=>by have:=h5.all x hx;dsimp only [zlO] at this;omega,by omega,by omega,
  fun x hx=>⟨(h7.2 x hx).fr,(h7.2 x hx).ot⟩,by omega,by omega,by omega⟩,h7.2,h9.2,l5,h6,l1,h11⟩
structure LeaD (g:LeagueS):Prop where
 pl:GoodPys g.Players
 fx:g.Fixtures.length<=12
 ru:GoodRus g.Rules
 sl:GoodS4s g.Slots
 tm:2<=g.Teams.length/\g.Teams.length<=4
 br:g.Breaks.length<=6
 tr:GoodTr g.Trust
 sta: -1<=g.Start/\g.Start<=1000000000000
 tt:HasAB g.Teams
end
section
open Op
structure HalfG {α:Type} (a b l:List α):Prop where
 sa:List.Sublist a l
 sb:List.Sublist b l
theorem HalfG.nil {α:Type}:HalfG ([]:List α) [] []:=⟨A6 _,A6 _⟩
theorem HalfG.left {α:Type} {a b l:List α} (h:HalfG a b l) (x:α):HalfG (a++[x]) b (l++[x]):=
 ⟨h.sa.append (A6 _),h.sb.trans (Bv _ _)⟩
theorem HalfG.right {α:Type} {a b l:List α} (h:HalfG a b l) (x:α):HalfG a (b++[x]) (l++[x]):=
 ⟨h.sa.trans (Bv _ _),h.sb.append (A6 _)⟩
abbrev MvS:={m:MoveS//MovB m}
abbrev zck (x:MvS):HVal:=zci x.1
def zu8 (x y:MvS):Int:=zfb x.1 y.1
theorem zs0:Cmp zu8 fun _=>True:=zr0
end
section
structure Half (a b l:List Play):Prop where
 sa:a.Sublist l
 sb:b.Sublist l
 all: ∀x∈l,x∈a\/x∈b
theorem Half.nil:Half [] [] []:=⟨A6 _,A6 _,fun x h=>by cases h⟩
theorem Half.left {a b l:List Play} (h:Half a b l) (x:Play):Half (a++[x]) b (l++[x]):=
 ⟨h.sa.append (A6 _),h.sb.trans (Bv _ _),fun y hy=>by
  rcases List.mem_append.1 hy with hy|hy
  rcases h.all y hy with q|q
  exact .inl (Al _ q);exact .inr q;exact .inl (Bm _ hy)⟩
theorem Half.right {a b l:List Play} (h:Half a b l) (x:Play):Half a (b++[x]) (l++[x]):=
 ⟨h.sa.trans (Bv _ _),h.sb.append (A6 _),fun y hy=>by
  rcases List.mem_append.1 hy with hy|hy
  rcases h.all y hy with q|q
  exact .inl q;exact .inr (Al _ q);exact .inr (Bm _ hy)⟩
end
section

end
section
open Op
def zpU (x:ChoiceS):Prop:=(∀s∈x.Players,Sh s)/\Sh x.Captain/\x.Players.length<=5
def GoodC4 (x:ChoiceS):Prop:=(∀s∈x.Players,Sh s)/\Sh x.Captain/\x.Players.length<=4
theorem GoodC4.up {x:ChoiceS} (h:GoodC4 x):zpU x:=⟨h.1,h.2.1,Nat.le_succ_of_le h.2.2⟩
structure GoodChs (l:List ChoiceS):Prop where
 len:l.length<=20
 all: ∀x∈l,zpU x
structure BookG (b:BookS):Prop where
 lea:LeaC b.League
 mv:b.Moves.length<=10
 mb: ∀x∈b.Moves,MovB x
 pl:GoodPl b.Plays
 me:GoodMds b.Mends
 he:GoodHes b.Health
 ch:GoodChs b.Choices
theorem BookG.c {b:BookS} (h:BookG b):BookC b:=by
 have a1:=h.mv;have a2:=h.pl.len;have a3:=h.me.len;have a4:=h.he.len;have a5:=h.ch.len;exact ⟨⟨h.lea.lea,by omega,by omega,by omega,by omega,by omega,fun x hx=>by have:=(h.ch.all x hx).2.2;omega⟩,h.lea.gw,h.mb,h.he.all,h.lea.tr,h.pl.all,h.me.all,fun x hx=>⟨(h.ch.all x hx).1,(h.ch.all x hx).2.1⟩,by omega,by omega,by omega,by omega,by omega,h.lea.tt⟩
def g0L:LeagueS:=⟨[],[],[],[],[⟨[115,97],[[103,107]]⟩],⟨3,0,5,0⟩,[[116,97],[116,98]],[],[],[],0⟩
theorem g0_b:LeaB g0L:=
 ⟨by decide,fun _ h=>(by cases h),fun _ h=>(by cases h),by decide,by decide,by decide,fun _ h=>(by cases h),by decide,fun x hx=>(by simp only [g0L,List.mem_singleton] at hx;subst hx;decide),by decide,by decide,fun _ h=>(by cases h),by decide,by decide,by decide⟩
theorem g0_E:zbQ g0L=0:=by decide
end
section
open Go
theorem zsz: ∀{l:List Int},orI l=0->∀x∈l,x=0
 |[],_,x,h=>by cases h
 |y::r,h,x,hx=>by
   unfold orI at h
   by_cases e:y≠0
   rw [if_pos e] at h;exact absurd h e;rw [if_neg e] at h
   rcases List.mem_cons.1 hx with rfl|q
   exact Decidable.not_not.1 e;exact zsz h x q
theorem zyU {g:LeagueS} (h:zbQ g=0):zfT g=0:=by
 unfold zbQ at h
 by_cases e:zfT g≠0
 rw [if_pos e] at h;exact h;exact Decidable.not_not.1 e
theorem zwN {b:BookS} (h:zdJ b=0):zbQ b.League=0/\orI [zcw b.Moves,zbT b.Plays,zdX b.Mends,zob b.League.Players b.Health,zse b.League.Teams b.League.Slots.length b.Choices]=0:=by
 unfold zdJ at h
 by_cases e:zbQ b.League≠0
 rw [if_pos e] at h;exact absurd h e;rw [if_neg e] at h;exact ⟨Decidable.not_not.1 e,h⟩
structure BookF (b:BookS):Prop where
 bo:zbL b.League.Bounds=0
 mo:zcw b.Moves=0
 ps:b.League.Players.length<=500
 ky: ∀p∈b.League.Players,key p.Key=true
theorem zox {b:BookS} (h:zdJ b=0):BookF b:=by
 obtain ⟨h1,h2⟩:=zwN h;have h3:=zsz (zyU h1);have h4:zlL b.League.Players b.League.Stints=0:=h3 _ (by simp);have h5:zce b.League.Players=0:=by
  unfold zlL at h4
  by_cases e:zce b.League.Players≠0
  rw [if_pos e] at h4;exact h4;exact Decidable.not_not.1 e
 obtain ⟨h6,h7⟩:=zof h5;refine ⟨h3 _ (by simp),zsz h2 _ (by simp),h6,fun p hp=> ?_⟩
 obtain ⟨i,hi,rfl⟩:=Bh hp;have:=h7 i _ (Aa hi);unfold zb2 at this
 by_cases e:key b.League.Players[i].Key=false
 rw [if_pos e] at this;cases this
 simpa using e
abbrev zhm (b:BookS):List Str:=b.League.Players.map (·.Key)
def mfE (b:BookS) (n:Int):Int:=if zdJ b≠0 then zdJ b else if zY n=false then 1 else 0
def zeP (b:BookS) (n:Int):Int:=if mfE b n≠0 then mfE b n else frE b.League.Bounds b.Moves (zhm b) n
def zds (b:BookS) (n:Int):List Str:=if zeP b n≠0 then [] else zfO b.League.Bounds (zeU b.League.Bounds b.Moves n) n (zhm b)
theorem BookF.fr {b:BookS} (h:BookF b) {n:Int} (hn:zY n=true):frE b.League.Bounds b.Moves (zhm b) n=0:=by
 refine zrs (by simp [orI,h.bo,h.mo]) (by simp;exact h.ps) ?_ hn
 rw [B0]
 intro s hs
 obtain ⟨p,hp,rfl⟩:=List.mem_map.1 hs;rw [h.ky p hp];simp
theorem BookF.ask {b:BookS} (h:BookF b) {n:Int} (hn:zY n=true) {s:Str} (hs:s∈zhm b):zgZ b.League.Bounds b.Moves s n=0:=by
 obtain ⟨p,hp,rfl⟩:=List.mem_map.1 hs;unfold zgZ;rw [if_neg (by simp [orI,h.bo,h.mo]),if_neg (by rw [h.ky p hp];simp),if_neg (by rw [hn];simp)]
theorem zth {b:BookS} (h:zdJ b=0) {n:Int} (hn:zY n=true):zeP b n=0/\zds b n=zfO b.League.Bounds (zeU b.League.Bounds b.Moves n) n (zhm b):=by
 have hm:mfE b n=0:=by unfold mfE;rw [if_neg (fun q=>q h),if_neg (by rw [hn];simp)]
 have he:zeP b n=0:=by unfold zeP;rw [if_neg (fun q=>q hm)];exact (zox h).fr hn
 exact ⟨he,by unfold zds;rw [if_neg (fun q=>q he)]⟩
theorem zui {b:BoundS} {k:RosS} {n:Int} {l:List Str} {s:Str} (h:s∈zfO b k n l):s∈l/\zaH k s=[]:=by
 unfold zfO at h;have:=List.mem_filter.1 h;refine ⟨this.1,?_⟩
 have h2:=this.2
 simp at h2;exact h2.1
def g0B:BookS:=⟨g0L,[],[],[],[],[]⟩
theorem zvD:BookC g0B:=
 ⟨⟨g0_b,by decide,by decide,by decide,by decide,by decide,fun _ h=>(by cases h)⟩,fun _ h=>(by cases h),fun _ h=>(by cases h),fun _ h=>(by cases h),fun _ h=>(by cases h),fun _ h=>(by cases h),fun _ h=>(by cases h),fun _ h=>(by cases h),by decide,by decide,by decide,by decide,by decide,⟨by decide,by decide⟩⟩
theorem zvC:zdJ g0B=0:=by
 unfold zdJ;rw [show zbQ g0B.League=0 from g0_E,if_neg (by decide)]
 decide
end
end Go.HL
namespace Go.Proofs.YtaihpegdcgdcgaaGreatDoor
set_option maxRecDepth 100000
set_option linter.unusedVariables false
set_option linter.unusedSimpArgs false
section
open Go.Proofs.Tryz
open Go.HL
theorem zjY [Tracks] {b:BookS} {n:Int} (hT:Tracks.on=false) (hb:BookC b):ConP prog 14 [.vptr (zb (zeb b)) 0,.int .i64 n] (.int .i64 (mfE b n)):=by
 refine uOb func14 ntmps14 ?_;refine gz5 ?_;refine dq ((by first|exact z8 rfl|exact zK rfl)) ?_;refine dq (zeA (h:=zeb b) zb4 rfl rfl rfl rfl) ?_;refine dq (uCl ca42 rfl (zk4 (b:=b) hT hb.bb hb.hw)) ?_;refine gz8 ?_;refine uGr rfl (fun hc=>uCl zhT rfl za5) ?_;refine gz3 ?_;refine uCo (fun h1=> ?_) fun h2=> ?_
 refine gz9 ?_;refine uRp ?_;unfold mfE
 simp_all
 refine gz7 ?_;refine uRp ?_;unfold mfE
 simp_all
theorem zpl [Tracks] {b:BookS} {n:Int} (hT:Tracks.on=false) (hb:BookC b):ConP prog 6 [zeb b,.int .i64 n] (.tup [eSs (zds b n),.int .i64 (zeP b n)]):=by
 have hpl:=hb.bb.lea.pl;refine uOb func6 ntmps6 ?_;refine gz8 ?_;refine dq (uCl ca14 rfl (zjY (b:=b) hT hb)) ?_;refine gz6 ?_;refine uCo (fun h1=> ?_) fun h2=> ?_
 refine gz6 ?_
 focus first
 |exact zbt rfl (zai (by rw [zds,if_pos (by rw [zeP,if_pos h1];exact h1)];exact zZ 1) (by rw [zeP,if_pos h1];exact Weak.refl _))
 | (refine zB rfl ?_
    have he:zeP b n=frE b.League.Bounds b.Moves (zhm b) n:=by rw [zeP,if_neg (fun q=>q hm0)]
    rw [zds,he])
 refine gz5 ?_;refine zf (zM 1) ?_;refine gz2 ?_;refine dq ((by first|exact zx zb4 rfl za9 (by decide) rfl|exact zk zb4 rfl za9 (by decide) rfl)) ?_;refine dq ((by first|exact zx za9 rfl zg7 (by decide) rfl|exact zk za9 rfl zg7 (by decide) rfl)) ?_;refine dq (zh6 (h:=zaT b.League.Players) zg7 rfl rfl rfl) ?_;refine dq (zax (f:=zc4) (l:=b.League.Players) zg7 rfl) ?_;refine gz3 ?_;refine uV2 [7,1,9,1,19,10] (fun (i:Nat) (u:Value)=>[(19,.int .i64 i),(7,.raw u)]) (fun (i:Nat) (u:Value)=>[.arr u 1 (((b.League.Players.take i).map (·.Key)).map .str)]) (fun (i:Nat) (u:Value)=>i<=b.League.Players.length/\(True)) (fun (i:Nat) (u:Value)=>b.League.Players.length-i) (0) (.slice none 0 0) ?_ ?_ ?_ ?_;exact ⟨Ad _,trivial⟩;exact ⟨rfl,rfl,trivial⟩;exact (Ac _)
 intro i u hinv
 obtain ⟨hi,-⟩:=hinv;refine gz4 ?_;refine uCo (fun h3=> ?_) fun h4=> ?_
 obtain ⟨x,hx⟩: ∃x,b.League.Players[i]? =some x:=⟨_,Aa h3⟩
 have hdx:=zg hx;refine gz5 ?_;refine dq (zC (f:=zc4) (l:=b.League.Players) (j:=i) (a:=x) zg7 ze2 rfl rfl rfl hx) ?_;refine gz1 ?_;refine de rfl (zi ze2 rfl fun b9=> ?_)
 refine de0 (zo ze2 rfl rfl rfl rfl rfl ?_)
 refine gz1 ?_;refine zf (zp 9 rfl) ?_;refine gz2 ?_;refine dq ((by first|exact zx ze2 rfl ty9 (by decide) rfl|exact zk ze2 rfl ty9 (by decide) rfl)) ?_;refine gz1 ?_;refine dq (za (hs:=[_]) zj ty9 rfl rfl (by decide) (by decide) rfl) ?_;refine de rfl (zP (i:=0) zj ty9 rfl rfl rfl rfl rfl (by simp [zas,zb]) (by have:=hb.bb.lea.pl;simp only [Ah,Ak,AL,AD] at*;omega) fun v27=> ?_)
 refine gz8 ?_;exact ⟨i+1,v27,⟨by omega,trivial⟩,uD,⟨rfl,rfl,trivial⟩,uK,zq (by dsimp only;rw [zaj hx,AB,AB];rfl)⟩;have hni:b.League.Players.length<=i:=by omega
 obtain rfl:i=b.League.Players.length:=by omega
 rw [Ap];refine gz2 ?_;refine zJ ?_;refine gz2 ?_;refine zf (zaC 7 (i:=0) rfl rfl) ?_;have hm0:mfE b n=0:=by simpa using h2
 refine gz1 ?_;refine dq ((by first|exact zx zb4 rfl za9 (by decide) rfl|exact zk zb4 rfl za9 (by decide) rfl)) ?_;refine dq ((by first|exact zx za9 rfl zgt (by decide) rfl|exact zk za9 rfl zgt (by decide) rfl)) ?_;refine dq (zau (h':=zdy b.League.Bounds) (zaV zgt rfl rfl (An rfl)) rfl) ?_;refine dq ((by first|exact zx zb4 rfl zbA (by decide) rfl|exact zk zb4 rfl zbA (by decide) rfl)) ?_;refine dq (zh6 (h:=zbz b.Moves) zbA rfl rfl rfl) ?_;refine gz2 ?_;refine dq (uCl ca15 rfl (zpo (b:=b.League.Bounds) (l:=b.Moves) (ps:=zhm b) (n:=n) hb.bb.mv (by simp;exact hb.bb.lea.pl))) ?_;refine gz6 ?_
 focus first
 |exact zbt rfl (zai (by rw [zds,if_pos (by rw [zeP,if_pos h1];exact h1)];exact zZ 1) (by rw [zeP,if_pos h1];exact Weak.refl _))
 | (refine zB rfl ?_
    have he:zeP b n=frE b.League.Bounds b.Moves (zhm b) n:=by rw [zeP,if_neg (fun q=>q hm0)]
    rw [zds,he])
end
section
open Go.Proofs.Tryz
open Go.HL
theorem zae [Tracks] {b:Nat} {l:List Int} {a:Nat} (ha:a<=800000):Con prog 67 [pAt b] [St b l a] (fun x M'=> ∃t a',x=eSs t/\GoodTr t/\a'<=a+10/\M'=[St b l a']):=by
 refine uOb func67 ntmps67 ?_;refine gz6 ?_;refine zf (zM 1) ?_;refine gz3 ?_;refine de rfl (uCx 1 zve rfl rfl (zej (n:=3) uO uO uO) ?_)
 rintro _ _ ⟨L7,a7,rfl,hL7,ha7,rfl⟩;refine gz3 ?_;obtain ⟨hLn,hLb⟩:=hL7;refine gz1 ?_;refine uV2 [3,1,5,1,9,15] (fun (k:Nat) (q:GL Str)=>[(9,.int .i64 k),(3,.raw q.u)]) (fun (k:Nat) (q:GL Str)=>[St b l q.a,.arr q.u 1 (q.out.map .str)]) (fun (k:Nat) (q:GL Str)=>k<=L7.length/\(GLok Sh k (a7+k) q)) (fun (k:Nat) (q:GL Str)=>L7.length-k) (0) (⟨.slice none 0 0,[],a7⟩) ?_ ?_ ?_ ?_;exact ⟨Ad _,⟨by simp,by simp,uD⟩⟩;exact ⟨rfl,rfl,trivial⟩;exact uP
 intro k q hinv
 obtain ⟨hk,hq⟩:=hinv;obtain ⟨u,out,a2⟩:=q;obtain ⟨g1,g2,g3⟩:=id hq;dsimp only at g1 g2 g3;refine gz4 ?_;refine uCo (fun h1=> ?_) fun h2=> ?_
 obtain ⟨y,hy⟩: ∃y,L7[k]? =some y:=⟨_,Aa h1⟩
 have hdy:=zg hy;refine zct ?_;refine de rfl (uCx 0 zdl rfl rfl (zy uSo uO) ?_)
 rintro _ _ ⟨y14,rfl,rfl⟩;refine gz2 ?_;refine uCo (fun h3=> ?_) fun h4=> ?_
 refine gz2 ?_;refine dq (za (hs:=[_,_,_]) zj ty9 rfl rfl (by decide) (by decide) rfl) ?_;refine gz1 ?_;refine dq (zC (f:=HVal.str) (l:=ze1) (j:=y.toNat) (a:=ze1.getD y.toNat []) zj ty9 rfl rfl (by have:=hLb y (Ab hy);omega) (getD_some (by have:=hLb y (Ab hy);simp [ze1];omega))) ?_;refine gz1 ?_;refine dq (za (hs:=[_]) zj ty9 rfl rfl (by decide) (by decide) rfl) ?_;refine de rfl (zP (i:=1) zj ty9 rfl rfl rfl rfl rfl (by simp [zas,zb]) uSo fun v22=> ?_)
 refine gz8 ?_;exact ⟨k+1,⟨v22,out++[ze1.getD y.toNat []],a2+1⟩,⟨by omega,hq.add (x:=ze1.getD y.toNat []) (zjG _ (zul (by have:=hLb y (Ab hy);simp [ze1];omega))) uO⟩,uD,⟨rfl,rfl,trivial⟩,uK,uP⟩;refine gz7 ?_;exact ⟨k+1,⟨u,out,a2+1⟩,⟨by omega,hq.same uO⟩,uD,⟨rfl,rfl,trivial⟩,uK,uP⟩;have hnk:L7.length<=k:=by omega
 obtain rfl:k=L7.length:=by omega
 refine gz2 ?_;refine zJ ?_;refine gz3 ?_
 dsimp only
 refine gz2 ?_;refine de rfl (uCx 0 zdl rfl rfl (zy uO uO) ?_)
 rintro _ _ ⟨y25,rfl,rfl⟩;refine gz1 ?_;refine uCo (fun h5=> ?_) fun h6=> ?_
 refine gz3 ?_;refine dq (za (hs:=[_,_,_]) zj ty9 rfl rfl (by decide) (by decide) rfl) ?_;refine de rfl (uCx 0 zby rfl rfl (zh (L:=[_,_,_]) uO uSa uSa) ?_)
 rintro _ _ ⟨y29,rfl,hy29,rfl⟩;refine dq (za (hs:=[_]) zj ty9 rfl rfl (by decide) (by decide) rfl) ?_;refine de rfl (zP (i:=1) zj ty9 rfl rfl rfl rfl rfl (by simp [zas,zb]) uSo fun v31=> ?_)
 refine gz8 ?_;exact zaa (zaC 2 (i:=1) rfl rfl) rfl ⟨out++[y29],_,by simp,⟨by simp;omega,fun s hs=>by
  rcases List.mem_append.1 hs with hs|hs
  exact g2 s hs;rw [List.mem_singleton.1 hs];simp at hy29;rcases hy29 with rfl|rfl|rfl<;>(unfold Sh;simp)⟩,by omega,rfl⟩
 refine gz7 ?_;exact zaa (zaC 2 (i:=1) rfl rfl) rfl ⟨out,_,rfl,⟨by omega,g2⟩,by omega,rfl⟩
theorem zib [Tracks] {b:Nat} {l:List Int} {a:Nat} (ha:a<=700000):Con prog 24 [pAt b] [St b l a] (fun x M'=> ∃k a',x=zbq k/\GoodPl k/\a'<=a+500/\M'=[St b l a']):=by
 refine uOb func24 ntmps24 ?_;refine gz6 ?_;refine zf (zM 9) ?_;refine gz2 ?_;refine dq (za (hs:=[_,_,_]) zj ty9 rfl rfl (by decide) (by decide) rfl) ?_;refine dq (zax (f:=HVal.str) (l:=ze1) zj rfl) ?_;refine gz3 ?_;refine uV2 [3,1,5,5,11,1,15,97] (fun (k:Nat) (q:GL Play)=>[(15,.int .i64 k),(3,.raw q.u)]) (fun (k:Nat) (q:GL Play)=>[St b l q.a,.arr q.u 9 (q.out.map zad)]) (fun (k:Nat) (q:GL Play)=>k<=ze1.length/\(GLok zcg (5*k) (a+130*k) q)) (fun (k:Nat) (q:GL Play)=>ze1.length-k) (0) (⟨.slice none 0 0,[],a⟩) ?_ ?_ ?_ ?_;exact ⟨by decide,⟨by simp,by simp,uD⟩⟩;exact ⟨rfl,rfl,trivial⟩;exact uP
 intro k q hinv
 obtain ⟨hk,hq⟩:=hinv;obtain ⟨u,out,a1⟩:=q;obtain ⟨g1,g2,g3⟩:=id hq;dsimp only at g1 g2 g3;have h3:ze1.length=3:=rfl;refine gz4 ?_;refine uCo (fun h1=> ?_) fun h2=> ?_
 obtain ⟨x,hx⟩: ∃x,ze1[k]? =some x:=⟨_,Aa h1⟩
 have hdx:=zg hx;refine gz5 ?_;refine dq (zC (f:=HVal.str) (l:=ze1) (j:=k) (a:=x) zj ty9 rfl rfl rfl hx) ?_;refine gz5 ?_;refine dq (za (hs:=[_,_]) zV ty3 rfl rfl (by decide) (by decide) rfl) ?_;refine de rfl (uCx 0 zaE rfl rfl (zd (L:=[_,_]) uSo uSa uSa) ?_)
 rintro _ _ ⟨y21,rfl,hy21,rfl⟩;refine gz5 ?_;refine de rfl (uCx 0 ca5 rfl rfl (zz uSo uO uO uO) ?_)
 rintro _ _ ⟨y23,rfl,hy23,rfl⟩;refine gz3 ?_;refine ztm (3::6::7::8::9::11::24::25::26::27::28::29::30::31::32::33::34::35::36::37::38::39::40::41::42::43::44::45::46::47::48::49::50::51::52::53::54::55::56::57::58::59::60::61::62::63::64::65::66::67::68::69::70::71::72::73::74::75::76::77::78::79::80::81::82::83::84::85::86::87::88::89::90::91::92::93::94::95::96::97::98::99::100::101::102::103::104::105::106::107::108::109::110::[]) (fun (n:Nat) (no:Int) (at1:Int) (q2:GL Play)=>[(24,.int .i64 (n:Int)),(6,.int .i64 no),(7,.int .i64 at1),(3,.raw q2.u)]) (fun (n:Nat) (no:Int) (at1:Int) (q2:GL Play)=>[St b l q2.a,.arr q2.u 9 (q2.out.map zad)]) (fun (n:Nat) (no:Int) (at1:Int) (q2:GL Play)=>(n:Int)<=y23/\(0<=no/\no<=2*n)/\(0<=at1/\at1<=5+40*n)/\GLok zcg (5*k+n) (a1+2+25*n) q2) (fun (n:Nat) (no:Int) (at1:Int) (q2:GL Play)=>y23.toNat-n) (0) (0) (y21) (⟨u,out,a1+2⟩) ?_ ?_ ?_ ?_;exact ⟨by omega,⟨by omega,by omega⟩,⟨by simp at hy21;omega,by simp at hy21;omega⟩,⟨uD,g2,uD⟩⟩;exact ⟨rfl,rfl,rfl,rfl,trivial⟩;exact uP
 intro n no at1 q2 hinv
 obtain ⟨hn,hno,hat,hq2⟩:=hinv;obtain ⟨u,out,a2⟩:=q2;obtain ⟨g1,g2,g3⟩:=id hq2;dsimp only at g1 g2 g3;refine gz4 ?_;refine uCo (fun h3=> ?_) fun h4=> ?_
 refine gz7 ?_;refine dq (za (hs:=[_,_,_]) zV ty3 rfl rfl (by decide) (by decide) rfl) ?_;refine de rfl (uCx 0 zaE rfl rfl (zd (L:=[_,_,_]) uSo uSa uSa) ?_)
 rintro _ _ ⟨y29,rfl,hy29,rfl⟩;refine dq (zbb rfl rfl (by simp at hy29;omega) (by simp at hy29;omega)) ?_;refine gz4 ?_;refine de rfl (uCx 0 zg3 rfl rfl (zU uSo uO) ?_)
 rintro _ _ ⟨y32,rfl,hy32,rfl⟩;refine gz2 ?_;have hyb:1<=y29/\y29<=2:=by simp at hy29;omega
 refine uVj [9,1,33,21] (fun (q9:Nat×Play)=>[(9,pAt q9.1)]) (fun (q9:Nat×Play)=>[St b l (a2+5),.arr u 9 (out.map zad),.cells q9.1 (zb (zad q9.2))]) (fun (q9:Nat×Play)=>zcg q9.2) ?_ ?_
 skip
 refine zkv mixed ?_;refine gz3 ?_;refine uB 3 rfl (za (hs:=[_,_,_]) zV ty3 rfl rfl (by decide) (by decide) rfl) ?_;refine gz1 ?_;refine uB 5 rfl (zC (f:=HVal.int .i64) (l:=zkw) (j:=y32) (a:=zkw.getD y32 0) zV ty3 rfl rfl rfl (getD_some (by simp [zkw];omega))) ?_;refine gz1 ?_;refine uB 7 rfl (za (hs:=[_,_,_]) zj ty9 rfl rfl (by decide) (by decide) rfl) ?_;refine gz1 ?_;refine uB 9 rfl (zC (f:=HVal.str) (l:=zdW) (j:=y32) (a:=zdW.getD y32 []) zj ty9 rfl rfl rfl (getD_some (by simp [zdW];omega))) ?_;refine gz2 ?_;refine uB 12 rfl (za (hs:=[_,_,_]) zj ty9 rfl rfl (by decide) (by decide) rfl) ?_;refine uA 14 ?_;refine uB 15 rfl (za (hs:=[_,_,_,_]) zj ty9 rfl rfl (by decide) (by decide) rfl) ?_;refine uA 17 ?_;refine uB 18 rfl (za (hs:=[_,_,_,_,_]) zV ty3 rfl rfl (by decide) (by decide) rfl) ?_;refine zgY 13 21 rfl rfl (by kernel_rfl) ?_ ?_
 skip
 refine zm rfl (uCx 0 zby rfl rfl (zh (L:=[_,_,_]) uSo uSa uSa) ?_)
 rintro _ _ ⟨y46,rfl,hy46,rfl⟩;refine ⟨uE,?_⟩
 refine zgY 16 21 rfl rfl (by kernel_rfl) ?_ ?_
 skip
 refine zm rfl (uCx 0 zby rfl rfl (zh (L:=[_,_,_,_]) uSo uSa uSa) ?_)
 rintro _ _ ⟨y49,rfl,hy49,rfl⟩;refine ⟨uE,?_⟩
 refine zgY 19 21 rfl rfl (by kernel_rfl) ?_ ?_
 skip
 refine zm rfl (uCx 0 zaE rfl rfl (zd (L:=[_,_,_,_,_]) uSo uSa uSa) ?_)
 rintro _ _ ⟨y52,rfl,hy52,rfl⟩;refine ⟨uE,?_⟩
 refine uB 20 rfl (zH (cs:=[_,_,_,_,_,_,_,_,_]) zbk zqF rfl) ?_;refine uF 21 ?_;refine zm rfl (zi zbk rfl fun b9=> ?_)
 refine ⟨uE,?_⟩
 refine uF 22 ?_;refine zI (uY 0 ?_)
 refine ⟨uE,?_⟩
 refine uAz ?_;refine ⟨(b9,(⟨x,no+y29,at1,zkw.getD y32 0,zdW.getD y32 [],y46,y49,y52,0⟩:Play)),?_,⟨rfl,trivial⟩,uK,?_⟩
 exact ⟨zjG x (Ab hx),ziB y32,by simp at hy46;rcases hy46 with rfl|rfl|rfl<;>(unfold Sh;simp),by simp at hy49;rcases hy49 with rfl|rfl|rfl<;>(unfold Sh;simp)⟩;exact uP
 skip
 refine zm rfl (zi zbk rfl fun b9=> ?_)
 refine ⟨uE,?_⟩
 refine uF 19 ?_;refine zm rfl (uCx 1 zaE rfl rfl (zd (L:=[_,_,_,_,_]) uSo uSa uSa) ?_)
 rintro _ _ ⟨y52,rfl,hy52,rfl⟩;refine ⟨uE,?_⟩
 refine uB 20 rfl (zH (cs:=[_,_,_,_,_,_,_,_,_]) zbk zqF rfl) ?_;refine uF 22 ?_;refine zI (uY 1 ?_)
 refine ⟨uE,?_⟩
 refine uAz ?_;refine ⟨(b9,(⟨x,no+y29,at1,zkw.getD y32 0,zdW.getD y32 [],y46,y49,y52,0⟩:Play)),?_,⟨rfl,trivial⟩,uK,?_⟩
 exact ⟨zjG x (Ab hx),ziB y32,by simp at hy46;rcases hy46 with rfl|rfl|rfl<;>(unfold Sh;simp),by simp at hy49;rcases hy49 with rfl|rfl|rfl<;>(unfold Sh;simp)⟩;exact uP
 skip
 refine zm rfl (zi zbk rfl fun b9=> ?_)
 refine ⟨uE,?_⟩
 refine uF 16 ?_;refine zm rfl (uCx 1 zby rfl rfl (zh (L:=[_,_,_,_]) uSo uSa uSa) ?_)
 rintro _ _ ⟨y49,rfl,hy49,rfl⟩;refine ⟨uE,?_⟩
 refine uF 19 ?_;refine zm rfl (uCx 0 zaE rfl rfl (zd (L:=[_,_,_,_,_]) uSo uSa uSa) ?_)
 rintro _ _ ⟨y52,rfl,hy52,rfl⟩;refine ⟨uE,?_⟩
 refine uB 20 rfl (zH (cs:=[_,_,_,_,_,_,_,_,_]) zbk zqF rfl) ?_;refine uF 22 ?_;refine zI (uY 1 ?_)
 refine ⟨uE,?_⟩
 refine uAz ?_;refine ⟨(b9,(⟨x,no+y29,at1,zkw.getD y32 0,zdW.getD y32 [],y46,y49,y52,0⟩:Play)),?_,⟨rfl,trivial⟩,uK,?_⟩
 exact ⟨zjG x (Ab hx),ziB y32,by simp at hy46;rcases hy46 with rfl|rfl|rfl<;>(unfold Sh;simp),by simp at hy49;rcases hy49 with rfl|rfl|rfl<;>(unfold Sh;simp)⟩;exact uP
 skip
 refine zm rfl (zi zbk rfl fun b9=> ?_)
 refine ⟨uE,?_⟩
 refine uF 13 ?_;refine zm rfl (uCx 1 zby rfl rfl (zh (L:=[_,_,_]) uSo uSa uSa) ?_)
 rintro _ _ ⟨y46,rfl,hy46,rfl⟩;refine ⟨uE,?_⟩
 refine uF 16 ?_;refine zm rfl (uCx 0 zby rfl rfl (zh (L:=[_,_,_,_]) uSo uSa uSa) ?_)
 rintro _ _ ⟨y49,rfl,hy49,rfl⟩;refine ⟨uE,?_⟩
 refine uF 19 ?_;refine zm rfl (uCx 0 zaE rfl rfl (zd (L:=[_,_,_,_,_]) uSo uSa uSa) ?_)
 rintro _ _ ⟨y52,rfl,hy52,rfl⟩;refine ⟨uE,?_⟩
 refine uB 20 rfl (zH (cs:=[_,_,_,_,_,_,_,_,_]) zbk zqF rfl) ?_;refine uF 22 ?_;refine zI (uY 1 ?_)
 refine ⟨uE,?_⟩
 refine uAz ?_;refine ⟨(b9,(⟨x,no+y29,at1,zkw.getD y32 0,zdW.getD y32 [],y46,y49,y52,0⟩:Play)),?_,⟨rfl,trivial⟩,uK,?_⟩
 exact ⟨zjG x (Ab hx),ziB y32,by simp at hy46;rcases hy46 with rfl|rfl|rfl<;>(unfold Sh;simp),by simp at hy49;rcases hy49 with rfl|rfl|rfl<;>(unfold Sh;simp)⟩;exact uP
 intro q9 hq9
 obtain ⟨b9,x9⟩:=q9;dsimp only at hq9;refine uVj [11,1,54,47] (fun (q4:Play×Nat)=>[]) (fun (q4:Play×Nat)=>[St b l q4.2,.arr u 9 (out.map zad),.cells b9 (zb (zad q4.1))]) (fun (q4:Play×Nat)=>zcg q4.1/\q4.2<=a2+22) ?_ ?_
 skip
 refine gz5 ?_;refine dgx (fun x M'=> ∃(y:Bool) (a3:Nat),x= .bool y/\a3<=(a2+5)+1/\M'=[St b l a3,.arr u 9 (out.map zad),.cells b9 (zb (zad x9))]) rfl rfl (fun hc=>⟨_,false,(a2+5),rfl,by omega,rfl⟩) (fun hc=>⟨_,OpenTo.upd (t:=57) rfl (hc) (OpenTo.refl _),uCx 0 zdl rfl rfl (zy (a:=(a2+5)) uO uO) (fun h M' hh=>by
  obtain ⟨y,h1,h2⟩:=hh;exact ⟨y,(a2+5)+1,h1,by omega,by rw [h2];rfl⟩)⟩) ?_
 rintro _ _ ⟨y10,a310,rfl,ha310,rfl⟩;refine gz2 ?_;refine uCo (fun h5=> ?_) fun h6=> ?_
 refine gz4 ?_;refine de rfl (uCx 0 ca5 rfl rfl (zz uO uO uO uO) ?_)
 rintro _ _ ⟨y63,rfl,hy63,rfl⟩;refine gz1 ?_;refine de0 (uY 2 ?_)
 refine gz1 ?_;refine de0 (uY 2 ?_)
 refine gz1 ?_;obtain ⟨s9,n9,t9,w9,m9,p9,st9,c9,u9⟩:=x9;refine zf (Ghost.perm (M':=[St b l (a310+1),.arr u 9 (out.map zad),.cells b9 (zb (zad ⟨s9,n9,t9,w9,m9,p9,st9,0,y63⟩))]) uP) ?_;refine gz2 ?_;refine de rfl (za2 (i:=1) (es:=out) zg8 rfl rfl ?_)
 refine gz3 ?_;refine uV2 [11,1,68,33] (fun (j:Nat) (q3:Play×Nat)=>[(68,.int .i64 j)]) (fun (j:Nat) (q3:Play×Nat)=>[St b l q3.2,.arr u 9 (out.map zad),.cells b9 (zb (zad q3.1))]) (fun (j:Nat) (q3:Play×Nat)=>j<=out.length/\(zcg q3.1/\q3.2<=a310+1+j)) (fun (j:Nat) (q3:Play×Nat)=>out.length-j) (0) ((⟨s9,n9,t9,w9,m9,p9,st9,0,y63⟩,a310+1)) ?_ ?_ ?_ ?_;exact ⟨Ad _,hq9,uD⟩;exact ⟨rfl,trivial⟩;exact uP
 intro j q3 hinv
 obtain ⟨hj,hq3⟩:=hinv;obtain ⟨⟨s3,n3,t3,w3,m3,p3,st3,c3,u3⟩,a4⟩:=q3;obtain ⟨hs3,ha4⟩:=hq3;dsimp only at hs3 ha4;refine gz4 ?_;refine uCo (fun h7=> ?_) fun h8=> ?_
 obtain ⟨z,hz⟩: ∃z,out[j]? =some z:=⟨_,Aa h7⟩
 have hdz:=zg hz;have hgz:=g2 z (Ab hz);refine zcJ (i:=1) rfl (fun h0 he=> ?_) (fun ob off cap hv hcap=> ?_)
 exfalso;have:=congrArg List.length he;simp at this;subst this;simp at hz
 subst hv;refine gz5 ?_;refine dq (zt (j:=j) zg8 zbk rfl rfl rfl uSo) ?_;refine de rfl (zR (i:=1) (j:=j) (f:=zad) (es:=out) zbk rfl rfl rfl hz rfl rfl rfl ?_)
 refine de rfl (zi zbk rfl fun b11=> ?_)
 refine de0 (zo zbk rfl rfl rfl rfl rfl ?_)
 refine gz1 ?_;refine zf (zp 11 rfl) ?_;refine gz9 ?_;refine dgl rfl rfl (fun hc=>⟨_,OpenTo.upd (t:=79) rfl (hc) (OpenTo.refl _),zab (i:=2) ty3 rfl rfl (.inl ⟨rfl,rfl⟩) ⟨rfl,rfl⟩⟩) ?_;refine gz4 ?_;refine dgx (fun x M'=> ∃(y:Bool) (a3:Nat),x= .bool y/\a3<=a4+1/\M'=[St b l a3,.arr (.slice (some ⟨ob,off,none⟩) (out.map zad).length cap) 9 (out.map zad),.cells b9 (zb (zad ⟨s3,n3,t3,w3,m3,p3,st3,c3,u3⟩))]) rfl rfl (fun hc=>⟨_,false,a4,rfl,by omega,rfl⟩) (fun hc=>⟨_,OpenTo.upd (t:=84) rfl (hc) (OpenTo.refl _),uCx 0 zdl rfl rfl (zy (a:=a4) uO uO) (fun h M' hh=>by
  obtain ⟨y,h1,h2⟩:=hh;exact ⟨y,a4+1,h1,by omega,by rw [h2];rfl⟩)⟩) ?_
 rintro _ _ ⟨y6,a36,rfl,ha36,rfl⟩;refine gz3 ?_;refine uCo (fun h9=> ?_) fun h10=> ?_
 refine zkv mixed ?_;refine gz9 ?_;refine uF 9 ?_;refine zI (uY 2 ?_)
 refine ⟨uE,?_⟩
 refine gz1 ?_;refine uF 11 ?_;refine zI (uY 2 ?_)
 refine ⟨uE,?_⟩
 refine gz1 ?_;refine uF 13 ?_;refine zI (uY 2 ?_)
 refine ⟨uE,?_⟩
 refine gz1 ?_;refine uF 15 ?_;refine zI (uY 2 ?_)
 refine ⟨uE,?_⟩
 refine gz7 ?_;exact ⟨j+1,(⟨s3,n3,t3,z.Week,z.Match,z.Player,z.Stat,c3,u3⟩,a36),⟨by omega,⟨hs3.1,hgz.2.1,hgz.2.2.1,hgz.2.2.2⟩,uD⟩,uD,⟨rfl,trivial⟩,uK,uP⟩;refine gz7 ?_;exact ⟨j+1,(⟨s3,n3,t3,w3,m3,p3,st3,c3,u3⟩,a36),⟨by omega,hs3,uD⟩,uD,⟨rfl,trivial⟩,uK,uP⟩;have hnj:out.length<=j:=by omega
 obtain rfl:j=out.length:=by omega
 refine gz2 ?_;refine zJ ?_;refine gz1 ?_;exact ⟨(⟨s3,n3,t3,w3,m3,p3,st3,c3,u3⟩,a4),⟨hs3,uD⟩,trivial,uK,uP⟩;refine gz1 ?_;exact ⟨(x9,a310),⟨hq9,uD⟩,trivial,uK,uP⟩
 intro q4 hq4
 obtain ⟨x5,a5⟩:=q4;obtain ⟨hx5,ha5⟩:=hq4;dsimp only at hx5 ha5;refine zf (zcN 9 (i:=2) rfl rfl) ?_;refine gz3 ?_;refine dq (za (hs:=[_]) zg8 zbk rfl rfl (by decide) (by decide) rfl) ?_;refine de rfl (zP (i:=1) zg8 zbk rfl rfl rfl rfl rfl (by simp [zas,zb]) uSo fun v104=> ?_)
 refine gz5 ?_;refine dq (za (hs:=[_,_,_,_]) zV ty3 rfl rfl (by decide) (by decide) rfl) ?_;refine de rfl (uCx 0 zaE rfl rfl (zd (L:=[_,_,_,_]) uO uSa uSa) ?_)
 rintro _ _ ⟨y108,rfl,hy108,rfl⟩;refine dq (zbb rfl rfl (by simp at hy108;omega) (by simp at hy108;omega)) ?_;refine gz8 ?_;exact ⟨n+1,no+y29,at1+y108,⟨v104,out++[x5],a5+1⟩,⟨by omega,⟨by simp at hy29;omega,by simp at hy29;omega⟩,⟨by simp at hy108;omega,by simp at hy108;omega⟩,hq2.add (x:=x5) hx5 uO⟩,uD,⟨rfl,rfl,rfl,rfl,trivial⟩,uK,uP⟩;refine gz2 ?_;refine zuy ?_;refine gz7 ?_;exact ⟨k+1,⟨u,out,a2⟩,⟨by omega,⟨uD,g2,uD⟩⟩,uD,⟨rfl,rfl,trivial⟩,uK,uP⟩;have hnk:ze1.length<=k:=by omega
 obtain rfl:k=ze1.length:=by omega
 refine gz2 ?_;refine zJ ?_;refine gz2 ?_;refine uVj [12,1,112,111] (fun (q5:List Play×Nat)=>[]) (fun (q5:List Play×Nat)=>[St b l q5.2,.arr u 9 (q5.1.map zad)]) (fun (q5:List Play×Nat)=>q5.1.length<=15/\(∀x∈q5.1,zcg x)/\q5.2<=a+500) ?_ ?_
 skip
 refine gz2 ?_;refine de rfl (za2 (i:=1) zg8 rfl rfl ?_)
 refine gz3 ?_;refine dgx (fun x M'=> ∃(y:Bool) (a3:Nat),x= .bool y/\a3<=a1+1/\M'=[St b l a3,.arr u 9 (out.map zad)]) rfl rfl (fun hc=>⟨_,false,a1,rfl,by omega,rfl⟩) (fun hc=>⟨_,OpenTo.upd (t:=116) rfl (hc) (OpenTo.refl _),uCx 0 zdl rfl rfl (zy (a:=a1) uO uO) (fun h M' hh=>by
  obtain ⟨y,h1,h2⟩:=hh;exact ⟨y,a1+1,h1,by omega,by rw [h2];rfl⟩)⟩) ?_
 rintro _ _ ⟨y,a3,rfl,ha3,rfl⟩;refine gz2 ?_;refine uCo (fun h11=> ?_) fun h12=> ?_
 have ho0:0<out.length:=by simp_all
 refine zcJ (i:=1) rfl (fun h0 he=> ?_) (fun ob off cap hv hcap=> ?_)
 exfalso;have:=congrArg List.length he;simp at this;subst this;simp at ho0
 subst hv;refine gz4 ?_;refine de rfl (za2 (i:=1) zg8 rfl rfl ?_)
 refine de rfl (uCx 0 zg3 rfl rfl (zU uO uO) ?_)
 rintro _ _ ⟨y123,rfl,hy123,rfl⟩;refine dq (zt (j:=y123) zg8 zbk rfl rfl rfl uSo) ?_;refine gz2 ?_;obtain ⟨x,hx⟩: ∃x,out[y123]? =some x:=⟨_,Aa uO⟩
 refine gz2 ?_;refine de rfl (uCx 0 zg3 rfl rfl (zU uO uO) ?_)
 rintro _ _ ⟨y126,rfl,hy126,rfl⟩;refine gz6 ?_;refine uCo (fun h13=> ?_) fun h14=> ?_
 refine zaX (fun M=> ∃i:Nat,M[i]? =some (.arr (.slice (some ⟨ob,off,none⟩) (out.map zad).length cap) 9 (out.map zad))) [6,13] mixed ?_;refine gz6 ?_;refine uM 6 rfl ⟨1,rfl⟩ (fun M hM=>by obtain ⟨i,hi⟩:=hM;exact zak (i:=i) (j:=y123) 0 ty9 rfl uO hi hx rfl rfl ⟨rfl,rfl⟩) ?_;refine uB 7 rfl (za (hs:=[_,_,_]) zj ty9 rfl rfl (by decide) (by decide) rfl) ?_;refine uA 9 ?_;refine gz3 ?_;refine uM 13 rfl ⟨1,rfl⟩ (fun M hM=>by obtain ⟨i,hi⟩:=hM;exact zak (i:=i) (j:=y123) 1 ty3 rfl uO hi hx rfl rfl ⟨rfl,rfl⟩) ?_;refine uB 14 rfl (za (hs:=[_,_,_,_]) zV ty3 rfl rfl (by decide) (by decide) rfl) ?_;refine uF 8 ?_;refine zm rfl (uCx 0 zby rfl rfl (zh (L:=[_,_,_]) uO uSa uSa) ?_)
 rintro _ _ ⟨y167,rfl,hy167,rfl⟩;refine ⟨uE,?_⟩
 refine uF 15 ?_;refine zm rfl (uCx 0 zaE rfl rfl (zd (L:=[_,_,_,_]) uO uSa uSa) ?_)
 rintro _ _ ⟨y174,rfl,hy174,rfl⟩;refine ⟨uE,?_⟩
 refine gz2 ?_;refine uF 18 ?_;refine zI (zO (i:=1) (j:=y123) (f:=0) (y:=zad x) (y':=zad ⟨y167,x.No,x.At,x.Week,x.Match,x.Player,x.Stat,x.Count,x.Undo⟩) ty9 rfl uO rfl rfl (zaY hx) rfl rfl (by simp [zb]) rfl ?_)
 refine ⟨uE,?_⟩
 refine gz2 ?_;refine uF 21 ?_;refine zI (zO (i:=1) (j:=y123) (f:=1) (y:=zad ⟨y167,x.No,x.At,x.Week,x.Match,x.Player,x.Stat,x.Count,x.Undo⟩) (y':=zad ⟨y167,y174,x.At,x.Week,x.Match,x.Player,x.Stat,x.Count,x.Undo⟩) ty3 rfl uO rfl rfl (zay (zaY hx)) rfl rfl (by simp [zb]) rfl ?_)
 refine ⟨uE,?_⟩
 refine gz2 ?_;exact ⟨(out.set y123 ⟨y167,y174,x.At,x.Week,x.Match,x.Player,x.Stat,x.Count,x.Undo⟩,a3+4),⟨by simp;omega,zd0 (P:=zcg) g2 (by
  have hgx:=g2 x (Ab hx);exact ⟨by simp at hy167;rcases hy167 with rfl|rfl|rfl;exact hgx.1;exact znt;(unfold Sh;simp),hgx.2.1,hgx.2.2.1,hgx.2.2.2⟩),uD⟩,trivial,uK,uP⟩
 refine gz4 ?_;refine uCo (fun h15=> ?_) fun h16=> ?_
 refine zaX (fun M=> ∃i:Nat,M[i]? =some (.arr (.slice (some ⟨ob,off,none⟩) (out.map zad).length cap) 9 (out.map zad))) [6,13] mixed ?_;refine gz6 ?_;refine uM 6 rfl ⟨1,rfl⟩ (fun M hM=>by obtain ⟨i,hi⟩:=hM;exact zak (i:=i) (j:=y123) 3 ty3 rfl uO hi hx rfl rfl ⟨rfl,rfl⟩) ?_;refine uB 7 rfl (za (hs:=[_,_,_]) zV ty3 rfl rfl (by decide) (by decide) rfl) ?_;refine uA 9 ?_;refine gz3 ?_;refine uM 13 rfl ⟨1,rfl⟩ (fun M hM=>by obtain ⟨i,hi⟩:=hM;exact zak (i:=i) (j:=y123) 4 ty9 rfl uO hi hx rfl rfl ⟨rfl,rfl⟩) ?_;refine uB 14 rfl (za (hs:=[_,_]) zj ty9 rfl rfl (by decide) (by decide) rfl) ?_;refine uF 8 ?_;refine zm rfl (uCx 0 zaE rfl rfl (zd (L:=[_,_,_]) uO uSa uSa) ?_)
 rintro _ _ ⟨y189,rfl,hy189,rfl⟩;refine ⟨uE,?_⟩
 refine uF 15 ?_;refine zm rfl (uCx 0 zby rfl rfl (zh (L:=[_,_]) uO uSa uSa) ?_)
 rintro _ _ ⟨y196,rfl,hy196,rfl⟩;refine ⟨uE,?_⟩
 refine gz2 ?_;refine uF 18 ?_;refine zI (zO (i:=1) (j:=y123) (f:=3) (y:=zad x) (y':=zad ⟨x.Source,x.No,x.At,y189,x.Match,x.Player,x.Stat,x.Count,x.Undo⟩) ty3 rfl uO rfl rfl (zaY hx) rfl rfl (by simp [zb]) rfl ?_)
 refine ⟨uE,?_⟩
 refine gz2 ?_;refine uF 21 ?_;refine zI (zO (i:=1) (j:=y123) (f:=4) (y:=zad ⟨x.Source,x.No,x.At,y189,x.Match,x.Player,x.Stat,x.Count,x.Undo⟩) (y':=zad ⟨x.Source,x.No,x.At,y189,y196,x.Player,x.Stat,x.Count,x.Undo⟩) ty9 rfl uO rfl rfl (zay (zaY hx)) rfl rfl (by simp [zb]) rfl ?_)
 refine ⟨uE,?_⟩
 refine gz2 ?_;exact ⟨(out.set y123 ⟨x.Source,x.No,x.At,y189,y196,x.Player,x.Stat,x.Count,x.Undo⟩,a3+4),⟨by simp;omega,zd0 (P:=zcg) g2 (by
  have hgx:=g2 x (Ab hx);exact ⟨hgx.1,by simp at hy196;rcases hy196 with rfl|rfl;exact hgx.2.1;exact znt,hgx.2.2.1,hgx.2.2.2⟩),uD⟩,trivial,uK,uP⟩
 refine gz4 ?_;refine uCo (fun h17=> ?_) fun h18=> ?_
 refine zaX (fun M=> ∃i:Nat,M[i]? =some (.arr (.slice (some ⟨ob,off,none⟩) (out.map zad).length cap) 9 (out.map zad))) [6,13] mixed ?_;refine gz6 ?_;refine uM 6 rfl ⟨1,rfl⟩ (fun M hM=>by obtain ⟨i,hi⟩:=hM;exact zak (i:=i) (j:=y123) 7 ty3 rfl uO hi hx rfl rfl ⟨rfl,rfl⟩) ?_;refine uB 7 rfl (za (hs:=[_,_,_]) zV ty3 rfl rfl (by decide) (by decide) rfl) ?_;refine uA 9 ?_;refine gz3 ?_;refine uM 13 rfl ⟨1,rfl⟩ (fun M hM=>by obtain ⟨i,hi⟩:=hM;exact zak (i:=i) (j:=y123) 8 ty3 rfl uO hi hx rfl rfl ⟨rfl,rfl⟩) ?_;refine uB 14 rfl (za (hs:=[_,_,_]) zV ty3 rfl rfl (by decide) (by decide) rfl) ?_;refine uF 8 ?_;refine zm rfl (uCx 0 zaE rfl rfl (zd (L:=[_,_,_]) uO uSa uSa) ?_)
 rintro _ _ ⟨y211,rfl,hy211,rfl⟩;refine ⟨uE,?_⟩
 refine uF 15 ?_;refine zm rfl (uCx 0 zaE rfl rfl (zd (L:=[_,_,_]) uO uSa uSa) ?_)
 rintro _ _ ⟨y218,rfl,hy218,rfl⟩;refine ⟨uE,?_⟩
 refine gz2 ?_;refine uF 18 ?_;refine zI (zO (i:=1) (j:=y123) (f:=7) (y:=zad x) (y':=zad ⟨x.Source,x.No,x.At,x.Week,x.Match,x.Player,x.Stat,y211,x.Undo⟩) ty3 rfl uO rfl rfl (zaY hx) rfl rfl (by simp [zb]) rfl ?_)
 refine ⟨uE,?_⟩
 refine gz2 ?_;refine uF 21 ?_;refine zI (zO (i:=1) (j:=y123) (f:=8) (y:=zad ⟨x.Source,x.No,x.At,x.Week,x.Match,x.Player,x.Stat,y211,x.Undo⟩) (y':=zad ⟨x.Source,x.No,x.At,x.Week,x.Match,x.Player,x.Stat,y211,y218⟩) ty3 rfl uO rfl rfl (zay (zaY hx)) rfl rfl (by simp [zb]) rfl ?_)
 refine ⟨uE,?_⟩
 refine gz2 ?_;exact ⟨(out.set y123 ⟨x.Source,x.No,x.At,x.Week,x.Match,x.Player,x.Stat,y211,y218⟩,a3+4),⟨by simp;omega,zd0 (P:=zcg) g2 (by
  have hgx:=g2 x (Ab hx);exact ⟨hgx.1,hgx.2.1,hgx.2.2.1,hgx.2.2.2⟩),uD⟩,trivial,uK,uP⟩
 refine zaX (fun M=> ∃i:Nat,M[i]? =some (.arr (.slice (some ⟨ob,off,none⟩) (out.map zad).length cap) 9 (out.map zad))) [7,14,21] mixed ?_;refine gz7 ?_;refine uM 7 rfl ⟨1,rfl⟩ (fun M hM=>by obtain ⟨i,hi⟩:=hM;exact zak (i:=i) (j:=y123) 5 ty9 rfl uO hi hx rfl rfl ⟨rfl,rfl⟩) ?_;refine uB 8 rfl (za (hs:=[_,_]) zj ty9 rfl rfl (by decide) (by decide) rfl) ?_;refine uA 10 ?_;refine gz3 ?_;refine uM 14 rfl ⟨1,rfl⟩ (fun M hM=>by obtain ⟨i,hi⟩:=hM;exact zak (i:=i) (j:=y123) 6 ty9 rfl uO hi hx rfl rfl ⟨rfl,rfl⟩) ?_;refine uB 15 rfl (za (hs:=[_,_]) zj ty9 rfl rfl (by decide) (by decide) rfl) ?_;refine uA 17 ?_;refine gz3 ?_;refine uM 21 rfl ⟨1,rfl⟩ (fun M hM=>by obtain ⟨i,hi⟩:=hM;exact zak (i:=i) (j:=y123) 2 ty3 rfl uO hi hx rfl rfl ⟨rfl,rfl⟩) ?_;refine uB 22 rfl (za (hs:=[_,_]) zV ty3 rfl rfl (by decide) (by decide) rfl) ?_;refine uF 9 ?_;refine zm rfl (uCx 0 zby rfl rfl (zh (L:=[_,_]) uO uSa uSa) ?_)
 rintro _ _ ⟨y136,rfl,hy136,rfl⟩;refine ⟨uE,?_⟩
 refine uF 16 ?_;refine zm rfl (uCx 0 zby rfl rfl (zh (L:=[_,_]) uO uSa uSa) ?_)
 rintro _ _ ⟨y143,rfl,hy143,rfl⟩;refine ⟨uE,?_⟩
 refine uF 23 ?_;refine zm rfl (uCx 0 zaE rfl rfl (zd (L:=[_,_]) uO uSa uSa) ?_)
 rintro _ _ ⟨y150,rfl,hy150,rfl⟩;refine ⟨uE,?_⟩
 refine gz2 ?_;refine uF 26 ?_;refine zI (zO (i:=1) (j:=y123) (f:=5) (y:=zad x) (y':=zad ⟨x.Source,x.No,x.At,x.Week,x.Match,y136,x.Stat,x.Count,x.Undo⟩) ty9 rfl uO rfl rfl (zaY hx) rfl rfl (by simp [zb]) rfl ?_)
 refine ⟨uE,?_⟩
 refine gz2 ?_;refine uF 29 ?_;refine zI (zO (i:=1) (j:=y123) (f:=6) (y:=zad ⟨x.Source,x.No,x.At,x.Week,x.Match,y136,x.Stat,x.Count,x.Undo⟩) (y':=zad ⟨x.Source,x.No,x.At,x.Week,x.Match,y136,y143,x.Count,x.Undo⟩) ty9 rfl uO rfl rfl (zay (zaY hx)) rfl rfl (by simp [zb]) rfl ?_)
 refine ⟨uE,?_⟩
 refine gz2 ?_;refine uF 32 ?_;refine zI (zO (i:=1) (j:=y123) (f:=2) (y:=zad ⟨x.Source,x.No,x.At,x.Week,x.Match,y136,y143,x.Count,x.Undo⟩) (y':=zad ⟨x.Source,x.No,y150,x.Week,x.Match,y136,y143,x.Count,x.Undo⟩) ty3 rfl uO rfl rfl (zay (zay (zaY hx))) rfl rfl (by simp [zb]) rfl ?_)
 refine ⟨uE,?_⟩
 refine gz2 ?_;exact ⟨(out.set y123 ⟨x.Source,x.No,y150,x.Week,x.Match,y136,y143,x.Count,x.Undo⟩,a3+5),⟨by simp;omega,zd0 (P:=zcg) g2 (by
  have hgx:=g2 x (Ab hx);exact ⟨hgx.1,hgx.2.1,by simp at hy136;rcases hy136 with rfl|rfl;exact hgx.2.2.1;(unfold Sh;simp),by simp at hy143;rcases hy143 with rfl|rfl;exact hgx.2.2.2;exact znt⟩),uD⟩,trivial,uK,uP⟩
 refine gz1 ?_;exact ⟨(out,a3),⟨uD,g2,uD⟩,trivial,uK,uP⟩
 intro q5 hq5
 obtain ⟨k1,a4⟩:=q5;dsimp only at hq5;obtain ⟨q1,q2,q3⟩:=hq5;refine gz5 ?_;exact zaa (zaC 2 (i:=1) rfl rfl) rfl ⟨k1,a4,rfl,⟨by omega,q2⟩,by omega,rfl⟩
end
section
open Go.Proofs.Tryz
open Go.HL
theorem zcR [Tracks] {b:Nat} {l:List Int} {a:Nat} (ha:a<=800000):Con prog 128 [pAt b] [St b l a] (fun x M'=> ∃t a',x=eSs t/\t.length<=4/\a'<=a+5/\M'=[St b l a']):=by
 refine uOb func128 ntmps128 ?_;refine gz6 ?_;refine zf (zM 1) ?_;refine gz2 ?_;refine dq (za (hs:=[_,_,_,_]) zj ty9 rfl rfl (by decide) (by decide) rfl) ?_;refine dq (zax (f:=HVal.str) (l:=sp4) zj rfl) ?_;refine gz3 ?_;refine uV2 [3,1,5,1,8,11] (fun (k:Nat) (q:GL Str)=>[(8,.int .i64 k),(3,.raw q.u)]) (fun (k:Nat) (q:GL Str)=>[St b l q.a,.arr q.u 1 (q.out.map HVal.str)]) (fun (k:Nat) (q:GL Str)=>k<=sp4.length/\(GLok (fun _=>True) (k) (a+k) q)) (fun (k:Nat) (q:GL Str)=>sp4.length-k) (0) (⟨.slice none 0 0,[],a⟩) ?_ ?_ ?_ ?_
 ·exact ⟨Ad _,⟨by simp,by simp,uD⟩⟩
 ·exact ⟨rfl,rfl,trivial⟩
 ·exact uP
 ·intro k q hinv
  obtain ⟨hk,hq⟩:=hinv;have hlen:sp4.length=4:=rfl;obtain ⟨u,out,a2⟩:=q;obtain ⟨g1,g2,g3⟩:=id hq;dsimp only at g1 g2 g3;refine gz4 ?_;refine uCo (fun h1=> ?_) fun h2=> ?_
  ·obtain ⟨x,hx⟩: ∃x,sp4[k]? =some x:=⟨_,Aa h1⟩
   have hdx:=zg hx;refine gz5 ?_;refine dq (zC (f:=HVal.str) (l:=sp4) (j:=k) (a:=x) zj ty9 rfl rfl rfl hx) ?_;refine gz5 ?_;refine de rfl (uCx 0 zdl rfl rfl (zy uS uS) ?_)
   rintro _ _ ⟨y13,rfl,rfl⟩;refine gz1 ?_;refine uCo (fun h3=> ?_) fun h4=> ?_
   ·refine gz3 ?_;refine dq (za (hs:=[_]) zj ty9 rfl rfl (by decide) (by decide) rfl) ?_;refine de rfl (zP (i:=1) zj ty9 rfl rfl rfl rfl rfl (by simp [zas,zb,zap,zaM]) uSo fun v17=> ?_)
    refine gz8 ?_;exact ⟨k+1,⟨v17,out++[x],a2+1⟩,⟨by omega,hq.add (x:=x) trivial uO⟩,uD,⟨rfl,rfl,trivial⟩,uK,zq (by dsimp only;first|rfl|(rw [AB];rfl))⟩
   ·refine gz7 ?_;exact ⟨k+1,⟨u,out,a2+1⟩,⟨by omega,hq.same uO⟩,uD,⟨rfl,rfl,trivial⟩,uK,zq (by dsimp only;first|rfl|(rw [AB];rfl))⟩
  ·have hnk:sp4.length<=k:=by omega
   obtain rfl:k=sp4.length:=by omega
   refine gz2 ?_;refine zJ ?_;refine gz5 ?_;refine de rfl (za2 (i:=1) zj rfl rfl ?_)
   refine gz2 ?_;refine uCo (fun h5=> ?_) fun h6=> ?_
   ·refine gz2 ?_;refine dq (za (hs:=[_,_,_]) zj ty9 rfl rfl (by decide) (by decide) rfl) ?_;refine de rfl (uCx 0 zby rfl rfl (zh (L:=[_,_,_]) uS uS uS) ?_)
    rintro _ _ ⟨y24,rfl,hy24,rfl⟩;refine dq (za (hs:=[_]) zj ty9 rfl rfl (by decide) (by decide) rfl) ?_;refine gz3 ?_;exact zaa ((zbx (M':=[St b l (a2+1),.arr u 1 (out.map HVal.str)]) rfl).trans ((Ghost.perm (List.Perm.swap _ _ _)).trans Ghost.drop)) rfl ⟨[y24],_,rfl,by simp,by omega,rfl⟩
   ·refine gz7 ?_;exact zaa (zaC 2 (i:=1) rfl rfl) rfl ⟨out,a2,rfl,by omega,by omega,rfl⟩
theorem zc0 [Tracks] {b:Nat} {l:List Int} {a:Nat} (ha:a<=700000):Con prog 61 [pAt b] [St b l a] (fun x M'=> ∃k a',x=zaT k/\GoodPys k/\a'<=a+40/\M'=[St b l a']):=by
 refine uOb func61 ntmps61 ?_;refine gz6 ?_;refine zf (zM 3) ?_;refine gz2 ?_;refine dq (za (hs:=[_,_,_,_,_]) zj ty9 rfl rfl (by decide) (by decide) rfl) ?_;refine dq (zax (f:=HVal.str) (l:=nm5) zj rfl) ?_;refine gz3 ?_;refine uV2 [3,1,5,1,8,17] (fun (k:Nat) (q:GL PlayerS)=>[(8,.int .i64 k),(3,.raw q.u)]) (fun (k:Nat) (q:GL PlayerS)=>[St b l q.a,.arr q.u 3 (q.out.map zc4)]) (fun (k:Nat) (q:GL PlayerS)=>k<=nm5.length/\(GLok (GoodPy) (k) (a+8*k) q)) (fun (k:Nat) (q:GL PlayerS)=>nm5.length-k) (0) (⟨.slice none 0 0,[],a⟩) ?_ ?_ ?_ ?_;exact ⟨Ad _,⟨by simp,by simp,uD⟩⟩;exact ⟨rfl,rfl,trivial⟩;exact uP
 intro k q hinv
 obtain ⟨hk,hq⟩:=hinv;have hlen:nm5.length=5:=rfl;obtain ⟨u,out,a2⟩:=q;obtain ⟨g1,g2,g3⟩:=id hq;dsimp only at g1 g2 g3;refine gz4 ?_;refine uCo (fun h1=> ?_) fun h2=> ?_
 obtain ⟨x,hx⟩: ∃x,nm5[k]? =some x:=⟨_,Aa h1⟩
 have hdx:=zg hx;refine gz5 ?_;refine dq (zC (f:=HVal.str) (l:=nm5) (j:=k) (a:=x) zj ty9 rfl rfl rfl hx) ?_;refine gz6 ?_;refine de rfl (uCx 0 zdl rfl rfl (zy uS uS) ?_)
 rintro _ _ ⟨y13,rfl,rfl⟩;refine gz1 ?_;refine uCo (fun h3=> ?_) fun h4=> ?_
 refine gz8 ?_;exact ⟨k+1,⟨u,out,a2+1⟩,⟨by omega,hq.same uO⟩,uD,⟨rfl,rfl,trivial⟩,uK,zq (by dsimp only;first|rfl|(rw [AB];rfl))⟩;refine gz6 ?_;refine dq (za (hs:=[_,_,_,_,_,_]) zj ty9 rfl rfl (by decide) (by decide) rfl) ?_;refine de rfl (uCx 0 zby rfl rfl (zh (L:=[_,_,_,_,_,_]) uS uS uS) ?_)
 rintro _ _ ⟨y18,rfl,hy18,rfl⟩;refine gz1 ?_;refine de rfl (uCx 0 zr4 rfl rfl (zcR uS) ?_)
 rintro _ _ ⟨t20,a20,rfl,ht20,ha20,rfl⟩;refine dq (zH (cs:=[_,_,_]) ze2 pl53 rfl) ?_;refine dq (za (hs:=[_]) zg7 ze2 rfl rfl (by decide) (by decide) rfl) ?_;refine de rfl (zP (i:=1) zg7 ze2 rfl rfl rfl rfl rfl (by simp [zas,zb,zap,zaM]) uSo fun v23=> ?_)
 refine gz8 ?_;exact ⟨k+1,⟨v23,out++[(⟨x,y18,t20⟩:PlayerS)],a20⟩,⟨by omega,hq.add (x:=(⟨x,y18,t20⟩:PlayerS)) ⟨by exact hy18,ht20⟩ (by dsimp only at ha20;omega)⟩,uD,⟨rfl,rfl,trivial⟩,uK,zq (by dsimp only;first|rfl|(rw [AB];rfl))⟩;have hnk:nm5.length<=k:=by omega
 obtain rfl:k=nm5.length:=by omega
 refine gz2 ?_;refine zJ ?_;refine gz7 ?_;exact zaa (zaC 2 (i:=1) rfl rfl) rfl ⟨out,a2,rfl,⟨by omega,g2⟩,by omega,rfl⟩
theorem zaz [Tracks] {b:Nat} {l:List Int} {a:Nat} (ha:a<=800000):Con prog 65 [pAt b] [St b l a] (fun x M'=> ∃y:BoundS,x=zdy y/\M'=[St b l (a+4)]):=by
 refine zcM func65 rfl ntmps65 rfl rfl ?_;refine gz1 ?_;refine de rfl (zi zgt rfl fun b2=> ?_)
 refine gz3 ?_;refine dq (za (hs:=[_,_,_,_]) zV ty3 rfl rfl (by decide) (by decide) rfl) ?_;refine de rfl (uCx 1 zaE rfl rfl (zd (L:=[_,_,_,_]) uS uS uS) ?_)
 rintro _ _ ⟨y5,rfl,hy5,rfl⟩;refine gz1 ?_;refine dq (za (hs:=[_,_,_]) zV ty3 rfl rfl (by decide) (by decide) rfl) ?_;refine de rfl (uCx 0 zaE rfl rfl (zd (L:=[_,_,_]) uS uS uS) ?_)
 rintro _ _ ⟨y8,rfl,hy8,rfl⟩;refine gz1 ?_;refine dq (za (hs:=[_,_,_,_]) zV ty3 rfl rfl (by decide) (by decide) rfl) ?_;refine de rfl (uCx 0 zaE rfl rfl (zd (L:=[_,_,_,_]) uS uS uS) ?_)
 rintro _ _ ⟨y11,rfl,hy11,rfl⟩;refine gz1 ?_;refine dq (za (hs:=[_,_,_,_]) zV ty3 rfl rfl (by decide) (by decide) rfl) ?_;refine de rfl (uCx 0 zaE rfl rfl (zd (L:=[_,_,_,_]) uS uS uS) ?_)
 rintro _ _ ⟨y14,rfl,hy14,rfl⟩;refine dq (zH (cs:=[_,_,_,_]) zgt pl32 rfl) ?_;refine de0 (uY 1 ?_)
 refine gz2 ?_;exact ⟨_,_,zcN 2 (i:=1) rfl rfl,[_],_,⟨⟨_,_,_,_,_,rfl,zgt,.inr ⟨rfl,rfl,rfl⟩⟩,trivial⟩,Weak.refl _,⟨y5,y8,y11,y14⟩,rfl,rfl⟩
theorem zaU [Tracks] {b:Nat} {l:List Int} {a:Nat} (ha:a<=700000):Con prog 64 [pAt b] [St b l a] (fun x M'=> ∃k a',x=zgP k/\GoodS4s k/\0<k.length/\a'<=a+25/\M'=[St b l a']):=by
 refine uOb func64 ntmps64 ?_;refine gz6 ?_;refine zf (zM 2) ?_;refine gz2 ?_;refine dq (za (hs:=[_,_,_,_]) zj ty9 rfl rfl (by decide) (by decide) rfl) ?_;refine gz1 ?_;refine de rfl (uCx 1 ca5 rfl rfl (zz uS uS uS uS) ?_)
 rintro _ _ ⟨y8,rfl,hy8,rfl⟩;refine dq (zaI (es:=sl4) (f:=HVal.str) (h:=y8.toNat) zj ty9 rfl rfl ⟨_,_,rfl,by omega⟩ uO (by simp [sl4];omega)) ?_;refine dq (zax (f:=HVal.str) (l:=(sl4.take y8.toNat)) zj rfl) ?_;refine gz2 ?_;have hlen:(sl4.take y8.toNat).length=y8.toNat:=by simp [sl4];omega
 refine gz1 ?_;refine uV2 [3,1,5,1,11,12] (fun (k:Nat) (q:GL SlotS)=>[(11,.int .i64 k),(3,.raw q.u)]) (fun (k:Nat) (q:GL SlotS)=>[St b l q.a,.arr q.u 2 (q.out.map zbs)]) (fun (k:Nat) (q:GL SlotS)=>k<=(sl4.take y8.toNat).length/\(q.out.length=k/\GLok zjm k (a+1+5*k) q)) (fun (k:Nat) (q:GL SlotS)=>(sl4.take y8.toNat).length-k) (0) (⟨.slice none 0 0,[],a+1⟩) ?_ ?_ ?_ ?_;exact ⟨Ad _,rfl,⟨by simp,by simp,uD⟩⟩;exact ⟨rfl,rfl,trivial⟩;exact uP
 intro k q hinv
 obtain ⟨hk,⟨hn,hq⟩⟩:=hinv;obtain ⟨u,out,a2⟩:=q;obtain ⟨g1,g2,g3⟩:=id hq;dsimp only at g1 g2 g3;dsimp only at hn;refine gz4 ?_;refine uCo (fun h1=> ?_) fun h2=> ?_
 obtain ⟨x,hx⟩: ∃x,(sl4.take y8.toNat)[k]? =some x:=⟨_,Aa (by simpa using h1)⟩
 have hdx:=zg hx;refine gz5 ?_;refine dq (zC (f:=HVal.str) (l:=(sl4.take y8.toNat)) (j:=k) (a:=x) zj ty9 rfl rfl rfl hx) ?_;refine gz7 ?_;refine de rfl (uCx 0 zr4 rfl rfl (zcR uS) ?_)
 rintro _ _ ⟨t18,a18,rfl,ht18,ha18,rfl⟩;refine dq (zH (cs:=[_,_]) ze3 zuG rfl) ?_;refine dq (za (hs:=[_]) zf3 ze3 rfl rfl (by decide) (by decide) rfl) ?_;refine de rfl (zP (i:=1) zf3 ze3 rfl rfl rfl rfl rfl (by simp [zas,zb,zap,zaM]) uSo fun v21=> ?_)
 refine gz8 ?_;exact ⟨k+1,⟨v21,out++[(⟨x,t18⟩:SlotS)],a18⟩,⟨by omega,by simp;omega,hq.add (x:=(⟨x,t18⟩:SlotS)) (by show t18.length<=4;omega) (by dsimp only at ha18;omega)⟩,uD,⟨rfl,rfl,trivial⟩,uK,zq (by dsimp only;first|rfl|(rw [AB];rfl))⟩;have hnk:(sl4.take y8.toNat).length<=k:=by simpa using h2
 obtain rfl:k=(sl4.take y8.toNat).length:=by omega
 refine gz2 ?_;refine zJ ?_;refine gz7 ?_;exact zaa (zaC 2 (i:=1) rfl rfl) rfl ⟨out,a2,rfl,⟨by omega,g2⟩,by omega,by omega,rfl⟩
end
section
open Go.HL
set_option linter.unusedSimpArgs false
end
end Go.Proofs.YtaihpegdcgdcgaaGreatDoor
namespace Go.HL
section
section
variable {P:Program} {e:Env} {dst:Option Tmp} {ty:TypeId} {pos:String} {af:Array Edge} {g:Option (Nat×Bool)} {M:List MObj} {K:HVal->List MObj->Prop}
end
end
end Go.HL
namespace Go.Proofs.YtaihpegdcgdcgaaGreatDoor
set_option maxRecDepth 100000
set_option linter.unusedVariables false
set_option linter.unusedSimpArgs false
section
open Go.Proofs.Tryz
open Go.HL
theorem zeY [Tracks] {l:List MoveS} {v:Value} (hl:l.length<=1000000):Con prog 30 [.raw v] [.arr v 4 (l.map zci)] (fun x M'=> ∃u,x= .raw u/\M'=[.arr u 4 ((zT none l).map zci)]):=by
 refine uOb func30 ntmps30 ?_;refine gz6 ?_;refine de rfl (za2 (i:=0) zbA rfl rfl ?_)
 refine gz2 ?_;refine uCo (fun h1=> ?_) fun h2=> ?_
 refine gz5 ?_
 (refine zW rfl ⟨_,rfl,?_⟩
  rw [zpd uO])
 refine gz3 ?_;refine zcJ (i:=0) rfl (fun h0 he=> ?_) (fun b off cap hv hcap=> ?_)
 exfalso;have:=congrArg List.length he;simp at this;subst this;simp at h2
 rw [Ah] at hv hcap;subst hv;refine gz4 ?_;refine uT1 [2,4,10,50] (fun k=>[(3,.int .i64 (k:Int))]) (fun k=>[.arr (.slice (some ⟨b,off,none⟩) l.length cap) 4 (l.map zci)]) (fun k=>(1<=k/\k<=l.length)/\zT none (l.take k)=l.take k) (fun k=>l.length-k) (1) ?_ ?_;exact ⟨⟨by omega,by omega⟩,zpd uSo⟩;rintro k ⟨⟨hk1,hk⟩,hu⟩;refine gz4 ?_;refine de rfl (za2 (i:=0) zbA rfl rfl ?_)
 refine gz2 ?_;refine uCo (fun h3=> ?_) fun h4=> ?_
 obtain ⟨x,hx⟩: ∃x,l[k]? =some x:=⟨_,Aa uO⟩
 obtain ⟨y,hy⟩: ∃y,l[k-1]? =some y:=⟨_,Aa uO⟩
 refine gz4 ?_;refine zbw (fun M=>M=[.arr (.slice (some ⟨b,off,none⟩) l.length cap) 4 (l.map zci)]) [3,8] mixed ?_;refine gz2 ?_;refine uB 2 rfl (zt (j:=k) zbA zu rfl rfl rfl uO) ?_;refine uM 3 rfl rfl (uW (zR (i:=0) (j:=k) zu rfl uO rfl hx rfl rfl rfl ⟨rfl,rfl⟩)) ?_;refine gz3 ?_;refine uB 7 rfl (zt (j:=k-1) zbA zu rfl rfl uO uO) ?_;refine uM 8 rfl rfl (uW (zR (i:=0) (j:=k-1) zu rfl uO rfl hy rfl rfl rfl ⟨rfl,rfl⟩)) ?_;refine uB 9 rfl (zuI zu zvB rfl rfl ⟨rfl,⟨_,_,_,_,ty3,rfl⟩,⟨rfl,⟨_,_,_,_,ty3,rfl⟩,⟨rfl,⟨_,_,_,_,ty9,rfl⟩,⟨rfl,⟨_,_,_,_,ty9,rfl⟩,trivial⟩⟩⟩⟩) ?_;refine gz1 ?_;refine uCo (fun h5=> ?_) fun h6=> ?_
 have hxy:x=y:=(zgR _ _).1 (by simpa using h5);obtain ⟨hC0,hU0⟩:=CmpA.start hx hy uO hxy hu;refine gz3 ?_;refine dq (zeB (l:=k) (h:=l.length) zbA zu rfl ⟨_,_,rfl,rfl⟩ rfl uO uO hcap) ?_;refine gz2 ?_;rw [zo8 uO];refine gz5 ?_;refine uV2 [3,1,5,1,29,25] (fun (k2:Nat) (D:List MoveS)=>[(5,.int .i64 (k2:Int)),(3,.int .i64 ((zT none (l.take (k+k2))).length:Int))]) (fun (k2:Nat) (D:List MoveS)=>[.arr (.slice (some ⟨b,off,none⟩) l.length cap) 4 (D.map zci)]) (fun (k2:Nat) (D:List MoveS)=>(1<=k2/\k+k2<=l.length)/\CmpA l (k+k2) D) (fun (k2:Nat) (D:List MoveS)=>l.length-k2) (1) (l) ?_ ?_ ?_ ?_;exact ⟨⟨by omega,by have:=zl hx;omega⟩,hC0⟩;exact ⟨rfl,zL (by rw [hU0]),trivial⟩;exact Ac _
 intro k2 D hinv
 obtain ⟨⟨hk2,hkk⟩,hD⟩:=hinv;have hlt0:=hD.lt;have hle0:=hD.len;refine gz4 ?_;refine dq (zd4 zbA rfl) ?_;refine gz2 ?_;refine uCo (fun h7=> ?_) fun h8=> ?_
 obtain ⟨x2,hx2⟩: ∃x,l[k+k2]? =some x:=⟨_,Aa uO⟩
 obtain ⟨y2,hy2⟩: ∃y,l[k+k2-1]? =some y:=⟨_,Aa uO⟩
 have hDx:D[k+k2]? =some x2:=by rw [hD.hi _ uO,hx2]
 have hDy:D[k+k2-1]? =some y2:=by rw [hD.hi _ uO,hy2]
 refine gz4 ?_;refine zbw (fun M=>M=[.arr (.slice (some ⟨b,off,none⟩) l.length cap) 4 (D.map zci)]) [3,8] mixed ?_;refine gz2 ?_;refine uB 2 rfl (zt (j:=k2) zbA zu rfl rfl rfl uO) ?_;refine uM 3 rfl rfl (uW (zR (i:=0) (j:=(k+k2)) zu rfl uO rfl hDx rfl rfl rfl ⟨rfl,rfl⟩)) ?_;refine gz3 ?_;refine uB 7 rfl (zt (j:=k2-1) zbA zu rfl rfl uO uO) ?_;refine uM 8 rfl rfl (uW (zR (i:=0) (j:=(k+k2-1)) zu rfl uO rfl hDy rfl rfl rfl ⟨rfl,rfl⟩)) ?_;refine uB 9 rfl (zgV zu zvB rfl rfl ⟨rfl,⟨_,_,_,_,ty3,rfl⟩,⟨rfl,⟨_,_,_,_,ty3,rfl⟩,⟨rfl,⟨_,_,_,_,ty9,rfl⟩,⟨rfl,⟨_,_,_,_,ty9,rfl⟩,trivial⟩⟩⟩⟩) ?_;refine gz1 ?_;refine uCo (fun h9=> ?_) fun h10=> ?_
 refine gz5 ?_;refine dq (zt (j:=k2) zbA zu rfl rfl rfl uO) ?_;refine de rfl (zR (i:=0) (j:=(k+k2)) zu rfl uO rfl hDx rfl rfl rfl ?_)
 refine dq (zt (j:=(zT none (l.take (k+k2))).length) zbA zu rfl rfl rfl uO) ?_;refine de0 (zaP (i:=0) (j:=(zT none (l.take (k+k2))).length) (y:=D[(zT none (l.take (k+k2))).length]'uO) (y':=x2) zu rfl rfl rfl rfl (Aa _) rfl rfl rfl ?_)
 refine zeZ ?_;have hxy:x2≠y2:=fun q=>by have q2:=(zgR _ _).2 q;simp_all
 obtain ⟨hC1,hU1⟩:=hD.more hx2 hy2 hxy;exact ⟨k2+1,_,⟨⟨by omega,by omega⟩,hC1⟩,uD,⟨rfl,zL (by rw [<-AZ,hU1];rfl),trivial⟩,uK,Ac _⟩;refine gz8 ?_;have hxy:x2=y2:=(zgR _ _).1 (by simpa using h10);obtain ⟨hC1,hU1⟩:=hD.same hx2 hy2 hxy;exact ⟨k2+1,D,⟨⟨by omega,by omega⟩,hC1⟩,uD,⟨rfl,zL (by rw [<-AZ,hU1]),trivial⟩,uK,Ac _⟩;have hkl:k+k2=l.length:=by omega
 refine gz2 ?_;refine zJ ?_;refine gz5 ?_;refine dq (zeB (l:=(zT none (l.take (k+k2))).length) (h:=l.length) zbA zu rfl ⟨_,_,rfl,rfl⟩ rfl uO uO hcap) ?_;refine de0 (zes (i:=0) (m:=(zT none (l.take (k+k2))).length) ((zT none (l.take (k+k2))).length) zbA zu rfl rfl rfl (zia uO hcap) rfl uO (Ae _) (by rw [Ah,hD.len];omega) ?_)
 refine gz4 ?_;refine dq (zfZ (h:=(zT none (l.take (k+k2))).length) zbA zu rfl ⟨_,_,rfl,rfl⟩ uO) ?_;refine gz3 ?_
 (refine zW rfl ⟨_,rfl,?_⟩
  have hlo:=hD.lo;rw [hkl,Ap] at hlo⊢;rw [<-BO,hlo];rfl)
 refine gz8 ?_;have hxy:x≠y:=fun q=>by have q2:=(zgR _ _).2 q;simp_all
 exact ⟨k+1,⟨⟨by omega,by omega⟩,by rw [zhv hx hy uO,if_neg hxy,hu,zaj hx]⟩,uD,⟨rfl,trivial⟩,uK,Ac _⟩;have hkl:k=l.length:=by omega
 rw [hkl,Ap] at hu;refine gz2 ?_;refine zn ?_;refine gz7 ?_
 (refine zW rfl ⟨_,rfl,?_⟩
  rw [hu])
theorem zdL [Tracks] {l:List HealthS} {fid:FuncId} {caps:List HVal} {p:HealthS->Bool} (hca:Callable prog fid) (hp: ∀x,ConP prog fid ([zbF x]++caps) (.bool (p x))) (hl:l.length<=1000000):ConP prog 207 [.slice 4 (l.map zbF),.fn (.func fid) [] caps] (.int .i64 (zaf p l 0)):=by
 refine uOb func207 ntmps207 ?_;refine zat ?_;refine uT1 [4,2,8,11] (fun k=>[(8,.int .i64 k)]) (fun k=>[]) (fun k=>k<=l.length/\(zaf p l 0=zaf p (l.drop k) k)) (fun k=>l.length-k) (0) ?_ ?_;exact ⟨Ad _,rfl⟩;rintro k ⟨hk,hg⟩;refine gz4 ?_;refine uCo (fun h1=> ?_) fun h2=> ?_
 obtain ⟨x,hx⟩: ∃x,l[k]? =some x:=⟨_,Aa h1⟩
 have hdx:=zg hx;rw [hdx] at hg;refine zdN ?_;refine dq (zan hca rfl rfl (WeakL.refl _) (hp _)) ?_;refine gz1 ?_;refine uCo (fun h3=> ?_) fun h4=> ?_
 refine gz5 ?_;refine uRp ?_
 (rw [hg];simp_all [zaf])
 refine gz7 ?_;refine ⟨k+1,?_,?_,⟨rfl,trivial⟩,uK,Ac _⟩
 refine ⟨by omega,?_⟩
 rw [hg,zaf,if_neg uSa];rfl
 dsimp only;omega
 have hnk:l.length<=k:=by omega
 obtain rfl:k=l.length:=by omega
 rw [zD (Ae _)] at hg;refine gz2 ?_;refine zn ?_;refine gz6 ?_;refine uRp ?_
 (rw [hg];rfl)
end
section
open Go.Proofs.Tryz
open Go.HL
theorem zgc [Tracks] {b:Nat} {l:List Int} {a:Nat} {lo hi:Int} (ha:a<=900000) (hlh:lo<=hi) (h0: -1000000000<=lo) (h1:hi<=1000000000):Con prog 76 [pAt b,.int .i64 lo,.int .i64 hi] [St b l a] (fun x M'=> ∃y:Int,x= .int .i64 y/\(-2000000000000<=y/\y<=2000000000000)/\M'=[St b l (a+2)]):=by
 refine uOb func76 ntmps76 ?_;refine gz6 ?_;refine de rfl (uCx 0 zdl rfl rfl (zy uS uS) ?_)
 rintro _ _ ⟨y8,rfl,rfl⟩;refine gz1 ?_;refine uCo (fun h1=> ?_) fun h2=> ?_
 refine gz8 ?_;refine dq (za (hs:=[_,_,_,_,_,_]) zV ty3 rfl rfl (by decide) (by decide) rfl) ?_;refine de rfl (uCx 0 zaE rfl rfl (zd (L:=[_,_,_,_,_,_]) uS uS uS) ?_)
 rintro _ _ ⟨y17,rfl,hy17,rfl⟩;refine gz3 ?_;exact zW rfl ⟨_,rfl,by simp at hy17;rcases hy17 with rfl|rfl|rfl|rfl|rfl|rfl<;>omega,rfl⟩;refine gz6 ?_;refine de rfl (uCx 0 ca5 rfl rfl (zz uS uS uS uS) ?_)
 rintro _ _ ⟨y21,rfl,hy21,rfl⟩;refine gz3 ?_;exact zW rfl ⟨_,rfl,by omega,rfl⟩
theorem zdE [Tracks] {l:List HealthS} {fid:FuncId} {caps:List HVal} {p:HealthS->Bool} {v:Value} (hca:Callable prog fid) (hp: ∀x,ConP prog fid ([zbF x]++caps) (.bool (p x))) (hl:l.length<=1000000):Con prog 146 [.raw v,.fn (.func fid) [] caps] [.arr v 4 (l.map zbF)] (fun x M'=> ∃u,x= .raw u/\M'=[.arr u 4 ((l.filter (fun x=> !p x)).map zbF)]):=by
 refine uOb func146 ntmps146 ?_;refine gz6 ?_;refine de rfl (zlh (hs':=[.slice 4 (l.map zbF),.fn (.func fid) [] caps]) zym rfl ⟨.arr (i:=0) rfl,.weak (Weak.refl _),trivial⟩ (zdL (p:=p) hca hp hl) rfl ?_)
 refine gz7 ?_;refine uCo (fun h1=> ?_) fun h2=> ?_
 ·refine gz5 ?_
  (refine zW rfl ⟨_,rfl,?_⟩
   rw [ziw p l 0 uO h1]
   done)
 ·refine gz3 ?_;obtain ⟨i0,hi0,hil,⟨x0,hx0,hp0⟩,hb0⟩:=zhl p l 0 uO h2;rw [Int.zero_add] at hi0;obtain ⟨hD0,hn0⟩:=DelInv.start (p:=p) hil hx0 hp0 hb0;refine zcJ (i:=0) rfl (fun h0 he=> ?_) (fun b off cap hv hcap=> ?_)
  ·exfalso;have:=congrArg List.length he;simp at this;subst this;simp at hil
  rw [Ah] at hv hcap;subst hv;refine gz2 ?_;refine dq (zau (zbb rfl rfl (by rw [hi0];omega) (by rw [hi0];omega)) (congrArg _ (by rw [hi0]))) ?_;refine gz3 ?_;refine uV2 [5,3,16,20] (fun (j:Nat) (D:List HealthS)=>[(6,.int .i64 (j:Int)),(5,.int .i64 (((l.take j).filter (fun x=> !p x)).length:Int))]) (fun (j:Nat) (D:List HealthS)=>[.arr (.slice (some ⟨b,off,none⟩) l.length cap) 4 (D.map zbF)]) (fun (j:Nat) (D:List HealthS)=>DelInv p l j D) (fun (j:Nat) (D:List HealthS)=>l.length-j) (i0+1) (l) ?_ ?_ ?_ ?_
  ·exact hD0
  ·exact ⟨rfl,zL (by rw [hn0,hi0]),trivial⟩
  ·exact Ac _
  ·intro j D hD
   have hlt0:=hD.lt;have hle0:=hD.len;refine gz4 ?_;refine de rfl (za2 (i:=0) zg9 rfl rfl ?_)
   refine gz2 ?_;refine uCo (fun h3=> ?_) fun h4=> ?_
   ·obtain ⟨x,hx⟩: ∃x,l[j]? =some x:=⟨_,Aa uO⟩
    refine gz7 ?_;refine dq (zt (j:=j) zg9 zbJ rfl rfl rfl uO) ?_;refine de rfl (zR (i:=0) (j:=j) zbJ rfl rfl rfl (hD.get hx) rfl rfl rfl ?_)
    refine de rfl (zi zbJ rfl fun b7=> ?_)
    refine de0 (zo zbJ rfl rfl rfl rfl rfl ?_)
    refine gz1 ?_;refine zf (zp 7 rfl) ?_;refine gz3 ?_;refine dq (zan hca rfl rfl (WeakL.refl _) (hp _)) ?_;refine gz2 ?_;refine uCo (fun h5=> ?_) fun h6=> ?_
    ·refine gz4 ?_;refine dq (zt (j:=((l.take j).filter (fun x=> !p x)).length) zg9 zbJ rfl rfl rfl (by have:=hD.lt;omega)) ?_;refine de0 (zaP (i:=0) (j:=((l.take j).filter (fun x=> !p x)).length) (y:=D[((l.take j).filter (fun x=> !p x)).length]'(by have:=hD.lt;have:=hD.len;omega)) (y':=x) zbJ rfl rfl rfl rfl (Aa _) rfl rfl rfl ?_)
     refine gz3 ?_;refine dq (zbb rfl rfl uO (by have:=hD.lt;omega)) ?_;refine gz9 ?_;exact ⟨j+1,_,(hD.keep hx uSa).1,uD,⟨rfl,zL (by rw [(hD.keep hx uSa).2];rfl),trivial⟩,uK,Ac _⟩
    ·refine gz8 ?_;exact ⟨j+1,_,(hD.skip hx uSa).1,uD,⟨rfl,zL (by rw [(hD.skip hx uSa).2]),trivial⟩,uK,Ac _⟩
   ·obtain rfl:j=l.length:=by have:=hD.jle;omega
    have hend:=hD.done;refine gz2 ?_;refine zJ ?_;refine gz5 ?_;refine dq (zeB (l:=((l.take l.length).filter (fun x=> !p x)).length) zg9 zbJ rfl ⟨_,_,rfl,rfl⟩ rfl uO uO hcap) ?_;refine de0 (zes (i:=0) (m:=((l.take l.length).filter (fun x=> !p x)).length) (((l.take l.length).filter (fun x=> !p x)).length) zg9 zbJ rfl rfl rfl (zia uO hcap) rfl uO (Ae _) (by rw [Ah,hD.len];omega) ?_)
    refine gz4 ?_;refine dq (zfZ (h:=((l.take l.length).filter (fun x=> !p x)).length) zg9 zbJ rfl ⟨_,_,rfl,rfl⟩ uO) ?_;refine gz3 ?_
    (refine zW rfl ⟨_,rfl,?_⟩
     rw [Ap,<-BO,hend];rfl)
theorem zd6 [Tracks] {l:List StintS} {fid:FuncId} {caps:List HVal} {p:StintS->Bool} (hca:Callable prog fid) (hp: ∀x,ConP prog fid ([zcd x]++caps) (.bool (p x))) (hl:l.length<=1000000):ConP prog 253 [.slice 3 (l.map zcd),.fn (.func fid) [] caps] (.int .i64 (zaf p l 0)):=by
 refine uOb func253 ntmps253 ?_;refine zat ?_;refine uT1 [4,2,8,11] (fun k=>[(8,.int .i64 k)]) (fun k=>[]) (fun k=>k<=l.length/\(zaf p l 0=zaf p (l.drop k) k)) (fun k=>l.length-k) (0) ?_ ?_;exact ⟨Ad _,rfl⟩;rintro k ⟨hk,hg⟩;refine gz4 ?_;refine uCo (fun h1=> ?_) fun h2=> ?_
 obtain ⟨x,hx⟩: ∃x,l[k]? =some x:=⟨_,Aa h1⟩
 have hdx:=zg hx;rw [hdx] at hg;refine zdN ?_;refine dq (zan hca rfl rfl (WeakL.refl _) (hp _)) ?_;refine gz1 ?_;refine uCo (fun h3=> ?_) fun h4=> ?_
 refine gz5 ?_;refine uRp ?_
 (rw [hg];simp_all [zaf])
 refine gz7 ?_;refine ⟨k+1,?_,?_,⟨rfl,trivial⟩,uK,Ac _⟩
 refine ⟨by omega,?_⟩
 rw [hg,zaf,if_neg uSa];rfl
 dsimp only;omega
 have hnk:l.length<=k:=by omega
 obtain rfl:k=l.length:=by omega
 rw [zD (Ae _)] at hg;refine gz2 ?_;refine zn ?_;refine gz6 ?_;refine uRp ?_
 (rw [hg];rfl)
theorem zdU [Tracks] {l:List StintS} {fid:FuncId} {caps:List HVal} {p:StintS->Bool} {v:Value} (hca:Callable prog fid) (hp: ∀x,ConP prog fid ([zcd x]++caps) (.bool (p x))) (hl:l.length<=1000000):Con prog 193 [.raw v,.fn (.func fid) [] caps] [.arr v 3 (l.map zcd)] (fun x M'=> ∃u,x= .raw u/\M'=[.arr u 3 ((l.filter (fun x=> !p x)).map zcd)]):=by
 refine uOb func193 ntmps193 ?_;refine gz6 ?_;refine de rfl (zlh (hs':=[.slice 3 (l.map zcd),.fn (.func fid) [] caps]) zyJ rfl ⟨.arr (i:=0) rfl,.weak (Weak.refl _),trivial⟩ (zd6 (p:=p) hca hp hl) rfl ?_)
 refine gz7 ?_;refine uCo (fun h1=> ?_) fun h2=> ?_
 ·refine gz5 ?_
  (refine zW rfl ⟨_,rfl,?_⟩
   rw [ziw p l 0 uO h1]
   done)
 ·refine gz3 ?_;obtain ⟨i0,hi0,hil,⟨x0,hx0,hp0⟩,hb0⟩:=zhl p l 0 uO h2;rw [Int.zero_add] at hi0;obtain ⟨hD0,hn0⟩:=DelInv.start (p:=p) hil hx0 hp0 hb0;refine zcJ (i:=0) rfl (fun h0 he=> ?_) (fun b off cap hv hcap=> ?_)
  ·exfalso;have:=congrArg List.length he;simp at this;subst this;simp at hil
  rw [Ah] at hv hcap;subst hv;refine gz2 ?_;refine dq (zau (zbb rfl rfl (by rw [hi0];omega) (by rw [hi0];omega)) (congrArg _ (by rw [hi0]))) ?_;refine gz3 ?_;refine uV2 [5,3,16,20] (fun (j:Nat) (D:List StintS)=>[(6,.int .i64 (j:Int)),(5,.int .i64 (((l.take j).filter (fun x=> !p x)).length:Int))]) (fun (j:Nat) (D:List StintS)=>[.arr (.slice (some ⟨b,off,none⟩) l.length cap) 3 (D.map zcd)]) (fun (j:Nat) (D:List StintS)=>DelInv p l j D) (fun (j:Nat) (D:List StintS)=>l.length-j) (i0+1) (l) ?_ ?_ ?_ ?_
  ·exact hD0
  ·exact ⟨rfl,zL (by rw [hn0,hi0]),trivial⟩
  ·exact Ac _
  ·intro j D hD
   have hlt0:=hD.lt;have hle0:=hD.len;refine gz4 ?_;refine de rfl (za2 (i:=0) zfr rfl rfl ?_)
   refine gz2 ?_;refine uCo (fun h3=> ?_) fun h4=> ?_
   ·obtain ⟨x,hx⟩: ∃x,l[j]? =some x:=⟨_,Aa uO⟩
    refine gz7 ?_;refine dq (zt (j:=j) zfr zbV rfl rfl rfl uO) ?_;refine de rfl (zR (i:=0) (j:=j) zbV rfl rfl rfl (hD.get hx) rfl rfl rfl ?_)
    refine de rfl (zi zbV rfl fun b7=> ?_)
    refine de0 (zo zbV rfl rfl rfl rfl rfl ?_)
    refine gz1 ?_;refine zf (zp 7 rfl) ?_;refine gz3 ?_;refine dq (zan hca rfl rfl (WeakL.refl _) (hp _)) ?_;refine gz2 ?_;refine uCo (fun h5=> ?_) fun h6=> ?_
    ·refine gz4 ?_;refine dq (zt (j:=((l.take j).filter (fun x=> !p x)).length) zfr zbV rfl rfl rfl (by have:=hD.lt;omega)) ?_;refine de0 (zaP (i:=0) (j:=((l.take j).filter (fun x=> !p x)).length) (y:=D[((l.take j).filter (fun x=> !p x)).length]'(by have:=hD.lt;have:=hD.len;omega)) (y':=x) zbV rfl rfl rfl rfl (Aa _) rfl rfl rfl ?_)
     refine gz3 ?_;refine dq (zbb rfl rfl uO (by have:=hD.lt;omega)) ?_;refine gz9 ?_;exact ⟨j+1,_,(hD.keep hx uSa).1,uD,⟨rfl,zL (by rw [(hD.keep hx uSa).2];rfl),trivial⟩,uK,Ac _⟩
    ·refine gz8 ?_;exact ⟨j+1,_,(hD.skip hx uSa).1,uD,⟨rfl,zL (by rw [(hD.skip hx uSa).2]),trivial⟩,uK,Ac _⟩
   ·obtain rfl:j=l.length:=by have:=hD.jle;omega
    have hend:=hD.done;refine gz2 ?_;refine zJ ?_;refine gz5 ?_;refine dq (zeB (l:=((l.take l.length).filter (fun x=> !p x)).length) zfr zbV rfl ⟨_,_,rfl,rfl⟩ rfl uO uO hcap) ?_;refine de0 (zes (i:=0) (m:=((l.take l.length).filter (fun x=> !p x)).length) (((l.take l.length).filter (fun x=> !p x)).length) zfr zbV rfl rfl rfl (zia uO hcap) rfl uO (Ae _) (by rw [Ah,hD.len];omega) ?_)
    refine gz4 ?_;refine dq (zfZ (h:=((l.take l.length).filter (fun x=> !p x)).length) zfr zbV rfl ⟨_,_,rfl,rfl⟩ uO) ?_;refine gz3 ?_
    (refine zW rfl ⟨_,rfl,?_⟩
     rw [Ap,<-BO,hend];rfl)
theorem zdo [Tracks] {x:HealthS}:ConP prog 78 [zbF x] (.str x.Player):=by
 refine uOb func78 ntmps78 ?_;refine zat ?_;refine zB rfl ?_
 rfl
theorem zk7 [Tracks] {L:List PlayerS} {x:HealthS} (hL:L.length<=1000000):ConP prog 147 [zbF x,.vptr [zaT L] 0,.vptr [.fn (.func 78) [] []] 0] (.bool (ofB L x.Player)):=by
 refine uOb func147 ntmps147 ?_;refine gz4 ?_;refine uDr mixed ?_;refine gz3 ?_;refine uB 3 rfl (zan ca78 rfl rfl (WeakL.refl _) (zdo (x:=x))) ?_;refine uB 4 rfl (uCl zpA rfl (zcs (l:=L) (s:=x.Player) hL)) ?_;refine gz4 ?_;refine uGy 9 rfl rfl (fun hc=>zan ca78 rfl rfl (WeakL.refl _) (zdo (x:=x))) ?_;refine gz5 ?_;refine zB rfl ?_;refine congrArg _ ?_;unfold ofB
 cases decide (zaf (fun x_1:PlayerS=>x_1.Key==x.Player) L 0<0)
 rfl
 rfl
theorem zmw [Tracks] {L:List PlayerS} {l:List HealthS} {v:Value} (hL:L.length<=1000000) (hl:l.length<=1000000):Con prog 77 [zaT L,.raw v,.fn (.func 78) [] []] [.arr v 4 (l.map zbF)] (fun x M'=> ∃u,x= .raw u/\M'=[.arr u 4 ((l.filter fun x=> !(ofB L x.Player)).map zbF)]):=by
 refine uOb func77 ntmps77 ?_;refine gz8 ?_;refine de rfl (uCx 0 zxQ rfl rfl (zdE (l:=l) (p:=fun x=>ofB L x.Player) zxR (fun _=>zk7 hL) hl) ?_)
 rintro _ _ ⟨u9,rfl,rfl⟩;refine gz3 ?_;exact zW rfl ⟨u9,rfl,rfl⟩
theorem zdp [Tracks] {x:StintS}:ConP prog 139 [zcd x] (.str x.Player):=by
 refine uOb func139 ntmps139 ?_;refine zat ?_;refine zB rfl ?_
 rfl
theorem zl8 [Tracks] {L:List PlayerS} {x:StintS} (hL:L.length<=1000000):ConP prog 194 [zcd x,.vptr [zaT L] 0,.vptr [.fn (.func 139) [] []] 0] (.bool (ofB L x.Player)):=by
 refine uOb func194 ntmps194 ?_;refine gz4 ?_;refine uDr mixed ?_;refine gz3 ?_;refine uB 3 rfl (zan zvf rfl rfl (WeakL.refl _) (zdp (x:=x))) ?_;refine uB 4 rfl (uCl zpA rfl (zcs (l:=L) (s:=x.Player) hL)) ?_;refine gz4 ?_;refine uGy 9 rfl rfl (fun hc=>zan zvf rfl rfl (WeakL.refl _) (zdp (x:=x))) ?_;refine gz5 ?_;refine zB rfl ?_;refine congrArg _ ?_;unfold ofB
 cases decide (zaf (fun x_1:PlayerS=>x_1.Key==x.Player) L 0<0)
 rfl
 rfl
theorem zmZ [Tracks] {L:List PlayerS} {l:List StintS} {v:Value} (hL:L.length<=1000000) (hl:l.length<=1000000):Con prog 137 [zaT L,.raw v,.fn (.func 139) [] []] [.arr v 3 (l.map zcd)] (fun x M'=> ∃u,x= .raw u/\M'=[.arr u 3 ((l.filter fun x=> !(ofB L x.Player)).map zcd)]):=by
 refine uOb func137 ntmps137 ?_;refine gz8 ?_;refine de rfl (uCx 0 zyk rfl rfl (zdU (l:=l) (p:=fun x=>ofB L x.Player) zyl (fun _=>zl8 hL) hl) ?_)
 rintro _ _ ⟨u9,rfl,rfl⟩;refine gz3 ?_;exact zW rfl ⟨u9,rfl,rfl⟩
theorem zgG [Tracks] {b:Nat} {l:List Int} {a:Nat} {L:List PlayerS} (ha:a<=700000) (hL:L.length<=1000000):Con prog 31 [pAt b,zaT L] [St b l a] (fun x M'=> ∃k a',x=zbN k/\GoodHes k/\a'<=a+150/\M'=[St b l a']):=by
 refine uOb func31 ntmps31 ?_;refine gz6 ?_;refine zf (zM 4) ?_;refine gz2 ?_;refine dq (za (hs:=[_,_,_,_,_]) zj ty9 rfl rfl (by decide) (by decide) rfl) ?_;refine dq (zax (f:=HVal.str) (l:=nm5) zj rfl) ?_;refine gz3 ?_;refine uV2 [5,1,7,3,12,47] (fun (k:Nat) (q:GL HealthS)=>[(12,.int .i64 k),(5,.raw q.u)]) (fun (k:Nat) (q:GL HealthS)=>[St b l q.a,.arr q.u 4 (q.out.map zbF)]) (fun (k:Nat) (q:GL HealthS)=>k<=nm5.length/\(GLok zpV (2*k) (a+24*k) q)) (fun (k:Nat) (q:GL HealthS)=>nm5.length-k) (0) (⟨.slice none 0 0,[],a⟩) ?_ ?_ ?_ ?_;exact ⟨Ad _,⟨by simp,by simp,uD⟩⟩;exact ⟨rfl,rfl,trivial⟩;exact uP
 intro k q hinv
 obtain ⟨hk,hq⟩:=hinv;have hlen:nm5.length=5:=rfl;obtain ⟨u,out,a2⟩:=q;obtain ⟨g1,g2,g3⟩:=id hq;dsimp only at g1 g2 g3;refine gz4 ?_;refine uCo (fun h1=> ?_) fun h2=> ?_
 obtain ⟨x,hx⟩: ∃x,nm5[k]? =some x:=⟨_,Aa h1⟩
 have hdx:=zg hx;refine gz5 ?_;refine dq (zC (f:=HVal.str) (l:=nm5) (j:=k) (a:=x) zj ty9 rfl rfl rfl hx) ?_;refine gz5 ?_;refine de rfl (uCx 0 ca5 rfl rfl (zz uS uS uS uS) ?_)
 rintro _ _ ⟨y17,rfl,hy17,rfl⟩;refine gz4 ?_;refine de rfl (uCx 0 ca5 rfl rfl (zz uS uS uS uS) ?_)
 rintro _ _ ⟨y19,rfl,hy19,rfl⟩;refine gz3 ?_;refine uV3 [5,1,8,2,20,38] (fun (n:Nat) (wk:Int) (q2:GL HealthS)=>[(20,.int .i64 (n:Int)),(8,.int .i64 wk),(5,.raw q2.u)]) (fun (n:Nat) (wk:Int) (q2:GL HealthS)=>[St b l q2.a,.arr q2.u 4 (q2.out.map zbF)]) (fun (n:Nat) (wk:Int) (q2:GL HealthS)=>(n:Int)<=y19/\(1<=wk/\wk<=3+4*n)/\GLok zpV (2*k+n) (a+24*k+2+11*n) q2) (fun (n:Nat) (wk:Int) (q2:GL HealthS)=>y19.toNat-n) (0) (y17) (⟨u,out,a2+2⟩) ?_ ?_ ?_ ?_;exact ⟨by omega,by omega,⟨uD,g2,uD⟩⟩;exact ⟨rfl,rfl,rfl,trivial⟩;exact uP
 intro n wk q2 hinv
 obtain ⟨hn,hw,hq2⟩:=hinv;obtain ⟨u,out,a2⟩:=q2;obtain ⟨g1,g2,g3⟩:=id hq2;dsimp only at g1 g2 g3;refine gz4 ?_;refine uCo (fun h3=> ?_) fun h4=> ?_
 refine gz9 ?_;refine de rfl (uCx 0 ca5 rfl rfl (zz uS uS uS uS) ?_)
 rintro _ _ ⟨y26,rfl,hy26,rfl⟩;refine gz2 ?_;refine dq (za (hs:=[_,_]) zV ty3 rfl rfl (by decide) (by decide) rfl) ?_;refine de rfl (uCx 0 zaE rfl rfl (zd (L:=[_,_]) uS uS uS) ?_)
 rintro _ _ ⟨y30,rfl,hy30,rfl⟩;refine dq (zH (cs:=[_,_,_,_]) zbJ zy3 rfl) ?_;refine de rfl (zi zbJ rfl fun b9=> ?_)
 refine de0 (uY 0 ?_)
 refine gz1 ?_;refine zbw (fun M=> ∃i:Nat,M[i]? =some (.cells b9 (zb (zbF (⟨x,wk,wk+y26,y30⟩:HealthS))))) [1] mixed ?_;refine gz1 ?_;refine uM 1 rfl ⟨0,rfl⟩ (fun M hM=>by obtain ⟨i,hi⟩:=hM;exact zab (i:=i) (h:= .int .i64 (wk+y26)) ty3 rfl hi (.inl ⟨rfl,rfl⟩) ⟨rfl,rfl⟩) ?_;refine gz1 ?_;refine uF 3 ?_;refine zm rfl (uCx 1 ca5 rfl rfl (zz uS uS uS uS) ?_)
 rintro _ _ ⟨y35,rfl,hy35,rfl⟩;refine ⟨uE,?_⟩
 refine gz3 ?_;refine uVj [37,16] (fun (q4:HealthS×Nat)=>[]) (fun (q4:HealthS×Nat)=>[St b l q4.2,.arr u 4 (out.map zbF),.cells b9 (zb (zbF q4.1))]) (fun (q4:HealthS×Nat)=>zpV q4.1/\q4.2<=a2+11) ?_ ?_
 skip
 refine gz2 ?_;refine de rfl (uCx 0 zdl rfl rfl (zy uS uS) ?_)
 rintro _ _ ⟨y38,rfl,rfl⟩;refine gz1 ?_;refine uCo (fun h5=> ?_) fun h6=> ?_
 refine gz3 ?_;refine dq (za (hs:=[_,_]) zj ty9 rfl rfl (by decide) (by decide) rfl) ?_;refine de rfl (uCx 0 zby rfl rfl (zh (L:=[_,_]) uS uS uS) ?_)
 rintro _ _ ⟨y42,rfl,hy42,rfl⟩;refine gz1 ?_;refine de rfl (uCx 0 zmC rfl rfl (zgc uS uS uS uS) ?_)
 rintro _ _ ⟨y44,rfl,hy44,rfl⟩;refine gz1 ?_;refine de rfl (uCx 0 zmC rfl rfl (zgc uS uS uS uS) ?_)
 rintro _ _ ⟨y46,rfl,hy46,rfl⟩;refine gz1 ?_;refine de rfl (uCx 0 zmC rfl rfl (zgc uS uS uS uS) ?_)
 rintro _ _ ⟨y48,rfl,hy48,rfl⟩;refine gz1 ?_;refine de0 (uY 1 ?_)
 refine gz1 ?_;refine de0 (uY 1 ?_)
 refine gz1 ?_;refine de0 (uY 1 ?_)
 refine gz1 ?_;refine de0 (uY 1 ?_)
 refine gz1 ?_;exact ⟨((⟨y42,y44,y46,y48⟩:HealthS),a2+11),⟨⟨uD,uD⟩,uD⟩,trivial,uK,uP⟩;refine gz1 ?_;exact ⟨((⟨x,wk,wk+y26,y30⟩:HealthS),a2+4),⟨⟨uD,uD⟩,uD⟩,trivial,uK,uP⟩
 intro q4 hq4
 obtain ⟨x5,a5⟩:=q4;obtain ⟨hx5,ha5⟩:=hq4;dsimp only at hx5 ha5;refine zf (zcN 9 (i:=2) rfl rfl) ?_;refine gz3 ?_;refine dq (za (hs:=[_]) zg9 zbJ rfl rfl (by decide) (by decide) rfl) ?_;refine de rfl (zP (i:=1) zg9 zbJ rfl rfl rfl rfl rfl (by simp [zas,zb,zap,zaM]) uSo fun v56=> ?_)
 refine gz8 ?_;exact ⟨n+1,wk+y26+y35,⟨v56,out++[x5],a5⟩,⟨by omega,⟨by omega,by omega⟩,hq2.add (x:=x5) hx5 uO⟩,uD,⟨rfl,rfl,rfl,trivial⟩,uK,uP⟩;refine gz2 ?_;refine zcn ?_;refine gz7 ?_;exact ⟨k+1,⟨u,out,a2⟩,⟨by omega,hq2.mono uO uO⟩,uD,⟨rfl,rfl,trivial⟩,uK,uP⟩;have hnk:nm5.length<=k:=by omega
 obtain rfl:k=nm5.length:=by omega
 refine gz2 ?_;refine zJ ?_;refine gz5 ?_;refine de rfl (uCx 1 ca77 rfl rfl (zmw (L:=L) (l:=out) hL uO) ?_)
 rintro _ _ ⟨u61,rfl,rfl⟩;refine gz3 ?_;exact zaa (zaC 4 (i:=0) rfl rfl) rfl ⟨_,a2,rfl,GoodHes.filter uO g2,by omega,rfl⟩
theorem zhf [Tracks] {b:Nat} {l:List Int} {a:Nat} (ha:a<=700000):Con prog 138 [pAt b] [St b l a] (fun x M'=> ∃(u:Value) (k:List StintS) (a':Nat),x= .raw u/\k.length<=10/\a'<=a+100/\M'=[.arr u 3 (k.map zcd),St b l a']):=by
 refine uOb func138 ntmps138 ?_;refine gz6 ?_;refine zf (zM 3) ?_;refine gz2 ?_;refine dq (za (hs:=[_,_,_,_,_]) zj ty9 rfl rfl (by decide) (by decide) rfl) ?_;refine dq (zax (f:=HVal.str) (l:=nm5) zj rfl) ?_;refine gz3 ?_;refine uV2 [3,1,5,3,10,40] (fun (k:Nat) (q:GL StintS)=>[(10,.int .i64 k),(3,.raw q.u)]) (fun (k:Nat) (q:GL StintS)=>[St b l q.a,.arr q.u 3 (q.out.map zcd)]) (fun (k:Nat) (q:GL StintS)=>k<=nm5.length/\(GLok (fun _=>True) (2*k) (a+20*k) q)) (fun (k:Nat) (q:GL StintS)=>nm5.length-k) (0) (⟨.slice none 0 0,[],a⟩) ?_ ?_ ?_ ?_
 ·exact ⟨Ad _,⟨by simp,by simp,uD⟩⟩
 ·exact ⟨rfl,rfl,trivial⟩
 ·exact uP
 ·intro k q hinv
  obtain ⟨hk,hq⟩:=hinv;have hlen:nm5.length=5:=rfl;obtain ⟨u,out,a2⟩:=q;obtain ⟨g1,g2,g3⟩:=id hq;dsimp only at g1 g2 g3;refine gz4 ?_;refine uCo (fun h1=> ?_) fun h2=> ?_
  ·obtain ⟨x,hx⟩: ∃x,nm5[k]? =some x:=⟨_,Aa h1⟩
   have hdx:=zg hx;refine gz5 ?_;refine dq (zC (f:=HVal.str) (l:=nm5) (j:=k) (a:=x) zj ty9 rfl rfl rfl hx) ?_;refine gz5 ?_;refine de rfl (uCx 0 ca5 rfl rfl (zz uS uS uS uS) ?_)
   rintro _ _ ⟨y15,rfl,hy15,rfl⟩;refine gz4 ?_;refine de rfl (uCx 0 ca5 rfl rfl (zz uS uS uS uS) ?_)
   rintro _ _ ⟨y17,rfl,hy17,rfl⟩;refine gz3 ?_;refine uV3 [3,1,6,2,18,31] (fun (n:Nat) (wk:Int) (q2:GL StintS)=>[(18,.int .i64 (n:Int)),(6,.int .i64 wk),(3,.raw q2.u)]) (fun (n:Nat) (wk:Int) (q2:GL StintS)=>[St b l q2.a,.arr q2.u 3 (q2.out.map zcd)]) (fun (n:Nat) (wk:Int) (q2:GL StintS)=>(n:Int)<=y17/\(1<=wk/\wk<=2+3*n)/\GLok (fun _=>True) (2*k+n) (a+20*k+2+9*n) q2) (fun (n:Nat) (wk:Int) (q2:GL StintS)=>y17.toNat-n) (0) (y15) (⟨u,out,a2+2⟩) ?_ ?_ ?_ ?_
   ·exact ⟨by omega,by omega,⟨uD,g2,uD⟩⟩
   ·exact ⟨rfl,rfl,rfl,trivial⟩
   ·exact uP
   ·intro n wk q2 hinv
    obtain ⟨hn,hw,hq2⟩:=hinv;obtain ⟨u,out,a2⟩:=q2;obtain ⟨g1,g2,g3⟩:=id hq2;dsimp only at g1 g2 g3;refine gz4 ?_;refine uCo (fun h3=> ?_) fun h4=> ?_
    ·refine gz7 ?_;refine dq (za (hs:=[_,_,_,_]) zj ty9 rfl rfl (by decide) (by decide) rfl) ?_;refine de rfl (uCx 0 zby rfl rfl (zh (L:=[_,_,_,_]) uS uS uS) ?_)
     rintro _ _ ⟨y23,rfl,hy23,rfl⟩;refine gz1 ?_;refine dq (zH (cs:=[_,_,_]) zbV zy7 rfl) ?_;refine de rfl (zi zbV rfl fun b7=> ?_)
     refine de0 (uY 0 ?_)
     refine gz1 ?_;refine uVj [26,14] (fun (q4:StintS×Nat)=>[]) (fun (q4:StintS×Nat)=>[St b l q4.2,.arr u 3 (out.map zcd),.cells b7 (zb (zcd q4.1))]) (fun (q4:StintS×Nat)=>q4.2<=a2+8) ?_ ?_
     ·skip
      refine gz2 ?_;refine de rfl (uCx 1 zdl rfl rfl (zy uS uS) ?_)
      rintro _ _ ⟨y27,rfl,rfl⟩;refine gz1 ?_;refine uCo (fun h5=> ?_) fun h6=> ?_
      ·refine gz3 ?_;refine dq (za (hs:=[_,_,_]) zj ty9 rfl rfl (by decide) (by decide) rfl) ?_;refine de rfl (uCx 0 zby rfl rfl (zh (L:=[_,_,_]) uS uS uS) ?_)
       rintro _ _ ⟨y31,rfl,hy31,rfl⟩;refine gz1 ?_;refine dq (za (hs:=[_,_]) zj ty9 rfl rfl (by decide) (by decide) rfl) ?_;refine de rfl (uCx 0 zby rfl rfl (zh (L:=[_,_]) uS uS uS) ?_)
       rintro _ _ ⟨y34,rfl,hy34,rfl⟩;refine gz1 ?_;refine de rfl (uCx 0 zmC rfl rfl (zgc uS uS uS uS) ?_)
       rintro _ _ ⟨y36,rfl,hy36,rfl⟩;refine gz1 ?_;refine de0 (uY 1 ?_)
       refine gz1 ?_;refine de0 (uY 1 ?_)
       refine gz1 ?_;refine de0 (uY 1 ?_)
       refine gz1 ?_;exact ⟨((⟨y31,y34,y36⟩:StintS),a2+6),uD,trivial,uK,uP⟩
      ·refine gz1 ?_;exact ⟨((⟨x,y23,wk⟩:StintS),a2+2),uD,trivial,uK,uP⟩
     ·intro q4 ha5
      obtain ⟨x5,a5⟩:=q4;dsimp only at ha5;refine zf (zcN 7 (i:=2) rfl rfl) ?_;refine gz3 ?_;refine dq (za (hs:=[_]) zfr zbV rfl rfl (by decide) (by decide) rfl) ?_;refine de rfl (zP (i:=1) zfr zbV rfl rfl rfl rfl rfl (by simp [zas,zb,zap,zaM]) uSo fun v43=> ?_)
      refine gz5 ?_;refine de rfl (uCx 0 ca5 rfl rfl (zz uS uS uS uS) ?_)
      rintro _ _ ⟨y46,rfl,hy46,rfl⟩;refine gz9 ?_;exact ⟨n+1,wk+y46,⟨v43,out++[x5],a5+1⟩,⟨by omega,⟨by omega,by omega⟩,hq2.add (x:=x5) trivial uO⟩,uD,⟨rfl,rfl,rfl,trivial⟩,uK,uP⟩
    ·refine gz2 ?_;refine zcn ?_;refine gz7 ?_;exact ⟨k+1,⟨u,out,a2⟩,⟨by omega,hq2.mono uO uO⟩,uD,⟨rfl,rfl,trivial⟩,uK,uP⟩
  ·have hnk:nm5.length<=k:=by omega
   obtain rfl:k=nm5.length:=by omega
   refine gz2 ?_;refine zJ ?_;refine gz7 ?_;exact zaa (Ghost.perm (List.Perm.swap _ _ _)) rfl ⟨_,out,a2,rfl,by omega,by omega,rfl⟩
theorem zgI [Tracks] {b:Nat} {l:List Int} {a:Nat} {L:List PlayerS} (ha:a<=700000) (hL:L.length<=1000000):Con prog 68 [pAt b,zaT L] [St b l a] (fun x M'=> ∃k a',x=zd2 k/\k.length<=10/\a'<=a+100/\M'=[St b l a']):=by
 refine uOb func68 ntmps68 ?_;refine gz6 ?_;refine de rfl (uCx 0 zxO rfl rfl (zhf (b:=b) (l:=l) (a:=a) ha) ?_)
 rintro _ _ ⟨u7,k7,a7,rfl,hk7,ha7,rfl⟩;refine de rfl (uCx 0 zxN rfl rfl (zmZ (L:=L) (l:=k7) hL uO) ?_)
 rintro _ _ ⟨u8,rfl,rfl⟩;refine gz3 ?_;exact zaa (zaC 4 (i:=0) rfl rfl) rfl ⟨_,a7,rfl,Ay (AW _ _) hk7,by omega,rfl⟩
end
section
open Go.Proofs.Tryz
open Go.HL
theorem zk0 [Tracks] {n d:Int} (hn: -1000000<=n/\n<=1000000) (hd:1<=d/\d<=1000000):ConP prog 192 [.int .i64 n,.int .i64 d] (.agg [.int .i64 (n.tdiv (zfU n d)),.int .i64 (d.tdiv (zfU n d))]):=by
 have hg0:=zwe (n:=n) hd.1;refine zcM func192 rfl ntmps192 rfl rfl ?_;refine gz1 ?_;refine de rfl (zi za4 rfl fun b4=> ?_)
 refine gz4 ?_;refine dq (uCl zvx rfl (zf7 (n:=n) (d:=d) uO uO)) ?_;refine gz2 ?_;refine uDr mixed ?_;refine gz2 ?_;refine uB 2 rfl (zfC (n:=zfU n d) rfl rfl uO uO uO) ?_;refine gz2 ?_;refine uB 5 rfl (zfC (n:=zfU n d) rfl rfl uO uO uO) ?_;refine uB 6 rfl (zH (cs:=[_,_]) za4 zkh rfl) ?_;refine uF 7 ?_;refine zI (uY 0 ?_)
 refine ⟨uE,?_⟩
 refine gz2 ?_;exact ⟨_,_,zp 4 rfl,[_],_,⟨⟨_,_,_,_,_,rfl,za4,.inr ⟨rfl,rfl,rfl⟩⟩,trivial⟩,Weak.refl _,rfl,rfl⟩
theorem zhM [Tracks] {n:Int} (hn: -1000000<=n/\n<=1000000):ConP prog 135 [.int .i64 n] (.agg [.int .i64 (n.tdiv (zfU n 100)),.int .i64 ((100:Int).tdiv (zfU n 100))]):=by
 refine zcM func135 rfl ntmps135 rfl rfl ?_;refine gz1 ?_;refine de rfl (zi za4 rfl fun b2=> ?_)
 refine gz3 ?_;refine dq (uCl zyj rfl (zk0 (n:=n) (d:=100) hn uO)) ?_;refine de0 (uY 0 ?_)
 refine gz2 ?_;exact ⟨_,_,zp 2 rfl,[_],_,⟨⟨_,_,_,_,_,rfl,za4,.inr ⟨rfl,rfl,rfl⟩⟩,trivial⟩,Weak.refl _,rfl,rfl⟩
theorem znX [Tracks] {b:Nat} {l:List Int} {a:Nat} (ha:a<=700000):Con prog 64 [pAt b] [St b l a] (fun x M'=> ∃(u:Value) (k:List SlotS) (a':Nat),x= .raw u/\GoodS4s k/\0<k.length/\a'<=a+25/\M'=[.arr u 2 (k.map zbs),St b l a']):=by
 refine uOb func64 ntmps64 ?_;refine gz6 ?_;refine zf (zM 2) ?_;refine gz2 ?_;refine dq (za (hs:=[_,_,_,_]) zj ty9 rfl rfl (by decide) (by decide) rfl) ?_;refine gz1 ?_;refine de rfl (uCx 1 ca5 rfl rfl (zz uS uS uS uS) ?_)
 rintro _ _ ⟨y8,rfl,hy8,rfl⟩;refine dq (zaI (es:=sl4) (f:=HVal.str) (h:=y8.toNat) zj ty9 rfl rfl ⟨_,_,rfl,by omega⟩ uO (by simp [sl4];omega)) ?_;refine dq (zax (f:=HVal.str) (l:=(sl4.take y8.toNat)) zj rfl) ?_;refine gz2 ?_;have hlen:(sl4.take y8.toNat).length=y8.toNat:=by simp [sl4];omega
 refine gz1 ?_;refine uV2 [3,1,5,1,11,12] (fun (k:Nat) (q:GL SlotS)=>[(11,.int .i64 k),(3,.raw q.u)]) (fun (k:Nat) (q:GL SlotS)=>[St b l q.a,.arr q.u 2 (q.out.map zbs)]) (fun (k:Nat) (q:GL SlotS)=>k<=(sl4.take y8.toNat).length/\(q.out.length=k/\GLok zjm k (a+1+5*k) q)) (fun (k:Nat) (q:GL SlotS)=>(sl4.take y8.toNat).length-k) (0) (⟨.slice none 0 0,[],a+1⟩) ?_ ?_ ?_ ?_
 ·exact ⟨Ad _,rfl,⟨by simp,by simp,uD⟩⟩
 ·exact ⟨rfl,rfl,trivial⟩
 ·exact uP
 ·intro k q hinv
  obtain ⟨hk,⟨hn,hq⟩⟩:=hinv;obtain ⟨u,out,a2⟩:=q;obtain ⟨g1,g2,g3⟩:=id hq;dsimp only at g1 g2 g3;dsimp only at hn;refine gz4 ?_;refine uCo (fun h1=> ?_) fun h2=> ?_
  ·obtain ⟨x,hx⟩: ∃x,(sl4.take y8.toNat)[k]? =some x:=⟨_,Aa (by simpa using h1)⟩
   have hdx:=zg hx;refine gz5 ?_;refine dq (zC (f:=HVal.str) (l:=(sl4.take y8.toNat)) (j:=k) (a:=x) zj ty9 rfl rfl rfl hx) ?_;refine gz7 ?_;refine de rfl (uCx 0 zr4 rfl rfl (zcR uS) ?_)
   rintro _ _ ⟨t18,a18,rfl,ht18,ha18,rfl⟩;refine dq (zH (cs:=[_,_]) ze3 zuG rfl) ?_;refine dq (za (hs:=[_]) zf3 ze3 rfl rfl (by decide) (by decide) rfl) ?_;refine de rfl (zP (i:=1) zf3 ze3 rfl rfl rfl rfl rfl (by simp [zas,zb,zap,zaM]) uSo fun v21=> ?_)
   refine gz8 ?_;exact ⟨k+1,⟨v21,out++[(⟨x,t18⟩:SlotS)],a18⟩,⟨by omega,by simp;omega,hq.add (x:=(⟨x,t18⟩:SlotS)) (by show t18.length<=4;omega) (by dsimp only at ha18;omega)⟩,uD,⟨rfl,rfl,trivial⟩,uK,zq (by dsimp only;first|rfl|(rw [AB];rfl))⟩
  ·have hnk:(sl4.take y8.toNat).length<=k:=by simpa using h2
   obtain rfl:k=(sl4.take y8.toNat).length:=by omega
   refine gz2 ?_;refine zJ ?_;refine gz7 ?_;exact zaa (Ghost.perm (List.Perm.swap _ _ _)) rfl ⟨_,out,a2,rfl,⟨by omega,g2⟩,by omega,by omega,rfl⟩
theorem zbf [Tracks] {b:Nat} {l:List Int} {a:Nat} (ha:a<=700000):Con prog 63 [pAt b] [St b l a] (fun x M'=> ∃k a',x=zhW k/\GoodRus k/\a'<=a+40/\M'=[St b l a']):=by
 refine uOb func63 ntmps63 ?_;refine gz6 ?_;refine zf (zM 7) ?_;refine gz2 ?_;refine dq (za (hs:=[_,_,_,_,_]) zj ty9 rfl rfl (by decide) (by decide) rfl) ?_;refine dq (zax (f:=HVal.str) (l:=ru5) zj rfl) ?_;refine gz3 ?_;refine uV2 [3,1,5,2,9,37] (fun (k:Nat) (q:GL RuleS)=>[(9,.int .i64 k),(3,.raw q.u)]) (fun (k:Nat) (q:GL RuleS)=>[St b l q.a,.arr q.u 7 (q.out.map zpG)]) (fun (k:Nat) (q:GL RuleS)=>k<=ru5.length/\(GLok ztY k (a+8*k) q)) (fun (k:Nat) (q:GL RuleS)=>ru5.length-k) (0) (⟨.slice none 0 0,[],a⟩) ?_ ?_ ?_ ?_;exact ⟨Ad _,⟨by simp,by simp,uD⟩⟩;exact ⟨rfl,rfl,trivial⟩;exact uP
 intro k q hinv
 obtain ⟨hk,hq⟩:=hinv;have hlen:ru5.length=5:=rfl;obtain ⟨u,out,a2⟩:=q;obtain ⟨g1,g2,g3⟩:=id hq;dsimp only at g1 g2 g3;refine gz4 ?_;refine uCo (fun h1=> ?_) fun h2=> ?_
 obtain ⟨x,hx⟩: ∃x,ru5[k]? =some x:=⟨_,Aa h1⟩
 have hdx:=zg hx;refine gz5 ?_;refine dq (zC (f:=HVal.str) (l:=ru5) (j:=k) (a:=x) zj ty9 rfl rfl rfl hx) ?_;refine gz6 ?_;refine de rfl (uCx 0 zdl rfl rfl (zy uS uS) ?_)
 rintro _ _ ⟨y14,rfl,rfl⟩;refine gz1 ?_;refine uCo (fun h3=> ?_) fun h4=> ?_
 refine gz8 ?_;exact ⟨k+1,⟨u,out,a2+1⟩,⟨by omega,hq.same uO⟩,uD,⟨rfl,rfl,trivial⟩,uK,uP⟩;refine gz5 ?_;refine dq (za (hs:=[_,_,_,_]) zj ty9 rfl rfl (by decide) (by decide) rfl) ?_;refine de rfl (uCx 0 zby rfl rfl (zh (L:=[_,_,_,_]) uS uS uS) ?_)
 rintro _ _ ⟨y18,rfl,hy18,rfl⟩;refine gz1 ?_;refine dq (za (hs:=[_,_,_,_]) zj ty9 rfl rfl (by decide) (by decide) rfl) ?_;refine de rfl (uCx 0 zby rfl rfl (zh (L:=[_,_,_,_]) uS uS uS) ?_)
 rintro _ _ ⟨y21,rfl,hy21,rfl⟩;refine gz1 ?_;refine de rfl (uCx 0 ca5 rfl rfl (zz uS uS uS uS) ?_)
 rintro _ _ ⟨y23,rfl,hy23,rfl⟩;refine gz1 ?_;refine dq (za (hs:=[_,_,_,_,_,_]) zV ty3 rfl rfl (by decide) (by decide) rfl) ?_;refine de rfl (uCx 0 zaE rfl rfl (zd (L:=[_,_,_,_,_,_]) uS uS uS) ?_)
 rintro _ _ ⟨y26,rfl,hy26,rfl⟩;refine dq (uCl zxM rfl (zhM (n:=y26) (by simp at hy26;omega))) ?_;refine dq (zH (cs:=[_,_,_,_,_,_,_]) zgC zy6 rfl) ?_;refine de rfl (zi zgC rfl fun b6=> ?_)
 refine de0 (uY 0 ?_)
 refine gz1 ?_;have hb1:=zrt (n:=y26) (g:=zfU y26 100) (by simp at hy26;omega);have hb2:=zrt (n:=100) (g:=zfU y26 100) uO;refine uVj [29,12] (fun (q4:RuleS×Nat)=>[]) (fun (q4:RuleS×Nat)=>[St b l q4.2,.arr u 7 (out.map zpG),.cells b6 (zb (zpG q4.1))]) (fun (q4:RuleS×Nat)=>ztY q4.1/\q4.2<=a2+7) ?_ ?_
 skip
 refine gz2 ?_;refine de rfl (uZ 0 ?_)
 refine gz3 ?_;refine dgl rfl rfl (fun hc=>⟨_,OpenTo.upd (t:=33) rfl (hc) (OpenTo.refl _),zab (i:=0) ty3 rfl rfl (.inl ⟨rfl,rfl⟩) ⟨rfl,rfl⟩⟩) ?_;refine gz3 ?_;refine uCo (fun h5=> ?_) fun h6=> ?_
 refine gz2 ?_;refine dq (za (hs:=[_,_,_,_,_]) zV ty3 rfl rfl (by decide) (by decide) rfl) ?_;refine de rfl (uCx 1 zaE rfl rfl (zd (L:=[_,_,_,_,_]) uS uS uS) ?_)
 rintro _ _ ⟨y39,rfl,hy39,rfl⟩;refine gz1 ?_;refine de0 (uY 1 ?_)
 refine gz1 ?_;exact ⟨((⟨x,y18,y21,y23,y39,y26.tdiv (zfU y26 100),(100:Int).tdiv (zfU y26 100)⟩:RuleS),a2+6),⟨⟨hb1,hb2⟩,uD⟩,trivial,uK,uP⟩;refine gz1 ?_;exact ⟨((⟨x,y18,y21,y23,0,y26.tdiv (zfU y26 100),(100:Int).tdiv (zfU y26 100)⟩:RuleS),a2+5),⟨⟨hb1,hb2⟩,uD⟩,trivial,uK,uP⟩
 intro q4 hq4
 obtain ⟨x5,a5⟩:=q4;obtain ⟨hx5,ha5⟩:=hq4;dsimp only at hx5 ha5;refine zf (zcN 6 (i:=2) rfl rfl) ?_;refine gz3 ?_;refine dq (za (hs:=[_]) zqV zgC rfl rfl (by decide) (by decide) rfl) ?_;refine de rfl (zP (i:=1) zqV zgC rfl rfl rfl rfl rfl (by simp [zas,zb,zap,zaM]) uSo fun v44=> ?_)
 refine gz8 ?_;exact ⟨k+1,⟨v44,out++[x5],a5⟩,⟨by omega,hq.add (x:=x5) hx5 uO⟩,uD,⟨rfl,rfl,trivial⟩,uK,uP⟩;have hnk:ru5.length<=k:=by omega
 obtain rfl:k=ru5.length:=by omega
 refine gz2 ?_;refine zJ ?_;refine gz7 ?_;exact zaa (zaC 2 (i:=1) rfl rfl) rfl ⟨out,a2,rfl,⟨by omega,g2⟩,by omega,rfl⟩
theorem zhJ [Tracks] {b:Nat} {l:List Int} {a:Nat} (ha:a<=600000):Con prog 72 [pAt b] [St b l a] (fun x M'=> ∃k a',x=zgP k/\GoodSlos k/\a'<=a+40/\M'=[St b l a']):=by
 refine uOb func72 ntmps72 ?_;refine gz5 ?_;refine de rfl (uCx 0 zn3 rfl rfl (znX uS) ?_)
 rintro _ _ ⟨u6,k6,a6,rfl,hk6,hn6,ha6,rfl⟩;refine gz2 ?_;have hl6:=hk6.len;have hg6:=hk6.all;refine zf (zbx (M':=[.arr u6 2 (k6.map zbs),St b l a6]) rfl) ?_;refine zf (Ghost.perm (List.Perm.swap _ _ _)) ?_;refine uVj [4,1,7,31] (fun (q:List SlotS×Nat)=>[]) (fun (q:List SlotS×Nat)=>[St b l q.2,.arr u6 2 (q.1.map zbs)]) (fun (q:List SlotS×Nat)=>GoodSlos q.1/\q.2<=a6+5) ?_ ?_
 ·skip
  refine gz2 ?_;refine de rfl (uCx 0 zdl rfl rfl (zy uS uS) ?_)
  rintro _ _ ⟨y8,rfl,rfl⟩;refine gz1 ?_;refine uCo (fun h1=> ?_) fun h2=> ?_
  ·refine zcJ (i:=1) rfl (fun h0 he=> ?_) (fun ob off cap hv hcap=> ?_)
   ·exfalso;have:=congrArg List.length he;simp at this;subst this;simp at hn6
   subst hv;refine gz4 ?_;refine de rfl (za2 (i:=1) (es:=k6) zf3 rfl rfl ?_)
   refine de rfl (uCx 0 zg3 rfl rfl (zU uS uS) ?_)
   rintro _ _ ⟨y13,rfl,hy13,rfl⟩;refine dq (zt (j:=y13) zf3 ze3 rfl rfl rfl uSo) ?_;refine gz2 ?_;obtain ⟨x,hx⟩: ∃x,k6[y13]? =some x:=⟨_,Aa uO⟩
   have hgx:=hg6 x (Ab hx);dsimp only [zjm] at hgx;refine zaX (fun M=> ∃i:Nat,M[i]? =some (.arr (.slice (some ⟨ob,off,none⟩) (k6.map zbs).length cap) 2 (k6.map zbs))) [6,12] mixed ?_;refine gz6 ?_;refine uM 6 rfl ⟨1,rfl⟩ (fun M hM=>by obtain ⟨i,hi⟩:=hM;exact zak (i:=i) (j:=y13) 0 ty9 rfl uO hi hx rfl rfl ⟨rfl,rfl⟩) ?_;refine uB 7 rfl (za (hs:=[_,_,_]) zj ty9 rfl rfl (by decide) (by decide) rfl) ?_;refine uA 9 ?_;refine gz2 ?_;refine uM 12 rfl ⟨1,rfl⟩ (fun M hM=>by obtain ⟨i,hi⟩:=hM;exact zak (i:=i) (j:=y13) 1 zj rfl uO hi hx rfl rfl ⟨rfl,rfl⟩) ?_;refine uA 14 ?_;refine uB 15 rfl (za (hs:=[_,_,_]) zj ty9 rfl rfl (by decide) (by decide) rfl) ?_;refine uF 8 ?_;refine zm rfl (uCx 0 zby rfl rfl (zh (L:=[_,_,_]) uS uS uS) ?_)
   rintro _ _ ⟨y23,rfl,hy23,rfl⟩;refine ⟨uE,?_⟩
   refine uF 13 ?_;refine zm rfl (uCa zmz rfl (zar uO) fun v28=> ?_)
   refine ⟨uE,?_⟩
   refine uF 16 ?_;refine zm rfl (uCx 1 zby rfl rfl (zh (L:=[_,_,_]) uS uS uS) ?_)
   rintro _ _ ⟨y31,rfl,hy31,rfl⟩;refine ⟨uE,?_⟩
   refine uB 17 rfl (za (hs:=[_]) zj ty9 rfl rfl (by decide) (by decide) rfl) ?_;refine uF 18 ?_;refine zm rfl (zjl (N:=[St b l (a6+1+1+1+1),.arr (.slice (some ⟨ob,off,none⟩) (k6.map zbs).length cap) 2 (k6.map zbs)]) (sz:=1) (es:=(x.Positions++[y31]).map .str) 1 (zP (i:=1) zj ty9 rfl rfl rfl rfl rfl (by simp [zas,zb]) uSo fun v=>⟨v,rfl,by simp,rfl⟩) ?_)
   refine ⟨fun _=> .inl ⟨1,rfl⟩,?_⟩
   refine gz2 ?_;refine uF 21 ?_;refine zI (zO (i:=1) (j:=y13) (f:=0) (y:=zbs x) (y':=zbs ⟨y23,x.Positions⟩) ty9 rfl uO rfl rfl (zaY hx) rfl rfl (by simp [zb]) rfl ?_)
   refine ⟨uE,?_⟩
   refine gz2 ?_;refine uF 24 ?_;refine zI (zO (i:=1) (j:=y13) (f:=1) (y:=zbs ⟨y23,x.Positions⟩) (y':=zbs ⟨y23,x.Positions++[y31]⟩) zj rfl uO rfl rfl (zay (zaY hx)) rfl rfl (by simp [zb]) rfl ?_)
   refine ⟨uE,?_⟩
   refine gz1 ?_;exact ⟨(k6.set y13 ⟨y23,x.Positions++[y31]⟩,a6+4),⟨⟨by simp;omega,zd0 (P:=zlO) hk6.up.all (by dsimp only [zlO];simp;omega)⟩,uD⟩,trivial,uK,uP⟩
  ·refine gz1 ?_;exact ⟨(k6,a6+1),⟨hk6.up,uD⟩,trivial,uK,uP⟩
 ·intro q hq3
  obtain ⟨k1,a4⟩:=q;obtain ⟨q1,q3⟩:=hq3;dsimp only at q1 q3;refine gz3 ?_;refine de rfl (uCx 0 zdl rfl rfl (zy uS uS) ?_)
  rintro _ _ ⟨y39,rfl,rfl⟩;refine gz1 ?_;refine uCo (fun h3=> ?_) fun h4=> ?_
  ·refine gz4 ?_;exact ⟨_,_,(zbx (M':=[St b l (a4+1),.arr u6 2 (k1.map zbs)]) rfl).trans ((Ghost.perm (List.Perm.swap _ _ _)).trans Ghost.drop),_,.slice 2 [],rfl,zZ 2,[],a4+1,rfl,⟨by simp,by simp⟩,by omega,rfl⟩
  ·refine gz7 ?_;exact zaa (zaC 2 (i:=1) rfl rfl) rfl ⟨k1,a4+1,rfl,q1,by omega,rfl⟩
theorem zaq [Tracks] {b:Nat} {l:List Int} {a:Nat} (ha:a<=600000):Con prog 66 [pAt b] [St b l a] (fun x M'=> ∃k a',x=eIs k/\k.length<=6/\a'<=a+20/\M'=[St b l a']):=by
 refine uOb func66 ntmps66 ?_;refine gz6 ?_;refine zf (zM 1) ?_;refine gz3 ?_;refine de rfl (uCx 1 zve rfl rfl (zej (n:=5) uO uO uO) ?_)
 rintro _ _ ⟨L7,a7,rfl,hL7,ha7,rfl⟩;refine gz1 ?_;refine de rfl (uCx 0 ca5 rfl rfl (zz uS uS uS uS) ?_)
 rintro _ _ ⟨y9,rfl,hy9,rfl⟩;refine dq (zaI (es:=L7) (f:=HVal.int .i64) (h:=y9.toNat) zV ty3 rfl rfl ⟨_,_,rfl,by omega⟩ uO (by have:=hL7.1;omega)) ?_;refine dq (zax (f:=HVal.int .i64) (l:=L7.take y9.toNat) zV rfl) ?_;refine gz2 ?_;obtain ⟨hLn,hLb⟩:=hL7;have hlen:(L7.take y9.toNat).length=y9.toNat:=by simp;omega
 refine gz1 ?_;refine uV2 [3,1,5,1,12,10] (fun (k:Nat) (q:GL Int)=>[(12,.int .i64 k),(3,.raw q.u)]) (fun (k:Nat) (q:GL Int)=>[St b l (a7+1),.arr q.u 1 (q.out.map (.int .i64))]) (fun (k:Nat) (q:GL Int)=>k<=(L7.take y9.toNat).length/\(q.out.length<=k)) (fun (k:Nat) (q:GL Int)=>(L7.take y9.toNat).length-k) (0) (⟨.slice none 0 0,[],a⟩) ?_ ?_ ?_ ?_;exact ⟨Ad _,by simp⟩;exact ⟨rfl,rfl,trivial⟩;exact uP
 intro k q hinv
 obtain ⟨hk,hq⟩:=hinv;obtain ⟨u,out,a2⟩:=q;dsimp only at hq;refine gz4 ?_;refine uCo (fun h1=> ?_) fun h2=> ?_
 obtain ⟨y,hy⟩: ∃y,(L7.take y9.toNat)[k]? =some y:=⟨_,Aa (by simpa using h1)⟩
 have hdy:=zg hy;refine gz5 ?_;refine dq (zC (f:=HVal.int .i64) (l:=L7.take y9.toNat) (j:=k) (a:=y) zV ty3 rfl rfl rfl hy) ?_;refine gz6 ?_;refine dq (zbb rfl rfl (by have:=hLb y (AR (Ab hy));omega) (by have:=hLb y (AR (Ab hy));omega)) ?_;refine dq (za (hs:=[_]) zV ty3 rfl rfl (by decide) (by decide) rfl) ?_;refine de rfl (zP (i:=1) zV ty3 rfl rfl rfl rfl rfl (by simp [zas,zb,zap,zaM]) uSo fun v20=> ?_)
 refine gz8 ?_;exact ⟨k+1,⟨v20,out++[y+1],a⟩,⟨by omega,by simp;omega⟩,uD,⟨rfl,rfl,trivial⟩,uK,uP⟩;have hnk:(L7.take y9.toNat).length<=k:=by simpa using h2
 obtain rfl:k=(L7.take y9.toNat).length:=by omega
 refine gz2 ?_;refine zJ ?_;refine gz5 ?_;refine de rfl (uCx 0 zdl rfl rfl (zy uS uS) ?_)
 rintro _ _ ⟨y23,rfl,rfl⟩;refine gz1 ?_;refine uCo (fun h3=> ?_) fun h4=> ?_
 refine gz3 ?_;refine de rfl (uCx 0 zmC rfl rfl (zgc uS uS uS uS) ?_)
 rintro _ _ ⟨y26,rfl,hy26,rfl⟩;refine dq (za (hs:=[_]) zV ty3 rfl rfl (by decide) (by decide) rfl) ?_;refine de rfl (zP (i:=1) zV ty3 rfl rfl rfl rfl rfl (by simp [zas,zb,zap,zaM]) uSo fun v28=> ?_)
 refine gz8 ?_;exact zaa (zaC 2 (i:=1) rfl rfl) rfl ⟨out++[y26],_,by simp,by simp;omega,by omega,rfl⟩;refine gz7 ?_;exact zaa (zaC 2 (i:=1) rfl rfl) rfl ⟨out,_,rfl,by omega,by omega,rfl⟩
end
section
open Go.Proofs.Tryz
open Go.HL
theorem zla [Tracks] {l:List GameS} (hb: ∀x∈l,GamB x) (hl:l.length<=1000000) {v:Value}:
 Con prog 70 [.raw v,.fn (.func 71) [] []] [.arr v 8 (l.map zaG)] fun x M'=> ∃l':List GameS,x= .tup []/\l'.Perm l/\l'.Pairwise (fun a b=> ¬zeI b a<0)/\M'=[.arr v 8 (l'.map zaG)]:=by
 have h:=zoB (e:=fun x:{m:GameS//GamB m}=>zaG x.1) ztZ (Tryz.isAgg147) (Tryz.sizeOf147) (fun _=>rfl) (fun _=>rfl) (fun _=>rfl) (c:=fun x y=>zeI x.1 y.1) (zrR zrZ) ca71 (fun x y=> @zfu zjI x.1 y.1 x.2.week y.2.week) (l:=l.attachWith _ hb) (by simpa using hl) (v:=v);rw [zmW hb zaG] at h;refine h.mono fun x M' ⟨l',e1,hp,hw,e2⟩=>⟨l'.map Subtype.val,e1,?_,?_,?_⟩
 have h9:=hp.map Subtype.val;rw [zjO hb] at h9;exact h9;exact List.pairwise_map.2 hw;rw [e2,AX];rfl
theorem zek [Tracks] {T:List Str} {W p n:Int} (hT:T.length<=1000000) (hW:1<=W/\W<=10) (hp:0<=p/\p<=10) (hn:2<=n/\n<=10):ConP prog 140 [.int .i64 W,.int .i64 p,.vptr [.int .i64 n] 0,.vptr [eSs T] 0] (.str (onS T W p n)):=by
 obtain ⟨o1,o2,o3⟩:=zyW (W:=W) hp hn;refine uOb func140 ntmps140 ?_;refine gz7 ?_;refine uVj [7,1,9,17] (fun (i1:Int)=>[(7,.int .i64 i1)]) (fun (i1:Int)=>[]) (fun (i1:Int)=>i1=onI W p n) ?_ ?_
 skip
 refine gz4 ?_;refine uCo (fun h1=> ?_) fun h2=> ?_
 refine zkv mixed ?_;refine gz7 ?_;refine uB 7 rfl (zcL (n:=n-1) rfl rfl uO) ?_;refine gz5 ?_;refine uB 13 rfl (zcL (n:=n-1) rfl rfl uO) ?_;refine gz3 ?_;exact ⟨1+((p-1-(W-1)).tmod (n-1)+(n-1)).tmod (n-1),by rw [onI,if_pos h1],⟨rfl,trivial⟩,uK,Ac _⟩;refine gz1 ?_;exact ⟨p,by rw [onI,if_neg uO],⟨rfl,trivial⟩,uK,Ac _⟩
 intro i1 hi1
 have hi0:0<=i1:=by rw [hi1];exact o3
 refine gz7 ?_;refine uCo (fun h3=> ?_) fun h4=> ?_
 refine gz4 ?_;refine zB rfl ?_
 show HVal.str _=_
 (rw [onS,if_pos uO])
 refine gz5 ?_;refine dq (zC (f:=HVal.str) (l:=T) (j:=i1.toNat) (a:=T.getD i1.toNat []) zj ty9 rfl rfl uO (getD_some uO)) ?_;refine gz4 ?_;refine zB rfl ?_
 show HVal.str _=_
 (rw [onS,if_neg uO,<-hi1])
theorem ziS [Tracks] {T:List Str} (hT:2<=T.length/\T.length<=4):Con prog 69 [eSs T,.int .i64 3] [] (fun x M'=> ∃k,x=zjw k/\GoodGas k/\M'=[]):=by
 obtain ⟨n1,n2,n3,n4⟩:=zw7 hT;refine uOb func69 ntmps69 ?_;refine gz9 ?_;refine dq (zcL rfl rfl uO) ?_;refine dq (zau (h':= .int .i64 (nOf T)) (zbb rfl rfl uO uO) rfl) ?_;refine de rfl (zi ty3 rfl fun b5=> ?_)
 refine de0 (uY 0 ?_)
 refine gz1 ?_;refine zf (zcN 5 (i:=0) rfl rfl) ?_;refine gz7 ?_;refine zf (zM 8) ?_;refine gz5 ?_;refine uV2 [7,5,19,56] (fun (w:Nat) (q:GL GameS)=>[(8,.int .i64 ((w:Int)+1)),(7,.raw q.u)]) (fun (w:Nat) (q:GL GameS)=>[.arr q.u 8 (q.out.map zaG)]) (fun (w:Nat) (q:GL GameS)=>w<=3/\GLok GamB (2*w) 0 q) (fun (w:Nat) (q:GL GameS)=>3-w) (0) (⟨.slice none 0 0,[],0⟩) ?_ ?_ ?_ ?_;exact ⟨by omega,⟨by simp,by simp,by simp⟩⟩;exact ⟨zL uO,rfl,trivial⟩;exact Ac _
 intro w q hinv
 obtain ⟨hw,hq⟩:=hinv;obtain ⟨u,out,a2⟩:=q;obtain ⟨g1,g2,g3⟩:=id hq;dsimp only at g1 g2 g3;refine gz6 ?_;refine uCo (fun h1=> ?_) fun h2=> ?_
 refine gz6 ?_;refine dq (zau (h':= .int .i64 (mOf T)) (zfC rfl rfl uO uO uO) rfl) ?_;refine gz3 ?_;refine uU2 [7,1,9,3,26,49] (fun (j:Nat) (q2:GL GameS)=>[(26,.int .i64 (j:Int)),(7,.raw q2.u)]) (fun (j:Nat) (q2:GL GameS)=>[.arr q2.u 8 (q2.out.map zaG)]) (fun (j:Nat) (q2:GL GameS)=>(j:Int)<=mOf T/\GLok GamB (2*w+j) 0 q2) (fun (j:Nat) (q2:GL GameS)=>(mOf T).toNat-j) (0) (⟨u,out,0⟩) ?_ ?_;exact ⟨by omega,⟨uD,g2,by simp⟩⟩;rintro j q2 ⟨hj,hq2⟩;obtain ⟨u,out,a2⟩:=q2;obtain ⟨g1,g2,g3⟩:=id hq2;dsimp only at g1 g2 g3;refine gz4 ?_;refine uCo (fun h3=> ?_) fun h4=> ?_
 refine gz8 ?_;refine uDr mixed ?_;refine gz4 ?_;refine uB 4 rfl (zan zvg rfl rfl (WeakL.refl _) (zek (T:=T) (W:=((w:Int)+1)) (p:=(j:Int)) (n:=nOf T) uO uO uO uO)) ?_;refine gz3 ?_;refine uB 8 rfl (zeC (m:=nOf T) rfl rfl uO uO) ?_;refine gz1 ?_;refine uB 10 rfl (zeC (m:=nOf T-1) rfl rfl uO uO) ?_;refine uB 11 rfl (zan zvg rfl rfl (WeakL.refl _) (zek (T:=T) (W:=((w:Int)+1)) (p:=(nOf T-1-j)) (n:=nOf T) uO uO uO uO)) ?_;refine uB 12 rfl (zH (cs:=[_,_,_,_,_,_,_,_]) zbD zy1 rfl) ?_;refine uF 13 ?_;refine zm rfl (zi zbD rfl fun b10=> ?_)
 refine ⟨uE,?_⟩
 refine uF 14 ?_;refine zI (uY 0 ?_)
 refine ⟨uE,?_⟩
 refine gz3 ?_;refine dq (zcL rfl rfl uO) ?_;refine gz3 ?_;refine uVj [11,1,45,10] (fun (tn:Bool)=>[(11,.bool tn)]) (fun (tn:Bool)=>[.cells b10 (zb (zaG (⟨(w:Int)+1,onS T ((w:Int)+1) j (nOf T),onS T ((w:Int)+1) (nOf T-1-j) (nOf T),false,0,0,0,0⟩:GameS))),.arr u 8 (out.map zaG)]) (fun (tn:Bool)=>True) ?_ ?_
 skip
 refine gz4 ?_;refine uCo (fun h5=> ?_) fun h6=> ?_
 refine gz4 ?_;refine dq (zeC (m:=nOf T) rfl rfl uO uO) ?_;refine dq (zfC (n:=nOf T-1) rfl rfl uO uO uO) ?_;refine dq (zcL rfl rfl uO) ?_;refine gz1 ?_;refine dq (zuQ ty4 rfl rfl) ?_;refine gz2 ?_;exact ⟨_,trivial,⟨rfl,trivial⟩,uK,zq rfl⟩;refine gz1 ?_;exact ⟨_,trivial,⟨rfl,trivial⟩,uK,zq rfl⟩
 intro tn _
 refine uVj [55,7] (fun (g5:GameS)=>[]) (fun (g5:GameS)=>[.cells b10 (zb (zaG g5)),.arr u 8 (out.map zaG)]) (fun (g5:GameS)=>GamB g5) ?_ ?_
 skip
 refine gz3 ?_;refine uCo (fun h7=> ?_) fun h8=> ?_
 refine gz2 ?_;refine de rfl (uZ 0 ?_)
 refine gz1 ?_;refine de rfl (uZ 0 ?_)
 refine gz1 ?_;refine de0 (uY 0 ?_)
 refine gz1 ?_;refine de0 (uY 0 ?_)
 refine gz1 ?_;exact ⟨(⟨(w:Int)+1,onS T ((w:Int)+1) (nOf T-1-j) (nOf T),onS T ((w:Int)+1) j (nOf T),false,0,0,0,0⟩:GameS),zrw uO,trivial,uK,zq rfl⟩;refine gz1 ?_;exact ⟨(⟨(w:Int)+1,onS T ((w:Int)+1) j (nOf T),onS T ((w:Int)+1) (nOf T-1-j) (nOf T),false,0,0,0,0⟩:GameS),zrw uO,trivial,uK,zq rfl⟩
 intro g5 hg5
 refine gz2 ?_;refine de rfl (uZ 0 ?_)
 refine gz3 ?_;refine dgl rfl rfl (fun hc=>⟨_,OpenTo.upd (t:=66) rfl (hc) (OpenTo.refl _),zab (i:=0) ty9 rfl rfl (.inl ⟨rfl,rfl⟩) ⟨rfl,rfl⟩⟩) ?_;refine gz3 ?_;refine uCo (fun h9=> ?_) fun h10=> ?_
 refine gz2 ?_;refine de rfl (zgQ (i:=0) (h:=zaG g5) zbD rfl rfl rfl rfl rfl ?_)
 refine dq (za (hs:=[_]) zeE zbD rfl rfl (by decide) (by decide) rfl) ?_;refine de rfl (zP (i:=1) zeE zbD rfl rfl rfl rfl rfl (by simp [zas,zb,zap,zaM]) uSo fun v73=> ?_)
 refine gz4 ?_;refine zf Ghost.drop ?_;refine gz4 ?_;exact ⟨j+1,⟨v73,out++[g5],0⟩,⟨by omega,hq2.add (x:=g5) hg5 uO⟩,uD,⟨rfl,rfl,trivial⟩,uK,zq (by dsimp only;rw [AB];rfl)⟩;refine gz3 ?_;refine zf Ghost.drop ?_;refine gz4 ?_;exact ⟨j+1,⟨u,out,0⟩,⟨by omega,hq2.same uO⟩,uD,⟨rfl,rfl,trivial⟩,uK,zq rfl⟩;refine gz2 ?_;refine zJ ?_;refine gz8 ?_;exact ⟨w+1,⟨u,out,0⟩,⟨by omega,⟨uD,g2,by simp⟩⟩,uD,⟨zL uO,rfl,trivial⟩,uK,zq rfl⟩;refine gz2 ?_;refine zJ ?_;refine gz4 ?_;refine de rfl (uCx 0 ca70 rfl rfl (zla (l:=out) g2 uO) ?_)
 rintro _ _ ⟨Z,rfl,hz1,hz2,rfl⟩;have hzl:=hz1.length_eq;refine gz6 ?_;exact zaa (zaC 4 (i:=0) rfl rfl) rfl ⟨Z,rfl,⟨by omega,fun x hx=>g2 x (hz1.mem_iff.1 hx)⟩,rfl⟩
end
section
open Go.Proofs.Tryz
open Go.HL
theorem zjU [Tracks] {a b:Str}:ConP prog 191 [.str a,.str b] (.int .i64 (zS a b)):=by
 refine uOb func191 ntmps191 ?_;refine gz5 ?_;refine dq (uCl zpE rfl zda) ?_;refine gz4 ?_;refine dq (uCl zpE rfl zda) ?_;refine gz6 ?_;refine zcG rfl ?_;refine gz6 ?_;refine zcG rfl ?_;refine gz8 ?_;refine uCo (fun h1=> ?_) fun h2=> ?_
 refine gz4 ?_;refine uRp ?_;rw [zfA]
 (rw [if_pos (by assumption)])
 refine gz8 ?_;refine uCo (fun h3=> ?_) fun h4=> ?_
 refine gz4 ?_;refine uRp ?_;rw [zfA]
 (rw [if_neg uSa,if_neg uSa])
 refine gz6 ?_;refine uRp ?_;rw [zfA]
 (rw [if_neg uSa];simp_all)
theorem zfJ [Tracks] {l m:List Str} (hl:l.length<=1000000) (hm:m.length<=1000000):ConP prog 132 [eSs l,eSs m] (.int .i64 (zfl l m)):=by
 refine uOb func132 ntmps132 ?_;refine zat ?_;refine uT1 [4,5,11,20] (fun k=>[(11,.int .i64 k)]) (fun k=>[]) (fun k=>k<=l.length/\(k<=m.length/\zfl l m=zfl (l.drop k) (m.drop k))) (fun k=>l.length-k) (0) ?_ ?_;exact ⟨Ad _,Ad _,rfl⟩;rintro k ⟨hk,⟨hkm,hg⟩⟩;refine gz4 ?_;refine uCo (fun h1=> ?_) fun h2=> ?_
 obtain ⟨x,hx⟩: ∃x,l[k]? =some x:=⟨_,Aa h1⟩
 have hdx:=zg hx;rw [hdx] at hg;refine zun ?_;refine uCo (fun h3=> ?_) fun h4=> ?_
 refine gz4 ?_;refine uRp ?_
 (rw [hg,zud (.inr (Bj uO)) (by simp)])
 refine gz5 ?_;refine dq (zC (j:=k) (a:=m.getD k []) zj ty9 rfl rfl rfl (getD_some uO)) ?_;refine gz6 ?_;refine dq (uCl zyi rfl zjU) ?_;refine gz6 ?_;refine uCo (fun h5=> ?_) fun h6=> ?_
 refine gz5 ?_;refine uRp ?_
 (rw [hg,zj7 (m:=m) (k:=k) h4,zs6 (by rw [Af];exact h5)])
 refine gz7 ?_;refine ⟨k+1,?_,?_,⟨rfl,trivial⟩,uK,Ac _⟩
 refine ⟨by omega,by omega,?_⟩
 rw [hg,zj7 (m:=m) (k:=k) h4];exact zs5 (by rw [Af];exact h6)
 dsimp only;omega
 have hnk:l.length<=k:=by omega
 obtain rfl:k=l.length:=by omega
 rw [zD (Ae _)] at hg;refine gz2 ?_;refine zn ?_;refine zat ?_;refine uCo (fun h7=> ?_) fun h8=> ?_
 refine gz4 ?_;refine uRp ?_
 (rw [hg,zqf,if_pos uO])
 refine gz6 ?_;refine uRp ?_
 (rw [hg,zqf,if_neg uO])
theorem zjS [Tracks] {l:List FixS} {v:Value} {fid:FuncId} {caps:List HVal} {p:FixS->FixS->Bool} (hca:Callable prog fid) (hp: ∀x y,ConP prog fid ([zaL x,zaL y]++caps) (.bool (p x y))) (hl:l.length<=1000000):Con prog 133 [.raw v,.fn (.func fid) [] caps] [.arr v 4 (l.map zaL)] (fun x M'=> ∃(u:Value) (D:List FixS),x= .raw u/\(D.length<=l.length/\∀x∈D,x∈l)/\M'=[.arr u 4 (D.map zaL)]):=by
 refine uOb func133 ntmps133 ?_;refine gz6 ?_;refine de rfl (za2 (i:=0) zb3 rfl rfl ?_)
 refine gz2 ?_;refine uCo (fun h1=> ?_) fun h2=> ?_
 refine gz5 ?_;exact zW rfl ⟨_,l,rfl,⟨Ae _,fun _ q=>q⟩,rfl⟩;refine gz3 ?_;refine zcJ (i:=0) rfl (fun h0 he=> ?_) (fun b off cap hv hcap=> ?_)
 exfalso;have:=congrArg List.length he;simp at this;subst this;simp at h2
 rw [Ah] at hv hcap;subst hv;refine gz4 ?_;refine uT1 [4,4,12,53] (fun k=>[(5,.int .i64 (k:Int))]) (fun k=>[.arr (.slice (some ⟨b,off,none⟩) l.length cap) 4 (l.map zaL)]) (fun k=>1<=k/\k<=l.length) (fun k=>l.length-k) (1) ?_ ?_;exact ⟨by omega,by omega⟩;rintro k ⟨hk1,hk⟩;refine gz4 ?_;refine de rfl (za2 (i:=0) zb3 rfl rfl ?_)
 refine gz2 ?_;refine uCo (fun h3=> ?_) fun h4=> ?_
 obtain ⟨x,hx⟩: ∃x,l[k]? =some x:=⟨_,Aa uO⟩
 obtain ⟨y,hy⟩: ∃y,l[k-1]? =some y:=⟨_,Aa uO⟩
 refine gz4 ?_;refine zbw (fun M=>M=[.arr (.slice (some ⟨b,off,none⟩) l.length cap) 4 (l.map zaL)]) [4,9] mixed ?_;refine gz3 ?_;refine uB 3 rfl (zt (j:=k) zb3 zaw rfl rfl rfl uO) ?_;refine uM 4 rfl rfl (uW (zR (i:=0) (j:=k) zaw rfl uO rfl hx rfl rfl rfl ⟨rfl,rfl⟩)) ?_;refine gz3 ?_;refine uB 8 rfl (zt (j:=k-1) zb3 zaw rfl rfl uO uO) ?_;refine uM 9 rfl rfl (uW (zR (i:=0) (j:=k-1) zaw rfl uO rfl hy rfl rfl rfl ⟨rfl,rfl⟩)) ?_;refine uB 10 rfl (zan hca rfl rfl (WeakL.refl _) (hp x y)) ?_;refine gz1 ?_;refine uCo (fun h5=> ?_) fun h6=> ?_
 refine gz3 ?_;refine dq (zeB (l:=k) (h:=l.length) zb3 zaw rfl ⟨_,_,rfl,rfl⟩ rfl uO uO hcap) ?_;refine gz2 ?_;rw [zo8 uO];refine gz5 ?_;refine uU3 [5,1,7,1,32,27] (fun (k2:Nat) (kk:Nat) (D:List FixS)=>[(7,.int .i64 (k2:Int)),(5,.int .i64 (kk:Int))]) (fun (k2:Nat) (kk:Nat) (D:List FixS)=>[.arr (.slice (some ⟨b,off,none⟩) l.length cap) 4 (D.map zaL)]) (fun (k2:Nat) (kk:Nat) (D:List FixS)=>(1<=k2/\k+k2<=l.length)/\(k<=kk/\kk+1<=k+k2)/\D.length=l.length/\∀x∈D,x∈l) (fun (k2:Nat) (kk:Nat) (D:List FixS)=>l.length-k2) (1) (k) (l) ?_ ?_;exact ⟨⟨by omega,by have:=zl hx;omega⟩,⟨by omega,by omega⟩,rfl,fun _ q=>q⟩;rintro k2 kk D ⟨⟨hk2,hkk⟩,⟨hc1,hc2⟩,hDl,hDm⟩;refine gz4 ?_;refine dq (zd4 zb3 rfl) ?_;refine gz2 ?_;refine uCo (fun h7=> ?_) fun h8=> ?_
 obtain ⟨x2,hDx⟩: ∃x,D[k+k2]? =some x:=⟨_,Aa uO⟩
 obtain ⟨y2,hDy⟩: ∃y,D[k+k2-1]? =some y:=⟨_,Aa uO⟩
 refine gz4 ?_;refine zbw (fun M=>M=[.arr (.slice (some ⟨b,off,none⟩) l.length cap) 4 (D.map zaL)]) [4,9] mixed ?_;refine gz3 ?_;refine uB 3 rfl (zt (j:=k2) zb3 zaw rfl rfl rfl uO) ?_;refine uM 4 rfl rfl (uW (zR (i:=0) (j:=(k+k2)) zaw rfl uO rfl hDx rfl rfl rfl ⟨rfl,rfl⟩)) ?_;refine gz3 ?_;refine uB 8 rfl (zt (j:=k2-1) zb3 zaw rfl rfl uO uO) ?_;refine uM 9 rfl rfl (uW (zR (i:=0) (j:=(k+k2-1)) zaw rfl uO rfl hDy rfl rfl rfl ⟨rfl,rfl⟩)) ?_;refine uB 10 rfl (zan hca rfl rfl (WeakL.refl _) (hp x2 y2)) ?_;refine gz2 ?_;refine uCo (fun h9=> ?_) fun h10=> ?_
 refine gz5 ?_;refine dq (zt (j:=k2) zb3 zaw rfl rfl rfl uO) ?_;refine de rfl (zR (i:=0) (j:=(k+k2)) zaw rfl uO rfl hDx rfl rfl rfl ?_)
 refine dq (zt (j:=kk) zb3 zaw rfl rfl rfl uO) ?_;refine de0 (zaP (i:=0) (j:=kk) (y:=D[kk]'uO) (y':=x2) zaw rfl rfl rfl rfl (Aa _) rfl rfl rfl ?_)
 refine zeZ ?_;exact ⟨k2+1,kk+1,D.set kk x2,⟨⟨by omega,by omega⟩,⟨by omega,by omega⟩,by simp;omega,fun z hz=>(BS hz).elim (hDm z) (fun q=>by rw [q];exact hDm x2 (Ab hDx))⟩,uD,⟨rfl,zL uO,trivial⟩,uK,Ac _⟩;refine gz8 ?_;exact ⟨k2+1,kk,D,⟨⟨by omega,by omega⟩,⟨by omega,by omega⟩,hDl,hDm⟩,uD,⟨rfl,rfl,trivial⟩,uK,Ac _⟩;refine gz2 ?_;refine zcn ?_;refine gz5 ?_;refine dq (zeB (l:=kk) (h:=l.length) zb3 zaw rfl ⟨_,_,rfl,rfl⟩ rfl uO uO hcap) ?_;refine de0 (zes (i:=0) (m:=kk) (kk) zb3 zaw rfl rfl rfl (zia uO hcap) rfl uO (Ae _) (by rw [Ah,hDl];omega) ?_)
 refine gz4 ?_;refine dq (zfZ (h:=kk) zb3 zaw rfl ⟨_,_,rfl,rfl⟩ uO) ?_;refine gz3 ?_;exact zW rfl ⟨_,D.take kk,rfl,⟨by simp;omega,fun z hz=>hDm z (AR hz)⟩,by rw [BO];rfl⟩;refine gz8 ?_;exact ⟨k+1,⟨by omega,by omega⟩,uD,⟨rfl,trivial⟩,uK,Ac _⟩;refine gz2 ?_;refine zn ?_;refine gz7 ?_;exact zW rfl ⟨_,l,rfl,⟨Ae _,fun _ q=>q⟩,rfl⟩
theorem zgL [Tracks] {A X C:List FixS} {ia ib:Int} {n b off cap:Nat} {fid:FuncId} {caps:List HVal} {c:FixS->FixS->Int} (hca:Callable prog fid) (hp: ∀x y,ConP prog fid ([zaL x,zaL y]++caps) (.int .i64 (c x y))) (hn:A.length+X.length+C.length=n) (hia:ia=(A.length:Int)) (hib:ib=(A.length:Int)+X.length) (hl:n<=1000000):Con prog 250 [.raw (.slice (some ⟨b,off,none⟩) n cap),.int .i64 ia,.int .i64 ib,.fn (.func fid) [] caps] [.arr (.slice (some ⟨b,off,none⟩) n cap) 4 ((A++X++C).map zaL)] (fun x M'=>x= .tup []/\M'=[.arr (.slice (some ⟨b,off,none⟩) n cap) 4 ((A++zag c X++C).map zaL)]):=by
 refine uOb func250 ntmps250 ?_;refine gz6 ?_;refine uV1 [8,2,12,41] (fun (k:Nat)=>[(8,.int .i64 ((A.length+k:Nat):Int))]) (fun (k:Nat)=>[.arr (.slice (some ⟨b,off,none⟩) n cap) 4 ((A++(zag c (X.take k)++X.drop k)++C).map zaL)]) (fun (k:Nat)=>1<=k) (fun (k:Nat)=>X.length-k) (1) ?_ ?_ ?_ ?_;exact Ae _;exact ⟨zL uO,trivial⟩;exact zq (by rw [zi8])
 intro k hk
 refine gz6 ?_;refine uCo (fun h1=> ?_) fun h2=> ?_
 obtain ⟨x,hx⟩: ∃x,X[k]? =some x:=⟨_,Aa uO⟩
 refine gz9 ?_;refine uV2 [9,1,18,35] (fun (D:List FixS) (B:List FixS)=>[(9,.int .i64 ((A.length+D.length:Nat):Int))]) (fun (D:List FixS) (B:List FixS)=>[.arr (.slice (some ⟨b,off,none⟩) n cap) 4 (((A++D)++x::(B++X.drop (k+1)++C)).map zaL)]) (fun (D:List FixS) (B:List FixS)=>D.length+B.length=k/\zcv c x (zag c (X.take k))=zcv c x D++B) (fun (D:List FixS) (B:List FixS)=>D.length) (zag c (X.take k)) ([]) ?_ ?_ ?_ ?_;exact ⟨by simp [zbi];omega,by simp⟩;exact ⟨zL (by simp [zbi];omega),trivial⟩;exact zq (by rw [zg hx];simp)
 intro D B hinv
 obtain ⟨hA,hB⟩:=hinv;have hlA:D.length<X.length:=by omega
 refine gz1 ?_;refine zbw (fun M=>M=[.arr (.slice (some ⟨b,off,none⟩) n cap) 4 (((A++D)++x::(B++X.drop (k+1)++C)).map zaL)]) [8,13] mixed ?_;refine gz7 ?_;refine ahg 7 rfl rfl (by kernel_rfl) (by kernel_rfl) rfl (fun hc=>by
  have hq:0<D.length:=by simp at hc;omega
  exact ⟨_,OpenTo.upd (t:=24) rfl (hc) (OpenTo.upd (t:=23) rfl (hc) (OpenTo.refl _)),zt (j:=(A++D).length) zb3 zaw rfl rfl (by simp) uSo⟩) ?_
 refine znS 8 rfl rfl (by kernel_rfl) (by kernel_rfl) (by simp) rfl rfl (fun hc=>⟨_,OpenTo.upd (t:=25) rfl (hc) (OpenTo.refl _),fun M hM=>by
  subst hM;exact zR (i:=0) (j:=(A++D).length) zaw rfl rfl rfl zeQ rfl rfl rfl ⟨rfl,rfl⟩
  ⟩) ?_
 refine gz2 ?_;refine ahg 11 rfl rfl (by kernel_rfl) (by kernel_rfl) rfl (fun hc=>by
  have hq:0<D.length:=by simp at hc;omega
  exact ⟨_,OpenTo.upd (t:=28) rfl (hc) (OpenTo.refl _),zeC rfl rfl uO uO⟩) ?_
 refine ahg 12 rfl rfl (by kernel_rfl) (by kernel_rfl) rfl (fun hc=>by
  have hq:0<D.length:=by simp at hc;omega
  exact ⟨_,OpenTo.upd (t:=29) rfl (hc) (OpenTo.upd (t:=27) rfl (hc) (OpenTo.refl _)),zt (j:=(A++D).length-1) zb3 zaw rfl rfl uSo uSo⟩) ?_
 refine znS 13 rfl rfl (by kernel_rfl) (by kernel_rfl) (by simp) rfl rfl (fun hc=>⟨_,OpenTo.upd (t:=30) rfl (hc) (OpenTo.refl _),fun M hM=>by
  have hq:0<D.length:=by simp at hc;omega
  subst hM;exact zR (i:=0) (j:=(A++D).length-1) zaw rfl rfl rfl (zfR uSo) rfl rfl rfl ⟨rfl,rfl⟩
  ⟩) ?_
 refine uGy 14 rfl rfl (fun hc=>zan hca rfl rfl (WeakL.refl _) (hp _ _)) ?_;refine gz3 ?_;refine uCo (fun h3=> ?_) fun h4=> ?_
 obtain ⟨hA0,hcx⟩:=h3;obtain ⟨D1,y,rfl⟩:=zlY (A:=D) uO;rw [zqt] at hcx;have hD1:(D1++[y]).length=D1.length+1:=by simp
 refine gz4 ?_;refine zaX (fun M=>M=[.arr (.slice (some ⟨b,off,none⟩) n cap) 4 (((A++(D1++[y]))++x::(B++X.drop (k+1)++C)).map zaL)]) [9,13] mixed ?_;refine gz8 ?_;refine uB 8 rfl (zt (j:=(A++(D1++[y])).length-1) zb3 zaw rfl rfl uSo uSo) ?_;refine uM 9 rfl rfl (uW (zR (i:=0) (j:=(A++(D1++[y])).length-1) zaw rfl rfl rfl (zke) rfl rfl rfl ⟨rfl,rfl⟩)) ?_;refine gz2 ?_;refine uB 12 rfl (zt (j:=(A++(D1++[y])).length) zb3 zaw rfl rfl (by simp) uSo) ?_;refine uM 13 rfl rfl (uW (zR (i:=0) (j:=(A++(D1++[y])).length) zaw rfl rfl rfl zeQ rfl rfl rfl ⟨rfl,rfl⟩)) ?_;refine uB 14 rfl (zt (j:=(A++(D1++[y])).length) zb3 zaw rfl rfl (by simp) uSo) ?_;refine uF 15 ?_;refine zI (zaP (i:=0) (j:=(A++(D1++[y])).length) (y:=x) (y':=y) zaw rfl rfl rfl rfl zeQ rfl rfl rfl ?_)
 refine ⟨uE,?_⟩
 refine uB 16 rfl (zt (j:=(A++(D1++[y])).length-1) zb3 zaw rfl rfl uSo uSo) ?_;refine uF 17 ?_;refine zI (zaP (i:=0) (j:=(A++(D1++[y])).length-1) (y:=y) (y':=x) zaw rfl rfl rfl rfl (by rw [A2 (by simp)];exact zke) rfl rfl rfl ?_)
 refine ⟨uE,?_⟩
 refine gz8 ?_;exact ⟨D1,y::B,⟨by simp at hA⊢;omega,zmI hB hcx⟩,uD,⟨zL uO,trivial⟩,uK,zq (by rw [<-AT,zmO];simp)⟩;have hins:=zmH (l:=X) (k:=k) hx hB (by intro h0;have h9:=h4 uO;rw [zlx h0] at h9;omega);refine gz2 ?_;refine zJ ?_;refine gz8 ?_;exact ⟨k+1,by omega,uD,⟨zL uO,trivial⟩,uK,zq (by rw [zrA hins])⟩;have hend:zag c (X.take k)++X.drop k=zag c X:=by rw [Bl uO,zD uO];simp
 refine gz2 ?_;refine zn ?_;refine gz1 ?_;exact zW rfl ⟨rfl,by rw [hend]⟩
theorem zj4 [Tracks] {l:List FixS} {n0:Int} {n b off cap:Nat} {fid:FuncId} {caps:List HVal} {c:FixS->FixS->Int} (hca:Callable prog fid) (hp: ∀x y,ConP prog fid ([zaL x,zaL y]++caps) (.int .i64 (c x y))) (hc:Cmp c fun _=>True) (hn:l.length=n) (hn0:n0=(n:Int)) (hl:n<=20):Con prog 190 [.raw (.slice (some ⟨b,off,none⟩) n cap),.int .i64 n0,.fn (.func fid) [] caps] [.arr (.slice (some ⟨b,off,none⟩) n cap) 4 ((l).map zaL)] (fun x M'=> ∃Z:List FixS,x= .tup []/\(Z.Perm l/\Srt c Z)/\M'=[.arr (.slice (some ⟨b,off,none⟩) n cap) 4 ((Z).map zaL)]):=by
 refine uOb func190 ntmps190 ?_;refine zat ?_;refine uV3 [7,2,11,12] (fun (a0:Nat) (k:Nat) (Z:List FixS)=>[(7,.int .i64 (a0:Int)),(8,.int .i64 ((a0+20:Nat):Int))]) (fun (a0:Nat) (k:Nat) (Z:List FixS)=>[.arr (.slice (some ⟨b,off,none⟩) n cap) 4 ((Z++l.drop a0).map zaL)]) (fun (a0:Nat) (k:Nat) (Z:List FixS)=>a0=20*k/\a0<=n/\Blk c 20 Z/\Z.length=a0/\Z.Perm (l.take a0)) (fun (a0:Nat) (k:Nat) (Z:List FixS)=>n-a0) (0) (0) ([]) ?_ ?_ ?_ ?_
 ·exact ⟨rfl,Ad _,Blk.nil,rfl,by simp⟩
 ·exact ⟨rfl,rfl,trivial⟩
 ·exact zq (by simp)
 ·intro a0 k Z hinv
  obtain ⟨ha0,ha1,hZ,hZl,hZp⟩:=hinv;refine gz6 ?_;refine uCo (fun h1=> ?_) fun h2=> ?_
  ·refine gz3 ?_;refine zf (zbx (M':=[.arr (.slice (some ⟨b,off,none⟩) n cap) 4 ((Z++(l.drop a0).take 20++l.drop (a0+20)).map zaL)]) (by rw [AT Z,<-win])) ?_;refine gz5 ?_;refine de rfl (uCx 0 zsb rfl rfl (zgL (A:=Z) (X:=((l.drop a0).take 20)) (C:=(l.drop (a0+20))) (n:=n) hca hp (by first|omega|(simp;omega)) uO (by first|omega|(simp;omega)) uO) ?_)
   rintro _ _ ⟨rfl,rfl⟩;refine zdz ?_;exact ⟨a0+20,k+1,Z++zag c ((l.drop a0).take 20),⟨by omega,by omega,hZ.add (k:=k) uO (ziy hc _) (by rw [zbi,AD];omega),by rw [AA,zbi,AD,Bb];omega,by rw [zpb];exact hZp.append (zbC c _)⟩,uD,⟨zL uO,zL uO,trivial⟩,uK,Ac _⟩
  ·refine gz2 ?_;refine zcn ?_;refine gz2 ?_;refine zf (zbx (M':=[.arr (.slice (some ⟨b,off,none⟩) n cap) 4 ((Z++l.drop a0++[]).map zaL)]) (by simp)) ?_;refine gz5 ?_;refine de rfl (uCx 0 zsb rfl rfl (zgL (A:=Z) (X:=(l.drop a0)) (C:=[]) (n:=n) hca hp (by first|omega|(simp;omega)) uO (by first|omega|(simp;omega)) uO) ?_)
   rintro _ _ ⟨rfl,rfl⟩;refine gz2 ?_;refine uV2 [6,4,28,35] (fun (bs:Nat) (D:List FixS)=>[(6,.int .i64 (bs:Int))]) (fun (bs:Nat) (D:List FixS)=>[.arr (.slice (some ⟨b,off,none⟩) n cap) 4 ((D).map zaL)]) (fun (bs:Nat) (D:List FixS)=>20<=bs/\bs<=2*n+20/\Blk c bs D/\D.Perm l) (fun (bs:Nat) (D:List FixS)=>n-bs) (20) (Z++zag c (l.drop a0)) ?_ ?_ ?_ ?_
   ·refine ⟨Ae _,by omega,hZ.add (k:=k) uO (ziy hc _) (by rw [zbi,Bb];omega),?_⟩
    have:=hZp.append (zbC c (l.drop a0))
    rwa [Bd] at this
   ·exact ⟨rfl,trivial⟩
   ·exact zq (by simp)
   ·intro bs D hinv
    obtain ⟨hb1,hb2,hD,hDp⟩:=hinv;have hDl:D.length=n:=by rw [hDp.length_eq];exact hn
    refine gz6 ?_;refine zaF rfl (fun h3=> ?_) (fun h3=> ?_)
    ·exfalso
     try simp at h3
     all_goals omega
    ·try simp at h3
     refine gz2 ?_;refine zJ ?_;refine gz1 ?_;have hDs:=hD.all uO;exact zW rfl ⟨D,rfl,⟨hDp,hDs⟩,rfl⟩
theorem zk3 [Tracks] {v:Value} {fid:FuncId} {caps:List HVal}:Con prog 250 [.raw v,.int .i64 0,.int .i64 0,.fn (.func fid) [] caps] [.arr v 4 []] (fun x M'=>x= .tup []/\M'=[.arr v 4 []]):=by
 refine uOb func250 ntmps250 ?_;refine gz6 ?_;refine uU1 [8,2,12,41] (fun (u:Unit)=>[(8,.int .i64 1)]) (fun (u:Unit)=>[.arr v 4 []]) (fun (u:Unit)=>True) (fun (u:Unit)=>0) (()) ?_ ?_
 ·trivial
 ·intro u hu
  refine gz6 ?_;refine zaF rfl (fun h1=> ?_) (fun h1=> ?_)
  ·exfalso
   try simp at h1
   all_goals omega
  ·try simp at h1
   refine gz2 ?_;refine zn ?_;refine gz1 ?_;exact zW rfl ⟨rfl,rfl⟩
theorem zju [Tracks] {v:Value} {fid:FuncId} {caps:List HVal}:Con prog 190 [.raw v,.int .i64 0,.fn (.func fid) [] caps] [.arr v 4 []] (fun x M'=>x= .tup []/\M'=[.arr v 4 []]):=by
 refine uOb func190 ntmps190 ?_;refine zat ?_;refine uU1 [7,2,11,12] (fun (u:Unit)=>[(7,.int .i64 0),(8,.int .i64 20)]) (fun (u:Unit)=>[.arr v 4 []]) (fun (u:Unit)=>True) (fun (u:Unit)=>0) (()) ?_ ?_
 ·trivial
 ·intro u hu
  refine gz6 ?_;refine zaF rfl (fun h1=> ?_) (fun h1=> ?_)
  ·exfalso
   try simp at h1
   all_goals omega
  ·try simp at h1
   refine gz2 ?_;refine zn ?_;refine gz7 ?_;refine de rfl (uCx 0 zsb rfl rfl zk3 ?_)
   rintro _ _ ⟨rfl,rfl⟩;refine gz2 ?_;refine uU1 [6,4,28,35] (fun (u:Unit)=>[(6,.int .i64 20)]) (fun (u:Unit)=>[.arr v 4 []]) (fun (u:Unit)=>True) (fun (u:Unit)=>0) (()) ?_ ?_
   ·trivial
   ·intro u hu
    refine gz6 ?_;refine zaF rfl (fun h2=> ?_) (fun h2=> ?_)
    ·exfalso
     try simp at h2
     all_goals omega
    ·try simp at h2
     refine gz2 ?_;refine zn ?_;refine gz1 ?_;exact zW rfl ⟨rfl,rfl⟩
theorem ziX [Tracks] {fid:FuncId} {caps:List HVal}:Con prog 129 [.raw (.slice none 0 0),.fn (.func fid) [] caps] [.arr (.slice none 0 0) 4 []] (fun x M'=>x= .tup []/\M'=[.arr (.slice none 0 0) 4 []]):=by
 refine uOb func129 ntmps129 ?_;refine gz3 ?_;refine dq (zd4 zb3 rfl) ?_;refine gz1 ?_;refine de rfl (uCx 0 zvu rfl rfl zju ?_)
 rintro _ _ ⟨rfl,rfl⟩;refine gz1 ?_;exact zW rfl ⟨rfl,rfl⟩
theorem ziY [Tracks] {l:List FixS} {n b off cap:Nat} {fid:FuncId} {caps:List HVal} {c:FixS->FixS->Int} (hca:Callable prog fid) (hp: ∀x y,ConP prog fid ([zaL x,zaL y]++caps) (.int .i64 (c x y))) (hc:Cmp c fun _=>True) (hn:l.length=n) (hl:n<=20):Con prog 129 [.raw (.slice (some ⟨b,off,none⟩) n cap),.fn (.func fid) [] caps] [.arr (.slice (some ⟨b,off,none⟩) n cap) 4 ((l).map zaL)] (fun x M'=> ∃Z:List FixS,x= .tup []/\(Z.Perm l/\Srt c Z)/\M'=[.arr (.slice (some ⟨b,off,none⟩) n cap) 4 ((Z).map zaL)]):=by
 refine uOb func129 ntmps129 ?_;refine gz3 ?_;refine dq (zd4 zb3 rfl) ?_;refine gz1 ?_;refine de rfl (uCx 0 zvu rfl rfl (zj4 hca hp hc hn rfl hl) ?_)
 rintro _ _ ⟨Z,rfl,hz,rfl⟩;refine gz1 ?_;exact zW rfl ⟨Z,rfl,hz,rfl⟩
theorem zjt [Tracks] {l:List FixS} {v:Value} {fid:FuncId} {caps:List HVal} {c:FixS->FixS->Int} (hca:Callable prog fid) (hp: ∀x y,ConP prog fid ([zaL x,zaL y]++caps) (.int .i64 (c x y))) (hc:Cmp c fun _=>True) (hl:l.length<=20):Con prog 129 [.raw v,.fn (.func fid) [] caps] [.arr v 4 (l.map zaL)] fun x M'=> ∃Z:List FixS,x= .tup []/\(Z.Perm l/\Srt c Z)/\M'=[.arr v 4 (Z.map zaL)]:=
 zqg (fun h1 h2=>by
  have h3:l=[]:=by first|exact List.map_eq_nil_iff.1 h2|simpa using h2
  subst h1 h3;exact ziX.mono fun x M' ⟨e1,e2⟩=>⟨[],e1,⟨Ac _,Srt.nil⟩,e2⟩)
  fun b off cap h1=>by
   rw [Ah] at h1;subst h1;exact ziY hca hp hc rfl hl
theorem zf4 [Tracks] {x y:FixS}:ConP prog 130 [zaL x,zaL y] (.int .i64 (zms x y)):=by
 refine uOb func130 ntmps130 ?_;refine zct ?_;refine dq (za (hs:=[_,_]) zV ty3 rfl rfl (by decide) (by decide) rfl) ?_;refine gz4 ?_;refine dq (za (hs:=[_,_]) zV ty3 rfl rfl (by decide) (by decide) rfl) ?_;refine dq (uCl zvd rfl (zem (a:=[x.Week,x.At]) (b:=[y.Week,y.At]) (by simp) (by simp))) ?_;refine gz6 ?_;refine uCo (fun h1=> ?_) fun h2=> ?_
 refine gz5 ?_;refine uRp ?_
 (rw [zms,if_pos (by assumption)])
 refine gz5 ?_;refine dq (za (hs:=[_]) zj ty9 rfl rfl (by decide) (by decide) rfl) ?_;refine gz2 ?_;refine dq (za (hs:=[_]) zj ty9 rfl rfl (by decide) (by decide) rfl) ?_;refine dq (uCl zxJ rfl (zfJ (l:=[x.Home]) (m:=[y.Home]) (by simp) (by simp))) ?_;refine gz3 ?_;refine uRp ?_
 (rw [zms,if_neg uO])
theorem zf5 [Tracks] {x y:FixS}:ConP prog 134 [zaL x,zaL y] (.bool (bif (bif x.Week==y.Week then x.At==y.At else false) then x.Home==y.Home else false)):=by
 refine uOb func134 ntmps134 ?_;refine gz28 ?_;refine zB rfl ?_
 rfl
theorem zb9 [Tracks] {b:Nat} {l:List Int} {a:Nat} (ha:a<=700000):Con prog 62 [pAt b] [St b l a] (fun x M'=> ∃k a',x=zj8 k/\k.length<=12/\a'<=a+150/\M'=[St b l a']):=by
 refine uOb func62 ntmps62 ?_;refine gz6 ?_;refine zf (zM 4) ?_;refine gz5 ?_;refine uV2 [3,58] (fun (w:Nat) (q:GL FixS)=>[(4,.int .i64 ((w:Int)+1)),(3,.raw q.u)]) (fun (w:Nat) (q:GL FixS)=>[St b l q.a,.arr q.u 4 (q.out.map zaL)]) (fun (w:Nat) (q:GL FixS)=>w<=4/\GLok (fun _=>True) (3*w) (a+32*w) q) (fun (w:Nat) (q:GL FixS)=>4-w) (0) (⟨.slice none 0 0,[],a⟩) ?_ ?_ ?_ ?_;exact ⟨by omega,⟨by simp,by simp,uD⟩⟩;exact ⟨zL uO,rfl,trivial⟩;exact uP
 intro w q hinv
 obtain ⟨hw,hq⟩:=hinv;obtain ⟨u,out,a2⟩:=q;obtain ⟨g1,g2,g3⟩:=id hq;dsimp only at g1 g2 g3;refine gz5 ?_;refine uCo (fun h1=> ?_) fun h2=> ?_
 refine gz6 ?_;refine dq (zfB rfl rfl uO uO) ?_;refine gz4 ?_;refine de rfl (uCx 0 ca5 rfl rfl (zz uS uS uS uS) ?_)
 rintro _ _ ⟨y14,rfl,hy14,rfl⟩;refine gz3 ?_;refine uV3 [3,1,5,2,15,46] (fun (n:Nat) (at1:Int) (q2:GL FixS)=>[(15,.int .i64 (n:Int)),(5,.int .i64 at1),(3,.raw q2.u)]) (fun (n:Nat) (at1:Int) (q2:GL FixS)=>[St b l q2.a,.arr q2.u 4 (q2.out.map zaL)]) (fun (n:Nat) (at1:Int) (q2:GL FixS)=>(n:Int)<=y14/\(0<=at1/\at1<=1000+20*n)/\GLok (fun _=>True) (3*w+n) (a+32*w+1+10*n) q2) (fun (n:Nat) (at1:Int) (q2:GL FixS)=>y14.toNat-n) (0) (100*((w:Int)+1)) (⟨u,out,a2+1⟩) ?_ ?_ ?_ ?_;exact ⟨by omega,by omega,⟨uD,g2,uD⟩⟩;exact ⟨rfl,rfl,rfl,trivial⟩;exact uP
 intro n at1 q2 hinv
 obtain ⟨hn,hat,hq2⟩:=hinv;obtain ⟨u,out,a2⟩:=q2;obtain ⟨g1,g2,g3⟩:=id hq2;dsimp only at g1 g2 g3;refine gz4 ?_;refine uCo (fun h3=> ?_) fun h4=> ?_
 refine gz7 ?_;refine dq (za (hs:=[_,_,_]) zV ty3 rfl rfl (by decide) (by decide) rfl) ?_;refine de rfl (uCx 0 zaE rfl rfl (zd (L:=[_,_,_]) uS uS uS) ?_)
 rintro _ _ ⟨y20,rfl,hy20,rfl⟩;refine dq (zbb rfl rfl (by simp at hy20;omega) (by simp at hy20;omega)) ?_;refine gz6 ?_;refine dq (za (hs:=[_,_,_]) zj ty9 rfl rfl (by decide) (by decide) rfl) ?_;refine de rfl (uCx 0 zby rfl rfl (zh (L:=[_,_,_]) uS uS uS) ?_)
 rintro _ _ ⟨y26,rfl,hy26,rfl⟩;refine gz1 ?_;refine dq (za (hs:=[_,_,_]) zj ty9 rfl rfl (by decide) (by decide) rfl) ?_;refine de rfl (uCx 0 zby rfl rfl (zh (L:=[_,_,_]) uS uS uS) ?_)
 rintro _ _ ⟨y29,rfl,hy29,rfl⟩;refine dq (zH (cs:=[_,_,_,_]) zaw zy5 rfl) ?_;refine de rfl (zi zaw rfl fun b6=> ?_)
 refine de0 (uY 0 ?_)
 refine gz1 ?_;refine uVj [31,11] (fun (q3:FixS×Nat)=>[]) (fun (q3:FixS×Nat)=>[St b l q3.2,.arr u 4 (out.map zaL),.cells b6 (zb (zaL q3.1))]) (fun (q3:FixS×Nat)=>q3.2<=a2+4) ?_ ?_
 skip
 refine zf (Ghost.perm (M':=[St b l (a2+3),.cells b6 (zb (zaL (⟨(w:Int)+1,at1+y20,y26,y29⟩:FixS))),.arr u 4 (out.map zaL)]) uP) ?_;refine gz2 ?_;refine de rfl (uZ 1 ?_)
 refine gz1 ?_;refine de rfl (uZ 1 ?_)
 refine gz3 ?_;refine dgx (fun xq M'=> ∃(y:Bool) (a4:Nat),xq= .bool y/\a4<=a2+4/\M'=[St b l a4,.cells b6 (zb (zaL (⟨(w:Int)+1,at1+y20,y26,y29⟩:FixS))),.arr u 4 (out.map zaL)]) rfl rfl (fun hc=>⟨_,false,a2+3,rfl,by omega,rfl⟩) (fun hc=>⟨_,OpenTo.upd (t:=37) rfl (hc) (OpenTo.refl _),uCx 0 zdl rfl rfl (zy (a:=a2+3) uO uO) (fun h M' hh=>by
  obtain ⟨y,h1,h2⟩:=hh;exact ⟨y,a2+4,h1,by omega,by rw [h2];rfl⟩)⟩) ?_
 rintro _ _ ⟨y38,a4,rfl,ha4,rfl⟩;refine gz3 ?_;refine uCo (fun h5=> ?_) fun h6=> ?_
 refine gz2 ?_;refine de0 (uY 1 ?_)
 refine gz1 ?_;exact ⟨((⟨(w:Int)+1,at1+y20,y26,[112,105,110,107]⟩:FixS),a4),ha4,trivial,uK,uP⟩;refine gz1 ?_;exact ⟨((⟨(w:Int)+1,at1+y20,y26,y29⟩:FixS),a4),ha4,trivial,uK,uP⟩
 intro q3 ha4
 obtain ⟨x4,a4⟩:=q3;dsimp only at ha4;refine uVj [42,14] (fun (q4:FixS×Nat)=>[]) (fun (q4:FixS×Nat)=>[St b l q4.2,.arr u 4 (out.map zaL),.cells b6 (zb (zaL q4.1))]) (fun (q4:FixS×Nat)=>q4.2<=a2+10) ?_ ?_
 skip
 refine gz2 ?_;refine de rfl (uCx 0 zdl rfl rfl (zy uS uS) ?_)
 rintro _ _ ⟨y43,rfl,rfl⟩;refine gz1 ?_;refine uCo (fun h7=> ?_) fun h8=> ?_
 refine zaX (fun M=> ∃i:Nat,M[i]? =some (.cells b6 (zb (zaL x4)))) [6] mixed ?_;refine gz1 ?_;refine gx2 [2,4] ?_;refine gz1 ?_;refine uM 6 rfl (⟨2,rfl⟩) (fun M hM=>by obtain ⟨i,hi⟩:=hM;exact zab (i:=i) ty9 rfl hi (.inl ⟨rfl,rfl⟩) ⟨rfl,rfl⟩) ?_;refine uB 7 rfl (za (hs:=[_,_]) zj ty9 rfl rfl (by decide) (by decide) rfl) ?_;refine uF 1 ?_;refine zm rfl (uCx 0 zmC rfl rfl (zgc uS uS uS uS) ?_)
 rintro _ _ ⟨y45,rfl,hy45,rfl⟩;refine ⟨uE,?_⟩
 refine uA 9 ?_;refine uF 3 ?_;refine zm rfl (uCx 0 zmC rfl rfl (zgc uS uS uS uS) ?_)
 rintro _ _ ⟨y47,rfl,hy47,rfl⟩;refine ⟨uE,?_⟩
 refine uF 8 ?_;refine zm rfl (uCx 0 zby rfl rfl (zh (L:=[_,_]) uS uS uS) ?_)
 rintro _ _ ⟨y52,rfl,hy52,rfl⟩;refine ⟨uE,?_⟩
 refine uF 10 ?_;refine zI (uY 2 ?_)
 refine ⟨uE,?_⟩
 refine gz1 ?_;refine uF 12 ?_;refine zI (uY 2 ?_)
 refine ⟨uE,?_⟩
 refine gz1 ?_;refine uF 14 ?_;refine zI (uY 2 ?_)
 refine ⟨uE,?_⟩
 refine gz1 ?_;exact ⟨((⟨y45,y47,y52,x4.Away⟩:FixS),a4+6),uD,trivial,uK,uP⟩;refine gz1 ?_;exact ⟨(x4,a4+1),uD,trivial,uK,uP⟩
 intro q4 ha5
 obtain ⟨x5,a5⟩:=q4;dsimp only at ha5;refine zf (zcN 6 (i:=2) rfl rfl) ?_;refine gz3 ?_;refine dq (za (hs:=[_]) zb3 zaw rfl rfl (by decide) (by decide) rfl) ?_;refine de rfl (zP (i:=1) zb3 zaw rfl rfl rfl rfl rfl (by simp [zas,zb,zap,zaM]) uSo fun v59=> ?_)
 refine gz8 ?_;exact ⟨n+1,at1+y20,⟨v59,out++[x5],a5⟩,⟨by omega,by simp at hy20;omega,hq2.add (x:=x5) trivial uO⟩,uD,⟨rfl,rfl,rfl,trivial⟩,uK,uP⟩;refine gz2 ?_;refine zcn ?_;refine gz8 ?_;exact ⟨w+1,⟨u,out,a2⟩,⟨by omega,hq2.mono uO uO⟩,uD,⟨zL uO,rfl,trivial⟩,uK,uP⟩;refine gz2 ?_;refine zJ ?_;refine gz4 ?_;refine de rfl (uCx 1 zxH rfl rfl (zjt (l:=out) (c:=zms) zxI (fun _ _=>zf4) zt3 uO) ?_)
 rintro _ _ ⟨Z,rfl,⟨hz1,hz2⟩,rfl⟩;have hzl:=hz1.length_eq;refine gz3 ?_;refine de rfl (uCx 0 zxK rfl rfl (zjS (l:=Z) zxL (fun _ _=>zf5) uO) ?_)
 rintro _ _ ⟨u64,D64,rfl,⟨hD1,hD2⟩,rfl⟩;refine gz3 ?_;exact zaa (zaC 2 (i:=0) rfl rfl) rfl ⟨D64,a2,rfl,by omega,by omega,rfl⟩
end
end Go.Proofs.YtaihpegdcgdcgaaGreatDoor
namespace Go.HL
section
open Go
theorem zbB {e:Env} {places:List (Nat×Nat)} {cs cs' out:List HVal} {i off sz:Nat} {x:Operand} {h:HVal} {r:List (Nat×Operand)} (h1:places[i]? =some (off,sz)) (h2:ze e x=some h) (h3:zdh sz h=true)
 (h4:Nat.ble (off+sz) cs.length=true) (h5:zam cs off (zb h)=cs') (k:zfe e places cs' r=some out):zfe e places cs ((i,x)::r)=some out:=by
 rw [zfe,h1,h2];simp only [h3,h4];rw [h5];exact k
theorem zng {e:Env} {places:List (Nat×Nat)} {cs:List HVal}:zfe e places cs []=some cs:=rfl
theorem zny [Tracks] {P:Program} {e:Env} {dst:Option Tmp} {ty:TypeId} {pos:String} {af:Array Edge} {g:Option (Nat×Bool)} {t:TypeId} {fs:List (Nat×Nat)} {size bytes:Nat} {zs:Array Value} {parts:Array (Nat×Operand)} {ps:List (Nat×Operand)} {places:List (Nat×Nat)} {cs zc:List HVal}
 (hf:Fits P t (.struct fs) size bytes (.agg zs)) (hp:Places P fs places) (hz:zs.toList.map zaM=zc) (hps:parts.toList=ps)
 (hr:zfe e places zc ps=some cs):POp P e ⟨dst,.build t parts,ty,pos,af,g⟩ (.agg cs):=
 zH hf hp (by rw [hz,hps];exact hr)
theorem zgD [Tracks] {P:Program} {e:Env} {dst:Option Tmp} {ty:TypeId} {pos:String} {af:Array Edge} {g:Option (Nat×Bool)} {t:TypeId} {fs:List (Nat×Nat)} {size bytes:Nat} {zs:Array Value} {parts:Array (Nat×Operand)} {ps:List (Nat×Operand)} {places:List (Nat×Nat)} {cs zc:List HVal}
 (hf:Fits P t (.struct fs) size bytes (.agg zs)) (hp:Places P fs places) (hz:zs.toList.map zaM=zc:=by exact (show _=[_,_,_,_,_,_,_,_,_,_,_,_,_,_] from rfl)) (hps:parts.toList=ps:=by exact (show _=[_,_,_,_,_,_,_,_,_] from rfl))
 (hr:zfe e places zc ps=some cs:=by exact zbB (cs':=[_,_,_,_,_,_,_,_,_,_,_,_,_,_]) rfl rfl rfl rfl rfl (zbB (cs':=[_,_,_,_,_,_,_,_,_,_,_,_,_,_]) rfl rfl rfl rfl rfl (zbB (cs':=[_,_,_,_,_,_,_,_,_,_,_,_,_,_]) rfl rfl rfl rfl rfl (zbB (cs':=[_,_,_,_,_,_,_,_,_,_,_,_,_,_]) rfl rfl rfl rfl rfl (zbB (cs':=[_,_,_,_,_,_,_,_,_,_,_,_,_,_]) rfl rfl rfl rfl rfl (zbB (cs':=[_,_,_,_,_,_,_,_,_,_,_,_,_,_]) rfl rfl rfl rfl rfl (zbB (cs':=[_,_,_,_,_,_,_,_,_,_,_,_,_,_]) rfl rfl rfl rfl rfl (zbB (cs':=[_,_,_,_,_,_,_,_,_,_,_,_,_,_]) rfl rfl rfl rfl rfl (zbB (cs':=[_,_,_,_,_,_,_,_,_,_,_,_,_,_]) rfl rfl rfl rfl rfl (zng)))))))))):POp P e ⟨dst,.build t parts,ty,pos,af,g⟩ (.agg cs):=zny hf hp hz hps hr
theorem zzd [Tracks] {P:Program} {e:Env} {dst:Option Tmp} {ty:TypeId} {pos:String} {af:Array Edge} {g:Option (Nat×Bool)} {t:TypeId} {fs:List (Nat×Nat)} {size bytes:Nat} {zs:Array Value} {parts:Array (Nat×Operand)} {ps:List (Nat×Operand)} {places:List (Nat×Nat)} {cs zc:List HVal}
 (hf:Fits P t (.struct fs) size bytes (.agg zs)) (hp:Places P fs places) (hz:zs.toList.map zaM=zc:=by exact (show _=[_,_,_,_,_,_,_,_,_,_,_,_,_,_,_,_,_,_,_] from rfl)) (hps:parts.toList=ps:=by exact (show _=[_,_,_] from rfl))
 (hr:zfe e places zc ps=some cs:=by exact zbB (cs':=[_,_,_,_,_,_,_,_,_,_,_,_,_,_,_,_,_,_,_]) rfl rfl rfl rfl rfl (zbB (cs':=[_,_,_,_,_,_,_,_,_,_,_,_,_,_,_,_,_,_,_]) rfl rfl rfl rfl rfl (zbB (cs':=[_,_,_,_,_,_,_,_,_,_,_,_,_,_,_,_,_,_,_]) rfl rfl rfl rfl rfl (zng)))):POp P e ⟨dst,.build t parts,ty,pos,af,g⟩ (.agg cs):=zny hf hp hz hps hr
end
section
open Op
abbrev zq1:List HVal:=[.raw (.slice none 0 0),.raw (.slice none 0 0),.raw (.slice none 0 0),.raw (.slice none 0 0),.raw (.slice none 0 0),.int .i64 0,.int .i64 0,.int .i64 0,.int .i64 0,.raw (.slice none 0 0),.raw (.slice none 0 0),.raw (.slice none 0 0),.raw (.slice none 0 0),.int .i64 0]
abbrev zhb:List HVal:=[.raw (.slice none 0 0),.raw (.slice none 0 0),.raw (.slice none 0 0),.raw (.slice none 0 0),.raw (.slice none 0 0),.int .i64 0,.int .i64 0,.int .i64 0,.int .i64 0,.raw (.slice none 0 0),.raw (.slice none 0 0),.raw (.slice none 0 0),.raw (.slice none 0 0),.int .i64 0,.raw (.slice none 0 0),.raw (.slice none 0 0),.raw (.slice none 0 0),.raw (.slice none 0 0),.raw (.slice none 0 0)]
abbrev lgC (p:List PlayerS) (st:HVal) (f:List FixS) (r:List RuleS) (s:List SlotS) (b:BoundS) (t:List Str) (ga:HVal) (br:List Int) (tr:List Str) (w:Int):List HVal:=[zaT p,st,zj8 f,zhW r,zgP s,.int .i64 b.Most,.int .i64 b.Hurt,.int .i64 b.Adds,.int .i64 b.Hold,eSs t,ga,eIs br,eSs tr,.int .i64 w]
abbrev bkC (g:LeagueS) (mv pl me he ch:HVal):List HVal:=[zaT g.Players,zd2 g.Stints,zj8 g.Fixtures,zhW g.Rules,zgP g.Slots,.int .i64 g.Bounds.Most,.int .i64 g.Bounds.Hurt,.int .i64 g.Bounds.Adds,.int .i64 g.Bounds.Hold,eSs g.Teams,zjw g.Games,eIs g.Breaks,eSs g.Trust,.int .i64 g.Start,mv,pl,me,he,ch]
end
end Go.HL
namespace Go.Proofs.YtaihpegdcgdcgaaGreatDoor
set_option maxRecDepth 100000
set_option linter.unusedVariables false
set_option linter.unusedSimpArgs false
section
open Go.Proofs.Tryz
open Go.HL
theorem zgH [Tracks] {b:Nat} {l:List Int} {a:Nat} (ha:a<=500000):Con prog 23 [pAt b] [St b l a] (fun x M'=> ∃g a',x=zd1 g/\LeaC g/\a'<=a+500/\M'=[St b l a']):=by
 refine zcM func23 rfl ntmps23 rfl rfl ?_;refine gz1 ?_;refine de rfl (zi za9 rfl fun b2=> ?_)
 refine gz1 ?_;refine uVj [3,1,6,23] (fun (q:Nat×LeagueS×Nat)=>[(3,pAt q.1)]) (fun (q:Nat×LeagueS×Nat)=>[.cells q.1 (lgC q.2.1.Players (.raw (.slice none 0 0)) q.2.1.Fixtures q.2.1.Rules q.2.1.Slots q.2.1.Bounds q.2.1.Teams (.raw (.slice none 0 0)) q.2.1.Breaks q.2.1.Trust q.2.1.Start),.cells b2 zq1,St b l q.2.2]) (fun (q:Nat×LeagueS×Nat)=>LeaD q.2.1/\q.2.2<=a+300) ?_ ?_
 ·skip
  refine zkv mixed ?_;refine gz1 ?_;refine gx4 [2,4,6,8] ?_;refine uB 10 rfl (za (hs:=[_,_,_,_]) zj ty9 rfl rfl (by decide) (by decide) rfl) ?_;refine gz1 ?_;refine uB 12 rfl (za (hs:=[_,_,_]) zV ty3 rfl rfl (by decide) (by decide) rfl) ?_;refine gx3 [15,17,19] ?_;refine uB 20 rfl (za (hs:=[_,_,_]) zV ty3 rfl rfl (by decide) (by decide) rfl) ?_;refine zgY 1 23 rfl rfl (by kernel_rfl) ?_ ?_
  ·skip
   refine zm rfl (uCx 1 ca61 rfl rfl (zc0 uS) ?_)
   rintro _ _ ⟨k7,a7,rfl,hk7,ha7,rfl⟩;refine ⟨uE,?_⟩
   refine zgY 3 23 rfl rfl (by kernel_rfl) ?_ ?_
   ·skip
    refine zm rfl (uCx 0 zt7 rfl rfl (zb9 uS) ?_)
    rintro _ _ ⟨k9,a9,rfl,hk9,ha9,rfl⟩;refine ⟨uE,?_⟩
    refine zgY 5 23 rfl rfl (by kernel_rfl) ?_ ?_
    ·skip
     refine zm rfl (uCx 0 zsc rfl rfl (zbf uS) ?_)
     rintro _ _ ⟨k11,a11,rfl,hk11,ha11,rfl⟩;refine ⟨uE,?_⟩
     refine zgY 7 23 rfl rfl (by kernel_rfl) ?_ ?_
     ·skip
      refine zm rfl (uCx 0 zn3 rfl rfl (zaU uS) ?_)
      rintro _ _ ⟨k13,a13,rfl,hk13,hn13,ha13,rfl⟩;refine ⟨uE,?_⟩
      refine zgY 9 23 rfl rfl (by kernel_rfl) ?_ ?_
      ·skip
       refine zm rfl (uCx 0 zn4 rfl rfl (zaz uS) ?_)
       rintro _ _ ⟨y15,rfl,rfl⟩;refine ⟨uE,?_⟩
       refine zgY 13 23 rfl rfl (by kernel_rfl) ?_ ?_
       ·skip
        refine zm rfl (uCx 0 zaE rfl rfl (zd (L:=[_,_,_]) uS uS uS) ?_)
        rintro _ _ ⟨y19,rfl,hy19,rfl⟩;refine ⟨uE,?_⟩
        refine uB 14 rfl (zaI (es:=tm4) (f:=HVal.str) (h:=y19.toNat) zj ty9 rfl rfl ⟨_,_,rfl,by simp at hy19;omega⟩ uO (by simp [tm4];simp at hy19;omega)) ?_;refine zgY 16 23 rfl rfl (by kernel_rfl) ?_ ?_
        ·skip
         refine zm rfl (uCx 0 zle rfl rfl (zaq uS) ?_)
         rintro _ _ ⟨k22,a22,rfl,hk22,ha22,rfl⟩;refine ⟨uE,?_⟩
         refine zgY 18 23 rfl rfl (by kernel_rfl) ?_ ?_
         ·skip
          refine zm rfl (uCx 0 zj5 rfl rfl (zae uS) ?_)
          rintro _ _ ⟨t24,a24,rfl,ht24,ha24,rfl⟩;refine ⟨uE,?_⟩
          refine zgY 21 23 rfl rfl (by kernel_rfl) ?_ ?_
          ·skip
           refine zm rfl (uCx 0 zaE rfl rfl (zd (L:=[_,_,_]) uS uS uS) ?_)
           rintro _ _ ⟨y27,rfl,hy27,rfl⟩;refine ⟨uE,?_⟩
           refine uB 22 rfl (zgD za9 zh5) ?_;refine uF 23 ?_;refine zm rfl (zi za9 rfl fun b3=> ?_)
           refine ⟨uE,?_⟩
           refine uF 24 ?_;refine zI (uY 0 ?_)
           refine ⟨uE,?_⟩
           refine uAz ?_;refine ⟨(b3,⟨k7,[],k9,k11,k13,y15,(tm4.take y19.toNat),[],k22,t24,y27⟩,a24+1),?_,⟨rfl,trivial⟩,uK,?_⟩
           ·exact ⟨⟨hk7,hk9,hk11,hk13,⟨by dsimp only;simp [tm4];simp at hy19;omega,by dsimp only;simp [tm4];simp at hy19;omega⟩,hk22,ht24,by simp at hy27;dsimp only;omega,zdZ (by simp at hy19;omega)⟩,uD⟩
           ·exact uP
          ·skip
           refine zm rfl (zi za9 rfl fun b3=> ?_)
           refine ⟨uE,?_⟩
           refine uF 21 ?_;refine zm rfl (uCx 1 zaE rfl rfl (zd (L:=[_,_,_]) uS uS uS) ?_)
           rintro _ _ ⟨y27,rfl,hy27,rfl⟩;refine ⟨uE,?_⟩
           refine uB 22 rfl (zgD za9 zh5) ?_;refine uF 24 ?_;refine zI (uY 1 ?_)
           refine ⟨uE,?_⟩
           refine uAz ?_;refine ⟨(b3,⟨k7,[],k9,k11,k13,y15,(tm4.take y19.toNat),[],k22,t24,y27⟩,a24+1),?_,⟨rfl,trivial⟩,uK,?_⟩
           ·exact ⟨⟨hk7,hk9,hk11,hk13,⟨by dsimp only;simp [tm4];simp at hy19;omega,by dsimp only;simp [tm4];simp at hy19;omega⟩,hk22,ht24,by simp at hy27;dsimp only;omega,zdZ (by simp at hy19;omega)⟩,uD⟩
           ·exact uP
         ·skip
          refine zm rfl (zi za9 rfl fun b3=> ?_)
          refine ⟨uE,?_⟩
          refine uF 18 ?_;refine zm rfl (uCx 1 zj5 rfl rfl (zae uS) ?_)
          rintro _ _ ⟨t24,a24,rfl,ht24,ha24,rfl⟩;refine ⟨uE,?_⟩
          refine uF 21 ?_;refine zm rfl (uCx 0 zaE rfl rfl (zd (L:=[_,_,_]) uS uS uS) ?_)
          rintro _ _ ⟨y27,rfl,hy27,rfl⟩;refine ⟨uE,?_⟩
          refine uB 22 rfl (zgD za9 zh5) ?_;refine uF 24 ?_;refine zI (uY 1 ?_)
          refine ⟨uE,?_⟩
          refine uAz ?_;refine ⟨(b3,⟨k7,[],k9,k11,k13,y15,(tm4.take y19.toNat),[],k22,t24,y27⟩,a24+1),?_,⟨rfl,trivial⟩,uK,?_⟩
          ·exact ⟨⟨hk7,hk9,hk11,hk13,⟨by dsimp only;simp [tm4];simp at hy19;omega,by dsimp only;simp [tm4];simp at hy19;omega⟩,hk22,ht24,by simp at hy27;dsimp only;omega,zdZ (by simp at hy19;omega)⟩,uD⟩
          ·exact uP
        ·skip
         refine zm rfl (zi za9 rfl fun b3=> ?_)
         refine ⟨uE,?_⟩
         refine uF 16 ?_;refine zm rfl (uCx 1 zle rfl rfl (zaq uS) ?_)
         rintro _ _ ⟨k22,a22,rfl,hk22,ha22,rfl⟩;refine ⟨uE,?_⟩
         refine uF 18 ?_;refine zm rfl (uCx 0 zj5 rfl rfl (zae uS) ?_)
         rintro _ _ ⟨t24,a24,rfl,ht24,ha24,rfl⟩;refine ⟨uE,?_⟩
         refine uF 21 ?_;refine zm rfl (uCx 0 zaE rfl rfl (zd (L:=[_,_,_]) uS uS uS) ?_)
         rintro _ _ ⟨y27,rfl,hy27,rfl⟩;refine ⟨uE,?_⟩
         refine uB 22 rfl (zgD za9 zh5) ?_;refine uF 24 ?_;refine zI (uY 1 ?_)
         refine ⟨uE,?_⟩
         refine uAz ?_;refine ⟨(b3,⟨k7,[],k9,k11,k13,y15,(tm4.take y19.toNat),[],k22,t24,y27⟩,a24+1),?_,⟨rfl,trivial⟩,uK,?_⟩
         ·exact ⟨⟨hk7,hk9,hk11,hk13,⟨by dsimp only;simp [tm4];simp at hy19;omega,by dsimp only;simp [tm4];simp at hy19;omega⟩,hk22,ht24,by simp at hy27;dsimp only;omega,zdZ (by simp at hy19;omega)⟩,uD⟩
         ·exact uP
       ·skip
        refine zm rfl (zi za9 rfl fun b3=> ?_)
        refine ⟨uE,?_⟩
        refine uF 13 ?_;refine zm rfl (uCx 1 zaE rfl rfl (zd (L:=[_,_,_]) uS uS uS) ?_)
        rintro _ _ ⟨y19,rfl,hy19,rfl⟩;refine ⟨uE,?_⟩
        refine uB 14 rfl (zaI (es:=tm4) (f:=HVal.str) (h:=y19.toNat) zj ty9 rfl rfl ⟨_,_,rfl,by simp at hy19;omega⟩ uO (by simp [tm4];simp at hy19;omega)) ?_;refine uF 16 ?_;refine zm rfl (uCx 0 zle rfl rfl (zaq uS) ?_)
        rintro _ _ ⟨k22,a22,rfl,hk22,ha22,rfl⟩;refine ⟨uE,?_⟩
        refine uF 18 ?_;refine zm rfl (uCx 0 zj5 rfl rfl (zae uS) ?_)
        rintro _ _ ⟨t24,a24,rfl,ht24,ha24,rfl⟩;refine ⟨uE,?_⟩
        refine uF 21 ?_;refine zm rfl (uCx 0 zaE rfl rfl (zd (L:=[_,_,_]) uS uS uS) ?_)
        rintro _ _ ⟨y27,rfl,hy27,rfl⟩;refine ⟨uE,?_⟩
        refine uB 22 rfl (zgD za9 zh5) ?_;refine uF 24 ?_;refine zI (uY 1 ?_)
        refine ⟨uE,?_⟩
        refine uAz ?_;refine ⟨(b3,⟨k7,[],k9,k11,k13,y15,(tm4.take y19.toNat),[],k22,t24,y27⟩,a24+1),?_,⟨rfl,trivial⟩,uK,?_⟩
        ·exact ⟨⟨hk7,hk9,hk11,hk13,⟨by dsimp only;simp [tm4];simp at hy19;omega,by dsimp only;simp [tm4];simp at hy19;omega⟩,hk22,ht24,by simp at hy27;dsimp only;omega,zdZ (by simp at hy19;omega)⟩,uD⟩
        ·exact uP
      ·skip
       refine zm rfl (zi za9 rfl fun b3=> ?_)
       refine ⟨uE,?_⟩
       refine uF 9 ?_;refine zm rfl (uCx 1 zn4 rfl rfl (zaz uS) ?_)
       rintro _ _ ⟨y15,rfl,rfl⟩;refine ⟨uE,?_⟩
       refine uF 13 ?_;refine zm rfl (uCx 0 zaE rfl rfl (zd (L:=[_,_,_]) uS uS uS) ?_)
       rintro _ _ ⟨y19,rfl,hy19,rfl⟩;refine ⟨uE,?_⟩
       refine uB 14 rfl (zaI (es:=tm4) (f:=HVal.str) (h:=y19.toNat) zj ty9 rfl rfl ⟨_,_,rfl,by simp at hy19;omega⟩ uO (by simp [tm4];simp at hy19;omega)) ?_;refine uF 16 ?_;refine zm rfl (uCx 0 zle rfl rfl (zaq uS) ?_)
       rintro _ _ ⟨k22,a22,rfl,hk22,ha22,rfl⟩;refine ⟨uE,?_⟩
       refine uF 18 ?_;refine zm rfl (uCx 0 zj5 rfl rfl (zae uS) ?_)
       rintro _ _ ⟨t24,a24,rfl,ht24,ha24,rfl⟩;refine ⟨uE,?_⟩
       refine uF 21 ?_;refine zm rfl (uCx 0 zaE rfl rfl (zd (L:=[_,_,_]) uS uS uS) ?_)
       rintro _ _ ⟨y27,rfl,hy27,rfl⟩;refine ⟨uE,?_⟩
       refine uB 22 rfl (zgD za9 zh5) ?_;refine uF 24 ?_;refine zI (uY 1 ?_)
       refine ⟨uE,?_⟩
       refine uAz ?_;refine ⟨(b3,⟨k7,[],k9,k11,k13,y15,(tm4.take y19.toNat),[],k22,t24,y27⟩,a24+1),?_,⟨rfl,trivial⟩,uK,?_⟩
       ·exact ⟨⟨hk7,hk9,hk11,hk13,⟨by dsimp only;simp [tm4];simp at hy19;omega,by dsimp only;simp [tm4];simp at hy19;omega⟩,hk22,ht24,by simp at hy27;dsimp only;omega,zdZ (by simp at hy19;omega)⟩,uD⟩
       ·exact uP
     ·skip
      refine zm rfl (zi za9 rfl fun b3=> ?_)
      refine ⟨uE,?_⟩
      refine uF 7 ?_;refine zm rfl (uCx 1 zn3 rfl rfl (zaU uS) ?_)
      rintro _ _ ⟨k13,a13,rfl,hk13,hn13,ha13,rfl⟩;refine ⟨uE,?_⟩
      refine uF 9 ?_;refine zm rfl (uCx 0 zn4 rfl rfl (zaz uS) ?_)
      rintro _ _ ⟨y15,rfl,rfl⟩;refine ⟨uE,?_⟩
      refine uF 13 ?_;refine zm rfl (uCx 0 zaE rfl rfl (zd (L:=[_,_,_]) uS uS uS) ?_)
      rintro _ _ ⟨y19,rfl,hy19,rfl⟩;refine ⟨uE,?_⟩
      refine uB 14 rfl (zaI (es:=tm4) (f:=HVal.str) (h:=y19.toNat) zj ty9 rfl rfl ⟨_,_,rfl,by simp at hy19;omega⟩ uO (by simp [tm4];simp at hy19;omega)) ?_;refine uF 16 ?_;refine zm rfl (uCx 0 zle rfl rfl (zaq uS) ?_)
      rintro _ _ ⟨k22,a22,rfl,hk22,ha22,rfl⟩;refine ⟨uE,?_⟩
      refine uF 18 ?_;refine zm rfl (uCx 0 zj5 rfl rfl (zae uS) ?_)
      rintro _ _ ⟨t24,a24,rfl,ht24,ha24,rfl⟩;refine ⟨uE,?_⟩
      refine uF 21 ?_;refine zm rfl (uCx 0 zaE rfl rfl (zd (L:=[_,_,_]) uS uS uS) ?_)
      rintro _ _ ⟨y27,rfl,hy27,rfl⟩;refine ⟨uE,?_⟩
      refine uB 22 rfl (zgD za9 zh5) ?_;refine uF 24 ?_;refine zI (uY 1 ?_)
      refine ⟨uE,?_⟩
      refine uAz ?_;refine ⟨(b3,⟨k7,[],k9,k11,k13,y15,(tm4.take y19.toNat),[],k22,t24,y27⟩,a24+1),?_,⟨rfl,trivial⟩,uK,?_⟩
      ·exact ⟨⟨hk7,hk9,hk11,hk13,⟨by dsimp only;simp [tm4];simp at hy19;omega,by dsimp only;simp [tm4];simp at hy19;omega⟩,hk22,ht24,by simp at hy27;dsimp only;omega,zdZ (by simp at hy19;omega)⟩,uD⟩
      ·exact uP
    ·skip
     refine zm rfl (zi za9 rfl fun b3=> ?_)
     refine ⟨uE,?_⟩
     refine uF 5 ?_;refine zm rfl (uCx 1 zsc rfl rfl (zbf uS) ?_)
     rintro _ _ ⟨k11,a11,rfl,hk11,ha11,rfl⟩;refine ⟨uE,?_⟩
     refine uF 7 ?_;refine zm rfl (uCx 0 zn3 rfl rfl (zaU uS) ?_)
     rintro _ _ ⟨k13,a13,rfl,hk13,hn13,ha13,rfl⟩;refine ⟨uE,?_⟩
     refine uF 9 ?_;refine zm rfl (uCx 0 zn4 rfl rfl (zaz uS) ?_)
     rintro _ _ ⟨y15,rfl,rfl⟩;refine ⟨uE,?_⟩
     refine uF 13 ?_;refine zm rfl (uCx 0 zaE rfl rfl (zd (L:=[_,_,_]) uS uS uS) ?_)
     rintro _ _ ⟨y19,rfl,hy19,rfl⟩;refine ⟨uE,?_⟩
     refine uB 14 rfl (zaI (es:=tm4) (f:=HVal.str) (h:=y19.toNat) zj ty9 rfl rfl ⟨_,_,rfl,by simp at hy19;omega⟩ uO (by simp [tm4];simp at hy19;omega)) ?_;refine uF 16 ?_;refine zm rfl (uCx 0 zle rfl rfl (zaq uS) ?_)
     rintro _ _ ⟨k22,a22,rfl,hk22,ha22,rfl⟩;refine ⟨uE,?_⟩
     refine uF 18 ?_;refine zm rfl (uCx 0 zj5 rfl rfl (zae uS) ?_)
     rintro _ _ ⟨t24,a24,rfl,ht24,ha24,rfl⟩;refine ⟨uE,?_⟩
     refine uF 21 ?_;refine zm rfl (uCx 0 zaE rfl rfl (zd (L:=[_,_,_]) uS uS uS) ?_)
     rintro _ _ ⟨y27,rfl,hy27,rfl⟩;refine ⟨uE,?_⟩
     refine uB 22 rfl (zgD za9 zh5) ?_;refine uF 24 ?_;refine zI (uY 1 ?_)
     refine ⟨uE,?_⟩
     refine uAz ?_;refine ⟨(b3,⟨k7,[],k9,k11,k13,y15,(tm4.take y19.toNat),[],k22,t24,y27⟩,a24+1),?_,⟨rfl,trivial⟩,uK,?_⟩
     ·exact ⟨⟨hk7,hk9,hk11,hk13,⟨by dsimp only;simp [tm4];simp at hy19;omega,by dsimp only;simp [tm4];simp at hy19;omega⟩,hk22,ht24,by simp at hy27;dsimp only;omega,zdZ (by simp at hy19;omega)⟩,uD⟩
     ·exact uP
   ·skip
    refine zm rfl (zi za9 rfl fun b3=> ?_)
    refine ⟨uE,?_⟩
    refine uF 3 ?_;refine zm rfl (uCx 1 zt7 rfl rfl (zb9 uS) ?_)
    rintro _ _ ⟨k9,a9,rfl,hk9,ha9,rfl⟩;refine ⟨uE,?_⟩
    refine uF 5 ?_;refine zm rfl (uCx 0 zsc rfl rfl (zbf uS) ?_)
    rintro _ _ ⟨k11,a11,rfl,hk11,ha11,rfl⟩;refine ⟨uE,?_⟩
    refine uF 7 ?_;refine zm rfl (uCx 0 zn3 rfl rfl (zaU uS) ?_)
    rintro _ _ ⟨k13,a13,rfl,hk13,hn13,ha13,rfl⟩;refine ⟨uE,?_⟩
    refine uF 9 ?_;refine zm rfl (uCx 0 zn4 rfl rfl (zaz uS) ?_)
    rintro _ _ ⟨y15,rfl,rfl⟩;refine ⟨uE,?_⟩
    refine uF 13 ?_;refine zm rfl (uCx 0 zaE rfl rfl (zd (L:=[_,_,_]) uS uS uS) ?_)
    rintro _ _ ⟨y19,rfl,hy19,rfl⟩;refine ⟨uE,?_⟩
    refine uB 14 rfl (zaI (es:=tm4) (f:=HVal.str) (h:=y19.toNat) zj ty9 rfl rfl ⟨_,_,rfl,by simp at hy19;omega⟩ uO (by simp [tm4];simp at hy19;omega)) ?_;refine uF 16 ?_;refine zm rfl (uCx 0 zle rfl rfl (zaq uS) ?_)
    rintro _ _ ⟨k22,a22,rfl,hk22,ha22,rfl⟩;refine ⟨uE,?_⟩
    refine uF 18 ?_;refine zm rfl (uCx 0 zj5 rfl rfl (zae uS) ?_)
    rintro _ _ ⟨t24,a24,rfl,ht24,ha24,rfl⟩;refine ⟨uE,?_⟩
    refine uF 21 ?_;refine zm rfl (uCx 0 zaE rfl rfl (zd (L:=[_,_,_]) uS uS uS) ?_)
    rintro _ _ ⟨y27,rfl,hy27,rfl⟩;refine ⟨uE,?_⟩
    refine uB 22 rfl (zgD za9 zh5) ?_;refine uF 24 ?_;refine zI (uY 1 ?_)
    refine ⟨uE,?_⟩
    refine uAz ?_;refine ⟨(b3,⟨k7,[],k9,k11,k13,y15,(tm4.take y19.toNat),[],k22,t24,y27⟩,a24+1),?_,⟨rfl,trivial⟩,uK,?_⟩
    ·exact ⟨⟨hk7,hk9,hk11,hk13,⟨by dsimp only;simp [tm4];simp at hy19;omega,by dsimp only;simp [tm4];simp at hy19;omega⟩,hk22,ht24,by simp at hy27;dsimp only;omega,zdZ (by simp at hy19;omega)⟩,uD⟩
    ·exact uP
  ·skip
   refine zm rfl (zi za9 rfl fun b3=> ?_)
   refine ⟨uE,?_⟩
   refine uF 1 ?_;refine zm rfl (uCx 2 ca61 rfl rfl (zc0 uS) ?_)
   rintro _ _ ⟨k7,a7,rfl,hk7,ha7,rfl⟩;refine ⟨uE,?_⟩
   refine uF 3 ?_;refine zm rfl (uCx 0 zt7 rfl rfl (zb9 uS) ?_)
   rintro _ _ ⟨k9,a9,rfl,hk9,ha9,rfl⟩;refine ⟨uE,?_⟩
   refine uF 5 ?_;refine zm rfl (uCx 0 zsc rfl rfl (zbf uS) ?_)
   rintro _ _ ⟨k11,a11,rfl,hk11,ha11,rfl⟩;refine ⟨uE,?_⟩
   refine uF 7 ?_;refine zm rfl (uCx 0 zn3 rfl rfl (zaU uS) ?_)
   rintro _ _ ⟨k13,a13,rfl,hk13,hn13,ha13,rfl⟩;refine ⟨uE,?_⟩
   refine uF 9 ?_;refine zm rfl (uCx 0 zn4 rfl rfl (zaz uS) ?_)
   rintro _ _ ⟨y15,rfl,rfl⟩;refine ⟨uE,?_⟩
   refine uF 13 ?_;refine zm rfl (uCx 0 zaE rfl rfl (zd (L:=[_,_,_]) uS uS uS) ?_)
   rintro _ _ ⟨y19,rfl,hy19,rfl⟩;refine ⟨uE,?_⟩
   refine uB 14 rfl (zaI (es:=tm4) (f:=HVal.str) (h:=y19.toNat) zj ty9 rfl rfl ⟨_,_,rfl,by simp at hy19;omega⟩ uO (by simp [tm4];simp at hy19;omega)) ?_;refine uF 16 ?_;refine zm rfl (uCx 0 zle rfl rfl (zaq uS) ?_)
   rintro _ _ ⟨k22,a22,rfl,hk22,ha22,rfl⟩;refine ⟨uE,?_⟩
   refine uF 18 ?_;refine zm rfl (uCx 0 zj5 rfl rfl (zae uS) ?_)
   rintro _ _ ⟨t24,a24,rfl,ht24,ha24,rfl⟩;refine ⟨uE,?_⟩
   refine uF 21 ?_;refine zm rfl (uCx 0 zaE rfl rfl (zd (L:=[_,_,_]) uS uS uS) ?_)
   rintro _ _ ⟨y27,rfl,hy27,rfl⟩;refine ⟨uE,?_⟩
   refine uB 22 rfl (zgD za9 zh5) ?_;refine uF 24 ?_;refine zI (uY 1 ?_)
   refine ⟨uE,?_⟩
   refine uAz ?_;refine ⟨(b3,⟨k7,[],k9,k11,k13,y15,(tm4.take y19.toNat),[],k22,t24,y27⟩,a24+1),?_,⟨rfl,trivial⟩,uK,?_⟩
   ·exact ⟨⟨hk7,hk9,hk11,hk13,⟨by dsimp only;simp [tm4];simp at hy19;omega,by dsimp only;simp [tm4];simp at hy19;omega⟩,hk22,ht24,by simp at hy27;dsimp only;omega,zdZ (by simp at hy19;omega)⟩,uD⟩
   ·exact uP
 ·intro q hq0
  obtain ⟨b3,⟨k7,kst,k9,k11,k13,y15,T,kga,k22,t24,y27⟩,a27⟩:=q;obtain ⟨⟨hk7,hk9,hk11,hk13,htl,hk22,ht24,hst,htt⟩,ha27⟩:=hq0;dsimp only at hk7 hk9 hk11 hk13 htl hk22 ht24 hst htt ha27⊢;have hp5:=hk7.len;have htr:t24.length<=100/\∀s∈t24,Sh s:=⟨by have:=ht24.len;omega,ht24.all⟩
  refine gz3 ?_;refine de rfl (uZ 0 ?_)
  refine de rfl (uCx 2 ca68 rfl rfl (zgI (a:=a27) (L:=k7) uO uO) ?_)
  rintro _ _ ⟨k32,a32,rfl,hk32,ha32,rfl⟩;refine gz1 ?_;refine de0 (uY 1 ?_)
  refine gz4 ?_;refine de rfl (uZ 1 ?_)
  refine de rfl (zaR (M1:=[]) (R:=[_,_,_]) ca69 rfl (WeakL.refl _) (Ac _) (ziS (T:=T) htl) ?_)
  rintro _ _ ⟨k36,rfl,hk36,rfl⟩;refine gz3 ?_;have hl36:=hk36.len;have hg36:=hk36.all;refine zf (zM 8) ?_;refine gz1 ?_;refine uV2 [5,1,38,14] (fun (k:Nat) (q:GL GameS)=>[(38,.int .i64 k)]) (fun (k:Nat) (q:GL GameS)=>[St b l q.a,.cells b2 zq1,.cells b3 (lgC k7 (zd2 k32) k9 k11 k13 y15 T (.raw q.u) k22 t24 y27),.arr q.u 8 (q.out.map zaG)]) (fun (k:Nat) (q:GL GameS)=>k<=k36.length/\(GLok GamB k (a32+k) q)) (fun (k:Nat) (q:GL GameS)=>k36.length-k) (0) (⟨.slice none 0 0,[],a32⟩) ?_ ?_ ?_ ?_
  ·exact ⟨Ad _,⟨by simp,by simp,uD⟩⟩
  ·exact ⟨rfl,trivial⟩
  ·exact uP
  ·intro k q hinv
   obtain ⟨hk,hq⟩:=hinv;obtain ⟨u,out,a2⟩:=q;obtain ⟨g1,g2,g3⟩:=id hq;dsimp only at g1 g2 g3;refine gz4 ?_;refine uCo (fun h1=> ?_) fun h2=> ?_
   ·obtain ⟨x,hx⟩: ∃x,k36[k]? =some x:=⟨_,Aa h1⟩
    have hdx:=zg hx;refine gz7 ?_;refine de rfl (zi zbD rfl fun b5=> ?_)
    refine de0 (uY 0 ?_)
    refine gz3 ?_;refine de rfl (uCx 1 zdl rfl rfl (zy uS uS) ?_)
    rintro _ _ ⟨y43,rfl,rfl⟩;refine gz2 ?_;refine uCo (fun h3=> ?_) fun h4=> ?_
    ·refine gz2 ?_;refine de rfl (uZ 3 ?_)
     refine de rfl (zgQ (i:=1) (h:=zaG x) zbD rfl rfl rfl rfl rfl ?_)
     refine dq (za (hs:=[_]) zeE zbD rfl rfl (by decide) (by decide) rfl) ?_;refine de rfl (zP (i:=4) zeE zbD rfl rfl rfl rfl rfl (by simp [zas,zb,zap,zaM]) uSo fun v49=> ?_)
     refine gz1 ?_;refine de0 (uY 3 ?_)
     refine gz3 ?_;refine zf (zcN 5 (i:=1) rfl rfl) ?_;refine gz4 ?_;exact ⟨k+1,⟨v49,out++[x],a2+1⟩,⟨by omega,hq.add (x:=x) (hg36 x (Ab hx)) uO⟩,uD,⟨rfl,trivial⟩,uK,zq (by dsimp only;rw [AB];rfl)⟩
    ·refine gz3 ?_;refine zf (zcN 5 (i:=1) rfl rfl) ?_;refine gz4 ?_;exact ⟨k+1,⟨u,out,a2+1⟩,⟨by omega,hq.same uO⟩,uD,⟨rfl,trivial⟩,uK,zq rfl⟩
   ·have hnk:k36.length<=k:=by omega
    obtain rfl:k=k36.length:=by omega
    refine gz2 ?_;refine zJ ?_;refine gz4 ?_;refine de rfl (uZ 2 ?_)
    refine de rfl (uCx 3 ca70 rfl rfl (zla (l:=out) g2 uO) ?_)
    rintro _ _ ⟨Z,rfl,hz1,hz2,rfl⟩;have hzl:=hz1.length_eq;refine gz1 ?_;have hgz:Z.length<=6/\∀x∈Z,GamB x:=⟨by omega,fun x hx=>g2 x (hz1.mem_iff.1 hx)⟩
    refine uVj [55,44] (fun (q5:LeagueS×Nat)=>[]) (fun (q5:LeagueS×Nat)=>[St b l q5.2,.cells b2 zq1,.cells b3 (lgC q5.1.Players (zd2 q5.1.Stints) q5.1.Fixtures q5.1.Rules q5.1.Slots q5.1.Bounds q5.1.Teams (.raw u) q5.1.Breaks q5.1.Trust q5.1.Start),.arr u 8 (q5.1.Games.map zaG)]) (fun (q5:LeagueS×Nat)=>LeaC q5.1/\q5.2<=a+500) ?_ ?_
    ·skip
     refine gz2 ?_;refine de rfl (uCx 1 zdl rfl rfl (zy uS uS) ?_)
     rintro _ _ ⟨y56,rfl,rfl⟩;refine gz1 ?_;refine uCo (fun h5=> ?_) fun h6=> ?_
     ·refine gz2 ?_;refine de rfl (uCx 0 zg3 rfl rfl (zU uS uS) ?_)
      rintro _ _ ⟨y58,rfl,hy58,rfl⟩;refine gz6 ?_;refine uCo (fun h7=> ?_) fun h8=> ?_
      ·refine gz2 ?_;refine dq (za (hs:=[_,_,_]) zV ty3 rfl rfl (by decide) (by decide) rfl) ?_;refine de rfl (uCx 0 zaE rfl rfl (zd (L:=[_,_,_]) uS uS uS) ?_)
       rintro _ _ ⟨y81,rfl,hy81,rfl⟩;refine gz1 ?_;refine de0 (uY 3 ?_)
       refine gz2 ?_;exact ⟨((⟨k7,k32,k9,k11,k13,y15,T,Z,k22,t24,y81⟩:LeagueS),a2+3),⟨zhB (h1:=hk7) (h2:=by dsimp only;omega) (h3:=by dsimp only;omega) (h4:=hk11) (h5:=hk13.up) (h6:=by dsimp only;omega) (h7:=hgz) (h8:=by dsimp only;omega) (h9:=htr) (h10:=by simp at hy81;dsimp only;omega) (h11:=htt),uD⟩,trivial,uK,uP⟩
      ·refine gz4 ?_;refine uCo (fun h9=> ?_) fun h10=> ?_
       ·refine gz2 ?_;refine de rfl (uZ 3 ?_)
        refine de rfl (uCa zmz rfl (zar uO) fun v87=> ?_)
        refine gz1 ?_;refine dq (za (hs:=[_,_]) zj ty9 rfl rfl (by decide) (by decide) rfl) ?_;refine de rfl (uCx 1 zby rfl rfl (zh (L:=[_,_]) uS uS uS) ?_)
        rintro _ _ ⟨y90,rfl,hy90,rfl⟩;refine dq (za (hs:=[_]) zj ty9 rfl rfl (by decide) (by decide) rfl) ?_;refine de rfl (zjl (N:=[St b l (a2+3),.arr u 8 (Z.map zaG),.cells b2 zq1,.cells b3 (lgC k7 (zd2 k32) k9 k11 k13 y15 T (.raw u) k22 t24 y27)]) (sz:=1) (es:=(T++[y90]).map .str) 1 (zP (i:=1) zj ty9 rfl rfl rfl rfl rfl (by simp [zas,zb]) uSo fun v=>⟨v,rfl,by simp,rfl⟩) ?_)
        refine gz1 ?_;refine de0 (uY 3 ?_)
        refine gz2 ?_;exact ⟨((⟨k7,k32,k9,k11,k13,y15,T++[y90],Z,k22,t24,y27⟩:LeagueS),a2+3),⟨zhB (h1:=hk7) (h2:=by dsimp only;omega) (h3:=by dsimp only;omega) (h4:=hk11) (h5:=hk13.up) (h6:=by dsimp only;rw [AA];simp only [Ak,AL];omega) (h7:=hgz) (h8:=by dsimp only;omega) (h9:=htr) (h10:=hst) (h11:=htt.app _),uD⟩,trivial,uK,uP⟩
       ·refine gz4 ?_;refine uCo (fun h11=> ?_) fun h12=> ?_
        ·refine gz2 ?_;refine de rfl (uCx 0 ca72 rfl rfl (zhJ uS) ?_)
         rintro _ _ ⟨k97,a97,rfl,hk97,ha97,rfl⟩;refine gz1 ?_;refine de0 (uY 3 ?_)
         refine gz2 ?_;exact ⟨((⟨k7,k32,k9,k11,k97,y15,T,Z,k22,t24,y27⟩:LeagueS),a97),⟨zhB (h1:=hk7) (h2:=by dsimp only;omega) (h3:=by dsimp only;omega) (h4:=hk11) (h5:=hk97) (h6:=by dsimp only;omega) (h7:=hgz) (h8:=by dsimp only;omega) (h9:=htr) (h10:=hst) (h11:=htt),by dsimp only at ha97⊢;omega⟩,trivial,uK,uP⟩
        ·refine gz2 ?_;refine de rfl (uZ 3 ?_)
         refine de rfl (za2 (i:=1) zeE rfl rfl ?_)
         refine gz2 ?_;refine uCo (fun h13=> ?_) fun h14=> ?_
         ·have hz0:0<Z.length:=by first|assumption|omega|simp_all
          obtain ⟨x0,hx0⟩: ∃x,Z[0]? =some x:=⟨_,Aa hz0⟩
          refine zcJ (i:=1) rfl (fun h0 he=> ?_) (fun ob off cap hv hcap=> ?_)
          ·exfalso;have:=congrArg List.length he;simp at this;subst this;simp at hz0
          subst hv;refine zaX (fun M=> ∃i:Nat,M[i]? =some (.cells b3 (lgC k7 (zd2 k32) k9 k11 k13 y15 T (.raw (.slice (some ⟨ob,off,none⟩) (Z.map zaG).length cap)) k22 t24 y27))) [1,3,5] mixed ?_;refine gz1 ?_;refine uM 1 rfl (⟨3,rfl⟩) (fun M hM=>by obtain ⟨i,hi⟩:=hM;exact zab (i:=i) zeE rfl hi (.inl ⟨rfl,rfl⟩) ⟨rfl,rfl⟩) ?_;refine gz1 ?_;refine uM 3 rfl (⟨3,rfl⟩) (fun M hM=>by obtain ⟨i,hi⟩:=hM;exact zab (i:=i) zeE rfl hi (.inl ⟨rfl,rfl⟩) ⟨rfl,rfl⟩) ?_;refine gz1 ?_;refine uM 5 rfl (⟨3,rfl⟩) (fun M hM=>by obtain ⟨i,hi⟩:=hM;exact zab (i:=i) zeE rfl hi (.inl ⟨rfl,rfl⟩) ⟨rfl,rfl⟩) ?_;refine uB 6 rfl (zH (cs:=[_,_]) za4 zkh rfl) ?_;refine uB 7 rfl (zH (cs:=[_,_]) za4 zkh rfl) ?_;refine uB 8 rfl (zt (j:=0) zeE zbD rfl rfl rfl uSo) ?_;refine gz1 ?_;refine uF 10 ?_;refine zI (zO (i:=1) (j:=0) (f:=3) (y:=zaG x0) (y':=zaG (⟨x0.Week,x0.Home,x0.Away,true,x0.FNum,x0.FDen,x0.ONum,x0.ODen⟩:GameS)) ty4 rfl uO rfl rfl (zaY hx0) rfl rfl (by simp [zb]) rfl ?_)
          refine ⟨fun _=> .inl ⟨3,rfl⟩,?_⟩
          refine uB 11 rfl (zt (j:=0) zeE zbD rfl rfl rfl uSo) ?_;refine gz1 ?_;refine uF 13 ?_;refine zI (zO (i:=1) (j:=0) (f:=4) (y:=zaG (⟨x0.Week,x0.Home,x0.Away,true,x0.FNum,x0.FDen,x0.ONum,x0.ODen⟩:GameS)) (y':=zaG (⟨x0.Week,x0.Home,x0.Away,true,1,1,x0.ONum,x0.ODen⟩:GameS)) za4 rfl uO rfl rfl (zay (zaY hx0)) rfl rfl (by simp [zb]) rfl ?_)
          refine ⟨fun _=> .inl ⟨3,rfl⟩,?_⟩
          refine uB 14 rfl (zt (j:=0) zeE zbD rfl rfl rfl uSo) ?_;refine gz1 ?_;refine uF 16 ?_;refine zI (zO (i:=1) (j:=0) (f:=6) (y:=zaG (⟨x0.Week,x0.Home,x0.Away,true,1,1,x0.ONum,x0.ODen⟩:GameS)) (y':=zaG (⟨x0.Week,x0.Home,x0.Away,true,1,1,1,1⟩:GameS)) za4 rfl uO rfl rfl (zay (zay (zaY hx0))) rfl rfl (by simp [zb]) rfl ?_)
          refine ⟨fun _=> .inl ⟨3,rfl⟩,?_⟩
          refine gz2 ?_;exact ⟨((⟨k7,k32,k9,k11,k13,y15,T,Z.set 0 (⟨x0.Week,x0.Home,x0.Away,true,1,1,1,1⟩:GameS),k22,t24,y27⟩:LeagueS),a2+2),⟨zhB (h1:=hk7) (h2:=by dsimp only;omega) (h3:=by dsimp only;omega) (h4:=hk11) (h5:=hk13.up) (h6:=by dsimp only;omega) (h7:=⟨by dsimp only;rw [List.length_set];omega,zd0 (P:=GamB) hgz.2 ⟨(hgz.2 x0 (Ab hx0)).week,uD,uD⟩⟩) (h8:=by dsimp only;omega) (h9:=htr) (h10:=hst) (h11:=htt),uD⟩,trivial,uK,uP⟩
         ·refine gz2 ?_;exact ⟨((⟨k7,k32,k9,k11,k13,y15,T,Z,k22,t24,y27⟩:LeagueS),a2+2),⟨zhB (h1:=hk7) (h2:=by dsimp only;omega) (h3:=by dsimp only;omega) (h4:=hk11) (h5:=hk13.up) (h6:=by dsimp only;omega) (h7:=hgz) (h8:=by dsimp only;omega) (h9:=htr) (h10:=hst) (h11:=htt),uD⟩,trivial,uK,uP⟩
     ·refine gz1 ?_;exact ⟨((⟨k7,k32,k9,k11,k13,y15,T,Z,k22,t24,y27⟩:LeagueS),a2+1),⟨zhB (h1:=hk7) (h2:=by dsimp only;omega) (h3:=by dsimp only;omega) (h4:=hk11) (h5:=hk13.up) (h6:=by dsimp only;omega) (h7:=hgz) (h8:=by dsimp only;omega) (h9:=htr) (h10:=hst) (h11:=htt),uD⟩,trivial,uK,uP⟩
    ·intro q5 hq5
     obtain ⟨g5,a5⟩:=q5;obtain ⟨hg5,ha5⟩:=hq5;dsimp only at hg5 ha5;refine zf (zgx (i:=3) (k:=2) (j:=10) rfl rfl rfl) ?_;refine zf (Ghost.perm (M':=[.cells b2 zq1,St b l a5,.cells b3 (zb (zd1 g5))]) uP) ?_;refine gz1 ?_;refine de rfl (zgQ (i:=2) (h:=zd1 g5) za9 rfl rfl rfl rfl rfl ?_)
     refine de0 (zo (h:=zd1 g5) za9 rfl rfl rfl rfl rfl ?_)
     refine gz2 ?_;exact ⟨_,_,(zp 2 rfl).trans ((Ghost.perm (List.Perm.swap _ _ _)).trans Ghost.drop),[_],_,⟨⟨_,_,_,_,_,rfl,za9,.inr ⟨rfl,rfl,rfl⟩⟩,trivial⟩,Weak.refl _,g5,a5,rfl,hg5,ha5,rfl⟩
end
section
open Go.HL
set_option linter.unusedSimpArgs false
end
section
open Go.Proofs.Tryz
open Go.HL
theorem zis [Tracks] {A X C:List MvS} {ia ib:Int} {n b off cap:Nat} {fid:FuncId} {caps:List HVal} {c:MvS->MvS->Int} (hca:Callable prog fid) (hp: ∀x y,ConP prog fid ([zck x,zck y]++caps) (.int .i64 (c x y))) (hn:A.length+X.length+C.length=n) (hia:ia=(A.length:Int)) (hib:ib=(A.length:Int)+X.length) (hl:n<=1000000):Con prog 143 [.raw (.slice (some ⟨b,off,none⟩) n cap),.int .i64 ia,.int .i64 ib,.fn (.func fid) [] caps] [.arr (.slice (some ⟨b,off,none⟩) n cap) 4 ((A++X++C).map zck)] (fun x M'=>x= .tup []/\M'=[.arr (.slice (some ⟨b,off,none⟩) n cap) 4 ((A++zag c X++C).map zck)]):=by
 refine uOb func143 ntmps143 ?_;refine gz6 ?_;refine uV1 [8,2,12,41] (fun (k:Nat)=>[(8,.int .i64 ((A.length+k:Nat):Int))]) (fun (k:Nat)=>[.arr (.slice (some ⟨b,off,none⟩) n cap) 4 ((A++(zag c (X.take k)++X.drop k)++C).map zck)]) (fun (k:Nat)=>1<=k) (fun (k:Nat)=>X.length-k) (1) ?_ ?_ ?_ ?_;exact Ae _;exact ⟨zL uO,trivial⟩;exact zq (by rw [zi8])
 intro k hk
 refine gz6 ?_;refine uCo (fun h1=> ?_) fun h2=> ?_
 obtain ⟨x,hx⟩: ∃x,X[k]? =some x:=⟨_,Aa uO⟩
 refine gz9 ?_;refine uV2 [9,1,18,35] (fun (D:List MvS) (B:List MvS)=>[(9,.int .i64 ((A.length+D.length:Nat):Int))]) (fun (D:List MvS) (B:List MvS)=>[.arr (.slice (some ⟨b,off,none⟩) n cap) 4 (((A++D)++x::(B++X.drop (k+1)++C)).map zck)]) (fun (D:List MvS) (B:List MvS)=>D.length+B.length=k/\zcv c x (zag c (X.take k))=zcv c x D++B) (fun (D:List MvS) (B:List MvS)=>D.length) (zag c (X.take k)) ([]) ?_ ?_ ?_ ?_;exact ⟨by simp [zbi];omega,by simp⟩;exact ⟨zL (by simp [zbi];omega),trivial⟩;exact zq (by rw [zg hx];simp)
 intro D B hinv
 obtain ⟨hA,hB⟩:=hinv;have hlA:D.length<X.length:=by omega
 refine gz1 ?_;refine zbw (fun M=>M=[.arr (.slice (some ⟨b,off,none⟩) n cap) 4 (((A++D)++x::(B++X.drop (k+1)++C)).map zck)]) [8,13] mixed ?_;refine gz7 ?_;refine ahg 7 rfl rfl (by kernel_rfl) (by kernel_rfl) rfl (fun hc=>by
  have hq:0<D.length:=by simp at hc;omega
  exact ⟨_,OpenTo.upd (t:=24) rfl (hc) (OpenTo.upd (t:=23) rfl (hc) (OpenTo.refl _)),zt (j:=(A++D).length) zbA zu rfl rfl (by simp) uSo⟩) ?_
 refine znS 8 rfl rfl (by kernel_rfl) (by kernel_rfl) (by simp) rfl rfl (fun hc=>⟨_,OpenTo.upd (t:=25) rfl (hc) (OpenTo.refl _),fun M hM=>by
  subst hM;exact zR (i:=0) (j:=(A++D).length) zu rfl rfl rfl zeQ rfl rfl rfl ⟨rfl,rfl⟩
  ⟩) ?_
 refine gz2 ?_;refine ahg 11 rfl rfl (by kernel_rfl) (by kernel_rfl) rfl (fun hc=>by
  have hq:0<D.length:=by simp at hc;omega
  exact ⟨_,OpenTo.upd (t:=28) rfl (hc) (OpenTo.refl _),zeC rfl rfl uO uO⟩) ?_
 refine ahg 12 rfl rfl (by kernel_rfl) (by kernel_rfl) rfl (fun hc=>by
  have hq:0<D.length:=by simp at hc;omega
  exact ⟨_,OpenTo.upd (t:=29) rfl (hc) (OpenTo.upd (t:=27) rfl (hc) (OpenTo.refl _)),zt (j:=(A++D).length-1) zbA zu rfl rfl uSo uSo⟩) ?_
 refine znS 13 rfl rfl (by kernel_rfl) (by kernel_rfl) (by simp) rfl rfl (fun hc=>⟨_,OpenTo.upd (t:=30) rfl (hc) (OpenTo.refl _),fun M hM=>by
  have hq:0<D.length:=by simp at hc;omega
  subst hM;exact zR (i:=0) (j:=(A++D).length-1) zu rfl rfl rfl (zfR uSo) rfl rfl rfl ⟨rfl,rfl⟩
  ⟩) ?_
 refine uGy 14 rfl rfl (fun hc=>zan hca rfl rfl (WeakL.refl _) (hp _ _)) ?_;refine gz3 ?_;refine uCo (fun h3=> ?_) fun h4=> ?_
 obtain ⟨hA0,hcx⟩:=h3;obtain ⟨D1,y,rfl⟩:=zlY (A:=D) uO;rw [zqt] at hcx;have hD1:(D1++[y]).length=D1.length+1:=by simp
 refine gz4 ?_;refine zaX (fun M=>M=[.arr (.slice (some ⟨b,off,none⟩) n cap) 4 (((A++(D1++[y]))++x::(B++X.drop (k+1)++C)).map zck)]) [9,13] mixed ?_;refine gz8 ?_;refine uB 8 rfl (zt (j:=(A++(D1++[y])).length-1) zbA zu rfl rfl uSo uSo) ?_;refine uM 9 rfl rfl (uW (zR (i:=0) (j:=(A++(D1++[y])).length-1) zu rfl rfl rfl (zke) rfl rfl rfl ⟨rfl,rfl⟩)) ?_;refine gz2 ?_;refine uB 12 rfl (zt (j:=(A++(D1++[y])).length) zbA zu rfl rfl (by simp) uSo) ?_;refine uM 13 rfl rfl (uW (zR (i:=0) (j:=(A++(D1++[y])).length) zu rfl rfl rfl zeQ rfl rfl rfl ⟨rfl,rfl⟩)) ?_;refine uB 14 rfl (zt (j:=(A++(D1++[y])).length) zbA zu rfl rfl (by simp) uSo) ?_;refine uF 15 ?_;refine zI (zaP (i:=0) (j:=(A++(D1++[y])).length) (y:=x) (y':=y) zu rfl rfl rfl rfl zeQ rfl rfl rfl ?_)
 refine ⟨uE,?_⟩
 refine uB 16 rfl (zt (j:=(A++(D1++[y])).length-1) zbA zu rfl rfl uSo uSo) ?_;refine uF 17 ?_;refine zI (zaP (i:=0) (j:=(A++(D1++[y])).length-1) (y:=y) (y':=x) zu rfl rfl rfl rfl (by rw [A2 (by simp)];exact zke) rfl rfl rfl ?_)
 refine ⟨uE,?_⟩
 refine gz8 ?_;exact ⟨D1,y::B,⟨by simp at hA⊢;omega,zmI hB hcx⟩,uD,⟨zL uO,trivial⟩,uK,zq (by rw [<-AT,zmO];simp)⟩;have hins:=zmH (l:=X) (k:=k) hx hB (by intro h0;have h9:=h4 uO;rw [zlx h0] at h9;omega);refine gz2 ?_;refine zJ ?_;refine gz8 ?_;exact ⟨k+1,by omega,uD,⟨zL uO,trivial⟩,uK,zq (by rw [zrA hins])⟩;have hend:zag c (X.take k)++X.drop k=zag c X:=by rw [Bl uO,zD uO];simp
 refine gz2 ?_;refine zn ?_;refine gz1 ?_;exact zW rfl ⟨rfl,by rw [hend]⟩
theorem zmd [Tracks] {l:List MvS} {n0:Int} {n b off cap:Nat} {fid:FuncId} {caps:List HVal} {c:MvS->MvS->Int} (hca:Callable prog fid) (hp: ∀x y,ConP prog fid ([zck x,zck y]++caps) (.int .i64 (c x y))) (hc:Cmp c fun _=>True) (hn:l.length=n) (hn0:n0=(n:Int)) (hl:n<=20):Con prog 73 [.raw (.slice (some ⟨b,off,none⟩) n cap),.int .i64 n0,.fn (.func fid) [] caps] [.arr (.slice (some ⟨b,off,none⟩) n cap) 4 ((l).map zck)] (fun x M'=> ∃Z:List MvS,x= .tup []/\(Z.Perm l/\Srt c Z)/\M'=[.arr (.slice (some ⟨b,off,none⟩) n cap) 4 ((Z).map zck)]):=by
 refine uOb func73 ntmps73 ?_;refine zat ?_;refine uV3 [7,2,11,12] (fun (a0:Nat) (k:Nat) (Z:List MvS)=>[(7,.int .i64 (a0:Int)),(8,.int .i64 ((a0+20:Nat):Int))]) (fun (a0:Nat) (k:Nat) (Z:List MvS)=>[.arr (.slice (some ⟨b,off,none⟩) n cap) 4 ((Z++l.drop a0).map zck)]) (fun (a0:Nat) (k:Nat) (Z:List MvS)=>a0=20*k/\a0<=n/\Blk c 20 Z/\Z.length=a0/\Z.Perm (l.take a0)) (fun (a0:Nat) (k:Nat) (Z:List MvS)=>n-a0) (0) (0) ([]) ?_ ?_ ?_ ?_
 ·exact ⟨rfl,Ad _,Blk.nil,rfl,by simp⟩
 ·exact ⟨rfl,rfl,trivial⟩
 ·exact zq (by simp)
 ·intro a0 k Z hinv
  obtain ⟨ha0,ha1,hZ,hZl,hZp⟩:=hinv;refine gz6 ?_;refine uCo (fun h1=> ?_) fun h2=> ?_
  ·refine gz3 ?_;refine zf (zbx (M':=[.arr (.slice (some ⟨b,off,none⟩) n cap) 4 ((Z++(l.drop a0).take 20++l.drop (a0+20)).map zck)]) (by rw [AT Z,<-win])) ?_;refine gz5 ?_;refine de rfl (uCx 0 zr5 rfl rfl (zis (A:=Z) (X:=((l.drop a0).take 20)) (C:=(l.drop (a0+20))) (n:=n) hca hp (by first|omega|(simp;omega)) uO (by first|omega|(simp;omega)) uO) ?_)
   rintro _ _ ⟨rfl,rfl⟩;refine zdz ?_;exact ⟨a0+20,k+1,Z++zag c ((l.drop a0).take 20),⟨by omega,by omega,hZ.add (k:=k) uO (ziy hc _) (by rw [zbi,AD];omega),by rw [AA,zbi,AD,Bb];omega,by rw [zpb];exact hZp.append (zbC c _)⟩,uD,⟨zL uO,zL uO,trivial⟩,uK,Ac _⟩
  ·refine gz2 ?_;refine zcn ?_;refine gz2 ?_;refine zf (zbx (M':=[.arr (.slice (some ⟨b,off,none⟩) n cap) 4 ((Z++l.drop a0++[]).map zck)]) (by simp)) ?_;refine gz5 ?_;refine de rfl (uCx 0 zr5 rfl rfl (zis (A:=Z) (X:=(l.drop a0)) (C:=[]) (n:=n) hca hp (by first|omega|(simp;omega)) uO (by first|omega|(simp;omega)) uO) ?_)
   rintro _ _ ⟨rfl,rfl⟩;refine gz2 ?_;refine uV2 [6,4,28,35] (fun (bs:Nat) (D:List MvS)=>[(6,.int .i64 (bs:Int))]) (fun (bs:Nat) (D:List MvS)=>[.arr (.slice (some ⟨b,off,none⟩) n cap) 4 ((D).map zck)]) (fun (bs:Nat) (D:List MvS)=>20<=bs/\bs<=2*n+20/\Blk c bs D/\D.Perm l) (fun (bs:Nat) (D:List MvS)=>n-bs) (20) (Z++zag c (l.drop a0)) ?_ ?_ ?_ ?_
   ·refine ⟨Ae _,by omega,hZ.add (k:=k) uO (ziy hc _) (by rw [zbi,Bb];omega),?_⟩
    have:=hZp.append (zbC c (l.drop a0))
    rwa [Bd] at this
   ·exact ⟨rfl,trivial⟩
   ·exact zq (by simp)
   ·intro bs D hinv
    obtain ⟨hb1,hb2,hD,hDp⟩:=hinv;have hDl:D.length=n:=by rw [hDp.length_eq];exact hn
    refine gz6 ?_;refine zaF rfl (fun h3=> ?_) (fun h3=> ?_)
    ·exfalso
     try simp at h3
     all_goals omega
    ·try simp at h3
     refine gz2 ?_;refine zJ ?_;refine gz1 ?_;have hDs:=hD.all uO;exact zW rfl ⟨D,rfl,⟨hDp,hDs⟩,rfl⟩
theorem zmX [Tracks] {v:Value} {fid:FuncId} {caps:List HVal}:Con prog 143 [.raw v,.int .i64 0,.int .i64 0,.fn (.func fid) [] caps] [.arr v 4 []] (fun x M'=>x= .tup []/\M'=[.arr v 4 []]):=by
 refine uOb func143 ntmps143 ?_;refine gz6 ?_;refine uU1 [8,2,12,41] (fun (u:Unit)=>[(8,.int .i64 1)]) (fun (u:Unit)=>[.arr v 4 []]) (fun (u:Unit)=>True) (fun (u:Unit)=>0) (()) ?_ ?_
 ·trivial
 ·intro u hu
  refine gz6 ?_;refine zaF rfl (fun h1=> ?_) (fun h1=> ?_)
  ·exfalso
   try simp at h1
   all_goals omega
  ·try simp at h1
   refine gz2 ?_;refine zn ?_;refine gz1 ?_;exact zW rfl ⟨rfl,rfl⟩
theorem zlc [Tracks] {v:Value} {fid:FuncId} {caps:List HVal}:Con prog 73 [.raw v,.int .i64 0,.fn (.func fid) [] caps] [.arr v 4 []] (fun x M'=>x= .tup []/\M'=[.arr v 4 []]):=by
 refine uOb func73 ntmps73 ?_;refine zat ?_;refine uU1 [7,2,11,12] (fun (u:Unit)=>[(7,.int .i64 0),(8,.int .i64 20)]) (fun (u:Unit)=>[.arr v 4 []]) (fun (u:Unit)=>True) (fun (u:Unit)=>0) (()) ?_ ?_
 ·trivial
 ·intro u hu
  refine gz6 ?_;refine zaF rfl (fun h1=> ?_) (fun h1=> ?_)
  ·exfalso
   try simp at h1
   all_goals omega
  ·try simp at h1
   refine gz2 ?_;refine zn ?_;refine gz7 ?_;refine de rfl (uCx 0 zr5 rfl rfl zmX ?_)
   rintro _ _ ⟨rfl,rfl⟩;refine gz2 ?_;refine uU1 [6,4,28,35] (fun (u:Unit)=>[(6,.int .i64 20)]) (fun (u:Unit)=>[.arr v 4 []]) (fun (u:Unit)=>True) (fun (u:Unit)=>0) (()) ?_ ?_
   ·trivial
   ·intro u hu
    refine gz6 ?_;refine zaF rfl (fun h2=> ?_) (fun h2=> ?_)
    ·exfalso
     try simp at h2
     all_goals omega
    ·try simp at h2
     refine gz2 ?_;refine zn ?_;refine gz1 ?_;exact zW rfl ⟨rfl,rfl⟩
theorem zkK [Tracks] {fid:FuncId} {caps:List HVal}:Con prog 28 [.raw (.slice none 0 0),.fn (.func fid) [] caps] [.arr (.slice none 0 0) 4 []] (fun x M'=>x= .tup []/\M'=[.arr (.slice none 0 0) 4 []]):=by
 refine uOb func28 ntmps28 ?_;refine gz3 ?_;refine dq (zd4 zbA rfl) ?_;refine gz1 ?_;refine de rfl (uCx 0 ca73 rfl rfl zlc ?_)
 rintro _ _ ⟨rfl,rfl⟩;refine gz1 ?_;exact zW rfl ⟨rfl,rfl⟩
theorem zkL [Tracks] {l:List MvS} {n b off cap:Nat} {fid:FuncId} {caps:List HVal} {c:MvS->MvS->Int} (hca:Callable prog fid) (hp: ∀x y,ConP prog fid ([zck x,zck y]++caps) (.int .i64 (c x y))) (hc:Cmp c fun _=>True) (hn:l.length=n) (hl:n<=20):Con prog 28 [.raw (.slice (some ⟨b,off,none⟩) n cap),.fn (.func fid) [] caps] [.arr (.slice (some ⟨b,off,none⟩) n cap) 4 ((l).map zck)] (fun x M'=> ∃Z:List MvS,x= .tup []/\(Z.Perm l/\Srt c Z)/\M'=[.arr (.slice (some ⟨b,off,none⟩) n cap) 4 ((Z).map zck)]):=by
 refine uOb func28 ntmps28 ?_;refine gz3 ?_;refine dq (zd4 zbA rfl) ?_;refine gz1 ?_;refine de rfl (uCx 0 ca73 rfl rfl (zmd hca hp hc hn rfl hl) ?_)
 rintro _ _ ⟨Z,rfl,hz,rfl⟩;refine gz1 ?_;exact zW rfl ⟨Z,rfl,hz,rfl⟩
theorem zlb [Tracks] {l:List MvS} {v:Value} {fid:FuncId} {caps:List HVal} {c:MvS->MvS->Int} (hca:Callable prog fid) (hp: ∀x y,ConP prog fid ([zck x,zck y]++caps) (.int .i64 (c x y))) (hc:Cmp c fun _=>True) (hl:l.length<=20):Con prog 28 [.raw v,.fn (.func fid) [] caps] [.arr v 4 (l.map zck)] fun x M'=> ∃Z:List MvS,x= .tup []/\(Z.Perm l/\Srt c Z)/\M'=[.arr v 4 (Z.map zck)]:=
 zqg (fun h1 h2=>by
  have h3:l=[]:=by first|exact List.map_eq_nil_iff.1 h2|simpa using h2
  subst h1 h3;exact zkK.mono fun x M' ⟨e1,e2⟩=>⟨[],e1,⟨Ac _,Srt.nil⟩,e2⟩)
  fun b off cap h1=>by
   rw [Ah] at h1;subst h1;exact zkL hca hp hc rfl hl
theorem zm5 [Tracks] {l:List MoveS} (hb: ∀x∈l,MovB x) (hl:l.length<=20) {v:Value}:
 Con prog 28 [.raw v,.fn (.func 29) [] []] [.arr v 4 (l.map zci)] fun x M'=> ∃l':List MoveS,x= .tup []/\l'.Perm l/\M'=[.arr v 4 (l'.map zci)]:=by
 have h:=zlb (l:=l.attachWith _ hb) (v:=v) (c:=zu8) (caps:=[]) ca29 (fun x y=>zfw (a:=x.1) (b:=y.1) x.2 y.2) zs0 (by simpa using hl);rw [show ((l.attachWith _ hb).map zck)=l.map zci from zmW hb zci] at h;refine h.mono fun x M' ⟨l',e1,⟨hp,hw⟩,e2⟩=>⟨l'.map Subtype.val,e1,?_,?_⟩
 have h9:=hp.map Subtype.val;rw [zjO hb] at h9;exact h9;rw [e2,AX];rfl
end
section
open Go.Proofs.Tryz
open Go.HL
theorem zhI [Tracks] {b:Nat} {l:List Int} {a:Nat} (ha:a<=700000):Con prog 25 [pAt b] [St b l a] (fun x M'=> ∃k a',x=zcc k/\GoodMds k/\a'<=a+100/\M'=[St b l a']):=by
 refine uOb func25 ntmps25 ?_;refine gz6 ?_;refine zf (zM 7) ?_;refine gz2 ?_;refine dq (za (hs:=[_,_,_]) zj ty9 rfl rfl (by decide) (by decide) rfl) ?_;refine dq (zax (f:=HVal.str) (l:=mp3) zj rfl) ?_;refine gz3 ?_;refine uV2 [3,1,5,2,8,2,13,36] (fun (k:Nat) (q:GL MendS)=>[(13,.int .i64 k),(3,.raw q.u)]) (fun (k:Nat) (q:GL MendS)=>[St b l q.a,.arr q.u 7 (q.out.map zbO)]) (fun (k:Nat) (q:GL MendS)=>k<=mp3.length/\(GLok zfE (8*k) (a+24*k) q)) (fun (k:Nat) (q:GL MendS)=>mp3.length-k) (0) (⟨.slice none 0 0,[],a⟩) ?_ ?_ ?_ ?_;exact ⟨by decide,⟨by simp,by simp,uD⟩⟩;exact ⟨rfl,rfl,trivial⟩;exact uP
 intro k q hinv
 obtain ⟨hk,hq⟩:=hinv;have hk3:mp3.length=3:=rfl;obtain ⟨u,out,a2⟩:=q;obtain ⟨g1,g2,g3⟩:=id hq;dsimp only at g1 g2 g3;refine gz4 ?_;refine uCo (fun h1=> ?_) fun h2=> ?_
 obtain ⟨x,hx⟩: ∃x,mp3[k]? =some x:=⟨_,Aa h1⟩
 have hdx:=zg hx;refine gz5 ?_;refine dq (zC (f:=HVal.str) (l:=mp3) (j:=k) (a:=x) zj ty9 rfl rfl rfl hx) ?_;refine gz7 ?_;refine uV2 [3,1,6,1,8,2,17,31] (fun (w:Nat) (q2:GL MendS)=>[(6,.int .i64 ((w:Int)+1)),(3,.raw q2.u)]) (fun (w:Nat) (q2:GL MendS)=>[St b l q2.a,.arr q2.u 7 (q2.out.map zbO)]) (fun (w:Nat) (q2:GL MendS)=>w<=2/\GLok zfE (8*k+4*w) (a+24*k+12*w) q2) (fun (w:Nat) (q2:GL MendS)=>2-w) (0) (⟨u,out,a2⟩) ?_ ?_ ?_ ?_;exact ⟨by omega,hq.mono uO uO⟩;exact ⟨zL uO,rfl,trivial⟩;exact uP
 intro w q2 hinv
 obtain ⟨hw,hq2⟩:=hinv;obtain ⟨u,out,a2⟩:=q2;obtain ⟨g1,g2,g3⟩:=id hq2;dsimp only at g1 g2 g3;refine gz5 ?_;refine uCo (fun h3=> ?_) fun h4=> ?_
 refine gz5 ?_;refine dq (za (hs:=[_,_]) zj ty9 rfl rfl (by decide) (by decide) rfl) ?_;refine dq (zax (f:=HVal.str) (l:=ms2) zj rfl) ?_;refine gz3 ?_;refine uV2 [3,1,8,2,23,25] (fun (j:Nat) (q3:GL MendS)=>[(23,.int .i64 j),(3,.raw q3.u)]) (fun (j:Nat) (q3:GL MendS)=>[St b l q3.a,.arr q3.u 7 (q3.out.map zbO)]) (fun (j:Nat) (q3:GL MendS)=>j<=ms2.length/\(GLok zfE (8*k+4*w+2*j) (a+24*k+12*w+6*j) q3)) (fun (j:Nat) (q3:GL MendS)=>ms2.length-j) (0) (⟨u,out,a2⟩) ?_ ?_ ?_ ?_;exact ⟨by decide,hq2.mono uO uO⟩;exact ⟨rfl,rfl,trivial⟩;exact uP
 intro j q3 hinv
 obtain ⟨hj,hq3⟩:=hinv;have hj2:ms2.length=2:=rfl;obtain ⟨u,out,a2⟩:=q3;obtain ⟨g1,g2,g3⟩:=id hq3;dsimp only at g1 g2 g3;refine gz4 ?_;refine uCo (fun h5=> ?_) fun h6=> ?_
 obtain ⟨z,hz⟩: ∃z,ms2[j]? =some z:=⟨_,Aa h5⟩
 have hdz:=zg hz;refine gz5 ?_;refine dq (zC (f:=HVal.str) (l:=ms2) (j:=j) (a:=z) zj ty9 rfl rfl rfl hz) ?_;refine gz7 ?_;refine uV2 [3,1,9,1,27,20] (fun (v:Nat) (q4:GL MendS)=>[(9,.int .i64 ((v:Int)+1)),(3,.raw q4.u)]) (fun (v:Nat) (q4:GL MendS)=>[St b l q4.a,.arr q4.u 7 (q4.out.map zbO)]) (fun (v:Nat) (q4:GL MendS)=>v<=2/\GLok zfE (8*k+4*w+2*j+v) (a+24*k+12*w+6*j+3*v) q4) (fun (v:Nat) (q4:GL MendS)=>2-v) (0) (⟨u,out,a2⟩) ?_ ?_ ?_ ?_;exact ⟨by omega,hq3.mono uO uO⟩;exact ⟨zL uO,rfl,trivial⟩;exact uP
 intro v q4 hinv
 obtain ⟨hv,hq4⟩:=hinv;obtain ⟨u,out,a2⟩:=q4;obtain ⟨g1,g2,g3⟩:=id hq4;dsimp only at g1 g2 g3;refine gz5 ?_;refine uCo (fun h7=> ?_) fun h8=> ?_
 refine gz6 ?_;refine de rfl (uCx 0 zdl rfl rfl (zy uS uS) ?_)
 rintro _ _ ⟨y32,rfl,rfl⟩;refine gz1 ?_;refine uCo (fun h9=> ?_) fun h10=> ?_
 refine gz6 ?_;refine dq (za (hs:=[_,_,_]) zV ty3 rfl rfl (by decide) (by decide) rfl) ?_;refine de rfl (uCx 0 zaE rfl rfl (zd (L:=[_,_,_]) uS uS uS) ?_)
 rintro _ _ ⟨y39,rfl,hy39,rfl⟩;refine gz1 ?_;refine dq (za (hs:=[_,_,_]) zV ty3 rfl rfl (by decide) (by decide) rfl) ?_;refine de rfl (uCx 0 zaE rfl rfl (zd (L:=[_,_,_]) uS uS uS) ?_)
 rintro _ _ ⟨y42,rfl,hy42,rfl⟩;refine gz1 ?_;refine dq (zH (cs:=[_,_,_,_,_,_,_]) zf2 zy2 rfl) ?_;refine dq (za (hs:=[_]) zkt zf2 rfl rfl (by decide) (by decide) rfl) ?_;refine de rfl (zP (i:=1) zkt zf2 rfl rfl rfl rfl rfl (by simp [zas,zb,zap,zaM]) uSo fun v46=> ?_)
 refine gz9 ?_;exact ⟨v+1,⟨v46,out++[(⟨x,(w:Int)+1,z,y39,y42,(v:Int)+1,[98,111,115,115]⟩:MendS)],a2+1+1+1⟩,⟨by omega,hq4.add (x:=(⟨x,(w:Int)+1,z,y39,y42,(v:Int)+1,[98,111,115,115]⟩:MendS)) ⟨zw5 x (Ab hx),zw6 z (Ab hz),by unfold Sh;simp⟩ uO⟩,uD,⟨zL uO,rfl,trivial⟩,uK,zq (by dsimp only;rw [AB];rfl)⟩;refine gz8 ?_;exact ⟨v+1,⟨u,out,a2+1⟩,⟨by omega,hq4.same uO⟩,uD,⟨zL uO,rfl,trivial⟩,uK,uP⟩;refine gz2 ?_;refine zJ ?_;refine gz7 ?_;exact ⟨j+1,⟨u,out,a2⟩,⟨by omega,hq4.mono uO uO⟩,uD,⟨rfl,rfl,trivial⟩,uK,uP⟩;have hnj:ms2.length<=j:=by omega
 obtain rfl:j=ms2.length:=by omega
 refine gz2 ?_;refine zJ ?_;refine gz8 ?_;exact ⟨w+1,⟨u,out,a2⟩,⟨by omega,hq3.mono uO uO⟩,uD,⟨zL uO,rfl,trivial⟩,uK,uP⟩;refine gz2 ?_;refine zJ ?_;refine gz7 ?_;exact ⟨k+1,⟨u,out,a2⟩,⟨by omega,hq2.mono uO uO⟩,uD,⟨rfl,rfl,trivial⟩,uK,uP⟩;have hnk:mp3.length<=k:=by omega
 obtain rfl:k=mp3.length:=by omega
 refine gz2 ?_;refine zJ ?_;refine gz2 ?_;refine uVj [10,1,49,59] (fun (q5:List MendS×Nat)=>[]) (fun (q5:List MendS×Nat)=>[St b l q5.2,.arr u 7 (q5.1.map zbO)]) (fun (q5:List MendS×Nat)=>q5.1.length<=24/\(∀x∈q5.1,zfE x)/\q5.2<=a+100) ?_ ?_
 skip
 refine gz2 ?_;refine de rfl (za2 (i:=1) zkt rfl rfl ?_)
 refine gz3 ?_;refine dgx (fun x M'=> ∃(y:Bool) (a3:Nat),x= .bool y/\a3<=a2+1/\M'=[St b l a3,.arr u 7 (out.map zbO)]) rfl rfl (fun hc=>⟨_,false,a2,rfl,by omega,rfl⟩) (fun hc=>⟨_,OpenTo.upd (t:=53) rfl (hc) (OpenTo.refl _),uCx 0 zdl rfl rfl (zy (a:=a2) uO uO) (fun h M' hh=>by
  obtain ⟨y,h1,h2⟩:=hh;exact ⟨y,a2+1,h1,by omega,by rw [h2];rfl⟩)⟩) ?_
 rintro _ _ ⟨y,a3,rfl,ha3,rfl⟩;refine gz2 ?_;refine uCo (fun h11=> ?_) fun h12=> ?_
 have ho0:0<out.length:=by simp_all
 refine zcJ (i:=1) rfl (fun h0 he=> ?_) (fun ob off cap hv hcap=> ?_)
 exfalso;have:=congrArg List.length he;simp at this;subst this;simp at ho0
 subst hv;refine gz4 ?_;refine de rfl (za2 (i:=1) zkt rfl rfl ?_)
 refine de rfl (uCx 0 zg3 rfl rfl (zU uS uS) ?_)
 rintro _ _ ⟨y60,rfl,hy60,rfl⟩;refine dq (zt (j:=y60) zkt zf2 rfl rfl rfl uSo) ?_;refine gz2 ?_;obtain ⟨x,hx⟩: ∃x,out[y60]? =some x:=⟨_,Aa uO⟩
 refine zaX (fun M=> ∃i:Nat,M[i]? =some (.arr (.slice (some ⟨ob,off,none⟩) (out.map zbO).length cap) 7 (out.map zbO))) [9,16,23,30] mixed ?_;refine gz9 ?_;refine uM 9 rfl ⟨1,rfl⟩ (fun M hM=>by obtain ⟨i,hi⟩:=hM;exact zak (i:=i) (j:=y60) 0 ty9 rfl uO hi hx rfl rfl ⟨rfl,rfl⟩) ?_;refine uB 10 rfl (za (hs:=[_,_,_]) zj ty9 rfl rfl (by decide) (by decide) rfl) ?_;refine uA 12 ?_;refine gz3 ?_;refine uM 16 rfl ⟨1,rfl⟩ (fun M hM=>by obtain ⟨i,hi⟩:=hM;exact zak (i:=i) (j:=y60) 1 ty3 rfl uO hi hx rfl rfl ⟨rfl,rfl⟩) ?_;refine uB 17 rfl (za (hs:=[_,_]) zV ty3 rfl rfl (by decide) (by decide) rfl) ?_;refine uA 19 ?_;refine gz3 ?_;refine uM 23 rfl ⟨1,rfl⟩ (fun M hM=>by obtain ⟨i,hi⟩:=hM;exact zak (i:=i) (j:=y60) 3 ty3 rfl uO hi hx rfl rfl ⟨rfl,rfl⟩) ?_;refine uB 24 rfl (za (hs:=[_,_]) zV ty3 rfl rfl (by decide) (by decide) rfl) ?_;refine uA 26 ?_;refine gz3 ?_;refine uM 30 rfl ⟨1,rfl⟩ (fun M hM=>by obtain ⟨i,hi⟩:=hM;exact zak (i:=i) (j:=y60) 5 ty3 rfl uO hi hx rfl rfl ⟨rfl,rfl⟩) ?_;refine uB 31 rfl (za (hs:=[_,_,_]) zV ty3 rfl rfl (by decide) (by decide) rfl) ?_;refine uA 33 ?_;refine uB 34 rfl (za (hs:=[_,_]) zj ty9 rfl rfl (by decide) (by decide) rfl) ?_;refine uF 11 ?_;refine zm rfl (uCx 0 zby rfl rfl (zh (L:=[_,_,_]) uS uS uS) ?_)
 rintro _ _ ⟨y73,rfl,hy73,rfl⟩;refine ⟨uE,?_⟩
 refine uF 18 ?_;refine zm rfl (uCx 0 zaE rfl rfl (zd (L:=[_,_]) uS uS uS) ?_)
 rintro _ _ ⟨y80,rfl,hy80,rfl⟩;refine ⟨uE,?_⟩
 refine uF 25 ?_;refine zm rfl (uCx 0 zaE rfl rfl (zd (L:=[_,_]) uS uS uS) ?_)
 rintro _ _ ⟨y87,rfl,hy87,rfl⟩;refine ⟨uE,?_⟩
 refine uF 32 ?_;refine zm rfl (uCx 0 zaE rfl rfl (zd (L:=[_,_,_]) uS uS uS) ?_)
 rintro _ _ ⟨y94,rfl,hy94,rfl⟩;refine ⟨uE,?_⟩
 refine uF 35 ?_;refine zm rfl (uCx 0 zby rfl rfl (zh (L:=[_,_]) uS uS uS) ?_)
 rintro _ _ ⟨y97,rfl,hy97,rfl⟩;refine ⟨uE,?_⟩
 refine gz2 ?_;refine uF 38 ?_;refine zI (zO (i:=1) (j:=y60) (f:=0) (y:=zbO x) (y':=zbO ⟨y73,x.Week,x.Stat,x.Count,x.At,x.Version,x.By⟩) ty9 rfl uO rfl rfl (zaY hx) rfl rfl (by simp [zb]) rfl ?_)
 refine ⟨uE,?_⟩
 refine gz2 ?_;refine uF 41 ?_;refine zI (zO (i:=1) (j:=y60) (f:=1) (y:=zbO ⟨y73,x.Week,x.Stat,x.Count,x.At,x.Version,x.By⟩) (y':=zbO ⟨y73,y80,x.Stat,x.Count,x.At,x.Version,x.By⟩) ty3 rfl uO rfl rfl (zay (zaY hx)) rfl rfl (by simp [zb]) rfl ?_)
 refine ⟨uE,?_⟩
 refine gz2 ?_;refine uF 44 ?_;refine zI (zO (i:=1) (j:=y60) (f:=3) (y:=zbO ⟨y73,y80,x.Stat,x.Count,x.At,x.Version,x.By⟩) (y':=zbO ⟨y73,y80,x.Stat,y87,x.At,x.Version,x.By⟩) ty3 rfl uO rfl rfl (zay (zay (zaY hx))) rfl rfl (by simp [zb]) rfl ?_)
 refine ⟨uE,?_⟩
 refine gz2 ?_;refine uF 47 ?_;refine zI (zO (i:=1) (j:=y60) (f:=5) (y:=zbO ⟨y73,y80,x.Stat,y87,x.At,x.Version,x.By⟩) (y':=zbO ⟨y73,y80,x.Stat,y87,x.At,y94,x.By⟩) ty3 rfl uO rfl rfl (zay (zay (zay (zaY hx)))) rfl rfl (by simp [zb]) rfl ?_)
 refine ⟨uE,?_⟩
 refine gz2 ?_;refine uF 50 ?_;refine zI (zO (i:=1) (j:=y60) (f:=6) (y:=zbO ⟨y73,y80,x.Stat,y87,x.At,y94,x.By⟩) (y':=zbO ⟨y73,y80,x.Stat,y87,x.At,y94,y97⟩) ty9 rfl uO rfl rfl (zay (zay (zay (zay (zaY hx))))) rfl rfl (by simp [zb]) rfl ?_)
 refine ⟨uE,?_⟩
 refine gz1 ?_;exact ⟨(out.set y60 ⟨y73,y80,x.Stat,y87,x.At,y94,y97⟩,a3+1+1+1+1+1+1),⟨by simp;omega,zd0 (P:=zfE) g2 (by
  have hgx:=g2 x (Ab hx);exact ⟨by simp at hy73;rcases hy73 with rfl|rfl|rfl;exact hgx.1;exact znt;(unfold Sh;simp),hgx.2.1,by simp at hy97;rcases hy97 with rfl|rfl<;>(unfold Sh;simp)⟩),uD⟩,trivial,uK,uP⟩
 refine gz1 ?_;exact ⟨(out,a3),⟨uD,g2,uD⟩,trivial,uK,uP⟩
 intro q5 hq5
 obtain ⟨k1,a4⟩:=q5;dsimp only at hq5;obtain ⟨q1,q2,q3⟩:=hq5;refine gz5 ?_;exact zaa (zaC 2 (i:=1) rfl rfl) rfl ⟨k1,a4,rfl,⟨by omega,q2⟩,by omega,rfl⟩
end
section
open Go.Proofs.Tryz
open Go.HL
theorem zf6 [Tracks] {b:Nat} {l:List Int} {a:Nat} (ha:a<=500000):Con prog 11 [pAt b] [St b l a] (fun x M'=> ∃k a',x=zeb k/\BookG k/\a'<=a+2000/\M'=[St b l a']):=by
 refine zcM func11 rfl ntmps11 rfl rfl ?_;refine gz1 ?_;refine de rfl (zi zb4 rfl fun b2=> ?_)
 refine gz3 ?_;refine de rfl (uCx 1 ca23 rfl rfl (zgH uS) ?_)
 rintro _ _ ⟨g13,a13,rfl,hg13,ha13,rfl⟩;refine gz1 ?_;refine de rfl (uCx 0 ca24 rfl rfl (zib uS) ?_)
 rintro _ _ ⟨p15,a15,rfl,hp15,ha15,rfl⟩;refine gz1 ?_;refine de rfl (uCx 0 ca25 rfl rfl (zhI uS) ?_)
 rintro _ _ ⟨m17,a17,rfl,hm17,ha17,rfl⟩;refine dq (zzd zb4 pl43) ?_;refine de rfl (zi zb4 rfl fun b3=> ?_)
 refine de0 (uY 0 ?_)
 refine zat ?_;refine de rfl (uCx 1 ca5 rfl rfl (zz uS uS uS uS) ?_)
 rintro _ _ ⟨y20,rfl,hy20,rfl⟩;refine gz2 ?_;refine zf (zM 4) ?_;refine gz1 ?_;refine uV3 [5,1,21,24] (fun (n:Nat) (at1:Int) (q:GL MoveS)=>[(21,.int .i64 (n:Int)),(5,.int .i64 at1)]) (fun (n:Nat) (at1:Int) (q:GL MoveS)=>[St b l q.a,.cells b2 zhb,.cells b3 (bkC g13 (.raw q.u) (zbq p15) (zcc m17) (.raw (.slice none 0 0)) (.raw (.slice none 0 0))),.arr q.u 4 (q.out.map zci)]) (fun (n:Nat) (at1:Int) (q:GL MoveS)=>(n:Int)<=y20/\(0<=at1/\at1<=20*n)/\GLok MovB n (a17+1+4*n) q) (fun (n:Nat) (at1:Int) (q:GL MoveS)=>y20.toNat-n) (0) (0) (⟨.slice none 0 0,[],a17+1⟩) ?_ ?_ ?_ ?_
 ·exact ⟨by omega,by omega,⟨by simp,by simp,uD⟩⟩
 ·exact ⟨rfl,rfl,trivial⟩
 ·exact by repeat (first|exact List.Perm.nil|refine zah 0 rfl ?_|refine zah 1 rfl ?_|refine zah 2 rfl ?_|refine zah 3 rfl ?_|refine zah 4 rfl ?_|refine zah 5 rfl ?_|(refine z6 0 rfl ?hq ?_;(case hq=>simp [zam,zb];done))|(refine z6 1 rfl ?hq ?_;(case hq=>simp [zam,zb];done))|(refine z6 2 rfl ?hq ?_;(case hq=>simp [zam,zb];done))|(refine z6 3 rfl ?hq ?_;(case hq=>simp [zam,zb];done))|(refine z6 4 rfl ?hq ?_;(case hq=>simp [zam,zb];done))|(refine z6 5 rfl ?hq ?_;(case hq=>simp [zam,zb];done))|fail)
 ·intro n at1 q hinv
  obtain ⟨hn,hat,hq⟩:=hinv;obtain ⟨u,out,a1⟩:=q;obtain ⟨g1,g2,g3⟩:=id hq;dsimp only at g1 g2 g3;refine gz4 ?_;refine uCo (fun h1=> ?_) fun h2=> ?_
  ·refine gz7 ?_;refine dq (za (hs:=[_,_,_,_]) zV ty3 rfl rfl (by decide) (by decide) rfl) ?_;refine de rfl (uCx 0 zaE rfl rfl (zd (L:=[_,_,_,_]) uS uS uS) ?_)
   rintro _ _ ⟨y26,rfl,hy26,rfl⟩;refine dq (zbb rfl rfl (by simp at hy26;omega) (by simp at hy26;omega)) ?_;refine gz2 ?_;refine zaX (fun M=> ∃i:Nat,M[i]? =some (.cells b3 (bkC g13 (.raw u) (zbq p15) (zcc m17) (.raw (.slice none 0 0)) (.raw (.slice none 0 0))))) [1] mixed ?_;refine gz1 ?_;refine uM 1 rfl ⟨2,rfl⟩ (fun M hM=>by obtain ⟨i,hi⟩:=hM;exact zab (i:=i) (h:= .raw u) zbA rfl hi (.inl ⟨rfl,rfl⟩) ⟨rfl,rfl⟩) ?_;refine gz2 ?_;refine uB 4 rfl (za (hs:=[_,_,_,_,_,_]) zV ty3 rfl rfl (by decide) (by decide) rfl) ?_;refine uA 6 ?_;refine uB 7 rfl (za (hs:=[_,_]) zj ty9 rfl rfl (by decide) (by decide) rfl) ?_;refine uA 9 ?_;refine uB 10 rfl (za (hs:=[_,_,_,_,_]) zj ty9 rfl rfl (by decide) (by decide) rfl) ?_;refine uF 5 ?_;refine zm rfl (uCx 0 zaE rfl rfl (zd (L:=[_,_,_,_,_,_]) uS uS uS) ?_)
   rintro _ _ ⟨y33,rfl,hy33,rfl⟩;refine ⟨uE,?_⟩
   refine uF 8 ?_;refine zm rfl (uCx 0 zby rfl rfl (zh (L:=[_,_]) uS uS uS) ?_)
   rintro _ _ ⟨y36,rfl,hy36,rfl⟩;refine ⟨uE,?_⟩
   refine uF 11 ?_;refine zm rfl (uCx 0 zby rfl rfl (zh (L:=[_,_,_,_,_]) uS uS uS) ?_)
   rintro _ _ ⟨y39,rfl,hy39,rfl⟩;refine ⟨uE,?_⟩
   refine uB 12 rfl (zH (cs:=[_,_,_,_]) zu zyY rfl) ?_;refine uB 13 rfl (za (hs:=[_]) zbA zu rfl rfl (by decide) (by decide) rfl) ?_;refine uF 14 ?_;refine zm rfl (zP (i:=3) zbA zu rfl rfl rfl rfl rfl (by simp [zas,zb]) (by first|omega|(simp;omega)) fun v42=> ?_)
   refine ⟨uE,?_⟩
   refine gz1 ?_;refine uF 16 ?_;refine zI (uY 2 ?_)
   refine ⟨uE,?_⟩
   refine gz7 ?_;exact ⟨n+1,at1+y26,⟨v42,out++[(⟨at1+y26,y33,y36,y39⟩:MoveS)],a1+1+1+1+1⟩,⟨by omega,by simp at hy26;omega,hq.add (x:=(⟨at1+y26,y33,y36,y39⟩:MoveS)) ⟨by simp at hy26;dsimp only;omega,by simp at hy33;dsimp only;omega⟩ uO⟩,uD,⟨rfl,rfl,trivial⟩,uK,uQ⟩
  ·refine gz2 ?_;refine zcn ?_;refine gz4 ?_;refine de rfl (uZ 2 ?_)
   refine de rfl (uCx 3 ca28 rfl rfl (zm5 (l:=out) g2 uO) ?_)
   rintro _ _ ⟨Z,rfl,hzp,rfl⟩;have hzl:=hzp.length_eq;refine gz3 ?_;refine de rfl (uZ 3 ?_)
   refine de rfl (uCx 0 ca30 rfl rfl (zeY (l:=Z) uO) ?_)
   rintro _ _ ⟨u50,rfl,rfl⟩;refine gz1 ?_;refine de0 (uY 3 ?_)
   refine gz1 ?_;have hul:=zpc Z none;have hub: ∀x∈zT none Z,MovB x:=fun x hx=>g2 x (hzp.mem_iff.1 (zly Z none x hx))
   refine zf (Ghost.perm (M':=[St b l a1,.cells b2 zhb,.cells b3 (bkC g13 (.raw u50) (zbq p15) (zcc m17) (.raw (.slice none 0 0)) (.raw (.slice none 0 0))),.arr u50 4 ((zT none Z).map zci)]) uQ) ?_;refine zf (zgx (i:=3) (k:=2) (j:=14) rfl rfl rfl) ?_;refine gz4 ?_;refine de rfl (uZ 2 ?_)
   refine de rfl (uCx 0 ca31 rfl rfl (zgG (a:=a1) (L:=g13.Players) uO (by have:=hg13.pl;omega)) ?_)
   rintro _ _ ⟨k56,a56,rfl,hk56,ha56,rfl⟩;refine gz1 ?_;refine de0 (uY 2 ?_)
   refine gz5 ?_;refine de rfl (uZ 2 ?_)
   refine dq (zax (f:=HVal.str) (l:=g13.Teams) zj rfl) ?_;refine gz2 ?_;refine zf (zM 5) ?_;refine gz1 ?_;refine uV2 [7,4,62,54] (fun (k:Nat) (q:GL ChoiceS)=>[(62,.int .i64 k)]) (fun (k:Nat) (q:GL ChoiceS)=>[St b l q.a,.cells b2 zhb,.cells b3 (bkC g13 (zbz (zT none Z)) (zbq p15) (zcc m17) (zbN k56) (.raw q.u)),.arr q.u 5 (q.out.map zao)]) (fun (k:Nat) (q:GL ChoiceS)=>k<=g13.Teams.length/\(GLok GoodC4 (4*k) (a56+28*k) q)) (fun (k:Nat) (q:GL ChoiceS)=>g13.Teams.length-k) (0) (⟨.slice none 0 0,[],a56⟩) ?_ ?_ ?_ ?_
   ·exact ⟨Ad _,⟨by simp,by simp,uD⟩⟩
   ·exact ⟨rfl,trivial⟩
   ·exact by repeat (first|exact List.Perm.nil|refine zah 0 rfl ?_|refine zah 1 rfl ?_|refine zah 2 rfl ?_|refine zah 3 rfl ?_|refine zah 4 rfl ?_|refine zah 5 rfl ?_|(refine z6 0 rfl ?hq ?_;(case hq=>simp [zam,zb];done))|(refine z6 1 rfl ?hq ?_;(case hq=>simp [zam,zb];done))|(refine z6 2 rfl ?hq ?_;(case hq=>simp [zam,zb];done))|(refine z6 3 rfl ?hq ?_;(case hq=>simp [zam,zb];done))|(refine z6 4 rfl ?hq ?_;(case hq=>simp [zam,zb];done))|(refine z6 5 rfl ?hq ?_;(case hq=>simp [zam,zb];done))|fail)
   ·intro k q hinv
    obtain ⟨hk,hq⟩:=hinv;obtain ⟨u,out,a2⟩:=q;obtain ⟨g1,g2,g3⟩:=id hq;dsimp only at g1 g2 g3;have htm:=hg13.tm;refine gz4 ?_;refine uCo (fun h3=> ?_) fun h4=> ?_
    ·obtain ⟨x,hx⟩: ∃x,g13.Teams[k]? =some x:=⟨_,Aa h3⟩
     have hdx:=zg hx;refine gz5 ?_;refine dq (zC (f:=HVal.str) (l:=g13.Teams) (j:=k) (a:=x) zj ty9 rfl rfl rfl hx) ?_;refine gz7 ?_;refine uV2 [8,3,66,49] (fun (w:Nat) (q2:GL ChoiceS)=>[(8,.int .i64 ((w:Int)+1))]) (fun (w:Nat) (q2:GL ChoiceS)=>[St b l q2.a,.cells b2 zhb,.cells b3 (bkC g13 (zbz (zT none Z)) (zbq p15) (zcc m17) (zbN k56) (.raw q2.u)),.arr q2.u 5 (q2.out.map zao)]) (fun (w:Nat) (q2:GL ChoiceS)=>w<=2/\GLok GoodC4 (4*k+2*w) (a56+28*k+14*w) q2) (fun (w:Nat) (q2:GL ChoiceS)=>2-w) (0) (⟨u,out,a2⟩) ?_ ?_ ?_ ?_
     ·exact ⟨by omega,hq.mono uO uO⟩
     ·exact ⟨zL uO,trivial⟩
     ·exact by repeat (first|exact List.Perm.nil|refine zah 0 rfl ?_|refine zah 1 rfl ?_|refine zah 2 rfl ?_|refine zah 3 rfl ?_|refine zah 4 rfl ?_|refine zah 5 rfl ?_|(refine z6 0 rfl ?hq ?_;(case hq=>simp [zam,zb];done))|(refine z6 1 rfl ?hq ?_;(case hq=>simp [zam,zb];done))|(refine z6 2 rfl ?hq ?_;(case hq=>simp [zam,zb];done))|(refine z6 3 rfl ?hq ?_;(case hq=>simp [zam,zb];done))|(refine z6 4 rfl ?hq ?_;(case hq=>simp [zam,zb];done))|(refine z6 5 rfl ?hq ?_;(case hq=>simp [zam,zb];done))|fail)
     ·intro w q2 hinv
      obtain ⟨hw,hq2⟩:=hinv;obtain ⟨u,out,a2⟩:=q2;obtain ⟨g1,g2,g3⟩:=id hq2;dsimp only at g1 g2 g3;refine gz5 ?_;refine uCo (fun h5=> ?_) fun h6=> ?_
      ·refine gz8 ?_;refine dq (za (hs:=[_,_,_]) zV ty3 rfl rfl (by decide) (by decide) rfl) ?_;refine de rfl (uCx 0 zaE rfl rfl (zd (L:=[_,_,_]) uS uS uS) ?_)
       rintro _ _ ⟨y74,rfl,hy74,rfl⟩;refine gz2 ?_;have hb74:0<=y74/\y74<=604799999:=by simp at hy74;omega
       refine gz2 ?_;refine dq (za (hs:=[_,_,_,_]) zV ty3 rfl rfl (by decide) (by decide) rfl) ?_;refine de rfl (uCx 0 zaE rfl rfl (zd (L:=[_,_,_,_]) uS uS uS) ?_)
       rintro _ _ ⟨y77,rfl,hy77,rfl⟩;refine gz2 ?_;have hb77:0<=y77/\y77<=2:=by simp at hy77;omega
       refine gz1 ?_;refine uV3 [9,2,78,37] (fun (n:Nat) (at2:Int) (q3:GL ChoiceS)=>[(78,.int .i64 (n:Int)),(9,.int .i64 at2)]) (fun (n:Nat) (at2:Int) (q3:GL ChoiceS)=>[St b l q3.a,.cells b2 zhb,.cells b3 (bkC g13 (zbz (zT none Z)) (zbq p15) (zcc m17) (zbN k56) (.raw q3.u)),.arr q3.u 5 (q3.out.map zao)]) (fun (n:Nat) (at2:Int) (q3:GL ChoiceS)=>(n:Int)<=y77/\(0<=at2/\at2<=604800000*((n:Int)+1))/\GLok GoodC4 (4*k+2*w+n) (a56+28*k+14*w+2+6*n) q3) (fun (n:Nat) (at2:Int) (q3:GL ChoiceS)=>y77.toNat-n) (0) (y74) (⟨u,out,a2+1+1⟩) ?_ ?_ ?_ ?_
       ·exact ⟨by omega,by omega,⟨uD,g2,uD⟩⟩
       ·exact ⟨rfl,rfl,trivial⟩
       ·exact by repeat (first|exact List.Perm.nil|refine zah 0 rfl ?_|refine zah 1 rfl ?_|refine zah 2 rfl ?_|refine zah 3 rfl ?_|refine zah 4 rfl ?_|refine zah 5 rfl ?_|(refine z6 0 rfl ?hq ?_;(case hq=>simp [zam,zb];done))|(refine z6 1 rfl ?hq ?_;(case hq=>simp [zam,zb];done))|(refine z6 2 rfl ?hq ?_;(case hq=>simp [zam,zb];done))|(refine z6 3 rfl ?hq ?_;(case hq=>simp [zam,zb];done))|(refine z6 4 rfl ?hq ?_;(case hq=>simp [zam,zb];done))|(refine z6 5 rfl ?hq ?_;(case hq=>simp [zam,zb];done))|fail)
       ·intro n at2 q3 hinv
        obtain ⟨hn,hat2,hq3⟩:=hinv;obtain ⟨u,out,a2⟩:=q3;obtain ⟨g1,g2,g3⟩:=id hq3;dsimp only at g1 g2 g3;refine gz4 ?_;refine uCo (fun h7=> ?_) fun h8=> ?_
        ·refine gz9 ?_;refine dq (za (hs:=[_,_,_,_]) zj ty9 rfl rfl (by decide) (by decide) rfl) ?_;refine de rfl (uCx 0 zby rfl rfl (zh (L:=[_,_,_,_]) uS uS uS) ?_)
         rintro _ _ ⟨y85,rfl,hy85,rfl⟩;refine dq (zH (cs:=[_,_,_,_,_]) zee zyZ rfl) ?_;refine de rfl (zi zee rfl fun b10=> ?_)
         refine de0 (uY 0 ?_)
         refine gz5 ?_;refine de rfl (uZ 3 ?_)
         refine dq (zax (f:=zbs) (l:=g13.Slots) zf3 rfl) ?_;refine gz2 ?_;refine zf (zM 1) ?_;refine gz1 ?_;refine uV2 [91,11] (fun (j:Nat) (p:GL Str)=>[(91,.int .i64 j)]) (fun (j:Nat) (p:GL Str)=>[St b l p.a,.cells b10 [.str x,.int .i64 ((w:Int)+1),.int .i64 at2,.raw p.u,.str y85],.arr p.u 1 (p.out.map .str),.cells b2 zhb,.cells b3 (bkC g13 (zbz (zT none Z)) (zbq p15) (zcc m17) (zbN k56) (.raw u)),.arr u 5 (out.map zao)]) (fun (j:Nat) (p:GL Str)=>j<=g13.Slots.length/\(p.out.length=j/\(∀s∈p.out,Sh s)/\p.a=a2+1+j)) (fun (j:Nat) (p:GL Str)=>g13.Slots.length-j) (0) (⟨.slice none 0 0,[],a2+1⟩) ?_ ?_ ?_ ?_
         ·exact ⟨Ad _,rfl,by simp,rfl⟩
         ·exact ⟨rfl,trivial⟩
         ·exact by repeat (first|exact List.Perm.nil|refine zah 0 rfl ?_|refine zah 1 rfl ?_|refine zah 2 rfl ?_|refine zah 3 rfl ?_|refine zah 4 rfl ?_|refine zah 5 rfl ?_|(refine z6 0 rfl ?hq ?_;(case hq=>simp [zam,zb];done))|(refine z6 1 rfl ?hq ?_;(case hq=>simp [zam,zb];done))|(refine z6 2 rfl ?hq ?_;(case hq=>simp [zam,zb];done))|(refine z6 3 rfl ?hq ?_;(case hq=>simp [zam,zb];done))|(refine z6 4 rfl ?hq ?_;(case hq=>simp [zam,zb];done))|(refine z6 5 rfl ?hq ?_;(case hq=>simp [zam,zb];done))|fail)
         ·intro j p hinv
          obtain ⟨hj,hp⟩:=hinv;obtain ⟨v,ps,a5⟩:=p;dsimp only at hp;obtain ⟨hp1,hp2,hp3⟩:=hp;have hsl:=hg13.sl;refine gz4 ?_;refine uCo (fun h9=> ?_) fun h10=> ?_
          ·obtain ⟨z,hz⟩: ∃z,g13.Slots[j]? =some z:=⟨_,Aa h9⟩
           have hdz:=zg hz;refine gz4 ?_;refine zaX (fun M=> ∃i:Nat,M[i]? =some (.cells b10 [.str x,.int .i64 ((w:Int)+1),.int .i64 at2,.raw v,.str y85])) [1] mixed ?_;refine gz1 ?_;refine uM 1 rfl ⟨1,rfl⟩ (fun M hM=>by obtain ⟨i,hi⟩:=hM;exact zab (i:=i) (h:= .raw v) zj rfl hi (.inl ⟨rfl,rfl⟩) ⟨rfl,rfl⟩) ?_;refine gz1 ?_;refine uB 3 rfl (za (hs:=[_,_,_,_,_,_,_,_]) zj ty9 rfl rfl (by decide) (by decide) rfl) ?_;refine uF 4 ?_;refine zm rfl (uCx 0 zby rfl rfl (zh (L:=[_,_,_,_,_,_,_,_]) uS uS uS) ?_)
           rintro _ _ ⟨y97,rfl,hy97,rfl⟩;refine ⟨uE,?_⟩
           refine uB 5 rfl (za (hs:=[_]) zj ty9 rfl rfl (by decide) (by decide) rfl) ?_;refine uF 6 ?_;refine zm rfl (zP (i:=2) zj ty9 rfl rfl rfl rfl rfl (by simp [zas,zb]) (by first|omega|(simp;omega)) fun v99=> ?_)
           refine ⟨uE,?_⟩
           refine gz1 ?_;refine uF 8 ?_;refine zI (uY 1 ?_)
           refine ⟨uE,?_⟩
           refine gz7 ?_;exact ⟨j+1,⟨v99,ps++[y97],a5+1⟩,⟨by omega,by simp;omega,fun s hs=>by
            rcases List.mem_append.1 hs with hs|hs
            ·exact hp2 s hs
            ·rw [List.mem_singleton.1 hs];simp at hy97;rcases hy97 with rfl|rfl|rfl|rfl|rfl|rfl|rfl|rfl<;>(unfold Sh;simp),uD⟩,uD,⟨rfl,trivial⟩,uK,uQ⟩
          ·have hnj:g13.Slots.length<=j:=by omega
           obtain rfl:j=g13.Slots.length:=by omega
           refine gz2 ?_;refine zJ ?_;refine gz2 ?_;refine zf (zgx (i:=2) (k:=1) (j:=3) rfl rfl rfl) ?_;refine zf (zbx (M':=[St b l a5,.cells b10 (zb (zao (⟨x,(w:Int)+1,at2,ps,y85⟩:ChoiceS))),.cells b2 zhb,.cells b3 (bkC g13 (zbz (zT none Z)) (zbq p15) (zcc m17) (zbN k56) (.raw u)),.arr u 5 (out.map zao)]) rfl) ?_;refine zf (zcN 10 (i:=1) rfl rfl) ?_;refine gz2 ?_;refine de rfl (uZ 2 ?_)
           refine gz1 ?_;refine dq (za (hs:=[_]) zgu zee rfl rfl (by decide) (by decide) rfl) ?_;refine de rfl (zP (i:=3) zgu zee rfl rfl rfl rfl rfl (by simp [zas,zb,zap,zaM]) uSo fun v106=> ?_)
           refine gz1 ?_;refine de0 (uY 2 ?_)
           refine gz5 ?_;refine dq (za (hs:=[_,_,_]) zV ty3 rfl rfl (by decide) (by decide) rfl) ?_;refine de rfl (uCx 0 zaE rfl rfl (zd (L:=[_,_,_]) uS uS uS) ?_)
           rintro _ _ ⟨y112,rfl,hy112,rfl⟩;refine dq (zbb rfl rfl (by simp at hy112;omega) (by simp at hy112;omega)) ?_;refine gz8 ?_;exact ⟨n+1,at2+y112,⟨v106,out++[(⟨x,(w:Int)+1,at2,ps,y85⟩:ChoiceS)],a5+1⟩,⟨by omega,by simp at hy112;omega,hq3.add (x:=(⟨x,(w:Int)+1,at2,ps,y85⟩:ChoiceS)) ⟨hp2,by simp at hy85;rcases hy85 with rfl|rfl|rfl|rfl<;>(unfold Sh;simp),by have:=hg13.sl;dsimp only;omega⟩ (by have:=hg13.sl;omega)⟩,uD,⟨rfl,rfl,trivial⟩,uK,uQ⟩
        ·refine gz2 ?_;refine zcn ?_;refine gz8 ?_;exact ⟨w+1,⟨u,out,a2⟩,⟨by omega,hq3.mono uO uO⟩,uD,⟨zL uO,trivial⟩,uK,uQ⟩
      ·refine gz2 ?_;refine zJ ?_;refine gz7 ?_;exact ⟨k+1,⟨u,out,a2⟩,⟨by omega,hq2.mono uO uO⟩,uD,⟨rfl,trivial⟩,uK,uQ⟩
    ·have hnk:g13.Teams.length<=k:=by omega
     obtain rfl:k=g13.Teams.length:=by omega
     refine gz2 ?_;refine zJ ?_;refine gz2 ?_;refine uVj [11,1,116,52] (fun (q5:List ChoiceS×Nat)=>[]) (fun (q5:List ChoiceS×Nat)=>[St b l q5.2,.cells b2 zhb,.cells b3 (bkC g13 (zbz (zT none Z)) (zbq p15) (zcc m17) (zbN k56) (.raw u)),.arr u 5 (q5.1.map zao)]) (fun (q5:List ChoiceS×Nat)=>GoodChs q5.1/\q5.2<=a2+10) ?_ ?_
     ·skip
      refine gz2 ?_;refine de rfl (uZ 2 ?_)
      refine de rfl (za2 (i:=3) (es:=out) zgu rfl rfl ?_)
      refine gz3 ?_;refine dgx (fun x M'=> ∃(y:Bool) (a3:Nat),x= .bool y/\a3<=a2+1/\M'=[St b l a3,.cells b2 zhb,.cells b3 (bkC g13 (zbz (zT none Z)) (zbq p15) (zcc m17) (zbN k56) (.raw u)),.arr u 5 (out.map zao)]) rfl rfl (fun hc=>⟨_,false,a2,rfl,by omega,rfl⟩) (fun hc=>⟨_,OpenTo.upd (t:=121) rfl (hc) (OpenTo.refl _),uCx 0 zdl rfl rfl (zy (a:=a2) uO uO) (fun h M' hh=>by
       obtain ⟨y,h1,h2⟩:=hh;exact ⟨y,a2+1,h1,by omega,by rw [h2];rfl⟩)⟩) ?_
      rintro _ _ ⟨y,a3,rfl,ha3,rfl⟩;refine gz2 ?_;refine uCo (fun h11=> ?_) fun h12=> ?_
      ·have ho0:0<out.length:=by simp_all
       refine zcJ (i:=3) rfl (fun h0 he=> ?_) (fun ob off cap hv hcap=> ?_)
       ·exfalso;have:=congrArg List.length he;simp at this;subst this;simp at ho0
       subst hv;refine zbw (fun M=> ∃i:Nat,M[i]? =some (.cells b3 (bkC g13 (zbz (zT none Z)) (zbq p15) (zcc m17) (zbN k56) (.raw (.slice (some ⟨ob,off,none⟩) (out.map zao).length cap))))) [1,4] mixed ?_;refine gz1 ?_;refine uM 1 rfl ⟨2,rfl⟩ (fun M hM=>by obtain ⟨i,hi⟩:=hM;exact zab (i:=i) (h:= .raw (.slice (some ⟨ob,off,none⟩) (out.map zao).length cap)) zgu rfl hi (.inl ⟨rfl,rfl⟩) ⟨rfl,rfl⟩) ?_;refine gz2 ?_;refine uM 4 rfl ⟨2,rfl⟩ (fun M hM=>by obtain ⟨i,hi⟩:=hM;exact zab (i:=i) (h:= .raw (.slice (some ⟨ob,off,none⟩) (out.map zao).length cap)) zgu rfl hi (.inl ⟨rfl,rfl⟩) ⟨rfl,rfl⟩) ?_;refine uF 5 ?_;refine zm rfl (za2 (i:=3) (es:=out) zgu rfl rfl ?_)
       refine ⟨fun _=> .inl ⟨2,rfl⟩,?_⟩
       refine uF 6 ?_;refine zm rfl (uCx 0 zg3 rfl rfl (zU uS uS) ?_)
       rintro _ _ ⟨y130,rfl,hy130,rfl⟩;refine ⟨uE,?_⟩
       refine uB 7 rfl (zt (j:=y130) zgu zee rfl rfl rfl uSo) ?_;refine gz2 ?_;refine zf (Ghost.perm (M':=[St b l (a3+1),.arr (.slice (some ⟨ob,off,none⟩) (out.map zao).length cap) 5 (out.map zao),.cells b2 zhb,.cells b3 (bkC g13 (zbz (zT none Z)) (zbq p15) (zcc m17) (zbN k56) (.raw (.slice (some ⟨ob,off,none⟩) (out.map zao).length cap)))]) uQ) ?_;obtain ⟨x,hx⟩: ∃x,out[y130]? =some x:=⟨_,Aa uO⟩
       have hgx:=g2 x (Ab hx);dsimp only [GoodC4] at hgx;refine zaX (fun M=> ∃i:Nat,M[i]? =some (.arr (.slice (some ⟨ob,off,none⟩) (out.map zao).length cap) 5 (out.map zao))) [8,15,24] mixed ?_;refine gz8 ?_;refine uM 8 rfl ⟨1,rfl⟩ (fun M hM=>by obtain ⟨i,hi⟩:=hM;exact zak (i:=i) (j:=y130) 0 ty9 rfl uO hi hx rfl rfl ⟨rfl,rfl⟩) ?_;refine uB 9 rfl (za (hs:=[_,_]) zj ty9 rfl rfl (by decide) (by decide) rfl) ?_;refine uA 11 ?_;refine gz3 ?_;refine uM 15 rfl ⟨1,rfl⟩ (fun M hM=>by obtain ⟨i,hi⟩:=hM;exact zak (i:=i) (j:=y130) 1 ty3 rfl uO hi hx rfl rfl ⟨rfl,rfl⟩) ?_;refine uB 16 rfl (za (hs:=[_,_]) zV ty3 rfl rfl (by decide) (by decide) rfl) ?_;refine uA 18 ?_;refine uB 19 rfl (za (hs:=[_,_]) zj ty9 rfl rfl (by decide) (by decide) rfl) ?_;refine uA 21 ?_;refine gz2 ?_;refine uM 24 rfl ⟨1,rfl⟩ (fun M hM=>by obtain ⟨i,hi⟩:=hM;exact zak (i:=i) (j:=y130) 3 zj rfl uO hi hx rfl rfl ⟨rfl,rfl⟩) ?_;refine uB 26 rfl (za (hs:=[_]) zj ty9 rfl rfl (by decide) (by decide) rfl) ?_;refine uF 10 ?_;refine zm rfl (uCx 0 zby rfl rfl (zh (L:=[_,_]) uS uS uS) ?_)
       rintro _ _ ⟨y142,rfl,hy142,rfl⟩;refine ⟨uE,?_⟩
       refine uF 17 ?_;refine zm rfl (uCx 0 zaE rfl rfl (zd (L:=[_,_]) uS uS uS) ?_)
       rintro _ _ ⟨y149,rfl,hy149,rfl⟩;refine ⟨uE,?_⟩
       refine uF 20 ?_;refine zm rfl (uCx 0 zby rfl rfl (zh (L:=[_,_]) uS uS uS) ?_)
       rintro _ _ ⟨y152,rfl,hy152,rfl⟩;refine ⟨uE,?_⟩
       refine uF 25 ?_;refine zm rfl (uCa zmz rfl (zar uO) fun v157=> ?_)
       refine ⟨uE,?_⟩
       refine uF 27 ?_;refine zm rfl (zjl (N:=[St b l (a3+1+1+1+1),.arr (.slice (some ⟨ob,off,none⟩) (out.map zao).length cap) 5 (out.map zao),.cells b2 zhb,.cells b3 (bkC g13 (zbz (zT none Z)) (zbq p15) (zcc m17) (zbN k56) (.raw (.slice (some ⟨ob,off,none⟩) (out.map zao).length cap)))]) (sz:=1) (es:=(x.Players++[[97,110,110]]).map .str) 0 (zP (i:=0) zj ty9 rfl rfl rfl rfl rfl (by simp [zas,zb,zap,zaM]) uSo fun v=>⟨v,rfl,by simp [zap,zaM],rfl⟩) ?_)
       refine ⟨fun _=> .inl ⟨1,rfl⟩,?_⟩
       refine gz2 ?_;refine uF 30 ?_;refine zI (zO (i:=1) (j:=y130) (f:=0) (y:=zao x) (y':=zao ⟨y142,x.Week,x.At,x.Players,x.Captain⟩) ty9 rfl uO rfl rfl (zaY hx) rfl rfl (by simp [zb]) rfl ?_)
       refine ⟨uE,?_⟩
       refine gz2 ?_;refine uF 33 ?_;refine zI (zO (i:=1) (j:=y130) (f:=1) (y:=zao ⟨y142,x.Week,x.At,x.Players,x.Captain⟩) (y':=zao ⟨y142,y149,x.At,x.Players,x.Captain⟩) ty3 rfl uO rfl rfl (zay (zaY hx)) rfl rfl (by simp [zb]) rfl ?_)
       refine ⟨uE,?_⟩
       refine gz2 ?_;refine uF 36 ?_;refine zI (zO (i:=1) (j:=y130) (f:=4) (y:=zao ⟨y142,y149,x.At,x.Players,x.Captain⟩) (y':=zao ⟨y142,y149,x.At,x.Players,y152⟩) ty9 rfl uO rfl rfl (zay (zay (zaY hx))) rfl rfl (by simp [zb]) rfl ?_)
       refine ⟨uE,?_⟩
       refine gz2 ?_;refine uF 39 ?_;refine zI (zO (i:=1) (j:=y130) (f:=3) (y:=zao ⟨y142,y149,x.At,x.Players,y152⟩) (y':=zao ⟨y142,y149,x.At,x.Players++[[97,110,110]],y152⟩) zj rfl uO rfl rfl (zay (zay (zay (zaY hx)))) rfl rfl (by simp [zb]) rfl ?_)
       refine ⟨uE,?_⟩
       refine gz1 ?_;exact ⟨(out.set y130 (⟨y142,y149,x.At,x.Players++[[97,110,110]],y152⟩:ChoiceS),a3+1+1+1+1),⟨⟨by simp;omega,zd0 (P:=zpU) (fun x hx=>(g2 x hx).up) ⟨fun s hs=>by
        rcases List.mem_append.1 hs with hs|hs
        ·exact hgx.1 s hs
        ·rw [List.mem_singleton.1 hs];unfold Sh;simp,by simp at hy152;rcases hy152 with rfl|rfl<;>(unfold Sh;simp),by simp;omega⟩⟩,uD⟩,trivial,uK,uQ⟩
      ·refine gz1 ?_;exact ⟨(out,a3),⟨⟨uD,fun x hx=>(g2 x hx).up⟩,uD⟩,trivial,uK,uQ⟩
     ·intro q5 hq5
      obtain ⟨k1,a6⟩:=q5;obtain ⟨hk1,ha6⟩:=hq5;dsimp only at hk1 ha6;refine zf (zgx (i:=3) (k:=2) (j:=18) rfl rfl rfl) ?_;refine zf (Ghost.perm (M':=[.cells b2 zhb,St b l a6,.cells b3 (zb (zeb (⟨g13,(zT none Z),p15,m17,k56,k1⟩:BookS)))]) uQ) ?_;refine gz1 ?_;refine de rfl (zgQ (i:=2) (h:=zeb (⟨g13,(zT none Z),p15,m17,k56,k1⟩:BookS)) zb4 rfl rfl rfl rfl rfl ?_)
      refine de0 (zo (h:=zeb (⟨g13,(zT none Z),p15,m17,k56,k1⟩:BookS)) zb4 rfl rfl rfl rfl rfl ?_)
      refine gz2 ?_;exact ⟨_,_,(zp 2 rfl).trans ((Ghost.perm (List.Perm.swap _ _ _)).trans Ghost.drop),[_],_,⟨⟨_,_,_,_,_,rfl,zb4,.inr ⟨rfl,rfl,rfl⟩⟩,trivial⟩,Weak.refl _,(⟨g13,(zT none Z),p15,m17,k56,k1⟩:BookS),a6,rfl,⟨hg13,uD,hub,hp15,hm17,hk56,hk1⟩,by omega,rfl⟩
end
end Go.Proofs.YtaihpegdcgdcgaaGreatDoor
