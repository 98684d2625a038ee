/- Part 4 of the proof: a program logic, contracts of functions and plain facts; no conditions. -/
import Derived.Test.YtahegdhbakjdoaaGreatDoorQFreePlayersAreWatched3
set_option linter.unusedVariables false
set_option linter.unusedSimpArgs false
set_option maxHeartbeats 16000000
namespace Go.Proofs.YtahegdhbakjdoaaGreatDoor
set_option maxRecDepth 100000
set_option linter.unusedVariables false
set_option linter.unusedSimpArgs false
section
open Go.Proofs.Tryz
open Go.HL
theorem zoW [Tracks] {x:Nat} (hx:x<16):Con prog 259 [.int .u64 (x:Int)] [] (fun y M'=> ∃n:Int,y= .int .i64 n/\M'=[]):=by
 refine uOb func259 ntmps259 ?_;refine gz8 ?_;refine zaB rfl (fun h1=> ?_) (fun h1=> ?_)
 exfalso
 try simp at h1
 omega
 try simp at h1
 refine gz7 ?_;refine zaB rfl (fun h2=> ?_) (fun h2=> ?_)
 exfalso
 try simp at h2
 omega
 try simp at h2
 refine gz7 ?_;refine zaB rfl (fun h3=> ?_) (fun h3=> ?_)
 exfalso
 try simp at h3
 omega
 try simp at h3
 refine gz5 ?_;refine dq (zcH zqX ty5 rfl) ?_;refine dq (zaG (j:=x) ty9 rfl rfl (zBa hx) (Aa (Nat.lt_of_lt_of_le hx (Ao (by kernel_rfl))))) ?_;refine dq (zcH ty5 ty3 rfl) ?_;refine dq (zmN rfl rfl) ?_;refine gz3 ?_;exact z7 rfl ⟨_,rfl,rfl⟩
theorem zrg [Tracks] {x:Nat} (hx:x<16):Con prog 198 [.int .u64 (x:Int)] [] (fun y M'=> ∃n:Int,y= .int .i64 n/\M'=[]):=by
 refine uOb func198 ntmps198 ?_;refine gz4 ?_;refine zcV rfl ?_;refine gz4 ?_;refine de rfl (zaQ (M1:=[]) (R:=[]) zwY rfl (WeakL.refl _) (Ab _) (zoW hx) ?_)
 rintro _ _ ⟨n7,rfl,rfl⟩;refine gz3 ?_;exact z7 rfl ⟨_,rfl,rfl⟩
theorem zec [Tracks] {l:List Asset} {v:Value} {fid:FuncId} {caps:List HVal} {c:Asset->Asset->Int} {n:Int} (hca:Callable prog fid) (hp: ∀x y,ConP prog fid ([zbn x,zbn y]++caps) (.int .i64 (c x y))) (hn:n=l.length) (hl:l.length<=1000000):Con prog 331 [.raw v,.int .i64 0,.int .i64 n,.fn (.func fid) [] caps] [.arr v 3 (l.map zbn)] (fun x M'=>x= .tup []/\M'=[.arr v 3 ((zal c l).map zbn)]):=by
 subst hn;refine uOb func331 ntmps331 ?_;refine gz6 ?_;refine uV1 [8,2,12,41] (fun (k:Nat)=>[(8,.int .i64 (k:Int))]) (fun (k:Nat)=>[.arr v 3 ((zal c (l.take k)++l.drop k).map zbn)]) (fun (k:Nat)=>1<=k) (fun (k:Nat)=>l.length-k) (1) ?_ ?_ ?_ ?_;exact Ae _;exact ⟨rfl,trivial⟩;exact zu (by rw [zjS])
 intro k hk
 refine gz6 ?_;refine uCo (fun h1=> ?_) fun h2=> ?_
 obtain ⟨x,hx⟩: ∃x,l[k]? =some x:=⟨_,Aa uO⟩
 refine zcZ (i:=0) rfl (fun h0 he=> ?_) (fun b off cap hv hcap=> ?_)
 exfalso;have:=congrArg List.length he;simp [zbp] at this;omega
 rw [show ((zal c (l.take k)++l.drop k).map zbn).length=l.length by simp [zbp];omega] at hv;subst hv;refine gz9 ?_;refine uV2 [9,1,18,35] (fun (A:List Asset) (B:List Asset)=>[(9,.int .i64 (A.length:Int))]) (fun (A:List Asset) (B:List Asset)=>[.arr (.slice (some ⟨b,off,none⟩) l.length cap) 3 ((A++x::(B++l.drop (k+1))).map zbn)]) (fun (A:List Asset) (B:List Asset)=>A.length+B.length=k/\zcM c x (zal c (l.take k))=zcM c x A++B) (fun (A:List Asset) (B:List Asset)=>A.length) (zal c (l.take k)) ([]) ?_ ?_ ?_ ?_;exact ⟨by simp [zbp];omega,by simp⟩;exact ⟨zN (by simp [zbp];omega),trivial⟩;exact zu (by rw [zg hx];rfl)
 intro A B hinv
 obtain ⟨hA,hB⟩:=hinv;have hlA:A.length<l.length:=by omega
 have hll:((A++x::(B++l.drop (k+1)))).length=l.length:=by simp;omega
 refine gz1 ?_;refine zbx (fun M=>M=[.arr (.slice (some ⟨b,off,none⟩) l.length cap) 3 ((A++x::(B++l.drop (k+1))).map zbn)]) [8,13] mixed ?_;refine gz7 ?_;refine ahg 7 rfl rfl (by kernel_rfl) (by kernel_rfl) rfl (fun hc=>by
  have hq:0<A.length:=by simpa using hc
  exact ⟨_,OpenTo.upd (t:=24) rfl (hc) (OpenTo.upd (t:=23) rfl (hc) (OpenTo.refl _)),zy (j:=A.length) zff zbN rfl rfl (by rfl) uO⟩) ?_
 refine zoQ 8 rfl rfl (by kernel_rfl) (by kernel_rfl) (by simp) rfl rfl (fun hc=>⟨_,OpenTo.upd (t:=25) rfl (hc) (OpenTo.refl _),fun M hM=>by
  subst hM;exact zV (i:=0) (j:=A.length) zbN rfl rfl rfl zfc rfl rfl rfl ⟨rfl,rfl⟩
  ⟩) ?_
 refine gz2 ?_;refine ahg 11 rfl rfl (by kernel_rfl) (by kernel_rfl) rfl (fun hc=>by
  have hq:0<A.length:=by simpa using hc
  exact ⟨_,OpenTo.upd (t:=28) rfl (hc) (OpenTo.refl _),zeU rfl rfl uO uO⟩) ?_
 refine ahg 12 rfl rfl (by kernel_rfl) (by kernel_rfl) rfl (fun hc=>by
  have hq:0<A.length:=by simpa using hc
  exact ⟨_,OpenTo.upd (t:=29) rfl (hc) (OpenTo.upd (t:=27) rfl (hc) (OpenTo.refl _)),zy (j:=A.length-1) zff zbN rfl rfl uO uO⟩) ?_
 refine zoQ 13 rfl rfl (by kernel_rfl) (by kernel_rfl) (by simp) rfl rfl (fun hc=>⟨_,OpenTo.upd (t:=30) rfl (hc) (OpenTo.refl _),fun M hM=>by
  have hq:0<A.length:=by simpa using hc
  subst hM;exact zV (i:=0) (j:=A.length-1) zbN rfl rfl rfl (zgf hq) rfl rfl rfl ⟨rfl,rfl⟩
  ⟩) ?_
 refine uGy 14 rfl rfl (fun hc=>zaw hca rfl rfl (WeakL.refl _) (hp _ _)) ?_;refine gz3 ?_;refine uCo (fun h3=> ?_) fun h4=> ?_
 obtain ⟨hA0,hcx⟩:=h3;obtain ⟨A1,y,rfl⟩:=zmP hA0;rw [zhl] at hcx;refine gz4 ?_;refine za1 (fun M=>M=[.arr (.slice (some ⟨b,off,none⟩) l.length cap) 3 (((A1++[y])++x::(B++l.drop (k+1))).map zbn)]) [9,13] mixed ?_;refine gz8 ?_;refine uB 8 rfl (zy (j:=(A1++[y]).length-1) zff zbN rfl rfl uO uO) ?_;refine uM 9 rfl rfl (uW (zV (i:=0) (j:=(A1++[y]).length-1) zbN rfl rfl rfl ((zgf hA0).trans (by rw [zhl])) rfl rfl rfl ⟨rfl,rfl⟩)) ?_;refine gz2 ?_;refine uB 12 rfl (zy (j:=(A1++[y]).length) zff zbN rfl rfl rfl uO) ?_;refine uM 13 rfl rfl (uW (zV (i:=0) (j:=(A1++[y]).length) zbN rfl rfl rfl zfc rfl rfl rfl ⟨rfl,rfl⟩)) ?_;refine uB 14 rfl (zy (j:=(A1++[y]).length) zff zbN rfl rfl rfl uO) ?_;refine uF 15 ?_;refine zK (zaT (i:=0) (j:=(A1++[y]).length) (y:=x) (y':=y) zbN rfl rfl rfl rfl zfc rfl rfl rfl ?_)
 refine ⟨uE,?_⟩
 refine uB 16 rfl (zy (j:=(A1++[y]).length-1) zff zbN rfl rfl uO uO) ?_;refine uF 17 ?_;refine zK (zaT (i:=0) (j:=(A1++[y]).length-1) (y:=y) (y':=x) zbN rfl rfl rfl rfl (by rw [A2 (by simp)];exact (zgf hA0).trans (by rw [zhl])) rfl rfl rfl ?_)
 refine ⟨uE,?_⟩
 refine gz8 ?_;exact ⟨A1,y::B,⟨by simp at hA⊢;omega,znw hB hcx⟩,by dsimp only;simp,⟨zN (by simp),trivial⟩,uK,zu (by rw [znD];rfl)⟩;have hins:=znv (l:=l) (k:=k) hx hB (by intro h0;have:=h4 h0;omega);refine gz2 ?_;refine zL ?_;refine gz8 ?_;refine ⟨k+1,?_,?_,⟨rfl,trivial⟩,uK,zu (by rw [hins])⟩
 omega
 dsimp only;omega
 have hend:zal c (l.take k)++l.drop k=zal c l:=by rw [Bm uO,zH uO];simp
 refine gz2 ?_;refine zt ?_;refine gz1 ?_;exact ⟨_,_,Ghost.sub (Sub.refl _),_,_,rfl,Weak.refl _,rfl,by rw [hend]⟩
theorem zfr [Tracks] {l:List Asset} {v:Value} {fid:FuncId} {caps:List HVal} {c:Asset->Asset->Int} {lim:Int} (hca:Callable prog fid) (hp: ∀x y,ConP prog fid ([zbn x,zbn y]++caps) (.int .i64 (c x y))) (hl:l.length<=12):Con prog 287 [.raw v,.int .i64 0,.int .i64 (l.length:Int),.int .i64 lim,.fn (.func fid) [] caps] [.arr v 3 (l.map zbn)] (fun x M'=>x= .tup []/\M'=[.arr v 3 ((zal c l).map zbn)]):=by
 refine uOb func287 ntmps287 ?_;refine gz7 ?_;refine uU1 [1,3,10,138] (fun (u:Unit)=>[(1,.int .i64 0),(2,.int .i64 (l.length:Int))]) (fun (u:Unit)=>[.arr v 3 (l.map zbn)]) (fun (u:Unit)=>True) (fun (u:Unit)=>0) (()) ?_ ?_
 trivial
 intro u hu
 refine zdC ?_;refine zaB rfl (fun h1=> ?_) (fun h1=> ?_)
 try simp at h1
 refine gz5 ?_;refine de rfl (uCx 0 zAE rfl rfl (zec (l:=l) hca hp uO uO) ?_)
 rintro _ _ ⟨rfl,rfl⟩;refine gz2 ?_;exact z7 rfl ⟨rfl,rfl⟩
 exfalso
 try simp at h1
 omega
theorem zew [Tracks] {l:List Asset} {v:Value} {fid:FuncId} {caps:List HVal} {c:Asset->Asset->Int} (hca:Callable prog fid) (hp: ∀x y,ConP prog fid ([zbn x,zbn y]++caps) (.int .i64 (c x y))) (hl:l.length<=12):Con prog 233 [.raw v,.fn (.func fid) [] caps] [.arr v 3 (l.map zbn)] (fun x M'=>x= .tup []/\M'=[.arr v 3 ((zal c l).map zbn)]):=by
 refine uOb func233 ntmps233 ?_;refine gz2 ?_;refine de rfl (za7 (i:=0) zff rfl rfl ?_)
 refine gz6 ?_;refine dq (zau (zcH ty3 zmS rfl) (congrArg _ (zyj uO))) ?_;refine de rfl (zaQ (M1:=[]) (R:=[_]) zwM rfl (WeakL.refl _) (Ab _) (zrg (x:=l.length) uO) ?_)
 rintro _ _ ⟨n11,rfl,rfl⟩;refine gz1 ?_;refine de rfl (uCx 0 zAw rfl rfl (zfr hca hp hl) ?_)
 rintro _ _ ⟨rfl,rfl⟩;refine gz1 ?_;exact ⟨_,_,Ghost.sub (Sub.refl _),_,_,rfl,Weak.refl _,rfl,rfl⟩
end
section
open Go.HL
set_option linter.unusedSimpArgs false
end
section
open Go.Proofs.Tryz
open Go.HL
theorem zlV [Tracks] {x:Asset}:ConP prog 170 [zbn x] (.int .i64 (assetFault x)):=by
 refine uOb func170 ntmps170 ?_;refine gz9 ?_;refine dq (uCl zcp rfl zah) ?_;refine gz4 ?_;refine uGr rfl (fun hc=>uCl zcp rfl zah) ?_;refine gz4 ?_;refine uCo (fun h1=> ?_) fun h2=> ?_
 refine gz4 ?_;refine uRp ?_
 simp_all [assetFault]
 refine gz3 ?_;refine dq (uCl zbu rfl zac) ?_;refine gz2 ?_;refine uCo (fun h3=> ?_) fun h4=> ?_
 refine gz4 ?_;refine uRp ?_
 simp_all [assetFault]
 refine gz7 ?_;refine uRp ?_
 simp_all [assetFault]
theorem zlt [Tracks] {l:List Asset} (hl:l.length<=1000000):ConP prog 87 [zih l] (.int .i64 (zcR l)):=by
 refine uOb func87 ntmps87 ?_;refine gz9 ?_;refine uCo (fun h1=> ?_) fun h2=> ?_
 refine gz4 ?_;refine uRp ?_
 (rw [zcR,if_pos uO])
 refine gz9 ?_;refine uT1 [2,4,11,24] (fun k=>[(11,.int .i64 k)]) (fun k=>[]) (fun k=>k<=l.length/\(zcR l=zd1 l k (l.drop k))) (fun k=>l.length-k) (0) ?_ ?_;refine ⟨Ad _,?_⟩
 rw [zcR,if_neg uO];rfl;rintro k ⟨hk,hg⟩;refine gz4 ?_;refine uCo (fun h3=> ?_) fun h4=> ?_
 obtain ⟨x,hx⟩: ∃x,l[k]? =some x:=⟨_,Aa h3⟩
 have hdx:=zg hx;rw [hdx] at hg;refine gz8 ?_;refine de rfl (zj zbN rfl fun b4=> ?_)
 refine gz1 ?_;refine de0 (zo zbN rfl rfl rfl rfl rfl ?_)
 refine gz1 ?_;refine zf (zp 4 rfl) ?_;refine gz3 ?_;refine dq (uCl zzx rfl zlV) ?_;refine gz6 ?_;refine uCo (fun h5=> ?_) fun h6=> ?_
 refine gz5 ?_;refine uRp ?_
 (rw [hg];simp_all [zd1,leS])
 refine gz2 ?_;refine uDr mixed ?_;refine gz8 ?_;refine uGy 8 rfl rfl (fun hc=>by have hq:=hc;(try simp at hq);exact zD (j:=k-1) (a:=l.getD (k-1) zlB) zff zbN rfl rfl uO (getD_some uO)) ?_;refine gz5 ?_;refine uCo (fun h7=> ?_) fun h8=> ?_
 refine gz4 ?_;refine uRp ?_
 (rw [hg];simp_all [zd1,leS])
 refine gz7 ?_;refine ⟨k+1,?_,?_,⟨rfl,trivial⟩,uK,Ab _⟩
 refine ⟨by omega,?_⟩
 rw [hg];simp_all [zd1,leS]
 dsimp only;omega
 have hnk:l.length<=k:=by omega
 obtain rfl:k=l.length:=by omega
 rw [zH (Ae _)] at hg;refine gz2 ?_;refine zt ?_;refine gz6 ?_;refine uRp ?_
 (rw [hg];simp_all [zd1,leS])
theorem zlu [Tracks] {l:List HL.Place} (hl:l.length<=1000000):ConP prog 88 [zmF l] (.int .i64 (zcS l)):=by
 refine uOb func88 ntmps88 ?_;refine gz9 ?_;refine uCo (fun h1=> ?_) fun h2=> ?_
 refine gz4 ?_;refine uRp ?_
 (rw [zcS,if_pos uO])
 refine gz9 ?_;refine uT1 [2,3,10,29] (fun k=>[(10,.int .i64 k)]) (fun k=>[]) (fun k=>k<=l.length/\(zcS l=zdD l k (l.drop k))) (fun k=>l.length-k) (0) ?_ ?_;refine ⟨Ad _,?_⟩
 rw [zcS,if_neg uO];rfl;rintro k ⟨hk,hg⟩;refine gz4 ?_;refine uCo (fun h3=> ?_) fun h4=> ?_
 obtain ⟨x,hx⟩: ∃x,l[k]? =some x:=⟨_,Aa h3⟩
 have hdx:=zg hx;rw [hdx] at hg;refine gz8 ?_;refine de rfl (zj zjv rfl fun b4=> ?_)
 refine gz1 ?_;refine de0 (zo zjv rfl rfl rfl rfl rfl ?_)
 refine gz1 ?_;refine zf (zp 4 rfl) ?_;refine gz4 ?_;refine dq (uCl zcp rfl zah) ?_;refine gz3 ?_;refine uCo (fun h5=> ?_) fun h6=> ?_
 refine gz4 ?_;refine uRp ?_
 (rw [hg];simp_all [zdD,leS])
 refine gz3 ?_;refine dq (uCl zbu rfl zac) ?_;refine gz2 ?_;refine uCo (fun h7=> ?_) fun h8=> ?_
 refine gz4 ?_;refine uRp ?_
 (rw [hg];simp_all [zdD,leS])
 refine uDr mixed ?_;refine gz8 ?_;refine uGy 8 rfl rfl (fun hc=>by have hq:=hc;(try simp at hq);exact zD (j:=k-1) (a:=l.getD (k-1) zrP) zt5 zjv rfl rfl uO (getD_some uO)) ?_;refine gz6 ?_;refine uCo (fun h9=> ?_) fun h10=> ?_
 refine gz4 ?_;refine uRp ?_
 (rw [hg];simp_all [zdD,leS])
 refine gz8 ?_;refine ⟨k+1,?_,?_,⟨rfl,trivial⟩,uK,Ab _⟩
 refine ⟨by omega,?_⟩
 rw [hg];simp_all [zdD,leS]
 dsimp only;omega
 have hnk:l.length<=k:=by omega
 obtain rfl:k=l.length:=by omega
 rw [zH (Ae _)] at hg;refine gz2 ?_;refine zt ?_;refine gz6 ?_;refine uRp ?_
 (rw [hg];simp_all [zdD,leS])
theorem zn1 [Tracks] {x y:Asset}:ConP prog 234 [zbn x,zbn y] (.int .i64 (byValue x y)):=by
 refine uOb func234 ntmps234 ?_;refine gz5 ?_;refine uDr mixed ?_;refine gz4 ?_;refine uB 4 rfl (uCl zcw rfl zP) ?_;refine gz4 ?_;refine uB 9 rfl (uCl zbV rfl zJ) ?_;refine uB 10 rfl (za (hs:=[_,_]) z6 ty3 rfl rfl (by decide) (by decide) rfl) ?_;refine uB 11 rfl (uCl ze6 rfl (za0 (l:=[_,_]) (by simp))) ?_;refine gz3 ?_;refine zw rfl ?_
 rfl
theorem ztf [Tracks] {l:List Asset} {pos:Str} (hl:l.length<=12):ConP prog 171 [zih l,.str pos] (zih (ofP l pos)):=by
 refine uOb func171 ntmps171 ?_;refine gz6 ?_;refine zf (zM 3) ?_;refine gz7 ?_;refine uV2 [5,1,7,1,10,13] (fun (k:Nat) (u:Value)=>[(10,.int .i64 k),(5,.raw u)]) (fun (k:Nat) (u:Value)=>[.arr u 3 ((zf2 (l.take k) pos).map zbn)]) (fun (k:Nat) (u:Value)=>k<=l.length/\(True)) (fun (k:Nat) (u:Value)=>l.length-k) (0) (.slice none 0 0) ?_ ?_ ?_ ?_;exact ⟨Ad _,by simp_all⟩;exact ⟨rfl,rfl,trivial⟩;exact zu (by simp [zf2])
 intro k u hinv
 obtain ⟨hk,-⟩:=hinv;refine gz4 ?_;refine uCo (fun h1=> ?_) fun h2=> ?_
 obtain ⟨x,hx⟩: ∃x,l[k]? =some x:=⟨_,Aa h1⟩
 have hdx:=zg hx;refine gz7 ?_;refine de rfl (zj zbN rfl fun b7=> ?_)
 refine de0 (zo zbN rfl rfl rfl rfl rfl ?_)
 refine gz1 ?_;refine zf (zp 7 rfl) ?_;refine gz6 ?_;refine uCo (fun h3=> ?_) fun h4=> ?_
 refine gz3 ?_;refine dq (za (hs:=[_]) zff zbN rfl rfl (by decide) (by decide) rfl) ?_;have hal:(zf2 (l.take k) pos).length<=12:=Ay (zni _ _) uSo;refine de rfl (zO (i:=0) zff zbN rfl rfl rfl rfl rfl (by simp [zax,zb]) uSo fun v21=> ?_)
 refine gz8 ?_;exact ⟨k+1,_,⟨by omega,trivial⟩,uD,⟨rfl,rfl,trivial⟩,uK,zu (by dsimp only;rw [znM hx,if_pos uSa];simp)⟩;refine gz7 ?_;exact ⟨k+1,_,⟨by omega,trivial⟩,uD,⟨rfl,rfl,trivial⟩,uK,zu (by dsimp only;rw [znM hx,if_neg uSa];simp)⟩;have hnk:l.length<=k:=by omega
 obtain rfl:k=l.length:=by omega
 rw [An];refine gz2 ?_;refine zL ?_;refine gz2 ?_;have hal:=zni l pos;refine gz2 ?_;refine de rfl (uCx 0 zz7 rfl rfl (zew (l:=zf2 l pos) (c:=byValue) (caps:=[]) zz8 (fun x y=>zn1) uO) ?_)
 rintro _ _ ⟨rfl,rfl⟩;refine gz6 ?_;exact zmo (M:=[]) 4 rfl rfl rfl
theorem zn2 [Tracks] {l:List Asset} {p:List HL.Place} (hl:l.length<=12) (hp:p.length<=10) (hm: ∀x∈p,0<=x.Many) (hv: ∀x∈l,-1000000<=x.Value/\x.Value<=1000000):ConP prog 89 [zih l,zmF p] (.tup [.int .i64 (zdV (zat (ofP l) p)),eSs (zoo (zat (ofP l) p))]):=by
 have hon: ∀s,(ofP l s).length<=12:=fun s=>Ay (zxQ l s) hl
 refine uOb func89 ntmps89 ?_;refine zan ?_;refine zf (zM 1) ?_;refine gz7 ?_;refine uV2 [6,2,9,2,12,1,15,34] (fun (i:Nat) (u:Value)=>[(15,.int .i64 i),(6,.int .i64 (zdV (zat (ofP l) (p.take i)))),(7,.raw u)]) (fun (i:Nat) (u:Value)=>[.arr u 1 (((zat (ofP l) (p.take i)).map (·.Player)).map .str)]) (fun (i:Nat) (u:Value)=>i<=p.length/\(True)) (fun (i:Nat) (u:Value)=>p.length-i) (0) (.slice none 0 0) ?_ ?_ ?_ ?_;exact ⟨Ad _,by simp_all⟩;exact ⟨rfl,zN (by simp [zat,zdV]),rfl,trivial⟩;exact zu (by simp [zat])
 intro i u hinv
 obtain ⟨hi,-⟩:=hinv;refine gz4 ?_;refine uCo (fun h1=> ?_) fun h2=> ?_
 obtain ⟨x,hx⟩: ∃x,p[i]? =some x:=⟨_,Aa h1⟩
 have hdx:=zg hx;refine gz7 ?_;refine de rfl (zj zjv rfl fun b9=> ?_)
 refine de0 (zo zjv rfl rfl rfl rfl rfl ?_)
 refine gz1 ?_;refine zf (zp 9 rfl) ?_;refine gz4 ?_;refine dq (uCl zzy rfl (ztf (by assumption))) ?_;refine gz2 ?_;have hx0:=hm x (Ac hx);have hon1:=hon x.Position;obtain ⟨N,hN⟩: ∃N:Nat,(if ((ofP l x.Position).length:Int)<x.Many then ((ofP l x.Position).length:Int) else x.Many)=(N:Int):=⟨_,(Int.toNat_of_nonneg (by split<;>omega)).symm⟩
 have hNle:N<=(ofP l x.Position).length:=by split at hN<;>omega
 refine gz6 ?_;refine dq (zau (zx3 rfl rfl) (congrArg _ hN)) ?_;refine dq (zaL (h:=N) zff zbN rfl rfl ⟨_,_,rfl,rfl⟩ uO hNle) ?_;refine gz3 ?_;have hCl:((List.drop 0 (List.take N (ofP l x.Position)))).length<=12:=by simp;omega
 have hCm: ∀y∈(List.drop 0 (List.take N (ofP l x.Position))),y∈l:=fun y hy=>by
  have:=AR (List.mem_of_mem_drop hy);unfold ofP zf2 at this;exact (List.mem_filter.1 ((zmd _).1 this)).1
 generalize hCd:List.drop 0 (List.take N (ofP l x.Position))=C at*
 refine gz1 ?_;refine uV2 [6,2,12,1,31,17] (fun (k:Nat) (w:Value)=>[(31,.int .i64 k),(6,.int .i64 (zdV ((zat (ofP l) (p.take i))++((C.take k).filter (fun y=>decide (0<y.Value)))))),(7,.raw w)]) (fun (k:Nat) (w:Value)=>[.arr w 1 ((((zat (ofP l) (p.take i))++((C.take k).filter (fun y=>decide (0<y.Value)))).map (·.Player)).map .str)]) (fun (k:Nat) (w:Value)=>k<=C.length/\(True)) (fun (k:Nat) (w:Value)=>C.length-k) (0) (u) ?_ ?_ ?_ ?_;exact ⟨Ad _,by simp_all⟩;exact ⟨rfl,zN (by simp),rfl,trivial⟩;exact zu (by simp)
 intro k w hinv
 obtain ⟨hk,-⟩:=hinv;refine gz4 ?_;refine uCo (fun h3=> ?_) fun h4=> ?_
 obtain ⟨y,hy⟩: ∃y,C[k]? =some y:=⟨_,Aa h3⟩
 have hdy:=zg hy;refine gz7 ?_;refine de rfl (zj zbN rfl fun b12=> ?_)
 refine de0 (zo zbN rfl rfl rfl rfl rfl ?_)
 refine gz1 ?_;refine zf (zp 12 rfl) ?_;refine gz5 ?_;refine uCo (fun h5=> ?_) fun h6=> ?_
 refine gz4 ?_;have hb1:=zru (f:=ofP l) (p:=p) (i:=i) (fun s m y=>zok) hon hp hv;have hb2:=zyL (k:=k) hCm hCl hv;have hb3:=hv y (hCm y (Ac hy));have hb4:=zr1 (zat (ofP l) (p.take i)) ((C.take k).filter (fun y=>decide (0<y.Value)));refine gz7 ?_;refine dq (za (hs:=[_]) zk ty9 rfl rfl (by decide) (by decide) rfl) ?_;refine de rfl (zO (i:=0) zk ty9 rfl rfl rfl rfl rfl (by simp [zax,zb]) (by simp only [Ah,AA,Ai,AG];omega) fun v46=> ?_)
 refine gz8 ?_;exact ⟨k+1,_,⟨by omega,trivial⟩,uD,⟨rfl,zN (by rw [zk0 hy,if_pos uSa,<-AT,zr1 _ [y]];simp [zdV]),rfl,trivial⟩,uK,zu (by dsimp only;rw [zk0 hy,if_pos uSa];simp)⟩;refine gz7 ?_;exact ⟨k+1,_,⟨by omega,trivial⟩,uD,⟨rfl,zN (by rw [zk0 hy,if_neg uO];simp),rfl,trivial⟩,uK,zu (by dsimp only;rw [zk0 hy,if_neg uO];simp)⟩;have hnk:C.length<=k:=by omega
 obtain rfl:k=C.length:=by omega
 refine gz2 ?_;refine zL ?_;refine gz7 ?_;exact ⟨i+1,_,⟨by omega,trivial⟩,uD,⟨rfl,zN (by rw [zlj _ hx,zpB hN,hCd,An]),rfl,trivial⟩,uK,zu (by dsimp only;rw [zlj _ hx,zpB hN,hCd,An])⟩;have hni:p.length<=i:=by omega
 obtain rfl:i=p.length:=by omega
 refine gz2 ?_;refine zL ?_;refine gz2 ?_;rw [An];refine gz2 ?_;refine de rfl (uCx 0 zzz rfl rfl (zqv (l:=(zat (ofP l) p).map (·.Player)) (by have hb1:=zru (f:=ofP l) (p:=p) (i:=p.length) (fun s m y=>zok) hon hp hv;rw [An] at hb1;simp;omega)) ?_)
 rintro _ _ ⟨rfl,rfl⟩;refine gz8 ?_;exact zmo (M:=[]) 5 rfl rfl rfl
end
section
open Go.Proofs.Tryz
open Go.HL
theorem zn0 [Tracks] {l:List Asset} {p:List HL.Place} (hl:l.length<=11) (hp:p.length<=1000000):ConP prog 36 [zih l,zmF p] (.tup [.int .i64 (if zjU l p !=0 then 0 else zt2 l p),eSs (if zjU l p !=0 then [] else zoo (zat (ofP l) p)),.int .i64 (zjU l p)]):=by
 refine uOb func36 ntmps36 ?_;refine gz8 ?_;refine dq (uCl ca87 rfl (zlt uO)) ?_;refine gz1 ?_;refine dq (uCl ca88 rfl (zlu (by assumption))) ?_;refine dq (za (hs:=[_,_]) zdN zfP rfl rfl (by decide) (by decide) rfl) ?_;refine dq (uCl zkJ rfl (zb0 (l:=[_,_]) (by simp))) ?_;refine gz6 ?_;refine uCo (fun h1=> ?_) fun h2=> ?_
 refine gz7 ?_
 (refine za5 rfl (zvi ?_ ?_ (Weak.refl _))
  rw [if_pos (by simpa [zjU] using h1)];exact Weak.refl _;rw [if_pos (by simpa [zjU] using h1)];exact zQ 1)
 refine gz2 ?_;obtain ⟨hca0,hcp0⟩:=zxR (l:=l) (p:=p) (by simpa [zjU] using h2);obtain ⟨hsr,haf⟩:=zo4 hca0;obtain ⟨hmm,hp10⟩:=zo5 hcp0;have hvv: ∀x∈l,-1000000<=x.Value/\x.Value<=1000000:=fun x hx=>(zle (haf x hx)).2.2
 refine gz3 ?_;refine dq (uCl ca89 rfl (zn2 uO (by assumption) uSa (by assumption))) ?_;refine zdS ?_
 (refine zw rfl ?_
  have h0:zjU l p=0:=by simpa [zjU] using h2
  simp [h0,zt2,zay,zaO])
end
section
open Go.Proofs.Tryz
open Go.HL
theorem zno [Tracks] {a b:MendS}:ConP prog 219 [zb1 a,zb1 b] (.int .i64 (zd2 a b)):=by
 refine uOb func219 ntmps219 ?_;refine gz5 ?_;refine uDr mixed ?_;refine gz4 ?_;refine uB 4 rfl (uCl zbV rfl zJ) ?_;refine gz4 ?_;refine uB 9 rfl (uCl zcw rfl zP) ?_;refine gz4 ?_;refine uB 14 rfl (uCl zbV rfl zJ) ?_;refine gz4 ?_;refine uB 19 rfl (uCl zcw rfl zP) ?_;refine uB 20 rfl (za (hs:=[_,_,_,_]) z6 ty3 rfl rfl (by decide) (by decide) rfl) ?_;refine uB 21 rfl (uCl ze6 rfl (za0 (l:=[_,_,_,_]) (by simp))) ?_;refine gz3 ?_;refine zw rfl ?_
 rfl
theorem zm0 [Tracks] {m:List MendS} (hl:m.length<=1000000):ConP prog 143 [zcr m] (.int .i64 (zef m)):=by
 refine uOb func143 ntmps143 ?_;refine gz9 ?_;refine uCo (fun h1=> ?_) fun h2=> ?_
 ·refine gz4 ?_;refine uRp ?_
  (rw [zef,if_pos uO];done)
 ·refine gz9 ?_;refine uT1 [2,3,10,57] (fun k=>[(10,.int .i64 k)]) (fun k=>[]) (fun k=>k<=m.length/\(zdq zaH zd2 zdL m 0 m=zdq zaH zd2 zdL m k (m.drop k))) (fun k=>m.length-k) (0) ?_ ?_
  ·exact ⟨Ad _,rfl⟩
  ·rintro k ⟨hk,hg⟩;refine gz4 ?_;refine uCo (fun h3=> ?_) fun h4=> ?_
   ·obtain ⟨x,hx⟩: ∃x,m[k]? =some x:=⟨_,Aa h3⟩
    have hdx:=zg hx;rw [hdx] at hg;refine gz8 ?_;refine de rfl (zj zgs rfl fun b4=> ?_)
    refine gz1 ?_;refine de0 (zo zgs rfl rfl rfl rfl rfl ?_)
    refine gz1 ?_;refine zf (zp 4 rfl) ?_;refine gz4 ?_;refine dq (uCl zcp rfl zah) ?_;refine gz4 ?_;refine uGr rfl (fun hc=>uCl zcp rfl zah) ?_;refine gz5 ?_;refine uGr rfl (fun hc=>uCl zcp rfl zah) ?_;refine gz4 ?_;refine uCo (fun h5=> ?_) fun h6=> ?_
    ·refine gz4 ?_;refine uRp ?_
     (refine congrArg _ (zjo (c:=5) uO hg (by decide) ?_)
      rw [zaH,if_pos]
      simp_all
      done)
    ·refine gz3 ?_;refine dq (uCl zkI rfl zcl) ?_;refine gz4 ?_;refine uGr rfl (fun hc=>uCl zbu rfl zac) ?_;refine gz4 ?_;refine uGr rfl (fun hc=>uCl zhx rfl zaZ) ?_;refine gz5 ?_;refine uGr rfl (fun hc=>uCl zbu rfl zac) ?_;refine gz3 ?_;refine uCo (fun h7=> ?_) fun h8=> ?_
     ·refine gz4 ?_;refine uRp ?_
      (refine congrArg _ (zjo (c:=1) uO hg (by decide) ?_)
       rw [zaH,if_neg,if_pos]
       all_goals simp_all
       done)
     ·refine uDr mixed ?_;refine gz7 ?_;refine uGy 7 rfl rfl (fun hc=>by have hq:=hc;(try simp at hq);exact zD (j:=k-1) (a:=m.getD (k-1) zdL) zk9 zgs rfl rfl uO (getD_some uO)) ?_;refine gz1 ?_;refine uGy 9 rfl rfl (fun hc=>uCl zzW rfl zno) ?_;refine gz4 ?_;refine uCo (fun h9=> ?_) fun h10=> ?_
      ·refine gz4 ?_;refine uRp ?_
       (refine congrArg _ (zpY uO hg ?_ ?_ ?_)
        ·rw [zaH,if_neg,if_neg]<;>simp_all
        ·simp_all
        ·simp_all)
      ·refine gz8 ?_;refine ⟨k+1,?_,?_,⟨rfl,trivial⟩,uK,Ab _⟩
       ·refine ⟨by omega,?_⟩
        rw [hg,zrj (by rw [zaH,if_neg uSa,if_neg uSa]) (by intro hk0;simp_all;try omega)]
       ·dsimp only;omega
   ·have hnk:m.length<=k:=by omega
    obtain rfl:k=m.length:=by omega
    rw [zH (Ae _)] at hg;refine gz2 ?_;refine zt ?_;refine gz6 ?_;refine uRp ?_
    (rw [zef,if_neg uO,hg];rfl)
end
section
open Go.Proofs.Tryz
open Go.HL
theorem zxb [Tracks]:KeyOk prog 319 zgJ:=zgg (cs:=fun x:Num=>zb (zgJ x)) zoL zAI (fun x y=>⟨rfl,⟨_,_,_,_,ty9,rfl⟩,⟨rfl,⟨_,_,_,_,ty3,rfl⟩,trivial⟩⟩)
 (fun x y=>by obtain ⟨a,b⟩:=x;obtain ⟨c,d⟩:=y;show (_&&(_&&true))=_;rw [AL];simp [eqH,Prod.mk.injEq]) (fun x=>rfl)
theorem zlN [Tracks] {T:List Str} {l:List GameS} (hT:T.length<=1000000) (hl:l.length<=1000000) (hb:(∀x∈l,((-1000000000<=x.FNum/\x.FNum<=1000000000)/\ -1000000000<=x.FDen/\x.FDen<=1000000000)/\((-1000000000<=x.ONum/\x.ONum<=1000000000)/\ -1000000000<=x.ODen/\x.ODen<=1000000000))):ConP prog 181 [eSs T,zj8 l] (.int .i64 (zfj T l)):=by
 refine uOb func181 ntmps181 ?_;refine gz6 ?_;refine dq (uCl zAb rfl (zlO hT)) ?_;refine gz6 ?_;refine uCo (fun h1=> ?_) fun h2=> ?_
 ·refine gz5 ?_;refine zae Ghost.clear rfl ⟨?_,rfl⟩
  show HVal.int .i64 _=_
  try rw [hE]
  (rw [zfj,if_pos (by assumption)];done)
 ·refine gz3 ?_;have hz:zct T=0:=by first|assumption|simp_all
  have hE:zfj T l=zdB T l:=by rw [zfj,if_neg (by simp [hz])]
  refine gz5 ?_;refine uCo (fun h3=> ?_) fun h4=> ?_
  ·refine gz4 ?_;refine zae Ghost.clear rfl ⟨?_,rfl⟩
   show HVal.int .i64 _=_
   try rw [hE]
   (refine congrArg _ (zdj (zb9 ?_) (by decide))
    omega)
  ·refine gz3 ?_;refine de rfl (zaM fun m22=> ?_)
   refine zan ?_;refine uV1 [4,1,7,4,12,2,25,70] (fun (k:Nat)=>[(25,.int .i64 k),(7,.bool (ziE l k))]) (fun (k:Nat)=>[.map m22 (kk zgJ (em HVal.bool (zh8 (l.take k))))]) (fun (k:Nat)=>k<=l.length/\(zaR (zb2 T) zdK l 0 l=zaR (zb2 T) zdK l k (l.drop k))) (fun (k:Nat)=>l.length-k) (0) ?_ ?_ ?_ ?_
   ·exact ⟨Ad _,rfl⟩
   ·exact ⟨rfl,rfl,trivial⟩
   ·exact zu rfl
   ·intro k hinv
    obtain ⟨hk,hg⟩:=hinv;refine gz4 ?_;refine uCo (fun h5=> ?_) fun h6=> ?_
    ·obtain ⟨x,hx⟩: ∃x,l[k]? =some x:=⟨_,Aa h5⟩
     have hdx:=zg hx;rw [hdx] at hg;refine gz6 ?_;refine dq (zD zeX zbO rfl rfl rfl (by assumption)) ?_;refine gz1 ?_;refine de rfl (zj zbO rfl fun b9=> ?_)
     refine gz1 ?_;refine de0 (zo zbO rfl rfl rfl rfl rfl ?_)
     refine gz1 ?_;refine zf (zp 9 rfl) ?_;refine gz5 ?_;refine dq (uCl zkI rfl zcl) ?_;refine gz3 ?_;refine uCo (fun h7=> ?_) fun h8=> ?_
     ·refine gz4 ?_;refine zae Ghost.clear rfl ⟨?_,rfl⟩
      show HVal.int .i64 _=_
      try rw [hE]
      (refine congrArg _ (zdj (e:=1) (zG ?_ hg ?_ ?_) ?_)
       ·omega
       ·unfold zb2
        simp_all
        done
       ·first|decide|assumption
       ·first|decide|assumption)
     ·refine gz4 ?_;refine dq (uCl zeG rfl (zv (l:=T) (s:=x.Home) uO)) ?_;refine gz5 ?_;refine uGr rfl (fun hc=>by have hq:=hc;(try simp at hq);exact uCl zeG rfl (zv (l:=T) (s:=x.Away) uO)) ?_;refine gz4 ?_;refine uCo (fun h9=> ?_) fun h10=> ?_
      ·refine gz4 ?_;refine zae Ghost.clear rfl ⟨?_,rfl⟩
       show HVal.int .i64 _=_
       try rw [hE]
       (refine congrArg _ (zdj (e:=8) (zG ?_ hg ?_ ?_) ?_)
        ·omega
        ·unfold zb2
         simp_all
         done
        ·first|decide|assumption
        ·first|decide|assumption)
      ·refine gz8 ?_;refine uCo (fun h11=> ?_) fun h12=> ?_
       ·refine gz4 ?_;refine zae Ghost.clear rfl ⟨?_,rfl⟩
        show HVal.int .i64 _=_
        try rw [hE]
        (refine congrArg _ (zdj (e:=6) (zG ?_ hg ?_ ?_) ?_)
         ·omega
         ·unfold zb2
          simp_all
          done
         ·first|decide|assumption
         ·first|decide|assumption)
       ·refine gz5 ?_;refine dq (zbD (h:=zaJ x) zbO rfl rfl rfl rfl) ?_;refine dq (uCl zAc rfl (zlo (x:=x) (hb x (Ac hx)))) ?_;refine gz6 ?_;refine uCo (fun h13=> ?_) fun h14=> ?_
        ·refine gz5 ?_;refine zae Ghost.clear rfl ⟨?_,rfl⟩
         show HVal.int .i64 _=_
         try rw [hE]
         (refine congrArg _ (zdj (e:=(zge x)) (zG ?_ hg ?_ ?_) ?_)
          ·omega
          ·unfold zb2
           simp_all
           done
          ·first|decide|assumption
          ·first|decide|assumption)
        ·refine gz3 ?_;refine uDr mixed ?_;refine gz7 ?_;refine uGy 7 rfl rfl (fun hc=>by have hq:=hc;(try simp at hq);exact zD (j:=k-1) (a:=l.getD (k-1) zdK) zeX zbO rfl rfl uO (getD_some uO)) ?_;refine gz1 ?_;refine uGy 9 rfl rfl (fun hc=>uCl zAd rfl zoY) ?_;refine gz3 ?_;refine uCo (fun h15=> ?_) fun h16=> ?_
         ·refine gz4 ?_;refine zae Ghost.clear rfl ⟨?_,rfl⟩
          show HVal.int .i64 _=_
          try rw [hE]
          (refine congrArg _ (zdj (e:=7) (zG ?_ hg ?_ ?_) ?_)
           ·omega
           ·unfold zb2
            simp_all
            done
           ·first|decide|assumption
           ·first|decide|assumption)
         ·refine gz2 ?_;have hne:x.Home≠x.Away:=by first|assumption|simp_all
          have hg0:zb2 T k x (l.getD (k-1) zdK)=0:=by unfold zb2;simp_all
          refine gz5 ?_;refine dq (za (hs:=[_,_]) zk ty9 rfl rfl (by decide) (by decide) rfl) ?_;refine dq (zao (f:=HVal.str) (l:=[x.Home,x.Away]) zk rfl) ?_;refine gz3 ?_;refine uV1 [7,1,12,2,77,17] (fun (j:Nat)=>[(77,.int .i64 j),(7,.bool (inC l x k j))]) (fun (j:Nat)=>[.map m22 (kk zgJ (em HVal.bool (inM l x k j)))]) (fun (j:Nat)=>j<=[x.Home,x.Away].length/\(True)) (fun (j:Nat)=>[x.Home,x.Away].length-j) (0) ?_ ?_ ?_ ?_
          ·exact ⟨Ad _,trivial⟩
          ·exact ⟨rfl,congrArg (fun q=>some (HVal.bool q)) zsL.1.symm,trivial⟩
          ·exact zu (by rw [zsL.2])
          ·intro j hinv
           obtain ⟨hj,-⟩:=hinv;refine gz4 ?_;refine uCo (fun h17=> ?_) fun h18=> ?_
           ·obtain ⟨s,hs⟩: ∃s,[x.Home,x.Away][j]? =some s:=⟨_,Aa (by show j<2;omega)⟩
            have hds:=zg hs;refine gz5 ?_;refine dq (zD zk ty9 rfl rfl rfl (by assumption)) ?_;refine gz3 ?_;obtain ⟨st1,st2⟩:=zxB (l:=l) (k:=k) hne hs;refine gz4 ?_;refine dq (zI (cs:=[_,_]) zoL zA3 rfl) ?_;refine de rfl (zj zoL rfl fun b13=> ?_)
            refine de0 (zo zoL rfl rfl rfl rfl rfl ?_)
            refine gz1 ?_;refine zf (zp 13 rfl) ?_;refine gz5 ?_;refine dgl rfl rfl (fun hc=>⟨_,OpenTo.upd (t:=88) rfl (hc) (OpenTo.upd (t:=87) rfl (hc) (OpenTo.refl _)),zeK (i:=0) (f:=HVal.bool) (L:=inM l x k j) (s:=(s,x.Week)) (z0:=false) zxj zxb ty4 rfl rfl rfl rfl ⟨rfl,rfl⟩⟩) ?_;refine gz6 ?_;refine de0 (ziH (i:=0) (f:=HVal.bool) (v:=true) (s:=(s,x.Week)) (L:=inM l x k j) zxj zxb rfl rfl rfl rfl ?_)
            refine gz7 ?_;exact ⟨j+1,⟨by show j+1<=2;omega,trivial⟩,by show 2-(j+1)<2-j;omega,⟨rfl,congrArg (fun q=>some (HVal.bool q)) (by rw [<-st1];cases inC l x k j<;>rfl),trivial⟩,uK,zu (by dsimp only;rw [<-st2];rfl)⟩
           ·refine gz2 ?_;refine zt ?_;refine gz7 ?_;have e2:j=2:=by (have q:[x.Home,x.Away].length=2:=rfl;omega)
            subst e2;obtain ⟨t1,t2⟩:=zyw hx;exact ⟨k+1,⟨by omega,by rw [hg,zaP hg0]⟩,uD,⟨rfl,congrArg (fun q=>some (HVal.bool q)) t1,trivial⟩,uK,zu (by dsimp only;rw [t2])⟩
    ·have hnk:l.length<=k:=by omega
     obtain rfl:k=l.length:=by omega
     rw [zH (Ae _)] at hg;refine gz2 ?_;refine zt ?_;refine gz6 ?_;refine uCo (fun h19=> ?_) fun h20=> ?_
     ·refine gz4 ?_;refine zae Ghost.clear rfl ⟨?_,rfl⟩
      show HVal.int .i64 _=_
      try rw [hE]
      (rw [zsH ?_ hg,if_pos (by assumption)]
       omega)
     ·refine gz6 ?_;refine zae Ghost.clear rfl ⟨?_,rfl⟩
      show HVal.int .i64 _=_
      try rw [hE]
      (rw [zsH ?_ hg,if_neg uSa]
       omega)
theorem zkx [Tracks] {l:List Int} (hl:l.length<=1000000):ConP prog 183 [.slice 1 (l.map (HVal.int .i64))] (.int .i64 (zhs l)):=by
 refine uOb func183 ntmps183 ?_;refine gz9 ?_;refine uCo (fun h1=> ?_) fun h2=> ?_
 ·refine gz4 ?_;refine uRp ?_
  (rw [zhs,if_pos uO];done)
 ·refine gz9 ?_;refine uT1 [2,3,10,13] (fun k=>[(10,.int .i64 k)]) (fun k=>[]) (fun k=>k<=l.length/\(zdo l 0 l=zdo l k (l.drop k))) (fun k=>l.length-k) (0) ?_ ?_
  ·exact ⟨Ad _,rfl⟩
  ·rintro k ⟨hk,hg⟩;refine gz4 ?_;refine uCo (fun h3=> ?_) fun h4=> ?_
   ·obtain ⟨x,hx⟩: ∃x,l[k]? =some x:=⟨_,Aa h3⟩
    have hdx:=zg hx;rw [hdx] at hg;refine zdS ?_;refine dq (uCl zbu rfl zac) ?_;refine gz1 ?_;refine uCo (fun h5=> ?_) fun h6=> ?_
    ·refine gz4 ?_;refine uRp ?_
     (refine congrArg _ (zmA (e:=4) ?_ hg ?_)
      ·omega
      ·rw [zdo]
       simp_all
       done)
    ·refine gz5 ?_;refine dq (zaL z6 ty3 rfl rfl ⟨_,_,rfl,rfl⟩ uO uO) ?_;refine gz1 ?_;refine dq (uCl zwQ rfl (zes (l:=l.take k) (z:=x) (by rw [AD];omega))) ?_;refine gz1 ?_;refine uCo (fun h7=> ?_) fun h8=> ?_
     ·refine gz4 ?_;refine uRp ?_
      (refine congrArg _ (zmA (e:=6) ?_ hg ?_)
       ·omega
       ·rw [zdo]
        simp_all
        done)
     ·refine gz7 ?_;refine ⟨k+1,?_,?_,⟨rfl,trivial⟩,uK,Ab _⟩
      ·refine ⟨by omega,?_⟩
       rw [hg,zdo,if_neg uSa,if_neg uSa]
      ·dsimp only;omega
   ·have hnk:l.length<=k:=by omega
    obtain rfl:k=l.length:=by omega
    rw [zH (Ae _)] at hg;refine gz2 ?_;refine zt ?_;refine gz6 ?_;refine uRp ?_
    (refine congrArg _ (zsz ?_ hg)
     omega)
theorem zeD [Tracks] {l:List GameS} {fid:FuncId} {caps:List HVal} {p:GameS->Bool} (hca:Callable prog fid) (hp: ∀x,ConP prog fid ([zaJ x]++caps) (.bool (p x))) (hl:l.length<=1000000):ConP prog 213 [.slice 8 (l.map zaJ),.fn (.func fid) [] caps] (.int .i64 (zab p l 0)):=by
 refine uOb func213 ntmps213 ?_;refine zan ?_;refine uT1 [4,2,8,11] (fun k=>[(8,.int .i64 k)]) (fun k=>[]) (fun k=>k<=l.length/\(zab p l 0=zab p (l.drop k) k)) (fun k=>l.length-k) (0) ?_ ?_;exact ⟨Ad _,rfl⟩;rintro k ⟨hk,hg⟩;refine gz4 ?_;refine uCo (fun h1=> ?_) fun h2=> ?_
 obtain ⟨x,hx⟩: ∃x,l[k]? =some x:=⟨_,Aa h1⟩
 have hdx:=zg hx;rw [hdx] at hg;refine zdS ?_;refine dq (zaw hca rfl rfl (WeakL.refl _) (hp _)) ?_;refine gz1 ?_;refine uCo (fun h3=> ?_) fun h4=> ?_
 refine gz5 ?_;refine uRp ?_
 (rw [hg];simp_all [zab])
 refine gz7 ?_;refine ⟨k+1,?_,?_,⟨rfl,trivial⟩,uK,Ab _⟩
 refine ⟨by omega,?_⟩
 rw [hg,zab,if_neg uSa];rfl
 dsimp only;omega
 have hnk:l.length<=k:=by omega
 obtain rfl:k=l.length:=by omega
 rw [zH (Ae _)] at hg;refine gz2 ?_;refine zt ?_;refine gz6 ?_;refine uRp ?_
 (rw [hg];rfl)
theorem zba [Tracks] {l:List GameS} {fid:FuncId} {caps:List HVal} {p:GameS->Bool} (hca:Callable prog fid) (hp: ∀x,ConP prog fid ([zaJ x]++caps) (.bool (p x))) (hl:l.length<=1000000):ConP prog 129 [.slice 8 (l.map zaJ),.fn (.func fid) [] caps] (.bool (l.any p)):=by
 refine uOb func129 ntmps129 ?_;refine gz6 ?_;refine dq (uCl zzU rfl (zeD hca hp hl)) ?_;refine gz4 ?_;refine zw rfl ?_
 congr 1;exact zcW p l 0 uO
theorem zjI [Tracks] {x:GameS}:ConP prog 182 [zaJ x] (.bool x.Played):=by
 refine uOb func182 ntmps182 ?_;refine zan ?_;refine zw rfl ?_
 rfl
theorem zkw [Tracks] {g:LeagueS} (hT:Tracks.on=false) (hb:LeaB g):ConP prog 101 [zej g] (.int .i64 (zb3 g)):=by
 have hst:=hb.sta;refine uOb func101 ntmps101 ?_;refine gz5 ?_;refine uDr mixed ?_;refine gz4 ?_;refine uB 4 rfl (uCl zwG rfl (zf4 (L:=g.Players) (l:=g.Stints) hT hb.pl hb.nm hb.po hb.st)) ?_;refine gz2 ?_;refine uB 7 rfl (uCl zwH rfl (zfq (l:=g.Fixtures) hb.fx)) ?_;refine gz2 ?_;refine uB 10 rfl (uCl zzA rfl (zlQ (l:=g.Rules) hb.ru hb.rw')) ?_;refine gz2 ?_;refine uB 13 rfl (uCl zzB rfl (zlR (l:=g.Slots) hb.sl hb.sp)) ?_;refine gz1 ?_;refine uB 15 rfl (zau (h':=zdR g.Bounds) (zaY zfO rfl rfl (Ao rfl)) rfl) ?_;refine uB 16 rfl (uCl zwD rfl (zf5 (b:=g.Bounds))) ?_;refine gz4 ?_;refine uB 21 rfl (uCl zzC rfl (zlN (T:=g.Teams) (l:=g.Games) hb.tm hb.ga hb.gb)) ?_;refine uB 22 rfl (za (hs:=[_,_,_,_,_,_]) zdN zfP rfl rfl (by decide) (by decide) rfl) ?_;refine uB 23 rfl (uCl zkJ rfl (zb0 (l:=[_,_,_,_,_,_]) (by simp))) ?_;refine gz6 ?_;refine uCo (fun h1=> ?_) fun h2=> ?_
 refine gz5 ?_;refine uRp ?_;unfold zb3 zgh zjT zc0
 (rw [if_pos (by assumption)])
 refine gz6 ?_;refine dq (uCl zti rfl (zba (l:=g.Games) (p:=fun x=>x.Played) zzD (fun _=>zjI) hb.ga)) ?_;refine gz1 ?_;refine uCo (fun h3=> ?_) fun h4=> ?_
 refine gz4 ?_;refine uRp ?_;unfold zb3 zgh zjT zc0
 (rw [if_neg (fun q=>q h2),if_pos uSa])
 refine gz3 ?_;refine uDr mixed ?_;refine gz2 ?_;refine uB 2 rfl (uCl zzE rfl (zkx (l:=g.Breaks) hb.br)) ?_;refine gz2 ?_;refine uB 5 rfl (uCl ca83 rfl (zhH (l:=g.Trust) hb.tr)) ?_;refine uB 6 rfl (za (hs:=[_,_]) zdN zfP rfl rfl (by decide) (by decide) rfl) ?_;refine uB 7 rfl (uCl zkJ rfl (zb0 (l:=[_,_]) (by simp))) ?_;refine gz6 ?_;refine uCo (fun h5=> ?_) fun h6=> ?_
 refine gz5 ?_;refine uRp ?_;unfold zb3 zgh zjT zc0
 (rw [if_neg (fun q=>q h2),if_neg uSa,if_pos (by assumption)])
 refine gz6 ?_;refine dq (uCl zhx rfl zaZ) ?_;refine gz8 ?_;refine uCo (fun h7=> ?_) fun h8=> ?_
 refine gz4 ?_;refine uRp ?_;unfold zb3 zgh zjT zc0
 (rw [if_neg (fun q=>q h2),if_neg uSa,if_neg (fun q=>q h6),if_pos uSa])
 refine gz6 ?_;refine uRp ?_;unfold zb3 zgh zjT zc0
 (rw [if_neg (fun q=>q h2),if_neg uSa,if_neg (fun q=>q h6),if_neg uSa])
theorem zmX [Tracks] {a b:ChoiceS}:ConP prog 222 [zag a,zag b] (.int .i64 (zi5 a b)):=by
 refine uOb func222 ntmps222 ?_;refine gz5 ?_;refine uDr mixed ?_;refine gz4 ?_;refine uB 4 rfl (uCl zbV rfl zJ) ?_;refine gz4 ?_;refine uB 9 rfl (uCl zcw rfl zP) ?_;refine gz4 ?_;refine uB 14 rfl (uCl zcw rfl zP) ?_;refine uB 15 rfl (za (hs:=[_,_,_]) z6 ty3 rfl rfl (by decide) (by decide) rfl) ?_;refine uB 16 rfl (uCl ze6 rfl (za0 (l:=[_,_,_]) (by simp))) ?_;refine gz3 ?_;refine zw rfl ?_
 rfl
theorem zj2 [Tracks] {b:BookS} {l:List ChoiceS} (hb:BookB b) (hl:l.length<=1000000) (hc: ∀x∈l,x.Players.length<=1000000):ConP prog 145 [.vptr (zws b) 0,zfJ l] (.int .i64 (zo6 b.League.Teams b.League.Slots.length l)):=by
 have hsl:=hb.lea.sl;have htm:=hb.lea.tm;refine uOb func145 ntmps145 ?_;refine gz9 ?_;refine uCo (fun h1=> ?_) fun h2=> ?_
 refine gz4 ?_;refine uRp ?_
 (refine congrArg _ (zb9 ?_)
  omega)
 refine gz9 ?_;refine uT1 [4,3,8,1,14,68] (fun k=>[(14,.int .i64 k)]) (fun k=>[]) (fun k=>k<=l.length/\(zaR (zbv b.League.Teams b.League.Slots.length) ze7 l 0 l=zaR (zbv b.League.Teams b.League.Slots.length) ze7 l k (l.drop k))) (fun k=>l.length-k) (0) ?_ ?_;exact ⟨Ad _,rfl⟩;rintro k ⟨hk,hg⟩;refine gz4 ?_;refine uCo (fun h3=> ?_) fun h4=> ?_
 obtain ⟨x,hx⟩: ∃x,l[k]? =some x:=⟨_,Aa h3⟩
 have hdx:=zg hx;rw [hdx] at hg;refine gz6 ?_;refine dq (zD zdG zdh rfl rfl rfl (by assumption)) ?_;refine gz1 ?_;refine de rfl (zj zdh rfl fun b6=> ?_)
 refine gz1 ?_;refine de0 (zo zdh rfl rfl rfl rfl rfl ?_)
 refine gz1 ?_;refine zf (zp 6 rfl) ?_;refine gz2 ?_;refine uDr mixed ?_;refine gz6 ?_;refine uB 6 rfl (uCl zeG rfl (zv (l:=b.League.Teams) (s:=x.Team) uO)) ?_;refine gz3 ?_;refine uCo (fun h5=> ?_) fun h6=> ?_
 refine gz4 ?_;refine uRp ?_
 (refine congrArg _ (zG (e:=8) ?_ hg ?_ ?_)
  omega
  unfold zbv;exact uT
  first|decide|assumption)
 refine gz3 ?_;refine dq (uCl zkI rfl zcl) ?_;refine gz4 ?_;refine uGr rfl (fun hc=>uCl zhx rfl zaZ) ?_;refine gz4 ?_;refine uCo (fun h7=> ?_) fun h8=> ?_
 refine gz4 ?_;refine uRp ?_
 (refine congrArg _ (zG (e:=1) ?_ hg ?_ ?_)
  omega
  unfold zbv;exact uT
  first|decide|assumption)
 refine uDr mixed ?_;refine gz2 ?_;refine uB 2 rfl (zao (f:=HVal.str) (l:=x.Players) zk rfl) ?_;refine gz4 ?_;refine uB 7 rfl (zao (f:=za6) (l:=b.League.Slots) zdF rfl) ?_;refine gz3 ?_;refine uCo (fun h9=> ?_) fun h10=> ?_
 refine gz4 ?_;refine uRp ?_
 (refine congrArg _ (zG (e:=3) ?_ hg ?_ ?_)
  omega
  unfold zbv;exact uT
  first|decide|assumption)
 refine gz4 ?_;have hcx:=hc x (Ac hx);refine uDr mixed ?_;refine gz2 ?_;refine uA 3 ?_;refine gz1 ?_;refine uB 5 rfl (za (hs:=[_]) zk ty9 rfl rfl (by decide) (by decide) rfl) ?_;refine uA 8 ?_;refine uF 2 ?_;refine zq rfl (uCa zkH rfl (zad (l:=x.Players) hcx) fun v51=> ?_)
 refine ⟨uE,?_⟩
 refine uF 6 ?_;refine zq rfl (zjW (N:=[]) (sz:=1) (es:=(x.Players++[x.Captain]).map .str) 0 (zO (i:=0) (v:=v51) (es:=x.Players.map .str) (ys:=[.str x.Captain]) zk ty9 rfl rfl rfl rfl rfl (by simp [zax,zb]) uSo fun v55=>⟨v55,rfl,by rw [AB];rfl,rfl⟩) ?_)
 refine ⟨uE,?_⟩
 refine uB 7 rfl (zao (f:=HVal.str) (l:=x.Players++[x.Captain]) zk rfl) ?_;refine uAz ?_;refine gz1 ?_;refine uT1 [4,1,8,1,57,12] (fun j=>[(57,.int .i64 j)]) (fun j=>[]) (fun j=>j<=(x.Players++[x.Captain]).length/\(∀s∈(x.Players++[x.Captain]).take j,zby s=true)) (fun j=>(x.Players++[x.Captain]).length-j) (0) ?_ ?_;exact ⟨Ad _,by simp⟩;rintro j ⟨hj,hnm⟩;have hlen:(x.Players++[x.Captain]).length=x.Players.length+1:=by simp
 refine gz4 ?_;refine uCo (fun h11=> ?_) fun h12=> ?_
 obtain ⟨s,hs⟩: ∃s,(x.Players++[x.Captain])[j]? =some s:=⟨_,Aa (by rw [AA];simp;omega)⟩
 have hds:=zg hs;refine gz5 ?_;refine dq (zD zk ty9 rfl rfl rfl (by assumption)) ?_;refine gz8 ?_;refine uGr rfl (fun hc=>uCl zcp rfl zah) ?_;refine gz3 ?_;refine uCo (fun h13=> ?_) fun h14=> ?_
 refine gz4 ?_;refine uRp ?_
 (obtain ⟨q1,q2⟩: ¬s=[]/\key s=false:=by first|assumption|simp_all
  have g1:zbv b.League.Teams b.League.Slots.length k x (l.getD (k-1) ze7)=5:=by
   unfold zbv;rw [if_neg uSa,if_neg uSa,if_neg (fun q=>q uO),if_pos (zuZ (Ac hs) (zxM q1 q2))]
  exact congrArg _ (zG (e:=5) uO hg g1 (by decide)))
 refine gz7 ?_;refine ⟨j+1,?_,?_,⟨rfl,trivial⟩,uK,Ab _⟩
 refine ⟨by omega,fun s' hs'=> ?_⟩
 rw [zaj hs] at hs'
 rcases List.mem_append.1 hs' with q|q
 exact hnm s' q;rw [List.mem_singleton.1 q];exact zxN (by intro q2;simp_all)
 dsimp only;omega
 have hnj:(x.Players++[x.Captain]).length<=j:=by omega
 obtain rfl:j=(x.Players++[x.Captain]).length:=by omega
 rw [An] at hnm;refine gz2 ?_;refine zt ?_;refine gz2 ?_;have hall:((x.Players++[x.Captain]).all zby)=true:=by
  rw [List.all_eq_true]
  intro s hs
  exact hnm s hs
 refine uDr mixed ?_;refine gz7 ?_;refine uGy 7 rfl rfl (fun hc=>by have hq:=hc;(try simp at hq);exact zD (j:=k-1) (a:=l.getD (k-1) ze7) zdG zdh rfl rfl uO (getD_some uO)) ?_;refine gz1 ?_;refine uGy 9 rfl rfl (fun hc=>uCl zzX rfl zmX) ?_;refine gz3 ?_;refine uCo (fun h15=> ?_) fun h16=> ?_
 refine gz4 ?_;refine uRp ?_
 (refine congrArg _ (zG (e:=7) ?_ hg ?_ ?_)
  omega
  unfold zbv;exact uT
  first|decide|assumption)
 refine gz7 ?_;refine ⟨k+1,?_,?_,⟨rfl,trivial⟩,uK,Ab _⟩
 refine ⟨by omega,?_⟩
 rw [hg,zaP (by unfold zbv;(try clear hdx hg);(try simp only [Af]);focus first|(simp_all;done)|((repeat' split)<;>focus first|rfl|(exfalso;omega)|(simp_all;done)|(exfalso;rcases ‹_\/_› with q|q<;>simp_all;done)|(exfalso;simp_all;omega)))]
 dsimp only;omega
 have hnk:l.length<=k:=by omega
 obtain rfl:k=l.length:=by omega
 rw [zH (Ae _)] at hg;refine gz2 ?_;refine zt ?_;refine gz6 ?_;refine uRp ?_
 (refine congrArg _ (zbS ?_ hg)
  omega)
theorem zhc [Tracks] {b:BookS} (hT:Tracks.on=false) (hb:BookB b) (hw: ∀x∈b.Health,-1000000000000000<=x.To/\x.To<=1000000000000000):ConP prog 66 [zbW b] (.int .i64 (zck b)):=by
 refine uOb func66 ntmps66 ?_;refine gz7 ?_;refine dq (zau (h':=zej b.League) (zaY zaS rfl rfl (Ao rfl)) rfl) ?_;refine dq (uCl zyX rfl (zkw (g:=b.League) hT hb.lea)) ?_;refine gz6 ?_;refine uCo (fun h1=> ?_) fun h2=> ?_
 refine gz5 ?_;refine uRp ?_;unfold zck
 (rw [if_pos (by assumption)])
 refine gz2 ?_;refine uDr mixed ?_;refine gz2 ?_;refine uB 2 rfl (uCl zwB rfl (zgB (l:=b.Moves) hb.mv)) ?_;refine gz2 ?_;refine uB 5 rfl (uCl ca82 rfl (zhG (l:=b.Plays) hb.pl)) ?_;refine gz2 ?_;refine uB 8 rfl (uCl zzg rfl (zm0 (m:=b.Mends) hb.me)) ?_;refine gz5 ?_;refine uB 14 rfl (uCl zwC rfl (zf3 (L:=b.League.Players) (l:=b.Health) hT hb.lea.pl hb.lea.nm hb.lea.po hb.he hw)) ?_;refine gz3 ?_;refine uB 18 rfl (uCl zzh rfl (zj2 (b:=b) (l:=b.Choices) hb hb.ch hb.cp)) ?_;refine uB 19 rfl (za (hs:=[_,_,_,_,_]) zdN zfP rfl rfl (by decide) (by decide) rfl) ?_;refine uB 20 rfl (uCl zkJ rfl (zb0 (l:=[_,_,_,_,_]) (by simp))) ?_;refine gz3 ?_;refine uRp ?_;unfold zck
 (rw [if_neg (fun q=>q h2),<-zyt (fun q=>q h2)])
end
section
open Go.Proofs.Tryz
open Go.HL
theorem zaN [Tracks] {n lo hi:Int}:ConP prog 134 [.int .i64 n,.int .i64 lo,.int .i64 hi] (.bool (!(out n lo hi))):=by
 refine uOb func134 ntmps134 ?_;refine ziK ?_;refine zw rfl ?_
 show HVal.bool _=_
 congr 1;simp [out];rw [AL];simp;try omega
theorem zfE [Tracks] {n:Int}:ConP prog 116 [.int .i64 n] (.int .i64 (zk3 n)):=by
 refine uOb func116 ntmps116 ?_;refine zan ?_;refine uCo (fun h1=> ?_) fun h2=> ?_
 refine gz4 ?_;refine uRp ?_;unfold zk3
 (rw [if_pos uO])
 refine gz5 ?_;refine uCo (fun h3=> ?_) fun h4=> ?_
 refine gz4 ?_;refine uRp ?_;unfold zk3
 (rw [if_neg uO,if_pos uO])
 refine gz7 ?_;refine uRp ?_;unfold zk3
 (rw [if_neg uO,if_neg uO])
theorem ziA [Tracks] {s l:Str} (hs:s.length<=1000000):ConP prog 215 [.str s,.str l] (.bool (zgl s l)):=by
 refine uOb func215 ntmps215 ?_;refine zan ?_;refine uT1 [4,2,8,10] (fun k=>[(8,.int .i64 (k:Int))]) (fun k=>[]) (fun k=>k<=s.length/\zgl s l=zgl (s.drop k) l) (fun k=>s.length-k) (0) ?_ ?_;exact ⟨Ad _,rfl⟩;rintro k ⟨hk,hg⟩;refine gz4 ?_;refine uCo (fun h1=> ?_) fun h2=> ?_
 obtain ⟨x,hx⟩: ∃x,s[k]? =some x:=⟨_,Aa uO⟩
 have hd:=zg hx;rw [hd] at hg;refine zdC ?_;refine dq (zaG (j:=k) (b:=x) ty9 rfl rfl rfl hx) ?_;refine dq (uCl zwT rfl (zgC (s:=l) (c:=x.toNat))) ?_;refine gz2 ?_;refine uCo (fun h3=> ?_) fun h4=> ?_
 refine gz4 ?_;refine zw rfl ?_
 show HVal.bool _=_
 rw [hg]
 (rw [zyJ (by assumption)])
 refine gz7 ?_;refine ⟨k+1,?_,?_,⟨rfl,trivial⟩,uK,Ab _⟩
 refine ⟨by omega,?_⟩
 rw [hg,zyK (by assumption)]
 dsimp only;omega
 rw [zH uO] at hg;refine gz2 ?_;refine zt ?_;refine gz6 ?_;refine zw rfl ?_
 show HVal.bool _=_
 rw [hg]
 rfl
theorem zaU [Tracks] {s:Str}:ConP prog 135 [.str s] (.bool (key s)):=by
 refine uOb func135 ntmps135 ?_;refine gz6 ?_;refine dq (uCl ze5 rfl zaN) ?_;refine gz2 ?_;refine dg rfl rfl (fun hc=>by
  have hb:=zeu (n:=(s.length:Int)) (lo:=1) (hi:=40) (by simpa using hc);exact ⟨_,OpenTo.upd (t:=7) rfl (hc) (OpenTo.refl _),zgm (l:=0) (h:=1) ty9 rfl rfl ⟨_,_,rfl,by omega⟩ uO uO⟩) ?_
 refine uGr rfl (fun hc=>by have hq:=hc;(try simp at hq);exact uCl zwR rfl (ziA (s:=s.take 1) (l:=zim) (by rw [AD];omega))) ?_;refine gz3 ?_;refine dg rfl rfl (fun hc=>by
  have hb:=zeu (n:=(s.length:Int)) (lo:=1) (hi:=40) (by (have q:=hc;simp at q;exact q.1));exact ⟨_,OpenTo.upd (t:=12) rfl (hc) (OpenTo.refl _),uCl zwR rfl (ziA (s:=s) (l:=zfy) uO)⟩) ?_
 refine gz4 ?_;refine zw rfl ?_
 show HVal.bool _=_
 rw [zvM]
 simp
theorem zg9 [Tracks] {n:Int}:ConP prog 133 [.int .i64 n] (.bool (zT n)):=by
 refine uOb func133 ntmps133 ?_;refine gz5 ?_;refine dq (uCl ze5 rfl zaN) ?_;refine gz3 ?_;refine zw rfl ?_
 show HVal.bool _=_
 rfl
theorem zfD [Tracks] {n:Int}:ConP prog 206 [.int .i64 n] (.bool (zbd n)):=by
 refine uOb func206 ntmps206 ?_;refine gz5 ?_;refine dq (uCl ze5 rfl zaN) ?_;refine gz3 ?_;refine zw rfl ?_
 show HVal.bool _=_
 rfl
theorem zha [Tracks] {l:List Str} (hl:l.length<=1000000):ConP prog 210 [eSs l] (.int .i64 (zdm l)):=by
 refine uOb func210 ntmps210 ?_;refine zan ?_;refine uT1 [2,3,7,20] (fun k=>[(7,.int .i64 k)]) (fun k=>[]) (fun k=>k<=l.length/\(zdm l=zbg l k (l.drop k))) (fun k=>l.length-k) (0) ?_ ?_;exact ⟨Ad _,rfl⟩;rintro k ⟨hk,hg⟩;refine gz4 ?_;refine uCo (fun h1=> ?_) fun h2=> ?_
 obtain ⟨x,hx⟩: ∃x,l[k]? =some x:=⟨_,Aa h1⟩
 have hdx:=zg hx;rw [hdx] at hg;refine zdS ?_;refine dq (uCl zf9 rfl zaU) ?_;refine gz2 ?_;refine uCo (fun h3=> ?_) fun h4=> ?_
 refine gz4 ?_;refine uRp ?_;rw [hg];simp_all [zbg,leS];refine zan ?_;refine uGr rfl (fun hc=>by have hq:=hc;(try simp at hq);exact zD (j:=k-1) (a:=l.getD (k-1) []) zk ty9 rfl rfl uO (getD_some uO)) ?_;refine gz4 ?_;refine uCo (fun h5=> ?_) fun h6=> ?_
 refine gz4 ?_;refine uRp ?_;rw [hg];simp_all [zbg,leS];refine gz7 ?_;refine ⟨k+1,?_,?_,⟨rfl,trivial⟩,uK,Ab _⟩
 refine ⟨by omega,?_⟩
 rw [hg];simp_all [zbg,leS]
 dsimp only;omega
 have hnk:l.length<=k:=by omega
 obtain rfl:k=l.length:=by omega
 rw [zH (Ae _)] at hg;refine gz2 ?_;refine zt ?_;refine gz6 ?_;refine uRp ?_;rw [hg];simp_all [zbg,leS]
theorem zfS [Tracks] {l:List Str} (hl:l.length<=1000000):ConP prog 205 [eSs l,.bool true] (.int .i64 (zgO l)):=by
 refine uOb func205 ntmps205 ?_;refine zdS ?_;refine uCo (fun h1=> ?_) fun h2=> ?_
 refine gz4 ?_;refine uRp ?_;rw [zph]
 (rw [if_pos uSa])
 refine gz6 ?_;refine uCo (fun h3=> ?_) fun h4=> ?_
 refine gz4 ?_;refine uRp ?_;rw [zph]
 (rw [if_neg uO,if_pos uO])
 refine gz5 ?_;refine dq (uCl zwP rfl (zha (by assumption))) ?_;refine gz3 ?_;refine uRp ?_;rw [zph]
 (rw [if_neg uSa,if_neg uO])
theorem ziy [Tracks] {l:List PlayerS} (hT:Tracks.on=false) (hl:l.length<=1000000) (hn: ∀p∈l,p.Name∈zb5) (hp: ∀p∈l,p.Positions.length<=1000000):ConP prog 121 [zaA l] (.int .i64 (zbA l)):=by
 refine uOb func121 ntmps121 ?_;refine gz9 ?_;refine uCo (fun h1=> ?_) fun h2=> ?_
 refine gz4 ?_;refine uRp ?_
 (refine congrArg _ (zb9 ?_)
  omega)
 refine zdC ?_;refine uT1 [2,2,5,2,12,35] (fun k=>[(12,.int .i64 k),(3,.str (zmI PlayerS.Key zdl l k))]) (fun k=>[]) (fun k=>k<=l.length/\(zaR zch zdl l 0 l=zaR zch zdl l k (l.drop k))) (fun k=>l.length-k) (0) ?_ ?_;exact ⟨Ad _,rfl⟩;rintro k ⟨hk,hg⟩;refine gz4 ?_;refine uCo (fun h3=> ?_) fun h4=> ?_
 obtain ⟨x,hx⟩: ∃x,l[k]? =some x:=⟨_,Aa h3⟩
 have hdx:=zg hx;rw [hdx] at hg;refine gz7 ?_;refine de rfl (zj zeY rfl fun b5=> ?_)
 refine de0 (zo zeY rfl rfl rfl rfl rfl ?_)
 refine gz1 ?_;refine zf (zp 5 rfl) ?_;refine gz5 ?_;refine dq (uCl zf9 rfl zaU) ?_;refine gz3 ?_;refine uCo (fun h5=> ?_) fun h6=> ?_
 refine gz4 ?_;refine uRp ?_
 (refine congrArg _ (zG (e:=5) ?_ hg ?_ ?_)
  omega
  unfold zch;exact uT
  first|decide|assumption)
 have hkx:key x.Key=true:=by first|assumption|simp_all
 have hll:=zsO (f:=PlayerS.Key) (d:=zdl) (l:=l) (k:=k) (x:=x) hkx;refine gz7 ?_;refine uCo (fun h7=> ?_) fun h8=> ?_
 refine gz4 ?_;refine uRp ?_
 (refine congrArg _ (zG (e:=7) ?_ hg ?_ ?_)
  omega
  unfold zch;exact uT
  first|decide|assumption)
 have hn6:=zmi (hn x (Ac hx));refine gz3 ?_;refine dq (uCl zzQ rfl (zmT hT (hn x (Ac hx)))) ?_;refine gz5 ?_;refine uGr rfl (fun hc=>uCl ze5 rfl zaN) ?_;refine gz4 ?_;refine zaB rfl (fun h9=> ?_) (fun h9=> ?_)
 exfalso
 try simp at h9
 simp_all
 try simp at h9
 refine gz7 ?_;refine dq (uCl zwN rfl (zfS (hp x (Ac hx)))) ?_;refine gz6 ?_;refine uCo (fun h10=> ?_) fun h11=> ?_
 refine gz5 ?_;refine uRp ?_
 (refine congrArg _ (zG (e:=(zgO x.Positions)) ?_ hg ?_ ?_)
  omega
  unfold zch;exact uT
  first|decide|assumption)
 refine zeN ?_;exact ⟨k+1,⟨by omega,by rw [hg,zaP (by unfold zch;(try clear hdx hg);(try simp only [Af]);focus first|(simp_all;done)|((repeat' split)<;>focus first|rfl|(exfalso;omega)|(simp_all;done)|(exfalso;rcases ‹_\/_› with q|q<;>simp_all;done)|(exfalso;simp_all;omega)))]⟩,uD,⟨rfl,congrArg (fun q=>some (HVal.str q)) (zpV hx).symm,trivial⟩,uK,Ab _⟩;have hnk:l.length<=k:=by omega
 obtain rfl:k=l.length:=by omega
 rw [zH (Ae _)] at hg;refine gz2 ?_;refine zt ?_;refine gz6 ?_;refine uRp ?_
 (refine congrArg _ (zbS ?_ hg)
  omega)
theorem zjE [Tracks] {x:PlayerS} {s:Str}:ConP prog 97 [zcY x,.vptr [.str s] 0] (.bool (x.Key==s)):=by
 refine uOb func97 ntmps97 ?_;refine zdC ?_;refine zw rfl ?_
 rfl
theorem zd4 [Tracks] {l:List PlayerS} {fid:FuncId} {caps:List HVal} {p:PlayerS->Bool} (hca:Callable prog fid) (hp: ∀x,ConP prog fid ([zcY x]++caps) (.bool (p x))) (hl:l.length<=1000000):ConP prog 96 [.slice 3 (l.map zcY),.fn (.func fid) [] caps] (.int .i64 (zab p l 0)):=by
 refine uOb func96 ntmps96 ?_;refine zan ?_;refine uT1 [4,2,8,11] (fun k=>[(8,.int .i64 k)]) (fun k=>[]) (fun k=>k<=l.length/\(zab p l 0=zab p (l.drop k) k)) (fun k=>l.length-k) (0) ?_ ?_;exact ⟨Ad _,rfl⟩;rintro k ⟨hk,hg⟩;refine gz4 ?_;refine uCo (fun h1=> ?_) fun h2=> ?_
 obtain ⟨x,hx⟩: ∃x,l[k]? =some x:=⟨_,Aa h1⟩
 have hdx:=zg hx;rw [hdx] at hg;refine zdS ?_;refine dq (zaw hca rfl rfl (WeakL.refl _) (hp _)) ?_;refine gz1 ?_;refine uCo (fun h3=> ?_) fun h4=> ?_
 refine gz5 ?_;refine uRp ?_
 (rw [hg];simp_all [zab])
 refine gz7 ?_;refine ⟨k+1,?_,?_,⟨rfl,trivial⟩,uK,Ab _⟩
 refine ⟨by omega,?_⟩
 rw [hg,zab,if_neg uSa];rfl
 dsimp only;omega
 have hnk:l.length<=k:=by omega
 obtain rfl:k=l.length:=by omega
 rw [zH (Ae _)] at hg;refine gz2 ?_;refine zt ?_;refine gz6 ?_;refine uRp ?_
 (rw [hg];rfl)
theorem zcK [Tracks] {l:List PlayerS} {s:Str} (hl:l.length<=1000000):ConP prog 45 [zaA l,.str s] (.int .i64 (zab (fun x:PlayerS=>x.Key==s) l 0)):=by
 refine uOb func45 ntmps45 ?_;refine gz7 ?_;refine dq (uCl ca96 rfl (zd4 (l:=l) (p:=fun x=>x.Key==s) ca97 (fun _=>zjE) hl)) ?_;refine gz3 ?_;refine zw rfl ?_
 rfl
theorem zi2 [Tracks] {L:List PlayerS} {l:List StintS} (hL:L.length<=1000000) (hl:l.length<=1000000):ConP prog 122 [zaA L,zcy l] (.int .i64 (zhC L l)):=by
 refine uOb func122 ntmps122 ?_;refine gz9 ?_;refine uCo (fun h1=> ?_) fun h2=> ?_
 refine gz4 ?_;refine uRp ?_
 (refine congrArg _ (zb9 ?_)
  omega)
 refine gz9 ?_;refine uT1 [4,3,12,63] (fun k=>[(12,.int .i64 k)]) (fun k=>[]) (fun k=>k<=l.length/\(zaR (zc8 L) zeg l 0 l=zaR (zc8 L) zeg l k (l.drop k))) (fun k=>l.length-k) (0) ?_ ?_;exact ⟨Ad _,rfl⟩;rintro k ⟨hk,hg⟩;refine gz4 ?_;refine uCo (fun h3=> ?_) fun h4=> ?_
 obtain ⟨x,hx⟩: ∃x,l[k]? =some x:=⟨_,Aa h3⟩
 have hdx:=zg hx;rw [hdx] at hg;refine gz8 ?_;refine de rfl (zj zbP rfl fun b6=> ?_)
 refine gz1 ?_;refine de0 (zo zbP rfl rfl rfl rfl rfl ?_)
 refine gz1 ?_;refine zf (zp 6 rfl) ?_;refine gz5 ?_;refine dq (uCl ztu rfl (zcK (l:=L) (s:=x.Player) hL)) ?_;refine gz3 ?_;refine uCo (fun h5=> ?_) fun h6=> ?_
 have hph:=zos (L:=L) (s:=x.Player);refine gz4 ?_;refine uRp ?_
 (refine congrArg _ (zG (e:=8) ?_ hg ?_ ?_)
  omega
  unfold zc8;exact uT
  first|decide|assumption)
 have hph:=zos (L:=L) (s:=x.Player);have hpl:zbl L x.Player=true:=by
  cases hq:zbl L x.Player with
  |true=>rfl
  |false=>have:=hph.2 hq;omega
 refine gz7 ?_;refine uGr rfl (fun hc=>uCl zf9 rfl zaU) ?_;refine gz4 ?_;refine uCo (fun h7=> ?_) fun h8=> ?_
 refine gz4 ?_;refine uRp ?_
 (refine congrArg _ (zG (e:=5) ?_ hg ?_ ?_)
  omega
  unfold zc8;exact uT
  first|decide|assumption)
 refine gz3 ?_;refine dq (uCl ztn rfl zfD) ?_;refine gz3 ?_;refine uCo (fun h9=> ?_) fun h10=> ?_
 refine gz4 ?_;refine uRp ?_
 (refine congrArg _ (zG (e:=1) ?_ hg ?_ ?_)
  omega
  unfold zc8;exact uT
  first|decide|assumption)
 have hord:=ord2 (a:=x.Player) (b:=(l.getD (k-1) zeg).Player) (m:=x.Week) (n:=(l.getD (k-1) zeg).Week);refine uDr mixed ?_;refine gz8 ?_;refine uGy 8 rfl rfl (fun hc=>by have hq:=hc;(try simp at hq);exact zD (j:=k-1) (a:=l.getD (k-1) zeg) zfm zbP rfl rfl uO (getD_some uO)) ?_;refine gz9 ?_;refine uGy 18 rfl rfl (fun hc=>by have hq:=hc;(try simp at hq);exact zD (j:=k-1) (a:=l.getD (k-1) zeg) zfm zbP rfl rfl uO (getD_some uO)) ?_;refine gz9 ?_;refine uGy 28 rfl rfl (fun hc=>by have hq:=hc;(try simp at hq);exact zD (j:=k-1) (a:=l.getD (k-1) zeg) zfm zbP rfl rfl uO (getD_some uO)) ?_;refine gz8 ?_;refine uCo (fun h11=> ?_) fun h12=> ?_
 refine gz4 ?_;refine uRp ?_
 (refine congrArg _ (zG (e:=7) ?_ hg ?_ ?_)
  omega
  unfold zc8;exact uT
  first|decide|assumption)
 refine gz8 ?_;refine ⟨k+1,?_,?_,⟨rfl,trivial⟩,uK,Ab _⟩
 refine ⟨by omega,?_⟩
 rw [hg,zaP (by unfold zc8;(try clear hdx hg);(try simp only [Af]);focus first|(simp_all;done)|((repeat' split)<;>focus first|rfl|(exfalso;omega)|(simp_all;done)|(exfalso;rcases ‹_\/_› with q|q<;>simp_all;done)|(exfalso;simp_all;omega)))]
 dsimp only;omega
 have hnk:l.length<=k:=by omega
 obtain rfl:k=l.length:=by omega
 rw [zH (Ae _)] at hg;refine gz2 ?_;refine zt ?_;refine gz6 ?_;refine uRp ?_
 (refine congrArg _ (zbS ?_ hg)
  omega)
theorem zi1 [Tracks] {L:List PlayerS} {l:List HealthS} (hL:L.length<=1000000) (hl:l.length<=1000000) (hw: ∀x∈l,-1000000000000000<=x.To/\x.To<=1000000000000000):ConP prog 63 [zaA L,zbo l] (.int .i64 (zpa L l)):=by
 refine uOb func63 ntmps63 ?_;refine gz9 ?_;refine uCo (fun h1=> ?_) fun h2=> ?_
 refine gz4 ?_;refine uRp ?_
 (refine congrArg _ (zb9 ?_)
  omega)
 refine gz9 ?_;refine uT1 [4,4,13,74] (fun k=>[(13,.int .i64 k)]) (fun k=>[]) (fun k=>k<=l.length/\(zaR (zbw L) zfd l 0 l=zaR (zbw L) zfd l k (l.drop k))) (fun k=>l.length-k) (0) ?_ ?_;exact ⟨Ad _,rfl⟩;rintro k ⟨hk,hg⟩;refine gz4 ?_;refine uCo (fun h3=> ?_) fun h4=> ?_
 obtain ⟨x,hx⟩: ∃x,l[k]? =some x:=⟨_,Aa h3⟩
 have hdx:=zg hx;rw [hdx] at hg;refine gz8 ?_;refine de rfl (zj zbE rfl fun b6=> ?_)
 refine gz1 ?_;refine de0 (zo zbE rfl rfl rfl rfl rfl ?_)
 refine gz1 ?_;refine zf (zp 6 rfl) ?_;refine gz2 ?_;have hwx:=hw x (Ac hx);refine gz4 ?_;refine dq (uCl ztu rfl (zcK (l:=L) (s:=x.Player) hL)) ?_;refine gz3 ?_;refine uCo (fun h5=> ?_) fun h6=> ?_
 have hph:=zos (L:=L) (s:=x.Player);refine gz4 ?_;refine uRp ?_
 (refine congrArg _ (zG (e:=8) ?_ hg ?_ ?_)
  omega
  unfold zbw;exact uT
  first|decide|assumption)
 have hph:=zos (L:=L) (s:=x.Player);have hpl:zbl L x.Player=true:=by
  cases hq:zbl L x.Player with
  |true=>rfl
  |false=>have:=hph.2 hq;omega
 refine gz6 ?_;refine dq (uCl ze5 rfl zaN) ?_;refine gz8 ?_;refine uCo (fun h7=> ?_) fun h8=> ?_
 have hag:=zvH (f:=x.From) (t:=x.To) (by assumption);refine gz4 ?_;refine uRp ?_
 (refine congrArg _ (zG (e:=1) ?_ hg ?_ ?_)
  omega
  unfold zbw;exact uT
  first|decide|assumption)
 have hag:=zvG (f:=x.From) (t:=x.To) (by assumption);refine zcC ?_;refine uCo (fun h9=> ?_) fun h10=> ?_
 have hkd:=zyz (k:=x.Kind) (by assumption);refine gz4 ?_;refine uRp ?_
 (refine congrArg _ (zG (e:=4) ?_ hg ?_ ?_)
  omega
  unfold zbw;exact uT
  first|decide|assumption)
 refine gz4 ?_;have hkd:=zyy (k:=x.Kind) (by assumption);refine gz4 ?_;refine uCo (fun h11=> ?_) fun h12=> ?_
 refine gz8 ?_;refine ⟨k+1,?_,?_,⟨rfl,trivial⟩,uK,Ab _⟩
 refine ⟨by omega,?_⟩
 rw [hg,zaP (by unfold zbw;(try clear hdx hg);(try simp only [Af]);focus first|(simp_all;done)|((repeat' split)<;>focus first|rfl|(exfalso;omega)|(simp_all;done)|(exfalso;rcases ‹_\/_› with q|q<;>simp_all;done)|(exfalso;simp_all;omega)))]
 dsimp only;omega
 refine gz2 ?_;have hk0:0<k:=by omega
 refine gz4 ?_;refine dq (zD (j:=k-1) (a:=l.getD (k-1) zfd) zgW zbE rfl rfl uO (getD_some uO)) ?_;refine gz1 ?_;refine de rfl (zj zbE rfl fun b7=> ?_)
 refine de0 (zo zbE rfl rfl rfl rfl rfl ?_)
 refine gz1 ?_;refine zf (zp 7 rfl) ?_;refine gz1 ?_;have hord:=ord2 (a:=x.Player) (b:=(l.getD (k-1) zfd).Player) (m:=x.From) (n:=(l.getD (k-1) zfd).From);refine gz22 ?_;refine uCo (fun h13=> ?_) fun h14=> ?_
 refine gz4 ?_;refine uRp ?_
 (refine congrArg _ (zG (e:=7) ?_ hg ?_ ?_)
  omega
  unfold zbw;exact uT
  first|decide|assumption)
 refine ziK ?_;refine uCo (fun h15=> ?_) fun h16=> ?_
 refine gz4 ?_;refine uRp ?_
 (refine congrArg _ (zG (e:=13) ?_ hg ?_ ?_)
  omega
  unfold zbw;exact uT
  first|decide|assumption)
 refine gz8 ?_;refine ⟨k+1,?_,?_,⟨rfl,trivial⟩,uK,Ab _⟩
 refine ⟨by omega,?_⟩
 rw [hg,zaP (by unfold zbw;(try clear hdx hg);(try simp only [Af]);focus first|(simp_all;done)|((repeat' split)<;>focus first|rfl|(exfalso;omega)|(simp_all;done)|(exfalso;rcases ‹_\/_› with q|q<;>simp_all;done)|(exfalso;simp_all;omega)))]
 dsimp only;omega
 have hnk:l.length<=k:=by omega
 obtain rfl:k=l.length:=by omega
 rw [zH (Ae _)] at hg;refine gz2 ?_;refine zt ?_;refine gz6 ?_;refine uRp ?_
 (refine congrArg _ (zbS ?_ hg)
  omega)
theorem zeC [Tracks] {a b:List Int} (ha:a.length<=1000) (hb:b.length<=1000):ConP prog 187 [.slice 1 (a.map (HVal.int .i64)),.slice 1 (b.map (HVal.int .i64))] (.int .i64 (zep a b)):=by
 refine uOb func187 ntmps187 ?_;refine zan ?_;refine uT1 [4,5,11,20] (fun k=>[(11,.int .i64 k)]) (fun k=>[]) (fun k=>k<=a.length/\(zep a b=zep (a.drop k) (b.drop k))) (fun k=>a.length-k) (0) ?_ ?_;exact ⟨Ad _,rfl⟩;rintro k ⟨hk,hg⟩;refine gz4 ?_;refine uCo (fun h1=> ?_) fun h2=> ?_
 obtain ⟨x,hx⟩: ∃x,a[k]? =some x:=⟨_,Aa h1⟩
 have hdx:=zg hx;rw [hdx] at hg;refine ztH ?_;refine uCo (fun h3=> ?_) fun h4=> ?_
 refine gz4 ?_;refine uRp ?_
 (rw [hg,Bk (show b.length<=k by omega)];rfl)
 refine gz2 ?_;obtain ⟨y,hy⟩: ∃y,b[k]? =some y:=⟨_,Aa uO⟩
 refine zan ?_;refine dq (uCl zcw rfl (zP (a:=x) (b:=y))) ?_;refine gz6 ?_;refine uCo (fun h5=> ?_) fun h6=> ?_
 refine gz5 ?_;refine uRp ?_
 (rw [hg,zg hy,zep,if_pos (by assumption)])
 refine gz7 ?_;exact ⟨k+1,⟨by omega,by rw [hg,zg hy,zep,if_neg uSa]⟩,uD,⟨rfl,trivial⟩,uK,Ab _⟩;have hnk:a.length<=k:=by omega
 obtain rfl:k=a.length:=by omega
 rw [zH (Ae _)] at hg;refine gz2 ?_;refine zt ?_;refine zan ?_;refine uCo (fun h7=> ?_) fun h8=> ?_
 refine gz4 ?_;refine uRp ?_
 (obtain ⟨y,hy⟩: ∃y,b[a.length]? =some y:=⟨_,Aa uO⟩
  rw [hg,zg hy];rfl)
 refine gz6 ?_;refine uRp ?_
 (rw [hg,Bk (show b.length<=a.length by omega)];rfl)
theorem zhL [Tracks] {l:List FixS} (hl:l.length<=1000000):ConP prog 123 [zfz l] (.int .i64 (zgL l)):=by
 refine uOb func123 ntmps123 ?_;refine gz9 ?_;refine uCo (fun h1=> ?_) fun h2=> ?_
 refine gz4 ?_;refine uRp ?_
 (refine congrArg _ (zb9 ?_)
  omega)
 refine gz9 ?_;refine uT1 [2,5,12,65] (fun k=>[(12,.int .i64 k)]) (fun k=>[]) (fun k=>k<=l.length/\(zaR zeM zjP l 0 l=zaR zeM zjP l k (l.drop k))) (fun k=>l.length-k) (0) ?_ ?_;exact ⟨Ad _,rfl⟩;rintro k ⟨hk,hg⟩;refine gz4 ?_;refine uCo (fun h3=> ?_) fun h4=> ?_
 obtain ⟨x,hx⟩: ∃x,l[k]? =some x:=⟨_,Aa h3⟩
 have hdx:=zg hx;rw [hdx] at hg;refine gz8 ?_;refine de rfl (zj zaf rfl fun b4=> ?_)
 refine gz1 ?_;refine de0 (zo zaf rfl rfl rfl rfl rfl ?_)
 refine gz1 ?_;refine zf (zp 4 rfl) ?_;refine gz5 ?_;refine dq (uCl ztn rfl zfD) ?_;refine gz4 ?_;refine uGr rfl (fun hc=>uCl zwz rfl zg9) ?_;refine gz4 ?_;refine uCo (fun h5=> ?_) fun h6=> ?_
 refine gz4 ?_;refine uRp ?_
 (refine congrArg _ (zG (e:=1) ?_ hg ?_ ?_)
  omega
  unfold zeM;exact uT
  first|decide|assumption)
 refine gz3 ?_;refine dq (uCl zf9 rfl zaU) ?_;refine gz4 ?_;refine uGr rfl (fun hc=>uCl zf9 rfl zaU) ?_;refine gz4 ?_;refine uCo (fun h7=> ?_) fun h8=> ?_
 refine gz4 ?_;refine uRp ?_
 (refine congrArg _ (zG (e:=5) ?_ hg ?_ ?_)
  omega
  unfold zeM;exact uT
  first|decide|assumption)
 refine gz8 ?_;refine uCo (fun h9=> ?_) fun h10=> ?_
 refine gz4 ?_;refine uRp ?_
 (refine congrArg _ (zG (e:=6) ?_ hg ?_ ?_)
  omega
  unfold zeM;exact uT
  first|decide|assumption)
 refine gz7 ?_;refine uCo (fun h11=> ?_) fun h12=> ?_
 refine gz4 ?_;refine dq (zD (j:=k-1) (a:=l.getD (k-1) zjP) zbI zaf rfl rfl uO (getD_some uO)) ?_;refine gz1 ?_;refine de rfl (zj zaf rfl fun b5=> ?_)
 refine de0 (zo zaf rfl rfl rfl rfl rfl ?_)
 refine gz1 ?_;refine zf (zp 5 rfl) ?_;refine gz5 ?_;refine dq (za (hs:=[_,_]) z6 ty3 rfl rfl (by decide) (by decide) rfl) ?_;refine gz4 ?_;refine dq (za (hs:=[_,_]) z6 ty3 rfl rfl (by decide) (by decide) rfl) ?_;refine dq (uCl zwI rfl (zeC (a:=[(l.getD (k-1) zjP).Week,(l.getD (k-1) zjP).At]) (b:=[x.Week,x.At]) (by simp) (by simp))) ?_;refine gz2 ?_;have hord:=zxt (x:=x) (p:=l.getD (k-1) zjP);refine ziK ?_;refine uCo (fun h13=> ?_) fun h14=> ?_
 refine gz4 ?_;refine uRp ?_
 (refine congrArg _ (zG (e:=7) ?_ hg ?_ ?_)
  omega
  unfold zeM;exact uT
  first|decide|assumption)
 refine gz7 ?_;refine ⟨k+1,?_,?_,⟨rfl,trivial⟩,uK,Ab _⟩
 refine ⟨by omega,?_⟩
 rw [hg,zaP (by unfold zeM;(try clear hdx hg);(try simp only [Af]);focus first|(simp_all;done)|((repeat' split)<;>focus first|rfl|(exfalso;omega)|(simp_all;done)|(exfalso;rcases ‹_\/_› with q|q<;>simp_all;done)|(exfalso;simp_all;omega)))]
 dsimp only;omega
 refine gz7 ?_;refine ⟨k+1,?_,?_,⟨rfl,trivial⟩,uK,Ab _⟩
 refine ⟨by omega,?_⟩
 rw [hg,zaP (by unfold zeM;(try clear hdx hg);(try simp only [Af]);focus first|(simp_all;done)|((repeat' split)<;>focus first|rfl|(exfalso;omega)|(simp_all;done)|(exfalso;rcases ‹_\/_› with q|q<;>simp_all;done)|(exfalso;simp_all;omega)))]
 dsimp only;omega
 have hnk:l.length<=k:=by omega
 obtain rfl:k=l.length:=by omega
 rw [zH (Ae _)] at hg;refine gz2 ?_;refine zt ?_;refine gz6 ?_;refine uRp ?_
 (refine congrArg _ (zbS ?_ hg)
  omega)
theorem zgA [Tracks] {n d:Int} (hn: -1000000000000<=n/\n<=1000000000000) (hd:0<=d/\d<=1000000000000):ConP prog 267 [.int .i64 n,.int .i64 d] (.int .i64 ((Nat.gcd n.natAbs d.natAbs:Nat):Int)):=by
 refine uOb func267 ntmps267 ?_;refine gz5 ?_;refine uU2 [0,2,5,6] (fun (a:Int) (b:Int)=>[(0,.int .i64 a),(1,.int .i64 b)]) (fun (a:Int) (b:Int)=>[]) (fun (a:Int) (b:Int)=>(-1000000000000<=a/\a<=1000000000000)/\(-1000000000000<=b/\b<=1000000000000)/\Nat.gcd a.natAbs b.natAbs=Nat.gcd n.natAbs d.natAbs) (fun (a:Int) (b:Int)=>b.natAbs) (n) (d) ?_ ?_;exact ⟨hn,by omega,rfl⟩;rintro a b ⟨ha,hb,hg⟩;refine gz5 ?_;refine uCo (fun h1=> ?_) fun h2=> ?_
 have hb0:b≠0:=by simpa using h1
 obtain ⟨m1,m2,m3⟩:=zr3 (a:=a) hb0;refine gz3 ?_;refine zlb mixed ?_;refine gz3 ?_;refine uB 3 rfl (zc1 rfl rfl uO) ?_;refine gz4 ?_;refine ⟨b,a.tmod b,?_,?_,⟨rfl,rfl,trivial⟩,uK,Ab _⟩
 exact ⟨hb,by omega,by rw [zwh];exact hg⟩
 dsimp only;exact m3
 obtain rfl:b=0:=by simpa using h2
 rw [show (0:Int).natAbs=0 from rfl,Nat.gcd_zero_right] at hg;refine gz2 ?_;refine zL ?_;refine gz5 ?_;refine dq (zmk rfl uO uO) ?_;refine dq (zx2 rfl rfl) ?_;refine gz3 ?_;refine uRp ?_;rw [<-hg]
 congr 1
 omega
theorem zdf [Tracks] {n d most:Int} (hn: -1000000000<=n/\n<=1000000000) (hd: -1000000000<=d/\d<=1000000000) (hm:0<=most/\most<=1000000):ConP prog 207 [.agg [.int .i64 n,.int .i64 d],.int .i64 most] (.int .i64 (zcA n d most)):=by
 refine uOb func207 ntmps207 ?_;refine ziK ?_;refine dg rfl rfl (fun hc=>by
  have hd1:1<=d:=by (have q:=hc;simp at q;omega)
  exact ⟨_,OpenTo.upd (t:=13) rfl (hc) (OpenTo.upd (t:=11) rfl (hc) (OpenTo.refl _)),uCl zw0 rfl (zgA (n:=n) (d:=d) uO uO)⟩) ?_
 refine gz4 ?_;refine uCo (fun h1=> ?_) fun h2=> ?_
 have hp3:=pts3 (n:=n) (d:=d) (by assumption);refine gz4 ?_;refine uRp ?_;unfold zcA
 (rw [if_pos hp3])
 have hp0:=pts0 (n:=n) (d:=d) uSa;have hd1:1<=d:=by (focus first|omega|(simp_all;done)|(simp_all;omega))
 have hmd:=zrI (a:=most) (b:=d) (A:=1000000) (B:=1000000000) uO uO uO uO;have hmn: -most*d= -(most*d):=Int.neg_mul _ _;refine gz3 ?_;refine dq (zc1 rfl rfl uO) ?_;refine gz5 ?_;refine uGr rfl (fun hc=>by have hq:=hc;(try simp at hq);exact zmk rfl uO uO) ?_;refine gz2 ?_;refine uGr rfl (fun hc=>by have hq:=hc;(try simp at hq);exact zfX rfl rfl uO uO) ?_;refine gz8 ?_;refine uGr rfl (fun hc=>by have hq:=hc;(try simp at hq);exact zfX rfl rfl uO uO) ?_;refine gz4 ?_;refine uCo (fun h3=> ?_) fun h4=> ?_
 have hp1:=pts1 (n:=n) (d:=d) (m:=most) (by assumption);refine gz4 ?_;refine uRp ?_;unfold zcA
 (rw [if_neg (by rw [hp0];simp;omega),if_pos hp1])
 refine gz3 ?_;have hp2:=pts2 (n:=n) (d:=d) (m:=most) (by assumption);refine gz4 ?_;refine uRp ?_;unfold zcA
 (rw [if_neg (by rw [hp0];simp;omega),if_neg hp2])
theorem zjF [Tracks] {l:List RuleS} (hl:l.length<=1000000) (hb: ∀x∈l,((-1000000000<=x.Num/\x.Num<=1000000000)/\ -1000000000<=x.Den/\x.Den<=1000000000)):ConP prog 124 [ziF l] (.int .i64 (ziR l)):=by
 refine uOb func124 ntmps124 ?_;refine gz9 ?_;refine uCo (fun h1=> ?_) fun h2=> ?_
 refine gz4 ?_;refine uRp ?_
 (refine congrArg _ (zb9 ?_)
  omega)
 refine zdC ?_;refine uT1 [2,2,5,3,13,70] (fun k=>[(13,.int .i64 k),(3,.str (zmI RuleS.Key zjr l k))]) (fun k=>[]) (fun k=>k<=l.length/\(zaR zds zjr l 0 l=zaR zds zjr l k (l.drop k))) (fun k=>l.length-k) (0) ?_ ?_;exact ⟨Ad _,rfl⟩;rintro k ⟨hk,hg⟩;refine gz4 ?_;refine uCo (fun h3=> ?_) fun h4=> ?_
 obtain ⟨x,hx⟩: ∃x,l[k]? =some x:=⟨_,Aa h3⟩
 have hdx:=zg hx;rw [hdx] at hg;refine gz7 ?_;refine de rfl (zj zg1 rfl fun b5=> ?_)
 refine de0 (zo zg1 rfl rfl rfl rfl rfl ?_)
 refine gz1 ?_;refine zf (zp 5 rfl) ?_;refine gz9 ?_;refine dq (zau (h':= .bool (zqP x.Kind)) (zh3 rfl) rfl) ?_;refine gz6 ?_;refine dq (uCl zf9 rfl zaU) ?_;refine gz4 ?_;refine uGr rfl (fun hc=>uCl zf9 rfl zaU) ?_;refine gz9 ?_;refine uGr rfl (fun hc=>uCl zf9 rfl zaU) ?_;refine gz5 ?_;refine uCo (fun h5=> ?_) fun h6=> ?_
 refine gz4 ?_;refine uRp ?_
 (refine congrArg _ (zG (e:=5) ?_ hg ?_ ?_)
  omega
  unfold zds;exact uT
  first|decide|assumption)
 have hkx:key x.Key=true:=by simp_all
 have hll:=zsO (f:=RuleS.Key) (d:=zjr) (l:=l) (k:=k) (x:=x) hkx;refine gz7 ?_;refine uCo (fun h7=> ?_) fun h8=> ?_
 refine gz4 ?_;refine uRp ?_
 (refine congrArg _ (zG (e:=7) ?_ hg ?_ ?_)
  omega
  unfold zds;exact uT
  first|decide|assumption)
 refine gz3 ?_;refine dq (uCl ze5 rfl zaN) ?_;refine gz3 ?_;refine uCo (fun h9=> ?_) fun h10=> ?_
 refine gz4 ?_;refine uRp ?_
 (refine congrArg _ (zG (e:=4) ?_ hg ?_ ?_)
  omega
  unfold zds;exact uT
  first|decide|assumption)
 refine gz5 ?_;refine uGr rfl (fun hc=>uCl ze5 rfl zaN) ?_;refine zeN ?_;refine uCo (fun h11=> ?_) fun h12=> ?_
 refine gz4 ?_;refine uRp ?_
 (refine congrArg _ (zG (e:=1) ?_ hg ?_ ?_)
  omega
  unfold zds;exact uT
  first|decide|assumption)
 refine gz6 ?_;refine dq (zau (h':= .agg [.int .i64 x.Num,.int .i64 x.Den]) (zaY za9 rfl rfl (Ao rfl)) rfl) ?_;refine dq (uCl zto rfl (zdf (n:=x.Num) (d:=x.Den) (most:=10000) (hb x (Ac hx)).1 (hb x (Ac hx)).2 uO)) ?_;refine gz6 ?_;refine uCo (fun h13=> ?_) fun h14=> ?_
 refine gz5 ?_;refine uRp ?_
 (refine congrArg _ (zG (e:=(zcA x.Num x.Den 10000)) ?_ hg ?_ ?_)
  omega
  unfold zds;exact uT
  first|decide|assumption)
 refine zeN ?_;exact ⟨k+1,⟨by omega,by rw [hg,zaP (by unfold zds;(try clear hdx hg);(try simp only [Af]);focus first|(simp_all;done)|((repeat' split)<;>focus first|rfl|(exfalso;omega)|(simp_all;done)|(exfalso;rcases ‹_\/_› with q|q<;>simp_all;done)|(exfalso;simp_all;omega)))]⟩,uD,⟨rfl,congrArg (fun q=>some (HVal.str q)) (zpV hx).symm,trivial⟩,uK,Ab _⟩;have hnk:l.length<=k:=by omega
 obtain rfl:k=l.length:=by omega
 rw [zH (Ae _)] at hg;refine gz2 ?_;refine zt ?_;refine gz6 ?_;refine uRp ?_
 (refine congrArg _ (zbS ?_ hg)
  omega)
theorem ziz [Tracks] {y x:SlotS}:ConP prog 209 [za6 y,.vptr (zb (za6 x)) 0] (.bool (y.Key==x.Key)):=by
 refine uOb func209 ntmps209 ?_;refine zeN ?_;refine zw rfl ?_
 rfl
theorem zjH [Tracks] {l:List SlotS} (hl:l.length<=1000000) (hp: ∀x∈l,x.Positions.length<=1000000):ConP prog 125 [zft l] (.int .i64 (zdE l)):=by
 refine uOb func125 ntmps125 ?_;refine zcC ?_;refine uCo (fun h1=> ?_) fun h2=> ?_
 ·refine gz4 ?_;refine uRp ?_
  (unfold zdE;simp_all;done)
 ·refine gz6 ?_;refine uCo (fun h3=> ?_) fun h4=> ?_
  ·refine gz4 ?_;refine uRp ?_
   (rw [zdE,if_neg (by first|omega|simp_all),if_pos uO];done)
  ·refine zan ?_;refine uT1 [2,4,16,21] (fun k=>[(16,.int .i64 k)]) (fun k=>[]) (fun k=>k<=l.length/\(zb8 l 0 l=zb8 l k (l.drop k))) (fun k=>l.length-k) (0) ?_ ?_
   ·exact ⟨Ad _,rfl⟩
   ·rintro k ⟨hk,hg⟩;refine gz4 ?_;refine uCo (fun h5=> ?_) fun h6=> ?_
    ·obtain ⟨x,hx⟩: ∃x,l[k]? =some x:=⟨_,Aa h5⟩
     have hdx:=zg hx;rw [hdx] at hg;refine gz8 ?_;refine de rfl (zj zdc rfl fun b4=> ?_)
     refine gz1 ?_;refine de0 (zo zdc rfl rfl rfl rfl rfl ?_)
     refine gz1 ?_;refine zf (zp 4 rfl) ?_;refine gz4 ?_;refine dq (uCl zf9 rfl zaU) ?_;refine gz2 ?_;refine uCo (fun h7=> ?_) fun h8=> ?_
     ·refine gz4 ?_;refine uRp ?_
      (refine congrArg _ (zgS (e:=5) ?_ ?_ hg ?_)
       ·first|omega|simp_all
       ·omega
       ·rw [zb8]
        simp_all
        done)
     ·refine gz6 ?_;refine dq (zaL zdF zdc rfl rfl ⟨_,_,rfl,rfl⟩ uO uO) ?_;refine gz1 ?_;refine dq (uCl zwO rfl (zca (l:=l.take k) (p:=fun y=>y.Key==x.Key) zzR (fun _=>ziz) (by rw [AD];omega))) ?_;refine gz1 ?_;refine uCo (fun h9=> ?_) fun h10=> ?_
      ·refine gz4 ?_;refine uRp ?_
       (refine congrArg _ (zgS (e:=6) ?_ ?_ hg ?_)
        ·first|omega|simp_all
        ·omega
        ·rw [zb8]
         simp_all
         done)
      ·refine gz5 ?_;refine dq (uCl zwN rfl (zfS (hp x (Ac hx)))) ?_;refine gz6 ?_;refine uCo (fun h11=> ?_) fun h12=> ?_
       ·refine gz5 ?_;refine uRp ?_
        (refine congrArg _ (zgS (e:=(zgO x.Positions)) ?_ ?_ hg ?_)
         ·first|omega|simp_all
         ·omega
         ·rw [zb8]
          simp_all
          done)
       ·refine gz7 ?_;refine ⟨k+1,?_,?_,⟨rfl,trivial⟩,uK,Ab _⟩
        ·refine ⟨by omega,?_⟩
         rw [hg,zb8,if_neg uSa,if_neg uSa,if_neg uSa]
        ·dsimp only;omega
    ·have hnk:l.length<=k:=by omega
     obtain rfl:k=l.length:=by omega
     rw [zH (Ae _)] at hg;refine gz2 ?_;refine zt ?_;refine gz6 ?_;refine uRp ?_
     (refine congrArg _ (zrZ ?_ ?_ hg)<;>first|omega|simp_all)
theorem ziZ [Tracks] {b:BoundS}:ConP prog 126 [zdR b] (.int .i64 (zbZ b)):=by
 refine uOb func126 ntmps126 ?_;refine gz8 ?_;refine dq (uCl ze5 rfl zaN) ?_;refine gz4 ?_;refine uGr rfl (fun hc=>uCl ze5 rfl zaN) ?_;refine gz5 ?_;refine uGr rfl (fun hc=>uCl ze5 rfl zaN) ?_;refine gz5 ?_;refine uGr rfl (fun hc=>uCl ze5 rfl zaN) ?_;refine gz3 ?_;refine uCo (fun h1=> ?_) fun h2=> ?_
 refine gz4 ?_;refine uRp ?_;unfold zbZ
 (rw [if_pos uSa])
 refine gz6 ?_;refine uRp ?_;unfold zbZ
 (rw [if_neg uSa])
theorem zfT [Tracks] {a b:MoveS} (ha:MovB a) (hb:MovB b):ConP prog 54 [zcx a,zcx b] (.int .i64 (zfw a b)):=by
 obtain ⟨a1,a2⟩:=ha;obtain ⟨b1,b2⟩:=hb;refine uOb func54 ntmps54 ?_;refine ziK ?_;refine uCo (fun h1=> ?_) fun h2=> ?_
 refine gz6 ?_;refine dq (uCl zth rfl zfE) ?_;refine gz3 ?_;refine uRp ?_;rw [zkr]
 try rw [zfN]
 simp_all
 refine gz8 ?_;refine uCo (fun h3=> ?_) fun h4=> ?_
 refine gz5 ?_;refine dq (uCl zbV rfl zJ) ?_;refine gz3 ?_;refine uRp ?_;rw [zkr]
 try rw [zfN]
 simp_all
 refine gz8 ?_;refine uCo (fun h5=> ?_) fun h6=> ?_
 refine gz5 ?_;refine dq (uCl zbV rfl zJ) ?_;refine gz3 ?_;refine uRp ?_;rw [zkr]
 try rw [zfN]
 simp_all
 refine gz9 ?_;refine dq (uCl zth rfl zfE) ?_;refine gz3 ?_;refine uRp ?_;rw [zkr]
 try rw [zfN]
 simp_all
theorem zjD [Tracks] {l:List MoveS} (hl:l.length<=1000000) (hb: ∀x∈l,MovB x):ConP prog 60 [zbH l] (.int .i64 (zcN l)):=by
 refine uOb func60 ntmps60 ?_;refine gz9 ?_;refine uCo (fun h1=> ?_) fun h2=> ?_
 refine gz4 ?_;refine uRp ?_
 (refine congrArg _ (zb9 ?_)
  omega)
 refine gz9 ?_;refine uT1 [2,3,10,40] (fun k=>[(10,.int .i64 k)]) (fun k=>[]) (fun k=>k<=l.length/\(zaR zdJ zhZ l 0 l=zaR zdJ zhZ l k (l.drop k))) (fun k=>l.length-k) (0) ?_ ?_;exact ⟨Ad _,rfl⟩;rintro k ⟨hk,hg⟩;refine gz4 ?_;refine uCo (fun h3=> ?_) fun h4=> ?_
 obtain ⟨x,hx⟩: ∃x,l[k]? =some x:=⟨_,Aa h3⟩
 have hdx:=zg hx;rw [hdx] at hg;refine gz8 ?_;refine de rfl (zj zz rfl fun b4=> ?_)
 refine gz1 ?_;refine de0 (zo zz rfl rfl rfl rfl rfl ?_)
 refine gz1 ?_;refine zf (zp 4 rfl) ?_;refine gz4 ?_;refine dq (uCl zwz rfl zg9) ?_;refine gz3 ?_;refine uCo (fun h5=> ?_) fun h6=> ?_
 refine gz4 ?_;refine uRp ?_
 (refine congrArg _ (zG (e:=1) ?_ hg ?_ ?_)
  omega
  unfold zdJ;exact uT
  first|decide|assumption)
 refine gz3 ?_;refine dq (uCl ze5 rfl zaN) ?_;refine gz3 ?_;refine uCo (fun h7=> ?_) fun h8=> ?_
 refine gz4 ?_;refine uRp ?_
 (refine congrArg _ (zG (e:=4) ?_ hg ?_ ?_)
  omega
  unfold zdJ;exact uT
  first|decide|assumption)
 refine gz3 ?_;refine dq (uCl zf9 rfl zaU) ?_;refine gz4 ?_;refine uGr rfl (fun hc=>uCl zf9 rfl zaU) ?_;refine gz4 ?_;refine uCo (fun h9=> ?_) fun h10=> ?_
 refine gz4 ?_;refine uRp ?_
 (refine congrArg _ (zG (e:=5) ?_ hg ?_ ?_)
  omega
  unfold zdJ;exact uT
  first|decide|assumption)
 have htu:=zvT (x:=x) (p:=l.getD (k-1) zhZ);refine uDr mixed ?_;refine gz6 ?_;refine uGy 6 rfl rfl (fun hc=>by have hq:=hc;(try simp at hq);exact zD (j:=k-1) (a:=l.getD (k-1) zhZ) zbB zz rfl rfl uO (getD_some uO)) ?_;refine gz2 ?_;refine uGy 9 rfl rfl (fun hc=>by have hq:=hc;(try simp at hq);exact uCl ca54 rfl (zfT (a:=l.getD (k-1) zhZ) (b:=x) (hb _ (Ac (getD_some uO))) (hb _ (Ac hx)))) ?_;refine gz4 ?_;refine uCo (fun h11=> ?_) fun h12=> ?_
 refine gz4 ?_;refine uRp ?_
 (refine congrArg _ (zG (e:=7) ?_ hg ?_ ?_)
  omega
  unfold zdJ;exact uT
  first|decide|assumption)
 refine gz8 ?_;refine ⟨k+1,?_,?_,⟨rfl,trivial⟩,uK,Ab _⟩
 refine ⟨by omega,?_⟩
 rw [hg,zaP (by unfold zdJ;(try clear hdx hg);(try simp only [Af]);focus first|(simp_all;done)|((repeat' split)<;>focus first|rfl|(exfalso;omega)|(simp_all;done)|(exfalso;rcases ‹_\/_› with q|q<;>simp_all;done)|(exfalso;simp_all;omega)))]
 dsimp only;omega
 have hnk:l.length<=k:=by omega
 obtain rfl:k=l.length:=by omega
 rw [zH (Ae _)] at hg;refine gz2 ?_;refine zt ?_;refine gz6 ?_;refine uRp ?_
 (refine congrArg _ (zbS ?_ hg)
  omega)
theorem zfp [Tracks] {l:List Str} (hl:l.length<=1000000):ConP prog 127 [eSs l] (.int .i64 (zct l)):=by
 refine uOb func127 ntmps127 ?_;refine zcC ?_;refine uCo (fun h1=> ?_) fun h2=> ?_
 refine gz4 ?_;refine uRp ?_
 (rw [zct,if_pos uO])
 refine gz6 ?_;refine uCo (fun h3=> ?_) fun h4=> ?_
 refine gz4 ?_;refine uRp ?_
 (rw [zct,if_neg uO,if_pos uO])
 refine gz5 ?_;refine dq (uCl zwP rfl (zha (by assumption))) ?_;refine gz3 ?_;refine uRp ?_
 (rw [zct,if_neg uO,if_neg uO])
theorem zfR [Tracks] {a b:GameS} (ha: -1000000000000000<=a.Week/\a.Week<=1000000000000000) (hb: -1000000000000000<=b.Week/\b.Week<=1000000000000000):ConP prog 113 [zaJ a,zaJ b] (.int .i64 (ze2 a b)):=by
 refine uOb func113 ntmps113 ?_;refine ziK ?_;refine uCo (fun h1=> ?_) fun h2=> ?_
 refine gz6 ?_;refine dq (uCl zth rfl zfE) ?_;refine gz3 ?_;refine uRp ?_;rw [znk]
 try rw [zfN]
 simp_all
 refine gz8 ?_;refine uCo (fun h3=> ?_) fun h4=> ?_
 refine gz5 ?_;refine dq (uCl zbV rfl zJ) ?_;refine gz3 ?_;refine uRp ?_;rw [znk]
 try rw [zfN]
 simp_all
 refine gz8 ?_;refine dq (uCl zbV rfl zJ) ?_;refine gz3 ?_;refine uRp ?_;rw [znk]
 try rw [zfN]
 simp_all
theorem ziB [Tracks] {x:GameS} (hb:((-1000000000<=x.FNum/\x.FNum<=1000000000)/\ -1000000000<=x.FDen/\x.FDen<=1000000000)/\((-1000000000<=x.ONum/\x.ONum<=1000000000)/\ -1000000000<=x.ODen/\x.ODen<=1000000000)):ConP prog 211 [zaJ x] (.int .i64 (zge x)):=by
 refine uOb func211 ntmps211 ?_;refine zan ?_;refine uCo (fun h1=> ?_) fun h2=> ?_
 refine gz3 ?_;refine dq (zau (h':= .agg [.int .i64 x.FNum,.int .i64 x.FDen]) (zaY za9 rfl rfl (Ao rfl)) rfl) ?_;refine dq (zI (cs:=[_,_]) za9 zkW rfl) ?_;refine dq (zho za9 zqM rfl rfl ⟨rfl,⟨_,_,_,_,ty3,rfl⟩,⟨rfl,⟨_,_,_,_,ty3,rfl⟩,trivial⟩⟩) ?_;refine gz2 ?_;refine uGr rfl (fun hc=>zau (h':= .agg [.int .i64 x.ONum,.int .i64 x.ODen]) (zaY za9 rfl rfl (Ao rfl)) rfl) ?_;refine uGr rfl (fun hc=>zI (cs:=[_,_]) za9 zkW rfl) ?_;refine uGr rfl (fun hc=>zho za9 zqM rfl rfl ⟨rfl,⟨_,_,_,_,ty3,rfl⟩,⟨rfl,⟨_,_,_,_,ty3,rfl⟩,trivial⟩⟩) ?_;refine gz2 ?_;refine uCo (fun h3=> ?_) fun h4=> ?_
 simp [zaO,zeL,eqH] at h3
 refine gz4 ?_;refine uRp ?_
 (unfold zge;simp_all)
 refine gz2 ?_
 simp [zaO,zeL,eqH] at h4
 refine gz4 ?_;refine uRp ?_
 (unfold zge;simp_all)
 refine gz2 ?_;have hpl:x.Played=true:=by simpa using h2
 have hgf:=zvC hpl;refine uDr mixed ?_;refine gz1 ?_;refine uB 1 rfl (zau (h':= .agg [.int .i64 x.FNum,.int .i64 x.FDen]) (zaY za9 rfl rfl (Ao rfl)) rfl) ?_;refine uB 2 rfl (uCl zto rfl (zdf (n:=x.FNum) (d:=x.FDen) (most:=1000000) hb.1.1 hb.1.2 uO)) ?_;refine gz1 ?_;refine uB 4 rfl (zau (h':= .agg [.int .i64 x.ONum,.int .i64 x.ODen]) (zaY za9 rfl rfl (Ao rfl)) rfl) ?_;refine uB 5 rfl (uCl zto rfl (zdf (n:=x.ONum) (d:=x.ODen) (most:=1000000) hb.2.1 hb.2.2 uO)) ?_;refine gz5 ?_;refine dq (za (hs:=[_,_]) zdN zfP rfl rfl (by decide) (by decide) rfl) ?_;refine dq (zao (f:=HVal.int .i64) (l:=([3,1]:List Int)) zdN rfl) ?_;refine gz3 ?_;refine uT1 [2,1,6,1,28,14] (fun k=>[(28,.int .i64 k)]) (fun k=>[]) (fun k=>k<=([3,1]:List Int).length/\(zwk (zcA x.FNum x.FDen 1000000) (zcA x.ONum x.ODen 1000000)=zmv (zcA x.FNum x.FDen 1000000) (zcA x.ONum x.ODen 1000000) (([3,1]:List Int).drop k))) (fun k=>([3,1]:List Int).length-k) (0) ?_ ?_;exact ⟨Ad _,rfl⟩;rintro k ⟨hk,hg⟩;refine gz4 ?_;refine uCo (fun h5=> ?_) fun h6=> ?_
 obtain ⟨z,hz⟩: ∃z,([3,1]:List Int)[k]? =some z:=⟨_,Aa (by show k<2;omega)⟩
 have hdz:=zg hz;rw [hdz] at hg;refine gz5 ?_;refine dq (zD zdN zfP rfl rfl rfl (by assumption)) ?_;refine zeN ?_;refine uCo (fun h7=> ?_) fun h8=> ?_
 refine gz5 ?_;refine uRp ?_
 (rw [hgf,hg,zmv,if_pos uSa])
 refine gz7 ?_;refine ⟨k+1,?_,?_,⟨rfl,trivial⟩,uK,Ab _⟩
 refine ⟨by show k+1<=2;omega,?_⟩
 rw [hg,zmv,if_neg uSa]
 show 2-(k+1)<2-k
 omega
 refine gz2 ?_;refine zt ?_;refine gz6 ?_;refine uRp ?_
 (have e2:k=2:=by (have q:([3,1]:List Int).length=2:=rfl;omega)
  subst e2;rw [hgf,hg];rfl)
theorem ziw [Tracks] {y x:GameS}:ConP prog 212 [zaJ y,.vptr (zb (zaJ x)) 0] (.bool (zhf x y)):=by
 refine uOb func212 ntmps212 ?_;refine gz40 ?_;refine gz1 ?_;refine zw rfl ?_
 show HVal.bool _=_
 unfold zhf
 simp [B4]
theorem zjC [Tracks] {T:List Str} {l:List GameS} (hT:T.length<=1000000) (hl:l.length<=1000000) (hb: ∀x∈l,GamB x):ConP prog 128 [eSs T,zj8 l] (.int .i64 (zfj T l)):=by
 refine uOb func128 ntmps128 ?_;refine gz6 ?_;refine dq (uCl zwy rfl (zfp (by assumption))) ?_;refine gz6 ?_;refine uCo (fun h1=> ?_) fun h2=> ?_
 ·refine gz5 ?_;refine uRp ?_
  try rw [hE]
  (rw [zfj,if_pos (by assumption)];done)
 ·refine gz3 ?_;have hz:zct T=0:=by first|assumption|simp_all
  have hE:zfj T l=zdB T l:=by rw [zfj,if_neg (by simp [hz])]
  refine gz5 ?_;refine uCo (fun h3=> ?_) fun h4=> ?_
  ·refine gz4 ?_;refine uRp ?_
   try rw [hE]
   (refine congrArg _ (zdj (zb9 ?_) (by decide))
    omega)
  ·refine gz9 ?_;refine uT1 [4,1,6,3,21,47] (fun k=>[(21,.int .i64 k)]) (fun k=>[]) (fun k=>k<=l.length/\(zaR (zb2 T) zdK l 0 l=zaR (zb2 T) zdK l k (l.drop k))) (fun k=>l.length-k) (0) ?_ ?_
   ·exact ⟨Ad _,rfl⟩
   ·rintro k ⟨hk,hg⟩;refine gz4 ?_;refine uCo (fun h5=> ?_) fun h6=> ?_
    ·obtain ⟨x,hx⟩: ∃x,l[k]? =some x:=⟨_,Aa h5⟩
     have hdx:=zg hx;rw [hdx] at hg;refine gz8 ?_;refine de rfl (zj zbO rfl fun b7=> ?_)
     refine gz1 ?_;refine de0 (zo zbO rfl rfl rfl rfl rfl ?_)
     refine gz1 ?_;refine zf (zp 7 rfl) ?_;refine gz5 ?_;refine dq (uCl ztn rfl zfD) ?_;refine gz3 ?_;refine uCo (fun h7=> ?_) fun h8=> ?_
     ·refine gz4 ?_;refine uRp ?_
      try rw [hE]
      (refine congrArg _ (zdj (e:=1) (zG ?_ hg ?_ ?_) ?_)
       ·omega
       ·unfold zb2
        simp_all
        done
       ·first|decide|assumption
       ·first|decide|assumption)
     ·refine gz4 ?_;refine dq (uCl zeG rfl (zv (l:=T) (s:=x.Home) uO)) ?_;refine gz5 ?_;refine uGr rfl (fun hc=>by have hq:=hc;(try simp at hq);exact uCl zeG rfl (zv (l:=T) (s:=x.Away) uO)) ?_;refine gz4 ?_;refine uCo (fun h9=> ?_) fun h10=> ?_
      ·refine gz4 ?_;refine uRp ?_
       try rw [hE]
       (refine congrArg _ (zdj (e:=8) (zG ?_ hg ?_ ?_) ?_)
        ·omega
        ·unfold zb2
         simp_all
         done
        ·first|decide|assumption
        ·first|decide|assumption)
      ·refine gz8 ?_;refine uCo (fun h11=> ?_) fun h12=> ?_
       ·refine gz4 ?_;refine uRp ?_
        try rw [hE]
        (refine congrArg _ (zdj (e:=6) (zG ?_ hg ?_ ?_) ?_)
         ·omega
         ·unfold zb2
          simp_all
          done
         ·first|decide|assumption
         ·first|decide|assumption)
       ·refine gz5 ?_;refine dq (zbD (h:=zaJ x) zbO rfl rfl rfl rfl) ?_;refine dq (uCl zzS rfl (ziB (x:=x) ⟨(hb x (Ac hx)).fr,(hb x (Ac hx)).ot⟩)) ?_;refine gz6 ?_;refine uCo (fun h13=> ?_) fun h14=> ?_
        ·refine gz5 ?_;refine uRp ?_
         try rw [hE]
         (refine congrArg _ (zdj (e:=(zge x)) (zG ?_ hg ?_ ?_) ?_)
          ·omega
          ·unfold zb2
           simp_all
           done
          ·first|decide|assumption
          ·first|decide|assumption)
        ·refine gz2 ?_;have htu:=zvD (x:=x) (p:=l.getD (k-1) zdK);refine uDr mixed ?_;refine gz6 ?_;refine uGy 6 rfl rfl (fun hc=>by have hq:=hc;(try simp at hq);exact zD (j:=k-1) (a:=l.getD (k-1) zdK) zeX zbO rfl rfl uO (getD_some uO)) ?_;refine gz2 ?_;refine uGy 9 rfl rfl (fun hc=>by have hq:=hc;(try simp at hq);exact uCl zwv rfl (zfR (a:=l.getD (k-1) zdK) (b:=x) (hb _ (Ac (getD_some uO))).week (hb _ (Ac hx)).week)) ?_;refine gz3 ?_;refine uCo (fun h15=> ?_) fun h16=> ?_
         ·refine gz4 ?_;refine uRp ?_
          try rw [hE]
          (refine congrArg _ (zdj (e:=7) (zG ?_ hg ?_ ?_) ?_)
           ·omega
           ·unfold zb2
            simp_all
            done
           ·first|decide|assumption
           ·first|decide|assumption)
         ·refine gz7 ?_;refine ⟨k+1,?_,?_,⟨rfl,trivial⟩,uK,Ab _⟩
          ·refine ⟨by omega,?_⟩
           rw [hg,zaP (by unfold zb2;(try clear hdx hg);(try simp only [Af]);first|(simp_all;done)|((repeat' split)<;>first|rfl|(exfalso;omega)|(simp_all;done)|(exfalso;rcases ‹_\/_› with q|q<;>simp_all;done)|(exfalso;simp_all;omega)))]
          ·dsimp only;omega
    ·have hnk:l.length<=k:=by omega
     obtain rfl:k=l.length:=by omega
     rw [zH (Ae _)] at hg;refine gz2 ?_;refine zt ?_;refine gz9 ?_;refine uT1 [4,1,9,2,70,11] (fun k=>[(70,.int .i64 k)]) (fun k=>[]) (fun k=>k<=l.length/\(zc7 l 0 l=zc7 l k (l.drop k))) (fun k=>l.length-k) (0) ?_ ?_
     ·exact ⟨Ad _,rfl⟩
     ·rintro k ⟨hk,hg2⟩;refine gz4 ?_;refine uCo (fun h17=> ?_) fun h18=> ?_
      ·obtain ⟨x,hx⟩: ∃x,l[k]? =some x:=⟨_,Aa h17⟩
       have hdx:=zg hx;rw [hdx] at hg2;refine gz8 ?_;refine de rfl (zj zbO rfl fun b10=> ?_)
       refine gz1 ?_;refine de0 (zo zbO rfl rfl rfl rfl rfl ?_)
       refine gz1 ?_;refine zf (zp 10 rfl) ?_;refine gz3 ?_;refine dq (zaL zeX zbO rfl rfl ⟨_,_,rfl,rfl⟩ uO uO) ?_;refine gz1 ?_;refine dq (uCl zti rfl (zba (l:=l.take k) (p:=zhf x) zzT (fun _=>ziw) (by rw [AD];omega))) ?_;refine gz1 ?_;refine uCo (fun h19=> ?_) fun h20=> ?_
       ·refine gz4 ?_;refine uRp ?_
        try rw [hE]
        (rw [zdB,if_neg (by rw [<-zbS uO hg];simp),if_pos (by rw [hg2,zc7];simp_all)];done)
       ·refine gz7 ?_;refine ⟨k+1,?_,?_,⟨rfl,trivial⟩,uK,Ab _⟩
        ·refine ⟨by omega,?_⟩
         rw [hg2,zc7];simp_all
        ·dsimp only;omega
      ·have hnk:l.length<=k:=by omega
       obtain rfl:k=l.length:=by omega
       rw [zH (Ae _)] at hg2;refine gz2 ?_;refine zt ?_;refine gz6 ?_;refine uRp ?_
       try rw [hE]
       (rw [zdB,if_neg (by rw [<-zbS uO hg];simp),if_neg (by rw [hg2];simp [zc7])];done)
theorem zi0 [Tracks] {l:List Int} (hl:l.length<=1000000):ConP prog 131 [.slice 1 (l.map (HVal.int .i64))] (.int .i64 (zhs l)):=by
 refine uOb func131 ntmps131 ?_;refine gz9 ?_;refine uCo (fun h1=> ?_) fun h2=> ?_
 ·refine gz4 ?_;refine uRp ?_
  (rw [zhs,if_pos uO];done)
 ·refine gz9 ?_;refine uT1 [2,3,10,14] (fun k=>[(10,.int .i64 k)]) (fun k=>[]) (fun k=>k<=l.length/\(zdo l 0 l=zdo l k (l.drop k))) (fun k=>l.length-k) (0) ?_ ?_
  ·exact ⟨Ad _,rfl⟩
  ·rintro k ⟨hk,hg⟩;refine gz4 ?_;refine uCo (fun h3=> ?_) fun h4=> ?_
   ·obtain ⟨x,hx⟩: ∃x,l[k]? =some x:=⟨_,Aa h3⟩
    have hdx:=zg hx;rw [hdx] at hg;refine zdS ?_;refine dq (uCl ze5 rfl zaN) ?_;refine gz2 ?_;refine uCo (fun h5=> ?_) fun h6=> ?_
    ·refine gz4 ?_;refine uRp ?_
     (refine congrArg _ (zmA (e:=4) ?_ hg ?_)
      ·omega
      ·rw [zdo]
       simp_all
       done)
    ·refine gz5 ?_;refine dq (zaL z6 ty3 rfl rfl ⟨_,_,rfl,rfl⟩ uO uO) ?_;refine gz1 ?_;refine dq (uCl zwQ rfl (zes (l:=l.take k) (z:=x) (by rw [AD];omega))) ?_;refine gz1 ?_;refine uCo (fun h7=> ?_) fun h8=> ?_
     ·refine gz4 ?_;refine uRp ?_
      (refine congrArg _ (zmA (e:=6) ?_ hg ?_)
       ·omega
       ·rw [zdo]
        simp_all
        done)
     ·refine gz7 ?_;refine ⟨k+1,?_,?_,⟨rfl,trivial⟩,uK,Ab _⟩
      ·refine ⟨by omega,?_⟩
       rw [hg,zdo,if_neg uSa,if_neg uSa]
      ·dsimp only;omega
   ·have hnk:l.length<=k:=by omega
    obtain rfl:k=l.length:=by omega
    rw [zH (Ae _)] at hg;refine gz2 ?_;refine zt ?_;refine gz6 ?_;refine uRp ?_
    (refine congrArg _ (zsz ?_ hg)
     omega)
end
section
open Go.Proofs.Tryz
open Go.HL
theorem zlF [Tracks] {a b:MendS}:ConP prog 139 [zb1 a,zb1 b] (.int .i64 (zd2 a b)):=by
 refine uOb func139 ntmps139 ?_;refine gz5 ?_;refine uDr mixed ?_;refine gz4 ?_;refine uB 4 rfl (uCl zbV rfl zJ) ?_;refine gz4 ?_;refine uB 9 rfl (uCl zcw rfl zP) ?_;refine gz4 ?_;refine uB 14 rfl (uCl zbV rfl zJ) ?_;refine gz4 ?_;refine uB 19 rfl (uCl zcw rfl zP) ?_;refine uB 20 rfl (za (hs:=[_,_,_,_]) z6 ty3 rfl rfl (by decide) (by decide) rfl) ?_;refine uB 21 rfl (uCl ze6 rfl (za0 (l:=[_,_,_,_]) (by simp))) ?_;refine gz3 ?_;refine zw rfl ?_
 rfl
theorem zjz [Tracks] {m:List MendS} (hl:m.length<=1000000) (hgm: ∀x∈m,zfZ x):ConP prog 62 [zcr m] (.int .i64 (zef m)):=by
 refine uOb func62 ntmps62 ?_;refine gz9 ?_;refine uCo (fun h1=> ?_) fun h2=> ?_
 ·refine gz4 ?_;refine uRp ?_
  (rw [zef,if_pos uO];done)
 ·refine gz9 ?_;refine uT1 [2,3,10,59] (fun k=>[(10,.int .i64 k)]) (fun k=>[]) (fun k=>k<=m.length/\(zdq zaH zd2 zdL m 0 m=zdq zaH zd2 zdL m k (m.drop k))) (fun k=>m.length-k) (0) ?_ ?_
  ·exact ⟨Ad _,rfl⟩
  ·rintro k ⟨hk,hg⟩;refine gz4 ?_;refine uCo (fun h3=> ?_) fun h4=> ?_
   ·obtain ⟨x,hx⟩: ∃x,m[k]? =some x:=⟨_,Aa h3⟩
    have hdx:=zg hx;rw [hdx] at hg;refine gz8 ?_;refine de rfl (zj zgs rfl fun b4=> ?_)
    refine gz1 ?_;refine de0 (zo zgs rfl rfl rfl rfl rfl ?_)
    refine gz1 ?_;refine zf (zp 4 rfl) ?_;refine gz4 ?_;refine dq (uCl zhN rfl (zbi (hgm x (Ac hx)).1)) ?_;refine gz4 ?_;refine uGr rfl (fun hc=>uCl zhN rfl (zbi (hgm x (Ac hx)).2.1)) ?_;refine gz5 ?_;refine uGr rfl (fun hc=>uCl zhN rfl (zbi (hgm x (Ac hx)).2.2)) ?_;refine gz4 ?_;refine uCo (fun h5=> ?_) fun h6=> ?_
    ·refine gz4 ?_;refine uRp ?_
     (refine congrArg _ (zjo (c:=5) uO hg (by decide) ?_)
      rw [zaH,if_pos]
      simp_all
      done)
    ·refine gz3 ?_;refine dq (uCl zvr rfl zdP) ?_;refine gz4 ?_;refine uGr rfl (fun hc=>uCl zns rfl zcg) ?_;refine gz5 ?_;refine uGr rfl (fun hc=>uCl ztk rfl zcc) ?_;refine gz5 ?_;refine uGr rfl (fun hc=>uCl zns rfl zcg) ?_;refine gz4 ?_;refine uCo (fun h7=> ?_) fun h8=> ?_
     ·refine gz4 ?_;refine uRp ?_
      (refine congrArg _ (zjo (c:=1) uO hg (by decide) ?_)
       rw [zaH,if_neg,if_pos]
       all_goals simp_all
       done)
     ·refine uDr mixed ?_;refine gz6 ?_;refine uGy 6 rfl rfl (fun hc=>by have hq:=hc;(try simp at hq);exact zD (j:=k-1) (a:=m.getD (k-1) zdL) zk9 zgs rfl rfl uO (getD_some uO)) ?_;refine gz2 ?_;refine uGy 9 rfl rfl (fun hc=>uCl zze rfl zlF) ?_;refine gz4 ?_;refine uCo (fun h9=> ?_) fun h10=> ?_
      ·refine gz4 ?_;refine uRp ?_
       (have f1:=zi8.flip x (m.getD (k-1) zdL) trivial trivial
        have f2:=zi8.flip (m.getD (k-1) zdL) x trivial trivial;refine congrArg _ (zpY uO hg ?_ ?_ ?_)
        ·rw [zaH,if_neg,if_neg]<;>simp_all
        ·simp_all
        ·simp_all;omega)
      ·refine gz8 ?_;refine ⟨k+1,?_,?_,⟨rfl,trivial⟩,uK,Ab _⟩
       ·refine ⟨by omega,?_⟩
        rw [hg,zrj (by rw [zaH,if_neg uSa,if_neg uSa]) (by intro hk0;have:=zi8.flip x (m.getD (k-1) zdL) trivial trivial;have:=zi8.flip (m.getD (k-1) zdL) x trivial trivial;simp_all;try omega)]
       ·dsimp only;omega
   ·have hnk:m.length<=k:=by omega
    obtain rfl:k=m.length:=by omega
    rw [zH (Ae _)] at hg;refine gz2 ?_;refine zt ?_;refine gz6 ?_;refine uRp ?_
    (rw [zef,if_neg uO,hg];rfl)
end
section
open Go.Proofs.Tryz
open Go.HL
theorem zqk [Tracks] {l:List Str} {fid:FuncId} {caps:List HVal} {p:Str->Bool} (hca:Callable prog fid) (hp: ∀x∈l,ConP prog fid ([HVal.str x]++caps) (.bool (p x))) (hl:l.length<=1000000):ConP prog 148 [.slice 1 (l.map HVal.str),.fn (.func fid) [] caps] (.int .i64 (zab p l 0)):=by
 refine uOb func148 ntmps148 ?_;refine zan ?_;refine uT1 [4,2,8,11] (fun k=>[(8,.int .i64 k)]) (fun k=>[]) (fun k=>k<=l.length/\(zab p l 0=zab p (l.drop k) k)) (fun k=>l.length-k) (0) ?_ ?_;exact ⟨Ad _,rfl⟩;rintro k ⟨hk,hg⟩;refine gz4 ?_;refine uCo (fun h1=> ?_) fun h2=> ?_
 obtain ⟨x,hx⟩: ∃x,l[k]? =some x:=⟨_,Aa h1⟩
 have hdx:=zg hx;rw [hdx] at hg;refine zdS ?_;refine dq (zaw hca rfl rfl (WeakL.refl _) (hp _ (Ac hx))) ?_;refine gz1 ?_;refine uCo (fun h3=> ?_) fun h4=> ?_
 refine gz5 ?_;refine uRp ?_
 (rw [hg];simp_all [zab])
 refine gz7 ?_;refine ⟨k+1,?_,?_,⟨rfl,trivial⟩,uK,Ab _⟩
 refine ⟨by omega,?_⟩
 rw [hg,zab,if_neg uSa];rfl
 dsimp only;omega
 have hnk:l.length<=k:=by omega
 obtain rfl:k=l.length:=by omega
 rw [zH (Ae _)] at hg;refine gz2 ?_;refine zt ?_;refine gz6 ?_;refine uRp ?_
 (rw [hg];rfl)
theorem znm [Tracks] {l:List Str} {fid:FuncId} {caps:List HVal} {p:Str->Bool} (hca:Callable prog fid) (hp: ∀x∈l,ConP prog fid ([HVal.str x]++caps) (.bool (p x))) (hl:l.length<=1000000):ConP prog 69 [.slice 1 (l.map HVal.str),.fn (.func fid) [] caps] (.bool (l.any p)):=by
 refine uOb func69 ntmps69 ?_;refine gz6 ?_;refine dq (uCl ztj rfl (zqk hca hp hl)) ?_;refine gz4 ?_;refine zw rfl ?_
 congr 1;exact zcW p l 0 uO
theorem zhK [Tracks] {x:GameS}:ConP prog 130 [zaJ x] (.bool x.Played):=by
 refine uOb func130 ntmps130 ?_;refine zan ?_;refine zw rfl ?_
 rfl
theorem ziY [Tracks] {g:LeagueS} (hT:Tracks.on=false) (hb:LeaB g) (hg: ∀x∈g.Games,GamB x) (ht: ∀s∈g.Trust,Sh s):ConP prog 59 [zej g] (.int .i64 (zb3 g)):=by
 have hst:=hb.sta;refine uOb func59 ntmps59 ?_;refine gz8 ?_;refine dq (uCl zy2 rfl (ziy (l:=g.Players) hT hb.pl hb.nm hb.po)) ?_;refine gz6 ?_;refine uCo (fun h1=> ?_) fun h2=> ?_
 refine gz5 ?_;refine uRp ?_;exact congrArg _ (zuQ (by assumption));refine gz3 ?_;refine uDr mixed ?_;refine gz4 ?_;refine uB 4 rfl (uCl zy3 rfl (zi2 (L:=g.Players) (l:=g.Stints) hb.pl hb.st)) ?_;refine gz2 ?_;refine uB 7 rfl (uCl zy4 rfl (zhL (l:=g.Fixtures) hb.fx)) ?_;refine gz2 ?_;refine uB 10 rfl (uCl zy5 rfl (zjF (l:=g.Rules) hb.ru hb.rw')) ?_;refine gz2 ?_;refine uB 13 rfl (uCl zy6 rfl (zjH (l:=g.Slots) hb.sl hb.sp)) ?_;refine gz1 ?_;refine uB 15 rfl (zau (h':=zdR g.Bounds) (zaY zfO rfl rfl (Ao rfl)) rfl) ?_;refine uB 16 rfl (uCl zy7 rfl (ziZ (b:=g.Bounds))) ?_;refine gz2 ?_;refine uB 19 rfl (uCl zwy rfl (zfp (l:=g.Teams) hb.tm)) ?_;refine uB 20 rfl (za (hs:=[_,_,_,_,_,_]) zdN zfP rfl rfl (by decide) (by decide) rfl) ?_;refine uB 21 rfl (uCl zvq rfl (zeB (l:=[_,_,_,_,_,_]) (by simp))) ?_;refine gz6 ?_;refine uCo (fun h3=> ?_) fun h4=> ?_
 refine gz5 ?_;refine uRp ?_;exact congrArg _ (zyA (by assumption) (by assumption));refine gz3 ?_;have hB:zhB g=0:=by assumption
 have hgt:=zxu (l:=g.Games) (zvP hB);refine gz5 ?_;refine dq (zau (uCl zy8 rfl (zjC (T:=g.Teams) (l:=g.Games) hb.tm hb.ga hg)) (congrArg (HVal.int .i64) hgt)) ?_;refine gz6 ?_;refine uCo (fun h5=> ?_) fun h6=> ?_
 refine gz5 ?_;refine uRp ?_;exact congrArg _ (zyB (by assumption) hB (by assumption));refine gz6 ?_;refine dq (uCl zti rfl (zba (l:=g.Games) (p:=fun x=>x.Played) zy9 (fun _=>zhK) hb.ga)) ?_;refine gz1 ?_;refine uCo (fun h7=> ?_) fun h8=> ?_
 refine gz4 ?_;refine uRp ?_;exact congrArg _ (zyC (by assumption) hB (by assumption) (by unfold zc0;simp_all));refine gz3 ?_;refine uDr mixed ?_;refine gz2 ?_;refine uB 2 rfl (uCl zza rfl (zi0 (l:=g.Breaks) hb.br)) ?_;refine gz2 ?_;refine uB 5 rfl (uCl zzb rfl (zjB (l:=g.Trust) hb.tr ht)) ?_;refine gz2 ?_;refine uB 8 rfl (uCl ztk rfl zcc) ?_;refine uB 9 rfl (za (hs:=[_,_,_]) zdN zfP rfl rfl (by decide) (by decide) rfl) ?_;refine uB 10 rfl (uCl zvq rfl (zeB (l:=[_,_,_]) (by simp))) ?_;refine gz6 ?_;refine uCo (fun h9=> ?_) fun h10=> ?_
 refine gz5 ?_;refine uRp ?_;exact congrArg _ (zyD (by assumption) hB (by assumption) (by unfold zc0;simp_all) (by assumption));refine gz8 ?_;refine uCo (fun h11=> ?_) fun h12=> ?_
 refine gz4 ?_;refine uRp ?_
 (rw [zuR (by assumption) hB (by assumption) (by unfold zc0;simp_all) (by assumption),if_pos uO])
 refine gz6 ?_;refine uRp ?_
 (rw [zuR (by assumption) hB (by assumption) (by unfold zc0;simp_all) (by assumption),if_neg uO])
theorem zkt [Tracks] {a b:ChoiceS}:ConP prog 141 [zag a,zag b] (.int .i64 (zi5 a b)):=by
 refine uOb func141 ntmps141 ?_;refine gz5 ?_;refine uDr mixed ?_;refine gz4 ?_;refine uB 4 rfl (uCl zbV rfl zJ) ?_;refine gz4 ?_;refine uB 9 rfl (uCl zcw rfl zP) ?_;refine gz4 ?_;refine uB 14 rfl (uCl zcw rfl zP) ?_;refine uB 15 rfl (za (hs:=[_,_,_]) z6 ty3 rfl rfl (by decide) (by decide) rfl) ?_;refine uB 16 rfl (uCl ze6 rfl (za0 (l:=[_,_,_]) (by simp))) ?_;refine gz3 ?_;refine zw rfl ?_
 rfl
theorem zea [Tracks] {s:Str} (hs:Sh s):ConP prog 140 [.str s] (.bool (!(zby s))):=by
 refine uOb func140 ntmps140 ?_;refine gz8 ?_;refine uGr rfl (fun hc=>uCl zhN rfl (zbi hs)) ?_;refine gz5 ?_;refine zw rfl ?_
 show HVal.bool _=_
 rw [zuX]
 cases s with
 |nil=>rfl
 |cons x r=>simp
theorem ziv [Tracks] {g:LeagueS} {l:List ChoiceS} (hb:LeaB g) (hl:l.length<=1000000) (hp: ∀x∈l,x.Players.length<=1000000) (hcs: ∀x∈l,(∀s∈x.Players,Sh s)/\Sh x.Captain):ConP prog 64 [zej g,zfJ l] (.int .i64 (zo6 g.Teams g.Slots.length l)):=by
 refine uOb func64 ntmps64 ?_;refine zan ?_;refine uCo (fun h1=> ?_) fun h2=> ?_
 refine gz4 ?_;refine uRp ?_
 (refine congrArg _ (zb9 ?_)
  omega)
 refine zdC ?_;refine uT1 [4,1,6,2,13,56] (fun k=>[(13,.int .i64 k)]) (fun k=>[]) (fun k=>k<=l.length/\(zaR (zbv g.Teams g.Slots.length) ze7 l 0 l=zaR (zbv g.Teams g.Slots.length) ze7 l k (l.drop k))) (fun k=>l.length-k) (0) ?_ ?_;exact ⟨Ad _,rfl⟩;rintro k ⟨hk,hg⟩;refine gz4 ?_;refine uCo (fun h3=> ?_) fun h4=> ?_
 obtain ⟨x,hx⟩: ∃x,l[k]? =some x:=⟨_,Aa h3⟩
 have hdx:=zg hx;rw [hdx] at hg;refine gz6 ?_;refine dq (zD zdG zdh rfl rfl rfl (by assumption)) ?_;refine gz1 ?_;refine de rfl (zj zdh rfl fun b7=> ?_)
 refine gz1 ?_;refine de0 (zo zdh rfl rfl rfl rfl rfl ?_)
 refine gz1 ?_;refine zf (zp 7 rfl) ?_;refine gz1 ?_;have hwk: ∀n:Int,((if zbd n then (0:Int) else 1)=0)↔zbd n=true:=fun n=>by cases zbd n<;>simp
 have hmo: ∀n:Int,((if zT n then (0:Int) else 1)=0)↔zT n=true:=fun n=>by cases zT n<;>simp
 refine gz5 ?_;refine dq (uCl zeG rfl (zv (l:=g.Teams) (s:=x.Team) (by have:=hb.tm;omega))) ?_;refine gz3 ?_;refine uCo (fun h5=> ?_) fun h6=> ?_
 refine gz4 ?_;refine uRp ?_
 (refine congrArg _ (zG (e:=8) ?_ hg ?_ ?_)
  omega
  unfold zbv
  (try generalize ((x.Players++[x.Captain]).all zby)=N at*)
  exact uT
  first|decide|assumption)
 refine gz3 ?_;refine dq (uCl zvr rfl zdP) ?_;refine gz4 ?_;refine uGr rfl (fun hc=>uCl ztk rfl zcc) ?_;refine gz4 ?_;refine uCo (fun h7=> ?_) fun h8=> ?_
 refine gz4 ?_;refine uRp ?_
 (refine congrArg _ (zG (e:=1) ?_ hg ?_ ?_)
  omega
  unfold zbv
  (try generalize ((x.Players++[x.Captain]).all zby)=N at*)
  exact uT
  first|decide|assumption)
 refine gz3 ?_;refine dq (zao (f:=HVal.str) (l:=x.Players) zk rfl) ?_;refine gz2 ?_;refine dq (zao (f:=za6) (l:=g.Slots) zdF rfl) ?_;refine gz3 ?_;refine uCo (fun h9=> ?_) fun h10=> ?_
 refine gz4 ?_;refine uRp ?_
 (refine congrArg _ (zG (e:=3) ?_ hg ?_ ?_)
  omega
  unfold zbv
  (try generalize ((x.Players++[x.Captain]).all zby)=N at*)
  exact uT
  first|decide|assumption)
 refine gz4 ?_;refine dq (uCl zvt rfl (znm (l:=x.Players) (p:=fun s=> !(zby s)) zwA (fun s hs=>zea ((hcs x (Ac hx)).1 s hs)) (hp x (Ac hx)))) ?_;refine gz4 ?_;refine uGr rfl (fun hc=>zaw zwA rfl rfl (WeakL.refl _) (zea (hcs x (Ac hx)).2)) ?_;refine gz3 ?_;refine uCo (fun h11=> ?_) fun h12=> ?_
 have hbad:((x.Players++[x.Captain]).all zby)=false:=zso (by assumption);refine gz4 ?_;refine uRp ?_
 (refine congrArg _ (zG (e:=5) ?_ hg ?_ ?_)
  omega
  unfold zbv
  (try generalize ((x.Players++[x.Captain]).all zby)=N at*)
  exact uT
  first|decide|assumption)
 have hgood:((x.Players++[x.Captain]).all zby)=true:=by rw [zuY];simp_all
 have htu:=zvu (x:=x) (p:=l.getD (k-1) ze7);refine uDr mixed ?_;refine gz6 ?_;refine uGy 6 rfl rfl (fun hc=>by have hq:=hc;(try simp at hq);exact zD (j:=k-1) (a:=l.getD (k-1) ze7) zdG zdh rfl rfl uO (getD_some uO)) ?_;refine gz2 ?_;refine uGy 9 rfl rfl (fun hc=>uCl zzf rfl zkt) ?_;refine gz4 ?_;refine uCo (fun h13=> ?_) fun h14=> ?_
 refine gz4 ?_;refine uRp ?_
 (refine congrArg _ (zG (e:=7) ?_ hg ?_ ?_)
  omega
  unfold zbv
  (try generalize ((x.Players++[x.Captain]).all zby)=N at*)
  exact uT
  first|decide|assumption)
 refine gz8 ?_;refine ⟨k+1,?_,?_,⟨rfl,trivial⟩,uK,Ab _⟩
 refine ⟨by omega,?_⟩
 rw [hg,zaP (by unfold zbv;(try generalize ((x.Players++[x.Captain]).all zby)=N at*);(try clear hdx hg);(try simp only [Af]);focus first|(simp_all;done)|((repeat' split)<;>focus first|rfl|(exfalso;omega)|(simp_all;done)|(exfalso;rcases ‹_\/_› with q|q<;>simp_all;done)|(exfalso;simp_all;omega)))]
 dsimp only;omega
 have hnk:l.length<=k:=by omega
 obtain rfl:k=l.length:=by omega
 rw [zH (Ae _)] at hg;refine gz2 ?_;refine zt ?_;refine gz6 ?_;refine uRp ?_
 (refine congrArg _ (zbS ?_ hg)
  omega)
theorem zj0 [Tracks] {b:BookS} (hT:Tracks.on=false) (hb:BookC b):ConP prog 24 [zbW b] (.int .i64 (zck b)):=by
 refine uOb func24 ntmps24 ?_;refine gz7 ?_;refine dq (zau (h':=zej b.League) (zaY zaS rfl rfl (Ao rfl)) rfl) ?_;refine dq (uCl ca59 rfl (ziY (g:=b.League) hT hb.bb.lea hb.gw hb.tr)) ?_;refine gz6 ?_;refine uCo (fun h1=> ?_) fun h2=> ?_
 refine gz5 ?_;refine uRp ?_;unfold zck
 (rw [if_pos (by assumption)])
 refine gz2 ?_;refine uDr mixed ?_;refine gz2 ?_;refine uB 2 rfl (uCl ca60 rfl (zjD (l:=b.Moves) hb.bb.mv hb.mb)) ?_;refine gz2 ?_;refine uB 5 rfl (uCl ca61 rfl (zjA (l:=b.Plays) hb.bb.pl hb.pg)) ?_;refine gz2 ?_;refine uB 8 rfl (uCl ca62 rfl (zjz (m:=b.Mends) hb.bb.me hb.mg)) ?_;refine gz5 ?_;refine uB 14 rfl (uCl ca63 rfl (zi1 (L:=b.League.Players) (l:=b.Health) hb.bb.lea.pl hb.bb.he hb.hw)) ?_;refine gz1 ?_;refine uB 16 rfl (zau (h':=zej b.League) (zaY zaS rfl rfl (Ao rfl)) rfl) ?_;refine gz2 ?_;refine uB 19 rfl (uCl ca64 rfl (ziv (g:=b.League) (l:=b.Choices) hb.bb.lea hb.bb.ch hb.bb.cp hb.cs)) ?_;refine uB 20 rfl (za (hs:=[_,_,_,_,_]) zdN zfP rfl rfl (by decide) (by decide) rfl) ?_;refine uB 21 rfl (uCl zvq rfl (zeB (l:=[_,_,_,_,_]) (by simp))) ?_;refine gz3 ?_;refine uRp ?_;unfold zck
 (rw [if_neg (fun q=>q h2)])
end
end Go.Proofs.YtahegdhbakjdoaaGreatDoor
namespace Go.HL
section
section
variable {κ:Type}
end
end
section

end
section
def zyk (x:LineS):Prop:=Sh x.Player/\∀s∈x.Stats,Sh s.Name
abbrev LnV:=LineS×Value
structure LG where
 u:Value
 out:List LnV
 a:Nat
def zue (p:LnV):Prop:=zyk p.1/\p.1.Stats.length<=3
structure LGok (n m:Nat) (q:LG):Prop where
 len:q.out.length<=n
 all: ∀p∈q.out,zue p
 a:q.a<=m
theorem LGok.mono {n n' m m':Nat} {q:LG} (h:LGok n m q) (hn:n<=n') (hm:m<=m'):LGok n' m' q:=⟨Ay h.len hn,h.all,Ay h.a hm⟩
theorem LGok.same {n m m':Nat} {u:Value} {out:List LnV} {a1 a2:Nat} (h:LGok n m ⟨u,out,a1⟩) (ha:a2<=m'):LGok (n+1) m' ⟨u,out,a2⟩:=⟨Nat.le_succ_of_le h.len,h.all,ha⟩
theorem LGok.add {n m m':Nat} {u u':Value} {out:List LnV} {a1 a2:Nat} {p:LnV} (h:LGok n m ⟨u,out,a1⟩) (hp:zue p) (ha:a2<=m'):LGok (n+1) m' ⟨u',out++[p],a2⟩:=
 ⟨by have:=h.len;simp only [AA,Ai,AG] at*;omega,fun y hy=>by
  rcases List.mem_append.1 hy with hy|hy
  exact h.all y hy;rw [List.mem_singleton.1 hy];exact hp,ha⟩
end
section
/-! sums-/
def zoE (p:Str) (c:List (Of2×Int)) (s:StatS):List (Of2×Int):=zA (p,s.Name) ((alk (p,s.Name) c).getD 0+s.Count) c
def zxe (p:Str) (c:List (Of2×Int)) (l:List StatS):List (Of2×Int):=l.foldl (zoE p) c
theorem LnOk.addC {q:LnS} {n:Nat} (h:LnOk q n) (p:Str) {s:StatS} (hb: -100000<=s.Count/\s.Count<=100000):LnOk ⟨q.S,zoE p q.c s⟩ (n+1):=by
 have hv:=h.val (p,s.Name);refine ⟨h.c.put,h.S,h.k,Ay (zoT _ _ _) (by have:=h.cl;omega),by have:=h.Sl;dsimp only;omega,fun e he=> ?_⟩
 rcases zcG he with rfl|he
 dsimp only;omega
 have:=h.bd e he;omega
theorem LnOk.row (p:Str): ∀(l:List StatS) {q:LnS} {n:Nat},LnOk q n->(∀s∈l,-100000<=s.Count/\s.Count<=100000)->LnOk ⟨q.S,zxe p q.c l⟩ (n+l.length)
 |[],q,n,h,_=>h
 |s::r,q,n,h,hb=>by
   have h1:=LnOk.row p r (h.addC p (hb s Am)) fun y hy=>hb y (Au _ hy)
   rw [Ai,show n+(r.length+1)=n+1+r.length by omega];exact h1
theorem zrG {κ α:Type} [DecidableEq κ]: ∀{S D:List (κ×α)},ANodup (D++S)->zpf D S=D++S
 |[],D,_=>by simp [zpf]
 |p::r,D,h=>by
   have hn:alk p.1 D=none:=by
    rw [zex];intro hm;unfold ANodup at h;rw [AB] at h;exact (List.nodup_append.1 h).2.2 _ hm _ Am rfl
   have e:zA p.1 p.2 D=D++[p]:=zkn hn
   show zpf (zA p.1 p.2 D) r=_
   rw [e,zrG (by simpa using h)]
   simp
end
section
def stP (l:List StatS):List (Str×Int):=l.foldl (fun c s=>zA s.Name s.Count c) []
theorem zs3 (l:List StatS):stP l=zpf [] (stA l):=by
 unfold stP zpf stA;rw [List.foldl_map]
theorem zvd (l:List StatS):ANodup (stP l):=by rw [zs3];exact zol ANodup.nil
theorem zyQ {l:List StatS} (h:(l.map (·.Name)).Nodup):stP l=stA l:=by
 rw [zs3,zrG (by simpa using zqd h)];rfl
def zqS (l:List StatS) (s:Str) (n:Int):List StatS:=zoG (zA s n (stP l))
theorem zvl {κ:Type} [DecidableEq κ] {c:List (κ×Int)} (hn:ANodup c) (k:κ):(alk k (c.filter fun e=>e.2 !=0)).getD 0=(alk k c).getD 0:=by
 have hn2:ANodup (c.filter fun e=>e.2 !=0):=by
  unfold ANodup at*;exact hn.sublist (List.filter_sublist.map _)
 cases hq:alk k (c.filter fun e=>e.2 !=0) with
 |some v=>
   have h1:=(List.mem_filter.1 (zbt hq)).1;rw [(zgD hn).1 h1]
 |none=>
   cases hr:alk k c with
   |none=>rfl
   |some v=>
     by_cases hv:v=0
     rw [hv];rfl;have h1:(k,v)∈c.filter fun e=>e.2 !=0:=List.mem_filter.2 ⟨zbt hr,by simpa using hv⟩
     rw [(zgD hn2).1 h1] at hq
     cases hq
theorem zpn {c:List (Str×Int)} (hn:ANodup c):StOk (zpm c) where
 nd:=by
  unfold zpm;rw [AX];unfold ANodup at hn;exact hn.sublist (List.filter_sublist.map _)
 nz x hx:=by
  unfold zpm at hx;obtain ⟨e,he,rfl⟩:=List.mem_map.1 hx;have:=(List.mem_filter.1 he).2
  simpa using this
theorem zvf {c:List (Str×Int)} (hn:ANodup c):StOk (zoG c):=(zpn hn).sort
theorem ztZ {c:List (Str×Int)} (hn:ANodup c) (s:Str):sv (zoG c) s=(alk s c).getD 0:=by
 have h1:sv (zoG c) s=sv (zpm c) s:=zyh (zpn hn).nd (zbK zey _) s;have h2:stA (zpm c)=c.filter fun e=>e.2 !=0:=by
  unfold stA zpm;rw [AX];exact List.map_id _
 rw [h1];unfold sv;rw [h2];exact zvl hn s
theorem zve {l:List StatS} (h:(l.map (·.Name)).Nodup) (hw:l.Pairwise fun a b=> ¬zey b a<0):zal zey l=l:=
 (zjh zgE (fun _ _ hx hy e=>zxO h hx hy (zcq.1 e)) (Ab _) hw).symm
theorem zsn {l:List StatS} (h:(l.map (·.Name)).Nodup):zal zey (zal zey l)=zal zey l:=by
 have h1:=ziM zgE (l:=l) (fun _ _=>trivial);refine zve (((zbK zey l).map _).nodup_iff.2 h) (h1.imp fun {a b} hab=> ?_)
 have:=zgE.flip a b trivial trivial;have:=zgE.flip b a trivial trivial
 omega
structure RfSt (l:List StatS):Prop where
 ok:StOk l
 so:zal zey l=l
theorem RfSt.nil:RfSt []:=⟨StOk.nil,rfl⟩
theorem RfSt.put {l:List StatS} (h:RfSt l) (s:Str) (n:Int):RfSt (zqS l s n)/\∀t,sv (zqS l s n) t=if t=s then n else sv l t:=by
 have hn:ANodup (zA s n (stP l)):=(zvd l).put;refine ⟨⟨zvf hn,zsn (zpn hn).nd⟩,fun t=> ?_⟩
 unfold zqS;rw [ztZ hn,zcX,zyQ h.ok.nd]
 by_cases e:t=s
 rw [if_pos e,if_pos e];rfl;rw [if_neg e,if_neg e];rfl
structure RfOk (G:GrS):Prop where
 nd:ANodup G
 st: ∀q∈G,RfSt q.2
theorem RfOk.get {G:GrS} (h:RfOk G) (p:Plc):RfSt ((alk p G).getD []):=by
 cases hq:alk p G with
 |none=>exact RfSt.nil
 |some l=>exact h.st _ (zbt hq)
theorem zBb {G:GrS} (h:RfOk G):GSOk G:=⟨h.nd,fun q hq=>(h.st q hq).ok⟩
theorem RfOk.put {G:GrS} (h:RfOk G) (p:Plc) (s:Str) (n:Int):RfOk (zA p (zqS ((alk p G).getD []) s n) G):=
 ⟨h.nd.put,fun q hq=>by
  rcases zcG hq with rfl|hq
  exact ((h.get p).put s n).1;exact h.st q hq⟩
end
section
theorem zpx {κ α:Type} [DecidableEq κ] (s:κ) (v v':α): ∀G:List (κ×α),zA s v' (zA s v G)=zA s v' G
 |[]=>by simp [zA]
 |p::r=>by
   have ih:=zpx s v v' r
   by_cases h:s=p.1
   simp [zA,h]
   simp [zA,h,ih]
theorem zpy {κ α:Type} [DecidableEq κ] {s:κ} {v:α}: ∀{G:List (κ×α)},alk s G=some v->zA s v G=G
 |[],h=>by simp [alk] at h
 |p::r,h=>by
   by_cases e:s=p.1
   simp only [alk,if_pos e] at h;have:=Aw h;subst this;unfold zA;rw [if_pos e,e];simp only [alk,if_neg e] at h;have ih:=zpy h;simp only [zA,if_neg e,ih]
def rowI (L:List (Str×Int)) (l:List StatS):List (Str×Int):=l.foldl (fun L s=>zA s.Name ((alk s.Name L).getD 0+s.Count) L) L
theorem GrOk.row {S:List Str} {p:Str} {b:Nat}: ∀(l:List StatS) {c:List (Of2×Int)} {G:GrM Str} {L:List (Str×Int)},GrOk S c G->alk p G=some (b,L)->GrOk S (zxe p c l) (zA p (b,rowI L l) G)
 |[],c,G,L,h,hq=>by
   show GrOk S c (zA p (b,L) G)
   rw [zpy hq];exact h
 |s::r,c,G,L,h,hq=>by
   have hL:=h.get hq;have h1:=h.put hq s.Name ((alk s.Name L).getD 0+s.Count);have e:zA (p,s.Name) ((alk s.Name L).getD 0+s.Count) c=zoE p c s:=by unfold zoE;rw [hL,zpQ]
   rw [e] at h1;have h2:=GrOk.row r h1 (L:=zA s.Name ((alk s.Name L).getD 0+s.Count) L) (by rw [zcX,if_pos rfl]);rw [zpx] at h2;exact h2
end
section
structure DisOk (q:DisS) (n:Nat):Prop where
 c:ANodup q.c
 S:q.S.Nodup
 k: ∀s∈q.S,s.length<=40
 cl:q.c.length<=n
 Sl:q.S.length<=n
 bd: ∀e∈q.c,-(100000*(n:Int))<=e.2/\e.2<=100000*(n:Int)
theorem DisOk.val {q:DisS} {n:Nat} (h:DisOk q n) (s:Str×Of2): -(100000*(n:Int))<=(alk s q.c).getD 0/\(alk s q.c).getD 0<=100000*(n:Int):=by
 cases hq:alk s q.c with
 |none=>simp;omega
 |some v=>exact h.bd _ (zbt hq)
theorem DisOk.up {q:DisS} {n:Nat} (h:DisOk q n):DisOk q (n+1):=
 ⟨h.c,h.S,h.k,by have:=h.cl;omega,by have:=h.Sl;omega,fun e he=>by have:=h.bd e he;omega⟩
theorem DisOk.sput {q:DisS} {n:Nat} (h:DisOk q n) {p:Play} (hp:playFault p=0):DisOk ⟨zcj p.Source q.S,q.c⟩ (n+1):=by
 refine ⟨h.c,zh7 h.S,fun s hs=> ?_,by have:=h.cl;dsimp only;omega,Ay (zsZ _ _) (by have:=h.Sl;omega),fun e he=>by have:=h.bd e he;omega⟩
 rcases zkV.1 hs with rfl|hs
 exact zsN (zeS hp).1;exact h.k s hs
theorem DisOk.put {q:DisS} {n:Nat} (h:DisOk q n) {p:Play} (hp:playFault p=0):DisOk ⟨zcj p.Source q.S,zyo q p⟩ (n+1):=by
 have hs:=h.sput hp;obtain ⟨_,_,_,_,_,hb,_⟩:=zeS hp;have hv:=h.val (zrr p);refine ⟨h.c.put,hs.S,hs.k,Ay (zoT _ _ _) (by have:=h.cl;omega),hs.Sl,fun e he=> ?_⟩
 rcases zcG he with rfl|he
 dsimp only;omega
 have:=h.bd e he;omega
end
section

end
section
theorem zoN (x:Of2): ∀(A:List Of2) (p:Option Of2),zd9 p (A++[x])=zd9 p A++if (A.getLast?.or p)=some x then [] else [x]
 |[],p=>by
   by_cases h:p=some x<;>simp [zd9,h]
 |y::A,p=>by
   have ih:=zoN x A (some y);have e:((y::A).getLast?.or p)=(A.getLast?.or (some y)):=by
    cases A with
    |nil=>simp
    |cons z A=>simp [List.getLast?_cons_cons,List.getLast?_cons]
   simp only [AY,zd9];rw [e,ih]
   split<;>simp
theorem zuc {l:List Of2} {k:Nat} {x y:Of2} (hx:l[k]? =some x) (hy:l[k-1]? =some y) (h0:0<k):zd9 none (l.take (k+1))=zd9 none (l.take k)++if x=y then [] else [x]:=by
 have hk:=zl hx;rw [zaj hx,zoN];have e:((l.take k).getLast?.or none)=some y:=by
  rw [List.getLast?_eq_getElem?,AD,Ce (by omega),AC (by omega),hy];rfl
 rw [e]
 by_cases h:x=y
 rw [if_pos h,if_pos (by rw [h])];rw [if_neg h,if_neg (by simpa using fun q:y=x=>h q.symm)]
structure CmpO (l:List Of2) (j:Nat) (D:List Of2):Prop where
 len:D.length=l.length
 lo:D.take (zd9 none (l.take j)).length=zd9 none (l.take j)
 lt:(zd9 none (l.take j)).length<j
 hi: ∀i,j<=i+1->D[i]? =l[i]?
theorem CmpO.same {l D:List Of2} {j:Nat} (h:CmpO l j D) {x y:Of2} (hx:l[j]? =some x) (hy:l[j-1]? =some y) (e:x=y):CmpO l (j+1) D/\(zd9 none (l.take (j+1))).length=(zd9 none (l.take j)).length:=by
 have h0:=h.lt;have h1:zd9 none (l.take (j+1))=zd9 none (l.take j):=by rw [zuc hx hy (by omega),if_pos e];simp
 exact ⟨⟨h.len,by rw [h1];exact h.lo,by rw [h1];omega,fun i hi=>h.hi i (by omega)⟩,by rw [h1]⟩
end
section
theorem zvE {l:List Str} {i:Nat} (h:i<l.length):l.getD i []∈l:=by
 rw [Af,Aa h];exact Bw h
end
section

end
section
open Op
end
end Go.HL
section
namespace Go.HL
section
variable {P:Program} {e:Env} {dst:Option Tmp} {ty:TypeId} {pos:String} {af:Array Edge} {g:Option (Nat×Bool)}
theorem ziT {t el:TypeId} (hu:P.underlying t=some (.pointer el)) (a:Option Addr) (w:World):(Op.equal t (.pointer a) (.pointer none)).run P w= .ok a.isNone w:=by
 have h: ∀d,(Op.equalIn (d+1) t (.pointer a) (.pointer none)).run P w= .ok a.isNone w:=fun d=>by
  cases a<;>simp only [Op.equalIn,Sem.run_bind,run_underlying hu,Result.andThen_ok,Sem.run_pure,Option.isNone]
 exact h 9999
def zv8:Option (List HVal)->HVal
 |none=> .raw (.pointer none)
 |some cs=> .vptr cs 0
theorem zov [Tracks] {x y:Operand} {t t' el:TypeId} {size bytes:Nat} {zero:Value} {o:Option (List HVal)} (hf:Fits P t (.ptr el) size bytes zero) (hx:ze e x=some (zv8 o)) (hy:ze e y=some (.raw (.pointer none))):
 POp P e ⟨dst,.binOp .eql t x y t',ty,pos,af,g⟩ (.bool o.isNone):=
 zx fun I a w ho=>by
  have hv:=ho.one (x:=x) (by simp [Op.operands]) hx;have h2:=(ho.one (x:=y) (by simp [Op.operands]) hy).raw_inv
  cases o with
  |none=>
    have h1:=hv.raw_inv;refine ⟨_,?_,.bool _⟩
    simp [execOp,h1,h2,eqGuard,binOp,ziT hf.ptrD]
  |some cs=>
    obtain ⟨b,base,rc,el',fr,h1,h3,h4,h5⟩:=hv.vptr_inv;refine ⟨_,?_,.bool _⟩
    simp [execOp,h1,h2,eqGuard,binOp,ziT hf.ptrD]
end
end Go.HL
namespace Go.HL
end Go.HL
end
namespace Go.HL
section
open Op
end
section
open Op
end
section
open Op
end
section
open Op
def sp4:List Str:=[[100,102],[102,119],[103,107],[109,102]]
def nm5:List Str:=[[97,110,110],[98,101,97],[99,105,100],[100,97,110],[101,118,101]]
def sl4:List Str:=[[115,98],[115,97],[115,99],[115,100]]
def ru5:List Str:=[[114,97],[114,98],[114,99],[114,100],[114,101]]
structure GoodPy (p:PlayerS):Prop where
 name:p.Name∈zb5
 pos:p.Positions.length<=4
structure GoodPys (l:List PlayerS):Prop where
 len:l.length<=5
 all: ∀p∈l,GoodPy p
def zmy (x:SlotS):Prop:=x.Positions.length<=10
structure GoodSlos (l:List SlotS):Prop where
 len:l.length<=4
 all: ∀x∈l,zmy x
def zjX (x:SlotS):Prop:=x.Positions.length<=4
structure GoodS4s (l:List SlotS):Prop where
 len:l.length<=4
 all: ∀x∈l,zjX x
theorem GoodS4s.up {l:List SlotS} (h:GoodS4s l):GoodSlos l:=⟨h.len,fun x hx=>by have:=h.all x hx;dsimp only [zjX] at this;show x.Positions.length<=10;omega⟩
def zq0 (x:HealthS):Prop:= -1000000000000000<=x.To/\x.To<=1000000000000000
structure GoodHes (l:List HealthS):Prop where
 len:l.length<=10
 all: ∀x∈l,zq0 x
def ofB (L:List PlayerS) (s:Str):Bool:=decide (zab (fun x:PlayerS=>x.Key==s) L 0<0)&&(s !=[122,101,100])
theorem GoodHes.filter {l:List HealthS} {p:HealthS->Bool} (h1:l.length<=10) (h2: ∀x∈l,zq0 x):GoodHes (l.filter p):=
 ⟨Ay (AU _ _) h1,fun x hx=>h2 x (List.mem_filter.1 hx).1⟩
def zvk (x:RuleS):Prop:=(-1000000000<=x.Num/\x.Num<=1000000000)/\ -1000000000<=x.Den/\x.Den<=1000000000
structure GoodRus (l:List RuleS):Prop where
 len:l.length<=5
 all: ∀x∈l,zvk x
theorem zsF {n g:Int} (h: -1000<=n/\n<=1000): -1000000000<=n.tdiv g/\n.tdiv g<=1000000000:=by
 have h1:(n.tdiv g).natAbs<=n.natAbs:=by
  rw [Int.natAbs_tdiv];exact Nat.div_le_self _ _
 omega
def zgi (n d:Int):Int:=((Nat.gcd n.natAbs d.natAbs:Nat):Int)
theorem zxL {n d:Int} (h:1<=d):1<=zgi n d:=by
 unfold zgi;have:=Nat.gcd_pos_of_pos_right n.natAbs (show 0<d.natAbs by omega)
 omega
end
section
open Op
def onI (W p n:Int):Int:=if 0<p then 1+((p-1-(W-1)).tmod (n-1)+(n-1)).tmod (n-1) else p
def onS (T:List Str) (W p n:Int):Str:=if T.length<=onI W p n then [] else T.getD (onI W p n).toNat []
theorem zAN {W p n:Int} (hp:0<=p/\p<=10) (hn:2<=n/\n<=10):(-10<=(p-1-(W-1)).tmod (n-1)/\(p-1-(W-1)).tmod (n-1)<=10)/\(0<=((p-1-(W-1)).tmod (n-1)+(n-1)).tmod (n-1)/\((p-1-(W-1)).tmod (n-1)+(n-1)).tmod (n-1)<=10)/\0<=onI W p n:=by
 obtain ⟨m1,m2,_⟩:=zr3 (a:=p-1-(W-1)) (b:=n-1) (by omega);have h0:0<=(p-1-(W-1)).tmod (n-1)+(n-1):=by omega
 have h1:=Int.tmod_nonneg (n-1) h0;have h2:=BV ((p-1-(W-1)).tmod (n-1)+(n-1)) (show 0<n-1 by omega);refine ⟨⟨by omega,by omega⟩,⟨h1,by omega⟩,?_⟩
 unfold onI
 split<;>omega
def zfI:List Str->List Str->Int
 |[],[]=>0
 |[],_::_=> -1
 |_::_,[]=>1
 |a::l,b::m=>if zU a b≠0 then zU a b else zfI l m
theorem zvw {l m:List Str} (h:m.length<=0\/m=[]) (hl:l≠[]):zfI l m=1:=by
 have hm:m=[]:=by
  rcases h with h|h
  cases m with
  |nil=>rfl
  |cons _ _=>simp at h
  exact h
 subst hm
 cases l with
 |nil=>exact absurd rfl hl
 |cons _ _=>rfl
theorem zut {a b:Str} {l m:List Str} (h:zU a b=0):zfI (a::l) (b::m)=zfI l m:=by rw [zfI,if_neg (by simp [h])]
theorem zuu {a b:Str} {l m:List Str} (h:zU a b≠0):zfI (a::l) (b::m)=zU a b:=by rw [zfI,if_pos h]
theorem zkK {m:List Str} {k:Nat} (h:k<m.length):m.drop k=m.getD k []::m.drop (k+1):=by
 rw [List.drop_eq_getElem_cons h,Af,Aa h];rfl
theorem zrl {m:List Str} (k:Nat):zfI [] (m.drop k)=if k<m.length then-1 else 0:=by
 split
 rename_i h;rw [zkK h];rfl
 rename_i h;rw [Bk (by omega)];rfl
def znj (x y:FixS):Int:=if zep [x.Week,x.At] [y.Week,y.At]≠0 then zep [x.Week,x.At] [y.Week,y.At] else zfI [x.Home] [y.Home]
theorem zvo:Cmp znj fun _=>True:=by
 have h:=zdi (ze8 FixS.Week) (zdi (ze8 FixS.At) (zfW FixS.Home));have e:znj=fun a b=>if zY a.Week b.Week≠0 then zY a.Week b.Week else if zY a.At b.At≠0 then zY a.At b.At else zU a.Home b.Home:=by
  funext a b
  unfold znj;have e1:zep [a.Week,a.At] [b.Week,b.At]=if zY a.Week b.Week≠0 then zY a.Week b.Week else zY a.At b.At:=by
   rw [zep,zep,zep]
   by_cases h2:zY a.At b.At≠0
   rw [if_pos h2];rw [if_neg h2];simp at h2;rw [h2]
  have e2:zfI [a.Home] [b.Home]=zU a.Home b.Home:=by
   rw [zfI,zfI]
   by_cases h2:zU a.Home b.Home≠0
   rw [if_pos h2];rw [if_neg h2];simp at h2;rw [h2]
  rw [e1,e2]
  by_cases h1:zY a.Week b.Week≠0
  rw [if_pos h1,if_pos h1,if_pos h1];rw [if_neg h1,if_neg h1]
 rw [e];exact h
def nOf (T:List Str):Int:=(T.length:Int)+(T.length:Int).tmod 2
def mOf (T:List Str):Int:=(nOf T).tdiv 2
theorem zyG {T:List Str} (h:2<=T.length/\T.length<=4):(0<=(T.length:Int).tmod 2/\(T.length:Int).tmod 2<=1)/\(2<=nOf T/\nOf T<=4)/\(1<=mOf T/\mOf T<=2)/\2*mOf T=nOf T:=by
 have h3:T.length=2\/T.length=3\/T.length=4:=by omega
 unfold mOf nOf
 rcases h3 with e|e|e<;>(rw [e];decide)
theorem zsI {w:Nat} {x y:Str} (h:w<=10):GamB ⟨(w:Int)+1,x,y,false,0,0,0,0⟩:=⟨by dsimp only;omega,by dsimp only;omega,by dsimp only;omega⟩
structure GoodGas (l:List GameS):Prop where
 len:l.length<=6
 all: ∀x∈l,GamB x
def tm4:List Str:=[[116,97],[116,98],[116,99],[116,100]]
theorem zeh {y:Int} (h:2<=y):HasAB (tm4.take y.toNat):=by
 obtain ⟨n,hn⟩: ∃n,y.toNat=n+2:=⟨y.toNat-2,by omega⟩
 rw [hn];unfold HasAB tm4
 constructor<;>simp
structure LeaC (g:LeagueS):Prop where
 lea:LeaB g
 gw: ∀x∈g.Games,GamB x
 tr: ∀s∈g.Trust,Sh s
 sl:g.Slots.length<=4
 tm:g.Teams.length<=5
 pl:g.Players.length<=5
 tt:HasAB g.Teams
theorem zil {g:LeagueS} (h1:GoodPys g.Players) (h2:g.Stints.length<=10) (h3:g.Fixtures.length<=12) (h4:GoodRus g.Rules) (h5:GoodSlos g.Slots) (h6:g.Teams.length<=5) (h7:g.Games.length<=6/\∀x∈g.Games,GamB x)
 (h8:g.Breaks.length<=6) (h9:g.Trust.length<=100/\∀s∈g.Trust,Sh s) (h10: -1<=g.Start/\g.Start<=1000000000000) (h11:HasAB g.Teams):LeaC g:=by
 have l1:=h1.len;have l4:=h4.len;have l5:=h5.len;refine ⟨⟨by omega,fun p hp=>(h1.all p hp).name,fun p hp=>by have:=(h1.all p hp).pos;omega,by omega,by omega,by omega,fun x hx=>h4.all x hx,by omega,fun x hx=>by have:=h5.all x hx;dsimp only [zmy] at this;omega,by omega,by omega,
  fun x hx=>⟨(h7.2 x hx).fr,(h7.2 x hx).ot⟩,by omega,by omega,by omega⟩,h7.2,h9.2,l5,h6,l1,h11⟩
structure LeaD (g:LeagueS):Prop where
 pl:GoodPys g.Players
 fx:g.Fixtures.length<=12
 ru:GoodRus g.Rules
 sl:GoodS4s g.Slots
 tm:2<=g.Teams.length/\g.Teams.length<=4
 br:g.Breaks.length<=6
 tr:GoodTr g.Trust
 sta: -1<=g.Start/\g.Start<=1000000000000
 tt:HasAB g.Teams
end
section
open Op
structure HalfG {α:Type} (a b l:List α):Prop where
 sa:List.Sublist a l
 sb:List.Sublist b l
theorem HalfG.nil {α:Type}:HalfG ([]:List α) [] []:=⟨A8 _,A8 _⟩
theorem HalfG.left {α:Type} {a b l:List α} (h:HalfG a b l) (x:α):HalfG (a++[x]) b (l++[x]):=
 ⟨h.sa.append (A8 _),h.sb.trans (Bx _ _)⟩
theorem HalfG.right {α:Type} {a b l:List α} (h:HalfG a b l) (x:α):HalfG a (b++[x]) (l++[x]):=
 ⟨h.sa.trans (Bx _ _),h.sb.append (A8 _)⟩
abbrev MvS:={m:MoveS//MovB m}
abbrev zcB (x:MvS):HVal:=zcx x.1
def zwr (x y:MvS):Int:=zfw x.1 y.1
theorem zuo:Cmp zwr fun _=>True:=ztd
end
section
structure Half (a b l:List Play):Prop where
 sa:a.Sublist l
 sb:b.Sublist l
 all: ∀x∈l,x∈a\/x∈b
theorem Half.nil:Half [] [] []:=⟨A8 _,A8 _,fun x h=>by cases h⟩
theorem Half.left {a b l:List Play} (h:Half a b l) (x:Play):Half (a++[x]) b (l++[x]):=
 ⟨h.sa.append (A8 _),h.sb.trans (Bx _ _),fun y hy=>by
  rcases List.mem_append.1 hy with hy|hy
  rcases h.all y hy with q|q
  exact .inl (Al _ q);exact .inr q;exact .inl (Bo _ hy)⟩
theorem Half.right {a b l:List Play} (h:Half a b l) (x:Play):Half a (b++[x]) (l++[x]):=
 ⟨h.sa.trans (Bx _ _),h.sb.append (A8 _),fun y hy=>by
  rcases List.mem_append.1 hy with hy|hy
  rcases h.all y hy with q|q
  exact .inl q;exact .inr (Al _ q);exact .inr (Bo _ hy)⟩
end
section

end
section
open Op
def zqZ (x:ChoiceS):Prop:=(∀s∈x.Players,Sh s)/\Sh x.Captain/\x.Players.length<=5
def GoodC4 (x:ChoiceS):Prop:=(∀s∈x.Players,Sh s)/\Sh x.Captain/\x.Players.length<=4
theorem GoodC4.up {x:ChoiceS} (h:GoodC4 x):zqZ x:=⟨h.1,h.2.1,Nat.le_succ_of_le h.2.2⟩
structure GoodChs (l:List ChoiceS):Prop where
 len:l.length<=20
 all: ∀x∈l,zqZ x
structure BookG (b:BookS):Prop where
 lea:LeaC b.League
 mv:b.Moves.length<=10
 mb: ∀x∈b.Moves,MovB x
 pl:GoodPl b.Plays
 me:GoodMds b.Mends
 he:GoodHes b.Health
 ch:GoodChs b.Choices
theorem BookG.c {b:BookS} (h:BookG b):BookC b:=by
 have a1:=h.mv;have a2:=h.pl.len;have a3:=h.me.len;have a4:=h.he.len;have a5:=h.ch.len;exact ⟨⟨h.lea.lea,by omega,by omega,by omega,by omega,by omega,fun x hx=>by have:=(h.ch.all x hx).2.2;omega⟩,h.lea.gw,h.mb,h.he.all,h.lea.tr,h.pl.all,h.me.all,fun x hx=>⟨(h.ch.all x hx).1,(h.ch.all x hx).2.1⟩,by omega,by omega,by omega,by omega,by omega,h.lea.tt⟩
def g0L:LeagueS:=⟨[],[],[],[],[⟨[115,97],[[103,107]]⟩],⟨3,0,5,0⟩,[[116,97],[116,98]],[],[],[],0⟩
theorem g0_b:LeaB g0L:=
 ⟨by decide,fun _ h=>(by cases h),fun _ h=>(by cases h),by decide,by decide,by decide,fun _ h=>(by cases h),by decide,fun x hx=>(by simp only [g0L,List.mem_singleton] at hx;subst hx;decide),by decide,by decide,fun _ h=>(by cases h),by decide,by decide,by decide⟩
theorem g0_E:zb3 g0L=0:=by decide
end
section
open Go
theorem zmL: ∀{l:List Int},orI l=0->∀x∈l,x=0
 |[],_,x,h=>by cases h
 |y::r,h,x,hx=>by
   unfold orI at h
   by_cases e:y≠0
   rw [if_pos e] at h;exact absurd h e;rw [if_neg e] at h
   rcases List.mem_cons.1 hx with rfl|q
   exact Decidable.not_not.1 e;exact zmL h x q
theorem zw8 {g:LeagueS} (h:zb3 g=0):zgh g=0:=by
 unfold zb3 at h
 by_cases e:zgh g≠0
 rw [if_pos e] at h;exact h;exact Decidable.not_not.1 e
theorem zum {b:BookS} (h:zck b=0):zb3 b.League=0/\orI [zcN b.Moves,zb7 b.Plays,zef b.Mends,zpa b.League.Players b.Health,zo6 b.League.Teams b.League.Slots.length b.Choices]=0:=by
 unfold zck at h
 by_cases e:zb3 b.League≠0
 rw [if_pos e] at h;exact absurd h e;rw [if_neg e] at h;exact ⟨Decidable.not_not.1 e,h⟩
structure BookF (b:BookS):Prop where
 bo:zbZ b.League.Bounds=0
 mo:zcN b.Moves=0
 ps:b.League.Players.length<=500
 ky: ∀p∈b.League.Players,key p.Key=true
theorem zlE {b:BookS} (h:zck b=0):BookF b:=by
 obtain ⟨h1,h2⟩:=zum h;have h3:=zmL (zw8 h1);have h4:zgq b.League.Players b.League.Stints=0:=h3 _ (by simp);have h5:zbA b.League.Players=0:=by
  unfold zgq at h4
  by_cases e:zbA b.League.Players≠0
  rw [if_pos e] at h4;exact h4;exact Decidable.not_not.1 e
 obtain ⟨h6,h7⟩:=zmJ h5;refine ⟨h3 _ (by simp),zmL h2 _ (by simp),h6,fun p hp=> ?_⟩
 obtain ⟨i,hi,rfl⟩:=A4 hp;have:=h7 i _ (Aa hi);unfold zch at this
 by_cases e:key b.League.Players[i].Key=false
 rw [if_pos e] at this;cases this
 simpa using e
abbrev zjk (b:BookS):List Str:=b.League.Players.map (·.Key)
def mfE (b:BookS) (n:Int):Int:=if zck b≠0 then zck b else if zT n=false then 1 else 0
def zfb (b:BookS) (n:Int):Int:=if mfE b n≠0 then mfE b n else frE b.League.Bounds b.Moves (zjk b) n
def zgc (b:BookS) (n:Int):List Str:=if zfb b n≠0 then [] else zgd b.League.Bounds (zbM b.League.Bounds b.Moves n) n (zjk b)
theorem BookF.fr {b:BookS} (h:BookF b) {n:Int} (hn:zT n=true):frE b.League.Bounds b.Moves (zjk b) n=0:=by
 refine zsE (by simp [orI,h.bo,h.mo]) (by simp;exact h.ps) ?_ hn
 rw [B2]
 intro s hs
 obtain ⟨p,hp,rfl⟩:=List.mem_map.1 hs;rw [h.ky p hp];simp
theorem zpJ {b:BookS} (h:zck b=0) {n:Int} (hn:zT n=true):zfb b n=0/\zgc b n=zgd b.League.Bounds (zbM b.League.Bounds b.Moves n) n (zjk b):=by
 have hm:mfE b n=0:=by unfold mfE;rw [if_neg (fun q=>q h),if_neg (by rw [hn];simp)]
 have he:zfb b n=0:=by unfold zfb;rw [if_neg (fun q=>q hm)];exact (zlE h).fr hn
 exact ⟨he,by unfold zgc;rw [if_neg (fun q=>q he)]⟩
theorem zvB {b:BoundS} {k:RosS} {n:Int} {l:List Str} {s:Str} (h:s∈zgd b k n l):s∈l/\zaK k s=[]:=by
 unfold zgd at h;have:=List.mem_filter.1 h;refine ⟨this.1,?_⟩
 have h2:=this.2
 simp at h2;exact h2.1
def g0B:BookS:=⟨g0L,[],[],[],[],[]⟩
theorem zw5:BookC g0B:=
 ⟨⟨g0_b,by decide,by decide,by decide,by decide,by decide,fun _ h=>(by cases h)⟩,fun _ h=>(by cases h),fun _ h=>(by cases h),fun _ h=>(by cases h),fun _ h=>(by cases h),fun _ h=>(by cases h),fun _ h=>(by cases h),fun _ h=>(by cases h),by decide,by decide,by decide,by decide,by decide,⟨by decide,by decide⟩⟩
theorem zw4:zck g0B=0:=by
 unfold zck;rw [show zb3 g0B.League=0 from g0_E,if_neg (by decide)]
 decide
end
end Go.HL
namespace Go.Proofs.YtahegdhbakjdoaaGreatDoor
set_option maxRecDepth 100000
set_option linter.unusedVariables false
set_option linter.unusedSimpArgs false
section
open Go.Proofs.Tryz
open Go.HL
theorem zkA [Tracks] {b:BookS} {n:Int} (hT:Tracks.on=false) (hb:BookC b):ConP prog 26 [.vptr (zb (zbW b)) 0,.int .i64 n] (.int .i64 (mfE b n)):=by
 refine uOb func26 ntmps26 ?_;refine gz5 ?_;refine dq ((by first|exact zF rfl|exact zm rfl)) ?_;refine dq (zbD (h:=zbW b) zbr rfl rfl rfl rfl) ?_;refine dq (uCl ca66 rfl (zhc (b:=b) hT hb.bb hb.hw)) ?_;refine gz8 ?_;refine uGr rfl (fun hc=>uCl zhx rfl zaZ) ?_;refine gz3 ?_;refine uCo (fun h1=> ?_) fun h2=> ?_
 refine gz9 ?_;refine uRp ?_;unfold mfE
 simp_all
 refine gz7 ?_;refine uRp ?_;unfold mfE
 simp_all
theorem zqq [Tracks] {b:BookS} {n:Int} (hT:Tracks.on=false) (hb:BookC b):ConP prog 8 [zbW b,.int .i64 n] (.tup [eSs (zgc b n),.int .i64 (zfb b n)]):=by
 have hpl:=hb.bb.lea.pl;refine uOb func8 ntmps8 ?_;refine gz8 ?_;refine dq (uCl ca26 rfl (zkA (b:=b) hT hb)) ?_;refine gz6 ?_;refine uCo (fun h1=> ?_) fun h2=> ?_
 refine gz6 ?_
 focus first
 |exact za5 rfl (zW (by rw [zgc,if_pos (by rw [zfb,if_pos h1];exact h1)];exact zQ 1) (by rw [zfb,if_pos h1];exact Weak.refl _))
 | (refine zw rfl ?_
    have he:zfb b n=frE b.League.Bounds b.Moves (zjk b) n:=by rw [zfb,if_neg (fun q=>q hm0)]
    rw [zgc,he])
 refine gz5 ?_;refine zf (zM 1) ?_;refine gz2 ?_;refine dq ((by first|exact zn zbr rfl zaS (by decide) rfl|exact zh zbr rfl zaS (by decide) rfl)) ?_;refine dq ((by first|exact zn zaS rfl zfl (by decide) rfl|exact zh zaS rfl zfl (by decide) rfl)) ?_;refine dq (zap (h:=zaA b.League.Players) zfl rfl rfl rfl) ?_;refine dq (zao (f:=zcY) (l:=b.League.Players) zfl rfl) ?_;refine gz3 ?_;refine uV2 [7,1,9,1,19,10] (fun (i:Nat) (u:Value)=>[(19,.int .i64 i),(7,.raw u)]) (fun (i:Nat) (u:Value)=>[.arr u 1 (((b.League.Players.take i).map (·.Key)).map .str)]) (fun (i:Nat) (u:Value)=>i<=b.League.Players.length/\(True)) (fun (i:Nat) (u:Value)=>b.League.Players.length-i) (0) (.slice none 0 0) ?_ ?_ ?_ ?_;exact ⟨Ad _,trivial⟩;exact ⟨rfl,rfl,trivial⟩;exact (Ab _)
 intro i u hinv
 obtain ⟨hi,-⟩:=hinv;refine gz4 ?_;refine uCo (fun h3=> ?_) fun h4=> ?_
 obtain ⟨x,hx⟩: ∃x,b.League.Players[i]? =some x:=⟨_,Aa h3⟩
 have hdx:=zg hx;refine gz5 ?_;refine dq (zD (f:=zcY) (l:=b.League.Players) (j:=i) (a:=x) zfl zeY rfl rfl rfl hx) ?_;refine gz1 ?_;refine de rfl (zj zeY rfl fun b9=> ?_)
 refine de0 (zo zeY rfl rfl rfl rfl rfl ?_)
 refine gz1 ?_;refine zf (zp 9 rfl) ?_;refine gz2 ?_;refine dq ((by first|exact zn zeY rfl ty9 (by decide) rfl|exact zh zeY rfl ty9 (by decide) rfl)) ?_;refine gz1 ?_;refine dq (za (hs:=[_]) zk ty9 rfl rfl (by decide) (by decide) rfl) ?_;refine de rfl (zO (i:=0) zk ty9 rfl rfl rfl rfl rfl (by simp [zax,zb]) (by have:=hb.bb.lea.pl;simp only [Ah,Ai,AG,AD] at*;omega) fun v27=> ?_)
 refine gz8 ?_;exact ⟨i+1,v27,⟨by omega,trivial⟩,uD,⟨rfl,rfl,trivial⟩,uK,zu (by dsimp only;rw [zaj hx,AB,AB];rfl)⟩;have hni:b.League.Players.length<=i:=by omega
 obtain rfl:i=b.League.Players.length:=by omega
 rw [An];refine gz2 ?_;refine zL ?_;refine gz2 ?_;refine zf (zas 7 (i:=0) rfl rfl) ?_;have hm0:mfE b n=0:=by simpa using h2
 refine gz1 ?_;refine dq ((by first|exact zn zbr rfl zaS (by decide) rfl|exact zh zbr rfl zaS (by decide) rfl)) ?_;refine dq ((by first|exact zn zaS rfl zfO (by decide) rfl|exact zh zaS rfl zfO (by decide) rfl)) ?_;refine dq (zau (h':=zdR b.League.Bounds) (zaY zfO rfl rfl (Ao rfl)) rfl) ?_;refine dq ((by first|exact zn zbr rfl zbB (by decide) rfl|exact zh zbr rfl zbB (by decide) rfl)) ?_;refine dq (zap (h:=zbH b.Moves) zbB rfl rfl rfl) ?_;refine gz2 ?_;refine dq (uCl ca27 rfl (zqt (b:=b.League.Bounds) (l:=b.Moves) (ps:=zjk b) (n:=n) hb.bb.mv (by simp;exact hb.bb.lea.pl))) ?_;refine gz6 ?_
 focus first
 |exact za5 rfl (zW (by rw [zgc,if_pos (by rw [zfb,if_pos h1];exact h1)];exact zQ 1) (by rw [zfb,if_pos h1];exact Weak.refl _))
 | (refine zw rfl ?_
    have he:zfb b n=frE b.League.Bounds b.Moves (zjk b) n:=by rw [zfb,if_neg (fun q=>q hm0)]
    rw [zgc,he])
end
end Go.Proofs.YtahegdhbakjdoaaGreatDoor
namespace Go.HL
section
open Go
def zik (who:Str) (w:Int) (x:HealthS):Bool:=(x.Player==who&&decide (x.From<=w))&&decide (w<x.To)
def zeV (h:List HealthS) (who:Str) (w:Int):Int:=((h.find? (zik who w)).map (·.Kind)).getD 0
def zlX (who:Str) (w:Int) (c:Str):List StintS->Str
 |[]=>c
 |s::r=>zlX who w (if s.Player=who/\s.Week<=w then s.Club else c) r
def zcd (l:List StintS) (who:Str) (w:Int):Str:=zlX who w [] l
def zoh (club:Str) (w:Int) (x:FixS):Bool:=x.Week==w&&(x.Home==club||x.Away==club)
def zce (f:List FixS) (club:Str) (w:Int):List FixS:=f.filter (zoh club w)
def zhk (l:List StintS) (f:List FixS) (who:Str) (w:Int):Int:=if zcd l who w=[] then 0 else (((zce f (zcd l who w) w).head?).map (·.At)).getD 0
def zfu (l:List StintS) (f:List FixS) (who:Str) (w:Int):Bool:=if zcd l who w=[] then false else decide (0<(zce f (zcd l who w) w).length)
def zmz (L:List PlayerS) (who:Str) (w:Int):Int:=if zbl L who=false then 8 else if zbd w=false then 1 else 0
def zrm (a b:List Str):Bool:=a.any fun s=>b.contains s
def zhU (team:Str) (w at' before:Int) (x:ChoiceS):Bool:=((x.Team==team&&x.Week==w)&&decide (x.At<=at'))&&decide (x.At<before)
def zjc (team:Str) (w at' before:Int) (o:Option ChoiceS):List ChoiceS->Option ChoiceS
 |[]=>o
 |x::r=>zjc team w at' before (if zhU team w at' before x=true then some x else o) r
def zeH (l:List ChoiceS) (team:Str) (w at' before:Int):Option ChoiceS:=zjc team w at' before none l
def zfB:Str:=[103,111,110,101]
def znA:Str:=[111,117,116]
def zkQ:Str:=[105,100,108,101]
def zla:Str:=[116,121,112,101]
def zgu (b:BookS) (own:List Str) (key:Str) (s:SlotS) (w:Int):Str:=
 match b.League.Players.find? (fun p=>p.Key==key) with
 |none=>zfB
 |some p=>if own.contains key=false then zfB else if zeV b.Health key w=2 then znA else if zfu b.League.Stints b.League.Fixtures key w=false then zkQ else if zrm p.Positions s.Positions=false then zla else []
theorem ztv (team:Str) (w at' before:Int) (o:Option ChoiceS) (l:List ChoiceS) (x:ChoiceS):zjc team w at' before o (l++[x])=if zhU team w at' before x=true then some x else zjc team w at' before o l:=by
 induction l generalizing o with
 |nil=>rfl
 |cons y r ih=>exact ih _
theorem zn3 {team:Str} {w at' before:Int} {o:Option ChoiceS} {l:List ChoiceS} {c:ChoiceS} (h:zjc team w at' before o l=some c):o=some c\/c∈l/\zhU team w at' before c=true:=by
 induction l generalizing o with
 |nil=>exact .inl h
 |cons y r ih=>
   rcases ih h with q|⟨q1,q2⟩
   by_cases e:zhU team w at' before y=true
   rw [if_pos e] at q;cases q;exact .inr ⟨Am,e⟩;rw [if_neg e] at q;exact .inl q;exact .inr ⟨Au _ q1,q2⟩
theorem zxP {n:Nat} {k:RosS} (h:RosOk n k) {p t:Str} (ho:zaK k p=[]):(rPl k t).contains p=false:=by
 cases hc:(rPl k t).contains p with
 |false=>rfl
 |true=>
   have hm:p∈rPl k t:=by simpa using hc
   have h1:=(h.sp t).2.2 p hm;have h2:=zrM h ho;rw [h1] at h2;cases h2
end
section
open Go
theorem zA4 {L:List PlayerS} {s:Str} (hs:SortedS (L.map (·.Key))) (h:(L.map (·.Key)).contains s=true):
 ∃p,L[zdb (L.map (·.Key)) s]? =some p/\p.Key=s/\L.find? (fun p=>p.Key==s)=some p:=by
 obtain ⟨h1,h2⟩:=zx7 hs h;have hl:zdb (L.map (·.Key)) s<L.length:=by simpa using zl h1
 refine ⟨L[zdb (L.map (·.Key)) s],Aa hl,?_,?_⟩
 rw [Ag,Aa hl] at h1
 simpa using h1
 rw [List.find?_eq_some_iff_getElem];refine ⟨?_,_,hl,rfl,fun j hj=> ?_⟩
 rw [Ag,Aa hl] at h1
 simpa using h1
 have:=h2 j (L[j]'(by omega)).Key hj (by rw [Ag,Aa (by omega)];rfl)
 simpa using this
theorem zsS {L:List PlayerS} {s:Str} (h:(L.map (·.Key)).contains s=false):L.find? (fun p=>p.Key==s)=none:=by
 rw [List.find?_eq_none]
 intro p hp q
 have:(L.map (·.Key)).contains s=true:=by
  simp only [Cb,decide_eq_true_eq];exact List.mem_map.2 ⟨p,hp,by simpa using q⟩
 rw [h] at this;cases this
abbrev plO (L:List PlayerS) (s:Str):Option PlayerS:=L.find? (fun p=>p.Key==s)
abbrev pPl (o:Option PlayerS):HVal:=zv8 (o.map fun p=>zb (zcY p))
abbrev pCh (o:Option ChoiceS):HVal:=zv8 (o.map fun c=>zb (zag c))
theorem zsl {α:Type} {p:α->Bool} {l:List α} {i:Nat} {x:α} (hx:l[i]? =some x):(l.take (i+1)).filter p=if p x=true then (l.take i).filter p++[x] else (l.take i).filter p:=by
 rw [zaj hx,Bn]
 split
 rename_i h;rw [List.filter_cons_of_pos h];rfl
 rename_i h;rw [List.filter_cons_of_neg h];simp
theorem zqe {who:Str} {w:Int} {x:HealthS} {r:List HealthS} (hc:zik who w x=true):zeV (x::r) who w=x.Kind:=by
 unfold zeV;rw [List.find?_cons_of_pos hc];rfl
theorem zwg {who:Str} {w:Int} {x:HealthS} {r:List HealthS} (hc:zik who w x=false):zeV (x::r) who w=zeV r who w:=by
 unfold zeV;rw [List.find?_cons_of_neg (by rw [hc];simp)]
theorem zxv {L:List PlayerS} {h:List HealthS} (hz:ziL L h=0):zbA L=0:=by
 unfold ziL at hz
 by_cases e:zbA L≠0
 rw [if_pos e] at hz;exact hz;exact Decidable.not_not.1 e
theorem zyg {L:List PlayerS} {h:List StintS} (hz:zgq L h=0):zbA L=0:=by
 unfold zgq at hz
 by_cases e:zbA L≠0
 rw [if_pos e] at hz;exact hz;exact Decidable.not_not.1 e
theorem zuj {L:List PlayerS} {s:Str} {w:Int} (h1:zbl L s=true) (h2:zbd w=true):zmz L s w=0:=by
 unfold zmz;rw [if_neg (by rw [h1];simp),if_neg (by rw [h2];simp)]
theorem zof {f:List FixS} {c:Str} {w:Int} {i:Nat} {x:FixS} (hx:f[i]? =some x):zce (f.take (i+1)) c w=if zoh c w x=true then zce (f.take i) c w++[x] else zce (f.take i) c w:=zsl hx
theorem zpK (f:List FixS) (c:Str) (w:Int):(zce f c w).length<=f.length:=AU _ _
theorem zkM {l:List StintS} {f:List FixS} {who:Str} {w:Int} (h:zcd l who w=[]):zhk l f who w=0/\zfu l f who w=false:=by
 unfold zhk zfu;rw [if_pos h,if_pos h];exact ⟨rfl,rfl⟩
theorem zkL {l:List StintS} {f:List FixS} {who:Str} {w:Int} (h:zce f (zcd l who w) w=[]):zhk l f who w=0/\zfu l f who w=false:=by
 unfold zhk zfu;rw [h]
 split<;>exact ⟨rfl,rfl⟩
theorem zkN {l:List StintS} {f:List FixS} {who:Str} {w:Int} {x:FixS} {r:List FixS} (h0:zcd l who w≠[]) (h:zce f (zcd l who w) w=x::r):zhk l f who w=x.At/\zfu l f who w=true:=by
 unfold zhk zfu;rw [h,if_neg h0,if_neg h0];exact ⟨rfl,by simp⟩
abbrev ztA (t:Str) (p h:List Str):HVal:= .agg [.str t,eSs p,eSs h]
abbrev zmE (b:BookS) (n:Int):HVal:= .agg [.vptr (zb (zbW b)) 0,.int .i64 n]
def zdM (b:BookS) (t:Str) (w n:Int):Int:=if zck b≠0 then zck b else if b.League.Teams.contains t=false then 8 else if zbd w=false\/zT n=false then 1 else 0
def zmw (b:BookS) (own:List Str) (c:ChoiceS) (w:Int) (i:Nat):Option PairS:=
 if c.Players.getD i []=[] then none else if zgu b own (c.Players.getD i []) (b.League.Slots.getD i zjs) w=[] then none
 else some ⟨(b.League.Slots.getD i zjs).Key,zgu b own (c.Players.getD i []) (b.League.Slots.getD i zjs) w⟩
def zlc (b:BookS) (own:List Str) (c:ChoiceS) (w:Int) (n:Nat):List PairS:=(List.range n).filterMap (zmw b own c w)
def zwn (b:BookS) (t:Str) (w n:Int):Option ChoiceS->List PairS
 |none=>[]
 |some c=>zlc b (rPl (zbM b.League.Bounds b.Moves n) t) c w b.League.Slots.length
def zgt (b:BookS) (t:Str) (w n:Int):List PairS:=if zdM b t w n≠0 then [] else zwn b t w n (zeH b.Choices t w n 345686400000)
theorem zgv {b:BookS} {own:List Str} {s:Str} {x:SlotS} {w:Int} (h:plO b.League.Players s=none):zgu b own s x w=zfB:=by
 unfold zgu;rw [show b.League.Players.find? (fun p=>p.Key==s)=none from h]
theorem zgw {b:BookS} {own:List Str} {s:Str} {x:SlotS} {w:Int} {p:PlayerS} (h:plO b.League.Players s=some p):
 zgu b own s x w=if own.contains s=false then zfB else if zeV b.Health s w=2 then znA else if zfu b.League.Stints b.League.Fixtures s w=false then zkQ else if zrm p.Positions x.Positions=false then zla else []:=by
 unfold zgu;rw [show b.League.Players.find? (fun p=>p.Key==s)=some p from h]
theorem zpu {b:BookS} {t:Str} {w n:Int} (h: ¬zdM b t w n=0):zgt b t w n=[]:=by unfold zgt;rw [if_pos h]
theorem znG {b:BookS} {t:Str} {w n:Int} (h:zdM b t w n=0) (hc:zeH b.Choices t w n 345686400000=none):zgt b t w n=[]:=by
 unfold zgt;rw [if_neg (fun q=>q h),hc];rfl
theorem zmx (b:BookS) (own:List Str) (c:ChoiceS) (w:Int) (n:Nat):zlc b own c w (n+1)=zlc b own c w n++(zmw b own c w n).toList:=by
 unfold zlc;rw [List.range_succ,List.filterMap_append]
 cases h:zmw b own c w n<;>simp [h]
theorem zr8 (b:BookS) (own:List Str) (c:ChoiceS) (w:Int) (n:Nat):(zlc b own c w n).length<=n:=by
 have:=List.length_filterMap_le (zmw b own c w) (List.range n);unfold zlc;simpa using this
theorem zyi {b:BookS} {t:Str} {w n:Int} (h:zdM b t w n=0):zck b=0/\b.League.Teams.contains t=true/\zbd w=true/\zT n=true:=by
 unfold zdM at h
 by_cases h1:zck b≠0
 rw [if_pos h1] at h;exact absurd h h1;rw [if_neg h1] at h
 by_cases h2:b.League.Teams.contains t=false
 rw [if_pos h2] at h;cases h;rw [if_neg h2] at h
 by_cases h3:zbd w=false\/zT n=false
 rw [if_pos h3] at h;cases h;rw [not_or] at h3;exact ⟨Decidable.not_not.1 h1,by simpa using h2,by simpa using h3.1,by simpa using h3.2⟩
structure BookW (b:BookS):Prop where
 f:BookF b
 st:zgq b.League.Players b.League.Stints=0
 fx:zgL b.League.Fixtures=0
 he:ziL b.League.Players b.Health=0
 py:zbA b.League.Players=0
 so:SortedS (b.League.Players.map (·.Key))
 ch: ∀c∈b.Choices,c.Players.length=b.League.Slots.length/\zbd c.Week=true/\zT c.At=true
 tm: ∀t,b.League.Teams.contains t=true->key t=true
 sl:b.League.Slots.length<=12
theorem zxp {T:List Str} {n:Nat} {l:List ChoiceS} (h:zo6 T n l=0) {c:ChoiceS} (hc:c∈l):c.Players.length=n/\zbd c.Week=true/\zT c.At=true:=by
 obtain ⟨_,h2⟩:=zmJ h;obtain ⟨i,hi,rfl⟩:=A4 hc;have:=h2 i _ (Aa hi);unfold zbv at this
 split at this
 omega
 split at this
 omega
 split at this
 omega
 rename_i h3 h4
 rw [not_or] at h3;exact ⟨Decidable.not_not.1 h4,by simpa using h3.1,by simpa using h3.2⟩
theorem zrd {b:BookS} (h:zck b=0):BookW b:=by
 obtain ⟨h1,h2⟩:=zum h;have h3:=zmL (zw8 h1);have h4:zgq b.League.Players b.League.Stints=0:=h3 _ (by simp);have h5:zbA b.League.Players=0:=by
  unfold zgq at h4
  by_cases e:zbA b.League.Players≠0
  rw [if_pos e] at h4;exact h4;exact Decidable.not_not.1 e
 have h6:zfj b.League.Teams b.League.Games=0:=h3 _ (by simp);have h7:zct b.League.Teams=0:=by
  unfold zfj at h6
  by_cases e:zct b.League.Teams≠0
  rw [if_pos e] at h6;exact h6;exact Decidable.not_not.1 e
 have h8:zdm b.League.Teams=0:=by
  unfold zct at h7
  split at h7
  cases h7
  split at h7
  cases h7
  exact h7
 have h9:zdE b.League.Slots=0:=h3 _ (by simp);have h10:zo6 b.League.Teams b.League.Slots.length b.Choices=0:=zmL h2 _ (by simp);refine ⟨zlE h,h4,h3 _ (by simp),?_,h5,zh2 h5,fun c hc=>zxp h10 hc,fun t ht=>zmp _ 0 h8 t (by simpa using ht),?_⟩
 unfold ziL;rw [if_neg (fun q=>q h5)];exact zmL h2 _ (by simp);unfold zdE at h9
 split at h9
 cases h9
 split at h9
 cases h9
 omega
theorem zuF {b:BookS} (h:zck b=0) {t:Str} {w n:Int} (hw:zbd w=true) (hn:zT n=true) (ht:b.League.Teams.contains t=true) {c:ChoiceS} (hc:zeH b.Choices t w n 345686400000=some c)
 {k:Nat} {p:Str} (hp:c.Players[k]? =some p) (hf:p∈zgc b n):(⟨(b.League.Slots.getD k zjs).Key,zfB⟩:PairS)∈zgt b t w n:=by
 have hE:zdM b t w n=0:=by
  unfold zdM;rw [if_neg (fun q=>q h),if_neg (by rw [ht];simp),if_neg (by rw [hw,hn];simp)]
 obtain ⟨_,hF⟩:=zpJ h hn;rw [hF] at hf;obtain ⟨hk,ho⟩:=zvB hf;have hW:=zrd h;have hm:=zrH hW.f.mo;have hr:=zpl (b:=b.League.Bounds) (m:=n) zsX (l:=b.Moves) fun x hx=>⟨(hm.2 x hx).1,(hm.2 x hx).2.1,fun e=>by have:=(hm.2 x hx).2.2.1;rw [e] at this;cases this⟩
 have hno:=zxP hr (t:=t) ho;obtain ⟨q1,q2⟩:c∈b.Choices/\zhU t w n 345686400000 c=true:=by
  rcases zn3 hc with q|q
  cases q
  exact q
 have hcl:=(hW.ch c q1).1;have hkl:k<b.League.Slots.length:=by rw [<-hcl];exact zl hp
 obtain ⟨pl,hpl,hpk⟩:=List.mem_map.1 hk;have hky:key p=true:=by rw [<-hpk];exact hW.f.ky pl hpl
 have hp0:p≠[]:=fun e=>by rw [e] at hky;cases hky
 have hg:c.Players.getD k []=p:=by rw [Af,hp];rfl
 have hgw:zgu b (rPl (zbM b.League.Bounds b.Moves n) t) p (b.League.Slots.getD k zjs) w=zfB:=by
  unfold zgu
  cases hq:b.League.Players.find? (fun x=>x.Key==p) with
  |none=>rfl
  |some x=>exact if_pos hno
 unfold zgt;rw [if_neg (fun q=>q hE),hc]
 show _∈zlc b _ c w _
 unfold zlc;rw [List.mem_filterMap];refine ⟨k,List.mem_range.2 hkl,?_⟩
 unfold zmw;rw [hg,if_neg hp0,hgw,if_neg (by decide)]
end
end Go.HL
namespace Go.Proofs.YtahegdhbakjdoaaGreatDoor
set_option maxRecDepth 100000
set_option linter.unusedVariables false
set_option linter.unusedSimpArgs false
section
open Go.Proofs.Tryz
open Go.HL
theorem zj3 [Tracks] {L:List PlayerS} {s:Str} {w:Int} (hL:L.length<=1000000) (hz:zbA L=0):ConP prog 153 [zaA L,.str s,.int .i64 w] (.int .i64 (zmz L s w)):=by
 refine uOb func153 ntmps153 ?_;refine gz8 ?_;refine dq (uCl ztp rfl (zhv (l:=L) hL (zh2 hz))) ?_;refine gz3 ?_;refine uCo (fun h1=> ?_) fun h2=> ?_
 refine gz4 ?_;refine uRp ?_;have hfn:zfa (L.map (·.Key)) s<0↔zbl L s=false:=zhi;have hfp:zbl L s=true↔¬zfa (L.map (·.Key)) s<0:=by rw [hfn];simp
 unfold zmz
 by_cases hq:zbl L s=true
 have:=hfp.1 hq;simp_all;have:=hfn.2 (by simpa using hq);focus first|(simp_all;done)|(exfalso;omega)
 refine gz2 ?_;refine dq (uCl zkI rfl zcl) ?_;refine gz3 ?_;refine uCo (fun h3=> ?_) fun h4=> ?_
 refine gz4 ?_;refine uRp ?_;have hfn:zfa (L.map (·.Key)) s<0↔zbl L s=false:=zhi;have hfp:zbl L s=true↔¬zfa (L.map (·.Key)) s<0:=by rw [hfn];simp
 unfold zmz
 by_cases hq:zbl L s=true
 have:=hfp.1 hq;simp_all;have:=hfn.2 (by simpa using hq);focus first|(simp_all;done)|(exfalso;omega)
 refine gz7 ?_;refine uRp ?_;have hfn:zfa (L.map (·.Key)) s<0↔zbl L s=false:=zhi;have hfp:zbl L s=true↔¬zfa (L.map (·.Key)) s<0:=by rw [hfn];simp
 unfold zmz
 by_cases hq:zbl L s=true
 have:=hfp.1 hq;simp_all;have:=hfn.2 (by simpa using hq);focus first|(simp_all;done)|(exfalso;omega)
theorem znr [Tracks] {h:List HealthS} {s:Str} {w:Int} (hh:h.length<=1000000):ConP prog 154 [zbo h,.str s,.int .i64 w] (.int .i64 (zeV h s w)):=by
 refine uOb func154 ntmps154 ?_;refine zan ?_;refine uT1 [6,1,8,1,11,23] (fun k=>[(11,.int .i64 k)]) (fun k=>[]) (fun k=>k<=h.length/\(zeV h s w=zeV (h.drop k) s w)) (fun k=>h.length-k) (0) ?_ ?_;exact ⟨Ad _,rfl⟩;rintro k ⟨hk,hg⟩;refine gz4 ?_;refine uCo (fun h1=> ?_) fun h2=> ?_
 obtain ⟨x,hx⟩: ∃x,h[k]? =some x:=⟨_,Aa h1⟩
 have hdx:=zg hx;rw [hdx] at hg;refine gz7 ?_;refine de rfl (zj zbE rfl fun b8=> ?_)
 refine de0 (zo zbE rfl rfl rfl rfl rfl ?_)
 refine gz1 ?_;refine zf (zp 8 rfl) ?_;refine ztH ?_;refine uCo (fun h3=> ?_) fun h4=> ?_
 refine gz6 ?_;refine uRp ?_
 focus first
 |(rw [hg,zqe (by simp_all [zik])];done)
 |(rw [hg];rfl)
 refine gz7 ?_;refine ⟨k+1,?_,?_,⟨rfl,trivial⟩,uK,Ab _⟩
 refine ⟨by omega,?_⟩
 rw [hg,zwg (by simp_all [zik])]
 dsimp only;omega
 have hnk:h.length<=k:=by omega
 obtain rfl:k=h.length:=by omega
 rw [zH (Ae _)] at hg;refine gz2 ?_;refine zt ?_;refine gz6 ?_;refine uRp ?_
 focus first
 |(rw [hg,zqe (by simp_all [zik])];done)
 |(rw [hg];rfl)
theorem znq [Tracks] {L:List PlayerS} {h:List HealthS} {s:Str} {w:Int} (hT:Tracks.on=false) (hL:L.length<=1000000) (hn: ∀p∈L,p.Name∈zb5) (hp: ∀p∈L,p.Positions.length<=1000000) (hh:h.length<=1000000) (hw: ∀x∈h,-1000000000000000<=x.To/\x.To<=1000000000000000) (hz:ziL L h=0) (hpl:zbl L s=true) (hwk:zbd w=true):ConP prog 78 [zaA L,zbo h,.str s,.int .i64 w] (.tup [.int .i64 (zeV h s w),.int .i64 0]):=by
 refine uOb func78 ntmps78 ?_;refine gz8 ?_;refine dq (uCl zwC rfl (zf3 (L:=L) (l:=h) hT hL hn hp hh hw)) ?_;refine gz3 ?_;refine dq (uCl zwF rfl (zj3 (L:=L) hL (zxv hz))) ?_;refine dq (za (hs:=[_,_]) zdN zfP rfl rfl (by decide) (by decide) rfl) ?_;refine dq (zau (h':= .int .i64 0) (uCl zkJ rfl (zb0 (l:=[_,_]) (by simp))) (by rw [hz,zuj hpl hwk];rfl)) ?_;refine gz6 ?_;refine zaB rfl (fun h1=> ?_) (fun h1=> ?_)
 ·exfalso
  try simp at h1
  done
 ·try simp at h1
  refine gz6 ?_;refine dq (uCl zzl rfl (znr uS)) ?_;refine gz4 ?_;refine zw rfl ?_
  rfl
theorem znS [Tracks] {l:List StintS} {s:Str} {w:Int} (hl:l.length<=1000000):ConP prog 224 [zcy l,.str s,.int .i64 w] (.str (zcd l s w)):=by
 refine uOb func224 ntmps224 ?_;refine zeN ?_;refine uU2 [7,1,9,1,12,17] (fun (k:Nat) (c:Str)=>[(12,.int .i64 k),(7,.str c)]) (fun (k:Nat) (c:Str)=>[]) (fun (k:Nat) (c:Str)=>k<=l.length/\(zcd l s w=zlX s w c (l.drop k))) (fun (k:Nat) (c:Str)=>l.length-k) (0) ([]) ?_ ?_;exact ⟨Ad _,rfl⟩;rintro k c ⟨hk,hg⟩;refine gz4 ?_;refine uCo (fun h1=> ?_) fun h2=> ?_
 obtain ⟨x,hx⟩: ∃x,l[k]? =some x:=⟨_,Aa h1⟩
 have hdx:=zg hx;rw [hdx] at hg;refine gz7 ?_;refine de rfl (zj zbP rfl fun b9=> ?_)
 refine de0 (zo zbP rfl rfl rfl rfl rfl ?_)
 refine gz1 ?_;refine zf (zp 9 rfl) ?_;refine zdC ?_;refine uCo (fun h3=> ?_) fun h4=> ?_
 refine zcC ?_;refine ⟨k+1,_,?_,?_,⟨rfl,rfl,trivial⟩,uK,Ab _⟩
 refine ⟨by omega,?_⟩
 rw [hg,zlX]
 congr 1
 focus first|(rw [if_pos uSa];done)|(rw [if_neg uSa];done)|(rw [if_neg (fun q=>by have:=h4 q.1;omega)];done)|(rw [if_pos ⟨by simp_all,by simp_all⟩];done)
 dsimp only;omega
 refine gz7 ?_;refine ⟨k+1,_,?_,?_,⟨rfl,rfl,trivial⟩,uK,Ab _⟩
 refine ⟨by omega,?_⟩
 rw [hg,zlX]
 congr 1
 focus first|(rw [if_pos uSa];done)|(rw [if_neg uSa];done)|(rw [if_neg (fun q=>by have:=h4 q.1;omega)];done)|(rw [if_pos ⟨by simp_all,by simp_all⟩];done)
 dsimp only;omega
 have hnk:l.length<=k:=by omega
 obtain rfl:k=l.length:=by omega
 rw [zH (Ae _)] at hg;refine gz2 ?_;refine zL ?_;refine gz7 ?_;refine zw rfl ?_
 show HVal.str _=_
 rw [hg];rfl
theorem zo1 [Tracks] {f:List FixS} {c:Str} {w:Int} (hf:f.length<=1000000):ConP prog 225 [zfz f,.str c,.int .i64 w] (zfz (zce f c w)):=by
 refine uOb func225 ntmps225 ?_;refine gz6 ?_;refine zf (zM 4) ?_;refine gz7 ?_;refine uV2 [7,1,9,1,12,25] (fun (k:Nat) (u:Value)=>[(12,.int .i64 k),(7,.raw u)]) (fun (k:Nat) (u:Value)=>[.arr u 4 ((zce (f.take k) c w).map zaE)]) (fun (k:Nat) (u:Value)=>k<=f.length/\(True)) (fun (k:Nat) (u:Value)=>f.length-k) (0) (.slice none 0 0) ?_ ?_ ?_ ?_;exact ⟨Ad _,trivial⟩;exact ⟨rfl,rfl,trivial⟩;exact (Ab _)
 intro k u hinv
 obtain ⟨hk,-⟩:=hinv;refine gz4 ?_;refine uCo (fun h1=> ?_) fun h2=> ?_
 obtain ⟨x,hx⟩: ∃x,f[k]? =some x:=⟨_,Aa h1⟩
 have hdx:=zg hx;refine gz7 ?_;refine de rfl (zj zaf rfl fun b9=> ?_)
 refine de0 (zo zaf rfl rfl rfl rfl rfl ?_)
 refine gz1 ?_;refine zf (zp 9 rfl) ?_;refine gz1 ?_;refine dq ((by first|exact zn zaf rfl ty3 (by decide) rfl|exact zh zaf rfl ty3 (by decide) rfl)) ?_;refine gz4 ?_;refine uGr rfl (fun hc=>(by first|exact zn zaf rfl ty9 (by decide) rfl|exact zh zaf rfl ty9 (by decide) rfl)) ?_;refine gz4 ?_;refine uGr rfl (fun hc=>(by first|exact zn zaf rfl ty9 (by decide) rfl|exact zh zaf rfl ty9 (by decide) rfl)) ?_;refine gz6 ?_;refine uCo (fun h3=> ?_) fun h4=> ?_
 refine gz2 ?_;refine dq (zbD (h:=zaE x) zaf rfl rfl rfl rfl) ?_;refine dq (za (hs:=[_]) zbI zaf rfl rfl (by decide) (by decide) rfl) ?_;refine de rfl (zO (i:=0) zbI zaf rfl rfl rfl rfl rfl (by simp [zax,zb]) (by have:=zpK (f.take k) c w;simp only [Ah,Ai,AG,AD] at*;omega) fun v35=> ?_)
 refine gz8 ?_;exact ⟨k+1,v35,⟨by omega,trivial⟩,uD,⟨rfl,rfl,trivial⟩,uK,zu (by dsimp only;rw [zof hx,if_pos (by simp_all [zoh]),AB];rfl)⟩;refine gz7 ?_;exact ⟨k+1,u,⟨by omega,trivial⟩,uD,⟨rfl,rfl,trivial⟩,uK,zu (by dsimp only;rw [zof hx,if_neg (by simp_all [zoh])])⟩;have hnk:f.length<=k:=by omega
 obtain rfl:k=f.length:=by omega
 rw [An];refine gz2 ?_;refine zL ?_;refine gz7 ?_;refine zae (zas 6 (i:=0) rfl rfl) rfl ⟨?_,rfl⟩
 rfl
theorem zo0 [Tracks] {l:List StintS} {f:List FixS} {s:Str} {w:Int} (hl:l.length<=1000000) (hf:f.length<=1000000):ConP prog 157 [zcy l,zfz f,.str s,.int .i64 w] (.tup [.int .i64 (zhk l f s w),.bool (zfu l f s w)]):=by
 refine uOb func157 ntmps157 ?_;refine gz8 ?_;refine dq (uCl zzZ rfl (znS uS)) ?_;refine gz7 ?_;refine uCo (fun h1=> ?_) fun h2=> ?_
 refine gz5 ?_;refine zw rfl ?_
 show HVal.tup [.int .i64 _,.bool _]=_
 rcases Decidable.em (zcd l s w=[]) with q|q
 obtain ⟨e1,e2⟩:=zkM (l:=l) (f:=f) q
 focus first|(rw [e1,e2];done)|(rw [e1,e2];rfl)|(rw [e1,e2];exfalso;simp_all;done)
 rcases hgz:zce f (zcd l s w) w with _|⟨g1,gr1⟩
 obtain ⟨e1,e2⟩:=zkL (l:=l) hgz
 focus first|(rw [e1,e2];done)|(rw [e1,e2];rfl)|(rw [e1,e2];exfalso;simp_all;done)
 obtain ⟨e1,e2⟩:=zkN (l:=l) q hgz
 focus first|(rw [e1,e2];done)|(rw [e1,e2];rfl)|(rw [e1,e2];simp_all;done)
 refine gz6 ?_;refine dq (uCl zz0 rfl (zo1 uS)) ?_;refine gz3 ?_;have hgl:=zpK f (zcd l s w) w;refine gz2 ?_;refine dq (zao (f:=zaE) (l:=zce f (zcd l s w) w) zbI rfl) ?_;refine gz2 ?_;refine uCo (fun h3=> ?_) fun h4=> ?_
 refine gz5 ?_;refine zw rfl ?_
 show HVal.tup [.int .i64 _,.bool _]=_
 rcases Decidable.em (zcd l s w=[]) with q|q
 obtain ⟨e1,e2⟩:=zkM (l:=l) (f:=f) q
 focus first|(rw [e1,e2];done)|(rw [e1,e2];rfl)|(rw [e1,e2];exfalso;simp_all;done)
 rcases hgz:zce f (zcd l s w) w with _|⟨g1,gr1⟩
 obtain ⟨e1,e2⟩:=zkL (l:=l) hgz
 focus first|(rw [e1,e2];done)|(rw [e1,e2];rfl)|(rw [e1,e2];exfalso;simp_all;done)
 obtain ⟨e1,e2⟩:=zkN (l:=l) q hgz
 focus first|(rw [e1,e2];done)|(rw [e1,e2];rfl)|(rw [e1,e2];simp_all;done)
 refine gz2 ?_;obtain ⟨g0,gr,hgs⟩: ∃g0 gr,zce f (zcd l s w) w=g0::gr:=by
  cases hq:zce f (zcd l s w) w with
  |nil=>simp_all
  |cons a r=>exact ⟨a,r,rfl⟩
 have hg0:(zce f (zcd l s w) w)[0]? =some g0:=by rw [hgs];rfl
 refine gz2 ?_;refine dq (zD (f:=zaE) (l:=zce f (zcd l s w) w) (j:=0) (a:=g0) zbI zaf rfl rfl rfl hg0) ?_;refine gz6 ?_;refine zw rfl ?_
 show HVal.tup [.int .i64 _,.bool _]=_
 rcases Decidable.em (zcd l s w=[]) with q|q
 obtain ⟨e1,e2⟩:=zkM (l:=l) (f:=f) q
 focus first|(rw [e1,e2];done)|(rw [e1,e2];rfl)|(rw [e1,e2];exfalso;simp_all;done)
 rcases hgz:zce f (zcd l s w) w with _|⟨g1,gr1⟩
 obtain ⟨e1,e2⟩:=zkL (l:=l) hgz
 focus first|(rw [e1,e2];done)|(rw [e1,e2];rfl)|(rw [e1,e2];exfalso;simp_all;done)
 obtain ⟨e1,e2⟩:=zkN (l:=l) q hgz
 focus first|(rw [e1,e2];done)|(rw [e1,e2];rfl)|(rw [e1,e2];simp_all;done)
theorem zoZ [Tracks] {L:List PlayerS} {l:List StintS} {f:List FixS} {s:Str} {w:Int} (hT:Tracks.on=false) (hL:L.length<=1000000) (hn: ∀p∈L,p.Name∈zb5) (hp: ∀p∈L,p.Positions.length<=1000000) (hl:l.length<=1000000) (hf:f.length<=1000000) (hz:zgq L l=0) (hfz:zgL f=0) (hpl:zbl L s=true) (hwk:zbd w=true):ConP prog 79 [zaA L,zcy l,zfz f,.str s,.int .i64 w] (.tup [.int .i64 (zhk l f s w),.bool (zfu l f s w),.int .i64 0]):=by
 refine uOb func79 ntmps79 ?_;refine gz9 ?_;refine dq (uCl zwG rfl (zf4 (L:=L) (l:=l) hT hL hn hp hl)) ?_;refine gz1 ?_;refine dq (uCl zwH rfl (zfq uS)) ?_;refine gz3 ?_;refine dq (uCl zwF rfl (zj3 (L:=L) hL (zyg hz))) ?_;refine dq (za (hs:=[_,_,_]) zdN zfP rfl rfl (by decide) (by decide) rfl) ?_;refine dq (zau (h':= .int .i64 0) (uCl zkJ rfl (zb0 (l:=[_,_,_]) (by simp))) (by rw [hz,hfz,zuj hpl hwk];rfl)) ?_;refine gz6 ?_;refine zaB rfl (fun h1=> ?_) (fun h1=> ?_)
 ·exfalso
  try simp at h1
  done
 ·try simp at h1
  refine gz7 ?_;refine dq (uCl zzm rfl (zo0 uS uS)) ?_;refine zdS ?_;refine zw rfl ?_
  rfl
theorem znO [Tracks] {s:Str} {l:List Str} (hl:l.length<=1000000):ConP prog 158 [.str s,.vptr [eSs l] 0] (.bool (l.contains s)):=by
 refine uOb func158 ntmps158 ?_;refine gz4 ?_;refine dq (zap (h:=eSs l) zk rfl rfl rfl) ?_;refine gz1 ?_;refine dq (uCl zeG rfl (zv uS)) ?_;refine gz3 ?_;refine zw rfl ?_
 rfl
theorem zql [Tracks] {a b:List Str} (ha:a.length<=1000000) (hb:b.length<=1000000):ConP prog 80 [eSs a,eSs b] (.bool (zrm a b)):=by
 refine uOb func80 ntmps80 ?_;refine gz7 ?_;refine dq (uCl zvt rfl (zcv (l:=a) (p:=fun s=>b.contains s) zzn (fun _=>znO hb) ha)) ?_;refine gz3 ?_;refine zw rfl ?_
 rfl
theorem zkD [Tracks] {kb pb hb ob db ab:Nat} {b:BoundS} {k:RosS} {t:Str} (hP: ∀t,(rPl k t).length<=1000000) (hH: ∀t,(rHu k t).length<=1000000):Con prog 76 [.raw (.pointer (some ⟨kb,0,none⟩)),.str t] (zci kb pb hb ob db ab b k) (fun x1 M'=>x1=ztA t (rPl k t) (rHu k t)/\M'=[]):=by
 refine zbY func76 rfl ntmps76 rfl rfl ?_;refine gz1 ?_;refine de rfl (zj ziW rfl fun b4=> ?_)
 refine gz1 ?_;refine zbx (fun M=>M=(.cells b4 [.str [],.raw (.slice none 0 0),.raw (.slice none 0 0)]::(zci kb pb hb ob db ab b k))) [4,6,11,13] mixed ?_;refine gz2 ?_;refine uB 2 rfl ((by first|exact zF rfl|exact zm rfl)) ?_;refine gz1 ?_;refine uM 4 rfl rfl (fun M hM=>by subst hM;exact z8 (i:=1) zcQ rfl rfl (.inl ⟨rfl,rfl⟩) ⟨rfl,rfl⟩) ?_;refine gz1 ?_;refine uM 6 rfl rfl (fun M hM=>by subst hM;exact zek (i:=2) (f:=eSs) (z0:=([]:List Str)) zcQ ty9 zk rfl rfl rfl (zQ 1) ⟨rfl,rfl⟩) ?_;refine uA 8 ?_;refine uB 9 rfl ((by first|exact zF rfl|exact zm rfl)) ?_;refine gz1 ?_;refine uM 11 rfl rfl (fun M hM=>by subst hM;exact z8 (i:=1) zcQ rfl rfl (.inl ⟨rfl,rfl⟩) ⟨rfl,rfl⟩) ?_;refine gz1 ?_;refine uM 13 rfl rfl (fun M hM=>by subst hM;exact zek (i:=3) (f:=eSs) (z0:=([]:List Str)) zcQ ty9 zk rfl rfl rfl (zQ 1) ⟨rfl,rfl⟩) ?_;refine uF 7 ?_;refine zq rfl (zud (uCa zkH rfl (zad (l:=rPl k t) (hP t)) fun v=>⟨v,rfl,rfl⟩) ?_)
 refine ⟨fun _=> .inl rfl,?_⟩
 refine uF 14 ?_;refine zq rfl (zud (uCa zkH rfl (zad (l:=rHu k t) (hH t)) fun v=>⟨v,rfl,rfl⟩) ?_)
 refine ⟨fun _=> .inl rfl,?_⟩
 refine uB 15 rfl (zI (cs:=[_,_,_]) ziW pl85 rfl) ?_;refine uF 16 ?_;refine zK (zo (h:=ztA t (rPl k t) (rHu k t)) ziW rfl rfl rfl rfl rfl ?_)
 refine ⟨uE,?_⟩
 refine gz2 ?_;exact ⟨_,_,(zcz 4 (i:=0) rfl rfl).trans Ghost.clear,[_],_,⟨⟨_,_,_,_,_,rfl,ziW,.inr ⟨rfl,rfl,rfl⟩⟩,trivial⟩,Weak.refl _,rfl,rfl⟩
theorem zsf [Tracks] {b:BoundS} {l:List MoveS} {t:Str} {n:Int} (hl:l.length<=1000000) (hz:zjy b l t n=0):ConP prog 30 [zdR b,zbH l,.str t,.int .i64 n] (.tup [ztA t (rPl (zbM b l n) t) (rHu (zbM b l n) t),.int .i64 0]):=by
 obtain ⟨hm0,hk0,hn0⟩:=zyl hz;have hok:=zpp (b:=b) (n:=n) hm0;refine zbY func30 rfl ntmps30 rfl rfl ?_;refine gz2 ?_;refine de rfl (zj ziW rfl fun b8=> ?_)
 refine gz8 ?_;refine dq (zau (h':= .int .i64 0) (uCl ca75 rfl (zlp (b:=b) (l:=l) (p:=t) (n:=n) hl)) (by rw [hz])) ?_;refine gz6 ?_;refine zaB rfl (fun h1=> ?_) (fun h1=> ?_)
 ·exfalso
  try simp at h1
  done
 ·try simp at h1
  refine gz6 ?_;refine de rfl (zaQ (M1:=[]) (R:=[_]) ca72 rfl (WeakL.refl _) (Ab _) (zm6 (b:=b) (l:=l) (n:=n) hm0) ?_)
  rintro _ _ ⟨kb,pb,hb,ob,db,ab,rfl,rfl⟩;refine gz1 ?_;refine de rfl (zaQ (M1:=(zci kb pb hb ob db ab b (zbM b l n))) (R:=[_]) ca76 rfl (WeakL.refl _) (Ab _) (zkD (t:=t) (fun t=>by have:=(hok.p t).2;omega) (fun t=>by have:=(hok.h t).2;omega)) ?_)
  rintro _ _ ⟨rfl,rfl⟩;refine de0 (zo (h:=ztA t (rPl (zbM b l n) t) (rHu (zbM b l n) t)) ziW rfl rfl rfl rfl rfl ?_)
  refine gz3 ?_;exact ⟨_,_,zp 8 rfl,[_,_],_,⟨⟨_,_,_,_,_,rfl,ziW,.inr ⟨rfl,rfl,rfl⟩⟩,⟨rfl,trivial⟩⟩,Weak.refl _,rfl,rfl⟩
theorem zlM [Tracks] {b:BookS} {t:Str} {w n:Int} (hT:Tracks.on=false) (hb:BookC b):ConP prog 28 [.vptr (zb (zbW b)) 0,.str t,.int .i64 w,.int .i64 n] (.int .i64 (zdM b t w n)):=by
 have htm:=hb.bb.lea.tm;refine uOb func28 ntmps28 ?_;refine gz6 ?_;refine dq ((by first|exact zF rfl|exact zm rfl)) ?_;refine dq (zbD (h:=zbW b) zbr rfl rfl rfl rfl) ?_;refine dq (uCl ca66 rfl (zhc (b:=b) hT hb.bb hb.hw)) ?_;refine gz6 ?_;refine uCo (fun h1=> ?_) fun h2=> ?_
 refine gz5 ?_;refine uRp ?_;unfold zdM
 simp_all
 refine gz6 ?_;refine dq ((by first|exact zF rfl|exact zm rfl)) ?_;refine gz2 ?_;refine dq (zap (h:=eSs b.League.Teams) zk rfl rfl rfl) ?_;refine gz1 ?_;refine dq (uCl zeG rfl (zv uS)) ?_;refine gz3 ?_;refine uCo (fun h3=> ?_) fun h4=> ?_
 refine gz4 ?_;refine uRp ?_;unfold zdM
 simp_all
 refine gz2 ?_;refine dq (uCl zkI rfl zcl) ?_;refine gz3 ?_;refine uGr rfl (fun hc=>uCl zhx rfl zaZ) ?_;refine gz4 ?_;refine uCo (fun h5=> ?_) fun h6=> ?_
 refine gz4 ?_;refine uRp ?_;unfold zdM
 simp_all
 refine gz7 ?_;refine uRp ?_;unfold zdM
 simp_all
theorem zky [Tracks] {b:BookS} {n w f:Int} {t:Str} (hl:b.Choices.length<=1000000):ConP prog 29 [zmE b n,.str t,.int .i64 w,.int .i64 f] (pCh (zeH b.Choices t w n f)):=by
 refine uOb func29 ntmps29 ?_;refine zan ?_;refine dq (zap (h:= .vptr (zb (zbW b)) 0) znE rfl rfl rfl) ?_;refine dq ((by first|exact zF rfl|exact zm rfl)) ?_;refine gz1 ?_;refine dq (zap (h:=zfJ b.Choices) zdG rfl rfl rfl) ?_;refine dq (zao (f:=zag) (l:=b.Choices) zdG rfl) ?_;refine gz3 ?_;refine uU2 [9,3,18,43] (fun (k:Nat) (o:Option ChoiceS)=>[(18,.int .i64 k),(9,pCh o)]) (fun (k:Nat) (o:Option ChoiceS)=>[]) (fun (k:Nat) (o:Option ChoiceS)=>k<=b.Choices.length/\(zeH b.Choices t w n f=zjc t w n f o (b.Choices.drop k))) (fun (k:Nat) (o:Option ChoiceS)=>b.Choices.length-k) (0) (none) ?_ ?_;exact ⟨Ad _,rfl⟩;rintro k o ⟨hk,hg⟩;refine gz4 ?_;refine uCo (fun h1=> ?_) fun h2=> ?_
 obtain ⟨x,hx⟩: ∃x,b.Choices[k]? =some x:=⟨_,Aa h1⟩
 have hdx:=zg hx;rw [hdx] at hg;refine zan ?_;refine dq (zap (h:= .vptr (zb (zbW b)) 0) znE rfl rfl rfl) ?_;refine dq ((by first|exact zF rfl|exact zm rfl)) ?_;refine gz1 ?_;refine dq (zap (h:=zfJ b.Choices) zdG rfl rfl rfl) ?_;refine gz1 ?_;refine dq (zD (f:=zag) (l:=b.Choices) (j:=k) (a:=x) zdG zdh rfl rfl rfl hx) ?_;refine gz2 ?_;refine uDr mixed ?_;refine gz1 ?_;refine uB 1 rfl ((by first|exact zF rfl|exact zm rfl)) ?_;refine gz6 ?_;refine uGy 8 rfl rfl (fun hc=>(by first|exact zF rfl|exact zm rfl)) ?_;refine gz7 ?_;refine uGy 16 rfl rfl (fun hc=>(by first|exact zF rfl|exact zm rfl)) ?_;refine gz8 ?_;refine uGy 25 rfl rfl (fun hc=>(by first|exact zF rfl|exact zm rfl)) ?_;refine gz6 ?_;refine uCo (fun h3=> ?_) fun h4=> ?_
 refine zan ?_;exact ⟨k+1,some x,⟨by omega,by rw [hg,zjc,if_pos (by simp_all [zhU])]⟩,uD,⟨rfl,rfl,trivial⟩,uK,Ab _⟩;refine gz7 ?_;exact ⟨k+1,o,⟨by omega,by rw [hg,zjc,if_neg (by simp_all [zhU])]⟩,uD,⟨rfl,rfl,trivial⟩,uK,Ab _⟩;have hnk:b.Choices.length<=k:=by omega
 obtain rfl:k=b.Choices.length:=by omega
 rw [zH (Ae _)] at hg;refine gz2 ?_;refine zL ?_;refine gz7 ?_;refine zw rfl ?_;rw [hg];rfl
theorem zkz [Tracks] {x:PlayerS} {s:Str}:ConP prog 152 [zcY x,.str s] (.int .i64 (zU x.Key s)):=by
 refine uOb func152 ntmps152 ?_;refine gz8 ?_;refine dq (uCl zbV rfl zJ) ?_;refine gz3 ?_;refine zw rfl ?_
 rfl
theorem zlL [Tracks] {b:BookS} {n:Int} {s:Str} (hl:b.League.Players.length<=1000000) (hs:SortedS (b.League.Players.map (·.Key))):ConP prog 77 [zmE b n,.str s] (pPl (plO b.League.Players s)):=by
 refine uOb func77 ntmps77 ?_;refine gz6 ?_;refine dq (zap (h:= .vptr (zb (zbW b)) 0) znE rfl rfl rfl) ?_;refine dq ((by first|exact zF rfl|exact zm rfl)) ?_;refine gz2 ?_;refine dq (zap (h:=zaA b.League.Players) zfl rfl rfl rfl) ?_;refine gz5 ?_;refine dq (uCl zwE rfl (zc5 (l:=b.League.Players) zzk (fun _=>zkz) hl hs)) ?_;refine zcC ?_;refine uCo (fun h1=> ?_) fun h2=> ?_
 refine gz4 ?_;refine zw rfl ?_
 focus first
 |(rw [plO,hp3];rfl)
 |(rw [plO,zsS uSa];rfl)
 refine gz2 ?_;obtain ⟨p,hp1,hp2,hp3⟩:=zA4 hs (s:=s) uSa;refine gz3 ?_;refine dq (zD (f:=zcY) (l:=b.League.Players) (j:=zdb (b.League.Players.map (·.Key)) s) (a:=p) zfl zeY rfl rfl rfl hp1) ?_;refine gz3 ?_;refine zw rfl ?_
 focus first
 |(rw [plO,hp3];rfl)
 |(rw [plO,zsS uSa];rfl)
theorem zln [Tracks] {b:BookS} {n w:Int} {own:List Str} {s:Str} {x:SlotS} (hT:Tracks.on=false) (hb:BookC b) (hw:BookW b) (hwk:zbd w=true) (ho:own.length<=1000000) (hx:x.Positions.length<=1000000):ConP prog 31 [zmE b n,eSs own,.str s,za6 x,.int .i64 w] (.str (zgu b own s x w)):=by
 have hla:=hb.bb.lea;refine uOb func31 ntmps31 ?_;refine gz5 ?_;refine uDr mixed ?_;refine gz1 ?_;refine uB 1 rfl (zap (h:= .vptr (zb (zbW b)) 0) znE rfl rfl rfl) ?_;refine uB 2 rfl ((by first|exact zF rfl|exact zm rfl)) ?_;refine gz1 ?_;refine uB 4 rfl (zbD (h:=zmE b n) znF rfl rfl rfl rfl) ?_;refine gz1 ?_;refine uB 6 rfl (uCl ca77 rfl (zlL (b:=b) (n:=n) (s:=s) hla.pl hw.so)) ?_;refine gz6 ?_;refine dq (zov (o:=(plO b.League.Players s).map fun p=>zb (zcY p)) zA6 rfl rfl) ?_;refine gz3 ?_;refine uGr rfl (fun hc=>by have hq:=hc;(try simp at hq);exact uCl zeG rfl (zv (l:=own) uO)) ?_;refine gz3 ?_;refine uCo (fun h1=> ?_) fun h2=> ?_
 refine gz4 ?_;refine zw rfl ?_
 show HVal.str _=_
 rcases hq:plO b.League.Players s with _|p1
 rw [zgv hq]
 try focus first|rfl|(exfalso;simp_all;done)
 rw [zgw hq];have hpm1:=A5 hq;have hpk1:p1.Key=s:=by have:=BG hq;simpa using this
 have hne: ¬∀x∈b.League.Players,¬x.Key=s:=fun q=>q p1 hpm1 hpk1
 clear hpm1 hpk1
 simp_all [zfB,znA,zkQ,zla]
 refine gz3 ?_;obtain ⟨p,hp⟩: ∃p,plO b.League.Players s=some p:=by
  cases hq:plO b.League.Players s with
  |none=>
    exfalso
    obtain ⟨⟨z,hz1,hz2⟩,hz3⟩:=h2;have:=List.find?_eq_none.1 hq z hz1
    simp_all
  |some p=>exact ⟨p,rfl⟩
 have hpm:=A5 hp;have hpk:zbl b.League.Players s=true:=by
  have:=BG hp;simp only [zbl,Cb,decide_eq_true_eq];exact List.mem_map.2 ⟨p,hpm,by simpa using this⟩
 rw [hp];refine uDr mixed ?_;refine gz1 ?_;refine uB 1 rfl ((by first|exact zF rfl|exact zm rfl)) ?_;refine gz1 ?_;refine uB 3 rfl (zap (h:=zaA b.League.Players) zfl rfl rfl rfl) ?_;refine gz1 ?_;refine uB 5 rfl (zap (h:= .vptr (zb (zbW b)) 0) znE rfl rfl rfl) ?_;refine uB 6 rfl ((by first|exact zF rfl|exact zm rfl)) ?_;refine gz1 ?_;refine uB 8 rfl (zap (h:=zbo b.Health) zgW rfl rfl rfl) ?_;refine gz2 ?_;refine uB 11 rfl (uCl ca78 rfl (znq (L:=b.League.Players) (h:=b.Health) (s:=s) (w:=w) hT hla.pl hla.nm hla.po hb.bb.he hb.hw hw.he hpk hwk)) ?_;refine zan ?_;refine uCo (fun h3=> ?_) fun h4=> ?_
 refine gz4 ?_;refine zw rfl ?_
 show HVal.str _=_
 rcases hq:plO b.League.Players s with _|p1
 rw [zgv hq]
 try focus first|rfl|(exfalso;simp_all;done)
 rw [zgw hq];have hpm1:=A5 hq;have hpk1:p1.Key=s:=by have:=BG hq;simpa using this
 have hne: ¬∀x∈b.League.Players,¬x.Key=s:=fun q=>q p1 hpm1 hpk1
 clear hpm1 hpk1
 simp_all [zfB,znA,zkQ,zla]
 refine gz3 ?_;refine uDr mixed ?_;refine gz1 ?_;refine uB 1 rfl ((by first|exact zF rfl|exact zm rfl)) ?_;refine gz1 ?_;refine uB 3 rfl (zap (h:=zaA b.League.Players) zfl rfl rfl rfl) ?_;refine gz1 ?_;refine uB 5 rfl ((by first|exact zF rfl|exact zm rfl)) ?_;refine gz1 ?_;refine uB 7 rfl (zap (h:=zcy b.League.Stints) zfm rfl rfl rfl) ?_;refine gz1 ?_;refine uB 9 rfl ((by first|exact zF rfl|exact zm rfl)) ?_;refine gz1 ?_;refine uB 11 rfl (zap (h:=zfz b.League.Fixtures) zbI rfl rfl rfl) ?_;refine gz2 ?_;refine uB 14 rfl (uCl ca79 rfl (zoZ (L:=b.League.Players) (l:=b.League.Stints) (f:=b.League.Fixtures) (s:=s) (w:=w) hT hla.pl hla.nm hla.po hla.st hla.fx hw.st hw.fx hpk hwk)) ?_;refine zdC ?_;refine uCo (fun h5=> ?_) fun h6=> ?_
 refine gz4 ?_;refine zw rfl ?_
 show HVal.str _=_
 rcases hq:plO b.League.Players s with _|p1
 rw [zgv hq]
 try focus first|rfl|(exfalso;simp_all;done)
 rw [zgw hq];have hpm1:=A5 hq;have hpk1:p1.Key=s:=by have:=BG hq;simpa using this
 have hne: ¬∀x∈b.League.Players,¬x.Key=s:=fun q=>q p1 hpm1 hpk1
 clear hpm1 hpk1
 simp_all [zfB,znA,zkQ,zla]
 refine gz3 ?_;refine uDr mixed ?_;refine gz1 ?_;refine uB 1 rfl ((by first|exact zF rfl|exact zm rfl)) ?_;refine gz1 ?_;refine uB 3 rfl (zap (h:=eSs p.Positions) zk rfl rfl rfl) ?_;refine gz1 ?_;refine uB 5 rfl (zap (h:=eSs x.Positions) zk rfl rfl rfl) ?_;refine uB 6 rfl (uCl ca80 rfl (zql (a:=p.Positions) (b:=x.Positions) (hla.po p hpm) hx)) ?_;refine gz2 ?_;refine uCo (fun h7=> ?_) fun h8=> ?_
 refine gz4 ?_;refine zw rfl ?_
 show HVal.str _=_
 rcases hq:plO b.League.Players s with _|p1
 rw [zgv hq]
 try focus first|rfl|(exfalso;simp_all;done)
 rw [zgw hq];have hpm1:=A5 hq;have hpk1:p1.Key=s:=by have:=BG hq;simpa using this
 have hne: ¬∀x∈b.League.Players,¬x.Key=s:=fun q=>q p1 hpm1 hpk1
 clear hpm1 hpk1
 simp_all [zfB,znA,zkQ,zla]
 refine gz6 ?_;refine zw rfl ?_
 show HVal.str _=_
 rcases hq:plO b.League.Players s with _|p1
 rw [zgv hq]
 try focus first|rfl|(exfalso;simp_all;done)
 rw [zgw hq];have hpm1:=A5 hq;have hpk1:p1.Key=s:=by have:=BG hq;simpa using this
 have hne: ¬∀x∈b.League.Players,¬x.Key=s:=fun q=>q p1 hpm1 hpk1
 clear hpm1 hpk1
 simp_all [zfB,znA,zkQ,zla]
theorem zoX [Tracks] {b:BookS} {t:Str} {w n:Int} (hT:Tracks.on=false) (hb:BookC b):ConP prog 9 [zbW b,.str t,.int .i64 w,.int .i64 n] (.tup [zn4 (zgt b t w n),.int .i64 (zdM b t w n)]):=by
 have hla:=hb.bb.lea;refine uOb func9 ntmps9 ?_;refine zan ?_;refine dq (uCl ca28 rfl (zlM (b:=b) (t:=t) (w:=w) (n:=n) hT hb)) ?_;refine gz6 ?_;refine uCo (fun h1=> ?_) fun h2=> ?_
 refine gz6 ?_
 focus first
 | (refine za5 rfl (zW ?_ (Weak.refl _))
    rw [zpu h1];exact zQ 2)
 | (refine za5 rfl (zW ?_ ?_)
    rw [znG hz h3];exact zQ 2;rw [hz];exact Weak.refl _)
 | (refine zae ((zas 8 (i:=0) rfl rfl).trans Ghost.clear) rfl ⟨?_,rfl⟩
    show HVal.tup _=_
    rw [zgt,if_neg (fun q=>q hz),hc,hz];rfl)
 refine gz2 ?_;have hz:zdM b t w n=0:=by simp_all
 obtain ⟨hbz,htc,hwk,hnm⟩:=zyi hz;have hW:=zrd hbz;refine gz2 ?_;refine dq (zI (cs:=[_,_]) znF pl81 rfl) ?_;refine de rfl (zj znF rfl fun b11=> ?_)
 refine de0 (zo znF rfl rfl rfl rfl rfl ?_)
 refine gz1 ?_;refine zf (zp 11 rfl) ?_;refine gz1 ?_;refine dq (zbD (h:=zmE b n) znF rfl rfl rfl rfl) ?_;refine gz2 ?_;refine dq (uCl ca29 rfl (zky (b:=b) (n:=n) (w:=w) (t:=t) (f:=345686400000) hb.bb.ch)) ?_;refine gz5 ?_;refine dq (zov (o:=(zeH b.Choices t w n 345686400000).map fun c=>zb (zag c)) ty82 rfl rfl) ?_;refine gz1 ?_;refine uCo (fun h3=> ?_) fun h4=> ?_
 refine gz5 ?_
 focus first
 | (refine za5 rfl (zW ?_ (Weak.refl _))
    rw [zpu h1];exact zQ 2)
 | (refine za5 rfl (zW ?_ ?_)
    rw [znG hz h3];exact zQ 2;rw [hz];exact Weak.refl _)
 | (refine zae ((zas 8 (i:=0) rfl rfl).trans Ghost.clear) rfl ⟨?_,rfl⟩
    show HVal.tup _=_
    rw [zgt,if_neg (fun q=>q hz),hc,hz];rfl)
 refine gz2 ?_;obtain ⟨c,hc⟩: ∃c,zeH b.Choices t w n 345686400000=some c:=by
  cases hq:zeH b.Choices t w n 345686400000 with
  |none=>simp_all
  |some c=>exact ⟨c,rfl⟩
 have hcm:c∈b.Choices:=by
  rcases zn3 hc with q|q
  cases q
  exact q.1
 have hcl:=(hW.ch c hcm).1;rw [hc];have hask:zjy b.League.Bounds b.Moves t n=0:=by
  unfold zjy;rw [if_neg (by simp [orI,hW.f.bo,hW.f.mo]),if_neg (by rw [hW.tm t htc];simp),if_neg (by rw [hnm];simp)]
 have hol:(rPl (zbM b.League.Bounds b.Moves n) t).length<=1000000:=by have:=((zpp (b:=b.League.Bounds) (n:=n) hW.f.mo).p t).2;omega
 refine gz1 ?_;refine dq ((by first|exact zn zbr rfl zaS (by decide) rfl|exact zh zbr rfl zaS (by decide) rfl)) ?_;refine dq ((by first|exact zn zaS rfl zfO (by decide) rfl|exact zh zaS rfl zfO (by decide) rfl)) ?_;refine dq (zau (h':=zdR b.League.Bounds) (zaY zfO rfl rfl (Ao rfl)) rfl) ?_;refine dq ((by first|exact zn zbr rfl zbB (by decide) rfl|exact zh zbr rfl zbB (by decide) rfl)) ?_;refine dq (zap (h:=zbH b.Moves) zbB rfl rfl rfl) ?_;refine gz2 ?_;refine dq (uCl ca30 rfl (zsf (b:=b.League.Bounds) (l:=b.Moves) (t:=t) (n:=n) hb.bb.mv hask)) ?_;refine gz3 ?_;refine de rfl (zj ziW rfl fun b13=> ?_)
 refine de0 (zo ziW rfl rfl rfl rfl rfl ?_)
 refine gz2 ?_;refine zf (zp 13 rfl) ?_;refine gz3 ?_;refine zf (zM 2) ?_;refine gz2 ?_;refine dq ((by first|exact zn zbr rfl zaS (by decide) rfl|exact zh zbr rfl zaS (by decide) rfl)) ?_;refine dq ((by first|exact zn zaS rfl zdF (by decide) rfl|exact zh zaS rfl zdF (by decide) rfl)) ?_;refine dq (zap (h:=zft b.League.Slots) zdF rfl rfl rfl) ?_;refine dq (zao (f:=za6) (l:=b.League.Slots) zdF rfl) ?_;refine gz3 ?_;refine uV2 [15,4,49,36] (fun (k:Nat) (u:Value)=>[(49,.int .i64 k),(15,.raw u)]) (fun (k:Nat) (u:Value)=>[.arr u 2 ((zlc b (rPl (zbM b.League.Bounds b.Moves n) t) c w k).map zga)]) (fun (k:Nat) (u:Value)=>k<=b.League.Slots.length/\(True)) (fun (k:Nat) (u:Value)=>b.League.Slots.length-k) (0) (.slice none 0 0) ?_ ?_ ?_ ?_;exact ⟨Ad _,trivial⟩;exact ⟨rfl,rfl,trivial⟩;exact (Ab _)
 intro k u hinv
 obtain ⟨hk,-⟩:=hinv;refine gz4 ?_;refine uCo (fun h5=> ?_) fun h6=> ?_
 obtain ⟨x,hx⟩: ∃x,b.League.Slots[k]? =some x:=⟨_,Aa h5⟩
 have hdx:=zg hx;have hsk:b.League.Slots.getD k zjs=x:=by rw [Af,hx];rfl
 have hsl:=hW.sl;refine gz6 ?_;refine dq (zD (f:=za6) (l:=b.League.Slots) (j:=k) (a:=x) zdF zdc rfl rfl rfl hx) ?_;refine gz1 ?_;refine de rfl (zj zdc rfl fun b17=> ?_)
 refine gz1 ?_;refine de0 (zo zdc rfl rfl rfl rfl rfl ?_)
 refine gz1 ?_;refine zf (zp 17 rfl) ?_;refine gz3 ?_;refine dq ((by first|exact zF rfl|exact zm rfl)) ?_;refine dq ((by first|exact zn zdh rfl zk (by decide) rfl|exact zh zdh rfl zk (by decide) rfl)) ?_;refine dq (zap (h:=eSs c.Players) zk rfl rfl rfl) ?_;refine gz1 ?_;refine dq (zD (f:=HVal.str) (l:=c.Players) (j:=k) (a:=c.Players.getD k []) zk ty9 rfl rfl rfl (getD_some uO)) ?_;refine gz3 ?_;refine uCo (fun h7=> ?_) fun h8=> ?_
 refine gz8 ?_;exact ⟨k+1,u,⟨by omega,trivial⟩,uD,⟨rfl,rfl,trivial⟩,uK,zu (by dsimp only;rw [zmx,zmw,if_pos uSa];simp)⟩;refine gz2 ?_;refine uDr mixed ?_;refine uB 0 rfl (zbD (h:=zmE b n) znF rfl rfl rfl rfl) ?_;refine uB 1 rfl ((by first|exact zn ziW rfl zk (by decide) rfl|exact zh ziW rfl zk (by decide) rfl)) ?_;refine uB 2 rfl (zap (h:=eSs (rPl (zbM b.League.Bounds b.Moves n) t)) zk rfl rfl rfl) ?_;refine gz1 ?_;refine uB 4 rfl ((by first|exact zF rfl|exact zm rfl)) ?_;refine uB 5 rfl ((by first|exact zn zdh rfl zk (by decide) rfl|exact zh zdh rfl zk (by decide) rfl)) ?_;refine uB 6 rfl (zap (h:=eSs c.Players) zk rfl rfl rfl) ?_;refine gz1 ?_;refine uB 8 rfl (zD (f:=HVal.str) (l:=c.Players) (j:=k) (a:=c.Players.getD k []) zk ty9 rfl rfl rfl (getD_some uO)) ?_;refine gz1 ?_;refine uB 10 rfl (zbD (h:=za6 x) zdc rfl rfl rfl rfl) ?_;refine gz1 ?_;refine uB 12 rfl (uCl ca31 rfl (zln (b:=b) (n:=n) (w:=w) (own:=rPl (zbM b.League.Bounds b.Moves n) t) (s:=c.Players.getD k []) (x:=x) hT hb hW hwk hol (hla.sp x (Ac hx)))) ?_;refine gz6 ?_;refine uCo (fun h9=> ?_) fun h10=> ?_
 refine gz2 ?_;refine dq ((by first|exact zn zdc rfl ty9 (by decide) rfl|exact zh zdc rfl ty9 (by decide) rfl)) ?_;refine gz2 ?_;refine dq (zI (cs:=[_,_]) zpt pl58 rfl) ?_;refine dq (za (hs:=[_]) zwl zpt rfl rfl (by decide) (by decide) rfl) ?_;refine de rfl (zO (i:=0) zwl zpt rfl rfl rfl rfl rfl (by simp [zax,zb]) (by have:=zr8 b (rPl (zbM b.League.Bounds b.Moves n) t) c w k;simp only [Ah,Ai,AG] at*;omega) fun v83=> ?_)
 refine gz8 ?_;exact ⟨k+1,v83,⟨by omega,trivial⟩,uD,⟨rfl,rfl,trivial⟩,uK,zu (by dsimp only;rw [zmx,zmw,hsk,if_neg uSa,if_neg uSa];simp)⟩;refine gz7 ?_;exact ⟨k+1,u,⟨by omega,trivial⟩,uD,⟨rfl,rfl,trivial⟩,uK,zu (by dsimp only;rw [zmx,zmw,hsk,if_neg uSa,if_pos uSa];simp)⟩;have hnk:b.League.Slots.length<=k:=by omega
 obtain rfl:k=b.League.Slots.length:=by omega
 refine gz2 ?_;refine zL ?_;refine gz8 ?_
 focus first
 | (refine za5 rfl (zW ?_ (Weak.refl _))
    rw [zpu h1];exact zQ 2)
 | (refine za5 rfl (zW ?_ ?_)
    rw [znG hz h3];exact zQ 2;rw [hz];exact Weak.refl _)
 | (refine zae ((zas 8 (i:=0) rfl rfl).trans Ghost.clear) rfl ⟨?_,rfl⟩
    show HVal.tup _=_
    rw [zgt,if_neg (fun q=>q hz),hc,hz];rfl)
end
section
open Go.Proofs.Tryz
open Go.HL
theorem zak [Tracks] {b:Nat} {l:List Int} {a:Nat} (ha:a<=800000):Con prog 109 [pAt b] [St b l a] (fun x M'=> ∃t a',x=eSs t/\GoodTr t/\a'<=a+10/\M'=[St b l a']):=by
 refine uOb func109 ntmps109 ?_;refine gz6 ?_;refine zf (zM 1) ?_;refine gz3 ?_;refine de rfl (uCx 1 zwJ rfl rfl (zez (n:=3) uO uO uO) ?_)
 rintro _ _ ⟨L7,a7,rfl,hL7,ha7,rfl⟩;refine gz3 ?_;obtain ⟨hLn,hLb⟩:=hL7;refine gz1 ?_;refine uV2 [3,1,5,1,9,15] (fun (k:Nat) (q:GL Str)=>[(9,.int .i64 k),(3,.raw q.u)]) (fun (k:Nat) (q:GL Str)=>[St b l q.a,.arr q.u 1 (q.out.map .str)]) (fun (k:Nat) (q:GL Str)=>k<=L7.length/\(GLok Sh k (a7+k) q)) (fun (k:Nat) (q:GL Str)=>L7.length-k) (0) (⟨.slice none 0 0,[],a7⟩) ?_ ?_ ?_ ?_;exact ⟨Ad _,⟨by simp,by simp,uD⟩⟩;exact ⟨rfl,rfl,trivial⟩;exact uP
 intro k q hinv
 obtain ⟨hk,hq⟩:=hinv;obtain ⟨u,out,a2⟩:=q;obtain ⟨g1,g2,g3⟩:=id hq;dsimp only at g1 g2 g3;refine gz4 ?_;refine uCo (fun h1=> ?_) fun h2=> ?_
 obtain ⟨y,hy⟩: ∃y,L7[k]? =some y:=⟨_,Aa h1⟩
 have hdy:=zg hy;refine zcC ?_;refine de rfl (uCx 0 zdz rfl rfl (zB uSo uO) ?_)
 rintro _ _ ⟨y14,rfl,rfl⟩;refine gz2 ?_;refine uCo (fun h3=> ?_) fun h4=> ?_
 refine gz2 ?_;refine dq (za (hs:=[_,_,_]) zk ty9 rfl rfl (by decide) (by decide) rfl) ?_;refine gz1 ?_;refine dq (zD (f:=HVal.str) (l:=zfk) (j:=y.toNat) (a:=zfk.getD y.toNat []) zk ty9 rfl rfl (by have:=hLb y (Ac hy);omega) (getD_some (by have:=hLb y (Ac hy);simp [zfk];omega))) ?_;refine gz1 ?_;refine dq (za (hs:=[_]) zk ty9 rfl rfl (by decide) (by decide) rfl) ?_;refine de rfl (zO (i:=1) zk ty9 rfl rfl rfl rfl rfl (by simp [zax,zb]) uSo fun v22=> ?_)
 refine gz8 ?_;exact ⟨k+1,⟨v22,out++[zfk.getD y.toNat []],a2+1⟩,⟨by omega,hq.add (x:=zfk.getD y.toNat []) (zkh _ (zvE (by have:=hLb y (Ac hy);simp [zfk];omega))) uO⟩,uD,⟨rfl,rfl,trivial⟩,uK,uP⟩;refine gz7 ?_;exact ⟨k+1,⟨u,out,a2+1⟩,⟨by omega,hq.same uO⟩,uD,⟨rfl,rfl,trivial⟩,uK,uP⟩;have hnk:L7.length<=k:=by omega
 obtain rfl:k=L7.length:=by omega
 refine gz2 ?_;refine zL ?_;refine gz3 ?_
 dsimp only
 refine gz2 ?_;refine de rfl (uCx 0 zdz rfl rfl (zB uO uO) ?_)
 rintro _ _ ⟨y25,rfl,rfl⟩;refine gz1 ?_;refine uCo (fun h5=> ?_) fun h6=> ?_
 refine gz3 ?_;refine dq (za (hs:=[_,_,_]) zk ty9 rfl rfl (by decide) (by decide) rfl) ?_;refine de rfl (uCx 0 ca7 rfl rfl (zi (L:=[_,_,_]) uO uSa uSa) ?_)
 rintro _ _ ⟨y29,rfl,hy29,rfl⟩;refine dq (za (hs:=[_]) zk ty9 rfl rfl (by decide) (by decide) rfl) ?_;refine de rfl (zO (i:=1) zk ty9 rfl rfl rfl rfl rfl (by simp [zax,zb]) uSo fun v31=> ?_)
 refine gz8 ?_;exact zae (zas 2 (i:=1) rfl rfl) rfl ⟨out++[y29],_,by simp,⟨by simp;omega,fun s hs=>by
  rcases List.mem_append.1 hs with hs|hs
  exact g2 s hs;rw [List.mem_singleton.1 hs];simp at hy29;rcases hy29 with rfl|rfl|rfl<;>(unfold Sh;simp)⟩,by omega,rfl⟩
 refine gz7 ?_;exact zae (zas 2 (i:=1) rfl rfl) rfl ⟨out,_,rfl,⟨by omega,g2⟩,by omega,rfl⟩
theorem ziX [Tracks] {b:Nat} {l:List Int} {a:Nat} (ha:a<=700000):Con prog 51 [pAt b] [St b l a] (fun x M'=> ∃k a',x=zbC k/\GoodPl k/\a'<=a+500/\M'=[St b l a']):=by
 refine uOb func51 ntmps51 ?_;refine gz6 ?_;refine zf (zM 9) ?_;refine gz2 ?_;refine dq (za (hs:=[_,_,_]) zk ty9 rfl rfl (by decide) (by decide) rfl) ?_;refine dq (zao (f:=HVal.str) (l:=zfk) zk rfl) ?_;refine gz3 ?_;refine uV2 [3,1,5,5,11,1,15,97] (fun (k:Nat) (q:GL Play)=>[(15,.int .i64 k),(3,.raw q.u)]) (fun (k:Nat) (q:GL Play)=>[St b l q.a,.arr q.u 9 (q.out.map zai)]) (fun (k:Nat) (q:GL Play)=>k<=zfk.length/\(GLok zcu (5*k) (a+130*k) q)) (fun (k:Nat) (q:GL Play)=>zfk.length-k) (0) (⟨.slice none 0 0,[],a⟩) ?_ ?_ ?_ ?_;exact ⟨by decide,⟨by simp,by simp,uD⟩⟩;exact ⟨rfl,rfl,trivial⟩;exact uP
 intro k q hinv
 obtain ⟨hk,hq⟩:=hinv;obtain ⟨u,out,a1⟩:=q;obtain ⟨g1,g2,g3⟩:=id hq;dsimp only at g1 g2 g3;have h3:zfk.length=3:=rfl;refine gz4 ?_;refine uCo (fun h1=> ?_) fun h2=> ?_
 obtain ⟨x,hx⟩: ∃x,zfk[k]? =some x:=⟨_,Aa h1⟩
 have hdx:=zg hx;refine gz5 ?_;refine dq (zD (f:=HVal.str) (l:=zfk) (j:=k) (a:=x) zk ty9 rfl rfl rfl hx) ?_;refine gz5 ?_;refine dq (za (hs:=[_,_]) z6 ty3 rfl rfl (by decide) (by decide) rfl) ?_;refine de rfl (uCx 0 zaI rfl rfl (zd (L:=[_,_]) uSo uSa uSa) ?_)
 rintro _ _ ⟨y21,rfl,hy21,rfl⟩;refine gz5 ?_;refine de rfl (uCx 0 ca6 rfl rfl (zC uSo uO uO uO) ?_)
 rintro _ _ ⟨y23,rfl,hy23,rfl⟩;refine gz3 ?_;refine zuK (3::6::7::8::9::11::24::25::26::27::28::29::30::31::32::33::34::35::36::37::38::39::40::41::42::43::44::45::46::47::48::49::50::51::52::53::54::55::56::57::58::59::60::61::62::63::64::65::66::67::68::69::70::71::72::73::74::75::76::77::78::79::80::81::82::83::84::85::86::87::88::89::90::91::92::93::94::95::96::97::98::99::100::101::102::103::104::105::106::107::108::109::110::[]) (fun (n:Nat) (no:Int) (at1:Int) (q2:GL Play)=>[(24,.int .i64 (n:Int)),(6,.int .i64 no),(7,.int .i64 at1),(3,.raw q2.u)]) (fun (n:Nat) (no:Int) (at1:Int) (q2:GL Play)=>[St b l q2.a,.arr q2.u 9 (q2.out.map zai)]) (fun (n:Nat) (no:Int) (at1:Int) (q2:GL Play)=>(n:Int)<=y23/\(0<=no/\no<=2*n)/\(0<=at1/\at1<=5+40*n)/\GLok zcu (5*k+n) (a1+2+25*n) q2) (fun (n:Nat) (no:Int) (at1:Int) (q2:GL Play)=>y23.toNat-n) (0) (0) (y21) (⟨u,out,a1+2⟩) ?_ ?_ ?_ ?_;exact ⟨by omega,⟨by omega,by omega⟩,⟨by simp at hy21;omega,by simp at hy21;omega⟩,⟨uD,g2,uD⟩⟩;exact ⟨rfl,rfl,rfl,rfl,trivial⟩;exact uP
 intro n no at1 q2 hinv
 obtain ⟨hn,hno,hat,hq2⟩:=hinv;obtain ⟨u,out,a2⟩:=q2;obtain ⟨g1,g2,g3⟩:=id hq2;dsimp only at g1 g2 g3;refine gz4 ?_;refine uCo (fun h3=> ?_) fun h4=> ?_
 refine gz7 ?_;refine dq (za (hs:=[_,_,_]) z6 ty3 rfl rfl (by decide) (by decide) rfl) ?_;refine de rfl (uCx 0 zaI rfl rfl (zd (L:=[_,_,_]) uSo uSa uSa) ?_)
 rintro _ _ ⟨y29,rfl,hy29,rfl⟩;refine dq (zbf rfl rfl (by simp at hy29;omega) (by simp at hy29;omega)) ?_;refine gz4 ?_;refine de rfl (uCx 0 zhw rfl rfl (zZ uSo uO) ?_)
 rintro _ _ ⟨y32,rfl,hy32,rfl⟩;refine gz2 ?_;have hyb:1<=y29/\y29<=2:=by simp at hy29;omega
 refine uVj [9,1,33,21] (fun (q9:Nat×Play)=>[(9,pAt q9.1)]) (fun (q9:Nat×Play)=>[St b l (a2+5),.arr u 9 (out.map zai),.cells q9.1 (zb (zai q9.2))]) (fun (q9:Nat×Play)=>zcu q9.2) ?_ ?_
 skip
 refine zlb mixed ?_;refine gz3 ?_;refine uB 3 rfl (za (hs:=[_,_,_]) z6 ty3 rfl rfl (by decide) (by decide) rfl) ?_;refine gz1 ?_;refine uB 5 rfl (zD (f:=HVal.int .i64) (l:=zld) (j:=y32) (a:=zld.getD y32 0) z6 ty3 rfl rfl rfl (getD_some (by simp [zld];omega))) ?_;refine gz1 ?_;refine uB 7 rfl (za (hs:=[_,_,_]) zk ty9 rfl rfl (by decide) (by decide) rfl) ?_;refine gz1 ?_;refine uB 9 rfl (zD (f:=HVal.str) (l:=zee) (j:=y32) (a:=zee.getD y32 []) zk ty9 rfl rfl rfl (getD_some (by simp [zee];omega))) ?_;refine gz2 ?_;refine uB 12 rfl (za (hs:=[_,_,_]) zk ty9 rfl rfl (by decide) (by decide) rfl) ?_;refine uA 14 ?_;refine uB 15 rfl (za (hs:=[_,_,_,_]) zk ty9 rfl rfl (by decide) (by decide) rfl) ?_;refine uA 17 ?_;refine uB 18 rfl (za (hs:=[_,_,_,_,_]) z6 ty3 rfl rfl (by decide) (by decide) rfl) ?_;refine zhr 13 21 rfl rfl (by kernel_rfl) ?_ ?_
 skip
 refine zq rfl (uCx 0 ca7 rfl rfl (zi (L:=[_,_,_]) uSo uSa uSa) ?_)
 rintro _ _ ⟨y46,rfl,hy46,rfl⟩;refine ⟨uE,?_⟩
 refine zhr 16 21 rfl rfl (by kernel_rfl) ?_ ?_
 skip
 refine zq rfl (uCx 0 ca7 rfl rfl (zi (L:=[_,_,_,_]) uSo uSa uSa) ?_)
 rintro _ _ ⟨y49,rfl,hy49,rfl⟩;refine ⟨uE,?_⟩
 refine zhr 19 21 rfl rfl (by kernel_rfl) ?_ ?_
 skip
 refine zq rfl (uCx 0 zaI rfl rfl (zd (L:=[_,_,_,_,_]) uSo uSa uSa) ?_)
 rintro _ _ ⟨y52,rfl,hy52,rfl⟩;refine ⟨uE,?_⟩
 refine uB 20 rfl (zI (cs:=[_,_,_,_,_,_,_,_,_]) zbs zrO rfl) ?_;refine uF 21 ?_;refine zq rfl (zj zbs rfl fun b9=> ?_)
 refine ⟨uE,?_⟩
 refine uF 22 ?_;refine zK (uY 0 ?_)
 refine ⟨uE,?_⟩
 refine uAz ?_;refine ⟨(b9,(⟨x,no+y29,at1,zld.getD y32 0,zee.getD y32 [],y46,y49,y52,0⟩:Play)),?_,⟨rfl,trivial⟩,uK,?_⟩
 exact ⟨zkh x (Ac hx),zjm y32,by simp at hy46;rcases hy46 with rfl|rfl|rfl<;>(unfold Sh;simp),by simp at hy49;rcases hy49 with rfl|rfl|rfl<;>(unfold Sh;simp)⟩;exact uP
 skip
 refine zq rfl (zj zbs rfl fun b9=> ?_)
 refine ⟨uE,?_⟩
 refine uF 19 ?_;refine zq rfl (uCx 1 zaI rfl rfl (zd (L:=[_,_,_,_,_]) uSo uSa uSa) ?_)
 rintro _ _ ⟨y52,rfl,hy52,rfl⟩;refine ⟨uE,?_⟩
 refine uB 20 rfl (zI (cs:=[_,_,_,_,_,_,_,_,_]) zbs zrO rfl) ?_;refine uF 22 ?_;refine zK (uY 1 ?_)
 refine ⟨uE,?_⟩
 refine uAz ?_;refine ⟨(b9,(⟨x,no+y29,at1,zld.getD y32 0,zee.getD y32 [],y46,y49,y52,0⟩:Play)),?_,⟨rfl,trivial⟩,uK,?_⟩
 exact ⟨zkh x (Ac hx),zjm y32,by simp at hy46;rcases hy46 with rfl|rfl|rfl<;>(unfold Sh;simp),by simp at hy49;rcases hy49 with rfl|rfl|rfl<;>(unfold Sh;simp)⟩;exact uP
 skip
 refine zq rfl (zj zbs rfl fun b9=> ?_)
 refine ⟨uE,?_⟩
 refine uF 16 ?_;refine zq rfl (uCx 1 ca7 rfl rfl (zi (L:=[_,_,_,_]) uSo uSa uSa) ?_)
 rintro _ _ ⟨y49,rfl,hy49,rfl⟩;refine ⟨uE,?_⟩
 refine uF 19 ?_;refine zq rfl (uCx 0 zaI rfl rfl (zd (L:=[_,_,_,_,_]) uSo uSa uSa) ?_)
 rintro _ _ ⟨y52,rfl,hy52,rfl⟩;refine ⟨uE,?_⟩
 refine uB 20 rfl (zI (cs:=[_,_,_,_,_,_,_,_,_]) zbs zrO rfl) ?_;refine uF 22 ?_;refine zK (uY 1 ?_)
 refine ⟨uE,?_⟩
 refine uAz ?_;refine ⟨(b9,(⟨x,no+y29,at1,zld.getD y32 0,zee.getD y32 [],y46,y49,y52,0⟩:Play)),?_,⟨rfl,trivial⟩,uK,?_⟩
 exact ⟨zkh x (Ac hx),zjm y32,by simp at hy46;rcases hy46 with rfl|rfl|rfl<;>(unfold Sh;simp),by simp at hy49;rcases hy49 with rfl|rfl|rfl<;>(unfold Sh;simp)⟩;exact uP
 skip
 refine zq rfl (zj zbs rfl fun b9=> ?_)
 refine ⟨uE,?_⟩
 refine uF 13 ?_;refine zq rfl (uCx 1 ca7 rfl rfl (zi (L:=[_,_,_]) uSo uSa uSa) ?_)
 rintro _ _ ⟨y46,rfl,hy46,rfl⟩;refine ⟨uE,?_⟩
 refine uF 16 ?_;refine zq rfl (uCx 0 ca7 rfl rfl (zi (L:=[_,_,_,_]) uSo uSa uSa) ?_)
 rintro _ _ ⟨y49,rfl,hy49,rfl⟩;refine ⟨uE,?_⟩
 refine uF 19 ?_;refine zq rfl (uCx 0 zaI rfl rfl (zd (L:=[_,_,_,_,_]) uSo uSa uSa) ?_)
 rintro _ _ ⟨y52,rfl,hy52,rfl⟩;refine ⟨uE,?_⟩
 refine uB 20 rfl (zI (cs:=[_,_,_,_,_,_,_,_,_]) zbs zrO rfl) ?_;refine uF 22 ?_;refine zK (uY 1 ?_)
 refine ⟨uE,?_⟩
 refine uAz ?_;refine ⟨(b9,(⟨x,no+y29,at1,zld.getD y32 0,zee.getD y32 [],y46,y49,y52,0⟩:Play)),?_,⟨rfl,trivial⟩,uK,?_⟩
 exact ⟨zkh x (Ac hx),zjm y32,by simp at hy46;rcases hy46 with rfl|rfl|rfl<;>(unfold Sh;simp),by simp at hy49;rcases hy49 with rfl|rfl|rfl<;>(unfold Sh;simp)⟩;exact uP
 intro q9 hq9
 obtain ⟨b9,x9⟩:=q9;dsimp only at hq9;refine uVj [11,1,54,47] (fun (q4:Play×Nat)=>[]) (fun (q4:Play×Nat)=>[St b l q4.2,.arr u 9 (out.map zai),.cells b9 (zb (zai q4.1))]) (fun (q4:Play×Nat)=>zcu q4.1/\q4.2<=a2+22) ?_ ?_
 skip
 refine gz5 ?_;refine dgx (fun x M'=> ∃(y:Bool) (a3:Nat),x= .bool y/\a3<=(a2+5)+1/\M'=[St b l a3,.arr u 9 (out.map zai),.cells b9 (zb (zai x9))]) rfl rfl (fun hc=>⟨_,false,(a2+5),rfl,by omega,rfl⟩) (fun hc=>⟨_,OpenTo.upd (t:=57) rfl (hc) (OpenTo.refl _),uCx 0 zdz rfl rfl (zB (a:=(a2+5)) uO uO) (fun h M' hh=>by
  obtain ⟨y,h1,h2⟩:=hh;exact ⟨y,(a2+5)+1,h1,by omega,by rw [h2];rfl⟩)⟩) ?_
 rintro _ _ ⟨y10,a310,rfl,ha310,rfl⟩;refine gz2 ?_;refine uCo (fun h5=> ?_) fun h6=> ?_
 refine gz4 ?_;refine de rfl (uCx 0 ca6 rfl rfl (zC uO uO uO uO) ?_)
 rintro _ _ ⟨y63,rfl,hy63,rfl⟩;refine gz1 ?_;refine de0 (uY 2 ?_)
 refine gz1 ?_;refine de0 (uY 2 ?_)
 refine gz1 ?_;obtain ⟨s9,n9,t9,w9,m9,p9,st9,c9,u9⟩:=x9;refine zf (Ghost.perm (M':=[St b l (a310+1),.arr u 9 (out.map zai),.cells b9 (zb (zai ⟨s9,n9,t9,w9,m9,p9,st9,0,y63⟩))]) uP) ?_;refine gz2 ?_;refine de rfl (za7 (i:=1) (es:=out) zhE rfl rfl ?_)
 refine gz3 ?_;refine uV2 [11,1,68,33] (fun (j:Nat) (q3:Play×Nat)=>[(68,.int .i64 j)]) (fun (j:Nat) (q3:Play×Nat)=>[St b l q3.2,.arr u 9 (out.map zai),.cells b9 (zb (zai q3.1))]) (fun (j:Nat) (q3:Play×Nat)=>j<=out.length/\(zcu q3.1/\q3.2<=a310+1+j)) (fun (j:Nat) (q3:Play×Nat)=>out.length-j) (0) ((⟨s9,n9,t9,w9,m9,p9,st9,0,y63⟩,a310+1)) ?_ ?_ ?_ ?_;exact ⟨Ad _,hq9,uD⟩;exact ⟨rfl,trivial⟩;exact uP
 intro j q3 hinv
 obtain ⟨hj,hq3⟩:=hinv;obtain ⟨⟨s3,n3,t3,w3,m3,p3,st3,c3,u3⟩,a4⟩:=q3;obtain ⟨hs3,ha4⟩:=hq3;dsimp only at hs3 ha4;refine gz4 ?_;refine uCo (fun h7=> ?_) fun h8=> ?_
 obtain ⟨z,hz⟩: ∃z,out[j]? =some z:=⟨_,Aa h7⟩
 have hdz:=zg hz;have hgz:=g2 z (Ac hz);refine zcZ (i:=1) rfl (fun h0 he=> ?_) (fun ob off cap hv hcap=> ?_)
 exfalso;have:=congrArg List.length he;simp at this;subst this;simp at hz
 subst hv;refine gz5 ?_;refine dq (zy (j:=j) zhE zbs rfl rfl rfl uSo) ?_;refine de rfl (zV (i:=1) (j:=j) (f:=zai) (es:=out) zbs rfl rfl rfl hz rfl rfl rfl ?_)
 refine de rfl (zj zbs rfl fun b11=> ?_)
 refine de0 (zo zbs rfl rfl rfl rfl rfl ?_)
 refine gz1 ?_;refine zf (zp 11 rfl) ?_;refine gz9 ?_;refine dgl rfl rfl (fun hc=>⟨_,OpenTo.upd (t:=79) rfl (hc) (OpenTo.refl _),z8 (i:=2) ty3 rfl rfl (.inl ⟨rfl,rfl⟩) ⟨rfl,rfl⟩⟩) ?_;refine gz4 ?_;refine dgx (fun x M'=> ∃(y:Bool) (a3:Nat),x= .bool y/\a3<=a4+1/\M'=[St b l a3,.arr (.slice (some ⟨ob,off,none⟩) (out.map zai).length cap) 9 (out.map zai),.cells b9 (zb (zai ⟨s3,n3,t3,w3,m3,p3,st3,c3,u3⟩))]) rfl rfl (fun hc=>⟨_,false,a4,rfl,by omega,rfl⟩) (fun hc=>⟨_,OpenTo.upd (t:=84) rfl (hc) (OpenTo.refl _),uCx 0 zdz rfl rfl (zB (a:=a4) uO uO) (fun h M' hh=>by
  obtain ⟨y,h1,h2⟩:=hh;exact ⟨y,a4+1,h1,by omega,by rw [h2];rfl⟩)⟩) ?_
 rintro _ _ ⟨y6,a36,rfl,ha36,rfl⟩;refine gz3 ?_;refine uCo (fun h9=> ?_) fun h10=> ?_
 refine zlb mixed ?_;refine gz9 ?_;refine uF 9 ?_;refine zK (uY 2 ?_)
 refine ⟨uE,?_⟩
 refine gz1 ?_;refine uF 11 ?_;refine zK (uY 2 ?_)
 refine ⟨uE,?_⟩
 refine gz1 ?_;refine uF 13 ?_;refine zK (uY 2 ?_)
 refine ⟨uE,?_⟩
 refine gz1 ?_;refine uF 15 ?_;refine zK (uY 2 ?_)
 refine ⟨uE,?_⟩
 refine gz7 ?_;exact ⟨j+1,(⟨s3,n3,t3,z.Week,z.Match,z.Player,z.Stat,c3,u3⟩,a36),⟨by omega,⟨hs3.1,hgz.2.1,hgz.2.2.1,hgz.2.2.2⟩,uD⟩,uD,⟨rfl,trivial⟩,uK,uP⟩;refine gz7 ?_;exact ⟨j+1,(⟨s3,n3,t3,w3,m3,p3,st3,c3,u3⟩,a36),⟨by omega,hs3,uD⟩,uD,⟨rfl,trivial⟩,uK,uP⟩;have hnj:out.length<=j:=by omega
 obtain rfl:j=out.length:=by omega
 refine gz2 ?_;refine zL ?_;refine gz1 ?_;exact ⟨(⟨s3,n3,t3,w3,m3,p3,st3,c3,u3⟩,a4),⟨hs3,uD⟩,trivial,uK,uP⟩;refine gz1 ?_;exact ⟨(x9,a310),⟨hq9,uD⟩,trivial,uK,uP⟩
 intro q4 hq4
 obtain ⟨x5,a5⟩:=q4;obtain ⟨hx5,ha5⟩:=hq4;dsimp only at hx5 ha5;refine zf (zcz 9 (i:=2) rfl rfl) ?_;refine gz3 ?_;refine dq (za (hs:=[_]) zhE zbs rfl rfl (by decide) (by decide) rfl) ?_;refine de rfl (zO (i:=1) zhE zbs rfl rfl rfl rfl rfl (by simp [zax,zb]) uSo fun v104=> ?_)
 refine gz5 ?_;refine dq (za (hs:=[_,_,_,_]) z6 ty3 rfl rfl (by decide) (by decide) rfl) ?_;refine de rfl (uCx 0 zaI rfl rfl (zd (L:=[_,_,_,_]) uO uSa uSa) ?_)
 rintro _ _ ⟨y108,rfl,hy108,rfl⟩;refine dq (zbf rfl rfl (by simp at hy108;omega) (by simp at hy108;omega)) ?_;refine gz8 ?_;exact ⟨n+1,no+y29,at1+y108,⟨v104,out++[x5],a5+1⟩,⟨by omega,⟨by simp at hy29;omega,by simp at hy29;omega⟩,⟨by simp at hy108;omega,by simp at hy108;omega⟩,hq2.add (x:=x5) hx5 uO⟩,uD,⟨rfl,rfl,rfl,rfl,trivial⟩,uK,uP⟩;refine gz2 ?_;refine zvQ ?_;refine gz7 ?_;exact ⟨k+1,⟨u,out,a2⟩,⟨by omega,⟨uD,g2,uD⟩⟩,uD,⟨rfl,rfl,trivial⟩,uK,uP⟩;have hnk:zfk.length<=k:=by omega
 obtain rfl:k=zfk.length:=by omega
 refine gz2 ?_;refine zL ?_;refine gz2 ?_;refine uVj [12,1,112,111] (fun (q5:List Play×Nat)=>[]) (fun (q5:List Play×Nat)=>[St b l q5.2,.arr u 9 (q5.1.map zai)]) (fun (q5:List Play×Nat)=>q5.1.length<=15/\(∀x∈q5.1,zcu x)/\q5.2<=a+500) ?_ ?_
 skip
 refine gz2 ?_;refine de rfl (za7 (i:=1) zhE rfl rfl ?_)
 refine gz3 ?_;refine dgx (fun x M'=> ∃(y:Bool) (a3:Nat),x= .bool y/\a3<=a1+1/\M'=[St b l a3,.arr u 9 (out.map zai)]) rfl rfl (fun hc=>⟨_,false,a1,rfl,by omega,rfl⟩) (fun hc=>⟨_,OpenTo.upd (t:=116) rfl (hc) (OpenTo.refl _),uCx 0 zdz rfl rfl (zB (a:=a1) uO uO) (fun h M' hh=>by
  obtain ⟨y,h1,h2⟩:=hh;exact ⟨y,a1+1,h1,by omega,by rw [h2];rfl⟩)⟩) ?_
 rintro _ _ ⟨y,a3,rfl,ha3,rfl⟩;refine gz2 ?_;refine uCo (fun h11=> ?_) fun h12=> ?_
 have ho0:0<out.length:=by simp_all
 refine zcZ (i:=1) rfl (fun h0 he=> ?_) (fun ob off cap hv hcap=> ?_)
 exfalso;have:=congrArg List.length he;simp at this;subst this;simp at ho0
 subst hv;refine gz4 ?_;refine de rfl (za7 (i:=1) zhE rfl rfl ?_)
 refine de rfl (uCx 0 zhw rfl rfl (zZ uO uO) ?_)
 rintro _ _ ⟨y123,rfl,hy123,rfl⟩;refine dq (zy (j:=y123) zhE zbs rfl rfl rfl uSo) ?_;refine gz2 ?_;obtain ⟨x,hx⟩: ∃x,out[y123]? =some x:=⟨_,Aa uO⟩
 refine gz2 ?_;refine de rfl (uCx 0 zhw rfl rfl (zZ uO uO) ?_)
 rintro _ _ ⟨y126,rfl,hy126,rfl⟩;refine gz6 ?_;refine uCo (fun h13=> ?_) fun h14=> ?_
 refine za1 (fun M=> ∃i:Nat,M[i]? =some (.arr (.slice (some ⟨ob,off,none⟩) (out.map zai).length cap) 9 (out.map zai))) [6,13] mixed ?_;refine gz6 ?_;refine uM 6 rfl ⟨1,rfl⟩ (fun M hM=>by obtain ⟨i,hi⟩:=hM;exact zaq (i:=i) (j:=y123) 0 ty9 rfl uO hi hx rfl rfl ⟨rfl,rfl⟩) ?_;refine uB 7 rfl (za (hs:=[_,_,_]) zk ty9 rfl rfl (by decide) (by decide) rfl) ?_;refine uA 9 ?_;refine gz3 ?_;refine uM 13 rfl ⟨1,rfl⟩ (fun M hM=>by obtain ⟨i,hi⟩:=hM;exact zaq (i:=i) (j:=y123) 1 ty3 rfl uO hi hx rfl rfl ⟨rfl,rfl⟩) ?_;refine uB 14 rfl (za (hs:=[_,_,_,_]) z6 ty3 rfl rfl (by decide) (by decide) rfl) ?_;refine uF 8 ?_;refine zq rfl (uCx 0 ca7 rfl rfl (zi (L:=[_,_,_]) uO uSa uSa) ?_)
 rintro _ _ ⟨y167,rfl,hy167,rfl⟩;refine ⟨uE,?_⟩
 refine uF 15 ?_;refine zq rfl (uCx 0 zaI rfl rfl (zd (L:=[_,_,_,_]) uO uSa uSa) ?_)
 rintro _ _ ⟨y174,rfl,hy174,rfl⟩;refine ⟨uE,?_⟩
 refine gz2 ?_;refine uF 18 ?_;refine zK (zR (i:=1) (j:=y123) (f:=0) (y:=zai x) (y':=zai ⟨y167,x.No,x.At,x.Week,x.Match,x.Player,x.Stat,x.Count,x.Undo⟩) ty9 rfl uO rfl rfl (za2 hx) rfl rfl (by simp [zb]) rfl ?_)
 refine ⟨uE,?_⟩
 refine gz2 ?_;refine uF 21 ?_;refine zK (zR (i:=1) (j:=y123) (f:=1) (y:=zai ⟨y167,x.No,x.At,x.Week,x.Match,x.Player,x.Stat,x.Count,x.Undo⟩) (y':=zai ⟨y167,y174,x.At,x.Week,x.Match,x.Player,x.Stat,x.Count,x.Undo⟩) ty3 rfl uO rfl rfl (zaD (za2 hx)) rfl rfl (by simp [zb]) rfl ?_)
 refine ⟨uE,?_⟩
 refine gz2 ?_;exact ⟨(out.set y123 ⟨y167,y174,x.At,x.Week,x.Match,x.Player,x.Stat,x.Count,x.Undo⟩,a3+4),⟨by simp;omega,zei (P:=zcu) g2 (by
  have hgx:=g2 x (Ac hx);exact ⟨by simp at hy167;rcases hy167 with rfl|rfl|rfl;exact hgx.1;exact zoq;(unfold Sh;simp),hgx.2.1,hgx.2.2.1,hgx.2.2.2⟩),uD⟩,trivial,uK,uP⟩
 refine gz4 ?_;refine uCo (fun h15=> ?_) fun h16=> ?_
 refine za1 (fun M=> ∃i:Nat,M[i]? =some (.arr (.slice (some ⟨ob,off,none⟩) (out.map zai).length cap) 9 (out.map zai))) [6,13] mixed ?_;refine gz6 ?_;refine uM 6 rfl ⟨1,rfl⟩ (fun M hM=>by obtain ⟨i,hi⟩:=hM;exact zaq (i:=i) (j:=y123) 3 ty3 rfl uO hi hx rfl rfl ⟨rfl,rfl⟩) ?_;refine uB 7 rfl (za (hs:=[_,_,_]) z6 ty3 rfl rfl (by decide) (by decide) rfl) ?_;refine uA 9 ?_;refine gz3 ?_;refine uM 13 rfl ⟨1,rfl⟩ (fun M hM=>by obtain ⟨i,hi⟩:=hM;exact zaq (i:=i) (j:=y123) 4 ty9 rfl uO hi hx rfl rfl ⟨rfl,rfl⟩) ?_;refine uB 14 rfl (za (hs:=[_,_]) zk ty9 rfl rfl (by decide) (by decide) rfl) ?_;refine uF 8 ?_;refine zq rfl (uCx 0 zaI rfl rfl (zd (L:=[_,_,_]) uO uSa uSa) ?_)
 rintro _ _ ⟨y189,rfl,hy189,rfl⟩;refine ⟨uE,?_⟩
 refine uF 15 ?_;refine zq rfl (uCx 0 ca7 rfl rfl (zi (L:=[_,_]) uO uSa uSa) ?_)
 rintro _ _ ⟨y196,rfl,hy196,rfl⟩;refine ⟨uE,?_⟩
 refine gz2 ?_;refine uF 18 ?_;refine zK (zR (i:=1) (j:=y123) (f:=3) (y:=zai x) (y':=zai ⟨x.Source,x.No,x.At,y189,x.Match,x.Player,x.Stat,x.Count,x.Undo⟩) ty3 rfl uO rfl rfl (za2 hx) rfl rfl (by simp [zb]) rfl ?_)
 refine ⟨uE,?_⟩
 refine gz2 ?_;refine uF 21 ?_;refine zK (zR (i:=1) (j:=y123) (f:=4) (y:=zai ⟨x.Source,x.No,x.At,y189,x.Match,x.Player,x.Stat,x.Count,x.Undo⟩) (y':=zai ⟨x.Source,x.No,x.At,y189,y196,x.Player,x.Stat,x.Count,x.Undo⟩) ty9 rfl uO rfl rfl (zaD (za2 hx)) rfl rfl (by simp [zb]) rfl ?_)
 refine ⟨uE,?_⟩
 refine gz2 ?_;exact ⟨(out.set y123 ⟨x.Source,x.No,x.At,y189,y196,x.Player,x.Stat,x.Count,x.Undo⟩,a3+4),⟨by simp;omega,zei (P:=zcu) g2 (by
  have hgx:=g2 x (Ac hx);exact ⟨hgx.1,by simp at hy196;rcases hy196 with rfl|rfl;exact hgx.2.1;exact zoq,hgx.2.2.1,hgx.2.2.2⟩),uD⟩,trivial,uK,uP⟩
 refine gz4 ?_;refine uCo (fun h17=> ?_) fun h18=> ?_
 refine za1 (fun M=> ∃i:Nat,M[i]? =some (.arr (.slice (some ⟨ob,off,none⟩) (out.map zai).length cap) 9 (out.map zai))) [6,13] mixed ?_;refine gz6 ?_;refine uM 6 rfl ⟨1,rfl⟩ (fun M hM=>by obtain ⟨i,hi⟩:=hM;exact zaq (i:=i) (j:=y123) 7 ty3 rfl uO hi hx rfl rfl ⟨rfl,rfl⟩) ?_;refine uB 7 rfl (za (hs:=[_,_,_]) z6 ty3 rfl rfl (by decide) (by decide) rfl) ?_;refine uA 9 ?_;refine gz3 ?_;refine uM 13 rfl ⟨1,rfl⟩ (fun M hM=>by obtain ⟨i,hi⟩:=hM;exact zaq (i:=i) (j:=y123) 8 ty3 rfl uO hi hx rfl rfl ⟨rfl,rfl⟩) ?_;refine uB 14 rfl (za (hs:=[_,_,_]) z6 ty3 rfl rfl (by decide) (by decide) rfl) ?_;refine uF 8 ?_;refine zq rfl (uCx 0 zaI rfl rfl (zd (L:=[_,_,_]) uO uSa uSa) ?_)
 rintro _ _ ⟨y211,rfl,hy211,rfl⟩;refine ⟨uE,?_⟩
 refine uF 15 ?_;refine zq rfl (uCx 0 zaI rfl rfl (zd (L:=[_,_,_]) uO uSa uSa) ?_)
 rintro _ _ ⟨y218,rfl,hy218,rfl⟩;refine ⟨uE,?_⟩
 refine gz2 ?_;refine uF 18 ?_;refine zK (zR (i:=1) (j:=y123) (f:=7) (y:=zai x) (y':=zai ⟨x.Source,x.No,x.At,x.Week,x.Match,x.Player,x.Stat,y211,x.Undo⟩) ty3 rfl uO rfl rfl (za2 hx) rfl rfl (by simp [zb]) rfl ?_)
 refine ⟨uE,?_⟩
 refine gz2 ?_;refine uF 21 ?_;refine zK (zR (i:=1) (j:=y123) (f:=8) (y:=zai ⟨x.Source,x.No,x.At,x.Week,x.Match,x.Player,x.Stat,y211,x.Undo⟩) (y':=zai ⟨x.Source,x.No,x.At,x.Week,x.Match,x.Player,x.Stat,y211,y218⟩) ty3 rfl uO rfl rfl (zaD (za2 hx)) rfl rfl (by simp [zb]) rfl ?_)
 refine ⟨uE,?_⟩
 refine gz2 ?_;exact ⟨(out.set y123 ⟨x.Source,x.No,x.At,x.Week,x.Match,x.Player,x.Stat,y211,y218⟩,a3+4),⟨by simp;omega,zei (P:=zcu) g2 (by
  have hgx:=g2 x (Ac hx);exact ⟨hgx.1,hgx.2.1,hgx.2.2.1,hgx.2.2.2⟩),uD⟩,trivial,uK,uP⟩
 refine za1 (fun M=> ∃i:Nat,M[i]? =some (.arr (.slice (some ⟨ob,off,none⟩) (out.map zai).length cap) 9 (out.map zai))) [7,14,21] mixed ?_;refine gz7 ?_;refine uM 7 rfl ⟨1,rfl⟩ (fun M hM=>by obtain ⟨i,hi⟩:=hM;exact zaq (i:=i) (j:=y123) 5 ty9 rfl uO hi hx rfl rfl ⟨rfl,rfl⟩) ?_;refine uB 8 rfl (za (hs:=[_,_]) zk ty9 rfl rfl (by decide) (by decide) rfl) ?_;refine uA 10 ?_;refine gz3 ?_;refine uM 14 rfl ⟨1,rfl⟩ (fun M hM=>by obtain ⟨i,hi⟩:=hM;exact zaq (i:=i) (j:=y123) 6 ty9 rfl uO hi hx rfl rfl ⟨rfl,rfl⟩) ?_;refine uB 15 rfl (za (hs:=[_,_]) zk ty9 rfl rfl (by decide) (by decide) rfl) ?_;refine uA 17 ?_;refine gz3 ?_;refine uM 21 rfl ⟨1,rfl⟩ (fun M hM=>by obtain ⟨i,hi⟩:=hM;exact zaq (i:=i) (j:=y123) 2 ty3 rfl uO hi hx rfl rfl ⟨rfl,rfl⟩) ?_;refine uB 22 rfl (za (hs:=[_,_]) z6 ty3 rfl rfl (by decide) (by decide) rfl) ?_;refine uF 9 ?_;refine zq rfl (uCx 0 ca7 rfl rfl (zi (L:=[_,_]) uO uSa uSa) ?_)
 rintro _ _ ⟨y136,rfl,hy136,rfl⟩;refine ⟨uE,?_⟩
 refine uF 16 ?_;refine zq rfl (uCx 0 ca7 rfl rfl (zi (L:=[_,_]) uO uSa uSa) ?_)
 rintro _ _ ⟨y143,rfl,hy143,rfl⟩;refine ⟨uE,?_⟩
 refine uF 23 ?_;refine zq rfl (uCx 0 zaI rfl rfl (zd (L:=[_,_]) uO uSa uSa) ?_)
 rintro _ _ ⟨y150,rfl,hy150,rfl⟩;refine ⟨uE,?_⟩
 refine gz2 ?_;refine uF 26 ?_;refine zK (zR (i:=1) (j:=y123) (f:=5) (y:=zai x) (y':=zai ⟨x.Source,x.No,x.At,x.Week,x.Match,y136,x.Stat,x.Count,x.Undo⟩) ty9 rfl uO rfl rfl (za2 hx) rfl rfl (by simp [zb]) rfl ?_)
 refine ⟨uE,?_⟩
 refine gz2 ?_;refine uF 29 ?_;refine zK (zR (i:=1) (j:=y123) (f:=6) (y:=zai ⟨x.Source,x.No,x.At,x.Week,x.Match,y136,x.Stat,x.Count,x.Undo⟩) (y':=zai ⟨x.Source,x.No,x.At,x.Week,x.Match,y136,y143,x.Count,x.Undo⟩) ty9 rfl uO rfl rfl (zaD (za2 hx)) rfl rfl (by simp [zb]) rfl ?_)
 refine ⟨uE,?_⟩
 refine gz2 ?_;refine uF 32 ?_;refine zK (zR (i:=1) (j:=y123) (f:=2) (y:=zai ⟨x.Source,x.No,x.At,x.Week,x.Match,y136,y143,x.Count,x.Undo⟩) (y':=zai ⟨x.Source,x.No,y150,x.Week,x.Match,y136,y143,x.Count,x.Undo⟩) ty3 rfl uO rfl rfl (zaD (zaD (za2 hx))) rfl rfl (by simp [zb]) rfl ?_)
 refine ⟨uE,?_⟩
 refine gz2 ?_;exact ⟨(out.set y123 ⟨x.Source,x.No,y150,x.Week,x.Match,y136,y143,x.Count,x.Undo⟩,a3+5),⟨by simp;omega,zei (P:=zcu) g2 (by
  have hgx:=g2 x (Ac hx);exact ⟨hgx.1,hgx.2.1,by simp at hy136;rcases hy136 with rfl|rfl;exact hgx.2.2.1;(unfold Sh;simp),by simp at hy143;rcases hy143 with rfl|rfl;exact hgx.2.2.2;exact zoq⟩),uD⟩,trivial,uK,uP⟩
 refine gz1 ?_;exact ⟨(out,a3),⟨uD,g2,uD⟩,trivial,uK,uP⟩
 intro q5 hq5
 obtain ⟨k1,a4⟩:=q5;dsimp only at hq5;obtain ⟨q1,q2,q3⟩:=hq5;refine gz5 ?_;exact zae (zas 2 (i:=1) rfl rfl) rfl ⟨k1,a4,rfl,⟨by omega,q2⟩,by omega,rfl⟩
end
section
open Go.Proofs.Tryz
open Go.HL
theorem zc4 [Tracks] {b:Nat} {l:List Int} {a:Nat} (ha:a<=800000):Con prog 184 [pAt b] [St b l a] (fun x M'=> ∃t a',x=eSs t/\t.length<=4/\a'<=a+5/\M'=[St b l a']):=by
 refine uOb func184 ntmps184 ?_;refine gz6 ?_;refine zf (zM 1) ?_;refine gz2 ?_;refine dq (za (hs:=[_,_,_,_]) zk ty9 rfl rfl (by decide) (by decide) rfl) ?_;refine dq (zao (f:=HVal.str) (l:=sp4) zk rfl) ?_;refine gz3 ?_;refine uV2 [3,1,5,1,8,11] (fun (k:Nat) (q:GL Str)=>[(8,.int .i64 k),(3,.raw q.u)]) (fun (k:Nat) (q:GL Str)=>[St b l q.a,.arr q.u 1 (q.out.map HVal.str)]) (fun (k:Nat) (q:GL Str)=>k<=sp4.length/\(GLok (fun _=>True) (k) (a+k) q)) (fun (k:Nat) (q:GL Str)=>sp4.length-k) (0) (⟨.slice none 0 0,[],a⟩) ?_ ?_ ?_ ?_
 ·exact ⟨Ad _,⟨by simp,by simp,uD⟩⟩
 ·exact ⟨rfl,rfl,trivial⟩
 ·exact uP
 ·intro k q hinv
  obtain ⟨hk,hq⟩:=hinv;have hlen:sp4.length=4:=rfl;obtain ⟨u,out,a2⟩:=q;obtain ⟨g1,g2,g3⟩:=id hq;dsimp only at g1 g2 g3;refine gz4 ?_;refine uCo (fun h1=> ?_) fun h2=> ?_
  ·obtain ⟨x,hx⟩: ∃x,sp4[k]? =some x:=⟨_,Aa h1⟩
   have hdx:=zg hx;refine gz5 ?_;refine dq (zD (f:=HVal.str) (l:=sp4) (j:=k) (a:=x) zk ty9 rfl rfl rfl hx) ?_;refine gz5 ?_;refine de rfl (uCx 0 zdz rfl rfl (zB uS uS) ?_)
   rintro _ _ ⟨y13,rfl,rfl⟩;refine gz1 ?_;refine uCo (fun h3=> ?_) fun h4=> ?_
   ·refine gz3 ?_;refine dq (za (hs:=[_]) zk ty9 rfl rfl (by decide) (by decide) rfl) ?_;refine de rfl (zO (i:=1) zk ty9 rfl rfl rfl rfl rfl (by simp [zax,zb,zay,zaO]) uSo fun v17=> ?_)
    refine gz8 ?_;exact ⟨k+1,⟨v17,out++[x],a2+1⟩,⟨by omega,hq.add (x:=x) trivial uO⟩,uD,⟨rfl,rfl,trivial⟩,uK,zu (by dsimp only;first|rfl|(rw [AB];rfl))⟩
   ·refine gz7 ?_;exact ⟨k+1,⟨u,out,a2+1⟩,⟨by omega,hq.same uO⟩,uD,⟨rfl,rfl,trivial⟩,uK,zu (by dsimp only;first|rfl|(rw [AB];rfl))⟩
  ·have hnk:sp4.length<=k:=by omega
   obtain rfl:k=sp4.length:=by omega
   refine gz2 ?_;refine zL ?_;refine gz5 ?_;refine de rfl (za7 (i:=1) zk rfl rfl ?_)
   refine gz2 ?_;refine uCo (fun h5=> ?_) fun h6=> ?_
   ·refine gz2 ?_;refine dq (za (hs:=[_,_,_]) zk ty9 rfl rfl (by decide) (by decide) rfl) ?_;refine de rfl (uCx 0 ca7 rfl rfl (zi (L:=[_,_,_]) uS uS uS) ?_)
    rintro _ _ ⟨y24,rfl,hy24,rfl⟩;refine dq (za (hs:=[_]) zk ty9 rfl rfl (by decide) (by decide) rfl) ?_;refine gz3 ?_;exact zae ((zbG (M':=[St b l (a2+1),.arr u 1 (out.map HVal.str)]) rfl).trans ((Ghost.perm (List.Perm.swap _ _ _)).trans Ghost.drop)) rfl ⟨[y24],_,rfl,by simp,by omega,rfl⟩
   ·refine gz7 ?_;exact zae (zas 2 (i:=1) rfl rfl) rfl ⟨out,a2,rfl,by omega,by omega,rfl⟩
theorem zde [Tracks] {b:Nat} {l:List Int} {a:Nat} (ha:a<=700000):Con prog 103 [pAt b] [St b l a] (fun x M'=> ∃k a',x=zaA k/\GoodPys k/\a'<=a+40/\M'=[St b l a']):=by
 refine uOb func103 ntmps103 ?_;refine gz6 ?_;refine zf (zM 3) ?_;refine gz2 ?_;refine dq (za (hs:=[_,_,_,_,_]) zk ty9 rfl rfl (by decide) (by decide) rfl) ?_;refine dq (zao (f:=HVal.str) (l:=nm5) zk rfl) ?_;refine gz3 ?_;refine uV2 [3,1,5,1,8,17] (fun (k:Nat) (q:GL PlayerS)=>[(8,.int .i64 k),(3,.raw q.u)]) (fun (k:Nat) (q:GL PlayerS)=>[St b l q.a,.arr q.u 3 (q.out.map zcY)]) (fun (k:Nat) (q:GL PlayerS)=>k<=nm5.length/\(GLok (GoodPy) (k) (a+8*k) q)) (fun (k:Nat) (q:GL PlayerS)=>nm5.length-k) (0) (⟨.slice none 0 0,[],a⟩) ?_ ?_ ?_ ?_;exact ⟨Ad _,⟨by simp,by simp,uD⟩⟩;exact ⟨rfl,rfl,trivial⟩;exact uP
 intro k q hinv
 obtain ⟨hk,hq⟩:=hinv;have hlen:nm5.length=5:=rfl;obtain ⟨u,out,a2⟩:=q;obtain ⟨g1,g2,g3⟩:=id hq;dsimp only at g1 g2 g3;refine gz4 ?_;refine uCo (fun h1=> ?_) fun h2=> ?_
 obtain ⟨x,hx⟩: ∃x,nm5[k]? =some x:=⟨_,Aa h1⟩
 have hdx:=zg hx;refine gz5 ?_;refine dq (zD (f:=HVal.str) (l:=nm5) (j:=k) (a:=x) zk ty9 rfl rfl rfl hx) ?_;refine gz6 ?_;refine de rfl (uCx 0 zdz rfl rfl (zB uS uS) ?_)
 rintro _ _ ⟨y13,rfl,rfl⟩;refine gz1 ?_;refine uCo (fun h3=> ?_) fun h4=> ?_
 refine gz8 ?_;exact ⟨k+1,⟨u,out,a2+1⟩,⟨by omega,hq.same uO⟩,uD,⟨rfl,rfl,trivial⟩,uK,zu (by dsimp only;first|rfl|(rw [AB];rfl))⟩;refine gz6 ?_;refine dq (za (hs:=[_,_,_,_,_,_]) zk ty9 rfl rfl (by decide) (by decide) rfl) ?_;refine de rfl (uCx 0 ca7 rfl rfl (zi (L:=[_,_,_,_,_,_]) uS uS uS) ?_)
 rintro _ _ ⟨y18,rfl,hy18,rfl⟩;refine gz1 ?_;refine de rfl (uCx 0 ztl rfl rfl (zc4 uS) ?_)
 rintro _ _ ⟨t20,a20,rfl,ht20,ha20,rfl⟩;refine dq (zI (cs:=[_,_,_]) zeY pl77 rfl) ?_;refine dq (za (hs:=[_]) zfl zeY rfl rfl (by decide) (by decide) rfl) ?_;refine de rfl (zO (i:=1) zfl zeY rfl rfl rfl rfl rfl (by simp [zax,zb,zay,zaO]) uSo fun v23=> ?_)
 refine gz8 ?_;exact ⟨k+1,⟨v23,out++[(⟨x,y18,t20⟩:PlayerS)],a20⟩,⟨by omega,hq.add (x:=(⟨x,y18,t20⟩:PlayerS)) ⟨by exact hy18,ht20⟩ (by dsimp only at ha20;omega)⟩,uD,⟨rfl,rfl,trivial⟩,uK,zu (by dsimp only;first|rfl|(rw [AB];rfl))⟩;have hnk:nm5.length<=k:=by omega
 obtain rfl:k=nm5.length:=by omega
 refine gz2 ?_;refine zL ?_;refine gz7 ?_;exact zae (zas 2 (i:=1) rfl rfl) rfl ⟨out,a2,rfl,⟨by omega,g2⟩,by omega,rfl⟩
theorem zaF [Tracks] {b:Nat} {l:List Int} {a:Nat} (ha:a<=800000):Con prog 107 [pAt b] [St b l a] (fun x M'=> ∃y:BoundS,x=zdR y/\M'=[St b l (a+4)]):=by
 refine zbY func107 rfl ntmps107 rfl rfl ?_;refine gz1 ?_;refine de rfl (zj zfO rfl fun b2=> ?_)
 refine gz3 ?_;refine dq (za (hs:=[_,_,_,_]) z6 ty3 rfl rfl (by decide) (by decide) rfl) ?_;refine de rfl (uCx 1 zaI rfl rfl (zd (L:=[_,_,_,_]) uS uS uS) ?_)
 rintro _ _ ⟨y5,rfl,hy5,rfl⟩;refine gz1 ?_;refine dq (za (hs:=[_,_,_]) z6 ty3 rfl rfl (by decide) (by decide) rfl) ?_;refine de rfl (uCx 0 zaI rfl rfl (zd (L:=[_,_,_]) uS uS uS) ?_)
 rintro _ _ ⟨y8,rfl,hy8,rfl⟩;refine gz1 ?_;refine dq (za (hs:=[_,_,_,_]) z6 ty3 rfl rfl (by decide) (by decide) rfl) ?_;refine de rfl (uCx 0 zaI rfl rfl (zd (L:=[_,_,_,_]) uS uS uS) ?_)
 rintro _ _ ⟨y11,rfl,hy11,rfl⟩;refine gz1 ?_;refine dq (za (hs:=[_,_,_,_]) z6 ty3 rfl rfl (by decide) (by decide) rfl) ?_;refine de rfl (uCx 0 zaI rfl rfl (zd (L:=[_,_,_,_]) uS uS uS) ?_)
 rintro _ _ ⟨y14,rfl,hy14,rfl⟩;refine dq (zI (cs:=[_,_,_,_]) zfO pl32 rfl) ?_;refine de0 (uY 1 ?_)
 refine gz2 ?_;exact ⟨_,_,zcz 2 (i:=1) rfl rfl,[_],_,⟨⟨_,_,_,_,_,rfl,zfO,.inr ⟨rfl,rfl,rfl⟩⟩,trivial⟩,Weak.refl _,⟨y5,y8,y11,y14⟩,rfl,rfl⟩
theorem zaX [Tracks] {b:Nat} {l:List Int} {a:Nat} (ha:a<=700000):Con prog 106 [pAt b] [St b l a] (fun x M'=> ∃k a',x=zft k/\GoodS4s k/\0<k.length/\a'<=a+25/\M'=[St b l a']):=by
 refine uOb func106 ntmps106 ?_;refine gz6 ?_;refine zf (zM 2) ?_;refine gz2 ?_;refine dq (za (hs:=[_,_,_,_]) zk ty9 rfl rfl (by decide) (by decide) rfl) ?_;refine gz1 ?_;refine de rfl (uCx 1 ca6 rfl rfl (zC uS uS uS uS) ?_)
 rintro _ _ ⟨y8,rfl,hy8,rfl⟩;refine dq (zaL (es:=sl4) (f:=HVal.str) (h:=y8.toNat) zk ty9 rfl rfl ⟨_,_,rfl,by omega⟩ uO (by simp [sl4];omega)) ?_;refine dq (zao (f:=HVal.str) (l:=(sl4.take y8.toNat)) zk rfl) ?_;refine gz2 ?_;have hlen:(sl4.take y8.toNat).length=y8.toNat:=by simp [sl4];omega
 refine gz1 ?_;refine uV2 [3,1,5,1,11,12] (fun (k:Nat) (q:GL SlotS)=>[(11,.int .i64 k),(3,.raw q.u)]) (fun (k:Nat) (q:GL SlotS)=>[St b l q.a,.arr q.u 2 (q.out.map za6)]) (fun (k:Nat) (q:GL SlotS)=>k<=(sl4.take y8.toNat).length/\(q.out.length=k/\GLok zjX k (a+1+5*k) q)) (fun (k:Nat) (q:GL SlotS)=>(sl4.take y8.toNat).length-k) (0) (⟨.slice none 0 0,[],a+1⟩) ?_ ?_ ?_ ?_;exact ⟨Ad _,rfl,⟨by simp,by simp,uD⟩⟩;exact ⟨rfl,rfl,trivial⟩;exact uP
 intro k q hinv
 obtain ⟨hk,⟨hn,hq⟩⟩:=hinv;obtain ⟨u,out,a2⟩:=q;obtain ⟨g1,g2,g3⟩:=id hq;dsimp only at g1 g2 g3;dsimp only at hn;refine gz4 ?_;refine uCo (fun h1=> ?_) fun h2=> ?_
 obtain ⟨x,hx⟩: ∃x,(sl4.take y8.toNat)[k]? =some x:=⟨_,Aa (by simpa using h1)⟩
 have hdx:=zg hx;refine gz5 ?_;refine dq (zD (f:=HVal.str) (l:=(sl4.take y8.toNat)) (j:=k) (a:=x) zk ty9 rfl rfl rfl hx) ?_;refine gz7 ?_;refine de rfl (uCx 0 ztl rfl rfl (zc4 uS) ?_)
 rintro _ _ ⟨t18,a18,rfl,ht18,ha18,rfl⟩;refine dq (zI (cs:=[_,_]) zdc zvX rfl) ?_;refine dq (za (hs:=[_]) zdF zdc rfl rfl (by decide) (by decide) rfl) ?_;refine de rfl (zO (i:=1) zdF zdc rfl rfl rfl rfl rfl (by simp [zax,zb,zay,zaO]) uSo fun v21=> ?_)
 refine gz8 ?_;exact ⟨k+1,⟨v21,out++[(⟨x,t18⟩:SlotS)],a18⟩,⟨by omega,by simp;omega,hq.add (x:=(⟨x,t18⟩:SlotS)) (by show t18.length<=4;omega) (by dsimp only at ha18;omega)⟩,uD,⟨rfl,rfl,trivial⟩,uK,zu (by dsimp only;first|rfl|(rw [AB];rfl))⟩;have hnk:(sl4.take y8.toNat).length<=k:=by simpa using h2
 obtain rfl:k=(sl4.take y8.toNat).length:=by omega
 refine gz2 ?_;refine zL ?_;refine gz7 ?_;exact zae (zas 2 (i:=1) rfl rfl) rfl ⟨out,a2,rfl,⟨by omega,g2⟩,by omega,by omega,rfl⟩
end
section
open Go.HL
set_option linter.unusedSimpArgs false
end
end Go.Proofs.YtahegdhbakjdoaaGreatDoor
namespace Go.HL
section
section
variable {P:Program} {e:Env} {dst:Option Tmp} {ty:TypeId} {pos:String} {af:Array Edge} {g:Option (Nat×Bool)} {M:List MObj} {K:HVal->List MObj->Prop}
end
end
end Go.HL
namespace Go.Proofs.YtahegdhbakjdoaaGreatDoor
set_option maxRecDepth 100000
set_option linter.unusedVariables false
set_option linter.unusedSimpArgs false
section
open Go.Proofs.Tryz
open Go.HL
theorem zfi [Tracks] {l:List MoveS} {v:Value} (hl:l.length<=1000000):Con prog 55 [.raw v] [.arr v 4 (l.map zcx)] (fun x M'=> ∃u,x= .raw u/\M'=[.arr u 4 ((zX none l).map zcx)]):=by
 refine uOb func55 ntmps55 ?_;refine gz6 ?_;refine de rfl (za7 (i:=0) zbB rfl rfl ?_)
 refine gz2 ?_;refine uCo (fun h1=> ?_) fun h2=> ?_
 refine gz5 ?_
 (refine z7 rfl ⟨_,rfl,?_⟩
  rw [zqh uO])
 refine gz3 ?_;refine zcZ (i:=0) rfl (fun h0 he=> ?_) (fun b off cap hv hcap=> ?_)
 exfalso;have:=congrArg List.length he;simp at this;subst this;simp at h2
 rw [Ah] at hv hcap;subst hv;refine gz4 ?_;refine uT1 [2,4,10,50] (fun k=>[(3,.int .i64 (k:Int))]) (fun k=>[.arr (.slice (some ⟨b,off,none⟩) l.length cap) 4 (l.map zcx)]) (fun k=>(1<=k/\k<=l.length)/\zX none (l.take k)=l.take k) (fun k=>l.length-k) (1) ?_ ?_;exact ⟨⟨by omega,by omega⟩,zqh uSo⟩;rintro k ⟨⟨hk1,hk⟩,hu⟩;refine gz4 ?_;refine de rfl (za7 (i:=0) zbB rfl rfl ?_)
 refine gz2 ?_;refine uCo (fun h3=> ?_) fun h4=> ?_
 obtain ⟨x,hx⟩: ∃x,l[k]? =some x:=⟨_,Aa uO⟩
 obtain ⟨y,hy⟩: ∃y,l[k-1]? =some y:=⟨_,Aa uO⟩
 refine gz4 ?_;refine zbx (fun M=>M=[.arr (.slice (some ⟨b,off,none⟩) l.length cap) 4 (l.map zcx)]) [3,8] mixed ?_;refine gz2 ?_;refine uB 2 rfl (zy (j:=k) zbB zz rfl rfl rfl uO) ?_;refine uM 3 rfl rfl (uW (zV (i:=0) (j:=k) zz rfl uO rfl hx rfl rfl rfl ⟨rfl,rfl⟩)) ?_;refine gz3 ?_;refine uB 7 rfl (zy (j:=k-1) zbB zz rfl rfl uO uO) ?_;refine uM 8 rfl rfl (uW (zV (i:=0) (j:=k-1) zz rfl uO rfl hy rfl rfl rfl ⟨rfl,rfl⟩)) ?_;refine uB 9 rfl (zrQ zz zw3 rfl rfl ⟨rfl,⟨_,_,_,_,ty3,rfl⟩,⟨rfl,⟨_,_,_,_,ty3,rfl⟩,⟨rfl,⟨_,_,_,_,ty9,rfl⟩,⟨rfl,⟨_,_,_,_,ty9,rfl⟩,trivial⟩⟩⟩⟩) ?_;refine gz1 ?_;refine uCo (fun h5=> ?_) fun h6=> ?_
 have hxy:x=y:=(zhh _ _).1 (by simpa using h5);obtain ⟨hC0,hU0⟩:=CmpA.start hx hy uO hxy hu;refine gz3 ?_;refine dq (zeT (l:=k) (h:=l.length) zbB zz rfl ⟨_,_,rfl,rfl⟩ rfl uO uO hcap) ?_;refine gz2 ?_;rw [zqb uO];refine gz5 ?_;refine uV2 [3,1,5,1,29,25] (fun (k2:Nat) (D:List MoveS)=>[(5,.int .i64 (k2:Int)),(3,.int .i64 ((zX none (l.take (k+k2))).length:Int))]) (fun (k2:Nat) (D:List MoveS)=>[.arr (.slice (some ⟨b,off,none⟩) l.length cap) 4 (D.map zcx)]) (fun (k2:Nat) (D:List MoveS)=>(1<=k2/\k+k2<=l.length)/\CmpA l (k+k2) D) (fun (k2:Nat) (D:List MoveS)=>l.length-k2) (1) (l) ?_ ?_ ?_ ?_;exact ⟨⟨by omega,by have:=zl hx;omega⟩,hC0⟩;exact ⟨rfl,zN (by rw [hU0]),trivial⟩;exact Ab _
 intro k2 D hinv
 obtain ⟨⟨hk2,hkk⟩,hD⟩:=hinv;have hlt0:=hD.lt;have hle0:=hD.len;refine gz4 ?_;refine dq (zem zbB rfl) ?_;refine gz2 ?_;refine uCo (fun h7=> ?_) fun h8=> ?_
 obtain ⟨x2,hx2⟩: ∃x,l[k+k2]? =some x:=⟨_,Aa uO⟩
 obtain ⟨y2,hy2⟩: ∃y,l[k+k2-1]? =some y:=⟨_,Aa uO⟩
 have hDx:D[k+k2]? =some x2:=by rw [hD.hi _ uO,hx2]
 have hDy:D[k+k2-1]? =some y2:=by rw [hD.hi _ uO,hy2]
 refine gz4 ?_;refine zbx (fun M=>M=[.arr (.slice (some ⟨b,off,none⟩) l.length cap) 4 (D.map zcx)]) [3,8] mixed ?_;refine gz2 ?_;refine uB 2 rfl (zy (j:=k2) zbB zz rfl rfl rfl uO) ?_;refine uM 3 rfl rfl (uW (zV (i:=0) (j:=(k+k2)) zz rfl uO rfl hDx rfl rfl rfl ⟨rfl,rfl⟩)) ?_;refine gz3 ?_;refine uB 7 rfl (zy (j:=k2-1) zbB zz rfl rfl uO uO) ?_;refine uM 8 rfl rfl (uW (zV (i:=0) (j:=(k+k2-1)) zz rfl uO rfl hDy rfl rfl rfl ⟨rfl,rfl⟩)) ?_;refine uB 9 rfl (zho zz zw3 rfl rfl ⟨rfl,⟨_,_,_,_,ty3,rfl⟩,⟨rfl,⟨_,_,_,_,ty3,rfl⟩,⟨rfl,⟨_,_,_,_,ty9,rfl⟩,⟨rfl,⟨_,_,_,_,ty9,rfl⟩,trivial⟩⟩⟩⟩) ?_;refine gz1 ?_;refine uCo (fun h9=> ?_) fun h10=> ?_
 refine gz5 ?_;refine dq (zy (j:=k2) zbB zz rfl rfl rfl uO) ?_;refine de rfl (zV (i:=0) (j:=(k+k2)) zz rfl uO rfl hDx rfl rfl rfl ?_)
 refine dq (zy (j:=(zX none (l.take (k+k2))).length) zbB zz rfl rfl rfl uO) ?_;refine de0 (zaT (i:=0) (j:=(zX none (l.take (k+k2))).length) (y:=D[(zX none (l.take (k+k2))).length]'uO) (y':=x2) zz rfl rfl rfl rfl (Aa _) rfl rfl rfl ?_)
 refine zeN ?_;have hxy:x2≠y2:=fun q=>by have q2:=(zhh _ _).2 q;simp_all
 obtain ⟨hC1,hU1⟩:=hD.more hx2 hy2 hxy;exact ⟨k2+1,_,⟨⟨by omega,by omega⟩,hC1⟩,uD,⟨rfl,zN (by rw [<-AZ,hU1];rfl),trivial⟩,uK,Ab _⟩;refine gz8 ?_;have hxy:x2=y2:=(zhh _ _).1 (by simpa using h10);obtain ⟨hC1,hU1⟩:=hD.same hx2 hy2 hxy;exact ⟨k2+1,D,⟨⟨by omega,by omega⟩,hC1⟩,uD,⟨rfl,zN (by rw [<-AZ,hU1]),trivial⟩,uK,Ab _⟩;have hkl:k+k2=l.length:=by omega
 refine gz2 ?_;refine zL ?_;refine gz5 ?_;refine dq (zeT (l:=(zX none (l.take (k+k2))).length) (h:=l.length) zbB zz rfl ⟨_,_,rfl,rfl⟩ rfl uO uO hcap) ?_;refine de0 (zeJ (i:=0) (m:=(zX none (l.take (k+k2))).length) ((zX none (l.take (k+k2))).length) zbB zz rfl rfl rfl (ziU uO hcap) rfl uO (Ae _) (by rw [Ah,hD.len];omega) ?_)
 refine gz4 ?_;refine dq (zgn (h:=(zX none (l.take (k+k2))).length) zbB zz rfl ⟨_,_,rfl,rfl⟩ uO) ?_;refine gz3 ?_
 (refine z7 rfl ⟨_,rfl,?_⟩
  have hlo:=hD.lo;rw [hkl,An] at hlo⊢;rw [<-BQ,hlo];rfl)
 refine gz8 ?_;have hxy:x≠y:=fun q=>by have q2:=(zhh _ _).2 q;simp_all
 exact ⟨k+1,⟨⟨by omega,by omega⟩,by rw [zic hx hy uO,if_neg hxy,hu,zaj hx]⟩,uD,⟨rfl,trivial⟩,uK,Ab _⟩;have hkl:k=l.length:=by omega
 rw [hkl,An] at hu;refine gz2 ?_;refine zt ?_;refine gz7 ?_
 (refine z7 rfl ⟨_,rfl,?_⟩
  rw [hu])
theorem zd3 [Tracks] {l:List HealthS} {fid:FuncId} {caps:List HVal} {p:HealthS->Bool} (hca:Callable prog fid) (hp: ∀x,ConP prog fid ([zbR x]++caps) (.bool (p x))) (hl:l.length<=1000000):ConP prog 262 [.slice 4 (l.map zbR),.fn (.func fid) [] caps] (.int .i64 (zab p l 0)):=by
 refine uOb func262 ntmps262 ?_;refine zan ?_;refine uT1 [4,2,8,11] (fun k=>[(8,.int .i64 k)]) (fun k=>[]) (fun k=>k<=l.length/\(zab p l 0=zab p (l.drop k) k)) (fun k=>l.length-k) (0) ?_ ?_;exact ⟨Ad _,rfl⟩;rintro k ⟨hk,hg⟩;refine gz4 ?_;refine uCo (fun h1=> ?_) fun h2=> ?_
 obtain ⟨x,hx⟩: ∃x,l[k]? =some x:=⟨_,Aa h1⟩
 have hdx:=zg hx;rw [hdx] at hg;refine zdS ?_;refine dq (zaw hca rfl rfl (WeakL.refl _) (hp _)) ?_;refine gz1 ?_;refine uCo (fun h3=> ?_) fun h4=> ?_
 refine gz5 ?_;refine uRp ?_
 (rw [hg];simp_all [zab])
 refine gz7 ?_;refine ⟨k+1,?_,?_,⟨rfl,trivial⟩,uK,Ab _⟩
 refine ⟨by omega,?_⟩
 rw [hg,zab,if_neg uSa];rfl
 dsimp only;omega
 have hnk:l.length<=k:=by omega
 obtain rfl:k=l.length:=by omega
 rw [zH (Ae _)] at hg;refine gz2 ?_;refine zt ?_;refine gz6 ?_;refine uRp ?_
 (rw [hg];rfl)
end
section
open Go.Proofs.Tryz
open Go.HL
theorem zgF [Tracks] {b:Nat} {l:List Int} {a:Nat} {lo hi:Int} (ha:a<=900000) (hlh:lo<=hi) (h0: -1000000000<=lo) (h1:hi<=1000000000):Con prog 118 [pAt b,.int .i64 lo,.int .i64 hi] [St b l a] (fun x M'=> ∃y:Int,x= .int .i64 y/\(-2000000000000<=y/\y<=2000000000000)/\M'=[St b l (a+2)]):=by
 refine uOb func118 ntmps118 ?_;refine gz6 ?_;refine de rfl (uCx 0 zdz rfl rfl (zB uS uS) ?_)
 rintro _ _ ⟨y8,rfl,rfl⟩;refine gz1 ?_;refine uCo (fun h1=> ?_) fun h2=> ?_
 refine gz8 ?_;refine dq (za (hs:=[_,_,_,_,_,_]) z6 ty3 rfl rfl (by decide) (by decide) rfl) ?_;refine de rfl (uCx 0 zaI rfl rfl (zd (L:=[_,_,_,_,_,_]) uS uS uS) ?_)
 rintro _ _ ⟨y17,rfl,hy17,rfl⟩;refine gz3 ?_;exact z7 rfl ⟨_,rfl,by simp at hy17;rcases hy17 with rfl|rfl|rfl|rfl|rfl|rfl<;>omega,rfl⟩;refine gz6 ?_;refine de rfl (uCx 0 ca6 rfl rfl (zC uS uS uS uS) ?_)
 rintro _ _ ⟨y21,rfl,hy21,rfl⟩;refine gz3 ?_;exact z7 rfl ⟨_,rfl,by omega,rfl⟩
theorem zdX [Tracks] {l:List HealthS} {fid:FuncId} {caps:List HVal} {p:HealthS->Bool} {v:Value} (hca:Callable prog fid) (hp: ∀x,ConP prog fid ([zbR x]++caps) (.bool (p x))) (hl:l.length<=1000000):Con prog 202 [.raw v,.fn (.func fid) [] caps] [.arr v 4 (l.map zbR)] (fun x M'=> ∃u,x= .raw u/\M'=[.arr u 4 ((l.filter (fun x=> !p x)).map zbR)]):=by
 refine uOb func202 ntmps202 ?_;refine gz6 ?_;refine de rfl (zlZ (hs':=[.slice 4 (l.map zbR),.fn (.func fid) [] caps]) zAi rfl ⟨.arr (i:=0) rfl,.weak (Weak.refl _),trivial⟩ (zd3 (p:=p) hca hp hl) rfl ?_)
 refine gz7 ?_;refine uCo (fun h1=> ?_) fun h2=> ?_
 ·refine gz5 ?_
  (refine z7 rfl ⟨_,rfl,?_⟩
   rw [zjg p l 0 uO h1]
   done)
 ·refine gz3 ?_;obtain ⟨i0,hi0,hil,⟨x0,hx0,hp0⟩,hb0⟩:=zhS p l 0 uO h2;rw [Int.zero_add] at hi0;obtain ⟨hD0,hn0⟩:=DelInv.start (p:=p) hil hx0 hp0 hb0;refine zcZ (i:=0) rfl (fun h0 he=> ?_) (fun b off cap hv hcap=> ?_)
  ·exfalso;have:=congrArg List.length he;simp at this;subst this;simp at hil
  rw [Ah] at hv hcap;subst hv;refine gz2 ?_;refine dq (zau (zbf rfl rfl (by rw [hi0];omega) (by rw [hi0];omega)) (congrArg _ (by rw [hi0]))) ?_;refine gz3 ?_;refine uV2 [5,3,16,20] (fun (j:Nat) (D:List HealthS)=>[(6,.int .i64 (j:Int)),(5,.int .i64 (((l.take j).filter (fun x=> !p x)).length:Int))]) (fun (j:Nat) (D:List HealthS)=>[.arr (.slice (some ⟨b,off,none⟩) l.length cap) 4 (D.map zbR)]) (fun (j:Nat) (D:List HealthS)=>DelInv p l j D) (fun (j:Nat) (D:List HealthS)=>l.length-j) (i0+1) (l) ?_ ?_ ?_ ?_
  ·exact hD0
  ·exact ⟨rfl,zN (by rw [hn0,hi0]),trivial⟩
  ·exact Ab _
  ·intro j D hD
   have hlt0:=hD.lt;have hle0:=hD.len;refine gz4 ?_;refine de rfl (za7 (i:=0) zgW rfl rfl ?_)
   refine gz2 ?_;refine uCo (fun h3=> ?_) fun h4=> ?_
   ·obtain ⟨x,hx⟩: ∃x,l[j]? =some x:=⟨_,Aa uO⟩
    refine gz7 ?_;refine dq (zy (j:=j) zgW zbE rfl rfl rfl uO) ?_;refine de rfl (zV (i:=0) (j:=j) zbE rfl rfl rfl (hD.get hx) rfl rfl rfl ?_)
    refine de rfl (zj zbE rfl fun b7=> ?_)
    refine de0 (zo zbE rfl rfl rfl rfl rfl ?_)
    refine gz1 ?_;refine zf (zp 7 rfl) ?_;refine gz3 ?_;refine dq (zaw hca rfl rfl (WeakL.refl _) (hp _)) ?_;refine gz2 ?_;refine uCo (fun h5=> ?_) fun h6=> ?_
    ·refine gz4 ?_;refine dq (zy (j:=((l.take j).filter (fun x=> !p x)).length) zgW zbE rfl rfl rfl (by have:=hD.lt;omega)) ?_;refine de0 (zaT (i:=0) (j:=((l.take j).filter (fun x=> !p x)).length) (y:=D[((l.take j).filter (fun x=> !p x)).length]'(by have:=hD.lt;have:=hD.len;omega)) (y':=x) zbE rfl rfl rfl rfl (Aa _) rfl rfl rfl ?_)
     refine gz3 ?_;refine dq (zbf rfl rfl uO (by have:=hD.lt;omega)) ?_;refine gz9 ?_;exact ⟨j+1,_,(hD.keep hx uSa).1,uD,⟨rfl,zN (by rw [(hD.keep hx uSa).2];rfl),trivial⟩,uK,Ab _⟩
    ·refine gz8 ?_;exact ⟨j+1,_,(hD.skip hx uSa).1,uD,⟨rfl,zN (by rw [(hD.skip hx uSa).2]),trivial⟩,uK,Ab _⟩
   ·obtain rfl:j=l.length:=by have:=hD.jle;omega
    have hend:=hD.done;refine gz2 ?_;refine zL ?_;refine gz5 ?_;refine dq (zeT (l:=((l.take l.length).filter (fun x=> !p x)).length) zgW zbE rfl ⟨_,_,rfl,rfl⟩ rfl uO uO hcap) ?_;refine de0 (zeJ (i:=0) (m:=((l.take l.length).filter (fun x=> !p x)).length) (((l.take l.length).filter (fun x=> !p x)).length) zgW zbE rfl rfl rfl (ziU uO hcap) rfl uO (Ae _) (by rw [Ah,hD.len];omega) ?_)
    refine gz4 ?_;refine dq (zgn (h:=((l.take l.length).filter (fun x=> !p x)).length) zgW zbE rfl ⟨_,_,rfl,rfl⟩ uO) ?_;refine gz3 ?_
    (refine z7 rfl ⟨_,rfl,?_⟩
     rw [An,<-BQ,hend];rfl)
theorem zeo [Tracks] {l:List StintS} {fid:FuncId} {caps:List HVal} {p:StintS->Bool} (hca:Callable prog fid) (hp: ∀x,ConP prog fid ([zcs x]++caps) (.bool (p x))) (hl:l.length<=1000000):ConP prog 301 [.slice 3 (l.map zcs),.fn (.func fid) [] caps] (.int .i64 (zab p l 0)):=by
 refine uOb func301 ntmps301 ?_;refine zan ?_;refine uT1 [4,2,8,11] (fun k=>[(8,.int .i64 k)]) (fun k=>[]) (fun k=>k<=l.length/\(zab p l 0=zab p (l.drop k) k)) (fun k=>l.length-k) (0) ?_ ?_;exact ⟨Ad _,rfl⟩;rintro k ⟨hk,hg⟩;refine gz4 ?_;refine uCo (fun h1=> ?_) fun h2=> ?_
 obtain ⟨x,hx⟩: ∃x,l[k]? =some x:=⟨_,Aa h1⟩
 have hdx:=zg hx;rw [hdx] at hg;refine zdS ?_;refine dq (zaw hca rfl rfl (WeakL.refl _) (hp _)) ?_;refine gz1 ?_;refine uCo (fun h3=> ?_) fun h4=> ?_
 refine gz5 ?_;refine uRp ?_
 (rw [hg];simp_all [zab])
 refine gz7 ?_;refine ⟨k+1,?_,?_,⟨rfl,trivial⟩,uK,Ab _⟩
 refine ⟨by omega,?_⟩
 rw [hg,zab,if_neg uSa];rfl
 dsimp only;omega
 have hnk:l.length<=k:=by omega
 obtain rfl:k=l.length:=by omega
 rw [zH (Ae _)] at hg;refine gz2 ?_;refine zt ?_;refine gz6 ?_;refine uRp ?_
 (rw [hg];rfl)
theorem zeb [Tracks] {l:List StintS} {fid:FuncId} {caps:List HVal} {p:StintS->Bool} {v:Value} (hca:Callable prog fid) (hp: ∀x,ConP prog fid ([zcs x]++caps) (.bool (p x))) (hl:l.length<=1000000):Con prog 248 [.raw v,.fn (.func fid) [] caps] [.arr v 3 (l.map zcs)] (fun x M'=> ∃u,x= .raw u/\M'=[.arr u 3 ((l.filter (fun x=> !p x)).map zcs)]):=by
 refine uOb func248 ntmps248 ?_;refine gz6 ?_;refine de rfl (zlZ (hs':=[.slice 3 (l.map zcs),.fn (.func fid) [] caps]) zAA rfl ⟨.arr (i:=0) rfl,.weak (Weak.refl _),trivial⟩ (zeo (p:=p) hca hp hl) rfl ?_)
 refine gz7 ?_;refine uCo (fun h1=> ?_) fun h2=> ?_
 ·refine gz5 ?_
  (refine z7 rfl ⟨_,rfl,?_⟩
   rw [zjg p l 0 uO h1]
   done)
 ·refine gz3 ?_;obtain ⟨i0,hi0,hil,⟨x0,hx0,hp0⟩,hb0⟩:=zhS p l 0 uO h2;rw [Int.zero_add] at hi0;obtain ⟨hD0,hn0⟩:=DelInv.start (p:=p) hil hx0 hp0 hb0;refine zcZ (i:=0) rfl (fun h0 he=> ?_) (fun b off cap hv hcap=> ?_)
  ·exfalso;have:=congrArg List.length he;simp at this;subst this;simp at hil
  rw [Ah] at hv hcap;subst hv;refine gz2 ?_;refine dq (zau (zbf rfl rfl (by rw [hi0];omega) (by rw [hi0];omega)) (congrArg _ (by rw [hi0]))) ?_;refine gz3 ?_;refine uV2 [5,3,16,20] (fun (j:Nat) (D:List StintS)=>[(6,.int .i64 (j:Int)),(5,.int .i64 (((l.take j).filter (fun x=> !p x)).length:Int))]) (fun (j:Nat) (D:List StintS)=>[.arr (.slice (some ⟨b,off,none⟩) l.length cap) 3 (D.map zcs)]) (fun (j:Nat) (D:List StintS)=>DelInv p l j D) (fun (j:Nat) (D:List StintS)=>l.length-j) (i0+1) (l) ?_ ?_ ?_ ?_
  ·exact hD0
  ·exact ⟨rfl,zN (by rw [hn0,hi0]),trivial⟩
  ·exact Ab _
  ·intro j D hD
   have hlt0:=hD.lt;have hle0:=hD.len;refine gz4 ?_;refine de rfl (za7 (i:=0) zfm rfl rfl ?_)
   refine gz2 ?_;refine uCo (fun h3=> ?_) fun h4=> ?_
   ·obtain ⟨x,hx⟩: ∃x,l[j]? =some x:=⟨_,Aa uO⟩
    refine gz7 ?_;refine dq (zy (j:=j) zfm zbP rfl rfl rfl uO) ?_;refine de rfl (zV (i:=0) (j:=j) zbP rfl rfl rfl (hD.get hx) rfl rfl rfl ?_)
    refine de rfl (zj zbP rfl fun b7=> ?_)
    refine de0 (zo zbP rfl rfl rfl rfl rfl ?_)
    refine gz1 ?_;refine zf (zp 7 rfl) ?_;refine gz3 ?_;refine dq (zaw hca rfl rfl (WeakL.refl _) (hp _)) ?_;refine gz2 ?_;refine uCo (fun h5=> ?_) fun h6=> ?_
    ·refine gz4 ?_;refine dq (zy (j:=((l.take j).filter (fun x=> !p x)).length) zfm zbP rfl rfl rfl (by have:=hD.lt;omega)) ?_;refine de0 (zaT (i:=0) (j:=((l.take j).filter (fun x=> !p x)).length) (y:=D[((l.take j).filter (fun x=> !p x)).length]'(by have:=hD.lt;have:=hD.len;omega)) (y':=x) zbP rfl rfl rfl rfl (Aa _) rfl rfl rfl ?_)
     refine gz3 ?_;refine dq (zbf rfl rfl uO (by have:=hD.lt;omega)) ?_;refine gz9 ?_;exact ⟨j+1,_,(hD.keep hx uSa).1,uD,⟨rfl,zN (by rw [(hD.keep hx uSa).2];rfl),trivial⟩,uK,Ab _⟩
    ·refine gz8 ?_;exact ⟨j+1,_,(hD.skip hx uSa).1,uD,⟨rfl,zN (by rw [(hD.skip hx uSa).2]),trivial⟩,uK,Ab _⟩
   ·obtain rfl:j=l.length:=by have:=hD.jle;omega
    have hend:=hD.done;refine gz2 ?_;refine zL ?_;refine gz5 ?_;refine dq (zeT (l:=((l.take l.length).filter (fun x=> !p x)).length) zfm zbP rfl ⟨_,_,rfl,rfl⟩ rfl uO uO hcap) ?_;refine de0 (zeJ (i:=0) (m:=((l.take l.length).filter (fun x=> !p x)).length) (((l.take l.length).filter (fun x=> !p x)).length) zfm zbP rfl rfl rfl (ziU uO hcap) rfl uO (Ae _) (by rw [Ah,hD.len];omega) ?_)
    refine gz4 ?_;refine dq (zgn (h:=((l.take l.length).filter (fun x=> !p x)).length) zfm zbP rfl ⟨_,_,rfl,rfl⟩ uO) ?_;refine gz3 ?_
    (refine z7 rfl ⟨_,rfl,?_⟩
     rw [An,<-BQ,hend];rfl)
theorem zdH [Tracks] {x:HealthS}:ConP prog 120 [zbR x] (.str x.Player):=by
 refine uOb func120 ntmps120 ?_;refine zan ?_;refine zw rfl ?_
 rfl
theorem zlP [Tracks] {L:List PlayerS} {x:HealthS} (hL:L.length<=1000000):ConP prog 203 [zbR x,.vptr [zaA L] 0,.vptr [.fn (.func 120) [] []] 0] (.bool (ofB L x.Player)):=by
 refine uOb func203 ntmps203 ?_;refine gz4 ?_;refine uDr mixed ?_;refine gz3 ?_;refine uB 3 rfl (zaw zwx rfl rfl (WeakL.refl _) (zdH (x:=x))) ?_;refine uB 4 rfl (uCl ztu rfl (zcK (l:=L) (s:=x.Player) hL)) ?_;refine gz4 ?_;refine uGy 9 rfl rfl (fun hc=>zaw zwx rfl rfl (WeakL.refl _) (zdH (x:=x))) ?_;refine gz5 ?_;refine zw rfl ?_;refine congrArg _ ?_;unfold ofB
 cases decide (zab (fun x_1:PlayerS=>x_1.Key==x.Player) L 0<0)
 rfl
 rfl
theorem znn [Tracks] {L:List PlayerS} {l:List HealthS} {v:Value} (hL:L.length<=1000000) (hl:l.length<=1000000):Con prog 119 [zaA L,.raw v,.fn (.func 120) [] []] [.arr v 4 (l.map zbR)] (fun x M'=> ∃u,x= .raw u/\M'=[.arr u 4 ((l.filter fun x=> !(ofB L x.Player)).map zbR)]):=by
 refine uOb func119 ntmps119 ?_;refine gz8 ?_;refine de rfl (uCx 0 zzO rfl rfl (zdX (l:=l) (p:=fun x=>ofB L x.Player) zzP (fun _=>zlP hL) hl) ?_)
 rintro _ _ ⟨u9,rfl,rfl⟩;refine gz3 ?_;exact z7 rfl ⟨u9,rfl,rfl⟩
theorem zdI [Tracks] {x:StintS}:ConP prog 195 [zcs x] (.str x.Player):=by
 refine uOb func195 ntmps195 ?_;refine zan ?_;refine zw rfl ?_
 rfl
theorem zmZ [Tracks] {L:List PlayerS} {x:StintS} (hL:L.length<=1000000):ConP prog 249 [zcs x,.vptr [zaA L] 0,.vptr [.fn (.func 195) [] []] 0] (.bool (ofB L x.Player)):=by
 refine uOb func249 ntmps249 ?_;refine gz4 ?_;refine uDr mixed ?_;refine gz3 ?_;refine uB 3 rfl (zaw zwK rfl rfl (WeakL.refl _) (zdI (x:=x))) ?_;refine uB 4 rfl (uCl ztu rfl (zcK (l:=L) (s:=x.Player) hL)) ?_;refine gz4 ?_;refine uGy 9 rfl rfl (fun hc=>zaw zwK rfl rfl (WeakL.refl _) (zdI (x:=x))) ?_;refine gz5 ?_;refine zw rfl ?_;refine congrArg _ ?_;unfold ofB
 cases decide (zab (fun x_1:PlayerS=>x_1.Key==x.Player) L 0<0)
 rfl
 rfl
theorem znR [Tracks] {L:List PlayerS} {l:List StintS} {v:Value} (hL:L.length<=1000000) (hl:l.length<=1000000):Con prog 193 [zaA L,.raw v,.fn (.func 195) [] []] [.arr v 3 (l.map zcs)] (fun x M'=> ∃u,x= .raw u/\M'=[.arr u 3 ((l.filter fun x=> !(ofB L x.Player)).map zcs)]):=by
 refine uOb func193 ntmps193 ?_;refine gz8 ?_;refine de rfl (uCx 0 zAg rfl rfl (zeb (l:=l) (p:=fun x=>ofB L x.Player) zAh (fun _=>zmZ hL) hl) ?_)
 rintro _ _ ⟨u9,rfl,rfl⟩;refine gz3 ?_;exact z7 rfl ⟨u9,rfl,rfl⟩
theorem zg6 [Tracks] {b:Nat} {l:List Int} {a:Nat} {L:List PlayerS} (ha:a<=700000) (hL:L.length<=1000000):Con prog 56 [pAt b,zaA L] [St b l a] (fun x M'=> ∃k a',x=zbo k/\GoodHes k/\a'<=a+150/\M'=[St b l a']):=by
 refine uOb func56 ntmps56 ?_;refine gz6 ?_;refine zf (zM 4) ?_;refine gz2 ?_;refine dq (za (hs:=[_,_,_,_,_]) zk ty9 rfl rfl (by decide) (by decide) rfl) ?_;refine dq (zao (f:=HVal.str) (l:=nm5) zk rfl) ?_;refine gz3 ?_;refine uV2 [5,1,7,3,12,47] (fun (k:Nat) (q:GL HealthS)=>[(12,.int .i64 k),(5,.raw q.u)]) (fun (k:Nat) (q:GL HealthS)=>[St b l q.a,.arr q.u 4 (q.out.map zbR)]) (fun (k:Nat) (q:GL HealthS)=>k<=nm5.length/\(GLok zq0 (2*k) (a+24*k) q)) (fun (k:Nat) (q:GL HealthS)=>nm5.length-k) (0) (⟨.slice none 0 0,[],a⟩) ?_ ?_ ?_ ?_;exact ⟨Ad _,⟨by simp,by simp,uD⟩⟩;exact ⟨rfl,rfl,trivial⟩;exact uP
 intro k q hinv
 obtain ⟨hk,hq⟩:=hinv;have hlen:nm5.length=5:=rfl;obtain ⟨u,out,a2⟩:=q;obtain ⟨g1,g2,g3⟩:=id hq;dsimp only at g1 g2 g3;refine gz4 ?_;refine uCo (fun h1=> ?_) fun h2=> ?_
 obtain ⟨x,hx⟩: ∃x,nm5[k]? =some x:=⟨_,Aa h1⟩
 have hdx:=zg hx;refine gz5 ?_;refine dq (zD (f:=HVal.str) (l:=nm5) (j:=k) (a:=x) zk ty9 rfl rfl rfl hx) ?_;refine gz5 ?_;refine de rfl (uCx 0 ca6 rfl rfl (zC uS uS uS uS) ?_)
 rintro _ _ ⟨y17,rfl,hy17,rfl⟩;refine gz4 ?_;refine de rfl (uCx 0 ca6 rfl rfl (zC uS uS uS uS) ?_)
 rintro _ _ ⟨y19,rfl,hy19,rfl⟩;refine gz3 ?_;refine uV3 [5,1,8,2,20,38] (fun (n:Nat) (wk:Int) (q2:GL HealthS)=>[(20,.int .i64 (n:Int)),(8,.int .i64 wk),(5,.raw q2.u)]) (fun (n:Nat) (wk:Int) (q2:GL HealthS)=>[St b l q2.a,.arr q2.u 4 (q2.out.map zbR)]) (fun (n:Nat) (wk:Int) (q2:GL HealthS)=>(n:Int)<=y19/\(1<=wk/\wk<=3+4*n)/\GLok zq0 (2*k+n) (a+24*k+2+11*n) q2) (fun (n:Nat) (wk:Int) (q2:GL HealthS)=>y19.toNat-n) (0) (y17) (⟨u,out,a2+2⟩) ?_ ?_ ?_ ?_;exact ⟨by omega,by omega,⟨uD,g2,uD⟩⟩;exact ⟨rfl,rfl,rfl,trivial⟩;exact uP
 intro n wk q2 hinv
 obtain ⟨hn,hw,hq2⟩:=hinv;obtain ⟨u,out,a2⟩:=q2;obtain ⟨g1,g2,g3⟩:=id hq2;dsimp only at g1 g2 g3;refine gz4 ?_;refine uCo (fun h3=> ?_) fun h4=> ?_
 refine gz9 ?_;refine de rfl (uCx 0 ca6 rfl rfl (zC uS uS uS uS) ?_)
 rintro _ _ ⟨y26,rfl,hy26,rfl⟩;refine gz2 ?_;refine dq (za (hs:=[_,_]) z6 ty3 rfl rfl (by decide) (by decide) rfl) ?_;refine de rfl (uCx 0 zaI rfl rfl (zd (L:=[_,_]) uS uS uS) ?_)
 rintro _ _ ⟨y30,rfl,hy30,rfl⟩;refine dq (zI (cs:=[_,_,_,_]) zbE zAV rfl) ?_;refine de rfl (zj zbE rfl fun b9=> ?_)
 refine de0 (uY 0 ?_)
 refine gz1 ?_;refine zbx (fun M=> ∃i:Nat,M[i]? =some (.cells b9 (zb (zbR (⟨x,wk,wk+y26,y30⟩:HealthS))))) [1] mixed ?_;refine gz1 ?_;refine uM 1 rfl ⟨0,rfl⟩ (fun M hM=>by obtain ⟨i,hi⟩:=hM;exact z8 (i:=i) (h:= .int .i64 (wk+y26)) ty3 rfl hi (.inl ⟨rfl,rfl⟩) ⟨rfl,rfl⟩) ?_;refine gz1 ?_;refine uF 3 ?_;refine zq rfl (uCx 1 ca6 rfl rfl (zC uS uS uS uS) ?_)
 rintro _ _ ⟨y35,rfl,hy35,rfl⟩;refine ⟨uE,?_⟩
 refine gz3 ?_;refine uVj [37,16] (fun (q4:HealthS×Nat)=>[]) (fun (q4:HealthS×Nat)=>[St b l q4.2,.arr u 4 (out.map zbR),.cells b9 (zb (zbR q4.1))]) (fun (q4:HealthS×Nat)=>zq0 q4.1/\q4.2<=a2+11) ?_ ?_
 skip
 refine gz2 ?_;refine de rfl (uCx 0 zdz rfl rfl (zB uS uS) ?_)
 rintro _ _ ⟨y38,rfl,rfl⟩;refine gz1 ?_;refine uCo (fun h5=> ?_) fun h6=> ?_
 refine gz3 ?_;refine dq (za (hs:=[_,_]) zk ty9 rfl rfl (by decide) (by decide) rfl) ?_;refine de rfl (uCx 0 ca7 rfl rfl (zi (L:=[_,_]) uS uS uS) ?_)
 rintro _ _ ⟨y42,rfl,hy42,rfl⟩;refine gz1 ?_;refine de rfl (uCx 0 zkG rfl rfl (zgF uS uS uS uS) ?_)
 rintro _ _ ⟨y44,rfl,hy44,rfl⟩;refine gz1 ?_;refine de rfl (uCx 0 zkG rfl rfl (zgF uS uS uS uS) ?_)
 rintro _ _ ⟨y46,rfl,hy46,rfl⟩;refine gz1 ?_;refine de rfl (uCx 0 zkG rfl rfl (zgF uS uS uS uS) ?_)
 rintro _ _ ⟨y48,rfl,hy48,rfl⟩;refine gz1 ?_;refine de0 (uY 1 ?_)
 refine gz1 ?_;refine de0 (uY 1 ?_)
 refine gz1 ?_;refine de0 (uY 1 ?_)
 refine gz1 ?_;refine de0 (uY 1 ?_)
 refine gz1 ?_;exact ⟨((⟨y42,y44,y46,y48⟩:HealthS),a2+11),⟨⟨uD,uD⟩,uD⟩,trivial,uK,uP⟩;refine gz1 ?_;exact ⟨((⟨x,wk,wk+y26,y30⟩:HealthS),a2+4),⟨⟨uD,uD⟩,uD⟩,trivial,uK,uP⟩
 intro q4 hq4
 obtain ⟨x5,a5⟩:=q4;obtain ⟨hx5,ha5⟩:=hq4;dsimp only at hx5 ha5;refine zf (zcz 9 (i:=2) rfl rfl) ?_;refine gz3 ?_;refine dq (za (hs:=[_]) zgW zbE rfl rfl (by decide) (by decide) rfl) ?_;refine de rfl (zO (i:=1) zgW zbE rfl rfl rfl rfl rfl (by simp [zax,zb,zay,zaO]) uSo fun v56=> ?_)
 refine gz8 ?_;exact ⟨n+1,wk+y26+y35,⟨v56,out++[x5],a5⟩,⟨by omega,⟨by omega,by omega⟩,hq2.add (x:=x5) hx5 uO⟩,uD,⟨rfl,rfl,rfl,trivial⟩,uK,uP⟩;refine gz2 ?_;refine zcF ?_;refine gz7 ?_;exact ⟨k+1,⟨u,out,a2⟩,⟨by omega,hq2.mono uO uO⟩,uD,⟨rfl,rfl,trivial⟩,uK,uP⟩;have hnk:nm5.length<=k:=by omega
 obtain rfl:k=nm5.length:=by omega
 refine gz2 ?_;refine zL ?_;refine gz5 ?_;refine de rfl (uCx 1 zy1 rfl rfl (znn (L:=L) (l:=out) hL uO) ?_)
 rintro _ _ ⟨u61,rfl,rfl⟩;refine gz3 ?_;exact zae (zas 4 (i:=0) rfl rfl) rfl ⟨_,a2,rfl,GoodHes.filter uO g2,by omega,rfl⟩
theorem zhJ [Tracks] {b:Nat} {l:List Int} {a:Nat} (ha:a<=700000):Con prog 194 [pAt b] [St b l a] (fun x M'=> ∃(u:Value) (k:List StintS) (a':Nat),x= .raw u/\k.length<=10/\a'<=a+100/\M'=[.arr u 3 (k.map zcs),St b l a']):=by
 refine uOb func194 ntmps194 ?_;refine gz6 ?_;refine zf (zM 3) ?_;refine gz2 ?_;refine dq (za (hs:=[_,_,_,_,_]) zk ty9 rfl rfl (by decide) (by decide) rfl) ?_;refine dq (zao (f:=HVal.str) (l:=nm5) zk rfl) ?_;refine gz3 ?_;refine uV2 [3,1,5,3,10,40] (fun (k:Nat) (q:GL StintS)=>[(10,.int .i64 k),(3,.raw q.u)]) (fun (k:Nat) (q:GL StintS)=>[St b l q.a,.arr q.u 3 (q.out.map zcs)]) (fun (k:Nat) (q:GL StintS)=>k<=nm5.length/\(GLok (fun _=>True) (2*k) (a+20*k) q)) (fun (k:Nat) (q:GL StintS)=>nm5.length-k) (0) (⟨.slice none 0 0,[],a⟩) ?_ ?_ ?_ ?_
 ·exact ⟨Ad _,⟨by simp,by simp,uD⟩⟩
 ·exact ⟨rfl,rfl,trivial⟩
 ·exact uP
 ·intro k q hinv
  obtain ⟨hk,hq⟩:=hinv;have hlen:nm5.length=5:=rfl;obtain ⟨u,out,a2⟩:=q;obtain ⟨g1,g2,g3⟩:=id hq;dsimp only at g1 g2 g3;refine gz4 ?_;refine uCo (fun h1=> ?_) fun h2=> ?_
  ·obtain ⟨x,hx⟩: ∃x,nm5[k]? =some x:=⟨_,Aa h1⟩
   have hdx:=zg hx;refine gz5 ?_;refine dq (zD (f:=HVal.str) (l:=nm5) (j:=k) (a:=x) zk ty9 rfl rfl rfl hx) ?_;refine gz5 ?_;refine de rfl (uCx 0 ca6 rfl rfl (zC uS uS uS uS) ?_)
   rintro _ _ ⟨y15,rfl,hy15,rfl⟩;refine gz4 ?_;refine de rfl (uCx 0 ca6 rfl rfl (zC uS uS uS uS) ?_)
   rintro _ _ ⟨y17,rfl,hy17,rfl⟩;refine gz3 ?_;refine uV3 [3,1,6,2,18,31] (fun (n:Nat) (wk:Int) (q2:GL StintS)=>[(18,.int .i64 (n:Int)),(6,.int .i64 wk),(3,.raw q2.u)]) (fun (n:Nat) (wk:Int) (q2:GL StintS)=>[St b l q2.a,.arr q2.u 3 (q2.out.map zcs)]) (fun (n:Nat) (wk:Int) (q2:GL StintS)=>(n:Int)<=y17/\(1<=wk/\wk<=2+3*n)/\GLok (fun _=>True) (2*k+n) (a+20*k+2+9*n) q2) (fun (n:Nat) (wk:Int) (q2:GL StintS)=>y17.toNat-n) (0) (y15) (⟨u,out,a2+2⟩) ?_ ?_ ?_ ?_
   ·exact ⟨by omega,by omega,⟨uD,g2,uD⟩⟩
   ·exact ⟨rfl,rfl,rfl,trivial⟩
   ·exact uP
   ·intro n wk q2 hinv
    obtain ⟨hn,hw,hq2⟩:=hinv;obtain ⟨u,out,a2⟩:=q2;obtain ⟨g1,g2,g3⟩:=id hq2;dsimp only at g1 g2 g3;refine gz4 ?_;refine uCo (fun h3=> ?_) fun h4=> ?_
    ·refine gz7 ?_;refine dq (za (hs:=[_,_,_,_]) zk ty9 rfl rfl (by decide) (by decide) rfl) ?_;refine de rfl (uCx 0 ca7 rfl rfl (zi (L:=[_,_,_,_]) uS uS uS) ?_)
     rintro _ _ ⟨y23,rfl,hy23,rfl⟩;refine gz1 ?_;refine dq (zI (cs:=[_,_,_]) zbP zA0 rfl) ?_;refine de rfl (zj zbP rfl fun b7=> ?_)
     refine de0 (uY 0 ?_)
     refine gz1 ?_;refine uVj [26,14] (fun (q4:StintS×Nat)=>[]) (fun (q4:StintS×Nat)=>[St b l q4.2,.arr u 3 (out.map zcs),.cells b7 (zb (zcs q4.1))]) (fun (q4:StintS×Nat)=>q4.2<=a2+8) ?_ ?_
     ·skip
      refine gz2 ?_;refine de rfl (uCx 1 zdz rfl rfl (zB uS uS) ?_)
      rintro _ _ ⟨y27,rfl,rfl⟩;refine gz1 ?_;refine uCo (fun h5=> ?_) fun h6=> ?_
      ·refine gz3 ?_;refine dq (za (hs:=[_,_,_]) zk ty9 rfl rfl (by decide) (by decide) rfl) ?_;refine de rfl (uCx 0 ca7 rfl rfl (zi (L:=[_,_,_]) uS uS uS) ?_)
       rintro _ _ ⟨y31,rfl,hy31,rfl⟩;refine gz1 ?_;refine dq (za (hs:=[_,_]) zk ty9 rfl rfl (by decide) (by decide) rfl) ?_;refine de rfl (uCx 0 ca7 rfl rfl (zi (L:=[_,_]) uS uS uS) ?_)
       rintro _ _ ⟨y34,rfl,hy34,rfl⟩;refine gz1 ?_;refine de rfl (uCx 0 zkG rfl rfl (zgF uS uS uS uS) ?_)
       rintro _ _ ⟨y36,rfl,hy36,rfl⟩;refine gz1 ?_;refine de0 (uY 1 ?_)
       refine gz1 ?_;refine de0 (uY 1 ?_)
       refine gz1 ?_;refine de0 (uY 1 ?_)
       refine gz1 ?_;exact ⟨((⟨y31,y34,y36⟩:StintS),a2+6),uD,trivial,uK,uP⟩
      ·refine gz1 ?_;exact ⟨((⟨x,y23,wk⟩:StintS),a2+2),uD,trivial,uK,uP⟩
     ·intro q4 ha5
      obtain ⟨x5,a5⟩:=q4;dsimp only at ha5;refine zf (zcz 7 (i:=2) rfl rfl) ?_;refine gz3 ?_;refine dq (za (hs:=[_]) zfm zbP rfl rfl (by decide) (by decide) rfl) ?_;refine de rfl (zO (i:=1) zfm zbP rfl rfl rfl rfl rfl (by simp [zax,zb,zay,zaO]) uSo fun v43=> ?_)
      refine gz5 ?_;refine de rfl (uCx 0 ca6 rfl rfl (zC uS uS uS uS) ?_)
      rintro _ _ ⟨y46,rfl,hy46,rfl⟩;refine gz9 ?_;exact ⟨n+1,wk+y46,⟨v43,out++[x5],a5+1⟩,⟨by omega,⟨by omega,by omega⟩,hq2.add (x:=x5) trivial uO⟩,uD,⟨rfl,rfl,rfl,trivial⟩,uK,uP⟩
    ·refine gz2 ?_;refine zcF ?_;refine gz7 ?_;exact ⟨k+1,⟨u,out,a2⟩,⟨by omega,hq2.mono uO uO⟩,uD,⟨rfl,rfl,trivial⟩,uK,uP⟩
  ·have hnk:nm5.length<=k:=by omega
   obtain rfl:k=nm5.length:=by omega
   refine gz2 ?_;refine zL ?_;refine gz7 ?_;exact zae (Ghost.perm (List.Perm.swap _ _ _)) rfl ⟨_,out,a2,rfl,by omega,by omega,rfl⟩
theorem zg8 [Tracks] {b:Nat} {l:List Int} {a:Nat} {L:List PlayerS} (ha:a<=700000) (hL:L.length<=1000000):Con prog 110 [pAt b,zaA L] [St b l a] (fun x M'=> ∃k a',x=zcy k/\k.length<=10/\a'<=a+100/\M'=[St b l a']):=by
 refine uOb func110 ntmps110 ?_;refine gz6 ?_;refine de rfl (uCx 0 zzM rfl rfl (zhJ (b:=b) (l:=l) (a:=a) ha) ?_)
 rintro _ _ ⟨u7,k7,a7,rfl,hk7,ha7,rfl⟩;refine de rfl (uCx 0 zzL rfl rfl (znR (L:=L) (l:=k7) hL uO) ?_)
 rintro _ _ ⟨u8,rfl,rfl⟩;refine gz3 ?_;exact zae (zas 4 (i:=0) rfl rfl) rfl ⟨_,a7,rfl,Ay (AU _ _) hk7,by omega,rfl⟩
end
section
open Go.Proofs.Tryz
open Go.HL
theorem zlH [Tracks] {n d:Int} (hn: -1000000<=n/\n<=1000000) (hd:1<=d/\d<=1000000):ConP prog 247 [.int .i64 n,.int .i64 d] (.agg [.int .i64 (n.tdiv (zgi n d)),.int .i64 (d.tdiv (zgi n d))]):=by
 have hg0:=zxL (n:=n) hd.1;refine zbY func247 rfl ntmps247 rfl rfl ?_;refine gz1 ?_;refine de rfl (zj za9 rfl fun b4=> ?_)
 refine gz4 ?_;refine dq (uCl zw0 rfl (zgA (n:=n) (d:=d) uO uO)) ?_;refine gz2 ?_;refine uDr mixed ?_;refine gz2 ?_;refine uB 2 rfl (zfY (n:=zgi n d) rfl rfl uO uO uO) ?_;refine gz2 ?_;refine uB 5 rfl (zfY (n:=zgi n d) rfl rfl uO uO uO) ?_;refine uB 6 rfl (zI (cs:=[_,_]) za9 zkW rfl) ?_;refine uF 7 ?_;refine zK (uY 0 ?_)
 refine ⟨uE,?_⟩
 refine gz2 ?_;exact ⟨_,_,zp 4 rfl,[_],_,⟨⟨_,_,_,_,_,rfl,za9,.inr ⟨rfl,rfl,rfl⟩⟩,trivial⟩,Weak.refl _,rfl,rfl⟩
theorem zix [Tracks] {n:Int} (hn: -1000000<=n/\n<=1000000):ConP prog 191 [.int .i64 n] (.agg [.int .i64 (n.tdiv (zgi n 100)),.int .i64 ((100:Int).tdiv (zgi n 100))]):=by
 refine zbY func191 rfl ntmps191 rfl rfl ?_;refine gz1 ?_;refine de rfl (zj za9 rfl fun b2=> ?_)
 refine gz3 ?_;refine dq (uCl zAf rfl (zlH (n:=n) (d:=100) hn uO)) ?_;refine de0 (uY 0 ?_)
 refine gz2 ?_;exact ⟨_,_,zp 2 rfl,[_],_,⟨⟨_,_,_,_,_,rfl,za9,.inr ⟨rfl,rfl,rfl⟩⟩,trivial⟩,Weak.refl _,rfl,rfl⟩
theorem zoV [Tracks] {b:Nat} {l:List Int} {a:Nat} (ha:a<=700000):Con prog 106 [pAt b] [St b l a] (fun x M'=> ∃(u:Value) (k:List SlotS) (a':Nat),x= .raw u/\GoodS4s k/\0<k.length/\a'<=a+25/\M'=[.arr u 2 (k.map za6),St b l a']):=by
 refine uOb func106 ntmps106 ?_;refine gz6 ?_;refine zf (zM 2) ?_;refine gz2 ?_;refine dq (za (hs:=[_,_,_,_]) zk ty9 rfl rfl (by decide) (by decide) rfl) ?_;refine gz1 ?_;refine de rfl (uCx 1 ca6 rfl rfl (zC uS uS uS uS) ?_)
 rintro _ _ ⟨y8,rfl,hy8,rfl⟩;refine dq (zaL (es:=sl4) (f:=HVal.str) (h:=y8.toNat) zk ty9 rfl rfl ⟨_,_,rfl,by omega⟩ uO (by simp [sl4];omega)) ?_;refine dq (zao (f:=HVal.str) (l:=(sl4.take y8.toNat)) zk rfl) ?_;refine gz2 ?_;have hlen:(sl4.take y8.toNat).length=y8.toNat:=by simp [sl4];omega
 refine gz1 ?_;refine uV2 [3,1,5,1,11,12] (fun (k:Nat) (q:GL SlotS)=>[(11,.int .i64 k),(3,.raw q.u)]) (fun (k:Nat) (q:GL SlotS)=>[St b l q.a,.arr q.u 2 (q.out.map za6)]) (fun (k:Nat) (q:GL SlotS)=>k<=(sl4.take y8.toNat).length/\(q.out.length=k/\GLok zjX k (a+1+5*k) q)) (fun (k:Nat) (q:GL SlotS)=>(sl4.take y8.toNat).length-k) (0) (⟨.slice none 0 0,[],a+1⟩) ?_ ?_ ?_ ?_
 ·exact ⟨Ad _,rfl,⟨by simp,by simp,uD⟩⟩
 ·exact ⟨rfl,rfl,trivial⟩
 ·exact uP
 ·intro k q hinv
  obtain ⟨hk,⟨hn,hq⟩⟩:=hinv;obtain ⟨u,out,a2⟩:=q;obtain ⟨g1,g2,g3⟩:=id hq;dsimp only at g1 g2 g3;dsimp only at hn;refine gz4 ?_;refine uCo (fun h1=> ?_) fun h2=> ?_
  ·obtain ⟨x,hx⟩: ∃x,(sl4.take y8.toNat)[k]? =some x:=⟨_,Aa (by simpa using h1)⟩
   have hdx:=zg hx;refine gz5 ?_;refine dq (zD (f:=HVal.str) (l:=(sl4.take y8.toNat)) (j:=k) (a:=x) zk ty9 rfl rfl rfl hx) ?_;refine gz7 ?_;refine de rfl (uCx 0 ztl rfl rfl (zc4 uS) ?_)
   rintro _ _ ⟨t18,a18,rfl,ht18,ha18,rfl⟩;refine dq (zI (cs:=[_,_]) zdc zvX rfl) ?_;refine dq (za (hs:=[_]) zdF zdc rfl rfl (by decide) (by decide) rfl) ?_;refine de rfl (zO (i:=1) zdF zdc rfl rfl rfl rfl rfl (by simp [zax,zb,zay,zaO]) uSo fun v21=> ?_)
   refine gz8 ?_;exact ⟨k+1,⟨v21,out++[(⟨x,t18⟩:SlotS)],a18⟩,⟨by omega,by simp;omega,hq.add (x:=(⟨x,t18⟩:SlotS)) (by show t18.length<=4;omega) (by dsimp only at ha18;omega)⟩,uD,⟨rfl,rfl,trivial⟩,uK,zu (by dsimp only;first|rfl|(rw [AB];rfl))⟩
  ·have hnk:(sl4.take y8.toNat).length<=k:=by simpa using h2
   obtain rfl:k=(sl4.take y8.toNat).length:=by omega
   refine gz2 ?_;refine zL ?_;refine gz7 ?_;exact zae (Ghost.perm (List.Perm.swap _ _ _)) rfl ⟨_,out,a2,rfl,⟨by omega,g2⟩,by omega,by omega,rfl⟩
theorem zbk [Tracks] {b:Nat} {l:List Int} {a:Nat} (ha:a<=700000):Con prog 105 [pAt b] [St b l a] (fun x M'=> ∃k a',x=ziF k/\GoodRus k/\a'<=a+40/\M'=[St b l a']):=by
 refine uOb func105 ntmps105 ?_;refine gz6 ?_;refine zf (zM 7) ?_;refine gz2 ?_;refine dq (za (hs:=[_,_,_,_,_]) zk ty9 rfl rfl (by decide) (by decide) rfl) ?_;refine dq (zao (f:=HVal.str) (l:=ru5) zk rfl) ?_;refine gz3 ?_;refine uV2 [3,1,5,2,9,37] (fun (k:Nat) (q:GL RuleS)=>[(9,.int .i64 k),(3,.raw q.u)]) (fun (k:Nat) (q:GL RuleS)=>[St b l q.a,.arr q.u 7 (q.out.map zqL)]) (fun (k:Nat) (q:GL RuleS)=>k<=ru5.length/\(GLok zvk k (a+8*k) q)) (fun (k:Nat) (q:GL RuleS)=>ru5.length-k) (0) (⟨.slice none 0 0,[],a⟩) ?_ ?_ ?_ ?_;exact ⟨Ad _,⟨by simp,by simp,uD⟩⟩;exact ⟨rfl,rfl,trivial⟩;exact uP
 intro k q hinv
 obtain ⟨hk,hq⟩:=hinv;have hlen:ru5.length=5:=rfl;obtain ⟨u,out,a2⟩:=q;obtain ⟨g1,g2,g3⟩:=id hq;dsimp only at g1 g2 g3;refine gz4 ?_;refine uCo (fun h1=> ?_) fun h2=> ?_
 obtain ⟨x,hx⟩: ∃x,ru5[k]? =some x:=⟨_,Aa h1⟩
 have hdx:=zg hx;refine gz5 ?_;refine dq (zD (f:=HVal.str) (l:=ru5) (j:=k) (a:=x) zk ty9 rfl rfl rfl hx) ?_;refine gz6 ?_;refine de rfl (uCx 0 zdz rfl rfl (zB uS uS) ?_)
 rintro _ _ ⟨y14,rfl,rfl⟩;refine gz1 ?_;refine uCo (fun h3=> ?_) fun h4=> ?_
 refine gz8 ?_;exact ⟨k+1,⟨u,out,a2+1⟩,⟨by omega,hq.same uO⟩,uD,⟨rfl,rfl,trivial⟩,uK,uP⟩;refine gz5 ?_;refine dq (za (hs:=[_,_,_,_]) zk ty9 rfl rfl (by decide) (by decide) rfl) ?_;refine de rfl (uCx 0 ca7 rfl rfl (zi (L:=[_,_,_,_]) uS uS uS) ?_)
 rintro _ _ ⟨y18,rfl,hy18,rfl⟩;refine gz1 ?_;refine dq (za (hs:=[_,_,_,_]) zk ty9 rfl rfl (by decide) (by decide) rfl) ?_;refine de rfl (uCx 0 ca7 rfl rfl (zi (L:=[_,_,_,_]) uS uS uS) ?_)
 rintro _ _ ⟨y21,rfl,hy21,rfl⟩;refine gz1 ?_;refine de rfl (uCx 0 ca6 rfl rfl (zC uS uS uS uS) ?_)
 rintro _ _ ⟨y23,rfl,hy23,rfl⟩;refine gz1 ?_;refine dq (za (hs:=[_,_,_,_,_,_]) z6 ty3 rfl rfl (by decide) (by decide) rfl) ?_;refine de rfl (uCx 0 zaI rfl rfl (zd (L:=[_,_,_,_,_,_]) uS uS uS) ?_)
 rintro _ _ ⟨y26,rfl,hy26,rfl⟩;refine dq (uCl zzK rfl (zix (n:=y26) (by simp at hy26;omega))) ?_;refine dq (zI (cs:=[_,_,_,_,_,_,_]) zg1 zA1 rfl) ?_;refine de rfl (zj zg1 rfl fun b6=> ?_)
 refine de0 (uY 0 ?_)
 refine gz1 ?_;have hb1:=zsF (n:=y26) (g:=zgi y26 100) (by simp at hy26;omega);have hb2:=zsF (n:=100) (g:=zgi y26 100) uO;refine uVj [29,12] (fun (q4:RuleS×Nat)=>[]) (fun (q4:RuleS×Nat)=>[St b l q4.2,.arr u 7 (out.map zqL),.cells b6 (zb (zqL q4.1))]) (fun (q4:RuleS×Nat)=>zvk q4.1/\q4.2<=a2+7) ?_ ?_
 skip
 refine gz2 ?_;refine de rfl (uZ 0 ?_)
 refine gz3 ?_;refine dgl rfl rfl (fun hc=>⟨_,OpenTo.upd (t:=33) rfl (hc) (OpenTo.refl _),z8 (i:=0) ty3 rfl rfl (.inl ⟨rfl,rfl⟩) ⟨rfl,rfl⟩⟩) ?_;refine gz3 ?_;refine uCo (fun h5=> ?_) fun h6=> ?_
 refine gz2 ?_;refine dq (za (hs:=[_,_,_,_,_]) z6 ty3 rfl rfl (by decide) (by decide) rfl) ?_;refine de rfl (uCx 1 zaI rfl rfl (zd (L:=[_,_,_,_,_]) uS uS uS) ?_)
 rintro _ _ ⟨y39,rfl,hy39,rfl⟩;refine gz1 ?_;refine de0 (uY 1 ?_)
 refine gz1 ?_;exact ⟨((⟨x,y18,y21,y23,y39,y26.tdiv (zgi y26 100),(100:Int).tdiv (zgi y26 100)⟩:RuleS),a2+6),⟨⟨hb1,hb2⟩,uD⟩,trivial,uK,uP⟩;refine gz1 ?_;exact ⟨((⟨x,y18,y21,y23,0,y26.tdiv (zgi y26 100),(100:Int).tdiv (zgi y26 100)⟩:RuleS),a2+5),⟨⟨hb1,hb2⟩,uD⟩,trivial,uK,uP⟩
 intro q4 hq4
 obtain ⟨x5,a5⟩:=q4;obtain ⟨hx5,ha5⟩:=hq4;dsimp only at hx5 ha5;refine zf (zcz 6 (i:=2) rfl rfl) ?_;refine gz3 ?_;refine dq (za (hs:=[_]) zr5 zg1 rfl rfl (by decide) (by decide) rfl) ?_;refine de rfl (zO (i:=1) zr5 zg1 rfl rfl rfl rfl rfl (by simp [zax,zb,zay,zaO]) uSo fun v44=> ?_)
 refine gz8 ?_;exact ⟨k+1,⟨v44,out++[x5],a5⟩,⟨by omega,hq.add (x:=x5) hx5 uO⟩,uD,⟨rfl,rfl,trivial⟩,uK,uP⟩;have hnk:ru5.length<=k:=by omega
 obtain rfl:k=ru5.length:=by omega
 refine gz2 ?_;refine zL ?_;refine gz7 ?_;exact zae (zas 2 (i:=1) rfl rfl) rfl ⟨out,a2,rfl,⟨by omega,g2⟩,by omega,rfl⟩
theorem ziu [Tracks] {b:Nat} {l:List Int} {a:Nat} (ha:a<=600000):Con prog 114 [pAt b] [St b l a] (fun x M'=> ∃k a',x=zft k/\GoodSlos k/\a'<=a+40/\M'=[St b l a']):=by
 refine uOb func114 ntmps114 ?_;refine gz5 ?_;refine de rfl (uCx 0 zmB rfl rfl (zoV uS) ?_)
 rintro _ _ ⟨u6,k6,a6,rfl,hk6,hn6,ha6,rfl⟩;refine gz2 ?_;have hl6:=hk6.len;have hg6:=hk6.all;refine zf (zbG (M':=[.arr u6 2 (k6.map za6),St b l a6]) rfl) ?_;refine zf (Ghost.perm (List.Perm.swap _ _ _)) ?_;refine uVj [4,1,7,31] (fun (q:List SlotS×Nat)=>[]) (fun (q:List SlotS×Nat)=>[St b l q.2,.arr u6 2 (q.1.map za6)]) (fun (q:List SlotS×Nat)=>GoodSlos q.1/\q.2<=a6+5) ?_ ?_
 ·skip
  refine gz2 ?_;refine de rfl (uCx 0 zdz rfl rfl (zB uS uS) ?_)
  rintro _ _ ⟨y8,rfl,rfl⟩;refine gz1 ?_;refine uCo (fun h1=> ?_) fun h2=> ?_
  ·refine zcZ (i:=1) rfl (fun h0 he=> ?_) (fun ob off cap hv hcap=> ?_)
   ·exfalso;have:=congrArg List.length he;simp at this;subst this;simp at hn6
   subst hv;refine gz4 ?_;refine de rfl (za7 (i:=1) (es:=k6) zdF rfl rfl ?_)
   refine de rfl (uCx 0 zhw rfl rfl (zZ uS uS) ?_)
   rintro _ _ ⟨y13,rfl,hy13,rfl⟩;refine dq (zy (j:=y13) zdF zdc rfl rfl rfl uSo) ?_;refine gz2 ?_;obtain ⟨x,hx⟩: ∃x,k6[y13]? =some x:=⟨_,Aa uO⟩
   have hgx:=hg6 x (Ac hx);dsimp only [zjX] at hgx;refine za1 (fun M=> ∃i:Nat,M[i]? =some (.arr (.slice (some ⟨ob,off,none⟩) (k6.map za6).length cap) 2 (k6.map za6))) [6,12] mixed ?_;refine gz6 ?_;refine uM 6 rfl ⟨1,rfl⟩ (fun M hM=>by obtain ⟨i,hi⟩:=hM;exact zaq (i:=i) (j:=y13) 0 ty9 rfl uO hi hx rfl rfl ⟨rfl,rfl⟩) ?_;refine uB 7 rfl (za (hs:=[_,_,_]) zk ty9 rfl rfl (by decide) (by decide) rfl) ?_;refine uA 9 ?_;refine gz2 ?_;refine uM 12 rfl ⟨1,rfl⟩ (fun M hM=>by obtain ⟨i,hi⟩:=hM;exact zaq (i:=i) (j:=y13) 1 zk rfl uO hi hx rfl rfl ⟨rfl,rfl⟩) ?_;refine uA 14 ?_;refine uB 15 rfl (za (hs:=[_,_,_]) zk ty9 rfl rfl (by decide) (by decide) rfl) ?_;refine uF 8 ?_;refine zq rfl (uCx 0 ca7 rfl rfl (zi (L:=[_,_,_]) uS uS uS) ?_)
   rintro _ _ ⟨y23,rfl,hy23,rfl⟩;refine ⟨uE,?_⟩
   refine uF 13 ?_;refine zq rfl (uCa zkH rfl (zad uO) fun v28=> ?_)
   refine ⟨uE,?_⟩
   refine uF 16 ?_;refine zq rfl (uCx 1 ca7 rfl rfl (zi (L:=[_,_,_]) uS uS uS) ?_)
   rintro _ _ ⟨y31,rfl,hy31,rfl⟩;refine ⟨uE,?_⟩
   refine uB 17 rfl (za (hs:=[_]) zk ty9 rfl rfl (by decide) (by decide) rfl) ?_;refine uF 18 ?_;refine zq rfl (zjW (N:=[St b l (a6+1+1+1+1),.arr (.slice (some ⟨ob,off,none⟩) (k6.map za6).length cap) 2 (k6.map za6)]) (sz:=1) (es:=(x.Positions++[y31]).map .str) 1 (zO (i:=1) zk ty9 rfl rfl rfl rfl rfl (by simp [zax,zb]) uSo fun v=>⟨v,rfl,by simp,rfl⟩) ?_)
   refine ⟨fun _=> .inl ⟨1,rfl⟩,?_⟩
   refine gz2 ?_;refine uF 21 ?_;refine zK (zR (i:=1) (j:=y13) (f:=0) (y:=za6 x) (y':=za6 ⟨y23,x.Positions⟩) ty9 rfl uO rfl rfl (za2 hx) rfl rfl (by simp [zb]) rfl ?_)
   refine ⟨uE,?_⟩
   refine gz2 ?_;refine uF 24 ?_;refine zK (zR (i:=1) (j:=y13) (f:=1) (y:=za6 ⟨y23,x.Positions⟩) (y':=za6 ⟨y23,x.Positions++[y31]⟩) zk rfl uO rfl rfl (zaD (za2 hx)) rfl rfl (by simp [zb]) rfl ?_)
   refine ⟨uE,?_⟩
   refine gz1 ?_;exact ⟨(k6.set y13 ⟨y23,x.Positions++[y31]⟩,a6+4),⟨⟨by simp;omega,zei (P:=zmy) hk6.up.all (by dsimp only [zmy];simp;omega)⟩,uD⟩,trivial,uK,uP⟩
  ·refine gz1 ?_;exact ⟨(k6,a6+1),⟨hk6.up,uD⟩,trivial,uK,uP⟩
 ·intro q hq3
  obtain ⟨k1,a4⟩:=q;obtain ⟨q1,q3⟩:=hq3;dsimp only at q1 q3;refine gz3 ?_;refine de rfl (uCx 0 zdz rfl rfl (zB uS uS) ?_)
  rintro _ _ ⟨y39,rfl,rfl⟩;refine gz1 ?_;refine uCo (fun h3=> ?_) fun h4=> ?_
  ·refine gz4 ?_;exact ⟨_,_,(zbG (M':=[St b l (a4+1),.arr u6 2 (k1.map za6)]) rfl).trans ((Ghost.perm (List.Perm.swap _ _ _)).trans Ghost.drop),_,.slice 2 [],rfl,zQ 2,[],a4+1,rfl,⟨by simp,by simp⟩,by omega,rfl⟩
  ·refine gz7 ?_;exact zae (zas 2 (i:=1) rfl rfl) rfl ⟨k1,a4+1,rfl,q1,by omega,rfl⟩
theorem zaz [Tracks] {b:Nat} {l:List Int} {a:Nat} (ha:a<=600000):Con prog 108 [pAt b] [St b l a] (fun x M'=> ∃k a',x=eIs k/\k.length<=6/\a'<=a+20/\M'=[St b l a']):=by
 refine uOb func108 ntmps108 ?_;refine gz6 ?_;refine zf (zM 1) ?_;refine gz3 ?_;refine de rfl (uCx 1 zwJ rfl rfl (zez (n:=5) uO uO uO) ?_)
 rintro _ _ ⟨L7,a7,rfl,hL7,ha7,rfl⟩;refine gz1 ?_;refine de rfl (uCx 0 ca6 rfl rfl (zC uS uS uS uS) ?_)
 rintro _ _ ⟨y9,rfl,hy9,rfl⟩;refine dq (zaL (es:=L7) (f:=HVal.int .i64) (h:=y9.toNat) z6 ty3 rfl rfl ⟨_,_,rfl,by omega⟩ uO (by have:=hL7.1;omega)) ?_;refine dq (zao (f:=HVal.int .i64) (l:=L7.take y9.toNat) z6 rfl) ?_;refine gz2 ?_;obtain ⟨hLn,hLb⟩:=hL7;have hlen:(L7.take y9.toNat).length=y9.toNat:=by simp;omega
 refine gz1 ?_;refine uV2 [3,1,5,1,12,10] (fun (k:Nat) (q:GL Int)=>[(12,.int .i64 k),(3,.raw q.u)]) (fun (k:Nat) (q:GL Int)=>[St b l (a7+1),.arr q.u 1 (q.out.map (.int .i64))]) (fun (k:Nat) (q:GL Int)=>k<=(L7.take y9.toNat).length/\(q.out.length<=k)) (fun (k:Nat) (q:GL Int)=>(L7.take y9.toNat).length-k) (0) (⟨.slice none 0 0,[],a⟩) ?_ ?_ ?_ ?_;exact ⟨Ad _,by simp⟩;exact ⟨rfl,rfl,trivial⟩;exact uP
 intro k q hinv
 obtain ⟨hk,hq⟩:=hinv;obtain ⟨u,out,a2⟩:=q;dsimp only at hq;refine gz4 ?_;refine uCo (fun h1=> ?_) fun h2=> ?_
 obtain ⟨y,hy⟩: ∃y,(L7.take y9.toNat)[k]? =some y:=⟨_,Aa (by simpa using h1)⟩
 have hdy:=zg hy;refine gz5 ?_;refine dq (zD (f:=HVal.int .i64) (l:=L7.take y9.toNat) (j:=k) (a:=y) z6 ty3 rfl rfl rfl hy) ?_;refine gz6 ?_;refine dq (zbf rfl rfl (by have:=hLb y (AR (Ac hy));omega) (by have:=hLb y (AR (Ac hy));omega)) ?_;refine dq (za (hs:=[_]) z6 ty3 rfl rfl (by decide) (by decide) rfl) ?_;refine de rfl (zO (i:=1) z6 ty3 rfl rfl rfl rfl rfl (by simp [zax,zb,zay,zaO]) uSo fun v20=> ?_)
 refine gz8 ?_;exact ⟨k+1,⟨v20,out++[y+1],a⟩,⟨by omega,by simp;omega⟩,uD,⟨rfl,rfl,trivial⟩,uK,uP⟩;have hnk:(L7.take y9.toNat).length<=k:=by simpa using h2
 obtain rfl:k=(L7.take y9.toNat).length:=by omega
 refine gz2 ?_;refine zL ?_;refine gz5 ?_;refine de rfl (uCx 0 zdz rfl rfl (zB uS uS) ?_)
 rintro _ _ ⟨y23,rfl,rfl⟩;refine gz1 ?_;refine uCo (fun h3=> ?_) fun h4=> ?_
 refine gz3 ?_;refine de rfl (uCx 0 zkG rfl rfl (zgF uS uS uS uS) ?_)
 rintro _ _ ⟨y26,rfl,hy26,rfl⟩;refine dq (za (hs:=[_]) z6 ty3 rfl rfl (by decide) (by decide) rfl) ?_;refine de rfl (zO (i:=1) z6 ty3 rfl rfl rfl rfl rfl (by simp [zax,zb,zay,zaO]) uSo fun v28=> ?_)
 refine gz8 ?_;exact zae (zas 2 (i:=1) rfl rfl) rfl ⟨out++[y26],_,by simp,by simp;omega,by omega,rfl⟩;refine gz7 ?_;exact zae (zas 2 (i:=1) rfl rfl) rfl ⟨out,_,rfl,by omega,by omega,rfl⟩
end
section
open Go.Proofs.Tryz
open Go.HL
theorem zlS [Tracks] {l:List GameS} (hb: ∀x∈l,GamB x) (hl:l.length<=1000000) {v:Value}:
 Con prog 112 [.raw v,.fn (.func 113) [] []] [.arr v 8 (l.map zaJ)] fun x M'=> ∃l':List GameS,x= .tup []/\l'.Perm l/\l'.Pairwise (fun a b=> ¬ze2 b a<0)/\M'=[.arr v 8 (l'.map zaJ)]:=by
 have h:=zpC (e:=fun x:{m:GameS//GamB m}=>zaJ x.1) zug (Tryz.isAgg204) (Tryz.sizeOf204) (fun _=>rfl) (fun _=>rfl) (fun _=>rfl) (c:=fun x y=>ze2 x.1 y.1) (zs4 ztc) zwv (fun x y=> @zfR zki x.1 y.1 x.2.week y.2.week) (l:=l.attachWith _ hb) (by simpa using hl) (v:=v);rw [znN hb zaJ] at h;refine h.mono fun x M' ⟨l',e1,hp,hw,e2⟩=>⟨l'.map Subtype.val,e1,?_,?_,?_⟩
 have h9:=hp.map Subtype.val;rw [zko hb] at h9;exact h9;exact List.pairwise_map.2 hw;rw [e2,AX];rfl
theorem zeA [Tracks] {T:List Str} {W p n:Int} (hT:T.length<=1000000) (hW:1<=W/\W<=10) (hp:0<=p/\p<=10) (hn:2<=n/\n<=10):ConP prog 196 [.int .i64 W,.int .i64 p,.vptr [.int .i64 n] 0,.vptr [eSs T] 0] (.str (onS T W p n)):=by
 obtain ⟨o1,o2,o3⟩:=zAN (W:=W) hp hn;refine uOb func196 ntmps196 ?_;refine gz7 ?_;refine uVj [7,1,9,17] (fun (i1:Int)=>[(7,.int .i64 i1)]) (fun (i1:Int)=>[]) (fun (i1:Int)=>i1=onI W p n) ?_ ?_
 skip
 refine gz4 ?_;refine uCo (fun h1=> ?_) fun h2=> ?_
 refine zlb mixed ?_;refine gz7 ?_;refine uB 7 rfl (zc1 (n:=n-1) rfl rfl uO) ?_;refine gz5 ?_;refine uB 13 rfl (zc1 (n:=n-1) rfl rfl uO) ?_;refine gz3 ?_;exact ⟨1+((p-1-(W-1)).tmod (n-1)+(n-1)).tmod (n-1),by rw [onI,if_pos h1],⟨rfl,trivial⟩,uK,Ab _⟩;refine gz1 ?_;exact ⟨p,by rw [onI,if_neg uO],⟨rfl,trivial⟩,uK,Ab _⟩
 intro i1 hi1
 have hi0:0<=i1:=by rw [hi1];exact o3
 refine gz7 ?_;refine uCo (fun h3=> ?_) fun h4=> ?_
 refine gz4 ?_;refine zw rfl ?_
 show HVal.str _=_
 (rw [onS,if_pos uO])
 refine gz5 ?_;refine dq (zD (f:=HVal.str) (l:=T) (j:=i1.toNat) (a:=T.getD i1.toNat []) zk ty9 rfl rfl uO (getD_some uO)) ?_;refine gz4 ?_;refine zw rfl ?_
 show HVal.str _=_
 (rw [onS,if_neg uO,<-hi1])
theorem zjG [Tracks] {T:List Str} (hT:2<=T.length/\T.length<=4):Con prog 111 [eSs T,.int .i64 3] [] (fun x M'=> ∃k,x=zj8 k/\GoodGas k/\M'=[]):=by
 obtain ⟨n1,n2,n3,n4⟩:=zyG hT;refine uOb func111 ntmps111 ?_;refine gz9 ?_;refine dq (zc1 rfl rfl uO) ?_;refine dq (zau (h':= .int .i64 (nOf T)) (zbf rfl rfl uO uO) rfl) ?_;refine de rfl (zj ty3 rfl fun b5=> ?_)
 refine de0 (uY 0 ?_)
 refine gz1 ?_;refine zf (zcz 5 (i:=0) rfl rfl) ?_;refine gz7 ?_;refine zf (zM 8) ?_;refine gz5 ?_;refine uV2 [7,5,19,56] (fun (w:Nat) (q:GL GameS)=>[(8,.int .i64 ((w:Int)+1)),(7,.raw q.u)]) (fun (w:Nat) (q:GL GameS)=>[.arr q.u 8 (q.out.map zaJ)]) (fun (w:Nat) (q:GL GameS)=>w<=3/\GLok GamB (2*w) 0 q) (fun (w:Nat) (q:GL GameS)=>3-w) (0) (⟨.slice none 0 0,[],0⟩) ?_ ?_ ?_ ?_;exact ⟨by omega,⟨by simp,by simp,by simp⟩⟩;exact ⟨zN uO,rfl,trivial⟩;exact Ab _
 intro w q hinv
 obtain ⟨hw,hq⟩:=hinv;obtain ⟨u,out,a2⟩:=q;obtain ⟨g1,g2,g3⟩:=id hq;dsimp only at g1 g2 g3;refine gz6 ?_;refine uCo (fun h1=> ?_) fun h2=> ?_
 refine gz6 ?_;refine dq (zau (h':= .int .i64 (mOf T)) (zfY rfl rfl uO uO uO) rfl) ?_;refine gz3 ?_;refine uU2 [7,1,9,3,26,49] (fun (j:Nat) (q2:GL GameS)=>[(26,.int .i64 (j:Int)),(7,.raw q2.u)]) (fun (j:Nat) (q2:GL GameS)=>[.arr q2.u 8 (q2.out.map zaJ)]) (fun (j:Nat) (q2:GL GameS)=>(j:Int)<=mOf T/\GLok GamB (2*w+j) 0 q2) (fun (j:Nat) (q2:GL GameS)=>(mOf T).toNat-j) (0) (⟨u,out,0⟩) ?_ ?_;exact ⟨by omega,⟨uD,g2,by simp⟩⟩;rintro j q2 ⟨hj,hq2⟩;obtain ⟨u,out,a2⟩:=q2;obtain ⟨g1,g2,g3⟩:=id hq2;dsimp only at g1 g2 g3;refine gz4 ?_;refine uCo (fun h3=> ?_) fun h4=> ?_
 refine gz8 ?_;refine uDr mixed ?_;refine gz4 ?_;refine uB 4 rfl (zaw zwL rfl rfl (WeakL.refl _) (zeA (T:=T) (W:=((w:Int)+1)) (p:=(j:Int)) (n:=nOf T) uO uO uO uO)) ?_;refine gz3 ?_;refine uB 8 rfl (zeU (m:=nOf T) rfl rfl uO uO) ?_;refine gz1 ?_;refine uB 10 rfl (zeU (m:=nOf T-1) rfl rfl uO uO) ?_;refine uB 11 rfl (zaw zwL rfl rfl (WeakL.refl _) (zeA (T:=T) (W:=((w:Int)+1)) (p:=(nOf T-1-j)) (n:=nOf T) uO uO uO uO)) ?_;refine uB 12 rfl (zI (cs:=[_,_,_,_,_,_,_,_]) zbO zAX rfl) ?_;refine uF 13 ?_;refine zq rfl (zj zbO rfl fun b10=> ?_)
 refine ⟨uE,?_⟩
 refine uF 14 ?_;refine zK (uY 0 ?_)
 refine ⟨uE,?_⟩
 refine gz3 ?_;refine dq (zc1 rfl rfl uO) ?_;refine gz3 ?_;refine uVj [11,1,45,10] (fun (tn:Bool)=>[(11,.bool tn)]) (fun (tn:Bool)=>[.cells b10 (zb (zaJ (⟨(w:Int)+1,onS T ((w:Int)+1) j (nOf T),onS T ((w:Int)+1) (nOf T-1-j) (nOf T),false,0,0,0,0⟩:GameS))),.arr u 8 (out.map zaJ)]) (fun (tn:Bool)=>True) ?_ ?_
 skip
 refine gz4 ?_;refine uCo (fun h5=> ?_) fun h6=> ?_
 refine gz4 ?_;refine dq (zeU (m:=nOf T) rfl rfl uO uO) ?_;refine dq (zfY (n:=nOf T-1) rfl rfl uO uO uO) ?_;refine dq (zc1 rfl rfl uO) ?_;refine gz1 ?_;refine dq (zv6 ty4 rfl rfl) ?_;refine gz2 ?_;exact ⟨_,trivial,⟨rfl,trivial⟩,uK,zu rfl⟩;refine gz1 ?_;exact ⟨_,trivial,⟨rfl,trivial⟩,uK,zu rfl⟩
 intro tn _
 refine uVj [55,7] (fun (g5:GameS)=>[]) (fun (g5:GameS)=>[.cells b10 (zb (zaJ g5)),.arr u 8 (out.map zaJ)]) (fun (g5:GameS)=>GamB g5) ?_ ?_
 skip
 refine gz3 ?_;refine uCo (fun h7=> ?_) fun h8=> ?_
 refine gz2 ?_;refine de rfl (uZ 0 ?_)
 refine gz1 ?_;refine de rfl (uZ 0 ?_)
 refine gz1 ?_;refine de0 (uY 0 ?_)
 refine gz1 ?_;refine de0 (uY 0 ?_)
 refine gz1 ?_;exact ⟨(⟨(w:Int)+1,onS T ((w:Int)+1) (nOf T-1-j) (nOf T),onS T ((w:Int)+1) j (nOf T),false,0,0,0,0⟩:GameS),zsI uO,trivial,uK,zu rfl⟩;refine gz1 ?_;exact ⟨(⟨(w:Int)+1,onS T ((w:Int)+1) j (nOf T),onS T ((w:Int)+1) (nOf T-1-j) (nOf T),false,0,0,0,0⟩:GameS),zsI uO,trivial,uK,zu rfl⟩
 intro g5 hg5
 refine gz2 ?_;refine de rfl (uZ 0 ?_)
 refine gz3 ?_;refine dgl rfl rfl (fun hc=>⟨_,OpenTo.upd (t:=66) rfl (hc) (OpenTo.refl _),z8 (i:=0) ty9 rfl rfl (.inl ⟨rfl,rfl⟩) ⟨rfl,rfl⟩⟩) ?_;refine gz3 ?_;refine uCo (fun h9=> ?_) fun h10=> ?_
 refine gz2 ?_;refine de rfl (zhg (i:=0) (h:=zaJ g5) zbO rfl rfl rfl rfl rfl ?_)
 refine dq (za (hs:=[_]) zeX zbO rfl rfl (by decide) (by decide) rfl) ?_;refine de rfl (zO (i:=1) zeX zbO rfl rfl rfl rfl rfl (by simp [zax,zb,zay,zaO]) uSo fun v73=> ?_)
 refine gz4 ?_;refine zf Ghost.drop ?_;refine gz4 ?_;exact ⟨j+1,⟨v73,out++[g5],0⟩,⟨by omega,hq2.add (x:=g5) hg5 uO⟩,uD,⟨rfl,rfl,trivial⟩,uK,zu (by dsimp only;rw [AB];rfl)⟩;refine gz3 ?_;refine zf Ghost.drop ?_;refine gz4 ?_;exact ⟨j+1,⟨u,out,0⟩,⟨by omega,hq2.same uO⟩,uD,⟨rfl,rfl,trivial⟩,uK,zu rfl⟩;refine gz2 ?_;refine zL ?_;refine gz8 ?_;exact ⟨w+1,⟨u,out,0⟩,⟨by omega,⟨uD,g2,by simp⟩⟩,uD,⟨zN uO,rfl,trivial⟩,uK,zu rfl⟩;refine gz2 ?_;refine zL ?_;refine gz4 ?_;refine de rfl (uCx 0 zwu rfl rfl (zlS (l:=out) g2 uO) ?_)
 rintro _ _ ⟨Z,rfl,hz1,hz2,rfl⟩;have hzl:=hz1.length_eq;refine gz6 ?_;exact zae (zas 4 (i:=0) rfl rfl) rfl ⟨Z,rfl,⟨by omega,fun x hx=>g2 x (hz1.mem_iff.1 hx)⟩,rfl⟩
end
end Go.Proofs.YtahegdhbakjdoaaGreatDoor
