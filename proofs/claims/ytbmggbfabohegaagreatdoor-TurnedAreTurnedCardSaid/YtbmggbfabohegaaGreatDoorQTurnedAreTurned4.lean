/- Part 4 of the proof: a program logic, contracts of functions and plain facts; no conditions. -/
import Derived.Test.YtbmggbfabohegaaGreatDoorQTurnedAreTurned3
import Derived.Lib.AtoiBound
import Derived.Lib.ItoaMem
import Derived.Lib.Strings
import Derived.Shelf.SlMaps.Clone
import Derived.Shelf.Slices.CompactI
import Derived.Shelf.Slices.In.SortNone
import Derived.Shelf.Sort.Plain
set_option linter.unusedVariables false
set_option linter.unusedSimpArgs false
set_option maxHeartbeats 16000000
namespace Go.HL
section
open Op (bytesLess)
theorem zyl {α:Type} {R:α->α->Prop}: ∀{l:List α},l.Pairwise R->∀x∈l,∀y∈l,x=y\/R x y\/R y x
 |[],_,x,hx,_,_=>by simp at hx
 |a::l,h,x,hx,y,hy=>by
   obtain ⟨h1,h2⟩:=List.pairwise_cons.1 h
   rcases List.mem_cons.1 hx with e|hx'<;>rcases List.mem_cons.1 hy with e'|hy'
   exact .inl (e.trans e'.symm);exact .inr (.inl (e▸h1 y hy'));exact .inr (.inr (e'▸h1 x hx'));exact zyl h2 x hx' y hy'
/-! keeps that are right-/
def kLt (a b:Keep):Prop:=bytesLess a.Team b.Team=true\/(a.Team=b.Team/\a.Round<b.Round)
theorem zCs {a b:Keep} (h: ¬orI [zV b.Team a.Team,zae b.Round a.Round]<=0):kLt a b:=by
 rw [zgg] at h
 rcases zb5 a.Team b.Team with h1|h1|h1
 exact .inl h1;refine .inr ⟨h1,?_⟩
 rw [h1] at h
 simp [zau,orI,zae] at h
 split at h
 omega
 split at h<;>omega
 rw [h1] at h;simp [orI] at h
structure KeepsOk (r:Room) (k:List Keep):Prop where
 all: ∀x∈k,x.Team∈r.Teams/\x.Player∈r.Players/\1<=x.Round/\x.Round<=r.Rounds
 lt:k.Pairwise kLt
theorem zwI {r:Room} {l:List Keep}: ∀(t:List Keep) (k:Nat) (kept:List Str) (tw:Bool),l.drop k=t->zrw r l k kept tw t=0->
 (∀x∈t,x.Team∈r.Teams/\x.Player∈r.Players/\1<=x.Round/\x.Round<=r.Rounds)/\∀(i:Nat) (a b:Keep),k<=i+1->l[i]? =some a->l[i+1]? =some b->kLt a b
 |[],k,kept,tw,hd,h=>⟨by simp,fun i a b hi ha hb=>by
    have:=zo hb;have h2:l.length<=k:=by rw [<-List.drop_eq_nil_iff];exact hd
    omega⟩
 |x::t,k,kept,tw,hd,h=>by
   have hk:l[k]? =some x:=by
    have:=congrArg (fun q=>q[0]?) hd
    simpa using this
   have hd':l.drop (k+1)=t:=by
    have:=zi hk;rw [hd] at this;simp at this;exact this.symm
   simp only [zrw] at h
   split at h
   omega
   rename_i h1
   split at h
   omega
   rename_i h2
   split at h
   omega
   rename_i h3
   obtain ⟨h4,h5⟩:=zwI t (k+1) _ _ hd' h;have h2':=ze3 (by simpa using h2);refine ⟨fun y hy=> ?_,fun i a b hi ha hb=> ?_⟩
   rcases List.mem_cons.1 hy with rfl|hy
   simp at h1;exact ⟨h1.1,h1.2,h2'⟩
   exact h4 y hy
   by_cases e:k=i+1
   subst e;rw [hk] at hb;cases hb;refine zCs fun hc=>h3 ?_
   simp [List.getD,ha];exact hc
   exact h5 i a b (by omega) ha hb
theorem zoq {l:List Str}: ∀(r:List Str) (k:Nat),zbK l k r=0->∀s∈r,key s=true
 |[],_,_,s,hs=>by simp at hs
 |x::r,k,h,s,hs=>by
   simp only [zbK] at h
   split at h
   omega
   rename_i h1
   split at h
   omega
   rcases List.mem_cons.1 hs with rfl|hs
   simpa using h1
   exact zoq r (k+1) h s hs
def zwB (t:Turn) (x:Keep):Bool:=decide (x.Team=t.of/\x.Round=t.round)
theorem KeepsOk.one {r:Room} {k:List Keep} (h:KeepsOk r k) {t:Turn} {x y:Keep} (hx:x∈k) (hy:y∈k) (fx:zwB t x=true) (fy:zwB t y=true):y=x:=by
 simp [zwB] at fx fy
 rcases zyl h.lt x hx y hy with e|e|e
 exact e.symm
 exfalso
 rcases e with e|⟨e1,e2⟩
 rw [fx.1,fy.1,zau] at e;cases e
 omega
 exfalso
 rcases e with e|⟨e1,e2⟩
 rw [fx.1,fy.1,zau] at e;cases e
 omega
def zs8 (k:List Keep) (l:List Pick) (s:Str):Bool:=k.any (fun x=>x.Player==s)||l.any (fun p=>p.Player==s)
end
section
section
variable {r:Room} {k:List Keep} {fr l:List Pick} {p:Pick}
end
structure Wish where
 Team:Str
 Players:List Str
theorem zwG (k:List Keep) (l:List Pick) (p:Pick) (s:Str):zs8 k (l++[p]) s=(zs8 k l s||p.Player==s):=by
 simp [zs8,Ck]
/-! what a run holds-/
structure RunOk (r:Room) (k:List Keep) (s:List Swap) (l:List Pick) (S:List Str):Prop where
 gone: ∀x∈r.Players,S.contains x=zs8 k l x
theorem RunOk.add {r:Room} {k:List Keep} {s:List Swap} {l:List Pick} {S:List Str} (ok:RunOk r k s l S) (p:Pick):RunOk r k s (l++[p]) (zb8 p.Player S):=
 ⟨fun x hx=>by rw [zwG,zmY,ok.gone x hx]⟩
end
section
theorem zr3 {α:Type} {p:α->Bool} {l:List α} (h:0<=zT p l 0): ∃(i:Nat) (x:α),zT p l 0=(i:Int)/\l[i]? =some x/\l.find? p=some x:=by
 obtain ⟨i,h1,h2,⟨x,hx,hp⟩,hb⟩:=zgl p l 0 (by omega) (by omega);refine ⟨i,x,by omega,hx,?_⟩
 have e:l=l.take i++x::l.drop (i+1):=by rw [<-zi hx,A2]
 rw [e,List.find?_append,List.find?_eq_none.2 (by simpa using hb)]
 simp [hp]
theorem zoa {α:Type} {p:α->Bool} {l:List α} (h:zT p l 0<0):l.find? p=none:=by
 have:=zc1 p l 0 (by omega);rw [List.find?_eq_none]
 intro x hx hp
 have h1:l.any p=true:=List.any_eq_true.2 ⟨x,hx,hp⟩;rw [<-this] at h1
 simp at h1;omega
section
variable {r:Room} {w:List Wish} {k:Nat} {x:Wish} {t:List Wish}
end
end
end Go.HL
namespace Go.Proofs.YtbmggbfabohegaaGreatDoor
set_option maxRecDepth 100000
set_option linter.unusedVariables false
set_option linter.unusedSimpArgs false
section
open Go.HL
set_option linter.unusedSimpArgs false
end
section
open Go.HL
set_option linter.unusedSimpArgs false
end
section
open Go.HL
set_option linter.unusedSimpArgs false
end
section
open Go.HL
set_option linter.unusedSimpArgs false
end
section
open Go.HL
set_option linter.unusedSimpArgs false
end
section
open Go.HL
set_option linter.unusedSimpArgs false
end
section
open Go.Proofs.Tryz
open Go.HL
theorem zfH [Tracks] {b:Nat} {l:List Int} {a:Nat} {n:Nat} (ha:a<=800000) (hn1:1<=n) (hn2:n<=1000):Con prog 182 [pAt b,.int .i64 (n:Int)] [St b l a] (fun x M'=> ∃(L:List Int) (a':Nat),x= .slice 1 (L.map (.int .i64))/\(L.length=n/\∀i∈L,(0:Int)<=i/\i<n)/\a'<=a+n/\M'=[St b l a']):=by
 refine uOb func182 ntmps182 ?_;refine gz6 ?_;refine ze (zN 1) ?_;refine gz6 ?_;refine uV3 [5,2,10,8] (fun (k:Nat) (u:Value) (L:List Int)=>[(10,.int .i64 (k:Int)),(5,.raw u)]) (fun (k:Nat) (u:Value) (L:List Int)=>[.arr u 1 (L.map (HVal.int .i64)),St b l a]) (fun (k:Nat) (u:Value) (L:List Int)=>k<=n/\L.length=k/\∀i∈L,(0:Int)<=i/\i<n) (fun (k:Nat) (u:Value) (L:List Int)=>n-k) (0) (.slice none 0 0) ([]) ?_ ?_ ?_ ?_;exact ⟨by omega,rfl,by simp⟩;exact ⟨rfl,rfl,trivial⟩;exact zn rfl
 intro k u L hinv
 obtain ⟨hk,hL,hLb⟩:=hinv;refine gz4 ?_;refine uCo (fun h1=> ?_) fun h2=> ?_
 have hkn:k<n:=by omega
 refine zcj ?_;refine dq (za (hs:=[_]) zah ty3 rfl rfl (by decide) (by decide) rfl) ?_;refine de rfl (zO (i:=0) zah ty3 rfl rfl rfl rfl rfl (by simp [zaw,zb]) uSo fun v16=> ?_)
 refine gz8 ?_;exact ⟨k+1,v16,L++[(k:Int)],⟨by omega,by simp [hL],fun i hi=>by rcases List.mem_append.1 hi with h|h;exact hLb i h;(simp at h;omega)⟩,uD,⟨rfl,rfl,trivial⟩,uK,zn (by simp)⟩;obtain rfl:n=k:=by omega
 refine gz2 ?_;refine zcU ?_;refine gz3 ?_;refine ze (Ghost.perm (M':=[St b l a,.arr u 1 (L.map (.int .i64))]) uP) ?_;refine zcT (i:=1) rfl (fun h0 he=> ?_) (fun ob off cap hv hcap=> ?_)
 exfalso;have:=congrArg List.length he;simp at this;subst this;simp at hL;omega
 rw [Ag,hL] at hv hcap;subst hv;refine gz6 ?_;refine uV3 [7,2,20,22] (fun (m:Nat) (L:List Int) (a2:Nat)=>[(7,.int .i64 (m:Int))]) (fun (m:Nat) (L:List Int) (a2:Nat)=>[St b l a2,.arr (.slice (some ⟨ob,off,none⟩) n cap) 1 (L.map (HVal.int .i64))]) (fun (m:Nat) (L:List Int) (a2:Nat)=>m<n/\(L.length=n/\∀i∈L,(0:Int)<=i/\i<n)/\a2+m<=a+n) (fun (m:Nat) (L:List Int) (a2:Nat)=>m) (n-1) (L) (a) ?_ ?_ ?_ ?_;exact ⟨by omega,⟨hL,hLb⟩,by omega⟩;exact ⟨zQ uO,trivial⟩;exact Ac _
 intro m L a2 hinv
 obtain ⟨hm,⟨hL,hLb⟩,ha2⟩:=hinv;refine gz5 ?_;refine uCo (fun h3=> ?_) fun h4=> ?_
 have hm0:0<m:=by omega
 refine gz8 ?_;refine de rfl (uCx 0 zi3 rfl rfl (zam uO uO) ?_)
 rintro _ _ ⟨y27,rfl,hy27,rfl⟩;refine gz2 ?_;obtain ⟨z1,hz1⟩: ∃z,L[y27]? =some z:=⟨_,Aa uO⟩
 obtain ⟨z2,hz2⟩: ∃z,L[m]? =some z:=⟨_,Aa uO⟩
 obtain ⟨z3,hz3⟩: ∃z,(L.set m z1)[y27]? =some z:=⟨_,Aa uSo⟩
 refine zbu (fun M=> ∃i:Nat,M[i]? =some (.arr (.slice (some ⟨ob,off,none⟩) n cap) 1 (L.map (HVal.int .i64)))) [7,11] mixed ?_;refine gz6 ?_;refine uB 6 rfl (zD (j:=y27) zah ty3 rfl rfl rfl uO) ?_;refine uM 7 rfl (⟨1,rfl⟩) (fun M hM=>by obtain ⟨i,hi⟩:=hM;exact zan (i:=i) (j:=y27) 0 ty3 rfl uO hi hz1 rfl rfl ⟨rfl,rfl⟩) ?_;refine gz2 ?_;refine uB 10 rfl (zD (j:=m) zah ty3 rfl rfl rfl uO) ?_;refine uM 11 rfl (⟨1,rfl⟩) (fun M hM=>by obtain ⟨i,hi⟩:=hM;exact zan (i:=i) (j:=m) 0 ty3 rfl uO hi hz2 rfl rfl ⟨rfl,rfl⟩) ?_;refine uB 12 rfl (zD (j:=m) zah ty3 rfl rfl rfl uO) ?_;refine uF 13 ?_;refine zA (za0 (i:=1) (f:=HVal.int .i64) (es:=L) (j:=m) (y:=z2) (y':=z1) ty3 rfl rfl rfl rfl hz2 rfl rfl rfl ?_)
 refine ⟨uE,?_⟩
 refine uB 14 rfl (zD (j:=y27) zah ty3 rfl rfl rfl uO) ?_;refine uF 15 ?_;refine zA (za0 (i:=1) (f:=HVal.int .i64) (es:=L.set m z1) (j:=y27) (y:=z3) (y':=z2) ty3 rfl rfl rfl rfl hz3 rfl rfl rfl ?_)
 refine ⟨uE,?_⟩
 refine gz8 ?_;exact ⟨m-1,(L.set m z1).set y27 z2,a2+1,⟨by omega,⟨by simp [hL],zff (P:=fun i:Int=>0<=i/\i<n) (zff (P:=fun i:Int=>0<=i/\i<n) hLb (hLb z1 (Ab hz1))) (hLb z2 (Ab hz2))⟩,by omega⟩,uD,⟨zQ uO,trivial⟩,uK,zn (by simp [List.map_set])⟩;refine gz2 ?_;refine zcU ?_;refine gz7 ?_;refine zap (zaB 4 (i:=1) rfl rfl) rfl ⟨L,a2,rfl,⟨hL,hLb⟩,by omega,rfl⟩
end
section
open Go.HL
set_option linter.unusedSimpArgs false
end
end Go.Proofs.YtbmggbfabohegaaGreatDoor
namespace Go.HL
section
variable {P:Program}
open Go.Sort Go.Proofs
end
end Go.HL
namespace Go.Proofs.YtbmggbfabohegaaGreatDoor
set_option maxRecDepth 100000
set_option linter.unusedVariables false
set_option linter.unusedSimpArgs false
section
open Go.Proofs.Tryz
open Go.HL
theorem zfP [Tracks] {l:List StatS} {fid:FuncId} {caps:List HVal} {p:StatS->Bool} (hca:Callable prog fid) (hp: ∀x,ConP prog fid ([zbe x]++caps) (.bool (p x))) (hl:l.length<=1000000):ConP prog 342 [.slice 2 (l.map zbe),.fn (.func fid) [] caps] (.int .i64 (zT p l 0)):=by
 refine uOb func342 ntmps342 ?_;refine zaz ?_;refine uT1 [4,2,8,11] (fun k=>[(8,.int .i64 k)]) (fun k=>[]) (fun k=>k<=l.length/\(zT p l 0=zT p (l.drop k) k)) (fun k=>l.length-k) (0) ?_ ?_;exact ⟨Ad _,rfl⟩;rintro k ⟨hk,hg⟩;refine gz4 ?_;refine uCo (fun h1=> ?_) fun h2=> ?_
 obtain ⟨x,hx⟩: ∃x,l[k]? =some x:=⟨_,Aa h1⟩
 have hdx:=zi hx;rw [hdx] at hg;refine zdg ?_;refine dq (zao hca rfl rfl (WeakL.refl _) (hp _)) ?_;refine gz1 ?_;refine uCo (fun h3=> ?_) fun h4=> ?_
 refine gz5 ?_;refine uRp ?_
 (rw [hg];simp_all [zT])
 refine gz7 ?_;refine ⟨k+1,?_,?_,⟨rfl,trivial⟩,uK,Ac _⟩
 refine ⟨by omega,?_⟩
 rw [hg,zT,if_neg uSa];rfl
 dsimp only;omega
 have hnk:l.length<=k:=by omega
 obtain rfl:k=l.length:=by omega
 rw [zI (Ae _)] at hg;refine gz2 ?_;refine zw ?_;refine gz6 ?_;refine uRp ?_
 (rw [hg];rfl)
theorem zk0 [Tracks] {l:List Int} {z:Int} (hl:l.length<=1000000):ConP prog 271 [.slice 1 (l.map (.int .i64)),.int .i64 z] (.int .i64 (zT (· ==z) l 0)):=by
 refine uOb func271 ntmps271 ?_;refine zaz ?_;refine uT1 [4,2,8,11] (fun k=>[(8,.int .i64 k)]) (fun k=>[]) (fun k=>k<=l.length/\(zT (· ==z) l 0=zT (· ==z) (l.drop k) k)) (fun k=>l.length-k) (0) ?_ ?_;exact ⟨Ad _,rfl⟩;rintro k ⟨hk,hg⟩;refine gz4 ?_;refine uCo (fun h1=> ?_) fun h2=> ?_
 obtain ⟨x,hx⟩: ∃x,l[k]? =some x:=⟨_,Aa h1⟩
 have hdx:=zi hx;rw [hdx] at hg;refine zpF ?_;refine uCo (fun h3=> ?_) fun h4=> ?_
 refine gz5 ?_;refine uRp ?_
 (rw [hg];simp_all [zT])
 refine gz7 ?_;refine ⟨k+1,?_,?_,⟨rfl,trivial⟩,uK,Ac _⟩
 refine ⟨by omega,?_⟩
 rw [hg,zT,if_neg (by simp_all;try omega)];rfl
 dsimp only;omega
 have hnk:l.length<=k:=by omega
 obtain rfl:k=l.length:=by omega
 rw [zI (Ae _)] at hg;refine gz2 ?_;refine zw ?_;refine gz6 ?_;refine uRp ?_
 (rw [hg];rfl)
theorem zfy [Tracks] {l:List Int} {z:Int} (hl:l.length<=1000000):ConP prog 203 [.slice 1 (l.map (.int .i64)),.int .i64 z] (.bool (l.contains z)):=by
 refine uOb func203 ntmps203 ?_;refine gz6 ?_;refine dq (uCl zEx rfl (zk0 (by assumption))) ?_;refine gz4 ?_;refine zx rfl ?_
 show HVal.bool _=_
 rw [zsS,<-zc1 _ l 0 uO]
theorem zez [Tracks] {n:Int}:ConP prog 123 [.int .i64 n] (.int .i64 (if za1 n then 0 else 1)):=by
 refine uOb func123 ntmps123 ?_;refine gz5 ?_;refine dq (uCl zAo rfl zhh) ?_;refine gz3 ?_;refine uRp ?_;unfold za1
 cases out n 1 60<;>rfl
theorem zlo [Tracks] {p:Play} (hgp:zda p):ConP prog 120 [zav p] (.int .i64 (playFault p)):=by
 refine uOb func120 ntmps120 ?_;refine gz9 ?_;refine dq (uCl zjk rfl (zbO hgp.1)) ?_;refine gz3 ?_;refine uCo (fun h1=> ?_) fun h2=> ?_
 refine gz4 ?_;refine uRp ?_
 simp_all [playFault]
 refine gz3 ?_;refine dq (uCl zma rfl zcQ) ?_;refine gz4 ?_;refine uGr rfl (fun hc=>uCl zs0 rfl zcP) ?_;refine gz5 ?_;refine uGr rfl (fun hc=>uCl zwd rfl zez) ?_;refine gz4 ?_;refine uCo (fun h3=> ?_) fun h4=> ?_
 refine gz4 ?_;refine uRp ?_
 simp_all [playFault]
 refine gz3 ?_;refine dq (uCl zjk rfl (zbO hgp.2.1)) ?_;refine gz4 ?_;refine uGr rfl (fun hc=>uCl zjk rfl (zbO hgp.2.2.1)) ?_;refine gz5 ?_;refine uGr rfl (fun hc=>uCl zjk rfl (zbO hgp.2.2.2)) ?_;refine gz4 ?_;refine uCo (fun h5=> ?_) fun h6=> ?_
 refine gz4 ?_;refine uRp ?_
 simp_all [playFault]
 refine gz3 ?_;refine dq (uCl zma rfl zcQ) ?_;refine gz6 ?_;have hN:=ze3 (n:=p.No) (lo:=1) (hi:=3000) uSa;refine gz1 ?_;refine uGr rfl (fun hc=>uCl zma rfl zcQ) ?_;refine gz4 ?_;refine uCo (fun h7=> ?_) fun h8=> ?_
 refine gz4 ?_;refine uRp ?_
 simp_all [playFault]
 refine zcj ?_;refine uCo (fun h9=> ?_) fun h10=> ?_
 refine gz4 ?_;refine uRp ?_
 simp_all [playFault]
 refine gz7 ?_;refine uRp ?_
 simp_all [playFault]
theorem znu [Tracks] {a b:Play}:ConP prog 121 [zav a,zav b] (.int .i64 (byNo a b)):=by
 refine uOb func121 ntmps121 ?_;refine gz5 ?_;refine uDr mixed ?_;refine gz4 ?_;refine uB 4 rfl (uCl zce rfl zL) ?_;refine gz4 ?_;refine uB 9 rfl (uCl zcZ rfl zS) ?_;refine uB 10 rfl (za (hs:=[_,_]) zah ty3 rfl rfl (by decide) (by decide) rfl) ?_;refine uB 11 rfl (uCl zfz rfl (zbd (l:=[_,_]) (by simp))) ?_;refine gz3 ?_;refine zx rfl ?_
 rfl
theorem zkQ [Tracks] {l:List Play} (hl:l.length<=1000000) (hgl: ∀x∈l,zda x):ConP prog 50 [zbY l] (.int .i64 (zca l)):=by
 refine uOb func50 ntmps50 ?_;refine gz9 ?_;refine uCo (fun h1=> ?_) fun h2=> ?_
 refine gz4 ?_;refine zap Ghost.clear rfl ⟨?_,rfl⟩
 show HVal.int .i64 _=_
 (rw [zca,if_pos uO])
 refine gz3 ?_;refine de rfl (zaK fun m12=> ?_)
 refine de rfl (zaK fun m13=> ?_)
 refine zel ?_;refine uT1 [2,1,5,4,16,48] (fun k=>[(16,.int .i64 k),(5,.bool (zbz (l.take k)).c)]) (fun k=>[.map m13 (sk (em (.int .i64) (zbz (l.take k)).W)),.map m12 (sk (zaU (zbz (l.take k)).S))]) (fun k=>k<=l.length/\(zb7 l 0 l=zb7 l k (l.drop k)/\∀y∈l.take k,playFault y=0)) (fun k=>l.length-k) (0) ?_ ?_;exact ⟨Ad _,rfl,by simp⟩;rintro k ⟨hk,hg,hok⟩;refine gz4 ?_;refine uCo (fun h3=> ?_) fun h4=> ?_
 obtain ⟨x,hx⟩: ∃x,l[k]? =some x:=⟨_,Aa h3⟩
 have hdx:=zi hx;rw [hdx] at hg;refine gz8 ?_;refine de rfl (zj zbZ rfl fun b7=> ?_)
 refine gz1 ?_;refine de0 (zl zbZ rfl rfl rfl rfl rfl ?_)
 refine gz1 ?_;refine ze (zm 7 rfl) ?_;refine gz3 ?_;refine dq (uCl zDa rfl (zlo (hgl x (Ab hx)))) ?_;refine gz6 ?_;refine uCo (fun h5=> ?_) fun h6=> ?_
 refine gz5 ?_;refine zap Ghost.clear rfl ⟨?_,rfl⟩
 show HVal.int .i64 _=_
 (rw [zkG uO (by rw [hg,zb7,if_pos (by simpa using h5)]) (by simpa using h5)])
 refine gz3 ?_;refine uDr mixed ?_;refine gz6 ?_;refine uGy 6 rfl rfl (fun hc=>by have hq:=hc;(try simp at hq);exact zB (j:=k-1) (a:=l.getD (k-1) zmu) zhf zbZ rfl rfl uO (getD_some uO)) ?_;refine gz2 ?_;refine uGy 9 rfl rfl (fun hc=>uCl zDb rfl znu) ?_;refine gz3 ?_;refine uCo (fun h7=> ?_) fun h8=> ?_
 refine gz4 ?_;refine zap Ghost.clear rfl ⟨?_,rfl⟩
 show HVal.int .i64 _=_
 (rw [zkG (c:=7) uO (by rw [hg,zb7,if_neg (by simpa using h6),if_pos (by obtain ⟨qa,qb⟩:=h7;have qb':0<=byNo (l.getD (k-1) zmu) x:=(by simpa using qb);rw [zrR];exact ⟨by omega,by omega⟩)]) (by decide)])
 refine gz6 ?_;refine de0 (zcR (i:=1) zix ty9 rfl rfl rfl rfl ?_)
 refine gz7 ?_;refine dgl rfl rfl (fun hc=>⟨_,OpenTo.upd (t:=45) rfl (hc) (OpenTo.upd (t:=43) rfl (hc) (OpenTo.refl _)),zfk (i:=0) (z0:=(0:Int)) zex ty9 ty3 rfl rfl rfl rfl ⟨rfl,rfl⟩⟩) ?_;refine gz5 ?_;refine dgl rfl rfl (fun hc=>⟨_,OpenTo.upd (t:=51) rfl (hc) (OpenTo.upd (t:=49) rfl (hc) (OpenTo.refl _)),zfk (i:=0) (z0:=(0:Int)) zex ty9 ty3 rfl rfl rfl rfl ⟨rfl,rfl⟩⟩) ?_;refine zel ?_;refine de0 (zdw (i:=0) zex ty9 rfl rfl rfl rfl ?_)
 refine gz7 ?_;refine ⟨k+1,⟨by omega,?_,?_⟩,uD,⟨rfl,?_,trivial⟩,uK,?_⟩
 rw [hg,zmv (by simpa using h6) (fun hk0=>by have hz:=h8;rw [zrR] at hz;simp_all;try omega)]
 intro y hy
 rw [z6 hx] at hy
 rcases List.mem_append.1 hy with hy|hy
 exact hok y hy;rw [List.mem_singleton.1 hy];simpa using h6;rw [zeZ hx,<-zA7 hok];exact congrArg (fun b=>some (HVal.bool b)) (by cases (zbz (l.take k)).c<;>simp);exact zn (by dsimp only;rw [zeZ hx];rfl);have hnk:l.length<=k:=by omega
 obtain rfl:k=l.length:=by omega
 rw [zI (Ae _)] at hg;rw [Ak];refine gz2 ?_;refine zw ?_;refine gz4 ?_;have e1:(sk (zaU (zbz l).S)).length=(zbz l).S.length:=by simp [sk,zaU]
 have e2:(sk (em (HVal.int .i64) (zbz l).W)).length=(zbz l).W.length:=by simp [sk]
 refine gz2 ?_;refine de rfl (zea (i:=1) zix rfl rfl ?_)
 refine gz3 ?_;refine dgl rfl rfl (fun hc=>⟨_,OpenTo.upd (t:=69) rfl (hc) (OpenTo.refl _),zea (i:=0) zex rfl rfl ⟨rfl,rfl⟩⟩) ?_;refine gz4 ?_;refine uCo (fun h9=> ?_) fun h10=> ?_
 refine gz4 ?_;refine zap Ghost.clear rfl ⟨?_,rfl⟩
 show HVal.int .i64 _=_
 (rw [zfn uO hg,zeS,if_pos uO])
 refine gz4 ?_;refine uCo (fun h11=> ?_) fun h12=> ?_
 refine gz4 ?_;refine zap Ghost.clear rfl ⟨?_,rfl⟩
 show HVal.int .i64 _=_
 (rw [zfn uO hg,zeS,if_neg uO,if_pos (by assumption)])
 refine gz7 ?_;refine zap Ghost.clear rfl ⟨?_,rfl⟩
 show HVal.int .i64 _=_
 (rw [zfn uO hg,zeS,if_neg uO,if_neg uSa])
theorem zkR [Tracks] {l:List Str} (hl:l.length<=1000000) (hs: ∀s∈l,Sh s):ConP prog 115 [eSs l] (.int .i64 (zcb l)):=by
 refine uOb func115 ntmps115 ?_;refine gz9 ?_;refine uCo (fun h1=> ?_) fun h2=> ?_
 refine gz4 ?_;refine uRp ?_
 (rw [zcb,if_pos uO])
 refine gz9 ?_;refine uT1 [2,3,10,16] (fun k=>[(10,.int .i64 k)]) (fun k=>[]) (fun k=>k<=l.length/\(zcb l=zd7 l k (l.drop k))) (fun k=>l.length-k) (0) ?_ ?_;refine ⟨Ad _,?_⟩
 rw [zcb,if_neg uO];rfl;rintro k ⟨hk,hg⟩;refine gz4 ?_;refine uCo (fun h3=> ?_) fun h4=> ?_
 obtain ⟨x,hx⟩: ∃x,l[k]? =some x:=⟨_,Aa h3⟩
 have hdx:=zi hx;rw [hdx] at hg;refine zdg ?_;refine dq (uCl zjk rfl (zbO (hs x (Ab hx)))) ?_;refine gz3 ?_;refine uCo (fun h5=> ?_) fun h6=> ?_
 refine gz4 ?_;refine uRp ?_
 (rw [hg];simp_all [zd7])
 refine gz3 ?_;refine dq (zaQ zp ty9 rfl rfl ⟨_,_,rfl,rfl⟩ uO uO) ?_;refine gz1 ?_;refine dq (uCl zhI rfl (zK uSo)) ?_;refine gz2 ?_;refine uCo (fun h7=> ?_) fun h8=> ?_
 refine gz4 ?_;refine uRp ?_
 (rw [hg];simp_all [zd7])
 refine gz8 ?_;refine ⟨k+1,?_,?_,⟨rfl,trivial⟩,uK,Ac _⟩
 refine ⟨by omega,?_⟩
 rw [hg];simp_all [zd7]
 dsimp only;omega
 have hnk:l.length<=k:=by omega
 obtain rfl:k=l.length:=by omega
 rw [zI (Ae _)] at hg;refine gz2 ?_;refine zw ?_;refine gz6 ?_;refine uRp ?_
 (rw [hg];simp_all [zd7])
end
end Go.Proofs.YtbmggbfabohegaaGreatDoor
namespace Go.HL
section
open Go.Proofs Go.Shelf
variable {P:Program}
end
section

end
section
section
variable {P:Program}
end
section
variable {P:Program} {e:Env} {dst:Option Tmp} {ty:TypeId} {pos:String} {af:Array Edge} {g:Option (Nat×Bool)}
end
end
section
section
variable {P:Program}
end
end
end Go.HL
namespace Go.Proofs.YtbmggbfabohegaaGreatDoor
set_option maxRecDepth 100000
set_option linter.unusedVariables false
set_option linter.unusedSimpArgs false
section
open Go.Proofs.Tryz
open Go.HL
theorem zrb [Tracks] {x:Nat} (hx:x<16):Con prog 261 [.int .u64 (x:Int)] [] (fun y M'=> ∃n:Int,y= .int .i64 n/\M'=[]):=by
 refine uOb func261 ntmps261 ?_;refine gz8 ?_;refine zW rfl (fun h1=> ?_) (fun h1=> ?_)
 exfalso
 try simp at h1
 omega
 try simp at h1
 refine gz7 ?_;refine zW rfl (fun h2=> ?_) (fun h2=> ?_)
 exfalso
 try simp at h2
 omega
 try simp at h2
 refine gz7 ?_;refine zW rfl (fun h3=> ?_) (fun h3=> ?_)
 exfalso
 try simp at h3
 omega
 try simp at h3
 refine gz5 ?_;refine dq (zcc zoX ty5 rfl) ?_;refine dq (zaP (j:=x) ty9 rfl rfl (zFx hx) (Aa (Nat.lt_of_lt_of_le hx (An (by kernel_rfl))))) ?_;refine dq (zcc ty5 ty3 rfl) ?_;refine dq (zoO rfl rfl) ?_;refine gz3 ?_;exact zad rfl ⟨_,rfl,rfl⟩
theorem ztH [Tracks] {x:Nat} (hx:x<16):Con prog 188 [.int .u64 (x:Int)] [] (fun y M'=> ∃n:Int,y= .int .i64 n/\M'=[]):=by
 refine uOb func188 ntmps188 ?_;refine gz4 ?_;refine zdx rfl ?_;refine gz4 ?_;refine de rfl (za4 (M1:=[]) (R:=[]) zAB rfl (WeakL.refl _) (Ac _) (zrb hx) ?_)
 rintro _ _ ⟨n7,rfl,rfl⟩;refine gz3 ?_;exact zad rfl ⟨_,rfl,rfl⟩
theorem zfa [Tracks] {l:List Asset} {v:Value} {fid:FuncId} {caps:List HVal} {c:Asset->Asset->Int} {n:Int} (hca:Callable prog fid) (hp: ∀x y,ConP prog fid ([zbX x,zbX y]++caps) (.int .i64 (c x y))) (hn:n=l.length) (hl:l.length<=1000000):Con prog 331 [.raw v,.int .i64 0,.int .i64 n,.fn (.func fid) [] caps] [.arr v 3 (l.map zbX)] (fun x M'=>x= .tup []/\M'=[.arr v 3 ((zal c l).map zbX)]):=by
 subst hn;refine uOb func331 ntmps331 ?_;refine gz6 ?_;refine uV1 [8,2,12,41] (fun (k:Nat)=>[(8,.int .i64 (k:Int))]) (fun (k:Nat)=>[.arr v 3 ((zal c (l.take k)++l.drop k).map zbX)]) (fun (k:Nat)=>1<=k) (fun (k:Nat)=>l.length-k) (1) ?_ ?_ ?_ ?_;exact Ae _;exact ⟨rfl,trivial⟩;exact zn (by rw [zla])
 intro k hk
 refine gz6 ?_;refine uCo (fun h1=> ?_) fun h2=> ?_
 obtain ⟨x,hx⟩: ∃x,l[k]? =some x:=⟨_,Aa uO⟩
 refine zcT (i:=0) rfl (fun h0 he=> ?_) (fun b off cap hv hcap=> ?_)
 exfalso;have:=congrArg List.length he;simp [za5] at this;omega
 rw [show ((zal c (l.take k)++l.drop k).map zbX).length=l.length by simp [za5];omega] at hv;subst hv;refine gz9 ?_;refine uV2 [9,1,18,35] (fun (A:List Asset) (B:List Asset)=>[(9,.int .i64 (A.length:Int))]) (fun (A:List Asset) (B:List Asset)=>[.arr (.slice (some ⟨b,off,none⟩) l.length cap) 3 ((A++x::(B++l.drop (k+1))).map zbX)]) (fun (A:List Asset) (B:List Asset)=>A.length+B.length=k/\zdo c x (zal c (l.take k))=zdo c x A++B) (fun (A:List Asset) (B:List Asset)=>A.length) (zal c (l.take k)) ([]) ?_ ?_ ?_ ?_;exact ⟨by simp [za5];omega,by simp⟩;exact ⟨zQ (by simp [za5];omega),trivial⟩;exact zn (by rw [zi hx];rfl)
 intro A B hinv
 obtain ⟨hA,hB⟩:=hinv;have hlA:A.length<l.length:=by omega
 have hll:((A++x::(B++l.drop (k+1)))).length=l.length:=by simp;omega
 refine gz1 ?_;refine zbt (fun M=>M=[.arr (.slice (some ⟨b,off,none⟩) l.length cap) 3 ((A++x::(B++l.drop (k+1))).map zbX)]) [8,13] mixed ?_;refine gz7 ?_;refine ahg 7 rfl rfl (by kernel_rfl) (by kernel_rfl) rfl (fun hc=>by
  have hq:0<A.length:=by simpa using hc
  exact ⟨_,OpenTo.upd (t:=24) rfl (hc) (OpenTo.upd (t:=23) rfl (hc) (OpenTo.refl _)),zD (j:=A.length) zgp zcm rfl rfl (by rfl) uO⟩) ?_
 refine zpq 8 rfl rfl (by kernel_rfl) (by kernel_rfl) (by simp) rfl rfl (fun hc=>⟨_,OpenTo.upd (t:=25) rfl (hc) (OpenTo.refl _),fun M hM=>by
  subst hM;exact zab (i:=0) (j:=A.length) zcm rfl rfl rfl zgi rfl rfl rfl ⟨rfl,rfl⟩
  ⟩) ?_
 refine gz2 ?_;refine ahg 11 rfl rfl (by kernel_rfl) (by kernel_rfl) rfl (fun hc=>by
  have hq:0<A.length:=by simpa using hc
  exact ⟨_,OpenTo.upd (t:=28) rfl (hc) (OpenTo.refl _),zf4 rfl rfl uO uO⟩) ?_
 refine ahg 12 rfl rfl (by kernel_rfl) (by kernel_rfl) rfl (fun hc=>by
  have hq:0<A.length:=by simpa using hc
  exact ⟨_,OpenTo.upd (t:=29) rfl (hc) (OpenTo.upd (t:=27) rfl (hc) (OpenTo.refl _)),zD (j:=A.length-1) zgp zcm rfl rfl uO uO⟩) ?_
 refine zpq 13 rfl rfl (by kernel_rfl) (by kernel_rfl) (by simp) rfl rfl (fun hc=>⟨_,OpenTo.upd (t:=30) rfl (hc) (OpenTo.refl _),fun M hM=>by
  have hq:0<A.length:=by simpa using hc
  subst hM;exact zab (i:=0) (j:=A.length-1) zcm rfl rfl rfl (zhK hq) rfl rfl rfl ⟨rfl,rfl⟩
  ⟩) ?_
 refine uGy 14 rfl rfl (fun hc=>zao hca rfl rfl (WeakL.refl _) (hp _ _)) ?_;refine gz3 ?_;refine uCo (fun h3=> ?_) fun h4=> ?_
 obtain ⟨hA0,hcx⟩:=h3;obtain ⟨A1,y,rfl⟩:=zoT hA0;rw [ziT] at hcx;refine gz4 ?_;refine zbu (fun M=>M=[.arr (.slice (some ⟨b,off,none⟩) l.length cap) 3 (((A1++[y])++x::(B++l.drop (k+1))).map zbX)]) [9,13] mixed ?_;refine gz8 ?_;refine uB 8 rfl (zD (j:=(A1++[y]).length-1) zgp zcm rfl rfl uO uO) ?_;refine uM 9 rfl rfl (uW (zab (i:=0) (j:=(A1++[y]).length-1) zcm rfl rfl rfl ((zhK hA0).trans (by rw [ziT])) rfl rfl rfl ⟨rfl,rfl⟩)) ?_;refine gz2 ?_;refine uB 12 rfl (zD (j:=(A1++[y]).length) zgp zcm rfl rfl rfl uO) ?_;refine uM 13 rfl rfl (uW (zab (i:=0) (j:=(A1++[y]).length) zcm rfl rfl rfl zgi rfl rfl rfl ⟨rfl,rfl⟩)) ?_;refine uB 14 rfl (zD (j:=(A1++[y]).length) zgp zcm rfl rfl rfl uO) ?_;refine uF 15 ?_;refine zA (za0 (i:=0) (j:=(A1++[y]).length) (y:=x) (y':=y) zcm rfl rfl rfl rfl zgi rfl rfl rfl ?_)
 refine ⟨uE,?_⟩
 refine uB 16 rfl (zD (j:=(A1++[y]).length-1) zgp zcm rfl rfl uO uO) ?_;refine uF 17 ?_;refine zA (za0 (i:=0) (j:=(A1++[y]).length-1) (y:=y) (y':=x) zcm rfl rfl rfl rfl (by rw [A6 (by simp)];exact (zhK hA0).trans (by rw [ziT])) rfl rfl rfl ?_)
 refine ⟨uE,?_⟩
 refine gz8 ?_;exact ⟨A1,y::B,⟨by simp at hA⊢;omega,zpJ hB hcx⟩,by dsimp only;simp,⟨zQ (by simp),trivial⟩,uK,zn (by rw [zpT];rfl)⟩;have hins:=zpI (l:=l) (k:=k) hx hB (by intro h0;have:=h4 h0;omega);refine gz2 ?_;refine zM ?_;refine gz8 ?_;refine ⟨k+1,?_,?_,⟨rfl,trivial⟩,uK,zn (by rw [hins])⟩
 omega
 dsimp only;omega
 have hend:zal c (l.take k)++l.drop k=zal c l:=by rw [A8 uO,zI uO];simp
 refine gz2 ?_;refine zw ?_;refine gz1 ?_;exact ⟨_,_,Ghost.sub (Sub.refl _),_,_,rfl,Weak.refl _,rfl,by rw [hend]⟩
theorem zgG [Tracks] {l:List Asset} {v:Value} {fid:FuncId} {caps:List HVal} {c:Asset->Asset->Int} {lim:Int} (hca:Callable prog fid) (hp: ∀x y,ConP prog fid ([zbX x,zbX y]++caps) (.int .i64 (c x y))) (hl:l.length<=12):Con prog 285 [.raw v,.int .i64 0,.int .i64 (l.length:Int),.int .i64 lim,.fn (.func fid) [] caps] [.arr v 3 (l.map zbX)] (fun x M'=>x= .tup []/\M'=[.arr v 3 ((zal c l).map zbX)]):=by
 refine uOb func285 ntmps285 ?_;refine gz7 ?_;refine uU1 [1,3,10,138] (fun (u:Unit)=>[(1,.int .i64 0),(2,.int .i64 (l.length:Int))]) (fun (u:Unit)=>[.arr v 3 (l.map zbX)]) (fun (u:Unit)=>True) (fun (u:Unit)=>0) (()) ?_ ?_
 trivial
 intro u hu
 refine zdf ?_;refine zW rfl (fun h1=> ?_) (fun h1=> ?_)
 try simp at h1
 refine gz5 ?_;refine de rfl (uCx 0 zER rfl rfl (zfa (l:=l) hca hp uO uO) ?_)
 rintro _ _ ⟨rfl,rfl⟩;refine gz2 ?_;exact zad rfl ⟨rfl,rfl⟩
 exfalso
 try simp at h1
 omega
theorem zfG [Tracks] {l:List Asset} {v:Value} {fid:FuncId} {caps:List HVal} {c:Asset->Asset->Int} (hca:Callable prog fid) (hp: ∀x y,ConP prog fid ([zbX x,zbX y]++caps) (.int .i64 (c x y))) (hl:l.length<=12):Con prog 230 [.raw v,.fn (.func fid) [] caps] [.arr v 3 (l.map zbX)] (fun x M'=>x= .tup []/\M'=[.arr v 3 ((zal c l).map zbX)]):=by
 refine uOb func230 ntmps230 ?_;refine gz2 ?_;refine de rfl (zaR (i:=0) zgp rfl rfl ?_)
 refine gz6 ?_;refine dq (z8 (zcc ty3 zkL rfl) (congrArg _ (zB9 uO))) ?_;refine de rfl (za4 (M1:=[]) (R:=[_]) zAj rfl (WeakL.refl _) (Ac _) (ztH (x:=l.length) uO) ?_)
 rintro _ _ ⟨n11,rfl,rfl⟩;refine gz1 ?_;refine de rfl (uCx 0 zEG rfl rfl (zgG hca hp hl) ?_)
 rintro _ _ ⟨rfl,rfl⟩;refine gz1 ?_;exact ⟨_,_,Ghost.sub (Sub.refl _),_,_,rfl,Weak.refl _,rfl,rfl⟩
end
section
open Go.HL
set_option linter.unusedSimpArgs false
end
section
open Go.Proofs.Tryz
open Go.HL
theorem znL [Tracks] {x:Asset}:ConP prog 151 [zbX x] (.int .i64 (assetFault x)):=by
 refine uOb func151 ntmps151 ?_;refine gz9 ?_;refine dq (uCl zbG rfl zaf) ?_;refine gz4 ?_;refine uGr rfl (fun hc=>uCl zbG rfl zaf) ?_;refine gz4 ?_;refine uCo (fun h1=> ?_) fun h2=> ?_
 refine gz4 ?_;refine uRp ?_
 simp_all [assetFault]
 refine gz3 ?_;refine dq (uCl zcy rfl zag) ?_;refine gz2 ?_;refine uCo (fun h3=> ?_) fun h4=> ?_
 refine gz4 ?_;refine uRp ?_
 simp_all [assetFault]
 refine gz7 ?_;refine uRp ?_
 simp_all [assetFault]
theorem zm6 [Tracks] {l:List Asset} (hl:l.length<=1000000):ConP prog 69 [zjC l] (.int .i64 (zdu l)):=by
 refine uOb func69 ntmps69 ?_;refine gz9 ?_;refine uCo (fun h1=> ?_) fun h2=> ?_
 refine gz4 ?_;refine uRp ?_
 (rw [zdu,if_pos uO])
 refine gz9 ?_;refine uT1 [2,4,11,24] (fun k=>[(11,.int .i64 k)]) (fun k=>[]) (fun k=>k<=l.length/\(zdu l=zeV l k (l.drop k))) (fun k=>l.length-k) (0) ?_ ?_;refine ⟨Ad _,?_⟩
 rw [zdu,if_neg uO];rfl;rintro k ⟨hk,hg⟩;refine gz4 ?_;refine uCo (fun h3=> ?_) fun h4=> ?_
 obtain ⟨x,hx⟩: ∃x,l[k]? =some x:=⟨_,Aa h3⟩
 have hdx:=zi hx;rw [hdx] at hg;refine gz8 ?_;refine de rfl (zj zcm rfl fun b4=> ?_)
 refine gz1 ?_;refine de0 (zl zcm rfl rfl rfl rfl rfl ?_)
 refine gz1 ?_;refine ze (zm 4 rfl) ?_;refine gz3 ?_;refine dq (uCl zDu rfl znL) ?_;refine gz6 ?_;refine uCo (fun h5=> ?_) fun h6=> ?_
 refine gz5 ?_;refine uRp ?_
 (rw [hg];simp_all [zeV,leS])
 refine gz2 ?_;refine uDr mixed ?_;refine gz8 ?_;refine uGy 8 rfl rfl (fun hc=>by have hq:=hc;(try simp at hq);exact zB (j:=k-1) (a:=l.getD (k-1) zjN) zgp zcm rfl rfl uO (getD_some uO)) ?_;refine gz5 ?_;refine uCo (fun h7=> ?_) fun h8=> ?_
 refine gz4 ?_;refine uRp ?_
 (rw [hg];simp_all [zeV,leS])
 refine gz7 ?_;refine ⟨k+1,?_,?_,⟨rfl,trivial⟩,uK,Ac _⟩
 refine ⟨by omega,?_⟩
 rw [hg];simp_all [zeV,leS]
 dsimp only;omega
 have hnk:l.length<=k:=by omega
 obtain rfl:k=l.length:=by omega
 rw [zI (Ae _)] at hg;refine gz2 ?_;refine zw ?_;refine gz6 ?_;refine uRp ?_
 (rw [hg];simp_all [zeV,leS])
theorem zm7 [Tracks] {l:List HL.Place} (hl:l.length<=1000000):ConP prog 70 [zoH l] (.int .i64 (zdv l)):=by
 refine uOb func70 ntmps70 ?_;refine gz9 ?_;refine uCo (fun h1=> ?_) fun h2=> ?_
 refine gz4 ?_;refine uRp ?_
 (rw [zdv,if_pos uO])
 refine gz9 ?_;refine uT1 [2,3,10,29] (fun k=>[(10,.int .i64 k)]) (fun k=>[]) (fun k=>k<=l.length/\(zdv l=zem l k (l.drop k))) (fun k=>l.length-k) (0) ?_ ?_;refine ⟨Ad _,?_⟩
 rw [zdv,if_neg uO];rfl;rintro k ⟨hk,hg⟩;refine gz4 ?_;refine uCo (fun h3=> ?_) fun h4=> ?_
 obtain ⟨x,hx⟩: ∃x,l[k]? =some x:=⟨_,Aa h3⟩
 have hdx:=zi hx;rw [hdx] at hg;refine gz8 ?_;refine de rfl (zj zkK rfl fun b4=> ?_)
 refine gz1 ?_;refine de0 (zl zkK rfl rfl rfl rfl rfl ?_)
 refine gz1 ?_;refine ze (zm 4 rfl) ?_;refine gz4 ?_;refine dq (uCl zbG rfl zaf) ?_;refine gz3 ?_;refine uCo (fun h5=> ?_) fun h6=> ?_
 refine gz4 ?_;refine uRp ?_
 (rw [hg];simp_all [zem,leS])
 refine gz3 ?_;refine dq (uCl zcy rfl zag) ?_;refine gz2 ?_;refine uCo (fun h7=> ?_) fun h8=> ?_
 refine gz4 ?_;refine uRp ?_
 (rw [hg];simp_all [zem,leS])
 refine uDr mixed ?_;refine gz8 ?_;refine uGy 8 rfl rfl (fun hc=>by have hq:=hc;(try simp at hq);exact zB (j:=k-1) (a:=l.getD (k-1) zuj) zxf zkK rfl rfl uO (getD_some uO)) ?_;refine gz6 ?_;refine uCo (fun h9=> ?_) fun h10=> ?_
 refine gz4 ?_;refine uRp ?_
 (rw [hg];simp_all [zem,leS])
 refine gz8 ?_;refine ⟨k+1,?_,?_,⟨rfl,trivial⟩,uK,Ac _⟩
 refine ⟨by omega,?_⟩
 rw [hg];simp_all [zem,leS]
 dsimp only;omega
 have hnk:l.length<=k:=by omega
 obtain rfl:k=l.length:=by omega
 rw [zI (Ae _)] at hg;refine gz2 ?_;refine zw ?_;refine gz6 ?_;refine uRp ?_
 (rw [hg];simp_all [zem,leS])
theorem zqi [Tracks] {x y:Asset}:ConP prog 231 [zbX x,zbX y] (.int .i64 (byValue x y)):=by
 refine uOb func231 ntmps231 ?_;refine gz5 ?_;refine uDr mixed ?_;refine gz4 ?_;refine uB 4 rfl (uCl zcZ rfl zS) ?_;refine gz4 ?_;refine uB 9 rfl (uCl zce rfl zL) ?_;refine uB 10 rfl (za (hs:=[_,_]) zah ty3 rfl rfl (by decide) (by decide) rfl) ?_;refine uB 11 rfl (uCl zfz rfl (zbd (l:=[_,_]) (by simp))) ?_;refine gz3 ?_;refine zx rfl ?_
 rfl
theorem zwa [Tracks] {l:List Asset} {pos:Str} (hl:l.length<=12):ConP prog 152 [zjC l,.str pos] (zjC (ofP l pos)):=by
 refine uOb func152 ntmps152 ?_;refine gz6 ?_;refine ze (zN 3) ?_;refine gz7 ?_;refine uV2 [5,1,7,1,10,13] (fun (k:Nat) (u:Value)=>[(10,.int .i64 k),(5,.raw u)]) (fun (k:Nat) (u:Value)=>[.arr u 3 ((zhx (l.take k) pos).map zbX)]) (fun (k:Nat) (u:Value)=>k<=l.length/\(True)) (fun (k:Nat) (u:Value)=>l.length-k) (0) (.slice none 0 0) ?_ ?_ ?_ ?_;exact ⟨Ad _,by simp_all⟩;exact ⟨rfl,rfl,trivial⟩;exact zn (by simp [zhx])
 intro k u hinv
 obtain ⟨hk,-⟩:=hinv;refine gz4 ?_;refine uCo (fun h1=> ?_) fun h2=> ?_
 obtain ⟨x,hx⟩: ∃x,l[k]? =some x:=⟨_,Aa h1⟩
 have hdx:=zi hx;refine gz7 ?_;refine de rfl (zj zcm rfl fun b7=> ?_)
 refine de0 (zl zcm rfl rfl rfl rfl rfl ?_)
 refine gz1 ?_;refine ze (zm 7 rfl) ?_;refine gz6 ?_;refine uCo (fun h3=> ?_) fun h4=> ?_
 refine gz3 ?_;refine dq (za (hs:=[_]) zgp zcm rfl rfl (by decide) (by decide) rfl) ?_;have hal:(zhx (l.take k) pos).length<=12:=Au (zpr _ _) uSo;refine de rfl (zO (i:=0) zgp zcm rfl rfl rfl rfl rfl (by simp [zaw,zb]) uSo fun v21=> ?_)
 refine gz8 ?_;exact ⟨k+1,_,⟨by omega,trivial⟩,uD,⟨rfl,rfl,trivial⟩,uK,zn (by dsimp only;rw [zp1 hx,if_pos uSa];simp)⟩;refine gz7 ?_;exact ⟨k+1,_,⟨by omega,trivial⟩,uD,⟨rfl,rfl,trivial⟩,uK,zn (by dsimp only;rw [zp1 hx,if_neg uSa];simp)⟩;have hnk:l.length<=k:=by omega
 obtain rfl:k=l.length:=by omega
 rw [Ak];refine gz2 ?_;refine zM ?_;refine gz2 ?_;have hal:=zpr l pos;refine gz2 ?_;refine de rfl (uCx 0 zD9 rfl rfl (zfG (l:=zhx l pos) (c:=byValue) (caps:=[]) zEa (fun x y=>zqi) uO) ?_)
 rintro _ _ ⟨rfl,rfl⟩;refine gz6 ?_;exact zlD (M:=[]) 4 rfl rfl rfl
theorem zqj [Tracks] {l:List Asset} {p:List HL.Place} (hl:l.length<=12) (hp:p.length<=10) (hm: ∀x∈p,0<=x.Many) (hv: ∀x∈l,-1000000<=x.Value/\x.Value<=1000000):ConP prog 71 [zjC l,zoH p] (.tup [.int .i64 (zeM (zaE (ofP l) p)),eSs (zqH (zaE (ofP l) p))]):=by
 have hon: ∀s,(ofP l s).length<=12:=fun s=>Au (zBF l s) hl
 refine uOb func71 ntmps71 ?_;refine zaz ?_;refine ze (zN 1) ?_;refine gz7 ?_;refine uV2 [6,2,9,2,12,1,15,34] (fun (i:Nat) (u:Value)=>[(15,.int .i64 i),(6,.int .i64 (zeM (zaE (ofP l) (p.take i)))),(7,.raw u)]) (fun (i:Nat) (u:Value)=>[.arr u 1 (((zaE (ofP l) (p.take i)).map (·.Player)).map .str)]) (fun (i:Nat) (u:Value)=>i<=p.length/\(True)) (fun (i:Nat) (u:Value)=>p.length-i) (0) (.slice none 0 0) ?_ ?_ ?_ ?_;exact ⟨Ad _,by simp_all⟩;exact ⟨rfl,zQ (by simp [zaE,zeM]),rfl,trivial⟩;exact zn (by simp [zaE])
 intro i u hinv
 obtain ⟨hi,-⟩:=hinv;refine gz4 ?_;refine uCo (fun h1=> ?_) fun h2=> ?_
 obtain ⟨x,hx⟩: ∃x,p[i]? =some x:=⟨_,Aa h1⟩
 have hdx:=zi hx;refine gz7 ?_;refine de rfl (zj zkK rfl fun b9=> ?_)
 refine de0 (zl zkK rfl rfl rfl rfl rfl ?_)
 refine gz1 ?_;refine ze (zm 9 rfl) ?_;refine gz4 ?_;refine dq (uCl zDv rfl (zwa (by assumption))) ?_;refine gz2 ?_;have hx0:=hm x (Ab hx);have hon1:=hon x.Position;obtain ⟨N,hN⟩: ∃N:Nat,(if ((ofP l x.Position).length:Int)<x.Many then ((ofP l x.Position).length:Int) else x.Many)=(N:Int):=⟨_,(Int.toNat_of_nonneg (by split<;>omega)).symm⟩
 have hNle:N<=(ofP l x.Position).length:=by split at hN<;>omega
 refine gz6 ?_;refine dq (z8 (zvH rfl rfl) (congrArg _ hN)) ?_;refine dq (zaQ (h:=N) zgp zcm rfl rfl ⟨_,_,rfl,rfl⟩ uO hNle) ?_;refine gz3 ?_;have hCl:((List.drop 0 (List.take N (ofP l x.Position)))).length<=12:=by simp;omega
 have hCm: ∀y∈(List.drop 0 (List.take N (ofP l x.Position))),y∈l:=fun y hy=>by
  have:=AL (List.mem_of_mem_drop hy);unfold ofP zhx at this;exact (List.mem_filter.1 ((zec _).1 this)).1
 generalize hCd:List.drop 0 (List.take N (ofP l x.Position))=C at*
 refine gz1 ?_;refine uV2 [6,2,12,1,31,17] (fun (k:Nat) (w:Value)=>[(31,.int .i64 k),(6,.int .i64 (zeM ((zaE (ofP l) (p.take i))++((C.take k).filter (fun y=>decide (0<y.Value)))))),(7,.raw w)]) (fun (k:Nat) (w:Value)=>[.arr w 1 ((((zaE (ofP l) (p.take i))++((C.take k).filter (fun y=>decide (0<y.Value)))).map (·.Player)).map .str)]) (fun (k:Nat) (w:Value)=>k<=C.length/\(True)) (fun (k:Nat) (w:Value)=>C.length-k) (0) (u) ?_ ?_ ?_ ?_;exact ⟨Ad _,by simp_all⟩;exact ⟨rfl,zQ (by simp),rfl,trivial⟩;exact zn (by simp)
 intro k w hinv
 obtain ⟨hk,-⟩:=hinv;refine gz4 ?_;refine uCo (fun h3=> ?_) fun h4=> ?_
 obtain ⟨y,hy⟩: ∃y,C[k]? =some y:=⟨_,Aa h3⟩
 have hdy:=zi hy;refine gz7 ?_;refine de rfl (zj zcm rfl fun b12=> ?_)
 refine de0 (zl zcm rfl rfl rfl rfl rfl ?_)
 refine gz1 ?_;refine ze (zm 12 rfl) ?_;refine gz5 ?_;refine uCo (fun h5=> ?_) fun h6=> ?_
 refine gz4 ?_;have hb1:=ztT (f:=ofP l) (p:=p) (i:=i) (fun s m y=>zqC) hon hp hv;have hb2:=zCK (k:=k) hCm hCl hv;have hb3:=hv y (hCm y (Ab hy));have hb4:=zuB (zaE (ofP l) (p.take i)) ((C.take k).filter (fun y=>decide (0<y.Value)));refine gz7 ?_;refine dq (za (hs:=[_]) zp ty9 rfl rfl (by decide) (by decide) rfl) ?_;refine de rfl (zO (i:=0) zp ty9 rfl rfl rfl rfl rfl (by simp [zaw,zb]) (by simp only [Ag,Aw,Ai,AD];omega) fun v46=> ?_)
 refine gz8 ?_;exact ⟨k+1,_,⟨by omega,trivial⟩,uD,⟨rfl,zQ (by rw [zmy hy,if_pos uSa,<-AV,zuB _ [y]];simp [zeM]),rfl,trivial⟩,uK,zn (by dsimp only;rw [zmy hy,if_pos uSa];simp)⟩;refine gz7 ?_;exact ⟨k+1,_,⟨by omega,trivial⟩,uD,⟨rfl,zQ (by rw [zmy hy,if_neg uO];simp),rfl,trivial⟩,uK,zn (by dsimp only;rw [zmy hy,if_neg uO];simp)⟩;have hnk:C.length<=k:=by omega
 obtain rfl:k=C.length:=by omega
 refine gz2 ?_;refine zM ?_;refine gz7 ?_;exact ⟨i+1,_,⟨by omega,trivial⟩,uD,⟨rfl,zQ (by rw [zmV _ hx,zrT hN,hCd,Ak]),rfl,trivial⟩,uK,zn (by dsimp only;rw [zmV _ hx,zrT hN,hCd,Ak])⟩;have hni:p.length<=i:=by omega
 obtain rfl:i=p.length:=by omega
 refine gz2 ?_;refine zM ?_;refine gz2 ?_;rw [Ak];refine gz2 ?_;refine de rfl (uCx 0 zDw rfl rfl (zsO (l:=(zaE (ofP l) p).map (·.Player)) (by have hb1:=ztT (f:=ofP l) (p:=p) (i:=p.length) (fun s m y=>zqC) hon hp hv;rw [Ak] at hb1;simp;omega)) ?_)
 rintro _ _ ⟨rfl,rfl⟩;refine gz8 ?_;exact zlD (M:=[]) 5 rfl rfl rfl
end
section
open Go.Proofs.Tryz
open Go.HL
theorem zqh [Tracks] {l:List Asset} {p:List HL.Place} (hl:l.length<=11) (hp:p.length<=1000000):ConP prog 29 [zjC l,zoH p] (.tup [.int .i64 (if zld l p !=0 then 0 else zuA l p),eSs (if zld l p !=0 then [] else zqH (zaE (ofP l) p)),.int .i64 (zld l p)]):=by
 refine uOb func29 ntmps29 ?_;refine gz8 ?_;refine dq (uCl ca69 rfl (zm6 uO)) ?_;refine gz1 ?_;refine dq (uCl ca70 rfl (zm7 (by assumption))) ?_;refine dq (za (hs:=[_,_]) zeh zgA rfl rfl (by decide) (by decide) rfl) ?_;refine dq (uCl zk5 rfl (zch (l:=[_,_]) (by simp))) ?_;refine gz6 ?_;refine uCo (fun h1=> ?_) fun h2=> ?_
 refine gz7 ?_
 (refine zaq rfl (zyF ?_ ?_ (Weak.refl _))
  rw [if_pos (by simpa [zld] using h1)];exact Weak.refl _;rw [if_pos (by simpa [zld] using h1)];exact zt 1)
 refine gz2 ?_;obtain ⟨hca0,hcp0⟩:=zBG (l:=l) (p:=p) (by simpa [zld] using h2);obtain ⟨hsr,haf⟩:=zrn hca0;obtain ⟨hmm,hp10⟩:=zro hcp0;have hvv: ∀x∈l,-1000000<=x.Value/\x.Value<=1000000:=fun x hx=>(zmN (haf x hx)).2.2
 refine gz3 ?_;refine dq (uCl ca71 rfl (zqj uO (by assumption) uSa (by assumption))) ?_;refine zdg ?_
 (refine zx rfl ?_
  have h0:zld l p=0:=by simpa [zld] using h2
  simp [h0,zuA,zaH,za2])
end
section
open Go.Proofs.Tryz
open Go.HL
theorem zwY [Tracks]:KeyOk prog 366 zgv:=zf0 (cs:=fun x:Plc=>zb (zgv x)) zgV zE2 (fun x y=>⟨rfl,⟨_,_,_,_,ty9,rfl⟩,rfl,⟨_,_,_,_,ty3,rfl⟩,trivial⟩)
 (fun x y=>by obtain ⟨a,b⟩:=x;obtain ⟨c,d⟩:=y;show (_&&(_&&true))=_;rw [AF];simp [eqH,Prod.mk.injEq]) (fun x=>rfl)
theorem zuR [Tracks] {c:LineS->LineS->Int} (hO:Go.Sort.SWO (Go.Proofs.ltOf c)) {g:FuncId} (hg:Callable prog g) {cap:List HVal} (hc: ∀x y, @ConP zht prog g (zbP x::zbP y::cap) (.int .i64 (c x y))) {l:List LineS} (hl:l.length<=1000000) {v:Value}:
 Con prog 300 [.raw v,.fn (.func g) [] cap] [.arr v 3 (l.map zbP)] fun x M'=> ∃l':List LineS,x= .tup []/\l'.Perm l/\l'.Pairwise (fun a b=> ¬c b a<0)/\M'=[.arr v 3 (l'.map zbP)]:=
 znR (e:=zbP) zxq (Tryz.isAgg109) (Tryz.sizeOf109) (fun _=>rfl) (fun _=>rfl) (fun _=>rfl) hO hg hc hl
theorem zg5 [Tracks] {l:List StatS} (hl:l.length<=1000000):ztn prog 297 [.slice 2 (l.map zbe)] 2 (l.map zbe):=by
 refine uOb func297 ntmps297 ?_;refine gz6 ?_;refine de rfl (znU zb9 rfl rfl fun b4 hb4=> ?_)
 refine gz1 ?_;refine uCo (fun h1=> ?_) fun h2=> ?_
 refine gz4 ?_
 first|exact zth rfl rfl|exact zap (zN 2) rfl ⟨_,rfl,by simp_all⟩
 refine gz3 ?_;refine de rfl (zrs zb9 zcf fun v5=> ?_)
 refine gz1 ?_;refine de rfl (zO (i:=0) zb9 zcf rfl rfl rfl rfl rfl (by simp [zaw,zb]) (by first|omega|(simp;omega)) fun v7=> ?_)
 refine gz3 ?_
 first|exact zth rfl rfl|exact zap (zN 2) rfl ⟨_,rfl,by simp_all⟩
theorem zfF [Tracks] {l:List StatS} {fid:FuncId} {caps:List HVal} {p:StatS->Bool} {v:Value} (hca:Callable prog fid) (hp: ∀x,ConP prog fid ([zbe x]++caps) (.bool (p x))) (hl:l.length<=1000000):Con prog 298 [.raw v,.fn (.func fid) [] caps] [.arr v 2 (l.map zbe)] (fun x M'=> ∃u,x= .raw u/\M'=[.arr u 2 ((l.filter (fun x=> !p x)).map zbe)]):=by
 refine uOb func298 ntmps298 ?_;refine gz6 ?_;refine de rfl (zkz (hs':=[.slice 2 (l.map zbe),.fn (.func fid) [] caps]) zES rfl ⟨.arr (i:=0) rfl,.weak (Weak.refl _),trivial⟩ (zfP (p:=p) hca hp hl) rfl ?_)
 refine gz7 ?_;refine uCo (fun h1=> ?_) fun h2=> ?_
 ·refine gz5 ?_
  first
  | (refine zad rfl ⟨_,rfl,?_⟩
     rw [zhq p l 0 uO h1]
     done)
  | (refine zad rfl ⟨_,rfl,?_⟩
     rw [Ak,<-BC,hend];rfl)
 ·refine gz3 ?_;obtain ⟨i0,hi0,hil,⟨x0,hx0,hp0⟩,hb0⟩:=zgl p l 0 uO h2;rw [Int.zero_add] at hi0;obtain ⟨hD0,hn0⟩:=DelInv.start (p:=p) hil hx0 hp0 hb0;refine zcT (i:=0) rfl (fun h0 he=> ?_) (fun b off cap hv hcap=> ?_)
  ·exfalso;have:=congrArg List.length he;simp at this;subst this;simp at hil
  rw [Ag] at hv hcap;subst hv;refine gz2 ?_;refine dq (z8 (zbp rfl rfl (by rw [hi0];omega) (by rw [hi0];omega)) (congrArg _ (by rw [hi0]))) ?_;refine gz3 ?_;refine uV2 [5,3,16,20] (fun (j:Nat) (D:List StatS)=>[(6,.int .i64 (j:Int)),(5,.int .i64 (((l.take j).filter (fun x=> !p x)).length:Int))]) (fun (j:Nat) (D:List StatS)=>[.arr (.slice (some ⟨b,off,none⟩) l.length cap) 2 (D.map zbe)]) (fun (j:Nat) (D:List StatS)=>DelInv p l j D) (fun (j:Nat) (D:List StatS)=>l.length-j) (i0+1) (l) ?_ ?_ ?_ ?_
  ·exact hD0
  ·exact ⟨rfl,zQ (by rw [hn0,hi0]),trivial⟩
  ·exact Ac _
  ·intro j D hD
   have hlt0:=hD.lt;have hle0:=hD.len;refine gz4 ?_
   first
   |refine de rfl (zaR (i:=0) zb9 rfl rfl ?_)
   |refine de rfl (zaR (i:=1) zb9 rfl rfl ?_)
   |refine de rfl (zaR (i:=2) zb9 rfl rfl ?_)
   |refine de rfl (zaR (i:=3) zb9 rfl rfl ?_)
   refine gz2 ?_;refine uCo (fun h3=> ?_) fun h4=> ?_
   ·obtain ⟨x,hx⟩: ∃x,l[j]? =some x:=⟨_,Aa uO⟩
    refine gz7 ?_;refine dq (zD (j:=j) zb9 zcf rfl rfl rfl uO) ?_;refine de rfl (zab (i:=0) (j:=j) zcf rfl rfl rfl (hD.get hx) rfl rfl rfl ?_)
    refine de rfl (zj zcf rfl fun b7=> ?_)
    refine de0 (zl zcf rfl rfl rfl rfl rfl ?_)
    refine gz1 ?_;refine ze (zm 7 rfl) ?_;refine gz3 ?_;refine dq (zao hca rfl rfl (WeakL.refl _) (hp _)) ?_;refine gz2 ?_;refine uCo (fun h5=> ?_) fun h6=> ?_
    ·refine gz4 ?_;refine dq (zD (j:=((l.take j).filter (fun x=> !p x)).length) zb9 zcf rfl rfl rfl (by have:=hD.lt;omega)) ?_;refine de0 (za0 (i:=0) (j:=((l.take j).filter (fun x=> !p x)).length) (y:=D[((l.take j).filter (fun x=> !p x)).length]'(by have:=hD.lt;have:=hD.len;omega)) (y':=x) zcf rfl rfl rfl rfl (Aa _) rfl rfl rfl ?_)
     refine gz3 ?_;refine dq (zbp rfl rfl uO (by have:=hD.lt;omega)) ?_;refine gz9 ?_
     first
     |exact ⟨j+1,_,(hD.keep hx uSa).1,uD,⟨rfl,zQ (by rw [(hD.keep hx uSa).2];rfl),trivial⟩,uK,Ac _⟩
     |exact ⟨j+1,_,(hD.skip hx uSa).1,uD,⟨rfl,zQ (by rw [(hD.skip hx uSa).2]),trivial⟩,uK,Ac _⟩
    ·refine gz8 ?_
     first
     |exact ⟨j+1,_,(hD.keep hx uSa).1,uD,⟨rfl,zQ (by rw [(hD.keep hx uSa).2];rfl),trivial⟩,uK,Ac _⟩
     |exact ⟨j+1,_,(hD.skip hx uSa).1,uD,⟨rfl,zQ (by rw [(hD.skip hx uSa).2]),trivial⟩,uK,Ac _⟩
   ·obtain rfl:j=l.length:=by have:=hD.jle;omega
    have hend:=hD.done;refine gz2 ?_;refine zM ?_;refine gz5 ?_;refine dq (zeT (l:=((l.take l.length).filter (fun x=> !p x)).length) zb9 zcf rfl ⟨_,_,rfl,rfl⟩ rfl uO uO hcap) ?_;refine de0 (zeF (i:=0) (m:=((l.take l.length).filter (fun x=> !p x)).length) (((l.take l.length).filter (fun x=> !p x)).length) zb9 zcf rfl rfl rfl (zim uO hcap) rfl uO (Ae _) (by rw [Ag,hD.len];omega) ?_)
    refine gz4 ?_;refine dq (zgn (h:=((l.take l.length).filter (fun x=> !p x)).length) zb9 zcf rfl ⟨_,_,rfl,rfl⟩ uO) ?_;refine gz3 ?_
    first
    | (refine zad rfl ⟨_,rfl,?_⟩
       rw [zhq p l 0 uO h1]
       done)
    | (refine zad rfl ⟨_,rfl,?_⟩
       rw [Ak,<-BC,hend];rfl)
theorem zpz [Tracks] {a b:MendS}:ConP prog 218 [zbS a,zbS b] (.int .i64 (zeq a b)):=by
 refine uOb func218 ntmps218 ?_;refine gz5 ?_;refine uDr mixed ?_;refine gz4 ?_;refine uB 4 rfl (uCl zce rfl zL) ?_;refine gz4 ?_;refine uB 9 rfl (uCl zcZ rfl zS) ?_;refine gz4 ?_;refine uB 14 rfl (uCl zce rfl zL) ?_;refine gz4 ?_;refine uB 19 rfl (uCl zcZ rfl zS) ?_;refine uB 20 rfl (za (hs:=[_,_,_,_]) zah ty3 rfl rfl (by decide) (by decide) rfl) ?_;refine uB 21 rfl (uCl zfz rfl (zbd (l:=[_,_,_,_]) (by simp))) ?_;refine gz3 ?_;refine zx rfl ?_
 rfl
theorem zmP [Tracks] {a b:LineS}:ConP prog 296 [zbP a,zbP b] (.int .i64 (zc5 a b)):=by
 refine uOb func296 ntmps296 ?_;refine gz5 ?_;refine uDr mixed ?_;refine gz4 ?_;refine uB 4 rfl (uCl zce rfl zL) ?_;refine gz4 ?_;refine uB 9 rfl (uCl zcZ rfl zS) ?_;refine uB 10 rfl (za (hs:=[_,_]) zah ty3 rfl rfl (by decide) (by decide) rfl) ?_;refine uB 11 rfl (uCl zfz rfl (zbd (l:=[_,_]) (by simp))) ?_;refine gz3 ?_;refine zx rfl ?_
 rfl
theorem zjd [Tracks] {m:List MendS} (hl:m.length<=1000000):ConP prog 132 [zcq m] (.int .i64 (zbE m)):=by
 refine uOb func132 ntmps132 ?_;refine gz9 ?_;refine uCo (fun h1=> ?_) fun h2=> ?_
 ·refine gz4 ?_;refine uRp ?_
  (rw [zbE,if_pos uO];done)
 ·refine gz9 ?_;refine uT1 [2,3,10,57] (fun k=>[(10,.int .i64 k)]) (fun k=>[]) (fun k=>k<=m.length/\(zaT zaJ zeq zev m 0 m=zaT zaJ zeq zev m k (m.drop k))) (fun k=>m.length-k) (0) ?_ ?_
  ·exact ⟨Ad _,rfl⟩
  ·rintro k ⟨hk,hg⟩;refine gz4 ?_;refine uCo (fun h3=> ?_) fun h4=> ?_
   ·obtain ⟨x,hx⟩: ∃x,m[k]? =some x:=⟨_,Aa h3⟩
    have hdx:=zi hx;rw [hdx] at hg;refine gz8 ?_;refine de rfl (zj zbr rfl fun b4=> ?_)
    refine gz1 ?_;refine de0 (zl zbr rfl rfl rfl rfl rfl ?_)
    refine gz1 ?_;refine ze (zm 4 rfl) ?_;refine gz4 ?_;refine dq (uCl zbG rfl zaf) ?_;refine gz4 ?_;refine uGr rfl (fun hc=>uCl zbG rfl zaf) ?_;refine gz5 ?_;refine uGr rfl (fun hc=>uCl zbG rfl zaf) ?_;refine gz4 ?_;refine uCo (fun h5=> ?_) fun h6=> ?_
    ·refine gz4 ?_;refine uRp ?_
     (refine congrArg _ (zkF (c:=5) uO hg (by decide) ?_)
      rw [zaJ,if_pos]
      simp_all
      done)
    ·refine gz3 ?_;refine dq (uCl zmb rfl zcY) ?_;refine gz4 ?_;refine uGr rfl (fun hc=>uCl zcy rfl zag) ?_;refine gz4 ?_;refine uGr rfl (fun hc=>uCl zi4 rfl zbs) ?_;refine gz5 ?_;refine uGr rfl (fun hc=>uCl zcy rfl zag) ?_;refine gz3 ?_;refine uCo (fun h7=> ?_) fun h8=> ?_
     ·refine gz4 ?_;refine uRp ?_
      (refine congrArg _ (zkF (c:=1) uO hg (by decide) ?_)
       rw [zaJ,if_neg,if_pos]
       all_goals simp_all
       done)
     ·refine uDr mixed ?_;refine gz7 ?_;refine uGy 7 rfl rfl (fun hc=>by have hq:=hc;(try simp at hq);exact zB (j:=k-1) (a:=m.getD (k-1) zev) zgz zbr rfl rfl uO (getD_some uO)) ?_;refine gz1 ?_;refine uGy 9 rfl rfl (fun hc=>uCl zD3 rfl zpz) ?_;refine gz4 ?_;refine uCo (fun h9=> ?_) fun h10=> ?_
      ·refine gz4 ?_;refine uRp ?_
       (refine congrArg _ (zsh uO hg ?_ ?_ ?_)
        ·rw [zaJ,if_neg,if_neg]<;>simp_all
        ·simp_all
        ·simp_all)
      ·refine gz8 ?_;refine ⟨k+1,?_,?_,⟨rfl,trivial⟩,uK,Ac _⟩
       ·refine ⟨by omega,?_⟩
        rw [hg,zj1 (by rw [zaJ,if_neg uSa,if_neg uSa]) (by intro hk0;simp_all;try omega)]
       ·dsimp only;omega
   ·have hnk:m.length<=k:=by omega
    obtain rfl:k=m.length:=by omega
    rw [zI (Ae _)] at hg;refine gz2 ?_;refine zw ?_;refine gz6 ?_;refine uRp ?_
    (rw [zbE,if_neg uO,hg];rfl)
theorem zo6 [Tracks] {l:List StatS} (hl:l.length<=1000000):ConP prog 295 [zxI l] (.int .i64 (za3 l)):=by
 refine uOb func295 ntmps295 ?_;refine gz9 ?_;refine uCo (fun h1=> ?_) fun h2=> ?_
 ·refine gz4 ?_;refine uRp ?_
  first
  |(rw [za3,if_pos uO];done)
  |(rw [za3,if_neg uO,hg];rfl)
  | (refine congrArg _ (zdz (c:=5) uO hg (by decide) ?_)
     rw [zaj,if_pos]
     simp_all
     done)
  | (refine congrArg _ (zdz (c:=1) uO hg (by decide) ?_)
     rw [zaj,if_neg,if_pos]
     all_goals simp_all
     done)
  | (refine congrArg _ (ziZ uO hg ?_ ?_ ?_)
     ·rw [zaj,if_neg,if_neg]<;>simp_all
     ·simp_all
     ·simp_all)
 ·refine gz9 ?_;refine uT1 [2,3,10,34] (fun k=>[(10,.int .i64 k)]) (fun k=>[]) (fun k=>k<=l.length/\(zaT zaj zbb zdU l 0 l=zaT zaj zbb zdU l k (l.drop k))) (fun k=>l.length-k) (0) ?_ ?_
  ·exact ⟨Ad _,rfl⟩
  ·rintro k ⟨hk,hg⟩;refine gz4 ?_;refine uCo (fun h3=> ?_) fun h4=> ?_
   ·obtain ⟨x,hx⟩: ∃x,l[k]? =some x:=⟨_,Aa h3⟩
    have hdx:=zi hx;rw [hdx] at hg;refine gz8 ?_;refine de rfl (zj zcf rfl fun b4=> ?_)
    refine gz1 ?_;refine de0 (zl zcf rfl rfl rfl rfl rfl ?_)
    refine gz1 ?_;refine ze (zm 4 rfl) ?_;refine gz4 ?_;refine dq (uCl zbG rfl zaf) ?_;refine gz3 ?_;refine uCo (fun h5=> ?_) fun h6=> ?_
    ·refine gz4 ?_;refine uRp ?_
     first
     |(rw [za3,if_pos uO];done)
     |(rw [za3,if_neg uO,hg];rfl)
     | (refine congrArg _ (zdz (c:=5) uO hg (by decide) ?_)
        rw [zaj,if_pos]
        simp_all
        done)
     | (refine congrArg _ (zdz (c:=1) uO hg (by decide) ?_)
        rw [zaj,if_neg,if_pos]
        all_goals simp_all
        done)
     | (refine congrArg _ (ziZ uO hg ?_ ?_ ?_)
        ·rw [zaj,if_neg,if_neg]<;>simp_all
        ·simp_all
        ·simp_all)
    ·refine gz3 ?_;refine dq (uCl zcy rfl zag) ?_;refine gz7 ?_;refine uCo (fun h7=> ?_) fun h8=> ?_
     ·refine gz4 ?_;refine uRp ?_
      first
      |(rw [za3,if_pos uO];done)
      |(rw [za3,if_neg uO,hg];rfl)
      | (refine congrArg _ (zdz (c:=5) uO hg (by decide) ?_)
         rw [zaj,if_pos]
         simp_all
         done)
      | (refine congrArg _ (zdz (c:=1) uO hg (by decide) ?_)
         rw [zaj,if_neg,if_pos]
         all_goals simp_all
         done)
      | (refine congrArg _ (ziZ uO hg ?_ ?_ ?_)
         ·rw [zaj,if_neg,if_neg]<;>simp_all
         ·simp_all
         ·simp_all)
     ·refine uDr mixed ?_;refine gz8 ?_;refine uGy 8 rfl rfl (fun hc=>by have hq:=hc;(try simp at hq);exact zB (j:=k-1) (a:=l.getD (k-1) zdU) zb9 zcf rfl rfl uO (getD_some uO)) ?_;refine gz6 ?_;refine uCo (fun h9=> ?_) fun h10=> ?_
      ·refine gz4 ?_;refine uRp ?_
       first
       |(rw [za3,if_pos uO];done)
       |(rw [za3,if_neg uO,hg];rfl)
       | (refine congrArg _ (zdz (c:=5) uO hg (by decide) ?_)
          rw [zaj,if_pos]
          simp_all
          done)
       | (refine congrArg _ (zdz (c:=1) uO hg (by decide) ?_)
          rw [zaj,if_neg,if_pos]
          all_goals simp_all
          done)
       | (refine congrArg _ (ziZ uO hg ?_ ?_ ?_)
          ·rw [zaj,if_neg,if_neg]<;>simp_all
          ·simp_all
          ·simp_all)
      ·refine gz8 ?_;refine ⟨k+1,?_,?_,⟨rfl,trivial⟩,uK,Ac _⟩
       ·refine ⟨by omega,?_⟩
        rw [hg,zxa (by rw [zaj,if_neg uSa,if_neg uSa]) (by intro hk0;simp_all)]
       ·dsimp only;omega
   ·have hnk:l.length<=k:=by omega
    obtain rfl:k=l.length:=by omega
    rw [zI (Ae _)] at hg;refine gz2 ?_;refine zw ?_;refine gz6 ?_;refine uRp ?_
    first
    |(rw [za3,if_pos uO];done)
    |(rw [za3,if_neg uO,hg];rfl)
    | (refine congrArg _ (zdz (c:=5) uO hg (by decide) ?_)
       rw [zaj,if_pos]
       simp_all
       done)
    | (refine congrArg _ (zdz (c:=1) uO hg (by decide) ?_)
       rw [zaj,if_neg,if_pos]
       all_goals simp_all
       done)
    | (refine congrArg _ (ziZ uO hg ?_ ?_ ?_)
       ·rw [zaj,if_neg,if_neg]<;>simp_all
       ·simp_all
       ·simp_all)
theorem zo5 [Tracks] {l:List LineS} (hl:l.length<=1000000) (hL: ∀x∈l,x.Stats.length<=1000000):ConP prog 235 [zfb l] (.int .i64 (zaA l)):=by
 refine uOb func235 ntmps235 ?_;refine gz9 ?_;refine uCo (fun h1=> ?_) fun h2=> ?_
 ·refine gz4 ?_;refine uRp ?_
  first
  |(rw [zaA,if_pos uO];done)
  |(rw [zaA,if_neg uO,hg];rfl)
  | (refine congrArg _ (zbo (c:=5) uO hg (by decide) ?_)
     rw [zZ,if_pos]
     simp_all
     done)
  | (refine congrArg _ (zbo (c:=1) uO hg (by decide) ?_)
     rw [zZ,if_neg,if_pos]
     all_goals simp_all
     done)
  | (refine congrArg _ (zbo (c:=za3 x.Stats) uO hg ?_ ?_)
     ·simp_all
     ·rw [zZ,if_neg,if_neg]<;>simp_all)
  | (refine congrArg _ (zhr uO hg ?_ ?_ ?_)
     ·rw [zZ,if_neg,if_neg]<;>simp_all
     ·simp_all
     ·simp_all)
 ·refine gz9 ?_;refine uT1 [2,4,11,34] (fun k=>[(11,.int .i64 k)]) (fun k=>[]) (fun k=>k<=l.length/\(zaT zZ zc5 zjo l 0 l=zaT zZ zc5 zjo l k (l.drop k))) (fun k=>l.length-k) (0) ?_ ?_
  ·exact ⟨Ad _,rfl⟩
  ·rintro k ⟨hk,hg⟩;refine gz4 ?_;refine uCo (fun h3=> ?_) fun h4=> ?_
   ·obtain ⟨x,hx⟩: ∃x,l[k]? =some x:=⟨_,Aa h3⟩
    have hdx:=zi hx;rw [hdx] at hg;refine gz8 ?_;refine de rfl (zj zbU rfl fun b4=> ?_)
    refine gz1 ?_;refine de0 (zl zbU rfl rfl rfl rfl rfl ?_)
    refine gz1 ?_;refine ze (zm 4 rfl) ?_;refine gz5 ?_;refine dq (uCl zbG rfl zaf) ?_;refine gz3 ?_;refine uCo (fun h5=> ?_) fun h6=> ?_
    ·refine gz4 ?_;refine uRp ?_
     first
     |(rw [zaA,if_pos uO];done)
     |(rw [zaA,if_neg uO,hg];rfl)
     | (refine congrArg _ (zbo (c:=5) uO hg (by decide) ?_)
        rw [zZ,if_pos]
        simp_all
        done)
     | (refine congrArg _ (zbo (c:=1) uO hg (by decide) ?_)
        rw [zZ,if_neg,if_pos]
        all_goals simp_all
        done)
     | (refine congrArg _ (zbo (c:=za3 x.Stats) uO hg ?_ ?_)
        ·simp_all
        ·rw [zZ,if_neg,if_neg]<;>simp_all)
     | (refine congrArg _ (zhr uO hg ?_ ?_ ?_)
        ·rw [zZ,if_neg,if_neg]<;>simp_all
        ·simp_all
        ·simp_all)
    ·refine gz3 ?_;refine dq (uCl zmb rfl zcY) ?_;refine gz3 ?_;refine uCo (fun h7=> ?_) fun h8=> ?_
     ·refine gz4 ?_;refine uRp ?_
      first
      |(rw [zaA,if_pos uO];done)
      |(rw [zaA,if_neg uO,hg];rfl)
      | (refine congrArg _ (zbo (c:=5) uO hg (by decide) ?_)
         rw [zZ,if_pos]
         simp_all
         done)
      | (refine congrArg _ (zbo (c:=1) uO hg (by decide) ?_)
         rw [zZ,if_neg,if_pos]
         all_goals simp_all
         done)
      | (refine congrArg _ (zbo (c:=za3 x.Stats) uO hg ?_ ?_)
         ·simp_all
         ·rw [zZ,if_neg,if_neg]<;>simp_all)
      | (refine congrArg _ (zhr uO hg ?_ ?_ ?_)
         ·rw [zZ,if_neg,if_neg]<;>simp_all
         ·simp_all
         ·simp_all)
     ·refine gz7 ?_;refine dq (uCl zEJ rfl (zo6 (l:=x.Stats) (hL x (Ab hx)))) ?_;refine gz6 ?_;refine uCo (fun h9=> ?_) fun h10=> ?_
      ·refine gz5 ?_;refine uRp ?_
       first
       |(rw [zaA,if_pos uO];done)
       |(rw [zaA,if_neg uO,hg];rfl)
       | (refine congrArg _ (zbo (c:=5) uO hg (by decide) ?_)
          rw [zZ,if_pos]
          simp_all
          done)
       | (refine congrArg _ (zbo (c:=1) uO hg (by decide) ?_)
          rw [zZ,if_neg,if_pos]
          all_goals simp_all
          done)
       | (refine congrArg _ (zbo (c:=za3 x.Stats) uO hg ?_ ?_)
          ·simp_all
          ·rw [zZ,if_neg,if_neg]<;>simp_all)
       | (refine congrArg _ (zhr uO hg ?_ ?_ ?_)
          ·rw [zZ,if_neg,if_neg]<;>simp_all
          ·simp_all
          ·simp_all)
      ·refine gz2 ?_;refine uDr mixed ?_;refine gz7 ?_;refine uGy 7 rfl rfl (fun hc=>by have hq:=hc;(try simp at hq);exact zB (j:=k-1) (a:=l.getD (k-1) zjo) zmJ zbU rfl rfl uO (getD_some uO)) ?_;refine gz1 ?_;refine uGy 9 rfl rfl (fun hc=>uCl zAE rfl zmP) ?_;refine gz3 ?_;refine uCo (fun h11=> ?_) fun h12=> ?_
       ·refine gz4 ?_;refine uRp ?_
        first
        |(rw [zaA,if_pos uO];done)
        |(rw [zaA,if_neg uO,hg];rfl)
        | (refine congrArg _ (zbo (c:=5) uO hg (by decide) ?_)
           rw [zZ,if_pos]
           simp_all
           done)
        | (refine congrArg _ (zbo (c:=1) uO hg (by decide) ?_)
           rw [zZ,if_neg,if_pos]
           all_goals simp_all
           done)
        | (refine congrArg _ (zbo (c:=za3 x.Stats) uO hg ?_ ?_)
           ·simp_all
           ·rw [zZ,if_neg,if_neg]<;>simp_all)
        | (refine congrArg _ (zhr uO hg ?_ ?_ ?_)
           ·rw [zZ,if_neg,if_neg]<;>simp_all
           ·simp_all
           ·simp_all)
       ·refine gz7 ?_;refine ⟨k+1,?_,?_,⟨rfl,trivial⟩,uK,Ac _⟩
        ·refine ⟨by omega,?_⟩
         rw [hg,zj1 (by rw [zZ,if_neg uSa,if_neg uSa];simp_all) (by intro hk0;simp_all;try omega)]
        ·dsimp only;omega
   ·have hnk:l.length<=k:=by omega
    obtain rfl:k=l.length:=by omega
    rw [zI (Ae _)] at hg;refine gz2 ?_;refine zw ?_;refine gz6 ?_;refine uRp ?_
    first
    |(rw [zaA,if_pos uO];done)
    |(rw [zaA,if_neg uO,hg];rfl)
    | (refine congrArg _ (zbo (c:=5) uO hg (by decide) ?_)
       rw [zZ,if_pos]
       simp_all
       done)
    | (refine congrArg _ (zbo (c:=1) uO hg (by decide) ?_)
       rw [zZ,if_neg,if_pos]
       all_goals simp_all
       done)
    | (refine congrArg _ (zbo (c:=za3 x.Stats) uO hg ?_ ?_)
       ·simp_all
       ·rw [zZ,if_neg,if_neg]<;>simp_all)
    | (refine congrArg _ (zhr uO hg ?_ ?_ ?_)
       ·rw [zZ,if_neg,if_neg]<;>simp_all
       ·simp_all
       ·simp_all)
theorem zqa [Tracks] {s:StatS} {x:MendS}:ConP prog 299 [zbe s,.vptr (zb (zbS x)) 0] (.bool (s.Name==x.Stat)):=by
 refine uOb func299 ntmps299 ?_;refine zel ?_;refine zx rfl ?_
 rfl
theorem zsJ [Tracks] {l:List LineS} {m:List MendS} {n:Int} (hl:l.length<=1000) (hm:m.length<=100) (hL: ∀x∈l,x.Stats.length<=1000) (hs: ∀x∈l,(x.Stats.map (·.Name)).Nodup) (h40:GLen 40 (zet l m n)):ConP prog 236 [zfb l,zcq m,.int .i64 n] (.tup [zfb (mdL l m n),.int .i64 0]):=by
 refine uOb func236 ntmps236 ?_;refine gz5 ?_;refine de rfl (zaK fun m18=> ?_)
 refine gz2 ?_;refine ze (zbx (M':=[.map m18 (kk zgv (em fG ([]:GrV)))]++zfX 2 zbe ([]:GrV)) rfl) ?_;refine gz7 ?_;refine uV2 [10,1,21,14] (fun (k:Nat) (G:GrV)=>[(21,.int .i64 k)]) (fun (k:Nat) (G:GrV)=>[.map m18 (kk zgv (em fG G))]++zfX 2 zbe G) (fun (k:Nat) (G:GrV)=>k<=l.length/\(ANodup G/\zfs G=zc3 (l.take k))) (fun (k:Nat) (G:GrV)=>l.length-k) (0) ([]) ?_ ?_ ?_ ?_;exact ⟨Ad _,ANodup.nil,rfl⟩;exact ⟨rfl,trivial⟩;exact zn rfl
 intro k G hinv
 obtain ⟨hk,⟨hn,hc⟩⟩:=hinv;refine gz4 ?_;refine uCo (fun h1=> ?_) fun h2=> ?_
 obtain ⟨x,hx⟩: ∃x,l[k]? =some x:=⟨_,Aa h1⟩
 have hdx:=zi hx;refine gz7 ?_;refine de rfl (zj zbU rfl fun b10=> ?_)
 refine de0 (zl zbU rfl rfl rfl rfl rfl ?_)
 refine gz1 ?_;refine ze (zm 10 rfl) ?_;refine zgB mixed ?_;refine gz1 ?_;refine uB 1 rfl ((by first|exact zg zbU rfl ty9 (by decide) rfl|exact zd zbU rfl ty9 (by decide) rfl)) ?_;refine gz1 ?_;refine uB 3 rfl ((by first|exact zg zbU rfl ty3 (by decide) rfl|exact zd zbU rfl ty3 (by decide) rfl)) ?_;refine gz1 ?_;refine uB 5 rfl (zG (cs:=[_,_]) zgV zAR rfl) ?_;refine uB 6 rfl ((by first|exact zg zbU rfl zb9 (by decide) rfl|exact zd zbU rfl zb9 (by decide) rfl)) ?_;refine gz1 ?_;refine uF 8 ?_;refine zv rfl (uCa zEK rfl (zg5 (l:=x.Stats) (Au (hL x (Ab hx)) (by decide))) fun v33=> ?_)
 refine ⟨uE,?_⟩
 refine uF 9 ?_;refine zA (zq4 (zfU (i:=1) (s:=(x.Player,x.Week)) (f:=fG) (L:=G) (v:=(v33,x.Stats)) zkN zwY rfl rfl rfl rfl ⟨_,zxS (A:=[.map m18 (kk zgv (em fG (zz (x.Player,x.Week) (v33,x.Stats) G)))]) (s:=(x.Player,x.Week)) (v:=v33) (l:=x.Stats) hn,?_⟩))
 refine ⟨uE,?_⟩
 refine gz7 ?_;exact ⟨k+1,zz (x.Player,x.Week) (v33,x.Stats) G,⟨by omega,hn.put,by rw [zpB,hc,zwN hx]⟩,uD,⟨rfl,trivial⟩,uK,zn rfl⟩;have hnk:l.length<=k:=by omega
 obtain rfl:k=l.length:=by omega
 rw [Ak] at hc;refine gz2 ?_;refine zM ?_;refine gz9 ?_;refine uV2 [12,3,37,33] (fun (k:Nat) (G:GrV)=>[(37,.int .i64 k)]) (fun (k:Nat) (G:GrV)=>[.map m18 (kk zgv (em fG G))]++zfX 2 zbe G) (fun (k:Nat) (G:GrV)=>k<=m.length/\(ANodup G/\zfs G=zgw (zc3 l) (m.take k) n)) (fun (k:Nat) (G:GrV)=>m.length-k) (0) (G) ?_ ?_ ?_ ?_;exact ⟨Ad _,hn,hc⟩;exact ⟨rfl,trivial⟩;exact zn rfl
 intro k G hinv
 obtain ⟨hk,⟨hn,hc⟩⟩:=hinv;refine gz4 ?_;refine uCo (fun h3=> ?_) fun h4=> ?_
 obtain ⟨x,hx⟩: ∃x,m[k]? =some x:=⟨_,Aa h3⟩
 have hdx:=zi hx;refine gz7 ?_;refine de rfl (zj zbr rfl fun b12=> ?_)
 refine de0 (zl zbr rfl rfl rfl rfl rfl ?_)
 refine gz1 ?_;refine ze (zm 12 rfl) ?_;refine gz2 ?_;refine dq ((by first|exact zg zbr rfl ty3 (by decide) rfl|exact zd zbr rfl ty3 (by decide) rfl)) ?_;refine gz4 ?_;refine uCo (fun h5=> ?_) fun h6=> ?_
 refine gz8 ?_;exact ⟨k+1,G,⟨by omega,hn,by rw [zsd hx,zcE,if_pos uO];exact hc⟩,uD,⟨rfl,trivial⟩,uK,zn rfl⟩;refine gz3 ?_;refine dq ((by first|exact zg zbr rfl ty9 (by decide) rfl|exact zd zbr rfl ty9 (by decide) rfl)) ?_;refine gz1 ?_;refine dq ((by first|exact zg zbr rfl ty3 (by decide) rfl|exact zd zbr rfl ty3 (by decide) rfl)) ?_;refine gz1 ?_;refine dq (zG (cs:=[_,_]) zgV zAR rfl) ?_;refine de rfl (zj zgV rfl fun b13=> ?_)
 refine de0 (zl zgV rfl rfl rfl rfl rfl ?_)
 refine gz1 ?_;refine ze (zm 13 rfl) ?_;have hgl:=zBA (n:=n) hL hm hc (x.Player,x.Week);refine ze (zkq (A:=[.map m18 (kk zgv (em fG G))]) (G:=G) (G':=G) (s:=(x.Player,x.Week)) hn rfl) ?_;refine gz3 ?_;refine de rfl (zeG (i:=1) (s:=(x.Player,x.Week)) (z0:=gZ StatS) zkN zwY zb9 rfl rfl rfl rfl ?_)
 refine gz1 ?_;refine de rfl (uCx 0 zEL rfl rfl (zfF (l:=gLK (x.Player,x.Week) G) (p:=fun s=>s.Name==x.Stat) zEM (fun _=>zqa) uO) ?_)
 rintro _ _ ⟨u54,rfl,rfl⟩;refine gz2 ?_;refine uVj [14,1,55,11] (fun (w:Value)=>[(14,.raw w)]) (fun (w:Value)=> .arr w 2 ((zeu x (gLK (x.Player,x.Week) G)).map zbe)::([.map m18 (kk zgv (em fG G))]++zfX 2 zbe (G.filter fun q=>decide (q.1≠(x.Player,x.Week))))) (fun (w:Value)=>True) ?_ ?_
 skip
 refine gz1 ?_;refine dq ((by first|exact zg zbr rfl ty3 (by decide) rfl|exact zd zbr rfl ty3 (by decide) rfl)) ?_;refine gz3 ?_;refine uCo (fun h7=> ?_) fun h8=> ?_
 refine gz2 ?_;refine dq ((by first|exact zg zbr rfl ty9 (by decide) rfl|exact zd zbr rfl ty9 (by decide) rfl)) ?_;refine gz1 ?_;refine dq ((by first|exact zg zbr rfl ty3 (by decide) rfl|exact zd zbr rfl ty3 (by decide) rfl)) ?_;refine gz1 ?_;refine dq (zG (cs:=[_,_]) zcf zAQ rfl) ?_;refine dq (za (hs:=[_]) zb9 zcf rfl rfl (by decide) (by decide) rfl) ?_;refine de rfl (zO (i:=0) zb9 zcf rfl rfl rfl rfl rfl (by simp [zaw,zb]) (by have:=zsc x (gLK (x.Player,x.Week) G);unfold ztd at this;simp only [Ag,Ai,AD];omega) fun v65=> ?_)
 refine gz2 ?_;exact ⟨v65,trivial,⟨rfl,trivial⟩,uK,zn (by rw [zeu,if_pos (by assumption),Ay];rfl)⟩;refine gz1 ?_;exact ⟨u54,trivial,⟨rfl,trivial⟩,uK,zn (by rw [zeu,if_neg uSa,A3];rfl)⟩
 intro w _
 refine gz4 ?_;refine de0 (zmM (zfU (i:=1) (s:=(x.Player,x.Week)) (f:=fG) (L:=G) (v:=(w,zeu x (gLK (x.Player,x.Week) G))) zkN zwY rfl rfl rfl rfl ⟨_,ztY (A:=[.map m18 (kk zgv (em fG (zz (x.Player,x.Week) (w,zeu x (gLK (x.Player,x.Week) G)) G)))]) (s:=(x.Player,x.Week)) (v:=w) (l:=zeu x (gLK (x.Player,x.Week) G)) hn,?_⟩))
 refine gz7 ?_;exact ⟨k+1,zz (x.Player,x.Week) (w,zeu x (gLK (x.Player,x.Week) G)) G,⟨by omega,hn.put,by rw [zsd hx,<-hc,zx9 (n:=n) uO]⟩,uD,⟨rfl,trivial⟩,uK,zn rfl⟩;have hnk:m.length<=k:=by omega
 obtain rfl:k=m.length:=by omega
 rw [Ak] at hc;refine gz2 ?_;refine zM ?_;refine gz3 ?_;have hGl:=zBB hl hm hc;have hkl:(kk zgv (em fG G)).length=G.length:=by simp [kk]
 refine gz2 ?_
 focus first
 |refine de rfl (zea (i:=0) zkN rfl rfl ?_)
 |refine de rfl (zea (i:=1) zkN rfl rfl ?_)
 |refine de rfl (zea (i:=2) zkN rfl rfl ?_)
 |refine de rfl (zea (i:=3) zkN rfl rfl ?_)
 refine gz2 ?_;refine zW rfl (fun h9=> ?_) (fun h9=> ?_)
 exfalso
 try simp at h9
 omega
 try simp at h9
 refine gz5 ?_;refine ze (zN 3) ?_;refine gz3 ?_;refine de rfl (znY (i:=1) zkN rfl rfl fun r=> ?_)
 refine gz2 ?_;refine uV3 [6,2,15,3,75,19] (fun (vis:List Nat) (E:List (Plc×(Value×List StatS))) (u:Value)=>[(15,.raw u)]) (fun (vis:List Nat) (E:List (Plc×(Value×List StatS))) (u:Value)=>[.arr u 3 ((E.map zml).map zbP),.iter r m18 (kk zgv (em fG G)) vis]++zfX 2 zbe (zfE G (E.map (·.1)))) (fun (vis:List Nat) (E:List (Plc×(Value×List StatS))) (u:Value)=>VisOk (G) vis E/\(True)) (fun (vis:List Nat) (E:List (Plc×(Value×List StatS))) (u:Value)=>(G).length-vis.length) ([]) ([]) (.slice none 0 0) ?_ ?_ ?_ ?_;exact ⟨VisOk.nil _,trivial⟩;exact ⟨rfl,trivial⟩;exact zn (by simp only [A7,zyo];rfl)
 intro vis E u hinv
 obtain ⟨hvis,-⟩:=hinv;refine gz1 ?_;refine de rfl (znX (i:=1) (L:=G) (enc:=(fun p:Plc×(Value×List StatS)=>(zgv p.1,fG p.2))) rfl rfl (zs9 _ _ _) hvis.nd hvis.lt fun cb R vis' hnx=> ?_)
 refine gz3 ?_;refine uCo (fun h10=> ?_) fun h11=> ?_
 obtain ⟨j,q,hq,hj,rfl⟩:=hnx.t h10;have hroom:=hvis.room hq hj;have hstep:=hvis.step hq hj;have hqm:=Ab hq;refine gz4 ?_;refine de rfl (zmi (i:=1) (L:=G) (enc:=(fun p:Plc×(Value×List StatS)=>(zgv p.1,fG p.2))) rfl rfl (zs9 _ _ _) hq ?_)
 refine gz2 ?_;refine de rfl (zj zgV rfl fun b16=> ?_)
 refine de0 (zl zgV rfl rfl rfl rfl rfl ?_)
 refine gz2 ?_;refine ze (zm 16 rfl) ?_;have hqa:alk q.1 G=some q.2:=(zd3 hn).1 hqm;have hqx:q.1∉E.map (·.1):=zei.1 (hvis.fresh hn hq hj);obtain ⟨gv1,gl1⟩:=zE4 hqa;have hq40:=zCB h40 hc hqm;have hqn:=zE9 hs hc hqm;refine ze (zkq (A:=[.arr u 3 ((E.map zml).map zbP),.iter r m18 (kk zgv (em fG G)) (vis++[j])]) (G:=zfE G (E.map (·.1))) (G':=G) (s:=q.1) (zu6 hn) (zym hqx)) ?_;rw [zw4,gv1,gl1];refine gz3 ?_;refine de rfl (zaR (i:=0) (es:=q.2.2) zb9 rfl rfl ?_)
 refine gz2 ?_;refine zW rfl (fun h12=> ?_) (fun h12=> ?_)
 exfalso
 try simp at h12
 omega
 try simp at h12
 refine gz4 ?_;refine de rfl (za4 (M1:=[.arr q.2.1 2 (q.2.2.map zbe)]) (R:=_) zAw rfl (WeakL.refl _) (Ac _) (zpd (c:=zbb) (zoV zdc) zAx (fun _ _=> @zmO zht _ _) (l:=q.2.2) uO) ?_)
 rintro _ _ ⟨l',rfl,hp',hw',rfl⟩;obtain rfl:=zva hqn hp' hw';refine gz1 ?_;refine ze (zaB 17 (i:=0) rfl rfl) ?_;refine gz2 ?_;refine dq ((by first|exact zg zgV rfl ty9 (by decide) rfl|exact zd zgV rfl ty9 (by decide) rfl)) ?_;refine gz1 ?_;refine dq ((by first|exact zg zgV rfl ty3 (by decide) rfl|exact zd zgV rfl ty3 (by decide) rfl)) ?_;refine gz2 ?_;refine dq (zG (cs:=[_,_,_]) zbU zAP rfl) ?_;refine dq (za (hs:=[_]) zmJ zbU rfl rfl (by decide) (by decide) rfl) ?_;refine de rfl (zO (i:=0) zmJ zbU rfl rfl rfl rfl rfl (by simp [zaw,zb]) (by have:=hvis.len;simp only [Ag,Ai,AD];omega) fun v93=> ?_)
 refine gz3 ?_;exact ⟨_,E++[q],v93,⟨hstep,trivial⟩,by dsimp only;rw [Aw];simp only [Ai,AD];omega,⟨rfl,trivial⟩,uK,zn (by dsimp only;simp only [Ay,As,A7];rfl)⟩;obtain ⟨rfl,hlen⟩:=hnx.f h11;have hEp:=hvis.done hlen;refine gz2 ?_;refine zcU ?_;refine gz2 ?_;have hr0:zfE G (E.map (·.1))=[]:=zyn (fun q hq=>Bi (hEp.mem_iff.2 hq));rw [hr0];refine ze (zlk (i:=1) rfl) ?_;refine ze (zbx (M':=[.arr u 3 ((E.map zml).map zbP),.map m18 (kk zgv (em fG G))]) rfl) ?_;refine gz2 ?_;refine de rfl (za4 (M1:=[.arr u 3 ((E.map zml).map zbP)]) (R:=[.map m18 (kk zgv (em fG G))]) zEN rfl (WeakL.refl _) (Ac _) (zuR (c:=zc5) (zoV zjO) zAE (fun _ _=> @zmP zht _ _) (l:=E.map zml) (by have:=hEp.length_eq;simp only [Ag];omega)) ?_)
 rintro _ _ ⟨l',rfl,hp',hw',rfl⟩;obtain rfl:=zCA hc hEp hp' hw';refine gz1 ?_;refine ze (Ghost.only (i:=0) rfl) ?_;refine gz6 ?_;exact zlD (M:=[]) 6 rfl rfl rfl
theorem zsI [Tracks] {l:List LineS} {m:List MendS} {n:Int} (hl:l.length<=1000) (hm:m.length<=100) (hL: ∀x∈l,x.Stats.length<=1000) (h40:zaA l=0->GLen 40 (zet l m n)):ConP prog 159 [zfb l,zcq m,.int .i64 n] (.tup [zfb (zd2 l m n),.int .i64 (zd1 l m n)]):=by
 refine uOb func159 ntmps159 ?_;refine gz7 ?_;refine dq (uCl zEd rfl (zo5 (l:=l) uO (fun x hx=>Au (hL x hx) (by decide)))) ?_;refine gz1 ?_;refine dq (uCl zAa rfl (zjd (m:=m) uO)) ?_;refine dq (za (hs:=[_,_]) zeh zgA rfl rfl (by decide) (by decide) rfl) ?_;refine dq (uCl zk5 rfl (zch (l:=[_,_]) (by simp))) ?_;refine gz6 ?_;refine uCo (fun h1=> ?_) fun h2=> ?_
 refine gz6 ?_
 focus first
 |exact zaq rfl (zC (by rw [zd2,if_pos (by simpa using h1)];exact zt 3) (by rw [zd1,if_pos (by simpa using h1)];exact Weak.refl _))
 |exact zaq rfl (zC (by rw [zd2,if_neg (by simpa using h2),if_neg uSa];exact zt 3) (by rw [zd1,if_neg (by simpa using h2),if_neg uSa];exact Weak.refl _))
 | (refine zx rfl ?_
    rw [zd2,zd1,if_neg (by simpa using h2),if_pos uSa,if_neg (by simpa using h2),if_pos uSa])
 refine gz5 ?_;refine dq (uCl zi4 rfl zbs) ?_;refine gz2 ?_;refine uCo (fun h3=> ?_) fun h4=> ?_
 refine gz5 ?_
 focus first
 |exact zaq rfl (zC (by rw [zd2,if_pos (by simpa using h1)];exact zt 3) (by rw [zd1,if_pos (by simpa using h1)];exact Weak.refl _))
 |exact zaq rfl (zC (by rw [zd2,if_neg (by simpa using h2),if_neg uSa];exact zt 3) (by rw [zd1,if_neg (by simpa using h2),if_neg uSa];exact Weak.refl _))
 | (refine zx rfl ?_
    rw [zd2,zd1,if_neg (by simpa using h2),if_pos uSa,if_neg (by simpa using h2),if_pos uSa])
 refine gz6 ?_;refine dq (uCl zEe rfl (zsJ (l:=l) (m:=m) (n:=n) hl hm hL (zwL (zzu h2).1) (h40 (zzu h2).1))) ?_;refine gz6 ?_
 focus first
 |exact zaq rfl (zC (by rw [zd2,if_pos (by simpa using h1)];exact zt 3) (by rw [zd1,if_pos (by simpa using h1)];exact Weak.refl _))
 |exact zaq rfl (zC (by rw [zd2,if_neg (by simpa using h2),if_neg uSa];exact zt 3) (by rw [zd1,if_neg (by simpa using h2),if_neg uSa];exact Weak.refl _))
 | (refine zx rfl ?_
    rw [zd2,zd1,if_neg (by simpa using h2),if_pos uSa,if_neg (by simpa using h2),if_pos uSa])
end
section
open Go.Proofs.Tryz
open Go.HL
theorem zAO [Tracks]:KeyOk prog 227 zif:=zf0 (cs:=fun x:Num=>zb (zif x)) zq0 zEZ (fun x y=>⟨rfl,⟨_,_,_,_,ty9,rfl⟩,⟨rfl,⟨_,_,_,_,ty3,rfl⟩,trivial⟩⟩)
 (fun x y=>by obtain ⟨a,b⟩:=x;obtain ⟨c,d⟩:=y;show (_&&(_&&true))=_;rw [AF];simp [eqH,Prod.mk.injEq]) (fun x=>rfl)
theorem ziL [Tracks] {T:List Str} {l:List GameS} (hT:T.length<=1000000) (hl:l.length<=1000000) (hb:(∀x∈l,((-1000000000<=x.FNum/\x.FNum<=1000000000)/\ -1000000000<=x.FDen/\x.FDen<=1000000000)/\((-1000000000<=x.ONum/\x.ONum<=1000000000)/\ -1000000000<=x.ODen/\x.ODen<=1000000000))):ConP prog 60 [eSs T,zgI l] (.int .i64 (zdX T l)):=by
 refine uOb func60 ntmps60 ?_;refine gz6 ?_;refine dq (uCl zDi rfl (znB hT)) ?_;refine gz6 ?_;refine uCo (fun h1=> ?_) fun h2=> ?_
 ·refine gz5 ?_;refine zap Ghost.clear rfl ⟨?_,rfl⟩
  show HVal.int .i64 _=_
  try rw [hE]
  (rw [zdX,if_pos (by assumption)];done)
 ·refine gz3 ?_;have hz:zc9 T=0:=by first|assumption|simp_all
  have hE:zdX T l=zdM T l:=by rw [zdX,if_neg (by simp [hz])]
  refine gz5 ?_;refine uCo (fun h3=> ?_) fun h4=> ?_
  ·refine gz4 ?_;refine zap Ghost.clear rfl ⟨?_,rfl⟩
   show HVal.int .i64 _=_
   try rw [hE]
   (refine congrArg _ (zd4 (zbJ ?_) (by decide))
    omega)
  ·refine gz3 ?_;refine de rfl (zaK fun m22=> ?_)
   refine zaz ?_;refine uV1 [4,1,7,4,12,2,25,70] (fun (k:Nat)=>[(25,.int .i64 k),(7,.bool (zj2 l k))]) (fun (k:Nat)=>[.map m22 (kk zif (em HVal.bool (zjw (l.take k))))]) (fun (k:Nat)=>k<=l.length/\(zaX (zb3 T) zdT l 0 l=zaX (zb3 T) zdT l k (l.drop k))) (fun (k:Nat)=>l.length-k) (0) ?_ ?_ ?_ ?_
   ·exact ⟨Ad _,rfl⟩
   ·exact ⟨rfl,rfl,trivial⟩
   ·exact zn rfl
   ·intro k hinv
    obtain ⟨hk,hg⟩:=hinv;refine gz4 ?_;refine uCo (fun h5=> ?_) fun h6=> ?_
    ·obtain ⟨x,hx⟩: ∃x,l[k]? =some x:=⟨_,Aa h5⟩
     have hdx:=zi hx;rw [hdx] at hg;refine gz6 ?_;refine dq (zB zcI za7 rfl rfl rfl (by assumption)) ?_;refine gz1 ?_;refine de rfl (zj za7 rfl fun b9=> ?_)
     refine gz1 ?_;refine de0 (zl za7 rfl rfl rfl rfl rfl ?_)
     refine gz1 ?_;refine ze (zm 9 rfl) ?_;refine gz5 ?_;refine dq (uCl zmb rfl zcY) ?_;refine gz3 ?_;refine uCo (fun h7=> ?_) fun h8=> ?_
     ·refine gz4 ?_;refine zap Ghost.clear rfl ⟨?_,rfl⟩
      show HVal.int .i64 _=_
      try rw [hE]
      (refine congrArg _ (zd4 (e:=1) (zy ?_ hg ?_ ?_) ?_)
       ·omega
       ·unfold zb3
        simp_all
        done
       ·first|decide|assumption
       ·first|decide|assumption)
     ·refine gz4 ?_;refine dq (uCl zhI rfl (zK (l:=T) (s:=x.Home) uO)) ?_;refine gz5 ?_;refine uGr rfl (fun hc=>by have hq:=hc;(try simp at hq);exact uCl zhI rfl (zK (l:=T) (s:=x.Away) uO)) ?_;refine gz4 ?_;refine uCo (fun h9=> ?_) fun h10=> ?_
      ·refine gz4 ?_;refine zap Ghost.clear rfl ⟨?_,rfl⟩
       show HVal.int .i64 _=_
       try rw [hE]
       (refine congrArg _ (zd4 (e:=8) (zy ?_ hg ?_ ?_) ?_)
        ·omega
        ·unfold zb3
         simp_all
         done
        ·first|decide|assumption
        ·first|decide|assumption)
      ·refine gz8 ?_;refine uCo (fun h11=> ?_) fun h12=> ?_
       ·refine gz4 ?_;refine zap Ghost.clear rfl ⟨?_,rfl⟩
        show HVal.int .i64 _=_
        try rw [hE]
        (refine congrArg _ (zd4 (e:=6) (zy ?_ hg ?_ ?_) ?_)
         ·omega
         ·unfold zb3
          simp_all
          done
         ·first|decide|assumption
         ·first|decide|assumption)
       ·refine gz5 ?_;refine dq (zai (h:=zaa x) za7 rfl rfl rfl rfl) ?_;refine dq (uCl zDj rfl (zm1 (x:=x) (hb x (Ab hx)))) ?_;refine gz6 ?_;refine uCo (fun h13=> ?_) fun h14=> ?_
        ·refine gz5 ?_;refine zap Ghost.clear rfl ⟨?_,rfl⟩
         show HVal.int .i64 _=_
         try rw [hE]
         (refine congrArg _ (zd4 (e:=(zfW x)) (zy ?_ hg ?_ ?_) ?_)
          ·omega
          ·unfold zb3
           simp_all
           done
          ·first|decide|assumption
          ·first|decide|assumption)
        ·refine gz3 ?_;refine uDr mixed ?_;refine gz7 ?_;refine uGy 7 rfl rfl (fun hc=>by have hq:=hc;(try simp at hq);exact zB (j:=k-1) (a:=l.getD (k-1) zdT) zcI za7 rfl rfl uO (getD_some uO)) ?_;refine gz1 ?_;refine uGy 9 rfl rfl (fun hc=>uCl zDk rfl zrd) ?_;refine gz3 ?_;refine uCo (fun h15=> ?_) fun h16=> ?_
         ·refine gz4 ?_;refine zap Ghost.clear rfl ⟨?_,rfl⟩
          show HVal.int .i64 _=_
          try rw [hE]
          (refine congrArg _ (zd4 (e:=7) (zy ?_ hg ?_ ?_) ?_)
           ·omega
           ·unfold zb3
            simp_all
            done
           ·first|decide|assumption
           ·first|decide|assumption)
         ·refine gz2 ?_;have hne:x.Home≠x.Away:=by first|assumption|simp_all
          have hg0:zb3 T k x (l.getD (k-1) zdT)=0:=by unfold zb3;simp_all
          refine gz5 ?_;refine dq (za (hs:=[_,_]) zp ty9 rfl rfl (by decide) (by decide) rfl) ?_;refine dq (zaD (f:=HVal.str) (l:=[x.Home,x.Away]) zp rfl) ?_;refine gz3 ?_;refine uV1 [7,1,12,2,77,17] (fun (j:Nat)=>[(77,.int .i64 j),(7,.bool (inC l x k j))]) (fun (j:Nat)=>[.map m22 (kk zif (em HVal.bool (inM l x k j)))]) (fun (j:Nat)=>j<=[x.Home,x.Away].length/\(True)) (fun (j:Nat)=>[x.Home,x.Away].length-j) (0) ?_ ?_ ?_ ?_
          ·exact ⟨Ad _,trivial⟩
          ·exact ⟨rfl,congrArg (fun q=>some (HVal.bool q)) zvu.1.symm,trivial⟩
          ·exact zn (by rw [zvu.2])
          ·intro j hinv
           obtain ⟨hj,-⟩:=hinv;refine gz4 ?_;refine uCo (fun h17=> ?_) fun h18=> ?_
           ·obtain ⟨s,hs⟩: ∃s,[x.Home,x.Away][j]? =some s:=⟨_,Aa (by show j<2;omega)⟩
            have hds:=zi hs;refine gz5 ?_;refine dq (zB zp ty9 rfl rfl rfl (by assumption)) ?_;refine gz3 ?_;obtain ⟨st1,st2⟩:=zBp (l:=l) (k:=k) hne hs;refine gz4 ?_;refine dq (zG (cs:=[_,_]) zq0 zFm rfl) ?_;refine de rfl (zj zq0 rfl fun b13=> ?_)
            refine de0 (zl zq0 rfl rfl rfl rfl rfl ?_)
            refine gz1 ?_;refine ze (zm 13 rfl) ?_;refine gz5 ?_;refine dgl rfl rfl (fun hc=>⟨_,OpenTo.upd (t:=88) rfl (hc) (OpenTo.upd (t:=87) rfl (hc) (OpenTo.refl _)),zeG (i:=0) (f:=HVal.bool) (L:=inM l x k j) (s:=(s,x.Week)) (z0:=false) zAY zAO ty4 rfl rfl rfl rfl ⟨rfl,rfl⟩⟩) ?_;refine gz6 ?_;refine de0 (zfU (i:=0) (f:=HVal.bool) (v:=true) (s:=(s,x.Week)) (L:=inM l x k j) zAY zAO rfl rfl rfl rfl ?_)
            refine gz7 ?_;exact ⟨j+1,⟨by show j+1<=2;omega,trivial⟩,by show 2-(j+1)<2-j;omega,⟨rfl,congrArg (fun q=>some (HVal.bool q)) (by rw [<-st1];cases inC l x k j<;>rfl),trivial⟩,uK,zn (by dsimp only;rw [<-st2];rfl)⟩
           ·refine gz2 ?_;refine zw ?_;refine gz7 ?_;have e2:j=2:=by (have q:[x.Home,x.Away].length=2:=rfl;omega)
            subst e2;obtain ⟨t1,t2⟩:=zCr hx;exact ⟨k+1,⟨by omega,by rw [hg,zaV hg0]⟩,uD,⟨rfl,congrArg (fun q=>some (HVal.bool q)) t1,trivial⟩,uK,zn (by dsimp only;rw [t2])⟩
    ·have hnk:l.length<=k:=by omega
     obtain rfl:k=l.length:=by omega
     rw [zI (Ae _)] at hg;refine gz2 ?_;refine zw ?_;refine gz6 ?_;refine uCo (fun h19=> ?_) fun h20=> ?_
     ·refine gz4 ?_;refine zap Ghost.clear rfl ⟨?_,rfl⟩
      show HVal.int .i64 _=_
      try rw [hE]
      (rw [zvo ?_ hg,if_pos (by assumption)]
       omega)
     ·refine gz6 ?_;refine zap Ghost.clear rfl ⟨?_,rfl⟩
      show HVal.int .i64 _=_
      try rw [hE]
      (rw [zvo ?_ hg,if_neg uSa]
       omega)
theorem zlZ [Tracks] {l:List Int} (hl:l.length<=1000000):ConP prog 216 [.slice 1 (l.map (HVal.int .i64))] (.int .i64 (zh9 l)):=by
 refine uOb func216 ntmps216 ?_;refine gz9 ?_;refine uCo (fun h1=> ?_) fun h2=> ?_
 ·refine gz4 ?_;refine uRp ?_
  (rw [zh9,if_pos uO];done)
 ·refine gz9 ?_;refine uT1 [2,3,10,13] (fun k=>[(10,.int .i64 k)]) (fun k=>[]) (fun k=>k<=l.length/\(zd8 l 0 l=zd8 l k (l.drop k))) (fun k=>l.length-k) (0) ?_ ?_
  ·exact ⟨Ad _,rfl⟩
  ·rintro k ⟨hk,hg⟩;refine gz4 ?_;refine uCo (fun h3=> ?_) fun h4=> ?_
   ·obtain ⟨x,hx⟩: ∃x,l[k]? =some x:=⟨_,Aa h3⟩
    have hdx:=zi hx;rw [hdx] at hg;refine zdg ?_;refine dq (uCl zcy rfl zag) ?_;refine gz1 ?_;refine uCo (fun h5=> ?_) fun h6=> ?_
    ·refine gz4 ?_;refine uRp ?_
     (refine congrArg _ (zoE (e:=4) ?_ hg ?_)
      ·omega
      ·rw [zd8]
       simp_all
       done)
    ·refine gz5 ?_;refine dq (zaQ zah ty3 rfl rfl ⟨_,_,rfl,rfl⟩ uO uO) ?_;refine gz1 ?_;refine dq (uCl zAn rfl (zfy (l:=l.take k) (z:=x) (by rw [Ax];omega))) ?_;refine gz1 ?_;refine uCo (fun h7=> ?_) fun h8=> ?_
     ·refine gz4 ?_;refine uRp ?_
      (refine congrArg _ (zoE (e:=6) ?_ hg ?_)
       ·omega
       ·rw [zd8]
        simp_all
        done)
     ·refine gz7 ?_;refine ⟨k+1,?_,?_,⟨rfl,trivial⟩,uK,Ac _⟩
      ·refine ⟨by omega,?_⟩
       rw [hg,zd8,if_neg uSa,if_neg uSa]
      ·dsimp only;omega
   ·have hnk:l.length<=k:=by omega
    obtain rfl:k=l.length:=by omega
    rw [zI (Ae _)] at hg;refine gz2 ?_;refine zw ?_;refine gz6 ?_;refine uRp ?_
    (refine congrArg _ (zvf ?_ hg)
     omega)
theorem zfM [Tracks] {l:List GameS} {fid:FuncId} {caps:List HVal} {p:GameS->Bool} (hca:Callable prog fid) (hp: ∀x,ConP prog fid ([zaa x]++caps) (.bool (p x))) (hl:l.length<=1000000):ConP prog 31 [.slice 8 (l.map zaa),.fn (.func fid) [] caps] (.int .i64 (zT p l 0)):=by
 refine uOb func31 ntmps31 ?_;refine zaz ?_;refine uT1 [4,2,8,11] (fun k=>[(8,.int .i64 k)]) (fun k=>[]) (fun k=>k<=l.length/\(zT p l 0=zT p (l.drop k) k)) (fun k=>l.length-k) (0) ?_ ?_;exact ⟨Ad _,rfl⟩;rintro k ⟨hk,hg⟩;refine gz4 ?_;refine uCo (fun h1=> ?_) fun h2=> ?_
 obtain ⟨x,hx⟩: ∃x,l[k]? =some x:=⟨_,Aa h1⟩
 have hdx:=zi hx;rw [hdx] at hg;refine zdg ?_;refine dq (zao hca rfl rfl (WeakL.refl _) (hp _)) ?_;refine gz1 ?_;refine uCo (fun h3=> ?_) fun h4=> ?_
 refine gz5 ?_;refine uRp ?_
 (rw [hg];simp_all [zT])
 refine gz7 ?_;refine ⟨k+1,?_,?_,⟨rfl,trivial⟩,uK,Ac _⟩
 refine ⟨by omega,?_⟩
 rw [hg,zT,if_neg uSa];rfl
 dsimp only;omega
 have hnk:l.length<=k:=by omega
 obtain rfl:k=l.length:=by omega
 rw [zI (Ae _)] at hg;refine gz2 ?_;refine zw ?_;refine gz6 ?_;refine uRp ?_
 (rw [hg];rfl)
theorem zaZ [Tracks] {l:List GameS} {fid:FuncId} {caps:List HVal} {p:GameS->Bool} (hca:Callable prog fid) (hp: ∀x,ConP prog fid ([zaa x]++caps) (.bool (p x))) (hl:l.length<=1000000):ConP prog 10 [.slice 8 (l.map zaa),.fn (.func fid) [] caps] (.bool (l.any p)):=by
 refine uOb func10 ntmps10 ?_;refine gz6 ?_;refine dq (uCl ca31 rfl (zfM hca hp hl)) ?_;refine gz4 ?_;refine zx rfl ?_
 congr 1;exact zc1 p l 0 uO
theorem zkY [Tracks] {x:GameS}:ConP prog 215 [zaa x] (.bool x.Played):=by
 refine uOb func215 ntmps215 ?_;refine zaz ?_;refine zx rfl ?_
 rfl
theorem zlY [Tracks] {g:LeagueS} (hT:Tracks.on=false) (hb:LeaB g):ConP prog 130 [zfi g] (.int .i64 (zcA g)):=by
 have hst:=hb.sta;refine uOb func130 ntmps130 ?_;refine gz5 ?_;refine uDr mixed ?_;refine gz4 ?_;refine uB 4 rfl (uCl zDY rfl (zl4 (L:=g.Players) (l:=g.Stints) hT hb.pl hb.nm hb.po hb.st)) ?_;refine gz2 ?_;refine uB 7 rfl (uCl zDZ rfl (zkZ (l:=g.Fixtures) hb.fx)) ?_;refine gz2 ?_;refine uB 10 rfl (uCl zAs rfl (ziM (l:=g.Rules) hb.ru hb.rw')) ?_;refine gz2 ?_;refine uB 13 rfl (uCl zAc rfl (ziN (l:=g.Slots) hb.sl hb.sp)) ?_;refine gz1 ?_;refine uB 15 rfl (z8 (h':=zfS g.Bounds) (zaS zja rfl rfl (An rfl)) rfl) ?_;refine uB 16 rfl (uCl zAt rfl (zhC (b:=g.Bounds))) ?_;refine gz4 ?_;refine uB 21 rfl (uCl ca60 rfl (ziL (T:=g.Teams) (l:=g.Games) hb.tm hb.ga hb.gb)) ?_;refine uB 22 rfl (za (hs:=[_,_,_,_,_,_]) zeh zgA rfl rfl (by decide) (by decide) rfl) ?_;refine uB 23 rfl (uCl zk5 rfl (zch (l:=[_,_,_,_,_,_]) (by simp))) ?_;refine gz6 ?_;refine uCo (fun h1=> ?_) fun h2=> ?_
 refine gz5 ?_;refine uRp ?_;unfold zcA zhM zlb zcW
 (rw [if_pos (by assumption)])
 refine gz6 ?_;refine dq (uCl zwb rfl (zaZ (l:=g.Games) (p:=fun x=>x.Played) zD0 (fun _=>zkY) hb.ga)) ?_;refine gz1 ?_;refine uCo (fun h3=> ?_) fun h4=> ?_
 refine gz4 ?_;refine uRp ?_;unfold zcA zhM zlb zcW
 (rw [if_neg (fun q=>q h2),if_pos uSa])
 refine gz3 ?_;refine uDr mixed ?_;refine gz2 ?_;refine uB 2 rfl (uCl zD1 rfl (zlZ (l:=g.Breaks) hb.br)) ?_;refine gz2 ?_;refine uB 5 rfl (uCl ca64 rfl (zjf (l:=g.Trust) hb.tr)) ?_;refine uB 6 rfl (za (hs:=[_,_]) zeh zgA rfl rfl (by decide) (by decide) rfl) ?_;refine uB 7 rfl (uCl zk5 rfl (zch (l:=[_,_]) (by simp))) ?_;refine gz6 ?_;refine uCo (fun h5=> ?_) fun h6=> ?_
 refine gz5 ?_;refine uRp ?_;unfold zcA zhM zlb zcW
 (rw [if_neg (fun q=>q h2),if_neg uSa,if_pos (by assumption)])
 refine gz6 ?_;refine dq (uCl zi4 rfl zbs) ?_;refine gz8 ?_;refine uCo (fun h7=> ?_) fun h8=> ?_
 refine gz4 ?_;refine uRp ?_;unfold zcA zhM zlb zcW
 (rw [if_neg (fun q=>q h2),if_neg uSa,if_neg (fun q=>q h6),if_pos uSa])
 refine gz6 ?_;refine uRp ?_;unfold zcA zhM zlb zcW
 (rw [if_neg (fun q=>q h2),if_neg uSa,if_neg (fun q=>q h6),if_neg uSa])
theorem zo2 [Tracks] {a b:ChoiceS}:ConP prog 221 [zar a,zar b] (.int .i64 (zks a b)):=by
 refine uOb func221 ntmps221 ?_;refine gz5 ?_;refine uDr mixed ?_;refine gz4 ?_;refine uB 4 rfl (uCl zce rfl zL) ?_;refine gz4 ?_;refine uB 9 rfl (uCl zcZ rfl zS) ?_;refine gz4 ?_;refine uB 14 rfl (uCl zcZ rfl zS) ?_;refine uB 15 rfl (za (hs:=[_,_,_]) zah ty3 rfl rfl (by decide) (by decide) rfl) ?_;refine uB 16 rfl (uCl zfz rfl (zbd (l:=[_,_,_]) (by simp))) ?_;refine gz3 ?_;refine zx rfl ?_
 rfl
theorem zlp [Tracks] {b:BookS} {l:List ChoiceS} (hb:BookB b) (hl:l.length<=1000000) (hc: ∀x∈l,x.Players.length<=1000000):ConP prog 134 [.vptr (zv7 b) 0,zj3 l] (.int .i64 (zrp b.League.Teams b.League.Slots.length l)):=by
 have hsl:=hb.lea.sl;have htm:=hb.lea.tm;refine uOb func134 ntmps134 ?_;refine gz9 ?_;refine uCo (fun h1=> ?_) fun h2=> ?_
 refine gz4 ?_;refine uRp ?_
 (refine congrArg _ (zbJ ?_)
  omega)
 refine gz9 ?_;refine uT1 [4,3,8,1,14,68] (fun k=>[(14,.int .i64 k)]) (fun k=>[]) (fun k=>k<=l.length/\(zaX (zb2 b.League.Teams b.League.Slots.length) zfg l 0 l=zaX (zb2 b.League.Teams b.League.Slots.length) zfg l k (l.drop k))) (fun k=>l.length-k) (0) ?_ ?_;exact ⟨Ad _,rfl⟩;rintro k ⟨hk,hg⟩;refine gz4 ?_;refine uCo (fun h3=> ?_) fun h4=> ?_
 obtain ⟨x,hx⟩: ∃x,l[k]? =some x:=⟨_,Aa h3⟩
 have hdx:=zi hx;rw [hdx] at hg;refine gz6 ?_;refine dq (zB zf7 zeg rfl rfl rfl (by assumption)) ?_;refine gz1 ?_;refine de rfl (zj zeg rfl fun b6=> ?_)
 refine gz1 ?_;refine de0 (zl zeg rfl rfl rfl rfl rfl ?_)
 refine gz1 ?_;refine ze (zm 6 rfl) ?_;refine gz2 ?_;refine uDr mixed ?_;refine gz6 ?_;refine uB 6 rfl (uCl zhI rfl (zK (l:=b.League.Teams) (s:=x.Team) uO)) ?_;refine gz3 ?_;refine uCo (fun h5=> ?_) fun h6=> ?_
 refine gz4 ?_;refine uRp ?_
 (refine congrArg _ (zy (e:=8) ?_ hg ?_ ?_)
  omega
  unfold zb2;exact uT
  first|decide|assumption)
 refine gz3 ?_;refine dq (uCl zmb rfl zcY) ?_;refine gz4 ?_;refine uGr rfl (fun hc=>uCl zi4 rfl zbs) ?_;refine gz4 ?_;refine uCo (fun h7=> ?_) fun h8=> ?_
 refine gz4 ?_;refine uRp ?_
 (refine congrArg _ (zy (e:=1) ?_ hg ?_ ?_)
  omega
  unfold zb2;exact uT
  first|decide|assumption)
 refine uDr mixed ?_;refine gz2 ?_;refine uB 2 rfl (zaD (f:=HVal.str) (l:=x.Players) zp rfl) ?_;refine gz4 ?_;refine uB 7 rfl (zaD (f:=zbT) (l:=b.League.Slots) zfv rfl) ?_;refine gz3 ?_;refine uCo (fun h9=> ?_) fun h10=> ?_
 refine gz4 ?_;refine uRp ?_
 (refine congrArg _ (zy (e:=3) ?_ hg ?_ ?_)
  omega
  unfold zb2;exact uT
  first|decide|assumption)
 refine gz4 ?_;have hcx:=hc x (Ab hx);refine uDr mixed ?_;refine gz2 ?_;refine uA 3 ?_;refine gz1 ?_;refine uB 5 rfl (za (hs:=[_]) zp ty9 rfl rfl (by decide) (by decide) rfl) ?_;refine uA 8 ?_;refine uF 2 ?_;refine zv rfl (uCa zj0 rfl (z7 (l:=x.Players) hcx) fun v51=> ?_)
 refine ⟨uE,?_⟩
 refine uF 6 ?_;refine zv rfl (zlj (N:=[]) (sz:=1) (es:=(x.Players++[x.Captain]).map .str) 0 (zO (i:=0) (v:=v51) (es:=x.Players.map .str) (ys:=[.str x.Captain]) zp ty9 rfl rfl rfl rfl rfl (by simp [zaw,zb]) uSo fun v55=>⟨v55,rfl,by rw [Ay];rfl,rfl⟩) ?_)
 refine ⟨uE,?_⟩
 refine uB 7 rfl (zaD (f:=HVal.str) (l:=x.Players++[x.Captain]) zp rfl) ?_;refine uAz ?_;refine gz1 ?_;refine uT1 [4,1,8,1,57,12] (fun j=>[(57,.int .i64 j)]) (fun j=>[]) (fun j=>j<=(x.Players++[x.Captain]).length/\(∀s∈(x.Players++[x.Captain]).take j,zb6 s=true)) (fun j=>(x.Players++[x.Captain]).length-j) (0) ?_ ?_;exact ⟨Ad _,by simp⟩;rintro j ⟨hj,hnm⟩;have hlen:(x.Players++[x.Captain]).length=x.Players.length+1:=by simp
 refine gz4 ?_;refine uCo (fun h11=> ?_) fun h12=> ?_
 obtain ⟨s,hs⟩: ∃s,(x.Players++[x.Captain])[j]? =some s:=⟨_,Aa (by rw [Aw];simp;omega)⟩
 have hds:=zi hs;refine gz5 ?_;refine dq (zB zp ty9 rfl rfl rfl (by assumption)) ?_;refine gz8 ?_;refine uGr rfl (fun hc=>uCl zbG rfl zaf) ?_;refine gz3 ?_;refine uCo (fun h13=> ?_) fun h14=> ?_
 refine gz4 ?_;refine uRp ?_
 (obtain ⟨q1,q2⟩: ¬s=[]/\key s=false:=by first|assumption|simp_all
  have g1:zb2 b.League.Teams b.League.Slots.length k x (l.getD (k-1) zfg)=5:=by
   unfold zb2;rw [if_neg uSa,if_neg uSa,if_neg (fun q=>q uO),if_pos (zyd (Ab hs) (zBC q1 q2))]
  exact congrArg _ (zy (e:=5) uO hg g1 (by decide)))
 refine gz7 ?_;refine ⟨j+1,?_,?_,⟨rfl,trivial⟩,uK,Ac _⟩
 refine ⟨by omega,fun s' hs'=> ?_⟩
 rw [z6 hs] at hs'
 rcases List.mem_append.1 hs' with q|q
 exact hnm s' q;rw [List.mem_singleton.1 q];exact zBD (by intro q2;simp_all)
 dsimp only;omega
 have hnj:(x.Players++[x.Captain]).length<=j:=by omega
 obtain rfl:j=(x.Players++[x.Captain]).length:=by omega
 rw [Ak] at hnm;refine gz2 ?_;refine zw ?_;refine gz2 ?_;have hall:((x.Players++[x.Captain]).all zb6)=true:=by
  rw [List.all_eq_true]
  intro s hs
  exact hnm s hs
 refine uDr mixed ?_;refine gz7 ?_;refine uGy 7 rfl rfl (fun hc=>by have hq:=hc;(try simp at hq);exact zB (j:=k-1) (a:=l.getD (k-1) zfg) zf7 zeg rfl rfl uO (getD_some uO)) ?_;refine gz1 ?_;refine uGy 9 rfl rfl (fun hc=>uCl zD4 rfl zo2) ?_;refine gz3 ?_;refine uCo (fun h15=> ?_) fun h16=> ?_
 refine gz4 ?_;refine uRp ?_
 (refine congrArg _ (zy (e:=7) ?_ hg ?_ ?_)
  omega
  unfold zb2;exact uT
  first|decide|assumption)
 refine gz7 ?_;refine ⟨k+1,?_,?_,⟨rfl,trivial⟩,uK,Ac _⟩
 refine ⟨by omega,?_⟩
 rw [hg,zaV (by unfold zb2;(try clear hdx hg);(try simp only [Af]);focus first|(simp_all;done)|((repeat' split)<;>focus first|rfl|(exfalso;omega)|(simp_all;done)|(exfalso;rcases ‹_\/_› with q|q<;>simp_all;done)|(exfalso;simp_all;omega)))]
 dsimp only;omega
 have hnk:l.length<=k:=by omega
 obtain rfl:k=l.length:=by omega
 rw [zI (Ae _)] at hg;refine gz2 ?_;refine zw ?_;refine gz6 ?_;refine uRp ?_
 (refine congrArg _ (zbB ?_ hg)
  omega)
theorem znz [Tracks] {b:BookS} (hT:Tracks.on=false) (hb:BookB b) (hw: ∀x∈b.Health,-1000000000000000<=x.To/\x.To<=1000000000000000):ConP prog 55 [zbk b] (.int .i64 (zdl b)):=by
 refine uOb func55 ntmps55 ?_;refine gz7 ?_;refine dq (z8 (h':=zfi b.League) (zaS zaN rfl rfl (An rfl)) rfl) ?_;refine dq (uCl zDe rfl (zlY (g:=b.League) hT hb.lea)) ?_;refine gz6 ?_;refine uCo (fun h1=> ?_) fun h2=> ?_
 refine gz5 ?_;refine uRp ?_;unfold zdl
 (rw [if_pos (by assumption)])
 refine gz2 ?_;refine uDr mixed ?_;refine gz2 ?_;refine uB 2 rfl (uCl zz9 rfl (zh5 (l:=b.Moves) hb.mv)) ?_;refine gz2 ?_;refine uB 5 rfl (uCl ca63 rfl (zje (l:=b.Plays) hb.pl)) ?_;refine gz2 ?_;refine uB 8 rfl (uCl zAa rfl (zjd (m:=b.Mends) hb.me)) ?_;refine gz5 ?_;refine uB 14 rfl (uCl zDf rfl (zl3 (L:=b.League.Players) (l:=b.Health) hT hb.lea.pl hb.lea.nm hb.lea.po hb.he hw)) ?_;refine gz3 ?_;refine uB 18 rfl (uCl zDg rfl (zlp (b:=b) (l:=b.Choices) hb hb.ch hb.cp)) ?_;refine uB 19 rfl (za (hs:=[_,_,_,_,_]) zeh zgA rfl rfl (by decide) (by decide) rfl) ?_;refine uB 20 rfl (uCl zk5 rfl (zch (l:=[_,_,_,_,_]) (by simp))) ?_;refine gz3 ?_;refine uRp ?_;unfold zdl
 (rw [if_neg (fun q=>q h2),<-zCo (fun q=>q h2)])
end
section
open Go.Proofs.Tryz
open Go.HL
theorem zaW [Tracks] {n lo hi:Int}:ConP prog 118 [.int .i64 n,.int .i64 lo,.int .i64 hi] (.bool (!(out n lo hi))):=by
 refine uOb func118 ntmps118 ?_;refine zhL ?_;refine zx rfl ?_
 show HVal.bool _=_
 congr 1;simp [out];rw [AF];simp;try omega
theorem zgZ [Tracks] {n:Int}:ConP prog 100 [.int .i64 n] (.int .i64 (zmE n)):=by
 refine uOb func100 ntmps100 ?_;refine zaz ?_;refine uCo (fun h1=> ?_) fun h2=> ?_
 refine gz4 ?_;refine uRp ?_;unfold zmE
 (rw [if_pos uO])
 refine gz5 ?_;refine uCo (fun h3=> ?_) fun h4=> ?_
 refine gz4 ?_;refine uRp ?_;unfold zmE
 (rw [if_neg uO,if_pos uO])
 refine gz7 ?_;refine uRp ?_;unfold zmE
 (rw [if_neg uO,if_neg uO])
theorem zjW [Tracks] {s l:Str} (hs:s.length<=1000000):ConP prog 205 [.str s,.str l] (.bool (zhT s l)):=by
 refine uOb func205 ntmps205 ?_;refine zaz ?_;refine uT1 [4,2,8,10] (fun k=>[(8,.int .i64 (k:Int))]) (fun k=>[]) (fun k=>k<=s.length/\zhT s l=zhT (s.drop k) l) (fun k=>s.length-k) (0) ?_ ?_;exact ⟨Ad _,rfl⟩;rintro k ⟨hk,hg⟩;refine gz4 ?_;refine uCo (fun h1=> ?_) fun h2=> ?_
 obtain ⟨x,hx⟩: ∃x,s[k]? =some x:=⟨_,Aa uO⟩
 have hd:=zi hx;rw [hd] at hg;refine zdf ?_;refine dq (zaP (j:=k) (b:=x) ty9 rfl rfl rfl hx) ?_;refine dq (uCl zAr rfl (zh6 (s:=l) (c:=x.toNat))) ?_;refine gz2 ?_;refine uCo (fun h3=> ?_) fun h4=> ?_
 refine gz4 ?_;refine zx rfl ?_
 show HVal.bool _=_
 rw [hg]
 (rw [zCH (by assumption)])
 refine gz7 ?_;refine ⟨k+1,?_,?_,⟨rfl,trivial⟩,uK,Ac _⟩
 refine ⟨by omega,?_⟩
 rw [hg,zCI (by assumption)]
 dsimp only;omega
 rw [zI uO] at hg;refine gz2 ?_;refine zw ?_;refine gz6 ?_;refine zx rfl ?_
 show HVal.bool _=_
 rw [hg]
 rfl
theorem zbc [Tracks] {s:Str}:ConP prog 119 [.str s] (.bool (key s)):=by
 refine uOb func119 ntmps119 ?_;refine gz6 ?_;refine dq (uCl zge rfl zaW) ?_;refine gz2 ?_;refine dg rfl rfl (fun hc=>by
  have hb:=ze3 (n:=(s.length:Int)) (lo:=1) (hi:=40) (by simpa using hc);exact ⟨_,OpenTo.upd (t:=7) rfl (hc) (OpenTo.refl _),zhU (l:=0) (h:=1) ty9 rfl rfl ⟨_,_,rfl,by omega⟩ uO uO⟩) ?_
 refine uGr rfl (fun hc=>by have hq:=hc;(try simp at hq);exact uCl zAp rfl (zjW (s:=s.take 1) (l:=zjG) (by rw [Ax];omega))) ?_;refine gz3 ?_;refine dg rfl rfl (fun hc=>by
  have hb:=ze3 (n:=(s.length:Int)) (lo:=1) (hi:=40) (by (have q:=hc;simp at q;exact q.1));exact ⟨_,OpenTo.upd (t:=12) rfl (hc) (OpenTo.refl _),uCl zAp rfl (zjW (s:=s) (l:=zgP) uO)⟩) ?_
 refine gz4 ?_;refine zx rfl ?_
 show HVal.bool _=_
 rw [zzg]
 simp
theorem ziI [Tracks] {n:Int}:ConP prog 117 [.int .i64 n] (.bool (zU n)):=by
 refine uOb func117 ntmps117 ?_;refine gz5 ?_;refine dq (uCl zge rfl zaW) ?_;refine gz3 ?_;refine zx rfl ?_
 show HVal.bool _=_
 rfl
theorem zgY [Tracks] {n:Int}:ConP prog 196 [.int .i64 n] (.bool (za1 n)):=by
 refine uOb func196 ntmps196 ?_;refine gz5 ?_;refine dq (uCl zge rfl zaW) ?_;refine gz3 ?_;refine zx rfl ?_
 show HVal.bool _=_
 rfl
theorem ziJ [Tracks] {l:List Str} (hl:l.length<=1000000):ConP prog 200 [eSs l] (.int .i64 (zdC l)):=by
 refine uOb func200 ntmps200 ?_;refine zaz ?_;refine uT1 [2,3,7,20] (fun k=>[(7,.int .i64 k)]) (fun k=>[]) (fun k=>k<=l.length/\(zdC l=zbK l k (l.drop k))) (fun k=>l.length-k) (0) ?_ ?_;exact ⟨Ad _,rfl⟩;rintro k ⟨hk,hg⟩;refine gz4 ?_;refine uCo (fun h1=> ?_) fun h2=> ?_
 obtain ⟨x,hx⟩: ∃x,l[k]? =some x:=⟨_,Aa h1⟩
 have hdx:=zi hx;rw [hdx] at hg;refine zdg ?_;refine dq (uCl zhH rfl zbc) ?_;refine gz2 ?_;refine uCo (fun h3=> ?_) fun h4=> ?_
 refine gz4 ?_;refine uRp ?_;rw [hg];simp_all [zbK,leS];refine zaz ?_;refine uGr rfl (fun hc=>by have hq:=hc;(try simp at hq);exact zB (j:=k-1) (a:=l.getD (k-1) []) zp ty9 rfl rfl uO (getD_some uO)) ?_;refine gz4 ?_;refine uCo (fun h5=> ?_) fun h6=> ?_
 refine gz4 ?_;refine uRp ?_;rw [hg];simp_all [zbK,leS];refine gz7 ?_;refine ⟨k+1,?_,?_,⟨rfl,trivial⟩,uK,Ac _⟩
 refine ⟨by omega,?_⟩
 rw [hg];simp_all [zbK,leS]
 dsimp only;omega
 have hnk:l.length<=k:=by omega
 obtain rfl:k=l.length:=by omega
 rw [zI (Ae _)] at hg;refine gz2 ?_;refine zw ?_;refine gz6 ?_;refine uRp ?_;rw [hg];simp_all [zbK,leS]
theorem zhj [Tracks] {l:List Str} (hl:l.length<=1000000):ConP prog 195 [eSs l,.bool true] (.int .i64 (zc8 l)):=by
 refine uOb func195 ntmps195 ?_;refine zdg ?_;refine uCo (fun h1=> ?_) fun h2=> ?_
 refine gz4 ?_;refine uRp ?_;rw [zrC]
 (rw [if_pos uSa])
 refine gz6 ?_;refine uCo (fun h3=> ?_) fun h4=> ?_
 refine gz4 ?_;refine uRp ?_;rw [zrC]
 (rw [if_neg uO,if_pos uO])
 refine gz5 ?_;refine dq (uCl zAm rfl (ziJ (by assumption))) ?_;refine gz3 ?_;refine uRp ?_;rw [zrC]
 (rw [if_neg uSa,if_neg uO])
theorem zjU [Tracks] {l:List PlayerS} (hT:Tracks.on=false) (hl:l.length<=1000000) (hn: ∀p∈l,p.Name∈zc4) (hp: ∀p∈l,p.Positions.length<=1000000):ConP prog 105 [zbh l] (.int .i64 (zcF l)):=by
 refine uOb func105 ntmps105 ?_;refine gz9 ?_;refine uCo (fun h1=> ?_) fun h2=> ?_
 refine gz4 ?_;refine uRp ?_
 (refine congrArg _ (zbJ ?_)
  omega)
 refine zdf ?_;refine uT1 [2,2,5,2,12,35] (fun k=>[(12,.int .i64 k),(3,.str (zoL PlayerS.Key zd6 l k))]) (fun k=>[]) (fun k=>k<=l.length/\(zaX zcJ zd6 l 0 l=zaX zcJ zd6 l k (l.drop k))) (fun k=>l.length-k) (0) ?_ ?_;exact ⟨Ad _,rfl⟩;rintro k ⟨hk,hg⟩;refine gz4 ?_;refine uCo (fun h3=> ?_) fun h4=> ?_
 obtain ⟨x,hx⟩: ∃x,l[k]? =some x:=⟨_,Aa h3⟩
 have hdx:=zi hx;rw [hdx] at hg;refine gz7 ?_;refine de rfl (zj zew rfl fun b5=> ?_)
 refine de0 (zl zew rfl rfl rfl rfl rfl ?_)
 refine gz1 ?_;refine ze (zm 5 rfl) ?_;refine gz5 ?_;refine dq (uCl zhH rfl zbc) ?_;refine gz3 ?_;refine uCo (fun h5=> ?_) fun h6=> ?_
 refine gz4 ?_;refine uRp ?_
 (refine congrArg _ (zy (e:=5) ?_ hg ?_ ?_)
  omega
  unfold zcJ;exact uT
  first|decide|assumption)
 have hkx:key x.Key=true:=by first|assumption|simp_all
 have hll:=zvx (f:=PlayerS.Key) (d:=zd6) (l:=l) (k:=k) (x:=x) hkx;refine gz7 ?_;refine uCo (fun h7=> ?_) fun h8=> ?_
 refine gz4 ?_;refine uRp ?_
 (refine congrArg _ (zy (e:=7) ?_ hg ?_ ?_)
  omega
  unfold zcJ;exact uT
  first|decide|assumption)
 have hn6:=zoi (hn x (Ab hx));refine gz3 ?_;refine dq (uCl zDS rfl (zoY hT (hn x (Ab hx)))) ?_;refine gz5 ?_;refine uGr rfl (fun hc=>uCl zge rfl zaW) ?_;refine gz4 ?_;refine zW rfl (fun h9=> ?_) (fun h9=> ?_)
 exfalso
 try simp at h9
 simp_all
 try simp at h9
 refine gz7 ?_;refine dq (uCl zAk rfl (zhj (hp x (Ab hx)))) ?_;refine gz6 ?_;refine uCo (fun h10=> ?_) fun h11=> ?_
 refine gz5 ?_;refine uRp ?_
 (refine congrArg _ (zy (e:=(zc8 x.Positions)) ?_ hg ?_ ?_)
  omega
  unfold zcJ;exact uT
  first|decide|assumption)
 refine zel ?_;exact ⟨k+1,⟨by omega,by rw [hg,zaV (by unfold zcJ;(try clear hdx hg);(try simp only [Af]);focus first|(simp_all;done)|((repeat' split)<;>focus first|rfl|(exfalso;omega)|(simp_all;done)|(exfalso;rcases ‹_\/_› with q|q<;>simp_all;done)|(exfalso;simp_all;omega)))]⟩,uD,⟨rfl,congrArg (fun q=>some (HVal.str q)) (zr9 hx).symm,trivial⟩,uK,Ac _⟩;have hnk:l.length<=k:=by omega
 obtain rfl:k=l.length:=by omega
 rw [zI (Ae _)] at hg;refine gz2 ?_;refine zw ?_;refine gz6 ?_;refine uRp ?_
 (refine congrArg _ (zbB ?_ hg)
  omega)
theorem zkU [Tracks] {x:PlayerS} {s:Str}:ConP prog 209 [zeD x,.vptr [.str s] 0] (.bool (x.Key==s)):=by
 refine uOb func209 ntmps209 ?_;refine zdf ?_;refine zx rfl ?_
 rfl
theorem zeX [Tracks] {l:List PlayerS} {fid:FuncId} {caps:List HVal} {p:PlayerS->Bool} (hca:Callable prog fid) (hp: ∀x,ConP prog fid ([zeD x]++caps) (.bool (p x))) (hl:l.length<=1000000):ConP prog 208 [.slice 3 (l.map zeD),.fn (.func fid) [] caps] (.int .i64 (zT p l 0)):=by
 refine uOb func208 ntmps208 ?_;refine zaz ?_;refine uT1 [4,2,8,11] (fun k=>[(8,.int .i64 k)]) (fun k=>[]) (fun k=>k<=l.length/\(zT p l 0=zT p (l.drop k) k)) (fun k=>l.length-k) (0) ?_ ?_;exact ⟨Ad _,rfl⟩;rintro k ⟨hk,hg⟩;refine gz4 ?_;refine uCo (fun h1=> ?_) fun h2=> ?_
 obtain ⟨x,hx⟩: ∃x,l[k]? =some x:=⟨_,Aa h1⟩
 have hdx:=zi hx;rw [hdx] at hg;refine zdg ?_;refine dq (zao hca rfl rfl (WeakL.refl _) (hp _)) ?_;refine gz1 ?_;refine uCo (fun h3=> ?_) fun h4=> ?_
 refine gz5 ?_;refine uRp ?_
 (rw [hg];simp_all [zT])
 refine gz7 ?_;refine ⟨k+1,?_,?_,⟨rfl,trivial⟩,uK,Ac _⟩
 refine ⟨by omega,?_⟩
 rw [hg,zT,if_neg uSa];rfl
 dsimp only;omega
 have hnk:l.length<=k:=by omega
 obtain rfl:k=l.length:=by omega
 rw [zI (Ae _)] at hg;refine gz2 ?_;refine zw ?_;refine gz6 ?_;refine uRp ?_
 (rw [hg];rfl)
theorem zdm [Tracks] {l:List PlayerS} {s:Str} (hl:l.length<=1000000):ConP prog 126 [zbh l,.str s] (.int .i64 (zT (fun x:PlayerS=>x.Key==s) l 0)):=by
 refine uOb func126 ntmps126 ?_;refine gz7 ?_;refine dq (uCl zDW rfl (zeX (l:=l) (p:=fun x=>x.Key==s) zDX (fun _=>zkU) hl)) ?_;refine gz3 ?_;refine zx rfl ?_
 rfl
theorem zkl [Tracks] {L:List PlayerS} {l:List StintS} (hL:L.length<=1000000) (hl:l.length<=1000000):ConP prog 106 [zbh L,zfj l] (.int .i64 (zi8 L l)):=by
 refine uOb func106 ntmps106 ?_;refine gz9 ?_;refine uCo (fun h1=> ?_) fun h2=> ?_
 refine gz4 ?_;refine uRp ?_
 (refine congrArg _ (zbJ ?_)
  omega)
 refine gz9 ?_;refine uT1 [4,3,12,63] (fun k=>[(12,.int .i64 k)]) (fun k=>[]) (fun k=>k<=l.length/\(zaX (zdL L) zfd l 0 l=zaX (zdL L) zfd l k (l.drop k))) (fun k=>l.length-k) (0) ?_ ?_;exact ⟨Ad _,rfl⟩;rintro k ⟨hk,hg⟩;refine gz4 ?_;refine uCo (fun h3=> ?_) fun h4=> ?_
 obtain ⟨x,hx⟩: ∃x,l[k]? =some x:=⟨_,Aa h3⟩
 have hdx:=zi hx;rw [hdx] at hg;refine gz8 ?_;refine de rfl (zj zcH rfl fun b6=> ?_)
 refine gz1 ?_;refine de0 (zl zcH rfl rfl rfl rfl rfl ?_)
 refine gz1 ?_;refine ze (zm 6 rfl) ?_;refine gz5 ?_;refine dq (uCl zs1 rfl (zdm (l:=L) (s:=x.Player) hL)) ?_;refine gz3 ?_;refine uCo (fun h5=> ?_) fun h6=> ?_
 have hph:=zqL (L:=L) (s:=x.Player);refine gz4 ?_;refine uRp ?_
 (refine congrArg _ (zy (e:=8) ?_ hg ?_ ?_)
  omega
  unfold zdL;exact uT
  first|decide|assumption)
 have hph:=zqL (L:=L) (s:=x.Player);have hpl:zgj L x.Player=true:=by
  cases hq:zgj L x.Player with
  |true=>rfl
  |false=>have:=hph.2 hq;omega
 refine gz7 ?_;refine uGr rfl (fun hc=>uCl zhH rfl zbc) ?_;refine gz4 ?_;refine uCo (fun h7=> ?_) fun h8=> ?_
 refine gz4 ?_;refine uRp ?_
 (refine congrArg _ (zy (e:=5) ?_ hg ?_ ?_)
  omega
  unfold zdL;exact uT
  first|decide|assumption)
 refine gz3 ?_;refine dq (uCl zwi rfl zgY) ?_;refine gz3 ?_;refine uCo (fun h9=> ?_) fun h10=> ?_
 refine gz4 ?_;refine uRp ?_
 (refine congrArg _ (zy (e:=1) ?_ hg ?_ ?_)
  omega
  unfold zdL;exact uT
  first|decide|assumption)
 have hord:=ord2 (a:=x.Player) (b:=(l.getD (k-1) zfd).Player) (m:=x.Week) (n:=(l.getD (k-1) zfd).Week);refine uDr mixed ?_;refine gz8 ?_;refine uGy 8 rfl rfl (fun hc=>by have hq:=hc;(try simp at hq);exact zB (j:=k-1) (a:=l.getD (k-1) zfd) zhe zcH rfl rfl uO (getD_some uO)) ?_;refine gz9 ?_;refine uGy 18 rfl rfl (fun hc=>by have hq:=hc;(try simp at hq);exact zB (j:=k-1) (a:=l.getD (k-1) zfd) zhe zcH rfl rfl uO (getD_some uO)) ?_;refine gz9 ?_;refine uGy 28 rfl rfl (fun hc=>by have hq:=hc;(try simp at hq);exact zB (j:=k-1) (a:=l.getD (k-1) zfd) zhe zcH rfl rfl uO (getD_some uO)) ?_;refine gz8 ?_;refine uCo (fun h11=> ?_) fun h12=> ?_
 refine gz4 ?_;refine uRp ?_
 (refine congrArg _ (zy (e:=7) ?_ hg ?_ ?_)
  omega
  unfold zdL;exact uT
  first|decide|assumption)
 refine gz8 ?_;refine ⟨k+1,?_,?_,⟨rfl,trivial⟩,uK,Ac _⟩
 refine ⟨by omega,?_⟩
 rw [hg,zaV (by unfold zdL;(try clear hdx hg);(try simp only [Af]);focus first|(simp_all;done)|((repeat' split)<;>focus first|rfl|(exfalso;omega)|(simp_all;done)|(exfalso;rcases ‹_\/_› with q|q<;>simp_all;done)|(exfalso;simp_all;omega)))]
 dsimp only;omega
 have hnk:l.length<=k:=by omega
 obtain rfl:k=l.length:=by omega
 rw [zI (Ae _)] at hg;refine gz2 ?_;refine zw ?_;refine gz6 ?_;refine uRp ?_
 (refine congrArg _ (zbB ?_ hg)
  omega)
theorem zkk [Tracks] {L:List PlayerS} {l:List HealthS} (hL:L.length<=1000000) (hl:l.length<=1000000) (hw: ∀x∈l,-1000000000000000<=x.To/\x.To<=1000000000000000):ConP prog 52 [zbh L,zcB l] (.int .i64 (zru L l)):=by
 refine uOb func52 ntmps52 ?_;refine gz9 ?_;refine uCo (fun h1=> ?_) fun h2=> ?_
 refine gz4 ?_;refine uRp ?_
 (refine congrArg _ (zbJ ?_)
  omega)
 refine gz9 ?_;refine uT1 [4,4,13,74] (fun k=>[(13,.int .i64 k)]) (fun k=>[]) (fun k=>k<=l.length/\(zaX (zb4 L) zgk l 0 l=zaX (zb4 L) zgk l k (l.drop k))) (fun k=>l.length-k) (0) ?_ ?_;exact ⟨Ad _,rfl⟩;rintro k ⟨hk,hg⟩;refine gz4 ?_;refine uCo (fun h3=> ?_) fun h4=> ?_
 obtain ⟨x,hx⟩: ∃x,l[k]? =some x:=⟨_,Aa h3⟩
 have hdx:=zi hx;rw [hdx] at hg;refine gz8 ?_;refine de rfl (zj zcw rfl fun b6=> ?_)
 refine gz1 ?_;refine de0 (zl zcw rfl rfl rfl rfl rfl ?_)
 refine gz1 ?_;refine ze (zm 6 rfl) ?_;refine gz2 ?_;have hwx:=hw x (Ab hx);refine gz4 ?_;refine dq (uCl zs1 rfl (zdm (l:=L) (s:=x.Player) hL)) ?_;refine gz3 ?_;refine uCo (fun h5=> ?_) fun h6=> ?_
 have hph:=zqL (L:=L) (s:=x.Player);refine gz4 ?_;refine uRp ?_
 (refine congrArg _ (zy (e:=8) ?_ hg ?_ ?_)
  omega
  unfold zb4;exact uT
  first|decide|assumption)
 have hph:=zqL (L:=L) (s:=x.Player);have hpl:zgj L x.Player=true:=by
  cases hq:zgj L x.Player with
  |true=>rfl
  |false=>have:=hph.2 hq;omega
 refine gz6 ?_;refine dq (uCl zge rfl zaW) ?_;refine gz8 ?_;refine uCo (fun h7=> ?_) fun h8=> ?_
 have hag:=zza (f:=x.From) (t:=x.To) (by assumption);refine gz4 ?_;refine uRp ?_
 (refine congrArg _ (zy (e:=1) ?_ hg ?_ ?_)
  omega
  unfold zb4;exact uT
  first|decide|assumption)
 have hag:=zy9 (f:=x.From) (t:=x.To) (by assumption);refine zcj ?_;refine uCo (fun h9=> ?_) fun h10=> ?_
 have hkd:=zCv (k:=x.Kind) (by assumption);refine gz4 ?_;refine uRp ?_
 (refine congrArg _ (zy (e:=4) ?_ hg ?_ ?_)
  omega
  unfold zb4;exact uT
  first|decide|assumption)
 refine gz4 ?_;have hkd:=zCu (k:=x.Kind) (by assumption);refine gz4 ?_;refine uCo (fun h11=> ?_) fun h12=> ?_
 refine gz8 ?_;refine ⟨k+1,?_,?_,⟨rfl,trivial⟩,uK,Ac _⟩
 refine ⟨by omega,?_⟩
 rw [hg,zaV (by unfold zb4;(try clear hdx hg);(try simp only [Af]);focus first|(simp_all;done)|((repeat' split)<;>focus first|rfl|(exfalso;omega)|(simp_all;done)|(exfalso;rcases ‹_\/_› with q|q<;>simp_all;done)|(exfalso;simp_all;omega)))]
 dsimp only;omega
 refine gz2 ?_;have hk0:0<k:=by omega
 refine gz4 ?_;refine dq (zB (j:=k-1) (a:=l.getD (k-1) zgk) zjb zcw rfl rfl uO (getD_some uO)) ?_;refine gz1 ?_;refine de rfl (zj zcw rfl fun b7=> ?_)
 refine de0 (zl zcw rfl rfl rfl rfl rfl ?_)
 refine gz1 ?_;refine ze (zm 7 rfl) ?_;refine gz1 ?_;have hord:=ord2 (a:=x.Player) (b:=(l.getD (k-1) zgk).Player) (m:=x.From) (n:=(l.getD (k-1) zgk).From);refine gz22 ?_;refine uCo (fun h13=> ?_) fun h14=> ?_
 refine gz4 ?_;refine uRp ?_
 (refine congrArg _ (zy (e:=7) ?_ hg ?_ ?_)
  omega
  unfold zb4;exact uT
  first|decide|assumption)
 refine zhL ?_;refine uCo (fun h15=> ?_) fun h16=> ?_
 refine gz4 ?_;refine uRp ?_
 (refine congrArg _ (zy (e:=13) ?_ hg ?_ ?_)
  omega
  unfold zb4;exact uT
  first|decide|assumption)
 refine gz8 ?_;refine ⟨k+1,?_,?_,⟨rfl,trivial⟩,uK,Ac _⟩
 refine ⟨by omega,?_⟩
 rw [hg,zaV (by unfold zb4;(try clear hdx hg);(try simp only [Af]);focus first|(simp_all;done)|((repeat' split)<;>focus first|rfl|(exfalso;omega)|(simp_all;done)|(exfalso;rcases ‹_\/_› with q|q<;>simp_all;done)|(exfalso;simp_all;omega)))]
 dsimp only;omega
 have hnk:l.length<=k:=by omega
 obtain rfl:k=l.length:=by omega
 rw [zI (Ae _)] at hg;refine gz2 ?_;refine zw ?_;refine gz6 ?_;refine uRp ?_
 (refine congrArg _ (zbB ?_ hg)
  omega)
theorem zfK [Tracks] {a b:List Int} (ha:a.length<=1000) (hb:b.length<=1000):ConP prog 177 [.slice 1 (a.map (HVal.int .i64)),.slice 1 (b.map (HVal.int .i64))] (.int .i64 (zfr a b)):=by
 refine uOb func177 ntmps177 ?_;refine zaz ?_;refine uT1 [4,5,11,20] (fun k=>[(11,.int .i64 k)]) (fun k=>[]) (fun k=>k<=a.length/\(zfr a b=zfr (a.drop k) (b.drop k))) (fun k=>a.length-k) (0) ?_ ?_;exact ⟨Ad _,rfl⟩;rintro k ⟨hk,hg⟩;refine gz4 ?_;refine uCo (fun h1=> ?_) fun h2=> ?_
 obtain ⟨x,hx⟩: ∃x,a[k]? =some x:=⟨_,Aa h1⟩
 have hdx:=zi hx;rw [hdx] at hg;refine gz18 ?_;refine uCo (fun h3=> ?_) fun h4=> ?_
 refine gz4 ?_;refine uRp ?_
 (rw [hg,Bj (show b.length<=k by omega)];rfl)
 refine gz2 ?_;obtain ⟨y,hy⟩: ∃y,b[k]? =some y:=⟨_,Aa uO⟩
 refine zaz ?_;refine dq (uCl zcZ rfl (zS (a:=x) (b:=y))) ?_;refine gz6 ?_;refine uCo (fun h5=> ?_) fun h6=> ?_
 refine gz5 ?_;refine uRp ?_
 (rw [hg,zi hy,zfr,if_pos (by assumption)])
 refine gz7 ?_;exact ⟨k+1,⟨by omega,by rw [hg,zi hy,zfr,if_neg uSa]⟩,uD,⟨rfl,trivial⟩,uK,Ac _⟩;have hnk:a.length<=k:=by omega
 obtain rfl:k=a.length:=by omega
 rw [zI (Ae _)] at hg;refine gz2 ?_;refine zw ?_;refine zaz ?_;refine uCo (fun h7=> ?_) fun h8=> ?_
 refine gz4 ?_;refine uRp ?_
 (obtain ⟨y,hy⟩: ∃y,b[a.length]? =some y:=⟨_,Aa uO⟩
  rw [hg,zi hy];rfl)
 refine gz6 ?_;refine uRp ?_
 (rw [hg,Bj (show b.length<=a.length by omega)];rfl)
theorem zjj [Tracks] {l:List FixS} (hl:l.length<=1000000):ConP prog 107 [zmh l] (.int .i64 (zi5 l)):=by
 refine uOb func107 ntmps107 ?_;refine gz9 ?_;refine uCo (fun h1=> ?_) fun h2=> ?_
 refine gz4 ?_;refine uRp ?_
 (refine congrArg _ (zbJ ?_)
  omega)
 refine gz9 ?_;refine uT1 [2,5,12,65] (fun k=>[(12,.int .i64 k)]) (fun k=>[]) (fun k=>k<=l.length/\(zaX zfV zk7 l 0 l=zaX zfV zk7 l k (l.drop k))) (fun k=>l.length-k) (0) ?_ ?_;exact ⟨Ad _,rfl⟩;rintro k ⟨hk,hg⟩;refine gz4 ?_;refine uCo (fun h3=> ?_) fun h4=> ?_
 obtain ⟨x,hx⟩: ∃x,l[k]? =some x:=⟨_,Aa h3⟩
 have hdx:=zi hx;rw [hdx] at hg;refine gz8 ?_;refine de rfl (zj zaM rfl fun b4=> ?_)
 refine gz1 ?_;refine de0 (zl zaM rfl rfl rfl rfl rfl ?_)
 refine gz1 ?_;refine ze (zm 4 rfl) ?_;refine gz5 ?_;refine dq (uCl zwi rfl zgY) ?_;refine gz4 ?_;refine uGr rfl (fun hc=>uCl zz6 rfl ziI) ?_;refine gz4 ?_;refine uCo (fun h5=> ?_) fun h6=> ?_
 refine gz4 ?_;refine uRp ?_
 (refine congrArg _ (zy (e:=1) ?_ hg ?_ ?_)
  omega
  unfold zfV;exact uT
  first|decide|assumption)
 refine gz3 ?_;refine dq (uCl zhH rfl zbc) ?_;refine gz4 ?_;refine uGr rfl (fun hc=>uCl zhH rfl zbc) ?_;refine gz4 ?_;refine uCo (fun h7=> ?_) fun h8=> ?_
 refine gz4 ?_;refine uRp ?_
 (refine congrArg _ (zy (e:=5) ?_ hg ?_ ?_)
  omega
  unfold zfV;exact uT
  first|decide|assumption)
 refine gz8 ?_;refine uCo (fun h9=> ?_) fun h10=> ?_
 refine gz4 ?_;refine uRp ?_
 (refine congrArg _ (zy (e:=6) ?_ hg ?_ ?_)
  omega
  unfold zfV;exact uT
  first|decide|assumption)
 refine gz7 ?_;refine uCo (fun h11=> ?_) fun h12=> ?_
 refine gz4 ?_;refine dq (zB (j:=k-1) (a:=l.getD (k-1) zk7) zcX zaM rfl rfl uO (getD_some uO)) ?_;refine gz1 ?_;refine de rfl (zj zaM rfl fun b5=> ?_)
 refine de0 (zl zaM rfl rfl rfl rfl rfl ?_)
 refine gz1 ?_;refine ze (zm 5 rfl) ?_;refine gz5 ?_;refine dq (za (hs:=[_,_]) zah ty3 rfl rfl (by decide) (by decide) rfl) ?_;refine gz4 ?_;refine dq (za (hs:=[_,_]) zah ty3 rfl rfl (by decide) (by decide) rfl) ?_;refine dq (uCl zAf rfl (zfK (a:=[(l.getD (k-1) zk7).Week,(l.getD (k-1) zk7).At]) (b:=[x.Week,x.At]) (by simp) (by simp))) ?_;refine gz2 ?_;have hord:=zBf (x:=x) (p:=l.getD (k-1) zk7);refine zhL ?_;refine uCo (fun h13=> ?_) fun h14=> ?_
 refine gz4 ?_;refine uRp ?_
 (refine congrArg _ (zy (e:=7) ?_ hg ?_ ?_)
  omega
  unfold zfV;exact uT
  first|decide|assumption)
 refine gz7 ?_;refine ⟨k+1,?_,?_,⟨rfl,trivial⟩,uK,Ac _⟩
 refine ⟨by omega,?_⟩
 rw [hg,zaV (by unfold zfV;(try clear hdx hg);(try simp only [Af]);focus first|(simp_all;done)|((repeat' split)<;>focus first|rfl|(exfalso;omega)|(simp_all;done)|(exfalso;rcases ‹_\/_› with q|q<;>simp_all;done)|(exfalso;simp_all;omega)))]
 dsimp only;omega
 refine gz7 ?_;refine ⟨k+1,?_,?_,⟨rfl,trivial⟩,uK,Ac _⟩
 refine ⟨by omega,?_⟩
 rw [hg,zaV (by unfold zfV;(try clear hdx hg);(try simp only [Af]);focus first|(simp_all;done)|((repeat' split)<;>focus first|rfl|(exfalso;omega)|(simp_all;done)|(exfalso;rcases ‹_\/_› with q|q<;>simp_all;done)|(exfalso;simp_all;omega)))]
 dsimp only;omega
 have hnk:l.length<=k:=by omega
 obtain rfl:k=l.length:=by omega
 rw [zI (Ae _)] at hg;refine gz2 ?_;refine zw ?_;refine gz6 ?_;refine uRp ?_
 (refine congrArg _ (zbB ?_ hg)
  omega)
theorem zh4 [Tracks] {n d:Int} (hn: -1000000000000<=n/\n<=1000000000000) (hd:0<=d/\d<=1000000000000):ConP prog 269 [.int .i64 n,.int .i64 d] (.int .i64 ((Nat.gcd n.natAbs d.natAbs:Nat):Int)):=by
 refine uOb func269 ntmps269 ?_;refine gz5 ?_;refine uU2 [0,2,5,6] (fun (a:Int) (b:Int)=>[(0,.int .i64 a),(1,.int .i64 b)]) (fun (a:Int) (b:Int)=>[]) (fun (a:Int) (b:Int)=>(-1000000000000<=a/\a<=1000000000000)/\(-1000000000000<=b/\b<=1000000000000)/\Nat.gcd a.natAbs b.natAbs=Nat.gcd n.natAbs d.natAbs) (fun (a:Int) (b:Int)=>b.natAbs) (n) (d) ?_ ?_;exact ⟨hn,by omega,rfl⟩;rintro a b ⟨ha,hb,hg⟩;refine gz5 ?_;refine uCo (fun h1=> ?_) fun h2=> ?_
 have hb0:b≠0:=by simpa using h1
 obtain ⟨m1,m2,m3⟩:=zuD (a:=a) hb0;refine gz3 ?_;refine zgB mixed ?_;refine gz3 ?_;refine uB 3 rfl (zcK rfl rfl uO) ?_;refine gz4 ?_;refine ⟨b,a.tmod b,?_,?_,⟨rfl,rfl,trivial⟩,uK,Ac _⟩
 exact ⟨hb,by omega,by rw [zzV];exact hg⟩
 dsimp only;exact m3
 obtain rfl:b=0:=by simpa using h2
 rw [show (0:Int).natAbs=0 from rfl,Nat.gcd_zero_right] at hg;refine gz2 ?_;refine zM ?_;refine gz5 ?_;refine dq (ziU rfl uO uO) ?_;refine dq (zoP rfl rfl) ?_;refine gz3 ?_;refine uRp ?_;rw [<-hg]
 congr 1
 omega
theorem zdW [Tracks] {n d most:Int} (hn: -1000000000<=n/\n<=1000000000) (hd: -1000000000<=d/\d<=1000000000) (hm:0<=most/\most<=1000000):ConP prog 197 [.agg [.int .i64 n,.int .i64 d],.int .i64 most] (.int .i64 (zbm n d most)):=by
 refine uOb func197 ntmps197 ?_;refine zhL ?_;refine dg rfl rfl (fun hc=>by
  have hd1:1<=d:=by (have q:=hc;simp at q;omega)
  exact ⟨_,OpenTo.upd (t:=13) rfl (hc) (OpenTo.upd (t:=11) rfl (hc) (OpenTo.refl _)),uCl zAD rfl (zh4 (n:=n) (d:=d) uO uO)⟩) ?_
 refine gz4 ?_;refine uCo (fun h1=> ?_) fun h2=> ?_
 have hp3:=pts3 (n:=n) (d:=d) (by assumption);refine gz4 ?_;refine uRp ?_;unfold zbm
 (rw [if_pos hp3])
 have hp0:=pts0 (n:=n) (d:=d) uSa;have hd1:1<=d:=by (focus first|omega|(simp_all;done)|(simp_all;omega))
 have hmd:=zqE (a:=most) (b:=d) (A:=1000000) (B:=1000000000) uO uO uO uO;have hmn: -most*d= -(most*d):=Bq _ _;refine gz3 ?_;refine dq (zcK rfl rfl uO) ?_;refine gz5 ?_;refine uGr rfl (fun hc=>by have hq:=hc;(try simp at hq);exact ziU rfl uO uO) ?_;refine gz2 ?_;refine uGr rfl (fun hc=>by have hq:=hc;(try simp at hq);exact zcs rfl rfl uO uO) ?_;refine gz8 ?_;refine uGr rfl (fun hc=>by have hq:=hc;(try simp at hq);exact zcs rfl rfl uO uO) ?_;refine gz4 ?_;refine uCo (fun h3=> ?_) fun h4=> ?_
 have hp1:=pts1 (n:=n) (d:=d) (m:=most) (by assumption);refine gz4 ?_;refine uRp ?_;unfold zbm
 (rw [if_neg (by rw [hp0];simp;omega),if_pos hp1])
 refine gz3 ?_;have hp2:=pts2 (n:=n) (d:=d) (m:=most) (by assumption);refine gz4 ?_;refine uRp ?_;unfold zbm
 (rw [if_neg (by rw [hp0];simp;omega),if_neg hp2])
theorem zkV [Tracks] {l:List RuleS} (hl:l.length<=1000000) (hb: ∀x∈l,((-1000000000<=x.Num/\x.Num<=1000000000)/\ -1000000000<=x.Den/\x.Den<=1000000000)):ConP prog 108 [zfT l] (.int .i64 (zgx l)):=by
 refine uOb func108 ntmps108 ?_;refine gz9 ?_;refine uCo (fun h1=> ?_) fun h2=> ?_
 refine gz4 ?_;refine uRp ?_
 (refine congrArg _ (zbJ ?_)
  omega)
 refine zdf ?_;refine uT1 [2,2,5,3,13,70] (fun k=>[(13,.int .i64 k),(3,.str (zoL RuleS.Key zkH l k))]) (fun k=>[]) (fun k=>k<=l.length/\(zaX zdS zkH l 0 l=zaX zdS zkH l k (l.drop k))) (fun k=>l.length-k) (0) ?_ ?_;exact ⟨Ad _,rfl⟩;rintro k ⟨hk,hg⟩;refine gz4 ?_;refine uCo (fun h3=> ?_) fun h4=> ?_
 obtain ⟨x,hx⟩: ∃x,l[k]? =some x:=⟨_,Aa h3⟩
 have hdx:=zi hx;rw [hdx] at hg;refine gz7 ?_;refine de rfl (zj zgq rfl fun b5=> ?_)
 refine de0 (zl zgq rfl rfl rfl rfl rfl ?_)
 refine gz1 ?_;refine ze (zm 5 rfl) ?_;refine gz9 ?_;refine dq (z8 (h':= .bool (zqA x.Kind)) (zjs rfl) rfl) ?_;refine gz6 ?_;refine dq (uCl zhH rfl zbc) ?_;refine gz4 ?_;refine uGr rfl (fun hc=>uCl zhH rfl zbc) ?_;refine gz9 ?_;refine uGr rfl (fun hc=>uCl zhH rfl zbc) ?_;refine gz5 ?_;refine uCo (fun h5=> ?_) fun h6=> ?_
 refine gz4 ?_;refine uRp ?_
 (refine congrArg _ (zy (e:=5) ?_ hg ?_ ?_)
  omega
  unfold zdS;exact uT
  first|decide|assumption)
 have hkx:key x.Key=true:=by simp_all
 have hll:=zvx (f:=RuleS.Key) (d:=zkH) (l:=l) (k:=k) (x:=x) hkx;refine gz7 ?_;refine uCo (fun h7=> ?_) fun h8=> ?_
 refine gz4 ?_;refine uRp ?_
 (refine congrArg _ (zy (e:=7) ?_ hg ?_ ?_)
  omega
  unfold zdS;exact uT
  first|decide|assumption)
 refine gz3 ?_;refine dq (uCl zge rfl zaW) ?_;refine gz3 ?_;refine uCo (fun h9=> ?_) fun h10=> ?_
 refine gz4 ?_;refine uRp ?_
 (refine congrArg _ (zy (e:=4) ?_ hg ?_ ?_)
  omega
  unfold zdS;exact uT
  first|decide|assumption)
 refine gz5 ?_;refine uGr rfl (fun hc=>uCl zge rfl zaW) ?_;refine zel ?_;refine uCo (fun h11=> ?_) fun h12=> ?_
 refine gz4 ?_;refine uRp ?_
 (refine congrArg _ (zy (e:=1) ?_ hg ?_ ?_)
  omega
  unfold zdS;exact uT
  first|decide|assumption)
 refine gz6 ?_;refine dq (z8 (h':= .agg [.int .i64 x.Num,.int .i64 x.Den]) (zaS zax rfl rfl (An rfl)) rfl) ?_;refine dq (uCl zwj rfl (zdW (n:=x.Num) (d:=x.Den) (most:=10000) (hb x (Ab hx)).1 (hb x (Ab hx)).2 uO)) ?_;refine gz6 ?_;refine uCo (fun h13=> ?_) fun h14=> ?_
 refine gz5 ?_;refine uRp ?_
 (refine congrArg _ (zy (e:=(zbm x.Num x.Den 10000)) ?_ hg ?_ ?_)
  omega
  unfold zdS;exact uT
  first|decide|assumption)
 refine zel ?_;exact ⟨k+1,⟨by omega,by rw [hg,zaV (by unfold zdS;(try clear hdx hg);(try simp only [Af]);focus first|(simp_all;done)|((repeat' split)<;>focus first|rfl|(exfalso;omega)|(simp_all;done)|(exfalso;rcases ‹_\/_› with q|q<;>simp_all;done)|(exfalso;simp_all;omega)))]⟩,uD,⟨rfl,congrArg (fun q=>some (HVal.str q)) (zr9 hx).symm,trivial⟩,uK,Ac _⟩;have hnk:l.length<=k:=by omega
 obtain rfl:k=l.length:=by omega
 rw [zI (Ae _)] at hg;refine gz2 ?_;refine zw ?_;refine gz6 ?_;refine uRp ?_
 (refine congrArg _ (zbB ?_ hg)
  omega)
theorem zjV [Tracks] {y x:SlotS}:ConP prog 199 [zbT y,.vptr (zb (zbT x)) 0] (.bool (y.Key==x.Key)):=by
 refine uOb func199 ntmps199 ?_;refine zel ?_;refine zx rfl ?_
 rfl
theorem zkX [Tracks] {l:List SlotS} (hl:l.length<=1000000) (hp: ∀x∈l,x.Positions.length<=1000000):ConP prog 109 [zeE l] (.int .i64 (zdr l)):=by
 refine uOb func109 ntmps109 ?_;refine zcj ?_;refine uCo (fun h1=> ?_) fun h2=> ?_
 ·refine gz4 ?_;refine uRp ?_
  (unfold zdr;simp_all;done)
 ·refine gz6 ?_;refine uCo (fun h3=> ?_) fun h4=> ?_
  ·refine gz4 ?_;refine uRp ?_
   (rw [zdr,if_neg (by first|omega|simp_all),if_pos uO];done)
  ·refine zaz ?_;refine uT1 [2,4,16,21] (fun k=>[(16,.int .i64 k)]) (fun k=>[]) (fun k=>k<=l.length/\(zcG l 0 l=zcG l k (l.drop k))) (fun k=>l.length-k) (0) ?_ ?_
   ·exact ⟨Ad _,rfl⟩
   ·rintro k ⟨hk,hg⟩;refine gz4 ?_;refine uCo (fun h5=> ?_) fun h6=> ?_
    ·obtain ⟨x,hx⟩: ∃x,l[k]? =some x:=⟨_,Aa h5⟩
     have hdx:=zi hx;rw [hdx] at hg;refine gz8 ?_;refine de rfl (zj zdt rfl fun b4=> ?_)
     refine gz1 ?_;refine de0 (zl zdt rfl rfl rfl rfl rfl ?_)
     refine gz1 ?_;refine ze (zm 4 rfl) ?_;refine gz4 ?_;refine dq (uCl zhH rfl zbc) ?_;refine gz2 ?_;refine uCo (fun h7=> ?_) fun h8=> ?_
     ·refine gz4 ?_;refine uRp ?_
      (refine congrArg _ (zin (e:=5) ?_ ?_ hg ?_)
       ·first|omega|simp_all
       ·omega
       ·rw [zcG]
        simp_all
        done)
     ·refine gz6 ?_;refine dq (zaQ zfv zdt rfl rfl ⟨_,_,rfl,rfl⟩ uO uO) ?_;refine gz1 ?_;refine dq (uCl zAl rfl (zcM (l:=l.take k) (p:=fun y=>y.Key==x.Key) zDT (fun _=>zjV) (by rw [Ax];omega))) ?_;refine gz1 ?_;refine uCo (fun h9=> ?_) fun h10=> ?_
      ·refine gz4 ?_;refine uRp ?_
       (refine congrArg _ (zin (e:=6) ?_ ?_ hg ?_)
        ·first|omega|simp_all
        ·omega
        ·rw [zcG]
         simp_all
         done)
      ·refine gz5 ?_;refine dq (uCl zAk rfl (zhj (hp x (Ab hx)))) ?_;refine gz6 ?_;refine uCo (fun h11=> ?_) fun h12=> ?_
       ·refine gz5 ?_;refine uRp ?_
        (refine congrArg _ (zin (e:=(zc8 x.Positions)) ?_ ?_ hg ?_)
         ·first|omega|simp_all
         ·omega
         ·rw [zcG]
          simp_all
          done)
       ·refine gz7 ?_;refine ⟨k+1,?_,?_,⟨rfl,trivial⟩,uK,Ac _⟩
        ·refine ⟨by omega,?_⟩
         rw [hg,zcG,if_neg uSa,if_neg uSa,if_neg uSa]
        ·dsimp only;omega
    ·have hnk:l.length<=k:=by omega
     obtain rfl:k=l.length:=by omega
     rw [zI (Ae _)] at hg;refine gz2 ?_;refine zw ?_;refine gz6 ?_;refine uRp ?_
     (refine congrArg _ (zuw ?_ ?_ hg)<;>first|omega|simp_all)
theorem zki [Tracks] {b:BoundS}:ConP prog 110 [zfS b] (.int .i64 (zdG b)):=by
 refine uOb func110 ntmps110 ?_;refine gz8 ?_;refine dq (uCl zge rfl zaW) ?_;refine gz4 ?_;refine uGr rfl (fun hc=>uCl zge rfl zaW) ?_;refine gz5 ?_;refine uGr rfl (fun hc=>uCl zge rfl zaW) ?_;refine gz5 ?_;refine uGr rfl (fun hc=>uCl zge rfl zaW) ?_;refine gz3 ?_;refine uCo (fun h1=> ?_) fun h2=> ?_
 refine gz4 ?_;refine uRp ?_;unfold zdG
 (rw [if_pos uSa])
 refine gz6 ?_;refine uRp ?_;unfold zdG
 (rw [if_neg uSa])
theorem zhk [Tracks] {a b:MoveS} (ha:MovB a) (hb:MovB b):ConP prog 42 [zdb a,zdb b] (.int .i64 (zgM a b)):=by
 obtain ⟨a1,a2⟩:=ha;obtain ⟨b1,b2⟩:=hb;refine uOb func42 ntmps42 ?_;refine zhL ?_;refine uCo (fun h1=> ?_) fun h2=> ?_
 refine gz6 ?_;refine dq (uCl zwc rfl zgZ) ?_;refine gz3 ?_;refine uRp ?_;rw [zlT]
 try rw [zhd]
 simp_all
 refine gz8 ?_;refine uCo (fun h3=> ?_) fun h4=> ?_
 refine gz5 ?_;refine dq (uCl zce rfl zL) ?_;refine gz3 ?_;refine uRp ?_;rw [zlT]
 try rw [zhd]
 simp_all
 refine gz8 ?_;refine uCo (fun h5=> ?_) fun h6=> ?_
 refine gz5 ?_;refine dq (uCl zce rfl zL) ?_;refine gz3 ?_;refine uRp ?_;rw [zlT]
 try rw [zhd]
 simp_all
 refine gz9 ?_;refine dq (uCl zwc rfl zgZ) ?_;refine gz3 ?_;refine uRp ?_;rw [zlT]
 try rw [zhd]
 simp_all
theorem zkT [Tracks] {l:List MoveS} (hl:l.length<=1000000) (hb: ∀x∈l,MovB x):ConP prog 49 [zcC l] (.int .i64 (zf1 l)):=by
 refine uOb func49 ntmps49 ?_;refine gz9 ?_;refine uCo (fun h1=> ?_) fun h2=> ?_
 refine gz4 ?_;refine uRp ?_
 (refine congrArg _ (zbJ ?_)
  omega)
 refine gz9 ?_;refine uT1 [2,3,10,40] (fun k=>[(10,.int .i64 k)]) (fun k=>[]) (fun k=>k<=l.length/\(zaX zes zjp l 0 l=zaX zes zjp l k (l.drop k))) (fun k=>l.length-k) (0) ?_ ?_;exact ⟨Ad _,rfl⟩;rintro k ⟨hk,hg⟩;refine gz4 ?_;refine uCo (fun h3=> ?_) fun h4=> ?_
 obtain ⟨x,hx⟩: ∃x,l[k]? =some x:=⟨_,Aa h3⟩
 have hdx:=zi hx;rw [hdx] at hg;refine gz8 ?_;refine de rfl (zj zH rfl fun b4=> ?_)
 refine gz1 ?_;refine de0 (zl zH rfl rfl rfl rfl rfl ?_)
 refine gz1 ?_;refine ze (zm 4 rfl) ?_;refine gz4 ?_;refine dq (uCl zz6 rfl ziI) ?_;refine gz3 ?_;refine uCo (fun h5=> ?_) fun h6=> ?_
 refine gz4 ?_;refine uRp ?_
 (refine congrArg _ (zy (e:=1) ?_ hg ?_ ?_)
  omega
  unfold zes;exact uT
  first|decide|assumption)
 refine gz3 ?_;refine dq (uCl zge rfl zaW) ?_;refine gz3 ?_;refine uCo (fun h7=> ?_) fun h8=> ?_
 refine gz4 ?_;refine uRp ?_
 (refine congrArg _ (zy (e:=4) ?_ hg ?_ ?_)
  omega
  unfold zes;exact uT
  first|decide|assumption)
 refine gz3 ?_;refine dq (uCl zhH rfl zbc) ?_;refine gz4 ?_;refine uGr rfl (fun hc=>uCl zhH rfl zbc) ?_;refine gz4 ?_;refine uCo (fun h9=> ?_) fun h10=> ?_
 refine gz4 ?_;refine uRp ?_
 (refine congrArg _ (zy (e:=5) ?_ hg ?_ ?_)
  omega
  unfold zes;exact uT
  first|decide|assumption)
 have htu:=zzr (x:=x) (p:=l.getD (k-1) zjp);refine uDr mixed ?_;refine gz6 ?_;refine uGy 6 rfl rfl (fun hc=>by have hq:=hc;(try simp at hq);exact zB (j:=k-1) (a:=l.getD (k-1) zjp) zcn zH rfl rfl uO (getD_some uO)) ?_;refine gz2 ?_;refine uGy 9 rfl rfl (fun hc=>by have hq:=hc;(try simp at hq);exact uCl ca42 rfl (zhk (a:=l.getD (k-1) zjp) (b:=x) (hb _ (Ab (getD_some uO))) (hb _ (Ab hx)))) ?_;refine gz4 ?_;refine uCo (fun h11=> ?_) fun h12=> ?_
 refine gz4 ?_;refine uRp ?_
 (refine congrArg _ (zy (e:=7) ?_ hg ?_ ?_)
  omega
  unfold zes;exact uT
  first|decide|assumption)
 refine gz8 ?_;refine ⟨k+1,?_,?_,⟨rfl,trivial⟩,uK,Ac _⟩
 refine ⟨by omega,?_⟩
 rw [hg,zaV (by unfold zes;(try clear hdx hg);(try simp only [Af]);focus first|(simp_all;done)|((repeat' split)<;>focus first|rfl|(exfalso;omega)|(simp_all;done)|(exfalso;rcases ‹_\/_› with q|q<;>simp_all;done)|(exfalso;simp_all;omega)))]
 dsimp only;omega
 have hnk:l.length<=k:=by omega
 obtain rfl:k=l.length:=by omega
 rw [zI (Ae _)] at hg;refine gz2 ?_;refine zw ?_;refine gz6 ?_;refine uRp ?_
 (refine congrArg _ (zbB ?_ hg)
  omega)
theorem zgF [Tracks] {l:List Str} (hl:l.length<=1000000):ConP prog 111 [eSs l] (.int .i64 (zc9 l)):=by
 refine uOb func111 ntmps111 ?_;refine zcj ?_;refine uCo (fun h1=> ?_) fun h2=> ?_
 refine gz4 ?_;refine uRp ?_
 (rw [zc9,if_pos uO])
 refine gz6 ?_;refine uCo (fun h3=> ?_) fun h4=> ?_
 refine gz4 ?_;refine uRp ?_
 (rw [zc9,if_neg uO,if_pos uO])
 refine gz5 ?_;refine dq (uCl zAm rfl (ziJ (by assumption))) ?_;refine gz3 ?_;refine uRp ?_
 (rw [zc9,if_neg uO,if_neg uO])
theorem zhi [Tracks] {a b:GameS} (ha: -1000000000000000<=a.Week/\a.Week<=1000000000000000) (hb: -1000000000000000<=b.Week/\b.Week<=1000000000000000):ConP prog 97 [zaa a,zaa b] (.int .i64 (zgb a b)):=by
 refine uOb func97 ntmps97 ?_;refine zhL ?_;refine uCo (fun h1=> ?_) fun h2=> ?_
 refine gz6 ?_;refine dq (uCl zwc rfl zgZ) ?_;refine gz3 ?_;refine uRp ?_;rw [zpt]
 try rw [zhd]
 simp_all
 refine gz8 ?_;refine uCo (fun h3=> ?_) fun h4=> ?_
 refine gz5 ?_;refine dq (uCl zce rfl zL) ?_;refine gz3 ?_;refine uRp ?_;rw [zpt]
 try rw [zhd]
 simp_all
 refine gz8 ?_;refine dq (uCl zce rfl zL) ?_;refine gz3 ?_;refine uRp ?_;rw [zpt]
 try rw [zhd]
 simp_all
theorem zjX [Tracks] {x:GameS} (hb:((-1000000000<=x.FNum/\x.FNum<=1000000000)/\ -1000000000<=x.FDen/\x.FDen<=1000000000)/\((-1000000000<=x.ONum/\x.ONum<=1000000000)/\ -1000000000<=x.ODen/\x.ODen<=1000000000)):ConP prog 201 [zaa x] (.int .i64 (zfW x)):=by
 refine uOb func201 ntmps201 ?_;refine zaz ?_;refine uCo (fun h1=> ?_) fun h2=> ?_
 refine gz3 ?_;refine dq (z8 (h':= .agg [.int .i64 x.FNum,.int .i64 x.FDen]) (zaS zax rfl rfl (An rfl)) rfl) ?_;refine dq (zG (cs:=[_,_]) zax zle rfl) ?_;refine dq (ziV zax zwz rfl rfl ⟨rfl,⟨_,_,_,_,ty3,rfl⟩,⟨rfl,⟨_,_,_,_,ty3,rfl⟩,trivial⟩⟩) ?_;refine gz2 ?_;refine uGr rfl (fun hc=>z8 (h':= .agg [.int .i64 x.ONum,.int .i64 x.ODen]) (zaS zax rfl rfl (An rfl)) rfl) ?_;refine uGr rfl (fun hc=>zG (cs:=[_,_]) zax zle rfl) ?_;refine uGr rfl (fun hc=>ziV zax zwz rfl rfl ⟨rfl,⟨_,_,_,_,ty3,rfl⟩,⟨rfl,⟨_,_,_,_,ty3,rfl⟩,trivial⟩⟩) ?_;refine gz2 ?_;refine uCo (fun h3=> ?_) fun h4=> ?_
 simp [za2,zg7,eqH] at h3
 refine gz4 ?_;refine uRp ?_
 (unfold zfW;simp_all)
 refine gz2 ?_
 simp [za2,zg7,eqH] at h4
 refine gz4 ?_;refine uRp ?_
 (unfold zfW;simp_all)
 refine gz2 ?_;have hpl:x.Played=true:=by simpa using h2
 have hgf:=zy3 hpl;refine uDr mixed ?_;refine gz1 ?_;refine uB 1 rfl (z8 (h':= .agg [.int .i64 x.FNum,.int .i64 x.FDen]) (zaS zax rfl rfl (An rfl)) rfl) ?_;refine uB 2 rfl (uCl zwj rfl (zdW (n:=x.FNum) (d:=x.FDen) (most:=1000000) hb.1.1 hb.1.2 uO)) ?_;refine gz1 ?_;refine uB 4 rfl (z8 (h':= .agg [.int .i64 x.ONum,.int .i64 x.ODen]) (zaS zax rfl rfl (An rfl)) rfl) ?_;refine uB 5 rfl (uCl zwj rfl (zdW (n:=x.ONum) (d:=x.ODen) (most:=1000000) hb.2.1 hb.2.2 uO)) ?_;refine gz5 ?_;refine dq (za (hs:=[_,_]) zeh zgA rfl rfl (by decide) (by decide) rfl) ?_;refine dq (zaD (f:=HVal.int .i64) (l:=([3,1]:List Int)) zeh rfl) ?_;refine gz3 ?_;refine uT1 [2,1,6,1,28,14] (fun k=>[(28,.int .i64 k)]) (fun k=>[]) (fun k=>k<=([3,1]:List Int).length/\(zzY (zbm x.FNum x.FDen 1000000) (zbm x.ONum x.ODen 1000000)=zox (zbm x.FNum x.FDen 1000000) (zbm x.ONum x.ODen 1000000) (([3,1]:List Int).drop k))) (fun k=>([3,1]:List Int).length-k) (0) ?_ ?_;exact ⟨Ad _,rfl⟩;rintro k ⟨hk,hg⟩;refine gz4 ?_;refine uCo (fun h5=> ?_) fun h6=> ?_
 obtain ⟨z,hz⟩: ∃z,([3,1]:List Int)[k]? =some z:=⟨_,Aa (by show k<2;omega)⟩
 have hdz:=zi hz;rw [hdz] at hg;refine gz5 ?_;refine dq (zB zeh zgA rfl rfl rfl (by assumption)) ?_;refine zel ?_;refine uCo (fun h7=> ?_) fun h8=> ?_
 refine gz5 ?_;refine uRp ?_
 (rw [hgf,hg,zox,if_pos uSa])
 refine gz7 ?_;refine ⟨k+1,?_,?_,⟨rfl,trivial⟩,uK,Ac _⟩
 refine ⟨by show k+1<=2;omega,?_⟩
 rw [hg,zox,if_neg uSa]
 show 2-(k+1)<2-k
 omega
 refine gz2 ?_;refine zw ?_;refine gz6 ?_;refine uRp ?_
 (have e2:k=2:=by (have q:([3,1]:List Int).length=2:=rfl;omega)
  subst e2;rw [hgf,hg];rfl)
theorem zjS [Tracks] {y x:GameS}:ConP prog 202 [zaa y,.vptr (zb (zaa x)) 0] (.bool (ziP x y)):=by
 refine uOb func202 ntmps202 ?_;refine gz40 ?_;refine gz1 ?_;refine zx rfl ?_
 show HVal.bool _=_
 unfold ziP
 simp [Ck]
theorem zkS [Tracks] {T:List Str} {l:List GameS} (hT:T.length<=1000000) (hl:l.length<=1000000) (hb: ∀x∈l,GamB x):ConP prog 112 [eSs T,zgI l] (.int .i64 (zdX T l)):=by
 refine uOb func112 ntmps112 ?_;refine gz6 ?_;refine dq (uCl zz5 rfl (zgF (by assumption))) ?_;refine gz6 ?_;refine uCo (fun h1=> ?_) fun h2=> ?_
 ·refine gz5 ?_;refine uRp ?_
  try rw [hE]
  (rw [zdX,if_pos (by assumption)];done)
 ·refine gz3 ?_;have hz:zc9 T=0:=by first|assumption|simp_all
  have hE:zdX T l=zdM T l:=by rw [zdX,if_neg (by simp [hz])]
  refine gz5 ?_;refine uCo (fun h3=> ?_) fun h4=> ?_
  ·refine gz4 ?_;refine uRp ?_
   try rw [hE]
   (refine congrArg _ (zd4 (zbJ ?_) (by decide))
    omega)
  ·refine gz9 ?_;refine uT1 [4,1,6,3,21,47] (fun k=>[(21,.int .i64 k)]) (fun k=>[]) (fun k=>k<=l.length/\(zaX (zb3 T) zdT l 0 l=zaX (zb3 T) zdT l k (l.drop k))) (fun k=>l.length-k) (0) ?_ ?_
   ·exact ⟨Ad _,rfl⟩
   ·rintro k ⟨hk,hg⟩;refine gz4 ?_;refine uCo (fun h5=> ?_) fun h6=> ?_
    ·obtain ⟨x,hx⟩: ∃x,l[k]? =some x:=⟨_,Aa h5⟩
     have hdx:=zi hx;rw [hdx] at hg;refine gz8 ?_;refine de rfl (zj za7 rfl fun b7=> ?_)
     refine gz1 ?_;refine de0 (zl za7 rfl rfl rfl rfl rfl ?_)
     refine gz1 ?_;refine ze (zm 7 rfl) ?_;refine gz5 ?_;refine dq (uCl zwi rfl zgY) ?_;refine gz3 ?_;refine uCo (fun h7=> ?_) fun h8=> ?_
     ·refine gz4 ?_;refine uRp ?_
      try rw [hE]
      (refine congrArg _ (zd4 (e:=1) (zy ?_ hg ?_ ?_) ?_)
       ·omega
       ·unfold zb3
        simp_all
        done
       ·first|decide|assumption
       ·first|decide|assumption)
     ·refine gz4 ?_;refine dq (uCl zhI rfl (zK (l:=T) (s:=x.Home) uO)) ?_;refine gz5 ?_;refine uGr rfl (fun hc=>by have hq:=hc;(try simp at hq);exact uCl zhI rfl (zK (l:=T) (s:=x.Away) uO)) ?_;refine gz4 ?_;refine uCo (fun h9=> ?_) fun h10=> ?_
      ·refine gz4 ?_;refine uRp ?_
       try rw [hE]
       (refine congrArg _ (zd4 (e:=8) (zy ?_ hg ?_ ?_) ?_)
        ·omega
        ·unfold zb3
         simp_all
         done
        ·first|decide|assumption
        ·first|decide|assumption)
      ·refine gz8 ?_;refine uCo (fun h11=> ?_) fun h12=> ?_
       ·refine gz4 ?_;refine uRp ?_
        try rw [hE]
        (refine congrArg _ (zd4 (e:=6) (zy ?_ hg ?_ ?_) ?_)
         ·omega
         ·unfold zb3
          simp_all
          done
         ·first|decide|assumption
         ·first|decide|assumption)
       ·refine gz5 ?_;refine dq (zai (h:=zaa x) za7 rfl rfl rfl rfl) ?_;refine dq (uCl zDU rfl (zjX (x:=x) ⟨(hb x (Ab hx)).fr,(hb x (Ab hx)).ot⟩)) ?_;refine gz6 ?_;refine uCo (fun h13=> ?_) fun h14=> ?_
        ·refine gz5 ?_;refine uRp ?_
         try rw [hE]
         (refine congrArg _ (zd4 (e:=(zfW x)) (zy ?_ hg ?_ ?_) ?_)
          ·omega
          ·unfold zb3
           simp_all
           done
          ·first|decide|assumption
          ·first|decide|assumption)
        ·refine gz2 ?_;have htu:=zy4 (x:=x) (p:=l.getD (k-1) zdT);refine uDr mixed ?_;refine gz6 ?_;refine uGy 6 rfl rfl (fun hc=>by have hq:=hc;(try simp at hq);exact zB (j:=k-1) (a:=l.getD (k-1) zdT) zcI za7 rfl rfl uO (getD_some uO)) ?_;refine gz2 ?_;refine uGy 9 rfl rfl (fun hc=>by have hq:=hc;(try simp at hq);exact uCl ca97 rfl (zhi (a:=l.getD (k-1) zdT) (b:=x) (hb _ (Ab (getD_some uO))).week (hb _ (Ab hx)).week)) ?_;refine gz3 ?_;refine uCo (fun h15=> ?_) fun h16=> ?_
         ·refine gz4 ?_;refine uRp ?_
          try rw [hE]
          (refine congrArg _ (zd4 (e:=7) (zy ?_ hg ?_ ?_) ?_)
           ·omega
           ·unfold zb3
            simp_all
            done
           ·first|decide|assumption
           ·first|decide|assumption)
         ·refine gz7 ?_;refine ⟨k+1,?_,?_,⟨rfl,trivial⟩,uK,Ac _⟩
          ·refine ⟨by omega,?_⟩
           rw [hg,zaV (by unfold zb3;(try clear hdx hg);(try simp only [Af]);first|(simp_all;done)|((repeat' split)<;>first|rfl|(exfalso;omega)|(simp_all;done)|(exfalso;rcases ‹_\/_› with q|q<;>simp_all;done)|(exfalso;simp_all;omega)))]
          ·dsimp only;omega
    ·have hnk:l.length<=k:=by omega
     obtain rfl:k=l.length:=by omega
     rw [zI (Ae _)] at hg;refine gz2 ?_;refine zw ?_;refine gz9 ?_;refine uT1 [4,1,9,2,70,11] (fun k=>[(70,.int .i64 k)]) (fun k=>[]) (fun k=>k<=l.length/\(zdK l 0 l=zdK l k (l.drop k))) (fun k=>l.length-k) (0) ?_ ?_
     ·exact ⟨Ad _,rfl⟩
     ·rintro k ⟨hk,hg2⟩;refine gz4 ?_;refine uCo (fun h17=> ?_) fun h18=> ?_
      ·obtain ⟨x,hx⟩: ∃x,l[k]? =some x:=⟨_,Aa h17⟩
       have hdx:=zi hx;rw [hdx] at hg2;refine gz8 ?_;refine de rfl (zj za7 rfl fun b10=> ?_)
       refine gz1 ?_;refine de0 (zl za7 rfl rfl rfl rfl rfl ?_)
       refine gz1 ?_;refine ze (zm 10 rfl) ?_;refine gz3 ?_;refine dq (zaQ zcI za7 rfl rfl ⟨_,_,rfl,rfl⟩ uO uO) ?_;refine gz1 ?_;refine dq (uCl zwb rfl (zaZ (l:=l.take k) (p:=ziP x) zDV (fun _=>zjS) (by rw [Ax];omega))) ?_;refine gz1 ?_;refine uCo (fun h19=> ?_) fun h20=> ?_
       ·refine gz4 ?_;refine uRp ?_
        try rw [hE]
        (rw [zdM,if_neg (by rw [<-zbB uO hg];simp),if_pos (by rw [hg2,zdK];simp_all)];done)
       ·refine gz7 ?_;refine ⟨k+1,?_,?_,⟨rfl,trivial⟩,uK,Ac _⟩
        ·refine ⟨by omega,?_⟩
         rw [hg2,zdK];simp_all
        ·dsimp only;omega
      ·have hnk:l.length<=k:=by omega
       obtain rfl:k=l.length:=by omega
       rw [zI (Ae _)] at hg2;refine gz2 ?_;refine zw ?_;refine gz6 ?_;refine uRp ?_
       try rw [hE]
       (rw [zdM,if_neg (by rw [<-zbB uO hg];simp),if_neg (by rw [hg2];simp [zdK])];done)
theorem zkj [Tracks] {l:List Int} (hl:l.length<=1000000):ConP prog 114 [.slice 1 (l.map (HVal.int .i64))] (.int .i64 (zh9 l)):=by
 refine uOb func114 ntmps114 ?_;refine gz9 ?_;refine uCo (fun h1=> ?_) fun h2=> ?_
 ·refine gz4 ?_;refine uRp ?_
  (rw [zh9,if_pos uO];done)
 ·refine gz9 ?_;refine uT1 [2,3,10,14] (fun k=>[(10,.int .i64 k)]) (fun k=>[]) (fun k=>k<=l.length/\(zd8 l 0 l=zd8 l k (l.drop k))) (fun k=>l.length-k) (0) ?_ ?_
  ·exact ⟨Ad _,rfl⟩
  ·rintro k ⟨hk,hg⟩;refine gz4 ?_;refine uCo (fun h3=> ?_) fun h4=> ?_
   ·obtain ⟨x,hx⟩: ∃x,l[k]? =some x:=⟨_,Aa h3⟩
    have hdx:=zi hx;rw [hdx] at hg;refine zdg ?_;refine dq (uCl zge rfl zaW) ?_;refine gz2 ?_;refine uCo (fun h5=> ?_) fun h6=> ?_
    ·refine gz4 ?_;refine uRp ?_
     (refine congrArg _ (zoE (e:=4) ?_ hg ?_)
      ·omega
      ·rw [zd8]
       simp_all
       done)
    ·refine gz5 ?_;refine dq (zaQ zah ty3 rfl rfl ⟨_,_,rfl,rfl⟩ uO uO) ?_;refine gz1 ?_;refine dq (uCl zAn rfl (zfy (l:=l.take k) (z:=x) (by rw [Ax];omega))) ?_;refine gz1 ?_;refine uCo (fun h7=> ?_) fun h8=> ?_
     ·refine gz4 ?_;refine uRp ?_
      (refine congrArg _ (zoE (e:=6) ?_ hg ?_)
       ·omega
       ·rw [zd8]
        simp_all
        done)
     ·refine gz7 ?_;refine ⟨k+1,?_,?_,⟨rfl,trivial⟩,uK,Ac _⟩
      ·refine ⟨by omega,?_⟩
       rw [hg,zd8,if_neg uSa,if_neg uSa]
      ·dsimp only;omega
   ·have hnk:l.length<=k:=by omega
    obtain rfl:k=l.length:=by omega
    rw [zI (Ae _)] at hg;refine gz2 ?_;refine zw ?_;refine gz6 ?_;refine uRp ?_
    (refine congrArg _ (zvf ?_ hg)
     omega)
end
section
open Go.Proofs.Tryz
open Go.HL
theorem znt [Tracks] {a b:MendS}:ConP prog 125 [zbS a,zbS b] (.int .i64 (zeq a b)):=by
 refine uOb func125 ntmps125 ?_;refine gz5 ?_;refine uDr mixed ?_;refine gz4 ?_;refine uB 4 rfl (uCl zce rfl zL) ?_;refine gz4 ?_;refine uB 9 rfl (uCl zcZ rfl zS) ?_;refine gz4 ?_;refine uB 14 rfl (uCl zce rfl zL) ?_;refine gz4 ?_;refine uB 19 rfl (uCl zcZ rfl zS) ?_;refine uB 20 rfl (za (hs:=[_,_,_,_]) zah ty3 rfl rfl (by decide) (by decide) rfl) ?_;refine uB 21 rfl (uCl zfz rfl (zbd (l:=[_,_,_,_]) (by simp))) ?_;refine gz3 ?_;refine zx rfl ?_
 rfl
theorem zkP [Tracks] {m:List MendS} (hl:m.length<=1000000) (hgm: ∀x∈m,zhu x):ConP prog 51 [zcq m] (.int .i64 (zbE m)):=by
 refine uOb func51 ntmps51 ?_;refine gz9 ?_;refine uCo (fun h1=> ?_) fun h2=> ?_
 ·refine gz4 ?_;refine uRp ?_
  (rw [zbE,if_pos uO];done)
 ·refine gz9 ?_;refine uT1 [2,3,10,59] (fun k=>[(10,.int .i64 k)]) (fun k=>[]) (fun k=>k<=m.length/\(zaT zaJ zeq zev m 0 m=zaT zaJ zeq zev m k (m.drop k))) (fun k=>m.length-k) (0) ?_ ?_
  ·exact ⟨Ad _,rfl⟩
  ·rintro k ⟨hk,hg⟩;refine gz4 ?_;refine uCo (fun h3=> ?_) fun h4=> ?_
   ·obtain ⟨x,hx⟩: ∃x,m[k]? =some x:=⟨_,Aa h3⟩
    have hdx:=zi hx;rw [hdx] at hg;refine gz8 ?_;refine de rfl (zj zbr rfl fun b4=> ?_)
    refine gz1 ?_;refine de0 (zl zbr rfl rfl rfl rfl rfl ?_)
    refine gz1 ?_;refine ze (zm 4 rfl) ?_;refine gz4 ?_;refine dq (uCl zjk rfl (zbO (hgm x (Ab hx)).1)) ?_;refine gz4 ?_;refine uGr rfl (fun hc=>uCl zjk rfl (zbO (hgm x (Ab hx)).2.1)) ?_;refine gz5 ?_;refine uGr rfl (fun hc=>uCl zjk rfl (zbO (hgm x (Ab hx)).2.2)) ?_;refine gz4 ?_;refine uCo (fun h5=> ?_) fun h6=> ?_
    ·refine gz4 ?_;refine uRp ?_
     (refine congrArg _ (zkF (c:=5) uO hg (by decide) ?_)
      rw [zaJ,if_pos]
      simp_all
      done)
    ·refine gz3 ?_;refine dq (uCl zwd rfl zez) ?_;refine gz4 ?_;refine uGr rfl (fun hc=>uCl zma rfl zcQ) ?_;refine gz5 ?_;refine uGr rfl (fun hc=>uCl zs0 rfl zcP) ?_;refine gz5 ?_;refine uGr rfl (fun hc=>uCl zma rfl zcQ) ?_;refine gz4 ?_;refine uCo (fun h7=> ?_) fun h8=> ?_
     ·refine gz4 ?_;refine uRp ?_
      (refine congrArg _ (zkF (c:=1) uO hg (by decide) ?_)
       rw [zaJ,if_neg,if_pos]
       all_goals simp_all
       done)
     ·refine uDr mixed ?_;refine gz6 ?_;refine uGy 6 rfl rfl (fun hc=>by have hq:=hc;(try simp at hq);exact zB (j:=k-1) (a:=m.getD (k-1) zev) zgz zbr rfl rfl uO (getD_some uO)) ?_;refine gz2 ?_;refine uGy 9 rfl rfl (fun hc=>uCl zDc rfl znt) ?_;refine gz4 ?_;refine uCo (fun h9=> ?_) fun h10=> ?_
      ·refine gz4 ?_;refine uRp ?_
       (have f1:=zhg.flip x (m.getD (k-1) zev) trivial trivial
        have f2:=zhg.flip (m.getD (k-1) zev) x trivial trivial;refine congrArg _ (zsh uO hg ?_ ?_ ?_)
        ·rw [zaJ,if_neg,if_neg]<;>simp_all
        ·simp_all
        ·simp_all;omega)
      ·refine gz8 ?_;refine ⟨k+1,?_,?_,⟨rfl,trivial⟩,uK,Ac _⟩
       ·refine ⟨by omega,?_⟩
        rw [hg,zj1 (by rw [zaJ,if_neg uSa,if_neg uSa]) (by intro hk0;have:=zhg.flip x (m.getD (k-1) zev) trivial trivial;have:=zhg.flip (m.getD (k-1) zev) x trivial trivial;simp_all;try omega)]
       ·dsimp only;omega
   ·have hnk:m.length<=k:=by omega
    obtain rfl:k=m.length:=by omega
    rw [zI (Ae _)] at hg;refine gz2 ?_;refine zw ?_;refine gz6 ?_;refine uRp ?_
    (rw [zbE,if_neg uO,hg];rfl)
end
section
open Go.Proofs.Tryz
open Go.HL
theorem zsD [Tracks] {l:List Str} {fid:FuncId} {caps:List HVal} {p:Str->Bool} (hca:Callable prog fid) (hp: ∀x∈l,ConP prog fid ([HVal.str x]++caps) (.bool (p x))) (hl:l.length<=1000000):ConP prog 210 [.slice 1 (l.map HVal.str),.fn (.func fid) [] caps] (.int .i64 (zT p l 0)):=by
 refine uOb func210 ntmps210 ?_;refine zaz ?_;refine uT1 [4,2,8,11] (fun k=>[(8,.int .i64 k)]) (fun k=>[]) (fun k=>k<=l.length/\(zT p l 0=zT p (l.drop k) k)) (fun k=>l.length-k) (0) ?_ ?_;exact ⟨Ad _,rfl⟩;rintro k ⟨hk,hg⟩;refine gz4 ?_;refine uCo (fun h1=> ?_) fun h2=> ?_
 obtain ⟨x,hx⟩: ∃x,l[k]? =some x:=⟨_,Aa h1⟩
 have hdx:=zi hx;rw [hdx] at hg;refine zdg ?_;refine dq (zao hca rfl rfl (WeakL.refl _) (hp _ (Ab hx))) ?_;refine gz1 ?_;refine uCo (fun h3=> ?_) fun h4=> ?_
 refine gz5 ?_;refine uRp ?_
 (rw [hg];simp_all [zT])
 refine gz7 ?_;refine ⟨k+1,?_,?_,⟨rfl,trivial⟩,uK,Ac _⟩
 refine ⟨by omega,?_⟩
 rw [hg,zT,if_neg uSa];rfl
 dsimp only;omega
 have hnk:l.length<=k:=by omega
 obtain rfl:k=l.length:=by omega
 rw [zI (Ae _)] at hg;refine gz2 ?_;refine zw ?_;refine gz6 ?_;refine uRp ?_
 (rw [hg];rfl)
theorem zpv [Tracks] {l:List Str} {fid:FuncId} {caps:List HVal} {p:Str->Bool} (hca:Callable prog fid) (hp: ∀x∈l,ConP prog fid ([HVal.str x]++caps) (.bool (p x))) (hl:l.length<=1000000):ConP prog 128 [.slice 1 (l.map HVal.str),.fn (.func fid) [] caps] (.bool (l.any p)):=by
 refine uOb func128 ntmps128 ?_;refine gz6 ?_;refine dq (uCl zwk rfl (zsD hca hp hl)) ?_;refine gz4 ?_;refine zx rfl ?_
 congr 1;exact zc1 p l 0 uO
theorem zji [Tracks] {x:GameS}:ConP prog 113 [zaa x] (.bool x.Played):=by
 refine uOb func113 ntmps113 ?_;refine zaz ?_;refine zx rfl ?_
 rfl
theorem zkh [Tracks] {g:LeagueS} (hT:Tracks.on=false) (hb:LeaB g) (hg: ∀x∈g.Games,GamB x) (ht: ∀s∈g.Trust,Sh s):ConP prog 47 [zfi g] (.int .i64 (zcA g)):=by
 have hst:=hb.sta;refine uOb func47 ntmps47 ?_;refine gz8 ?_;refine dq (uCl zC0 rfl (zjU (l:=g.Players) hT hb.pl hb.nm hb.po)) ?_;refine gz6 ?_;refine uCo (fun h1=> ?_) fun h2=> ?_
 refine gz5 ?_;refine uRp ?_;exact congrArg _ (zx0 (by assumption));refine gz3 ?_;refine uDr mixed ?_;refine gz4 ?_;refine uB 4 rfl (uCl zC1 rfl (zkl (L:=g.Players) (l:=g.Stints) hb.pl hb.st)) ?_;refine gz2 ?_;refine uB 7 rfl (uCl zC2 rfl (zjj (l:=g.Fixtures) hb.fx)) ?_;refine gz2 ?_;refine uB 10 rfl (uCl zC3 rfl (zkV (l:=g.Rules) hb.ru hb.rw')) ?_;refine gz2 ?_;refine uB 13 rfl (uCl zC4 rfl (zkX (l:=g.Slots) hb.sl hb.sp)) ?_;refine gz1 ?_;refine uB 15 rfl (z8 (h':=zfS g.Bounds) (zaS zja rfl rfl (An rfl)) rfl) ?_;refine uB 16 rfl (uCl zC5 rfl (zki (b:=g.Bounds))) ?_;refine gz2 ?_;refine uB 19 rfl (uCl zz5 rfl (zgF (l:=g.Teams) hb.tm)) ?_;refine uB 20 rfl (za (hs:=[_,_,_,_,_,_]) zeh zgA rfl rfl (by decide) (by decide) rfl) ?_;refine uB 21 rfl (uCl zyP rfl (zfJ (l:=[_,_,_,_,_,_]) (by simp))) ?_;refine gz6 ?_;refine uCo (fun h3=> ?_) fun h4=> ?_
 refine gz5 ?_;refine uRp ?_;exact congrArg _ (zCw (by assumption) (by assumption));refine gz3 ?_;have hB:zi6 g=0:=by assumption
 have hgt:=zBh (l:=g.Games) (zzj hB);refine gz5 ?_;refine dq (z8 (uCl zC6 rfl (zkS (T:=g.Teams) (l:=g.Games) hb.tm hb.ga hg)) (congrArg (HVal.int .i64) hgt)) ?_;refine gz6 ?_;refine uCo (fun h5=> ?_) fun h6=> ?_
 refine gz5 ?_;refine uRp ?_;exact congrArg _ (zCx (by assumption) hB (by assumption));refine gz6 ?_;refine dq (uCl zwb rfl (zaZ (l:=g.Games) (p:=fun x=>x.Played) zC7 (fun _=>zji) hb.ga)) ?_;refine gz1 ?_;refine uCo (fun h7=> ?_) fun h8=> ?_
 refine gz4 ?_;refine uRp ?_;exact congrArg _ (zCy (by assumption) hB (by assumption) (by unfold zcW;simp_all));refine gz3 ?_;refine uDr mixed ?_;refine gz2 ?_;refine uB 2 rfl (uCl zC8 rfl (zkj (l:=g.Breaks) hb.br)) ?_;refine gz2 ?_;refine uB 5 rfl (uCl zC9 rfl (zkR (l:=g.Trust) hb.tr ht)) ?_;refine gz2 ?_;refine uB 8 rfl (uCl zs0 rfl zcP) ?_;refine uB 9 rfl (za (hs:=[_,_,_]) zeh zgA rfl rfl (by decide) (by decide) rfl) ?_;refine uB 10 rfl (uCl zyP rfl (zfJ (l:=[_,_,_]) (by simp))) ?_;refine gz6 ?_;refine uCo (fun h9=> ?_) fun h10=> ?_
 refine gz5 ?_;refine uRp ?_;exact congrArg _ (zCz (by assumption) hB (by assumption) (by unfold zcW;simp_all) (by assumption));refine gz8 ?_;refine uCo (fun h11=> ?_) fun h12=> ?_
 refine gz4 ?_;refine uRp ?_
 (rw [zx1 (by assumption) hB (by assumption) (by unfold zcW;simp_all) (by assumption),if_pos uO])
 refine gz6 ?_;refine uRp ?_
 (rw [zx1 (by assumption) hB (by assumption) (by unfold zcW;simp_all) (by assumption),if_neg uO])
theorem zlV [Tracks] {a b:ChoiceS}:ConP prog 129 [zar a,zar b] (.int .i64 (zks a b)):=by
 refine uOb func129 ntmps129 ?_;refine gz5 ?_;refine uDr mixed ?_;refine gz4 ?_;refine uB 4 rfl (uCl zce rfl zL) ?_;refine gz4 ?_;refine uB 9 rfl (uCl zcZ rfl zS) ?_;refine gz4 ?_;refine uB 14 rfl (uCl zcZ rfl zS) ?_;refine uB 15 rfl (za (hs:=[_,_,_]) zah ty3 rfl rfl (by decide) (by decide) rfl) ?_;refine uB 16 rfl (uCl zfz rfl (zbd (l:=[_,_,_]) (by simp))) ?_;refine gz3 ?_;refine zx rfl ?_
 rfl
theorem ze8 [Tracks] {s:Str} (hs:Sh s):ConP prog 127 [.str s] (.bool (!(zb6 s))):=by
 refine uOb func127 ntmps127 ?_;refine gz8 ?_;refine uGr rfl (fun hc=>uCl zjk rfl (zbO hs)) ?_;refine gz5 ?_;refine zx rfl ?_
 show HVal.bool _=_
 rw [zyb]
 cases s with
 |nil=>rfl
 |cons x r=>simp
theorem zjR [Tracks] {g:LeagueS} {l:List ChoiceS} (hb:LeaB g) (hl:l.length<=1000000) (hp: ∀x∈l,x.Players.length<=1000000) (hcs: ∀x∈l,(∀s∈x.Players,Sh s)/\Sh x.Captain):ConP prog 53 [zfi g,zj3 l] (.int .i64 (zrp g.Teams g.Slots.length l)):=by
 refine uOb func53 ntmps53 ?_;refine zaz ?_;refine uCo (fun h1=> ?_) fun h2=> ?_
 refine gz4 ?_;refine uRp ?_
 (refine congrArg _ (zbJ ?_)
  omega)
 refine zdf ?_;refine uT1 [4,1,6,2,13,56] (fun k=>[(13,.int .i64 k)]) (fun k=>[]) (fun k=>k<=l.length/\(zaX (zb2 g.Teams g.Slots.length) zfg l 0 l=zaX (zb2 g.Teams g.Slots.length) zfg l k (l.drop k))) (fun k=>l.length-k) (0) ?_ ?_;exact ⟨Ad _,rfl⟩;rintro k ⟨hk,hg⟩;refine gz4 ?_;refine uCo (fun h3=> ?_) fun h4=> ?_
 obtain ⟨x,hx⟩: ∃x,l[k]? =some x:=⟨_,Aa h3⟩
 have hdx:=zi hx;rw [hdx] at hg;refine gz6 ?_;refine dq (zB zf7 zeg rfl rfl rfl (by assumption)) ?_;refine gz1 ?_;refine de rfl (zj zeg rfl fun b7=> ?_)
 refine gz1 ?_;refine de0 (zl zeg rfl rfl rfl rfl rfl ?_)
 refine gz1 ?_;refine ze (zm 7 rfl) ?_;refine gz1 ?_;have hwk: ∀n:Int,((if za1 n then (0:Int) else 1)=0)↔za1 n=true:=fun n=>by cases za1 n<;>simp
 have hmo: ∀n:Int,((if zU n then (0:Int) else 1)=0)↔zU n=true:=fun n=>by cases zU n<;>simp
 refine gz5 ?_;refine dq (uCl zhI rfl (zK (l:=g.Teams) (s:=x.Team) (by have:=hb.tm;omega))) ?_;refine gz3 ?_;refine uCo (fun h5=> ?_) fun h6=> ?_
 refine gz4 ?_;refine uRp ?_
 (refine congrArg _ (zy (e:=8) ?_ hg ?_ ?_)
  omega
  unfold zb2
  (try generalize ((x.Players++[x.Captain]).all zb6)=N at*)
  exact uT
  first|decide|assumption)
 refine gz3 ?_;refine dq (uCl zwd rfl zez) ?_;refine gz4 ?_;refine uGr rfl (fun hc=>uCl zs0 rfl zcP) ?_;refine gz4 ?_;refine uCo (fun h7=> ?_) fun h8=> ?_
 refine gz4 ?_;refine uRp ?_
 (refine congrArg _ (zy (e:=1) ?_ hg ?_ ?_)
  omega
  unfold zb2
  (try generalize ((x.Players++[x.Captain]).all zb6)=N at*)
  exact uT
  first|decide|assumption)
 refine gz3 ?_;refine dq (zaD (f:=HVal.str) (l:=x.Players) zp rfl) ?_;refine gz2 ?_;refine dq (zaD (f:=zbT) (l:=g.Slots) zfv rfl) ?_;refine gz3 ?_;refine uCo (fun h9=> ?_) fun h10=> ?_
 refine gz4 ?_;refine uRp ?_
 (refine congrArg _ (zy (e:=3) ?_ hg ?_ ?_)
  omega
  unfold zb2
  (try generalize ((x.Players++[x.Captain]).all zb6)=N at*)
  exact uT
  first|decide|assumption)
 refine gz4 ?_;refine dq (uCl zz8 rfl (zpv (l:=x.Players) (p:=fun s=> !(zb6 s)) zz7 (fun s hs=>ze8 ((hcs x (Ab hx)).1 s hs)) (hp x (Ab hx)))) ?_;refine gz4 ?_;refine uGr rfl (fun hc=>zao zz7 rfl rfl (WeakL.refl _) (ze8 (hcs x (Ab hx)).2)) ?_;refine gz3 ?_;refine uCo (fun h11=> ?_) fun h12=> ?_
 have hbad:((x.Players++[x.Captain]).all zb6)=false:=zu2 (by assumption);refine gz4 ?_;refine uRp ?_
 (refine congrArg _ (zy (e:=5) ?_ hg ?_ ?_)
  omega
  unfold zb2
  (try generalize ((x.Players++[x.Captain]).all zb6)=N at*)
  exact uT
  first|decide|assumption)
 have hgood:((x.Players++[x.Captain]).all zb6)=true:=by rw [zyc];simp_all
 have htu:=zyT (x:=x) (p:=l.getD (k-1) zfg);refine uDr mixed ?_;refine gz6 ?_;refine uGy 6 rfl rfl (fun hc=>by have hq:=hc;(try simp at hq);exact zB (j:=k-1) (a:=l.getD (k-1) zfg) zf7 zeg rfl rfl uO (getD_some uO)) ?_;refine gz2 ?_;refine uGy 9 rfl rfl (fun hc=>uCl zDd rfl zlV) ?_;refine gz4 ?_;refine uCo (fun h13=> ?_) fun h14=> ?_
 refine gz4 ?_;refine uRp ?_
 (refine congrArg _ (zy (e:=7) ?_ hg ?_ ?_)
  omega
  unfold zb2
  (try generalize ((x.Players++[x.Captain]).all zb6)=N at*)
  exact uT
  first|decide|assumption)
 refine gz8 ?_;refine ⟨k+1,?_,?_,⟨rfl,trivial⟩,uK,Ac _⟩
 refine ⟨by omega,?_⟩
 rw [hg,zaV (by unfold zb2;(try generalize ((x.Players++[x.Captain]).all zb6)=N at*);(try clear hdx hg);(try simp only [Af]);focus first|(simp_all;done)|((repeat' split)<;>focus first|rfl|(exfalso;omega)|(simp_all;done)|(exfalso;rcases ‹_\/_› with q|q<;>simp_all;done)|(exfalso;simp_all;omega)))]
 dsimp only;omega
 have hnk:l.length<=k:=by omega
 obtain rfl:k=l.length:=by omega
 rw [zI (Ae _)] at hg;refine gz2 ?_;refine zw ?_;refine gz6 ?_;refine uRp ?_
 (refine congrArg _ (zbB ?_ hg)
  omega)
theorem zln [Tracks] {b:BookS} (hT:Tracks.on=false) (hb:BookC b):ConP prog 21 [zbk b] (.int .i64 (zdl b)):=by
 refine uOb func21 ntmps21 ?_;refine gz7 ?_;refine dq (z8 (h':=zfi b.League) (zaS zaN rfl rfl (An rfl)) rfl) ?_;refine dq (uCl ca47 rfl (zkh (g:=b.League) hT hb.bb.lea hb.gw hb.tr)) ?_;refine gz6 ?_;refine uCo (fun h1=> ?_) fun h2=> ?_
 refine gz5 ?_;refine uRp ?_;unfold zdl
 (rw [if_pos (by assumption)])
 refine gz2 ?_;refine uDr mixed ?_;refine gz2 ?_;refine uB 2 rfl (uCl ca49 rfl (zkT (l:=b.Moves) hb.bb.mv hb.mb)) ?_;refine gz2 ?_;refine uB 5 rfl (uCl ca50 rfl (zkQ (l:=b.Plays) hb.bb.pl hb.pg)) ?_;refine gz2 ?_;refine uB 8 rfl (uCl ca51 rfl (zkP (m:=b.Mends) hb.bb.me hb.mg)) ?_;refine gz5 ?_;refine uB 14 rfl (uCl ca52 rfl (zkk (L:=b.League.Players) (l:=b.Health) hb.bb.lea.pl hb.bb.he hb.hw)) ?_;refine gz1 ?_;refine uB 16 rfl (z8 (h':=zfi b.League) (zaS zaN rfl rfl (An rfl)) rfl) ?_;refine gz2 ?_;refine uB 19 rfl (uCl ca53 rfl (zjR (g:=b.League) (l:=b.Choices) hb.bb.lea hb.bb.ch hb.bb.cp hb.cs)) ?_;refine uB 20 rfl (za (hs:=[_,_,_,_,_]) zeh zgA rfl rfl (by decide) (by decide) rfl) ?_;refine uB 21 rfl (uCl zyP rfl (zfJ (l:=[_,_,_,_,_]) (by simp))) ?_;refine gz3 ?_;refine uRp ?_;unfold zdl
 (rw [if_neg (fun q=>q h2)])
end
end Go.Proofs.YtbmggbfabohegaaGreatDoor
namespace Go.HL
section
section
variable {κ:Type}
end
end
section

end
section
def zCa (x:LineS):Prop:=Sh x.Player/\∀s∈x.Stats,Sh s.Name
abbrev LnV:=LineS×Value
structure LG where
 u:Value
 out:List LnV
 a:Nat
def zxm (p:LnV):Prop:=zCa p.1/\p.1.Stats.length<=3
structure LGok (n m:Nat) (q:LG):Prop where
 len:q.out.length<=n
 all: ∀p∈q.out,zxm p
 a:q.a<=m
theorem LGok.mono {n n' m m':Nat} {q:LG} (h:LGok n m q) (hn:n<=n') (hm:m<=m'):LGok n' m' q:=⟨Au h.len hn,h.all,Au h.a hm⟩
theorem LGok.same {n m m':Nat} {u:Value} {out:List LnV} {a1 a2:Nat} (h:LGok n m ⟨u,out,a1⟩) (ha:a2<=m'):LGok (n+1) m' ⟨u,out,a2⟩:=⟨Nat.le_succ_of_le h.len,h.all,ha⟩
theorem LGok.add {n m m':Nat} {u u':Value} {out:List LnV} {a1 a2:Nat} {p:LnV} (h:LGok n m ⟨u,out,a1⟩) (hp:zxm p) (ha:a2<=m'):LGok (n+1) m' ⟨u',out++[p],a2⟩:=
 ⟨by have:=h.len;simp only [Aw,Ai,AD] at*;omega,fun y hy=>by
  rcases List.mem_append.1 hy with hy|hy
  exact h.all y hy;rw [List.mem_singleton.1 hy];exact hp,ha⟩
end
section
/-! sums-/
def zqW (p:Str) (c:List (Of2×Int)) (s:StatS):List (Of2×Int):=zz (p,s.Name) ((alk (p,s.Name) c).getD 0+s.Count) c
def zAW (p:Str) (c:List (Of2×Int)) (l:List StatS):List (Of2×Int):=l.foldl (zqW p) c
theorem LnOk.le {q:LnS} {n m:Nat} (h:LnOk q n) (hn:n<=m):LnOk q m:=
 ⟨h.c,h.S,h.k,Au h.cl hn,Au h.Sl hn,fun e he=>by have:=h.bd e he;omega⟩
theorem LnOk.addC {q:LnS} {n:Nat} (h:LnOk q n) (p:Str) {s:StatS} (hb: -100000<=s.Count/\s.Count<=100000):LnOk ⟨q.S,zqW p q.c s⟩ (n+1):=by
 have hv:=h.val (p,s.Name);refine ⟨h.c.put,h.S,h.k,Au (zlm _ _ _) (by have:=h.cl;omega),by have:=h.Sl;dsimp only;omega,fun e he=> ?_⟩
 rcases zcV he with rfl|he
 dsimp only;omega
 have:=h.bd e he;omega
theorem LnOk.row (p:Str): ∀(l:List StatS) {q:LnS} {n:Nat},LnOk q n->(∀s∈l,-100000<=s.Count/\s.Count<=100000)->LnOk ⟨q.S,zAW p q.c l⟩ (n+l.length)
 |[],q,n,h,_=>h
 |s::r,q,n,h,hb=>by
   have h1:=LnOk.row p r (h.addC p (hb s Aj)) fun y hy=>hb y (Al _ hy)
   rw [Ai,show n+(r.length+1)=n+1+r.length by omega];exact h1
theorem zuc {κ α:Type} [DecidableEq κ]: ∀{S D:List (κ×α)},ANodup (D++S)->zrz D S=D++S
 |[],D,_=>by simp [zrz]
 |p::r,D,h=>by
   have hn:alk p.1 D=none:=by
    rw [zei];intro hm;unfold ANodup at h;rw [Ay] at h;exact (List.nodup_append.1 h).2.2 _ hm _ Aj rfl
   have e:zz p.1 p.2 D=D++[p]:=zjL hn
   show zrz (zz p.1 p.2 D) r=_
   rw [e,zuc (by simpa using h)]
   simp
end
section
def stP (l:List StatS):List (Str×Int):=l.foldl (fun c s=>zz s.Name s.Count c) []
theorem zvV (l:List StatS):stP l=zrz [] (stA l):=by
 unfold stP zrz stA;rw [List.foldl_map]
theorem zyy (l:List StatS):ANodup (stP l):=by rw [zvV];exact zqD ANodup.nil
theorem zCS {l:List StatS} (h:(l.map (·.Name)).Nodup):stP l=stA l:=by
 rw [zvV,zuc (by simpa using zsw h)];rfl
def ztg (l:List StatS) (s:Str) (n:Int):List StatS:=zqY (zz s n (stP l))
theorem zyJ {κ:Type} [DecidableEq κ] {c:List (κ×Int)} (hn:ANodup c) (k:κ):(alk k (c.filter fun e=>e.2 !=0)).getD 0=(alk k c).getD 0:=by
 have hn2:ANodup (c.filter fun e=>e.2 !=0):=by
  unfold ANodup at*;exact hn.sublist (List.filter_sublist.map _)
 cases hq:alk k (c.filter fun e=>e.2 !=0) with
 |some v=>
   have h1:=(List.mem_filter.1 (zbN hq)).1;rw [(zd3 hn).1 h1]
 |none=>
   cases hr:alk k c with
   |none=>rfl
   |some v=>
     by_cases hv:v=0
     rw [hv];rfl;have h1:(k,v)∈c.filter fun e=>e.2 !=0:=List.mem_filter.2 ⟨zbN hr,by simpa using hv⟩
     rw [(zd3 hn2).1 h1] at hq
     cases hq
theorem zrH {c:List (Str×Int)} (hn:ANodup c):StOk (zrG c) where
 nd:=by
  unfold zrG;rw [AY];unfold ANodup at hn;exact hn.sublist (List.filter_sublist.map _)
 nz x hx:=by
  unfold zrG at hx;obtain ⟨e,he,rfl⟩:=List.mem_map.1 hx;have:=(List.mem_filter.1 he).2
  simpa using this
theorem zyA {c:List (Str×Int)} (hn:ANodup c):StOk (zqY c):=(zrH hn).sort
theorem zw9 {c:List (Str×Int)} (hn:ANodup c) (s:Str):sv (zqY c) s=(alk s c).getD 0:=by
 have h1:sv (zqY c) s=sv (zrG c) s:=zB6 (zrH hn).nd (zbq zbb _) s;have h2:stA (zrG c)=c.filter fun e=>e.2 !=0:=by
  unfold stA zrG;rw [AY];exact List.map_id _
 rw [h1];unfold sv;rw [h2];exact zyJ hn s
theorem zyz {l:List StatS} (h:(l.map (·.Name)).Nodup) (hw:l.Pairwise fun a b=> ¬zbb b a<0):zal zbb l=l:=
 (zfC zdc (fun _ _ hx hy e=>zvD h hx hy (zbn.1 e)) (Ac _) hw).symm
theorem zuX {l:List StatS} (h:(l.map (·.Name)).Nodup):zal zbb (zal zbb l)=zal zbb l:=by
 have h1:=zfZ zdc (l:=l) (fun _ _=>trivial);refine zyz (((zbq zbb l).map _).nodup_iff.2 h) (h1.imp fun {a b} hab=> ?_)
 have:=zdc.flip a b trivial trivial;have:=zdc.flip b a trivial trivial
 omega
structure RfSt (l:List StatS):Prop where
 ok:StOk l
 so:zal zbb l=l
theorem RfSt.nil:RfSt []:=⟨StOk.nil,rfl⟩
theorem RfSt.put {l:List StatS} (h:RfSt l) (s:Str) (n:Int):RfSt (ztg l s n)/\∀t,sv (ztg l s n) t=if t=s then n else sv l t:=by
 have hn:ANodup (zz s n (stP l)):=(zyy l).put;refine ⟨⟨zyA hn,zuX (zrH hn).nd⟩,fun t=> ?_⟩
 unfold ztg;rw [zw9 hn,zdB,zCS h.ok.nd]
 by_cases e:t=s
 rw [if_pos e,if_pos e];rfl;rw [if_neg e,if_neg e];rfl
structure RfOk (G:GrS):Prop where
 nd:ANodup G
 st: ∀q∈G,RfSt q.2
theorem RfOk.get {G:GrS} (h:RfOk G) (p:Plc):RfSt ((alk p G).getD []):=by
 cases hq:alk p G with
 |none=>exact RfSt.nil
 |some l=>exact h.st _ (zbN hq)
theorem zFy {G:GrS} (h:RfOk G):GSOk G:=⟨h.nd,fun q hq=>(h.st q hq).ok⟩
theorem RfOk.put {G:GrS} (h:RfOk G) (p:Plc) (s:Str) (n:Int):RfOk (zz p (ztg ((alk p G).getD []) s n) G):=
 ⟨h.nd.put,fun q hq=>by
  rcases zcV hq with rfl|hq
  exact ((h.get p).put s n).1;exact h.st q hq⟩
end
section
theorem zrO {κ α:Type} [DecidableEq κ] (s:κ) (v v':α): ∀G:List (κ×α),zz s v' (zz s v G)=zz s v' G
 |[]=>by simp [zz]
 |p::r=>by
   have ih:=zrO s v v' r
   by_cases h:s=p.1
   simp [zz,h]
   simp [zz,h,ih]
theorem zrP {κ α:Type} [DecidableEq κ] {s:κ} {v:α}: ∀{G:List (κ×α)},alk s G=some v->zz s v G=G
 |[],h=>by simp [alk] at h
 |p::r,h=>by
   by_cases e:s=p.1
   simp only [alk,if_pos e] at h;have:=Av h;subst this;unfold zz;rw [if_pos e,e];simp only [alk,if_neg e] at h;have ih:=zrP h;simp only [zz,if_neg e,ih]
def rowI (L:List (Str×Int)) (l:List StatS):List (Str×Int):=l.foldl (fun L s=>zz s.Name ((alk s.Name L).getD 0+s.Count) L) L
theorem GrOk.row {S:List Str} {p:Str} {b:Nat}: ∀(l:List StatS) {c:List (Of2×Int)} {G:GrM Str} {L:List (Str×Int)},GrOk S c G->alk p G=some (b,L)->GrOk S (zAW p c l) (zz p (b,rowI L l) G)
 |[],c,G,L,h,hq=>by
   show GrOk S c (zz p (b,L) G)
   rw [zrP hq];exact h
 |s::r,c,G,L,h,hq=>by
   have hL:=h.get hq;have h1:=h.put hq s.Name ((alk s.Name L).getD 0+s.Count);have e:zz (p,s.Name) ((alk s.Name L).getD 0+s.Count) c=zqW p c s:=by unfold zqW;rw [hL,zr4]
   rw [e] at h1;have h2:=GrOk.row r h1 (L:=zz s.Name ((alk s.Name L).getD 0+s.Count) L) (by rw [zdB,if_pos rfl]);rw [zrO] at h2;exact h2
end
section
structure DisOk (q:DisS) (n:Nat):Prop where
 c:ANodup q.c
 S:q.S.Nodup
 k: ∀s∈q.S,s.length<=40
 cl:q.c.length<=n
 Sl:q.S.length<=n
 bd: ∀e∈q.c,-(100000*(n:Int))<=e.2/\e.2<=100000*(n:Int)
theorem DisOk.val {q:DisS} {n:Nat} (h:DisOk q n) (s:Str×Of2): -(100000*(n:Int))<=(alk s q.c).getD 0/\(alk s q.c).getD 0<=100000*(n:Int):=by
 cases hq:alk s q.c with
 |none=>simp;omega
 |some v=>exact h.bd _ (zbN hq)
theorem DisOk.sput {q:DisS} {n:Nat} (h:DisOk q n) {p:Play} (hp:playFault p=0):DisOk ⟨zb8 p.Source q.S,q.c⟩ (n+1):=by
 refine ⟨h.c,zjv h.S,fun s hs=> ?_,by have:=h.cl;dsimp only;omega,Au (zvQ _ _) (by have:=h.Sl;omega),fun e he=>by have:=h.bd e he;omega⟩
 rcases zj9.1 hs with rfl|hs
 exact zvw (zeJ hp).1;exact h.k s hs
theorem DisOk.put {q:DisS} {n:Nat} (h:DisOk q n) {p:Play} (hp:playFault p=0):DisOk ⟨zb8 p.Source q.S,zCh q p⟩ (n+1):=by
 have hs:=h.sput hp;obtain ⟨_,_,_,_,_,hb,_⟩:=zeJ hp;have hv:=h.val (ztR p);refine ⟨h.c.put,hs.S,hs.k,Au (zlm _ _ _) (by have:=h.cl;omega),hs.Sl,fun e he=> ?_⟩
 rcases zcV he with rfl|he
 dsimp only;omega
 have:=h.bd e he;omega
end
section

end
section
theorem zq3 (x:Of2): ∀(A:List Of2) (p:Option Of2),ze7 p (A++[x])=ze7 p A++if (A.getLast?.or p)=some x then [] else [x]
 |[],p=>by
   by_cases h:p=some x<;>simp [ze7,h]
 |y::A,p=>by
   have ih:=zq3 x A (some y);have e:((y::A).getLast?.or p)=(A.getLast?.or (some y)):=by
    cases A with
    |nil=>simp
    |cons z A=>simp [List.getLast?_cons_cons,List.getLast?_cons]
   simp only [AX,ze7];rw [e,ih]
   split<;>simp
theorem zxl {l:List Of2} {k:Nat} {x y:Of2} (hx:l[k]? =some x) (hy:l[k-1]? =some y) (h0:0<k):ze7 none (l.take (k+1))=ze7 none (l.take k)++if x=y then [] else [x]:=by
 have hk:=zo hx;rw [z6 hx,zq3];have e:((l.take k).getLast?.or none)=some y:=by
  rw [List.getLast?_eq_getElem?,Ax,Cb (by omega),AE (by omega),hy];rfl
 rw [e]
 by_cases h:x=y
 rw [if_pos h,if_pos (by rw [h])];rw [if_neg h,if_neg (by simpa using fun q:y=x=>h q.symm)]
structure CmpO (l:List Of2) (j:Nat) (D:List Of2):Prop where
 len:D.length=l.length
 lo:D.take (ze7 none (l.take j)).length=ze7 none (l.take j)
 lt:(ze7 none (l.take j)).length<j
 hi: ∀i,j<=i+1->D[i]? =l[i]?
theorem CmpO.same {l D:List Of2} {j:Nat} (h:CmpO l j D) {x y:Of2} (hx:l[j]? =some x) (hy:l[j-1]? =some y) (e:x=y):CmpO l (j+1) D/\(ze7 none (l.take (j+1))).length=(ze7 none (l.take j)).length:=by
 have h0:=h.lt;have h1:ze7 none (l.take (j+1))=ze7 none (l.take j):=by rw [zxl hx hy (by omega),if_pos e];simp
 exact ⟨⟨h.len,by rw [h1];exact h.lo,by rw [h1];omega,fun i hi=>h.hi i (by omega)⟩,by rw [h1]⟩
end
section
theorem zy7 {l:List Str} {i:Nat} (h:i<l.length):l.getD i []∈l:=by
 rw [Af,Aa h];exact BH h
end
section

end
section
open Op
end
end Go.HL
section
namespace Go.HL
section
variable {P:Program} {e:Env} {dst:Option Tmp} {ty:TypeId} {pos:String} {af:Array Edge} {g:Option (Nat×Bool)}
theorem ze4 {t el:TypeId} (hu:P.underlying t=some (.pointer el)) (a:Option Addr) (w:World):(Op.equal t (.pointer a) (.pointer none)).run P w= .ok a.isNone w:=by
 have h: ∀d,(Op.equalIn (d+1) t (.pointer a) (.pointer none)).run P w= .ok a.isNone w:=fun d=>by
  cases a<;>simp only [Op.equalIn,Sem.run_bind,run_underlying hu,Result.andThen_ok,Sem.run_pure,Option.isNone]
 exact h 9999
def zom:Option (List HVal)->HVal
 |none=> .raw (.pointer none)
 |some cs=> .vptr cs 0
theorem zw1 [Tracks] {x y:Operand} {t t' el:TypeId} {size bytes:Nat} {zero:Value} {o:Option (List HVal)} (hf:Fits P t (.ptr el) size bytes zero) (hx:zh e x=some (zom o)) (hy:zh e y=some (.raw (.pointer none))):
 POp P e ⟨dst,.binOp .eql t x y t',ty,pos,af,g⟩ (.bool o.isNone):=
 zF fun I a w ho=>by
  have hv:=ho.one (x:=x) (by simp [Op.operands]) hx;have h2:=(ho.one (x:=y) (by simp [Op.operands]) hy).raw_inv
  cases o with
  |none=>
    have h1:=hv.raw_inv;refine ⟨_,?_,.bool _⟩
    simp [execOp,h1,h2,eqGuard,binOp,ze4 hf.ptrD]
  |some cs=>
    obtain ⟨b,base,rc,el',fr,h1,h3,h4,h5⟩:=hv.vptr_inv;refine ⟨_,?_,.bool _⟩
    simp [execOp,h1,h2,eqGuard,binOp,ze4 hf.ptrD]
end
end Go.HL
namespace Go.HL
theorem zeU [Tracks] {a b c d a' b' c' d':HVal} (h1:Weak a a') (h2:Weak b b') (h3:Weak c c') (h4:Weak d d'):Weak (.tup [a,b,c,d]) (.tup [a',b',c',d']):=
 zpV rfl fun j h h' x y=>by
  match j,x,y with
  |0,x,y=>simp at x y;subst x y;exact h1
  |1,x,y=>simp at x y;subst x y;exact h2
  |2,x,y=>simp at x y;subst x y;exact h3
  |3,x,y=>simp at x y;subst x y;exact h4
end Go.HL
end
namespace Go.HL
section
open Op
end
section
open Op
end
section
open Op
end
section
open Op
def sp4:List Str:=[[100,102],[102,119],[103,107],[109,102]]
def nm5:List Str:=[[97,110,110],[98,101,97],[99,105,100],[100,97,110],[101,118,101]]
def sl4:List Str:=[[115,98],[115,97],[115,99],[115,100]]
def ru5:List Str:=[[114,97],[114,98],[114,99],[114,100],[114,101]]
structure GoodPy (p:PlayerS):Prop where
 name:p.Name∈zc4
 pos:p.Positions.length<=4
structure GoodPys (l:List PlayerS):Prop where
 len:l.length<=5
 all: ∀p∈l,GoodPy p
def zoC (x:SlotS):Prop:=x.Positions.length<=10
structure GoodSlos (l:List SlotS):Prop where
 len:l.length<=4
 all: ∀x∈l,zoC x
def zll (x:SlotS):Prop:=x.Positions.length<=4
structure GoodS4s (l:List SlotS):Prop where
 len:l.length<=4
 all: ∀x∈l,zll x
theorem GoodS4s.up {l:List SlotS} (h:GoodS4s l):GoodSlos l:=⟨h.len,fun x hx=>by have:=h.all x hx;dsimp only [zll] at this;show x.Positions.length<=10;omega⟩
def ztp (x:HealthS):Prop:= -1000000000000000<=x.To/\x.To<=1000000000000000
structure GoodHes (l:List HealthS):Prop where
 len:l.length<=10
 all: ∀x∈l,ztp x
def ofB (L:List PlayerS) (s:Str):Bool:=decide (zT (fun x:PlayerS=>x.Key==s) L 0<0)&&(s !=[122,101,100])
theorem GoodHes.filter {l:List HealthS} {p:HealthS->Bool} (h1:l.length<=10) (h2: ∀x∈l,ztp x):GoodHes (l.filter p):=
 ⟨Au (AZ _ _) h1,fun x hx=>h2 x (List.mem_filter.1 hx).1⟩
def zyH (x:RuleS):Prop:=(-1000000000<=x.Num/\x.Num<=1000000000)/\ -1000000000<=x.Den/\x.Den<=1000000000
structure GoodRus (l:List RuleS):Prop where
 len:l.length<=5
 all: ∀x∈l,zyH x
theorem zvl {n g:Int} (h: -1000<=n/\n<=1000): -1000000000<=n.tdiv g/\n.tdiv g<=1000000000:=by
 have h1:(n.tdiv g).natAbs<=n.natAbs:=by
  rw [Int.natAbs_tdiv];exact Nat.div_le_self _ _
 omega
def zhP (n d:Int):Int:=((Nat.gcd n.natAbs d.natAbs:Nat):Int)
theorem zBz {n d:Int} (h:1<=d):1<=zhP n d:=by
 unfold zhP;have:=Nat.gcd_pos_of_pos_right n.natAbs (show 0<d.natAbs by omega)
 omega
end
section
open Op
def onI (W p n:Int):Int:=if 0<p then 1+((p-1-(W-1)).tmod (n-1)+(n-1)).tmod (n-1) else p
def onS (T:List Str) (W p n:Int):Str:=if T.length<=onI W p n then [] else T.getD (onI W p n).toNat []
theorem zFb {W p n:Int} (hp:0<=p/\p<=10) (hn:2<=n/\n<=10):(-10<=(p-1-(W-1)).tmod (n-1)/\(p-1-(W-1)).tmod (n-1)<=10)/\(0<=((p-1-(W-1)).tmod (n-1)+(n-1)).tmod (n-1)/\((p-1-(W-1)).tmod (n-1)+(n-1)).tmod (n-1)<=10)/\0<=onI W p n:=by
 obtain ⟨m1,m2,_⟩:=zuD (a:=p-1-(W-1)) (b:=n-1) (by omega);have h0:0<=(p-1-(W-1)).tmod (n-1)+(n-1):=by omega
 have h1:=Co (n-1) h0;have h2:=BP ((p-1-(W-1)).tmod (n-1)+(n-1)) (show 0<n-1 by omega);refine ⟨⟨by omega,by omega⟩,⟨h1,by omega⟩,?_⟩
 unfold onI
 split<;>omega
def zg6:List Str->List Str->Int
 |[],[]=>0
 |[],_::_=> -1
 |_::_,[]=>1
 |a::l,b::m=>if zV a b≠0 then zV a b else zg6 l m
theorem zyV {l m:List Str} (h:m.length<=0\/m=[]) (hl:l≠[]):zg6 l m=1:=by
 have hm:m=[]:=by
  rcases h with h|h
  cases m with
  |nil=>rfl
  |cons _ _=>simp at h
  exact h
 subst hm
 cases l with
 |nil=>exact absurd rfl hl
 |cons _ _=>rfl
theorem zxA {a b:Str} {l m:List Str} (h:zV a b=0):zg6 (a::l) (b::m)=zg6 l m:=by rw [zg6,if_neg (by simp [h])]
theorem zxB {a b:Str} {l m:List Str} (h:zV a b≠0):zg6 (a::l) (b::m)=zV a b:=by rw [zg6,if_pos h]
theorem zmg {m:List Str} {k:Nat} (h:k<m.length):m.drop k=m.getD k []::m.drop (k+1):=by
 rw [BE h,Af,Aa h];rfl
theorem ztK {m:List Str} (k:Nat):zg6 [] (m.drop k)=if k<m.length then-1 else 0:=by
 split
 rename_i h;rw [zmg h];rfl
 rename_i h;rw [Bj (by omega)];rfl
def zps (x y:FixS):Int:=if zfr [x.Week,x.At] [y.Week,y.At]≠0 then zfr [x.Week,x.At] [y.Week,y.At] else zg6 [x.Home] [y.Home]
theorem zyM:Cmp zps fun _=>True:=by
 have h:=zdA (zfh FixS.Week) (zdA (zfh FixS.At) (zgf FixS.Home));have e:zps=fun a b=>if zae a.Week b.Week≠0 then zae a.Week b.Week else if zae a.At b.At≠0 then zae a.At b.At else zV a.Home b.Home:=by
  funext a b
  unfold zps;have e1:zfr [a.Week,a.At] [b.Week,b.At]=if zae a.Week b.Week≠0 then zae a.Week b.Week else zae a.At b.At:=by
   rw [zfr,zfr,zfr]
   by_cases h2:zae a.At b.At≠0
   rw [if_pos h2];rw [if_neg h2];simp at h2;rw [h2]
  have e2:zg6 [a.Home] [b.Home]=zV a.Home b.Home:=by
   rw [zg6,zg6]
   by_cases h2:zV a.Home b.Home≠0
   rw [if_pos h2];rw [if_neg h2];simp at h2;rw [h2]
  rw [e1,e2]
  by_cases h1:zae a.Week b.Week≠0
  rw [if_pos h1,if_pos h1,if_pos h1];rw [if_neg h1,if_neg h1]
 rw [e];exact h
def nOf (T:List Str):Int:=(T.length:Int)+(T.length:Int).tmod 2
def mOf (T:List Str):Int:=(nOf T).tdiv 2
theorem zCE {T:List Str} (h:2<=T.length/\T.length<=4):(0<=(T.length:Int).tmod 2/\(T.length:Int).tmod 2<=1)/\(2<=nOf T/\nOf T<=4)/\(1<=mOf T/\mOf T<=2)/\2*mOf T=nOf T:=by
 have h3:T.length=2\/T.length=3\/T.length=4:=by omega
 unfold mOf nOf
 rcases h3 with e|e|e<;>(rw [e];decide)
theorem zvp {w:Nat} {x y:Str} (h:w<=10):GamB ⟨(w:Int)+1,x,y,false,0,0,0,0⟩:=⟨by dsimp only;omega,by dsimp only;omega,by dsimp only;omega⟩
structure GoodGas (l:List GameS):Prop where
 len:l.length<=6
 all: ∀x∈l,GamB x
def tm4:List Str:=[[116,97],[116,98],[116,99],[116,100]]
theorem zfe {y:Int} (h:2<=y):HasAB (tm4.take y.toNat):=by
 obtain ⟨n,hn⟩: ∃n,y.toNat=n+2:=⟨y.toNat-2,by omega⟩
 rw [hn];unfold HasAB tm4
 constructor<;>simp
structure LeaC (g:LeagueS):Prop where
 lea:LeaB g
 gw: ∀x∈g.Games,GamB x
 tr: ∀s∈g.Trust,Sh s
 sl:g.Slots.length<=4
 tm:g.Teams.length<=5
 pl:g.Players.length<=5
 tt:HasAB g.Teams
theorem zjF {g:LeagueS} (h1:GoodPys g.Players) (h2:g.Stints.length<=10) (h3:g.Fixtures.length<=12) (h4:GoodRus g.Rules) (h5:GoodSlos g.Slots) (h6:g.Teams.length<=5) (h7:g.Games.length<=6/\∀x∈g.Games,GamB x)
 (h8:g.Breaks.length<=6) (h9:g.Trust.length<=100/\∀s∈g.Trust,Sh s) (h10: -1<=g.Start/\g.Start<=1000000000000) (h11:HasAB g.Teams):LeaC g:=by
 have l1:=h1.len;have l4:=h4.len;have l5:=h5.len;refine ⟨⟨by omega,fun p hp=>(h1.all p hp).name,fun p hp=>by have:=(h1.all p hp).pos;omega,by omega,by omega,by omega,fun x hx=>h4.all x hx,by omega,fun x hx=>by have:=h5.all x hx;dsimp only [zoC] at this;omega,by omega,by omega,
  fun x hx=>⟨(h7.2 x hx).fr,(h7.2 x hx).ot⟩,by omega,by omega,by omega⟩,h7.2,h9.2,l5,h6,l1,h11⟩
structure LeaD (g:LeagueS):Prop where
 pl:GoodPys g.Players
 fx:g.Fixtures.length<=12
 ru:GoodRus g.Rules
 sl:GoodS4s g.Slots
 tm:2<=g.Teams.length/\g.Teams.length<=4
 br:g.Breaks.length<=6
 tr:GoodTr g.Trust
 sta: -1<=g.Start/\g.Start<=1000000000000
 tt:HasAB g.Teams
end
section
open Op
structure HalfG {α:Type} (a b l:List α):Prop where
 sa:List.Sublist a l
 sb:List.Sublist b l
theorem HalfG.nil {α:Type}:HalfG ([]:List α) [] []:=⟨Bh _,Bh _⟩
theorem HalfG.left {α:Type} {a b l:List α} (h:HalfG a b l) (x:α):HalfG (a++[x]) b (l++[x]):=
 ⟨h.sa.append (Bh _),h.sb.trans (BI _ _)⟩
theorem HalfG.right {α:Type} {a b l:List α} (h:HalfG a b l) (x:α):HalfG a (b++[x]) (l++[x]):=
 ⟨h.sa.trans (BI _ _),h.sb.append (Bh _)⟩
abbrev MvS:={m:MoveS//MovB m}
abbrev zde (x:MvS):HVal:=zdb x.1
def zz3 (x y:MvS):Int:=zgM x.1 y.1
theorem zxx:Cmp zz3 fun _=>True:=zv6
end
section
theorem ztF: ∀a b:Str,Op.bytesLess a b=decide (a<b)
 |[],[]=>by simp [Op.bytesLess]
 |_::_,[]=>by simp [Op.bytesLess]
 |[],_::_=>by simp [Op.bytesLess]
 |a::x,b::y=>by
   have ih:=ztF x y;rw [AF,decide_eq_true_iff,List.cons_lt_cons_iff];unfold Op.bytesLess;rw [ih]
   simp
theorem zB3 {a b:Str} (h:SLt a b):zV a b<0:=by
 have h1:zV a b<=0:=by
  rw [zjB,ztF,decide_eq_false_iff_not];exact List.not_lt.2 h.1
 have h2:zV a b≠0:=fun e=>h.2 (zbn.1 e)
 omega
/-! the lines of right plays are right-/
structure LnKey (q:LnS):Prop where
 S: ∀s∈q.S,key s=true
 c: ∀e∈q.c,key e.1.2=true
theorem zt6 {l:List Play} {t:List Str} {week n:Int}: ∀(m:List Play) (q:LnS),LnKey q->(∀x∈m,playFault x=0)->LnKey (m.foldl (zhO l t week n) q)
 |[],_,h,_=>h
 |x::m,q,h,hm=>by
   rw [Bs];refine zt6 m _ ?_ fun y hy=>hm y (Al _ hy)
   obtain ⟨_,_,_,_,⟨_,k2,k3⟩,_,_⟩:=zeJ (hm x Aj);unfold zhO
   split
   refine ⟨fun s hs=> ?_,fun e he=> ?_⟩
   rcases zj9.1 hs with rfl|hs
   exact k2;exact h.S s hs
   rcases zcV he with rfl|he
   exact k3;exact h.c e he;exact h
theorem zlc {l:List Play} {t:List Str} {week n:Int} (hok: ∀x∈l,playFault x=0) (hl:l.length<=15) (hw:za1 week=true) (h0:zhN l t week n=0):zaA (zdO l t week n)=0:=by
 have h:=ztc (l:=l) (m:=l) (trust:=t) (week:=week) (n:=n) hok;have hk:LnKey (zcD l t week n l):=zt6 (l:=l) (t:=t) (week:=week) (n:=n) l ⟨[],[]⟩ ⟨(fun s h=>by cases h),(fun e h=>by cases h)⟩ hok;obtain ⟨hsl,hsn⟩:=zj8 (t:=t) (week:=week) (n:=n) hok hl;have hf:zgR (zcD l t week n l).c (zcD l t week n l).S=false:=by
  unfold zhN zid at h0
  cases hq:zgR (zcD l t week n l).c (zcD l t week n l).S with
  |false=>rfl
  |true=>rw [hq] at h0;simp at h0
 have e:zdO l t week n=(zbg (zcD l t week n l).S).map fun s=>⟨s,week,zdD (zcD l t week n l).c s⟩:=by
  unfold zdO zho;rw [hf];rfl
 unfold zgR at hf;rw [A5] at hf;obtain ⟨f1,f2⟩:=hf;refine zqz (by omega) (fun y hy=> ?_) ?_;obtain ⟨y1,y2,y3⟩:=hsn y hy;rw [e] at hy;obtain ⟨s,hs,rfl⟩:=List.mem_map.1 hy;have hsS:s∈(zcD l t week n l).S:=(zhX _).mem_iff.1 hs;have hnm:((zbi (zcD l t week n l).c s).map (·.Name)).Nodup:=by
  have:=zmZ h.c s;unfold zdD at this;exact ((zbq zbb _).map _).nodup_iff.1 this
 refine zeI.2 ⟨hk.S s hsS,hw,zsx (Au y1 (by decide)) (fun z hz=> ?_) (zpn hnm)⟩
 have hz':z∈zbi (zcD l t week n l).c s:=(zec _).1 hz;obtain ⟨p,hp,rfl⟩:=List.mem_map.1 hz';obtain ⟨p1,p2⟩:=List.mem_filter.1 hp;have p3:p.2≠0:=by
  simp only [Bd,bne_iff_ne,ne_eq] at p2;exact p2.2
 have p4:out p.2 (-100000) 100000=false:=by
  have:=List.any_eq_false.1 f1 p p1
  simpa using this
 refine zeL.2 ⟨hk.c p p1,?_,p3⟩
 unfold out at p4;simp only [A5,decide_eq_false_iff_not] at p4
 dsimp only
 omega
 rw [e];refine List.pairwise_map.2 ((zuy h.S).imp fun {a b} hab=> ?_)
 have h1:=zB3 hab
 show orI [zV a b,zae week week]<0
 rw [zdZ,if_pos (by omega)];exact h1
/-! parts that make the whole-/
structure Half (a b l:List Play):Prop where
 sa:a.Sublist l
 sb:b.Sublist l
 all: ∀x∈l,x∈a\/x∈b
theorem Half.nil:Half [] [] []:=⟨Bh _,Bh _,fun x h=>by cases h⟩
theorem Half.left {a b l:List Play} (h:Half a b l) (x:Play):Half (a++[x]) b (l++[x]):=
 ⟨h.sa.append (Bh _),h.sb.trans (BI _ _),fun y hy=>by
  rcases List.mem_append.1 hy with hy|hy
  rcases h.all y hy with q|q
  exact .inl (Ao _ q);exact .inr q;exact .inl (Bo _ hy)⟩
theorem Half.right {a b l:List Play} (h:Half a b l) (x:Play):Half a (b++[x]) (l++[x]):=
 ⟨h.sa.trans (BI _ _),h.sb.append (Bh _),fun y hy=>by
  rcases List.mem_append.1 hy with hy|hy
  rcases h.all y hy with q|q
  exact .inl q;exact .inr (Ao _ q);exact .inr (Bo _ hy)⟩
end
section

end
section
open Op
def zto (x:ChoiceS):Prop:=(∀s∈x.Players,Sh s)/\Sh x.Captain/\x.Players.length<=5
def GoodC4 (x:ChoiceS):Prop:=(∀s∈x.Players,Sh s)/\Sh x.Captain/\x.Players.length<=4
theorem GoodC4.up {x:ChoiceS} (h:GoodC4 x):zto x:=⟨h.1,h.2.1,Nat.le_succ_of_le h.2.2⟩
structure GoodChs (l:List ChoiceS):Prop where
 len:l.length<=20
 all: ∀x∈l,zto x
structure BookG (b:BookS):Prop where
 lea:LeaC b.League
 mv:b.Moves.length<=10
 mb: ∀x∈b.Moves,MovB x
 pl:GoodPl b.Plays
 me:GoodMds b.Mends
 he:GoodHes b.Health
 ch:GoodChs b.Choices
theorem BookG.c {b:BookS} (h:BookG b):BookC b:=by
 have a1:=h.mv;have a2:=h.pl.len;have a3:=h.me.len;have a4:=h.he.len;have a5:=h.ch.len;exact ⟨⟨h.lea.lea,by omega,by omega,by omega,by omega,by omega,fun x hx=>by have:=(h.ch.all x hx).2.2;omega⟩,h.lea.gw,h.mb,h.he.all,h.lea.tr,h.pl.all,h.me.all,fun x hx=>⟨(h.ch.all x hx).1,(h.ch.all x hx).2.1⟩,by omega,by omega,by omega,by omega,by omega,h.lea.tt⟩
def g0L:LeagueS:=⟨[],[],[],[],[⟨[115,97],[[103,107]]⟩],⟨3,0,5,0⟩,[[116,97],[116,98]],[],[],[],0⟩
theorem g0_b:LeaB g0L:=
 ⟨by decide,fun _ h=>(by cases h),fun _ h=>(by cases h),by decide,by decide,by decide,fun _ h=>(by cases h),by decide,fun x hx=>(by simp only [g0L,List.mem_singleton] at hx;subst hx;decide),by decide,by decide,fun _ h=>(by cases h),by decide,by decide,by decide⟩
theorem g0_E:zcA g0L=0:=by decide
end
section
open Go
theorem zgT: ∀{l:List Int},orI l=0->∀x∈l,x=0
 |[],_,x,h=>by cases h
 |y::r,h,x,hx=>by
   unfold orI at h
   by_cases e:y≠0
   rw [if_pos e] at h;exact absurd h e;rw [if_neg e] at h
   rcases List.mem_cons.1 hx with rfl|q
   exact Decidable.not_not.1 e;exact zgT h x q
theorem ztb {g:LeagueS} (h:zcA g=0):zhM g=0:=by
 unfold zcA at h
 by_cases e:zhM g≠0
 rw [if_pos e] at h;exact h;exact Decidable.not_not.1 e
theorem ztD {b:BookS} (h:zdl b=0):zcA b.League=0/\orI [zf1 b.Moves,zca b.Plays,zbE b.Mends,zru b.League.Players b.Health,zrp b.League.Teams b.League.Slots.length b.Choices]=0:=by
 unfold zdl at h
 by_cases e:zcA b.League≠0
 rw [if_pos e] at h;exact absurd h e;rw [if_neg e] at h;exact ⟨Decidable.not_not.1 e,h⟩
structure BookF (b:BookS):Prop where
 bo:zdG b.League.Bounds=0
 mo:zf1 b.Moves=0
 ps:b.League.Players.length<=500
 ky: ∀p∈b.League.Players,key p.Key=true
theorem zxu {b:BookS} (h:zdl b=0):BookF b:=by
 obtain ⟨h1,h2⟩:=ztD h;have h3:=zgT (ztb h1);have h4:zke b.League.Players b.League.Stints=0:=h3 _ (by simp);have h5:zcF b.League.Players=0:=by
  unfold zke at h4
  by_cases e:zcF b.League.Players≠0
  rw [if_pos e] at h4;exact h4;exact Decidable.not_not.1 e
 obtain ⟨h6,h7⟩:=zfm h5;refine ⟨h3 _ (by simp),zgT h2 _ (by simp),h6,fun p hp=> ?_⟩
 obtain ⟨i,hi,rfl⟩:=AS hp;have:=h7 i _ (Aa hi);unfold zcJ at this
 by_cases e:key b.League.Players[i].Key=false
 rw [if_pos e] at this;cases this
 simpa using e
abbrev zE8 (b:BookS):List Str:=b.League.Players.map (·.Key)
def mfE (b:BookS) (n:Int):Int:=if zdl b≠0 then zdl b else if zU n=false then 1 else 0
theorem BookF.fr {b:BookS} (h:BookF b) {n:Int} (hn:zU n=true):frE b.League.Bounds b.Moves (zE8 b) n=0:=by
 refine zBg (by simp [orI,h.bo,h.mo]) (by simp;exact h.ps) ?_ hn
 rw [BS]
 intro s hs
 obtain ⟨p,hp,rfl⟩:=List.mem_map.1 hs;rw [h.ky p hp];simp
def g0B:BookS:=⟨g0L,[],[],[],[],[]⟩
theorem zAK:BookC g0B:=
 ⟨⟨g0_b,by decide,by decide,by decide,by decide,by decide,fun _ h=>(by cases h)⟩,fun _ h=>(by cases h),fun _ h=>(by cases h),fun _ h=>(by cases h),fun _ h=>(by cases h),fun _ h=>(by cases h),fun _ h=>(by cases h),fun _ h=>(by cases h),by decide,by decide,by decide,by decide,by decide,⟨by decide,by decide⟩⟩
theorem zAJ:zdl g0B=0:=by
 unfold zdl;rw [show zcA g0B.League=0 from g0_E,if_neg (by decide)]
 decide
end
end Go.HL
namespace Go.Proofs.YtbmggbfabohegaaGreatDoor
set_option maxRecDepth 100000
set_option linter.unusedVariables false
set_option linter.unusedSimpArgs false
section
open Go.Proofs.Tryz
open Go.HL
theorem zhB [Tracks] {b:BookS} {n:Int} (hT:Tracks.on=false) (hb:BookC b):ConP prog 23 [.vptr (zb (zbk b)) 0,.int .i64 n] (.int .i64 (mfE b n)):=by
 refine uOb func23 ntmps23 ?_;refine gz5 ?_;refine dq ((by first|exact zu rfl|exact zk rfl)) ?_;refine dq (zai (h:=zbk b) zbj rfl rfl rfl rfl) ?_;refine dq (uCl ca55 rfl (znz (b:=b) hT hb.bb hb.hw)) ?_;refine gz8 ?_;refine uGr rfl (fun hc=>uCl zi4 rfl zbs) ?_;refine gz3 ?_;refine uCo (fun h1=> ?_) fun h2=> ?_
 refine gz9 ?_;refine uRp ?_;unfold mfE
 simp_all
 refine gz7 ?_;refine uRp ?_;unfold mfE
 simp_all
end
end Go.Proofs.YtbmggbfabohegaaGreatDoor
namespace Go.HL
section
open Go
def zlv (a b:List Str):Bool:=a.any fun s=>b.contains s
def zqv (team:Str) (w at' before:Int) (x:ChoiceS):Bool:=((x.Team==team&&x.Week==w)&&decide (x.At<=at'))&&decide (x.At<before)
def zoG (team:Str) (w at' before:Int) (o:Option ChoiceS):List ChoiceS->Option ChoiceS
 |[]=>o
 |x::r=>zoG team w at' before (if zqv team w at' before x=true then some x else o) r
def zws (l:List ChoiceS) (team:Str) (w at' before:Int):Option ChoiceS:=zoG team w at' before none l
theorem zwr {team:Str} {w at' before:Int} {o:Option ChoiceS} {l:List ChoiceS} {c:ChoiceS} (h:zoG team w at' before o l=some c):o=some c\/c∈l/\zqv team w at' before c=true:=by
 induction l generalizing o with
 |nil=>exact .inl h
 |cons y r ih=>
   rcases ih h with q|⟨q1,q2⟩
   by_cases e:zqv team w at' before y=true
   rw [if_pos e] at q;cases q;exact .inr ⟨Aj,e⟩;rw [if_neg e] at q;exact .inl q;exact .inr ⟨Al _ q1,q2⟩
end
section
open Go
theorem zFs {L:List PlayerS} {s:Str} (hs:SortedS (L.map (·.Key))) (h:(L.map (·.Key)).contains s=true):
 ∃p,L[zcd (L.map (·.Key)) s]? =some p/\p.Key=s/\L.find? (fun p=>p.Key==s)=some p:=by
 obtain ⟨h1,h2⟩:=zvK hs h;have hl:zcd (L.map (·.Key)) s<L.length:=by simpa using zo h1
 refine ⟨L[zcd (L.map (·.Key)) s],Aa hl,?_,?_⟩
 rw [Ah,Aa hl] at h1
 simpa using h1
 rw [List.find?_eq_some_iff_getElem];refine ⟨?_,_,hl,rfl,fun j hj=> ?_⟩
 rw [Ah,Aa hl] at h1
 simpa using h1
 have:=h2 j (L[j]'(by omega)).Key hj (by rw [Ah,Aa (by omega)];rfl)
 simpa using this
theorem zvG {L:List PlayerS} {s:Str} (h:(L.map (·.Key)).contains s=false):L.find? (fun p=>p.Key==s)=none:=by
 rw [List.find?_eq_none]
 intro p hp q
 have:(L.map (·.Key)).contains s=true:=by
  simp only [B0,decide_eq_true_eq];exact List.mem_map.2 ⟨p,hp,by simpa using q⟩
 rw [h] at this;cases this
abbrev plO (L:List PlayerS) (s:Str):Option PlayerS:=L.find? (fun p=>p.Key==s)
abbrev pPl (o:Option PlayerS):HVal:=zom (o.map fun p=>zb (zeD p))
abbrev pCh (o:Option ChoiceS):HVal:=zom (o.map fun c=>zb (zar c))
abbrev zwx (t:Str) (p h:List Str):HVal:= .agg [.str t,eSs p,eSs h]
abbrev zfA (b:BookS) (n:Int):HVal:= .agg [.vptr (zb (zbk b)) 0,.int .i64 n]
structure BookW (b:BookS):Prop where
 f:BookF b
 st:zke b.League.Players b.League.Stints=0
 fx:zi5 b.League.Fixtures=0
 he:zn8 b.League.Players b.Health=0
 py:zcF b.League.Players=0
 so:SortedS (b.League.Players.map (·.Key))
 ch: ∀c∈b.Choices,c.Players.length=b.League.Slots.length/\za1 c.Week=true/\zU c.At=true
 tm: ∀t,b.League.Teams.contains t=true->key t=true
 sl:b.League.Slots.length<=12
theorem zA8 {T:List Str} {n:Nat} {l:List ChoiceS} (h:zrp T n l=0) {c:ChoiceS} (hc:c∈l):c.Players.length=n/\za1 c.Week=true/\zU c.At=true:=by
 obtain ⟨_,h2⟩:=zfm h;obtain ⟨i,hi,rfl⟩:=AS hc;have:=h2 i _ (Aa hi);unfold zb2 at this
 split at this
 omega
 split at this
 omega
 split at this
 omega
 rename_i h3 h4
 rw [not_or] at h3;exact ⟨Decidable.not_not.1 h4,by simpa using h3.1,by simpa using h3.2⟩
theorem zCc {b:BookS} (h:zdl b=0):BookW b:=by
 obtain ⟨h1,h2⟩:=ztD h;have h3:=zgT (ztb h1);have h4:zke b.League.Players b.League.Stints=0:=h3 _ (by simp);have h5:zcF b.League.Players=0:=by
  unfold zke at h4
  by_cases e:zcF b.League.Players≠0
  rw [if_pos e] at h4;exact h4;exact Decidable.not_not.1 e
 have h6:zdX b.League.Teams b.League.Games=0:=h3 _ (by simp);have h7:zc9 b.League.Teams=0:=by
  unfold zdX at h6
  by_cases e:zc9 b.League.Teams≠0
  rw [if_pos e] at h6;exact h6;exact Decidable.not_not.1 e
 have h8:zdC b.League.Teams=0:=by
  unfold zc9 at h7
  split at h7
  cases h7
  split at h7
  cases h7
  exact h7
 have h9:zdr b.League.Slots=0:=h3 _ (by simp);have h10:zrp b.League.Teams b.League.Slots.length b.Choices=0:=zgT h2 _ (by simp);refine ⟨zxu h,h4,h3 _ (by simp),?_,h5,zmw h5,fun c hc=>zA8 h10 hc,fun t ht=>zoq _ 0 h8 t (by simpa using ht),?_⟩
 unfold zn8;rw [if_neg (fun q=>q h5)];exact zgT h2 _ (by simp);unfold zdr at h9
 split at h9
 cases h9
 split at h9
 cases h9
 omega
end
end Go.HL
namespace Go.Proofs.YtbmggbfabohegaaGreatDoor
set_option maxRecDepth 100000
set_option linter.unusedVariables false
set_option linter.unusedSimpArgs false
section
open Go.Proofs.Tryz
open Go.HL
theorem zp4 [Tracks] {s:Str} {l:List Str} (hl:l.length<=1000000):ConP prog 234 [.str s,.vptr [eSs l] 0] (.bool (l.contains s)):=by
 refine uOb func234 ntmps234 ?_;refine gz4 ?_;refine dq (zY (h:=eSs l) zp rfl rfl rfl) ?_;refine gz1 ?_;refine dq (uCl zhI rfl (zK uS)) ?_;refine gz3 ?_;refine zx rfl ?_
 rfl
theorem zi2 [Tracks] {a b:List Str} (ha:a.length<=1000000) (hb:b.length<=1000000):ConP prog 157 [eSs a,eSs b] (.bool (zlv a b)):=by
 refine uOb func157 ntmps157 ?_;refine gz7 ?_;refine dq (uCl zz8 rfl (zgd (l:=a) (p:=fun s=>b.contains s) zEc (fun _=>zp4 hb) ha)) ?_;refine gz3 ?_;refine zx rfl ?_
 rfl
theorem zl6 [Tracks] {kb pb hb ob db ab:Nat} {b:BoundS} {k:RosS} {t:Str} (hP: ∀t,(rPl k t).length<=1000000) (hH: ∀t,(rHu k t).length<=1000000):Con prog 162 [.raw (.pointer (some ⟨kb,0,none⟩)),.str t] (zdk kb pb hb ob db ab b k) (fun x1 M'=>x1=zwx t (rPl k t) (rHu k t)/\M'=[]):=by
 refine zba func162 rfl ntmps162 rfl rfl ?_;refine gz1 ?_;refine de rfl (zj zhY rfl fun b4=> ?_)
 refine gz1 ?_;refine zbt (fun M=>M=(.cells b4 [.str [],.raw (.slice none 0 0),.raw (.slice none 0 0)]::(zdk kb pb hb ob db ab b k))) [4,6,11,13] mixed ?_;refine gz2 ?_;refine uB 2 rfl ((by first|exact zu rfl|exact zk rfl)) ?_;refine gz1 ?_;refine uM 4 rfl rfl (fun M hM=>by subst hM;exact zas (i:=1) zds rfl rfl (.inl ⟨rfl,rfl⟩) ⟨rfl,rfl⟩) ?_;refine gz1 ?_;refine uM 6 rfl rfl (fun M hM=>by subst hM;exact zfl (i:=2) (f:=eSs) (z0:=([]:List Str)) zds ty9 zp rfl rfl rfl (zt 1) ⟨rfl,rfl⟩) ?_;refine uA 8 ?_;refine uB 9 rfl ((by first|exact zu rfl|exact zk rfl)) ?_;refine gz1 ?_;refine uM 11 rfl rfl (fun M hM=>by subst hM;exact zas (i:=1) zds rfl rfl (.inl ⟨rfl,rfl⟩) ⟨rfl,rfl⟩) ?_;refine gz1 ?_;refine uM 13 rfl rfl (fun M hM=>by subst hM;exact zfl (i:=3) (f:=eSs) (z0:=([]:List Str)) zds ty9 zp rfl rfl rfl (zt 1) ⟨rfl,rfl⟩) ?_;refine uF 7 ?_;refine zv rfl (zpW (uCa zj0 rfl (z7 (l:=rPl k t) (hP t)) fun v=>⟨v,rfl,rfl⟩) ?_)
 refine ⟨fun _=> .inl rfl,?_⟩
 refine uF 14 ?_;refine zv rfl (zpW (uCa zj0 rfl (z7 (l:=rHu k t) (hH t)) fun v=>⟨v,rfl,rfl⟩) ?_)
 refine ⟨fun _=> .inl rfl,?_⟩
 refine uB 15 rfl (zG (cs:=[_,_,_]) zhY zFi rfl) ?_;refine uF 16 ?_;refine zA (zl (h:=zwx t (rPl k t) (rHu k t)) zhY rfl rfl rfl rfl rfl ?_)
 refine ⟨uE,?_⟩
 refine gz2 ?_;exact ⟨_,_,(zbV 4 (i:=0) rfl rfl).trans Ghost.clear,[_],_,⟨⟨_,_,_,_,_,rfl,zhY,.inr ⟨rfl,rfl,rfl⟩⟩,trivial⟩,Weak.refl _,rfl,rfl⟩
theorem zuN [Tracks] {b:BoundS} {l:List MoveS} {t:Str} {n:Int} (hl:l.length<=1000000) (hz:zkO b l t n=0):ConP prog 78 [zfS b,zcC l,.str t,.int .i64 n] (.tup [zwx t (rPl (zgU b l n) t) (rHu (zgU b l n) t),.int .i64 0]):=by
 obtain ⟨hm0,hk0,hn0⟩:=zCb hz;have hok:=zoR (b:=b) (n:=n) hm0;refine zba func78 rfl ntmps78 rfl rfl ?_;refine gz2 ?_;refine de rfl (zj zhY rfl fun b8=> ?_)
 refine gz8 ?_;refine dq (z8 (h':= .int .i64 0) (uCl zDA rfl (zm2 (b:=b) (l:=l) (p:=t) (n:=n) hl)) (by rw [hz])) ?_;refine gz6 ?_;refine zW rfl (fun h1=> ?_) (fun h1=> ?_)
 ·exfalso
  try simp at h1
  done
 ·try simp at h1
  refine gz6 ?_;refine de rfl (za4 (M1:=[]) (R:=[_]) zDB rfl (WeakL.refl _) (Ac _) (zuO (b:=b) (l:=l) (n:=n) hm0) ?_)
  rintro _ _ ⟨kb,pb,hb,ob,db,ab,rfl,rfl⟩;refine gz1 ?_;refine de rfl (za4 (M1:=(zdk kb pb hb ob db ab b (zgU b l n))) (R:=[_]) zDC rfl (WeakL.refl _) (Ac _) (zl6 (t:=t) (fun t=>by have:=(hok.p t).2;omega) (fun t=>by have:=(hok.h t).2;omega)) ?_)
  rintro _ _ ⟨rfl,rfl⟩;refine de0 (zl (h:=zwx t (rPl (zgU b l n) t) (rHu (zgU b l n) t)) zhY rfl rfl rfl rfl rfl ?_)
  refine gz3 ?_;exact ⟨_,_,zm 8 rfl,[_,_],_,⟨⟨_,_,_,_,_,rfl,zhY,.inr ⟨rfl,rfl,rfl⟩⟩,⟨rfl,trivial⟩⟩,Weak.refl _,rfl,rfl⟩
theorem zl0 [Tracks] {b:BookS} {n w f:Int} {t:Str} (hl:b.Choices.length<=1000000):ConP prog 73 [zfA b n,.str t,.int .i64 w,.int .i64 f] (pCh (zws b.Choices t w n f)):=by
 refine uOb func73 ntmps73 ?_;refine zaz ?_;refine dq (zY (h:= .vptr (zb (zbk b)) 0) zbF rfl rfl rfl) ?_;refine dq ((by first|exact zu rfl|exact zk rfl)) ?_;refine gz1 ?_;refine dq (zY (h:=zj3 b.Choices) zf7 rfl rfl rfl) ?_;refine dq (zaD (f:=zar) (l:=b.Choices) zf7 rfl) ?_;refine gz3 ?_;refine uU2 [9,3,18,43] (fun (k:Nat) (o:Option ChoiceS)=>[(18,.int .i64 k),(9,pCh o)]) (fun (k:Nat) (o:Option ChoiceS)=>[]) (fun (k:Nat) (o:Option ChoiceS)=>k<=b.Choices.length/\(zws b.Choices t w n f=zoG t w n f o (b.Choices.drop k))) (fun (k:Nat) (o:Option ChoiceS)=>b.Choices.length-k) (0) (none) ?_ ?_;exact ⟨Ad _,rfl⟩;rintro k o ⟨hk,hg⟩;refine gz4 ?_;refine uCo (fun h1=> ?_) fun h2=> ?_
 obtain ⟨x,hx⟩: ∃x,b.Choices[k]? =some x:=⟨_,Aa h1⟩
 have hdx:=zi hx;rw [hdx] at hg;refine zaz ?_;refine dq (zY (h:= .vptr (zb (zbk b)) 0) zbF rfl rfl rfl) ?_;refine dq ((by first|exact zu rfl|exact zk rfl)) ?_;refine gz1 ?_;refine dq (zY (h:=zj3 b.Choices) zf7 rfl rfl rfl) ?_;refine gz1 ?_;refine dq (zB (f:=zar) (l:=b.Choices) (j:=k) (a:=x) zf7 zeg rfl rfl rfl hx) ?_;refine gz2 ?_;refine uDr mixed ?_;refine gz1 ?_;refine uB 1 rfl ((by first|exact zu rfl|exact zk rfl)) ?_;refine gz6 ?_;refine uGy 8 rfl rfl (fun hc=>(by first|exact zu rfl|exact zk rfl)) ?_;refine gz7 ?_;refine uGy 16 rfl rfl (fun hc=>(by first|exact zu rfl|exact zk rfl)) ?_;refine gz8 ?_;refine uGy 25 rfl rfl (fun hc=>(by first|exact zu rfl|exact zk rfl)) ?_;refine gz6 ?_;refine uCo (fun h3=> ?_) fun h4=> ?_
 refine zaz ?_;exact ⟨k+1,some x,⟨by omega,by rw [hg,zoG,if_pos (by simp_all [zqv])]⟩,uD,⟨rfl,rfl,trivial⟩,uK,Ac _⟩;refine gz7 ?_;exact ⟨k+1,o,⟨by omega,by rw [hg,zoG,if_neg (by simp_all [zqv])]⟩,uD,⟨rfl,rfl,trivial⟩,uK,Ac _⟩;have hnk:b.Choices.length<=k:=by omega
 obtain rfl:k=b.Choices.length:=by omega
 rw [zI (Ae _)] at hg;refine gz2 ?_;refine zM ?_;refine gz7 ?_;refine zx rfl ?_;rw [hg];rfl
theorem zl1 [Tracks] {x:PlayerS} {s:Str}:ConP prog 164 [zeD x,.str s] (.int .i64 (zV x.Key s)):=by
 refine uOb func164 ntmps164 ?_;refine gz8 ?_;refine dq (uCl zce rfl zL) ?_;refine gz3 ?_;refine zx rfl ?_
 rfl
theorem znA [Tracks] {b:BookS} {n:Int} {s:Str} (hl:b.League.Players.length<=1000000) (hs:SortedS (b.League.Players.map (·.Key))):ConP prog 79 [zfA b n,.str s] (pPl (plO b.League.Players s)):=by
 refine uOb func79 ntmps79 ?_;refine gz6 ?_;refine dq (zY (h:= .vptr (zb (zbk b)) 0) zbF rfl rfl rfl) ?_;refine dq ((by first|exact zu rfl|exact zk rfl)) ?_;refine gz2 ?_;refine dq (zY (h:=zbh b.League.Players) zmI rfl rfl rfl) ?_;refine gz5 ?_;refine dq (uCl zAb rfl (zdI (l:=b.League.Players) zDD (fun _=>zl1) hl hs)) ?_;refine zcj ?_;refine uCo (fun h1=> ?_) fun h2=> ?_
 refine gz4 ?_;refine zx rfl ?_
 focus first
 |(rw [plO,hp3];rfl)
 |(rw [plO,zvG uSa];rfl)
 refine gz2 ?_;obtain ⟨p,hp1,hp2,hp3⟩:=zFs hs (s:=s) uSa;refine gz3 ?_;refine dq (zB (f:=zeD) (l:=b.League.Players) (j:=zcd (b.League.Players.map (·.Key)) s) (a:=p) zmI zew rfl rfl rfl hp1) ?_;refine gz3 ?_;refine zx rfl ?_
 focus first
 |(rw [plO,hp3];rfl)
 |(rw [plO,zvG uSa];rfl)
end
end Go.Proofs.YtbmggbfabohegaaGreatDoor
namespace Go.HL
section
structure OutS where
 Points:Int
 Weight:Int
abbrev most:Int:=1000000000000
end
section
abbrev NW:=List (Int×Int)
def one (p:Int×Int) (O:List OutS):NW:=O.map fun o=>(p.1+o.Points,p.2*o.Weight)
def tot:NW->Int
 |[]=>0
 |p::r=>p.2+tot r
def PosW (L:NW):Prop:= ∀p∈L,1<=p.2
theorem PosW.tot {L:NW} (h:PosW L):0<=tot L:=by
 induction L with
 |nil=>simp [HL.tot]
 |cons p L ih=>
   have:=ih fun q hq=>h q (Al _ hq)
   have:=h p Aj;simp only [HL.tot];omega
theorem PosW.le {L:NW} (h:PosW L) {p:Int×Int} (hp:p∈L):p.2<=HL.tot L:=by
 induction L with
 |nil=>cases hp
 |cons q L ih=>
   have hL:PosW L:=fun q hq=>h q (Al _ hq)
   have h1:=hL.tot;have h2:=h q Aj
   rcases List.mem_cons.1 hp with rfl|hp
   simp only [HL.tot];omega;have:=ih hL hp;simp only [HL.tot];omega
theorem PosW.alk {L:NW} (h:PosW L) (k:Int):0<=(alk k L).getD 0/\(alk k L).getD 0<=HL.tot L:=by
 cases hq:HL.alk k L with
 |none=>have:=h.tot;simp;omega
 |some v=>
   have hm:=zbN hq;have h1:=h _ hm;have h2:=h.le hm;simp only [B3];simp only at h1 h2
   omega
theorem PosW.one {p:Int×Int} (hp:1<=p.2) {O:List OutS} (hO: ∀y∈O,1<=y.Weight):PosW (HL.one p O):=fun q hq=>by
 obtain ⟨o,ho,rfl⟩:=List.mem_map.1 hq;have:=hO o ho;have:1*1<=p.2*o.Weight:=Int.mul_le_mul hp this (by decide) (by omega)
 dsimp only;omega
end
section
structure FracS where
 Num:Int
 Den:Int
abbrev zis (x:FracS):HVal:= .agg [.int .i64 x.Num,.int .i64 x.Den]
def zft (a b:Int):Int:=(Nat.gcd a.toNat b.toNat:Nat)
def zpM (n d:Int):FracS:=⟨n.tdiv (zft (max n (-n)) d),d.tdiv (zft (max n (-n)) d)⟩
theorem zy6 {a b:Int} (ha:0<=a) (hb:0<b):zft b (a.tmod b)=zft a b:=by
 unfold zft
 congr 1
 have e:(a.tmod b).toNat=a.toNat%b.toNat:=by
  rw [Int.tmod_eq_emod_of_nonneg ha];have h1:=Int.toNat_emod ha (by omega:0<=b);exact h1
 rw [e,Nat.gcd_comm b.toNat,<-Nat.gcd_rec,Nat.gcd_comm]
theorem zy5 {a:Int} (ha:0<=a):zft a 0=a:=by
 unfold zft;simp;omega
theorem zvr {a b:Int} (hb:0<b):0<zft a b:=by
 unfold zft;have:=Nat.gcd_pos_of_pos_right a.toNat (n:=b.toNat) (by omega)
 omega
end
section
def PosO (Y:List OutS):Prop:= ∀q∈Y,1<=q.Weight
theorem PosO.take {Y:List OutS} (h:PosO Y) (k:Nat):PosO (Y.take k):=fun x hx=>h x (AL hx)
def IncO (Y:List OutS):Prop:=Y.Pairwise fun a b=>a.Points<b.Points
theorem IncO.drop {Y:List OutS} (h:IncO Y) {i:Nat} {n:Int} {q:OutS} (hq:Y[i]? =some q) (hn:n<=q.Points): ∀x∈Y.drop i,n<=x.Points:=by
 intro x hx
 have hi:i<Y.length:=(List.getElem?_eq_some_iff.1 hq).1;have he:Y[i]=q:=(List.getElem?_eq_some_iff.1 hq).2;rw [BE hi,he] at hx
 rcases List.mem_cons.1 hx with rfl|hx
 exact hn;have hp:(Y.drop i).Pairwise fun a b=>a.Points<b.Points:=Cm (List.drop_sublist i Y) h
 rw [BE hi,he] at hp;have:=(List.pairwise_cons.1 hp).1 x hx
 omega
end
section

end
section
theorem zwF {a b:Int} (hb:0<=b):zft a b∣b:=by
 have h:((Nat.gcd a.toNat b.toNat:Nat):Int)∣(b.toNat:Int):=Int.ofNat_dvd.2 (Nat.gcd_dvd_right _ _);rw [Int.toNat_of_nonneg hb] at h;exact h
theorem zwE {a b:Int} (ha:0<=a):zft a b∣a:=by
 have h:((Nat.gcd a.toNat b.toNat:Nat):Int)∣(a.toNat:Int):=Int.ofNat_dvd.2 (Nat.gcd_dvd_left _ _);rw [Int.toNat_of_nonneg ha] at h;exact h
theorem zzn {w T:Int} (hT:0<T): ∃g,0<g/\w=(zpM w T).Num*g/\T=(zpM w T).Den*g/\0<(zpM w T).Den:=by
 have hg:=zvr (a:=max w (-w)) hT;have h1:zft (max w (-w)) T∣T:=zwF (by omega);have h2:zft (max w (-w)) T∣w:=by
  have h:=zwE (a:=max w (-w)) (b:=T) (by omega)
  by_cases c:0<=w
  have e:max w (-w)=w:=by omega
  rw [e] at h⊢;exact h;have e:max w (-w)= -w:=by omega
  rw [e] at h⊢;exact (Int.dvd_neg).1 h
 have e2:T=(zpM w T).Den*zft (max w (-w)) T:=(Int.tdiv_mul_cancel h1).symm;refine ⟨_,hg,(Int.tdiv_mul_cancel h2).symm,e2,?_⟩
 refine Decidable.not_not.1 fun hn=> ?_
 have:(zpM w T).Den*zft (max w (-w)) T<=0:=Int.mul_nonpos_of_nonpos_of_nonneg (by omega) (by omega)
 omega
end
section

end
section
theorem zuZ {n:Int}:(if-n>n then-n else n)=max n (-n):=by split<;>omega
end
section

end
section

end
section

end
section

end
section

end
section

end
section

end
section
theorem ziX [Tracks] {rs:List ResultVar} {e e':Env} {M M':List MObj} {h h':HVal} {Q:HVal->List MObj->Prop} (hg:Ghost e M e' M') (hr:zi7 e' rs=some h) (hw:Weak h h') (hh:Q h' M'):zjJ rs Q .ret e M:=
 ⟨e',M',hg,h,h',hr,hw,hh⟩
end
section

end
section
section
variable {α:Type} (rB:Str->Bool) (rP:Str->α) (F:List α->Int) (W:α->List Str) (enc:α->HVal) (sz:Nat)
end
end
section

end
section

end
section
theorem zol {m:List MendS} {week:Int} (h:zbE m=0):zbE (zf3 m week)=0:=by
 obtain ⟨h1,h2,h3⟩:=zsg h;have hl:=zka m week;unfold zbE;rw [if_neg (by omega)];exact zqk zhg (fun x hx=>h2 x (List.mem_filter.1 hx).1) (h3.filter _) _ 0 rfl
theorem zpK {l:List Play} {t:List Str} {m:List MendS} {week n:Int} (hok: ∀x∈l,playFault x=0) (hl:l.length<=15) (hm:m.length<=24) (hw:za1 week=true) (hm0:zbE m=0):zaA (knL l t m week n)=0/\(knL l t m week n).length<=40/\∀y∈knL l t m week n,y.Stats.length<=40:=by
 unfold knL
 split
 exact ⟨rfl,by simp,fun y hy=>by cases hy⟩
 rename_i h0
 have h0':zhN l t week n=0:=by simpa using h0
 have h40:=zpL (t:=t) (week:=week) (n:=n) hok hl hm;have h1:=zqB (zdO l t week n) m n;have h2:=(zj8 (t:=t) (week:=week) (n:=n) hok hl).1;refine ⟨zx6 (zlc hok hl hw h0') hm0 h40 (by omega),by unfold mdL;rw [za5,Ag];omega,fun y hy=> ?_⟩
 unfold mdL at hy;rw [zec] at hy;obtain ⟨q,hq,rfl⟩:=List.mem_map.1 hy;have:=h40 q hq
 show (zal zbb q.2).length<=40
 rw [za5];omega
end
section
open Go
structure WhS where
 team:Str
 hurt:Bool
 dropped:Int
structure OffS where
 W:List (Str×WhS)
 A:List (Str×List Int)
def wh0:WhS:=⟨[],false,-1⟩
def ofO (o:OffS) (p:Str):WhS:=(alk p o.W).getD wh0
def zz2 (o:OffS) (t:Str):List Int:=(alk t o.A).getD []
end
section
open Go
structure OffW (n:Nat) (o:OffS):Prop where
 dr: ∀p,-1<=(ofO o p).dropped/\(ofO o p).dropped<=345686399999
 al: ∀t,(zz2 o t).length<=n
 ab: ∀t,∀m∈zz2 o t,0<=m/\m<=345686399999
 wl:o.W.length<=n
 nd:ANodup o.W
 ad:ANodup o.A
theorem OffW.mono {n m:Nat} {o:OffS} (h:OffW n o) (hm:n<=m):OffW m o:=⟨h.dr,fun t=>Au (h.al t) hm,h.ab,Au h.wl hm,h.nd,h.ad⟩
section
variable {e:Env} {β:Type} {eb:β->HVal}
end
end
section
open Go
end
section
open Go
end
section
open Go
end
section
open Go
section
variable {b:BookS} {own:List Str} {s:Str} {x:SlotS} {w:Int} {p:PlayerS}
variable {c:ChoiceS} {i:Nat} {v:Str}
end
end
section
open Go Op
structure ScorerS where
 Player:Str
 Positions:List Str
 Num:Int
 Den:Int
 Played:Bool
structure FillS where
 Slot:Str
 Player:Str
abbrev zcr (x:ScorerS):HVal:= .agg [.str x.Player,eSs x.Positions,.int .i64 x.Num,.int .i64 x.Den,.bool x.Played]
abbrev ze0 (l:List ScorerS):HVal:= .slice 5 (l.map zcr)
abbrev zb0 (x:FillS):HVal:= .agg [.str x.Slot,.str x.Player]
abbrev zlw (l:List FillS):HVal:= .slice 2 (l.map zb0)
def zcv:ScorerS:=⟨[],[],0,0,false⟩
def zcz (n d:Int):Int:=n*(100:Int).tdiv d
abbrev ofH (n:Int):FracS:=zpM n 100
theorem zBE (n:Int): ∃g,1<=g/\n=(ofH n).Num*g/\100=(ofH n).Den*g/\1<=(ofH n).Den/\(100:Int).tdiv (ofH n).Den=g:=by
 obtain ⟨g,hg,e1,e2,h0⟩:=zzn (w:=n) (T:=100) (by decide);refine ⟨g,hg,e1,e2,h0,?_⟩
 conv=>lhs;rw [e2]
 exact Int.mul_tdiv_cancel_left g (by omega)
theorem zA2 {a g B:Int} (hg:1<=g) (h: -B<=a*g/\a*g<=B): -B<=a/\a<=B:=by
 by_cases c:0<=a
 have:=Bc hg c
 omega
 have:=Bc hg (show 0<= -a by omega);rw [Bq,Bq] at this
 omega
theorem zye {n B:Int} (h: -B<=n/\n<=B):(1<=(ofH n).Den/\(ofH n).Den<=100)/\ -B<=(ofH n).Num/\(ofH n).Num<=B:=by
 obtain ⟨g,hg,e1,e2,h0,_⟩:=zBE n;have h2:=zA2 (a:=(ofH n).Num) hg (B:=B) (by rw [<-e1];exact h);have h3:=Bc hg (show 0<=(ofH n).Den by omega);exact ⟨⟨h0,by omega⟩,h2⟩
theorem zjA {n d m:Int} (h:zbm n d m=0) (hm:0<=m):(1<=d/\d<=100)/\(0<=(100:Int).tdiv d/\(100:Int).tdiv d<=100)/\ -(m*100)<=zcz n d/\zcz n d<=m*100:=by
 unfold zbm at h
 split at h
 cases h
 rename_i h1
 rw [not_or] at h1
 split at h
 cases h
 rename_i h2
 rw [not_or] at h2;have hd:1<=d:=by omega
 have h3:(100:Int).tmod d=0:=Decidable.not_not.1 h2.1;have h4:out n (-m*d) (m*d)=false:=by simpa using h2.2
 have h5: -m*d<=n/\n<=m*d:=by
  have e0: -m*d= -(m*d):=Bq _ _;rw [e0] at h4⊢;unfold out at h4;simp at h4;omega
 have e:=Int.tdiv_mul_cancel_of_tmod_eq_zero h3;have hq:0<=(100:Int).tdiv d:=B9 (by decide) (by omega);have hq1:1<=(100:Int).tdiv d:=by
  refine Decidable.not_not.1 fun hn=> ?_
  have:(100:Int).tdiv d=0:=by omega
  rw [this] at e;simp at e
 have hq2:=Bc hd hq;have hd2:=BO hq1 (show 0<=d by omega);have h6:=BO h5.1 hq;have h7:=BO h5.2 hq;have e2:m*d*(100:Int).tdiv d=m*100:=by rw [Int.mul_assoc,Int.mul_comm d,e]
 have e3: -m*d*(100:Int).tdiv d= -(m*100):=by rw [Bq,Bq,e2]
 rw [e2] at h7;rw [e3] at h6;refine ⟨⟨hd,by omega⟩,⟨hq,by omega⟩,?_⟩
 unfold zcz;exact ⟨h6,h7⟩
/-! what rules give-/
def zdd (s:Str) (n:Int):List StatS->Int
 |[]=>n
 |y::r=>zdd s (if y.Name=s then y.Count else n) r
def zg8 (r:RuleS) (pos:List Str) (x:LineS):Int:=
 if r.Position≠[]/\zlv [r.Position] pos=false then 0
 else if r.Kind=1 then zcz r.Num r.Den*zdd r.Stat 0 x.Stats
 else if r.Kind=2 then zcz r.Num r.Den*(max (zdd r.Stat 0 x.Stats) 0).tdiv r.Many
 else if (r.Kind=3/\r.Many<=zdd r.Stat 0 x.Stats)\/(r.Kind=4/\zdd r.Stat 0 x.Stats=0) then zcz r.Num r.Den else 0
def zha (R:List RuleS) (pos:List Str) (x:LineS):Int:=(R.map fun r=>zg8 r pos x).sum
structure RuleOk (r:RuleS):Prop where
 kd:1<=r.Kind/\r.Kind<=4
 mm:r.Kind=2->1<=r.Many/\r.Many<=100000
 dn:1<=r.Den/\r.Den<=100
 q:0<=(100:Int).tdiv r.Den/\(100:Int).tdiv r.Den<=100
 w: -1000000<=zcz r.Num r.Den/\zcz r.Num r.Den<=1000000
theorem zys {R:List RuleS} (h:zgx R=0):R.length<=100/\∀r∈R,RuleOk r:=by
 obtain ⟨h1,h2⟩:=zfm h;refine ⟨h1,fun r hr=> ?_⟩
 obtain ⟨i,hi,rfl⟩:=AS hr;have h3:=h2 i _ (Aa hi);unfold zdS at h3
 split at h3
 cases h3
 split at h3
 cases h3
 split at h3
 cases h3
 rename_i h4
 split at h3
 cases h3
 rename_i h5
 rw [not_or] at h5;have h6:=zjA h3 (by decide);have h7:1<=R[i].Kind/\R[i].Kind<=4:=by unfold out at h4;simp at h4;omega
 refine ⟨h7,fun e=> ?_,h6.1,h6.2.1,h6.2.2⟩
 have h8:zqA R[i].Kind=true:=by rw [e];rfl
 have h9:out R[i].Many 1 100000=false:=by
  cases hq:out R[i].Many 1 100000 with
  |false=>rfl
  |true=>exact absurd ⟨h8,hq⟩ h5.1
 unfold out at h9;simp at h9;omega
theorem zvh (s:Str): ∀(l:List StatS) (n:Int),(∀y∈l,-100000<=y.Count/\y.Count<=100000)->(-100000<=n/\n<=100000)-> -100000<=zdd s n l/\zdd s n l<=100000
 |[],n,_,h=>h
 |y::r,n,hl,h=>by
   refine zvh s r _ (fun z hz=>hl z (Al _ hz)) ?_
   split
   exact hl y Aj;exact h
theorem zxC {s:Str} {l:List StatS} {k:Nat} {n:Int} {y:StatS} (h:l[k]? =some y):zdd s n (l.drop k)=zdd s (if y.Name=s then y.Count else n) (l.drop (k+1)):=by
 rw [zi h];rfl
theorem zvC {a b A B:Int} (ha: -A<=a/\a<=A) (hb: -B<=b/\b<=B) (hA:0<=A) (hB:0<=B): -(A*B)<=a*b/\a*b<=A*B:=by
 have key: ∀x y:Int,0<=x->x<=A->0<=y->y<=B->0<=x*y/\x*y<=A*B:=fun x y h1 h2 h3 h4=>⟨Int.mul_nonneg h1 h3,Int.mul_le_mul h2 h4 h3 hA⟩
 by_cases c:0<=a<;>by_cases d:0<=b
 have:=key a b c ha.2 d hb.2;omega;have:=key a (-b) c ha.2 (by omega) (by omega);rw [Int.mul_neg] at this;omega;have:=key (-a) b (by omega) (by omega) d hb.2;rw [Bq] at this;omega;have:=key (-a) (-b) (by omega) (by omega) (by omega) (by omega);rw [Int.neg_mul_neg] at this;omega
theorem zB8 {a b:Int} (ha:0<=a) (hb:1<=b):0<=a.tdiv b/\a.tdiv b<=a:=by
 refine ⟨B9 ha (by omega),?_⟩
 have h:=B9 ha (show 0<=b by omega);have h1:=Bc hb h;have h2:=Int.mul_tdiv_add_tmod a b;have h3:=Co b ha;rw [Int.mul_comm b] at h2
 omega
def zkr (x:LineS):Prop:= ∀y∈x.Stats,-100000<=y.Count/\y.Count<=100000
theorem zrY {r:RuleS} (hr:RuleOk r) {x:LineS} (hx:zkr x):(-100000<=zdd r.Stat 0 x.Stats/\zdd r.Stat 0 x.Stats<=100000)/\(-100000000000<=zcz r.Num r.Den*zdd r.Stat 0 x.Stats/\zcz r.Num r.Den*zdd r.Stat 0 x.Stats<=100000000000)/\
 (r.Kind=2->(0<=(max (zdd r.Stat 0 x.Stats) 0).tdiv r.Many/\(max (zdd r.Stat 0 x.Stats) 0).tdiv r.Many<=100000)/\ -100000000000<=zcz r.Num r.Den*(max (zdd r.Stat 0 x.Stats) 0).tdiv r.Many/\zcz r.Num r.Den*(max (zdd r.Stat 0 x.Stats) 0).tdiv r.Many<=100000000000):=by
 have h1:=zvh r.Stat x.Stats 0 hx (by omega);have h2:=zvC hr.w h1 (by decide) (by decide);refine ⟨h1,by omega,fun e=> ?_⟩
 have h3:=zB8 (a:=max (zdd r.Stat 0 x.Stats) 0) (by omega) (hr.mm e).1;have h4:0<=(max (zdd r.Stat 0 x.Stats) 0).tdiv r.Many/\(max (zdd r.Stat 0 x.Stats) 0).tdiv r.Many<=100000:=by omega
 have h5:=zvC hr.w (b:=(max (zdd r.Stat 0 x.Stats) 0).tdiv r.Many) (B:=100000) (by omega) (by decide) (by decide);exact ⟨h4,by omega⟩
theorem zCm {r:RuleS} (hr:RuleOk r) {x:LineS} (hx:zkr x) (pos:List Str): -100000000000<=zg8 r pos x/\zg8 r pos x<=100000000000:=by
 obtain ⟨h1,h2,h3⟩:=zrY hr hx;have h4:=hr.w;unfold zg8
 split
 omega
 split
 exact h2
 split
 rename_i e;exact (h3 e).2
 split<;>omega
theorem zvW {l:List Int} {B:Int} (h: ∀x∈l,-B<=x/\x<=B) (hB:0<=B): -(B*l.length)<=l.sum/\l.sum<=B*l.length:=by
 induction l with
 |nil=>simp
 |cons x r ih=>
   have h1:=h x Aj;have h2:=ih fun y hy=>h y (Al _ hy)
   rw [List.sum_cons,Ai];have e:B*((r.length+1:Nat):Int)=B*r.length+B:=by rw [Int.natCast_add,Int.mul_add];simp
   rw [e];omega
theorem zuo {R:List RuleS} {pos:List Str} {x:LineS} {k:Nat} {r:RuleS} (h:R[k]? =some r):zha (R.take (k+1)) pos x=zha (R.take k) pos x+zg8 r pos x:=by
 unfold zha;rw [z6 h];simp
theorem zqP {R:List RuleS} (hl:R.length<=100) (hR: ∀r∈R,RuleOk r) {x:LineS} (hx:zkr x) (pos:List Str) (k:Nat): -10000000000000<=zha (R.take k) pos x/\zha (R.take k) pos x<=10000000000000:=by
 have h:=zvW (l:=(R.take k).map fun r=>zg8 r pos x) (B:=100000000000) (fun y hy=>by
  obtain ⟨r,hr,rfl⟩:=List.mem_map.1 hy;exact zCm (hR r (AL hr)) hx pos) (by decide)
 have h2:((R.take k).map fun r=>zg8 r pos x).length<=100:=by rw [Ag,Ax];omega
 unfold zha
 omega
theorem zyj {l:List Str} (h:zc8 l=0):l.length<=10/\zdC l=0:=by
 unfold zc8 at h
 split at h
 cases h
 split at h
 cases h
 exact ⟨by omega,h⟩
/-! right lines-/
structure LineOk (x:LineS):Prop where
 ky:key x.Player=true
 wk:za1 x.Week=true
 st:za3 x.Stats=0
theorem zvz {l:List LineS} (h:zaA l=0) {x:LineS} (hx:x∈l):LineOk x:=by
 obtain ⟨h1,h2,h3⟩:=zeI.1 ((zgm h).2.1 x hx);exact ⟨h1,h2,h3⟩
theorem LineOk.len {x:LineS} (h:LineOk x):x.Stats.length<=40:=by
 have:=h.st;unfold za3 at this;split at this
 cases this
 omega
theorem LineOk.go {x:LineS} (h:LineOk x):zaT zaj zbb zdU x.Stats 0 x.Stats=0:=by
 have:=h.st;unfold za3 at this;split at this
 cases this
 exact this
theorem LineOk.sb {x:LineS} (h:LineOk x):zkr x:=fun y hy=>(zeL.1 (zhn x.Stats 0 h.go y hy)).2.1
theorem zzk {a b:Str} (h:bytesLess a b=true):leB b a=false:=by
 unfold leB;rw [A5];refine ⟨?_,?_⟩
 cases e:bytesLess b a with
 |false=>rfl
 |true=>have:=zhp.2 h;have h2:=zhp.2 e;have h3:=zeQ a b;omega
 cases e:(b==a) with
 |false=>rfl
 |true=>have e2:b=a:=eq_of_beq e;rw [e2,zau] at h;cases h
theorem LineOk.at {x:LineS} (h:LineOk x) {k:Nat} {y:StatS} (hy:x.Stats[k]? =some y):key y.Name=true/\(-100000<=y.Count/\y.Count<=100000)/\(0<k->leB y.Name (x.Stats.getD (k-1) zdU).Name=false):=by
 have h1:=zeL.1 (zhn x.Stats 0 h.go y (Ab hy));refine ⟨h1.1,h1.2.1,fun hk=> ?_⟩
 have hlt:=zo hy;have h2:=(List.pairwise_iff_getElem.1 (zjl zdc h.go)) (k-1) k (by omega) hlt (by omega);rw [Aa hlt,Az] at hy;rw [hy] at h2;have e:x.Stats.getD (k-1) zdU=x.Stats[k-1]'(by omega):=by rw [Af,Aa (by omega)];rfl
 rw [e];exact zzk (zhp.1 h2)
theorem zzq {n:Int}:(if 0>n then 0 else n)=max n 0:=by split<;>omega
end
section
open Go Op
def zbI (k:Nat) (x p:ScorerS):Int:=if key x.Player=false then 5 else if 0<k/\leB x.Player p.Player=true then 7 else orI [zc8 x.Positions,zbm x.Num x.Den 10000]
def zil (l:List ScorerS):Int:=zdY 20 zbI zcv l
structure ScoOk (l:List ScorerS):Prop where
 len:l.length<=20
 so:SortedS (l.map (·.Player))
 ky: ∀x∈l,key x.Player=true
 dn: ∀x∈l,1<=x.Den/\x.Den<=100
 q: ∀x∈l,0<=(100:Int).tdiv x.Den/\(100:Int).tdiv x.Den<=100
 w: ∀x∈l,-1000000<=zcz x.Num x.Den/\zcz x.Num x.Den<=1000000
 po: ∀x∈l,x.Positions.length<=10
theorem zCM {l:List ScorerS} (h:zil l=0):SortedS (l.map (·.Player)):=by
 obtain ⟨_,h2⟩:=zfm h;have nx: ∀(j:Nat) (x y:Str),(l.map (·.Player))[j]? =some x->(l.map (·.Player))[j+1]? =some y->bytesLess x y=true:=by
  intro j x y hx hy
  rw [Ah] at hx hy;obtain ⟨a,ha,rfl⟩:=Option.map_eq_some_iff.1 hx;obtain ⟨b,hb,rfl⟩:=Option.map_eq_some_iff.1 hy;have:=h2 (j+1) b hb;have ed:l.getD (j+1-1) zcv=a:=by rw [Nat.add_sub_cancel,Af,ha];rfl
  rw [ed] at this;unfold zbI at this
  split at this
  omega
  split at this
  omega
  rename_i h3
  have h4:leB b.Player a.Player=false:=by
   cases e:leB b.Player a.Player with
   |false=>rfl
   |true=>exact absurd ⟨by omega,e⟩ h3
  unfold leB at h4;rw [A5] at h4
  rcases zb5 a.Player b.Player with q|q|q
  exact q;rw [q] at h4;simp at h4;rw [q] at h4;cases h4.1
 exact zlJ nx
theorem zut {l:List ScorerS} (h:zil l=0):ScoOk l:=by
 obtain ⟨h1,h2⟩:=zfm h;have key1: ∀x∈l,key x.Player=true/\zc8 x.Positions=0/\zbm x.Num x.Den 10000=0:=fun x hx=>by
  obtain ⟨i,hi,rfl⟩:=AS hx;have h3:=h2 i _ (Aa hi);unfold zbI at h3
  split at h3
  cases h3
  rename_i h4
  split at h3
  cases h3
  have h5:=zgT h3;exact ⟨by simpa using h4,h5 _ (by simp),h5 _ (by simp)⟩
 refine ⟨h1,zCM h,fun x hx=>(key1 x hx).1,fun x hx=>(zjA (key1 x hx).2.2 (by decide)).1,fun x hx=>(zjA (key1 x hx).2.2 (by decide)).2.1,fun x hx=>(zjA (key1 x hx).2.2 (by decide)).2.2,fun x hx=> ?_⟩
 have h6:=(key1 x hx).2.1;unfold zc8 at h6
 split at h6
 cases h6
 split at h6
 cases h6
 omega
theorem zxv {l:List ScorerS} {s:Str} {i:Nat}:(bif decide ((i:Int)<(l.length:Int)) then zV (l.getD i zcv).Player s==0 else false)=((l.map (·.Player))[i]? ==some s):=by
 by_cases h:i<l.length
 have h':(i:Int)<(l.length:Int):=by omega
 rw [Ah,getD_some (d:=zcv) h];simp only [h',decide_true,cond_true];rw [AF];simp [zbn];have h': ¬(i:Int)<(l.length:Int):=by omega
 rw [Ah,AB (by omega:l.length<=i)]
 simp [h']
/-! the scorer of a name-/
abbrev scO (l:List ScorerS) (s:Str):Option ScorerS:=l.find? (fun y=>y.Player==s)
theorem zAU {l:List ScorerS} {s:Str} (hs:SortedS (l.map (·.Player))) {y:ScorerS} (h:scO l s=some y):
 (l.map (·.Player)).contains s=true/\l[zcd (l.map (·.Player)) s]? =some y:=by
 have hm:=Bp h;have he:y.Player=s:=by have:=List.find?_some h;simpa using this
 have hc:(l.map (·.Player)).contains s=true:=by
  simp only [B0,decide_eq_true_eq];exact List.mem_map.2 ⟨y,hm,he⟩
 refine ⟨hc,?_⟩
 obtain ⟨h1,h2⟩:=zvK hs hc;have hl:zcd (l.map (·.Player)) s<l.length:=by simpa using zo h1
 have h3:l.find? (fun y=>y.Player==s)=some (l[zcd (l.map (·.Player)) s]):=by
  rw [List.find?_eq_some_iff_getElem];refine ⟨?_,_,hl,rfl,fun j hj=> ?_⟩
  rw [Ah,Aa hl] at h1
  simpa using h1
  have:=h2 j (l[j]'(by omega)).Player hj (by rw [Ah,Aa (by omega)];rfl)
  simpa using this
 rw [Aa hl];exact h3.symm.trans h
theorem zlG {l:List ScorerS} {s:Str} {y:ScorerS} (h:scO l s=some y):y∈l/\y.Player=s:=⟨Bp h,by have:=List.find?_some h;simpa using this⟩
/-! who is fielded-/
abbrev zgC (c:ChoiceS) (i:Nat):Str:=c.Players.getD i []
def okF (l:List ScorerS) (c:Option ChoiceS) (S:List SlotS) (seen:List Str) (i:Nat):Bool:=
 match c with
 |none=>false
 |some c=>match scO l (zgC c i) with
   |none=>false
   |some y=> !(seen.contains (zgC c i))&&zlv y.Positions (S.getD i ze6).Positions
def zmL (c:Option ChoiceS) (i:Nat):Str:=match c with|none=>[]|some c=>zgC c i
def zb1 (l:List ScorerS) (c:Option ChoiceS) (S:List SlotS):Nat->List FillS×List Str
 |0=>([],[])
 |n+1=>if okF l c S (zb1 l c S n).2 n=true then ((zb1 l c S n).1++[⟨(S.getD n ze6).Key,zmL c n⟩],zb8 (zmL c n) (zb1 l c S n).2) else ((zb1 l c S n).1++[⟨(S.getD n ze6).Key,[]⟩],(zb1 l c S n).2)
abbrev zcS (l:List ScorerS) (c:Option ChoiceS) (S:List SlotS) (n:Nat):List FillS:=(zb1 l c S n).1
theorem zrt {l:List ScorerS} {c:Option ChoiceS} {S:List SlotS} {n:Nat} (h:okF l c S (zb1 l c S n).2 n=true):zb1 l c S (n+1)=((zb1 l c S n).1++[⟨(S.getD n ze6).Key,zmL c n⟩],zb8 (zmL c n) (zb1 l c S n).2):=by
 rw [zb1,if_pos h]
theorem zqq {l:List ScorerS} {c:Option ChoiceS} {S:List SlotS} {n:Nat} (h:okF l c S (zb1 l c S n).2 n=false):zb1 l c S (n+1)=((zb1 l c S n).1++[⟨(S.getD n ze6).Key,[]⟩],(zb1 l c S n).2):=by
 rw [zb1,if_neg (by rw [h];simp)]
theorem ze1 (l:List ScorerS) (c:Option ChoiceS) (S:List SlotS): ∀n,(zcS l c S n).length=n
 |0=>rfl
 |n+1=>by
   have ih:=ze1 l c S n;unfold zcS at ih⊢
   cases h:okF l c S (zb1 l c S n).2 n with
   |true=>rw [zrt h];simp [ih]
   |false=>rw [zqq h];simp [ih]
theorem zzt {l:List ScorerS} {c:Option ChoiceS} {S:List SlotS} {seen:List Str} {i:Nat} (h:okF l c S seen i=true):
 ∃y,scO l (zmL c i)=some y/\seen.contains (zmL c i)=false/\zlv y.Positions (S.getD i ze6).Positions=true:=by
 unfold okF at h
 cases c with
 |none=>cases h
 |some c=>
   dsimp only at h
   cases hs:scO l (zgC c i) with
   |none=>rw [hs] at h;cases h
   |some y=>
     rw [hs] at h;simp only [Bd,Ci] at h;exact ⟨y,hs,h.1,h.2⟩
theorem zzc (l:List ScorerS) (w:Str): ∃(z:Int) (i0:Nat),zT (fun x:ScorerS=>x.Player==w) l 0=z/\(0<=z->z=(i0:Int)/\l[i0]? =some (l.getD i0 zcv)/\scO l w=some (l.getD i0 zcv))/\(z<0->scO l w=none):=by
 by_cases h:0<=zT (fun x:ScorerS=>x.Player==w) l 0
 obtain ⟨i,x,e1,e2,e3⟩:=zr3 h;have e4:l.getD i zcv=x:=by rw [Af,e2];rfl
 exact ⟨_,i,rfl,fun _=>⟨e1,by rw [e4];exact e2,by rw [e4];exact e3⟩,fun q=>by omega⟩;exact ⟨_,0,rfl,fun q=>absurd q h,fun _=>zoa (by omega)⟩
theorem zvE {l:List ScorerS} {c:ChoiceS} {S:List SlotS} {seen:List Str} {i:Nat} {z:Int} {i0:Nat} (h2:0<=z->z=(i0:Int)/\l[i0]? =some (l.getD i0 zcv)/\scO l (zgC c i)=some (l.getD i0 zcv)) (h3:z<0->scO l (zgC c i)=none):
 okF l (some c) S seen i=(decide (0<=z)&&(!(seen.contains (zgC c i))&&zlv (l.getD i0 zcv).Positions (S.getD i ze6).Positions)):=by
 unfold okF
 by_cases h:0<=z
 dsimp only
 rw [(h2 h).2.2,decide_eq_true h];rfl
 dsimp only
 rw [h3 (by omega),decide_eq_false h];rfl
structure FillOk (l:List ScorerS) (S:List SlotS) (n:Nat) (f:List FillS):Prop where
 len:f.length=n
 key: ∀(k:Nat) (x:FillS),f[k]? =some x->x.Slot=(S.getD k ze6).Key
 who: ∀(k:Nat) (x:FillS),f[k]? =some x->x.Player≠[]->(f.take k).any (fun y=>y.Player==x.Player)=false/\∃y,scO l x.Player=some y/\zlv y.Positions (S.getD k ze6).Positions=true
theorem zBe {l:List ScorerS} (c:Option ChoiceS) (S:List SlotS): ∀n,(∀s,s∈(zb1 l c S n).2↔s≠[]/\∃x∈zcS l c S n,x.Player=s)/\FillOk l S n (zcS l c S n)\/∃y∈l,y.Player=[]:=by
 by_cases hne: ∃y∈l,y.Player=[]
 exact fun _=> .inr hne
 intro n
 left
 have hn: ∀y∈l,y.Player≠[]:=fun y hy e=>hne ⟨y,hy,e⟩
 induction n with
 |zero=>exact ⟨fun s=>by simp [zb1,zcS],⟨rfl,fun k x h=>by simp [zcS,zb1] at h,fun k x h=>by simp [zcS,zb1] at h⟩⟩
 |succ n ih=>
   obtain ⟨hs,hf⟩:=ih;have hlen:=hf.len
   cases h:okF l c S (zb1 l c S n).2 n with
   |true=>
     obtain ⟨y,hy1,hy2,hy3⟩:=zzt h;have hw:zmL c n≠[]:=fun e=>hn y (zlG hy1).1 ((zlG hy1).2.trans e)
     have hno:(zcS l c S n).any (fun z=>z.Player==zmL c n)=false:=by
      rw [BS]
      intro z hz e
      have:zmL c n∈(zb1 l c S n).2:=(hs _).2 ⟨hw,z,hz,by simpa using e⟩;rw [B0,decide_eq_false_iff_not] at hy2;exact hy2 this
     unfold zcS at hno hlen⊢;rw [zrt h];refine ⟨fun s=> ?_,?_,?_,?_⟩
     dsimp only
     rw [zzS,hs s]
     constructor
     rintro (rfl|⟨a,x,hx,e⟩);exact ⟨hw,_,Bo _ (List.mem_singleton.2 rfl),rfl⟩;exact ⟨a,x,Ao _ hx,e⟩;rintro ⟨a,x,hx,e⟩
     rcases List.mem_append.1 hx with hx|hx
     exact .inr ⟨a,x,hx,e⟩;rw [List.mem_singleton.1 hx] at e;exact .inl e.symm;rw [Aw,hlen];rfl
     intro k x hx
     by_cases hk:k<n
     rw [Aq (by omega)] at hx;exact hf.key k x hx;have:k=n:=by have:=zo hx;rw [Aw,hlen] at this;simp at this;omega
     subst this;rw [Am (by omega),hlen,BY] at hx
     cases hx;rfl
     intro k x hx hp
     by_cases hk:k<n
     rw [Aq (by omega)] at hx;rw [Bu (by omega)];exact hf.who k x hx hp;have:k=n:=by have:=zo hx;rw [Aw,hlen] at this;simp at this;omega
     subst this;rw [Am (by omega),hlen,BY] at hx
     cases hx
     rw [Bu (by omega),A8 (by omega)];exact ⟨hno,y,hy1,hy3⟩
   |false=>
     unfold zcS at hlen⊢;rw [zqq h];refine ⟨fun s=> ?_,?_,?_,?_⟩
     dsimp only
     rw [hs s]
     constructor
     rintro ⟨a,x,hx,e⟩;exact ⟨a,x,Ao _ hx,e⟩;rintro ⟨a,x,hx,e⟩
     rcases List.mem_append.1 hx with hx|hx
     exact ⟨a,x,hx,e⟩;rw [List.mem_singleton.1 hx] at e;exact absurd e.symm a;rw [Aw,hlen];rfl
     intro k x hx
     by_cases hk:k<n
     rw [Aq (by omega)] at hx;exact hf.key k x hx;have:k=n:=by have:=zo hx;rw [Aw,hlen] at this;simp at this;omega
     subst this;rw [Am (by omega),hlen,BY] at hx
     cases hx;rfl
     intro k x hx hp
     by_cases hk:k<n
     rw [Aq (by omega)] at hx;rw [Bu (by omega)];exact hf.who k x hx hp;have:k=n:=by have:=zo hx;rw [Aw,hlen] at this;simp at this;omega
     subst this;rw [Am (by omega),hlen,BY] at hx
     cases hx
     exact absurd rfl hp
theorem zCk {l:List ScorerS} (h:ScoOk l) (c:Option ChoiceS) (S:List SlotS) (n:Nat):FillOk l S n (zcS l c S n):=by
 rcases zBe (l:=l) c S n with q|⟨y,hy,e⟩
 exact q.2;exact absurd e (zCt (h.ky y hy))
/-! captains and sums-/
def znN (c:Option ChoiceS) (f:List FillS):Str:=
 match c with
 |none=>[]
 |some c=>if c.Captain≠[]/\f.any (fun x=>x.Player==c.Captain)=true then c.Captain else []
theorem zCd {c:Option ChoiceS} {f:List FillS} (h:znN c f≠[]):f.any (fun x=>x.Player==znN c f)=true:=by
 unfold znN at h⊢
 cases c with
 |none=>exact absurd rfl h
 |some c=>
   dsimp only at h⊢
   split
   rename_i q;exact q.2
   rename_i q;rw [if_neg q] at h;exact absurd rfl h
def zpG (l:List ScorerS) (s:Str):Int:=((scO l s).map fun y=>zcz y.Num y.Den).getD 0
def zlh (l:List ScorerS) (c:Str) (x:FillS):Int:=if x.Player=[] then 0 else if x.Player=c then zpG l x.Player*2 else zpG l x.Player
def sfL (l:List ScorerS) (f:List FillS) (c:Str):Int:=(f.map (zlh l c)).sum
theorem zrK {l:List ScorerS} {f:List FillS} {c:Str} {k:Nat} {x:FillS} (h:f[k]? =some x):sfL l (f.take (k+1)) c=sfL l (f.take k) c+zlh l c x:=by
 unfold sfL;rw [z6 h];simp
theorem zBj {l:List ScorerS} (h:ScoOk l) (s:Str): -1000000<=zpG l s/\zpG l s<=1000000:=by
 unfold zpG
 cases e:scO l s with
 |none=>simp
 |some y=>exact h.w y (zlG e).1
theorem zB5 {l:List ScorerS} (h:ScoOk l) (c:Str) (x:FillS): -2000000<=zlh l c x/\zlh l c x<=2000000:=by
 have:=zBj h x.Player;unfold zlh
 split
 omega
 split<;>omega
theorem zw7 {l:List ScorerS} (h:ScoOk l) {f:List FillS} (hf:f.length<=12) (c:Str) (k:Nat): -24000000<=sfL l (f.take k) c/\sfL l (f.take k) c<=24000000:=by
 have h1:=zvW (l:=(f.take k).map (zlh l c)) (B:=2000000) (fun y hy=>by
  obtain ⟨x,_,rfl⟩:=List.mem_map.1 hy;exact zB5 h c x) (by decide)
 have h2:((f.take k).map (zlh l c)).length<=12:=by rw [Ag,Ax];omega
 unfold sfL
 omega
end
section
section
variable {P:Program} {e:Env} {dst:Option Tmp} {ty:TypeId} {pos:String} {af:Array Edge} {g:Option (Nat×Bool)}
theorem zvI [Tracks] {x y:Operand} {t t' el:TypeId} {size bytes:Nat} {zero:Value} {o:Option (List HVal)} (hf:Fits P t (.ptr el) size bytes zero) (hx:zh e x=some (zom o)) (hy:zh e y=some (.raw (.pointer none))):
 POp P e ⟨dst,.binOp .neq t x y t',ty,pos,af,g⟩ (.bool (!o.isNone)):=
 zF fun I a w ho=>by
  have hv:=ho.one (x:=x) (by simp [Op.operands]) hx;have h2:=(ho.one (x:=y) (by simp [Op.operands]) hy).raw_inv
  cases o with
  |none=>
    have h1:=hv.raw_inv;refine ⟨_,?_,.bool _⟩
    simp [execOp,h1,h2,eqGuard,binOp,ze4 hf.ptrD]
  |some cs=>
    obtain ⟨b,base,rc,el',fr,h1,h3,h4,h5⟩:=hv.vptr_inv;refine ⟨_,?_,.bool _⟩
    simp [execOp,h1,h2,eqGuard,binOp,ze4 hf.ptrD]
end
theorem zwq (o:Option (List HVal)):zb (zom o)=[zom o]:=by cases o<;>rfl
theorem zxN (o:Option (List HVal)):zaw (zb (zom o))=true:=by cases o<;>rfl
theorem zBH (o:Option (List HVal)):zdP 1 (zom o)=true:=by cases o<;>rfl
end
end Go.HL
namespace Go.Proofs.YtbmggbfabohegaaGreatDoor
set_option maxRecDepth 100000
set_option linter.unusedVariables false
set_option linter.unusedSimpArgs false
section
open Go.Proofs.Tryz
open Go.HL
theorem zp6 [Tracks] {n d:Int} (hn: -1000000000000000<=n/\n<=1000000000000000) (hd:1<=d/\d<=1000000000000):ConP prog 233 [.agg [.int .i64 n,.int .i64 d]] (.bool (zmt n d)):=by
 refine uOb func233 ntmps233 ?_;refine gz4 ?_;refine uDr mixed ?_;refine gz2 ?_;refine uB 2 rfl (z8 (zcc ty3 zoX rfl) (congrArg (HVal.int .u64) (ztm uO uO))) ?_;refine gz2 ?_;refine uB 5 rfl (z8 (zcc ty3 zoX rfl) (congrArg (HVal.int .u64) (show IntKind.wrap .u64 d=((d.natAbs:Nat):Int) by rw [ztm uO uO,if_neg uO];omega))) ?_;refine gz3 ?_;refine uVj [3,1,11,5] (fun (z0:Unit)=>[(3,.int .u64 ((n.natAbs:Nat):Int))]) (fun (z0:Unit)=>[]) (fun (z0:Unit)=>True) ?_ ?_
 skip
 refine gz5 ?_;refine uCo (fun h1=> ?_) fun h2=> ?_
 refine gz2 ?_;refine dq (z8 (zun rfl) (congrArg (HVal.int .u64) (show IntKind.wrap .u64 (-(if n<0 then n+18446744073709551616 else n))=((n.natAbs:Nat):Int) by rw [if_pos (by assumption),zyG uO uO];omega))) ?_;refine gz2 ?_;exact ⟨(),trivial,⟨rfl,trivial⟩,uK,Ac _⟩;refine gz1 ?_;exact ⟨(),trivial,⟨congrArg (fun q=>some (HVal.int .u64 q)) (show (if n<0 then n+18446744073709551616 else n)=((n.natAbs:Nat):Int) by rw [if_neg uO];omega),trivial⟩,uK,Ac _⟩
 intro z0 _
 refine gz2 ?_;refine uT2 [3,2,16,6] (fun a b=>[(3,.int .u64 ((a:Nat):Int)),(4,.int .u64 ((b:Nat):Int))]) (fun a b=>[]) (fun a b=>Nat.gcd a b=Nat.gcd n.natAbs d.natAbs) (fun a b=>b) (n.natAbs) (d.natAbs) ?_ ?_
 rfl
 intro a b hg
 refine gz5 ?_;refine uCo (fun h3=> ?_) fun h4=> ?_
 have hb0:0<b:=by omega
 refine gz3 ?_;refine zgB mixed ?_;refine gz3 ?_;refine uB 3 rfl (z8 (zcK rfl rfl uO) (congrArg (HVal.int .u64) (zpU a b))) ?_;refine gz4 ?_;refine ⟨b,a%b,?_,?_,⟨rfl,rfl,trivial⟩,uK,Ac _⟩
 exact zn4.trans hg
 dsimp only;exact BQ _ hb0
 obtain rfl:b=0:=by omega
 rw [Nat.gcd_zero_right] at hg;refine gz2 ?_;refine zM ?_;refine gz8 ?_;refine zx rfl ?_
 show HVal.bool _=_
 unfold zmt;rw [<-hg]
 congr 1
 rw [AF]
 simp
 try omega
theorem zp3 [Tracks] {n d most:Int} (hn: -1000000000000000<=n/\n<=1000000000000000) (hd: -1000000000<=d/\d<=1000000000) (hm:0<=most/\most<=1000000):ConP prog 155 [.agg [.int .i64 n,.int .i64 d],.int .i64 most] (.int .i64 (zbm n d most)):=by
 refine uOb func155 ntmps155 ?_;refine zdf ?_;refine dg rfl rfl (fun hc=>by
  have hd1:1<=d:=by (have q:=hc;simp at q;omega)
  exact ⟨_,OpenTo.upd (t:=10) rfl uC (OpenTo.refl _),uCl zAz rfl (zp6 (n:=n) (d:=d) uO uO)⟩) ?_
 refine gz4 ?_;refine uCo (fun h1=> ?_) fun h2=> ?_
 refine gz4 ?_;refine uRp ?_;unfold zbm
 focus first
 |(rw [if_pos uSa];done)
 |(rw [if_neg uSa,if_pos uSa];done)
 |(rw [if_neg uSa,if_neg uSa];done)
 have hd1:1<=d:=by (first|omega|(simp_all;omega))
 have hmd:=zqE (a:=most) (b:=d) (A:=1000000) (B:=1000000000) uO uO uO uO;have hmn: -most*d= -(most*d):=Bq _ _;refine gz3 ?_;refine dq (zcK rfl rfl uO) ?_;refine gz5 ?_;refine uGr rfl (fun hc=>by have hq:=hc;(try simp at hq);exact ziU rfl uO uO) ?_;refine gz2 ?_;refine uGr rfl (fun hc=>by have hq:=hc;(try simp at hq);exact zcs rfl rfl uO uO) ?_;refine gz3 ?_;refine uGr rfl (fun hc=>by have hq:=hc;(try simp at hq);exact zcs rfl rfl uO uO) ?_;refine uGr rfl (fun hc=>uCl zcy rfl zag) ?_;refine gz3 ?_;refine uCo (fun h3=> ?_) fun h4=> ?_
 refine gz4 ?_;refine uRp ?_;unfold zbm
 focus first
 |(rw [if_pos uSa];done)
 |(rw [if_neg uSa,if_pos uSa];done)
 |(rw [if_neg uSa,if_neg uSa];done)
 refine gz7 ?_;refine uRp ?_;unfold zbm
 focus first
 |(rw [if_pos uSa];done)
 |(rw [if_neg uSa,if_pos uSa];done)
 |(rw [if_neg uSa,if_neg uSa];done)
theorem zv8 [Tracks] {x y:Int} (hx:0<=x) (hy:0<=y):ConP prog 246 [.int .i64 x,.int .i64 y] (.int .i64 (zft x y)):=by
 refine uOb func246 ntmps246 ?_;refine gz5 ?_;refine uU2 [0,2,5,6] (fun (a:Int) (b:Int)=>[(0,.int .i64 a),(1,.int .i64 b)]) (fun (a:Int) (b:Int)=>[]) (fun (a:Int) (b:Int)=>0<=a/\0<=b/\zft a b=zft x y) (fun (a:Int) (b:Int)=>b.toNat) (x) (y) ?_ ?_;exact ⟨hx,hy,rfl⟩;rintro a b ⟨ha,hb,hg⟩;refine gz5 ?_;refine uCo (fun h1=> ?_) fun h2=> ?_
 have hbn:b≠0:=by simpa using h1
 have hb0:0<b:=by omega
 have hm0:=Co b ha;have hm1:=BP a hb0;refine gz3 ?_;refine zgB mixed ?_;refine gz3 ?_;refine uB 3 rfl (zcK rfl rfl uO) ?_;refine gz4 ?_;refine ⟨b,a.tmod b,?_,?_,⟨rfl,rfl,trivial⟩,uK,Ac _⟩
 exact ⟨hb,hm0,by rw [zy6 ha hb0];exact hg⟩
 dsimp only;omega
 have hb0:b=0:=by simpa using h2
 subst hb0;rw [zy5 ha] at hg;refine gz2 ?_;refine zM ?_;refine gz7 ?_;refine uRp ?_;rw [<-hg]
theorem zp5 [Tracks] {n d:Int} (hn: -9000000000000000000<=n/\n<=9000000000000000000) (hd:0<d/\d<=9000000000000000000):ConP prog 170 [.int .i64 n,.int .i64 d] (zis (zpM n d)):=by
 refine zba func170 rfl ntmps170 rfl rfl ?_;refine gz1 ?_;refine de rfl (zj zax rfl fun b4=> ?_)
 refine gz4 ?_;refine dq (ziU rfl uO uO) ?_;refine dq (z8 (h':= .int .i64 (max n (-n))) (zoP rfl rfl) (congrArg (HVal.int .i64) zuZ)) ?_;refine gz1 ?_;refine dq (uCl zEo rfl (zv8 (x:=max n (-n)) (y:=d) uO uO)) ?_;refine gz2 ?_;have hgp:=zvr (a:=max n (-n)) hd.1;refine uDr mixed ?_;refine gz2 ?_;refine uB 2 rfl (zdy rfl rfl uO uO uO) ?_;refine gz2 ?_;refine uB 5 rfl (zdy rfl rfl uO uO uO) ?_;refine uB 6 rfl (zG (cs:=[_,_]) zax zle rfl) ?_;refine uF 7 ?_;refine zA (zl zax rfl rfl rfl rfl rfl ?_)
 refine ⟨uE,?_⟩
 refine gz2 ?_;refine ⟨_,_,zm 4 rfl,[_],_,⟨⟨_,_,_,_,_,rfl,zax,.inr ⟨rfl,rfl,rfl⟩⟩,trivial⟩,Weak.refl _,?_,rfl⟩
 rfl
theorem zer [Tracks] {n d:Int} (hd:1<=d/\d<=100) (hw: -1000000000000<=zcz n d/\zcz n d<=1000000000000):ConP prog 61 [.agg [.int .i64 n,.int .i64 d]] (.int .i64 (zcz n d)):=by
 unfold zcz at hw;refine uOb func61 ntmps61 ?_;refine gz4 ?_;refine uDr mixed ?_;refine gz4 ?_;refine uB 4 rfl (zdy rfl rfl uO uO uO) ?_;refine uB 5 rfl (zcs rfl rfl uO uO) ?_;refine gz3 ?_;refine zx rfl ?_
 rfl
theorem zh3 [Tracks] {n:Int} (hn: -1000000000000000<=n/\n<=1000000000000000):ConP prog 84 [.int .i64 n] (zis (ofH n)):=by
 refine zba func84 rfl ntmps84 rfl rfl ?_;refine gz1 ?_;refine de rfl (zj zax rfl fun b2=> ?_)
 refine gz3 ?_;refine dq (uCl zDG rfl (zp5 (n:=n) (d:=100) uO uO)) ?_
 focus first
 |refine de0 (uY 0 ?_)
 |refine de0 (uY 1 ?_)
 |refine de0 (uY 2 ?_)
 |refine de0 (uY 3 ?_)
 refine gz2 ?_;exact ⟨_,_,zm 2 rfl,[_],_,⟨⟨_,_,_,_,_,rfl,zax,.inr ⟨rfl,rfl,rfl⟩⟩,trivial⟩,Weak.refl _,rfl,rfl⟩
theorem zo9 [Tracks] {x:LineS} (hx:LineOk x):ConP prog 240 [zbP x] (.int .i64 0):=by
 have hln:=hx.len;have hky:=hx.ky;have hwk:=hx.wk;refine uOb func240 ntmps240 ?_;refine gz9 ?_;refine dq (uCl zbG rfl zaf) ?_;refine gz3 ?_;refine zW rfl (fun h1=> ?_) (fun h1=> ?_)
 exfalso
 try simp at h1
 simp_all
 try simp at h1
 refine gz3 ?_;refine dq (uCl zmb rfl zcY) ?_;refine gz3 ?_;refine zW rfl (fun h2=> ?_) (fun h2=> ?_)
 exfalso
 try simp at h2
 simp_all
 try simp at h2
 refine gz7 ?_;refine zW rfl (fun h3=> ?_) (fun h3=> ?_)
 exfalso
 try simp at h3
 omega
 try simp at h3
 refine zcj ?_;refine uT1 [2,3,23,30] (fun k=>[(23,.int .i64 k)]) (fun k=>[]) (fun k=>k<=x.Stats.length/\(True)) (fun k=>x.Stats.length-k) (0) ?_ ?_;exact ⟨Ad _,trivial⟩;rintro k ⟨hk,-⟩;refine gz4 ?_;refine uCo (fun h4=> ?_) fun h5=> ?_
 obtain ⟨y,hy⟩: ∃y,x.Stats[k]? =some y:=⟨_,Aa h4⟩
 have hdy:=zi hy;have hat:=hx.at hy;refine gz8 ?_;refine de rfl (zj zcf rfl fun b4=> ?_)
 refine gz1 ?_;refine de0 (zl zcf rfl rfl rfl rfl rfl ?_)
 refine gz1 ?_;refine ze (zm 4 rfl) ?_;refine gz4 ?_;refine dq (uCl zbG rfl zaf) ?_;refine gz3 ?_;refine zW rfl (fun h6=> ?_) (fun h6=> ?_)
 exfalso
 try simp at h6
 have q:=hat.1;simp_all
 try simp at h6
 refine gz3 ?_;refine dq (uCl zcy rfl zag) ?_;refine gz2 ?_;refine zW rfl (fun h7=> ?_) (fun h7=> ?_)
 exfalso
 try simp at h7
 have q:=hat.2.1;simp [out] at h7;omega
 try simp at h7
 refine uDr mixed ?_;refine gz9 ?_;refine uGy 9 rfl rfl (fun hc=>by have hq:=hc;(try simp at hq);exact zB (f:=zbe) (l:=x.Stats) (j:=k-1) (a:=x.Stats.getD (k-1) zdU) zb9 zcf rfl rfl uO (getD_some uO)) ?_;refine gz6 ?_;refine zW rfl (fun h8=> ?_) (fun h8=> ?_)
 exfalso
 try simp at h8
 obtain ⟨q1,q2⟩:=h8;have q3:=hat.2.2 uO
 simp_all
 try simp at h8
 refine gz8 ?_;refine ⟨k+1,?_,?_,⟨rfl,trivial⟩,uK,Ac _⟩
 exact ⟨by omega,trivial⟩
 dsimp only;omega
 have hnk:x.Stats.length<=k:=by omega
 obtain rfl:k=x.Stats.length:=by omega
 refine gz2 ?_;refine zw ?_;refine gz6 ?_;refine zx rfl ?_
 rfl
theorem zsM [Tracks] {R:List RuleS} {pos:List Str} {l:List LineS} (hR:R.length<=1000000) (hb: ∀x∈R,((-1000000000<=x.Num/\x.Num<=1000000000)/\ -1000000000<=x.Den/\x.Den<=1000000000)) (hz:zgx R=0) (hp:zc8 pos=0) (hl:l.length<=1000000) (hxl: ∀x∈l,LineOk x):ConP prog 165 [zfT R,eSs pos,zfb l] (.int .i64 0):=by
 obtain ⟨hp1,hp2⟩:=zyj hp;refine uOb func165 ntmps165 ?_;refine gz6 ?_;refine dq (uCl zAs rfl (ziM (l:=R) hR hb)) ?_;refine gz6 ?_;refine zW rfl (fun h1=> ?_) (fun h1=> ?_)
 ·exfalso
  try simp at h1
  simp_all
 ·try simp at h1
  refine gz8 ?_;refine zW rfl (fun h2=> ?_) (fun h2=> ?_)
  ·exfalso
   try simp at h2
   omega
  ·try simp at h2
   refine gz5 ?_;refine dq (uCl zs3 rfl (zgN (l:=pos) uO)) ?_;refine gz6 ?_;refine zW rfl (fun h3=> ?_) (fun h3=> ?_)
   ·exfalso
    try simp at h3
    simp_all
   ·try simp at h3
    refine gz9 ?_;refine uT1 [6,1,10,2,27,10] (fun k=>[(27,.int .i64 k)]) (fun k=>[]) (fun k=>k<=l.length/\(True)) (fun k=>l.length-k) (0) ?_ ?_
    ·exact ⟨Ad _,trivial⟩
    ·rintro k ⟨hk,-⟩;refine gz4 ?_;refine uCo (fun h4=> ?_) fun h5=> ?_
     ·obtain ⟨x,hx⟩: ∃x,l[k]? =some x:=⟨_,Aa h4⟩
      have hdx:=zi hx;have hx1:=hx;refine gz7 ?_;refine de rfl (zj zbU rfl fun b10=> ?_)
      refine de0 (zl zbU rfl rfl rfl rfl rfl ?_)
      refine gz1 ?_;refine ze (zm 10 rfl) ?_;refine gz1 ?_;refine dq (zai (h:=zbP x) zbU rfl rfl rfl rfl) ?_;refine dq (uCl zEi rfl (zo9 (x:=x) (hxl x (Ab hx)))) ?_;refine gz6 ?_;refine zW rfl (fun h6=> ?_) (fun h6=> ?_)
      ·exfalso
       try simp at h6
       done
      ·try simp at h6
       refine gz7 ?_;refine ⟨k+1,?_,?_,⟨rfl,trivial⟩,uK,Ac _⟩
       ·exact ⟨by omega,trivial⟩
       ·dsimp only;omega
     ·have hnk:l.length<=k:=by omega
      obtain rfl:k=l.length:=by omega
      refine gz2 ?_;refine zw ?_;refine gz6 ?_;refine zx rfl ?_
      rfl
theorem zsN [Tracks] {r:RuleS} {pos:List Str} {x:LineS} (hr:RuleOk r) (hb:zkr x) (hpos:pos.length<=1000000) (hl:x.Stats.length<=1000000):ConP prog 241 [zoI r,eSs pos,zbP x] (.int .i64 (zg8 r pos x)):=by
 obtain ⟨hc1,hc2,hc3⟩:=zrY hr hb;have hrd:=hr.dn;have hrw:=hr.w;refine uOb func241 ntmps241 ?_;refine zel ?_;refine uGr rfl (fun hc=>za (hs:=[_]) zp ty9 rfl rfl (by decide) (by decide) rfl) ?_;refine gz1 ?_;refine uGr rfl (fun hc=>uCl zwf rfl (zi2 (a:=[r.Position]) (b:=pos) (by simp) hpos)) ?_;refine gz3 ?_;refine uCo (fun h1=> ?_) fun h2=> ?_
 refine gz4 ?_;refine uRp ?_;unfold zg8
 focus first|(simp_all;done)|((repeat' split)<;>focus first|rfl|(exfalso;simp_all;done)|(exfalso;omega)|(simp_all;done))
 refine zel ?_;refine uU2 [7,1,9,1,25,12] (fun (k:Nat) (n:Int)=>[(25,.int .i64 k),(7,.int .i64 n)]) (fun (k:Nat) (n:Int)=>[]) (fun (k:Nat) (n:Int)=>k<=x.Stats.length/\(zdd r.Stat 0 x.Stats=zdd r.Stat n (x.Stats.drop k))) (fun (k:Nat) (n:Int)=>x.Stats.length-k) (0) (0) ?_ ?_;exact ⟨Ad _,rfl⟩;rintro k n ⟨hk,hg⟩;refine gz4 ?_;refine uCo (fun h3=> ?_) fun h4=> ?_
 obtain ⟨y,hy⟩: ∃y,x.Stats[k]? =some y:=⟨_,Aa h3⟩
 have hdy:=zi hy;rw [zxC hy] at hg;refine gz7 ?_;refine de rfl (zj zcf rfl fun b9=> ?_)
 refine de0 (zl zcf rfl rfl rfl rfl rfl ?_)
 refine gz1 ?_;refine ze (zm 9 rfl) ?_;refine gz7 ?_;refine uCo (fun h5=> ?_) fun h6=> ?_
 refine zcj ?_;exact ⟨k+1,y.Count,⟨by omega,by rw [hg,if_pos (by assumption)]⟩,uD,⟨rfl,rfl,trivial⟩,uK,Ac _⟩;refine gz7 ?_;exact ⟨k+1,n,⟨by omega,by rw [hg,if_neg (by assumption)]⟩,uD,⟨rfl,rfl,trivial⟩,uK,Ac _⟩;have hnk:x.Stats.length<=k:=by omega
 obtain rfl:k=x.Stats.length:=by omega
 rw [zI (Ae _)] at hg
 replace hg:zdd r.Stat 0 x.Stats=n:=hg
 subst hg;refine gz2 ?_;refine zM ?_;refine gz4 ?_;refine dq (z8 (h':= .agg [.int .i64 r.Num,.int .i64 r.Den]) (zaS zax rfl rfl (An rfl)) rfl) ?_;refine dq (uCl zwo rfl (zer (n:=r.Num) (d:=r.Den) hrd uO)) ?_;refine zaz ?_;refine uCo (fun h7=> ?_) fun h8=> ?_
 refine gz3 ?_;refine dq (zcs rfl rfl uO uO) ?_;refine gz3 ?_;refine uRp ?_;unfold zg8
 focus first|(simp_all;done)|((repeat' split)<;>focus first|rfl|(exfalso;simp_all;done)|(exfalso;omega)|(simp_all;done))
 refine gz6 ?_;refine uCo (fun h9=> ?_) fun h10=> ?_
 have hmm:=hr.mm uSa;obtain ⟨hc4,hc5⟩:=hc3 uSa;refine gz3 ?_;refine dq (z8 (h':= .int .i64 (max (zdd r.Stat 0 x.Stats) 0)) (zoP rfl rfl) (congrArg (HVal.int .i64) zzq)) ?_;refine gz2 ?_;refine dq (zdy rfl rfl uO uO uO) ?_;refine dq (zcs rfl rfl uO uO) ?_;refine gz3 ?_;refine uRp ?_;unfold zg8
 focus first|(simp_all;done)|((repeat' split)<;>focus first|rfl|(exfalso;simp_all;done)|(exfalso;omega)|(simp_all;done))
 refine zel ?_;refine uCo (fun h11=> ?_) fun h12=> ?_
 refine gz2 ?_;refine uCo (fun h13=> ?_) fun h14=> ?_
 refine gz5 ?_;refine uRp ?_;unfold zg8
 focus first|(simp_all;done)|((repeat' split)<;>focus first|rfl|(exfalso;simp_all;done)|(exfalso;omega)|(simp_all;done))
 refine gz7 ?_;refine uRp ?_;unfold zg8
 focus first|(simp_all;done)|((repeat' split)<;>focus first|rfl|(exfalso;simp_all;done)|(exfalso;omega)|(simp_all;done))
 refine zcj ?_;refine uCo (fun h15=> ?_) fun h16=> ?_
 refine gz5 ?_;refine uRp ?_;unfold zg8
 focus first|(simp_all;done)|((repeat' split)<;>focus first|rfl|(exfalso;simp_all;done)|(exfalso;omega)|(simp_all;done))
 refine gz7 ?_;refine uRp ?_;unfold zg8
 focus first|(simp_all;done)|((repeat' split)<;>focus first|rfl|(exfalso;simp_all;done)|(exfalso;omega)|(simp_all;done))
theorem zri [Tracks] {R:List RuleS} {pos:List Str} {x:LineS} (hl:R.length<=100) (hrr: ∀r∈R,RuleOk r) (hb:zkr x) (hpos:pos.length<=1000000) (hs:x.Stats.length<=1000000):ConP prog 166 [zfT R,eSs pos,zbP x] (.int .i64 (zha R pos x)):=by
 refine uOb func166 ntmps166 ?_;refine zdg ?_;refine uT1 [7,1,9,1,12,11] (fun k=>[(12,.int .i64 k),(7,.int .i64 (zha (R.take k) pos x))]) (fun k=>[]) (fun k=>k<=R.length/\(True)) (fun k=>R.length-k) (0) ?_ ?_;exact ⟨Ad _,trivial⟩;rintro k ⟨hk,-⟩;refine gz4 ?_;refine uCo (fun h1=> ?_) fun h2=> ?_
 obtain ⟨r,hr⟩: ∃r,R[k]? =some r:=⟨_,Aa h1⟩
 have hdr:=zi hr;have hp1:=zqP hl hrr hb pos k;have hp2:=zqP hl hrr hb pos (k+1);rw [zuo hr] at hp2;refine gz7 ?_;refine de rfl (zj zgq rfl fun b9=> ?_)
 refine de0 (zl zgq rfl rfl rfl rfl rfl ?_)
 refine gz1 ?_;refine ze (zm 9 rfl) ?_;refine gz2 ?_;refine dq (zai (h:=zoI r) zgq rfl rfl rfl rfl) ?_;refine gz1 ?_;refine dq (zai (h:=zbP x) zbU rfl rfl rfl rfl) ?_;refine dq (uCl zEj rfl (zsN (r:=r) (pos:=pos) (x:=x) (hrr r (Ab hr)) hb hpos hs)) ?_;refine gz9 ?_;exact ⟨k+1,⟨by omega,trivial⟩,uD,⟨rfl,by rw [zuo hr];rfl,trivial⟩,uK,Ac _⟩;have hnk:R.length<=k:=by omega
 obtain rfl:k=R.length:=by omega
 rw [Ak];refine gz2 ?_;refine zw ?_;refine gz7 ?_;refine zx rfl ?_
 rfl
theorem zrf [Tracks] {R:List RuleS} {pos:List Str} {x:LineS} (hR:R.length<=1000000) (hb: ∀x∈R,((-1000000000<=x.Num/\x.Num<=1000000000)/\ -1000000000<=x.Den/\x.Den<=1000000000)) (hz:zgx R=0) (hp:zc8 pos=0) (hx:LineOk x):ConP prog 82 [zfT R,eSs pos,zbP x] (.tup [zis (ofH (zha R pos x)),.int .i64 0]):=by
 obtain ⟨hp1,hp2⟩:=zyj hp;obtain ⟨hr1,hr2⟩:=zys hz;have hbd:=zqP hr1 hr2 hx.sb pos R.length;rw [Ak] at hbd;have hsl:=hx.len;refine zba func82 rfl ntmps82 rfl rfl ?_;refine gz2 ?_;refine de rfl (zj zax rfl fun b6=> ?_)
 refine gz6 ?_;refine dq (zai (h:=zbP x) zbU rfl rfl rfl rfl) ?_;refine dq (za (hs:=[zbP x]) zmJ zbU rfl rfl (by decide) (by decide) rfl) ?_;refine dq (uCl zDE rfl (zsM (R:=R) (pos:=pos) (l:=[x]) hR hb hz hp (by simp) (fun y hy=>by rw [List.mem_singleton.1 hy];exact hx))) ?_;refine gz6 ?_;refine zW rfl (fun h1=> ?_) (fun h1=> ?_)
 ·exfalso
  try simp at h1
  done
 ·try simp at h1
  refine gz5 ?_;refine dq (zai (h:=zbP x) zbU rfl rfl rfl rfl) ?_;refine dq (uCl zDF rfl (zri (R:=R) (pos:=pos) (x:=x) hr1 hr2 hx.sb uO uO)) ?_;refine dq (uCl ca84 rfl (zh3 (n:=zha R pos x) uO)) ?_;refine de0 (zl (h:=zis (ofH (zha R pos x))) zax rfl rfl rfl rfl rfl ?_)
  refine gz3 ?_;exact ⟨_,_,zm 6 rfl,[_,_],_,⟨⟨_,_,_,_,_,rfl,zax,.inr ⟨rfl,rfl,rfl⟩⟩,⟨rfl,trivial⟩⟩,Weak.refl _,rfl,rfl⟩
theorem zg3 [Tracks] {l:List ScorerS} {s:Str} {fid:FuncId} (hca:Callable prog fid) (hp: ∀x:ScorerS,ConP prog fid [zcr x,.str s] (.int .i64 (zV x.Player s))) (hl:l.length<=1000000) (hs:SortedS (l.map (·.Player))):ConP prog 243 [ze0 l,.str s,.fn (.func fid) [] []] (.tup [.int .i64 (zcd (l.map (·.Player)) s),.bool ((l.map (·.Player)).contains s)]):=by
 have hLl:(l.map (·.Player)).length=l.length:=Ag _;refine uOb func243 ntmps243 ?_;refine zpF ?_;refine uT2 [9,3,15,20] (fun i j=>[(9,.int .i64 i),(10,.int .i64 j)]) (fun i j=>[]) (fun i j=>i<=j/\j<=(l.map (·.Player)).length/\(∀(k:Nat) (x:Str),k<i->(l.map (·.Player))[k]? =some x->Op.bytesLess x s=true)/\(∀(k:Nat) (x:Str),j<=k->(l.map (·.Player))[k]? =some x->Op.bytesLess x s=false)) (fun i j=>j-i) (0) (l.length) ?_ ?_;exact ⟨Ad _,by rw [hLl];exact Ae _,fun k x h=>by omega,fun k x h1 h2=>by have:=zo h2;omega⟩;rintro i j ⟨hij,hjl,ha,hb⟩;rw [hLl] at hjl;refine gz6 ?_;refine uCo (fun h1=> ?_) fun h2=> ?_
 obtain ⟨x,hx⟩: ∃x,l[(i+j)/2]? =some x:=⟨_,Aa uO⟩
 have hxL:(l.map (·.Player))[(i+j)/2]? =some x.Player:=by rw [Ah,hx];rfl
 have hm:(i+j)/2<j/\i<=(i+j)/2:=by omega
 refine gz7 ?_;refine dq (zcc ty3 zkL rfl) ?_;refine dq (zrB rfl rfl uO) ?_;refine dq (z8 (zcc zkL ty3 rfl) (zud (i:=i) (j:=j) uO)) ?_;refine gz6 ?_;refine dq (zB (j:=(i+j)/2) (a:=x) zkf zen rfl rfl rfl hx) ?_;refine gz2 ?_;refine dq (zao hca rfl rfl (WeakL.refl _) (hp _)) ?_;refine gz2 ?_;refine uCo (fun h3=> ?_) fun h4=> ?_
 refine gz6 ?_;exact ⟨(i+j)/2+1,j,⟨by omega,by rw [hLl];exact hjl,zv3 hs hxL (zhp.1 h3),hb⟩,uD,⟨rfl,rfl,trivial⟩,uK,Ac _⟩;refine gz5 ?_;exact ⟨i,(i+j)/2,⟨by omega,by omega,ha,zsZ hs hxL (by have q:=fun e=>(show ¬zV x.Player s<0 by omega) (zhp.2 e);simpa using q)⟩,uD,⟨rfl,rfl,trivial⟩,uK,Ac _⟩;obtain rfl:i=j:=by omega
 have hjl2:i<=(l.map (·.Player)).length:=by rw [hLl];exact hjl
 refine gz2 ?_;refine zM ?_;refine zcj ?_;refine uGr rfl (fun hc=>by have hq:=hc;(try simp at hq);exact zB (j:=i) (a:=l.getD i zcv) zkf zen rfl rfl rfl (getD_some uO)) ?_;refine gz2 ?_;refine uGr rfl (fun hc=>zao hca rfl rfl (WeakL.refl _) (hp _)) ?_;refine gz6 ?_;refine zx rfl ?_;rw [zlC hjl2 ha hb,<-zpD hs hjl2 ha hb,<-zxv]
theorem zrg [Tracks] {x:ScorerS} {s:Str}:ConP prog 244 [zcr x,.str s] (.int .i64 (zV x.Player s)):=by
 refine uOb func244 ntmps244 ?_;refine gz8 ?_;refine dq (uCl zce rfl zL) ?_;refine gz3 ?_;refine zx rfl ?_
 rfl
theorem znG [Tracks] {l:List ScorerS} {s:Str} (hl:l.length<=1000000) (hs:SortedS (l.map (·.Player))):ConP prog 168 [ze0 l,.str s] (.int .i64 (zfB (l.map (·.Player)) s)):=by
 refine uOb func168 ntmps168 ?_;refine gz6 ?_;refine dq (uCl zEl rfl (zg3 (l:=l) zEm (fun _=>zrg) hl hs)) ?_;refine zcj ?_;refine uCo (fun h1=> ?_) fun h2=> ?_
 refine gz4 ?_;refine uRp ?_;unfold zfB
 simp_all
 refine gz7 ?_;refine uRp ?_;unfold zfB
 simp_all
theorem zhD [Tracks] {l:List ScorerS} (hl:l.length<=1000000) (hp: ∀x∈l,x.Positions.length<=1000000) (hb: ∀x∈l,(-1000000000000000<=x.Num/\x.Num<=1000000000000000)/\ -1000000000<=x.Den/\x.Den<=1000000000):ConP prog 72 [ze0 l] (.int .i64 (zil l)):=by
 refine uOb func72 ntmps72 ?_;refine gz9 ?_;refine uCo (fun h1=> ?_) fun h2=> ?_
 refine gz4 ?_;refine uRp ?_
 focus first
 | (refine congrArg _ (zbJ ?_)
    omega)
 | (refine congrArg _ (zbB ?_ hg)
    omega)
 | (refine congrArg _ (zy (e:=5) ?_ hg ?_ ?_)
    omega
    unfold zbI;exact uT
    first|decide|assumption)
 | (refine congrArg _ (zy (e:=7) ?_ hg ?_ ?_)
    omega
    unfold zbI;exact uT
    first|decide|assumption)
 | (refine congrArg _ (zy (e:=(orI [zc8 x.Positions,zbm x.Num x.Den 10000])) ?_ hg ?_ ?_)
    omega
    unfold zbI;exact uT
    first|decide|assumption)
 refine gz9 ?_;refine uT1 [2,4,11,36] (fun k=>[(11,.int .i64 k)]) (fun k=>[]) (fun k=>k<=l.length/\(zaX zbI zcv l 0 l=zaX zbI zcv l k (l.drop k))) (fun k=>l.length-k) (0) ?_ ?_;exact ⟨Ad _,rfl⟩;rintro k ⟨hk,hg⟩;refine gz4 ?_;refine uCo (fun h3=> ?_) fun h4=> ?_
 obtain ⟨x,hx⟩: ∃x,l[k]? =some x:=⟨_,Aa h3⟩
 have hdx:=zi hx;rw [hdx] at hg;refine gz8 ?_;refine de rfl (zj zen rfl fun b4=> ?_)
 refine gz1 ?_;refine de0 (zl zen rfl rfl rfl rfl rfl ?_)
 refine gz1 ?_;refine ze (zm 4 rfl) ?_;refine gz5 ?_;refine dq (uCl zbG rfl zaf) ?_;refine gz3 ?_;refine uCo (fun h5=> ?_) fun h6=> ?_
 refine gz4 ?_;refine uRp ?_
 focus first
 | (refine congrArg _ (zbJ ?_)
    omega)
 | (refine congrArg _ (zbB ?_ hg)
    omega)
 | (refine congrArg _ (zy (e:=5) ?_ hg ?_ ?_)
    omega
    unfold zbI;exact uT
    first|decide|assumption)
 | (refine congrArg _ (zy (e:=7) ?_ hg ?_ ?_)
    omega
    unfold zbI;exact uT
    first|decide|assumption)
 | (refine congrArg _ (zy (e:=(orI [zc8 x.Positions,zbm x.Num x.Den 10000])) ?_ hg ?_ ?_)
    omega
    unfold zbI;exact uT
    first|decide|assumption)
 refine uDr mixed ?_;refine gz8 ?_;refine uGy 8 rfl rfl (fun hc=>by have hq:=hc;(try simp at hq);exact zB (j:=k-1) (a:=l.getD (k-1) zcv) zkf zen rfl rfl uO (getD_some uO)) ?_;refine gz6 ?_;refine uCo (fun h7=> ?_) fun h8=> ?_
 refine gz4 ?_;refine uRp ?_
 focus first
 | (refine congrArg _ (zbJ ?_)
    omega)
 | (refine congrArg _ (zbB ?_ hg)
    omega)
 | (refine congrArg _ (zy (e:=5) ?_ hg ?_ ?_)
    omega
    unfold zbI;exact uT
    first|decide|assumption)
 | (refine congrArg _ (zy (e:=7) ?_ hg ?_ ?_)
    omega
    unfold zbI;exact uT
    first|decide|assumption)
 | (refine congrArg _ (zy (e:=(orI [zc8 x.Positions,zbm x.Num x.Den 10000])) ?_ hg ?_ ?_)
    omega
    unfold zbI;exact uT
    first|decide|assumption)
 refine gz3 ?_;refine uDr mixed ?_;refine gz2 ?_;refine uB 2 rfl (uCl zwe rfl (zgX (hp x (Ab hx)))) ?_;refine gz1 ?_;refine uB 4 rfl (z8 (h':= .agg [.int .i64 x.Num,.int .i64 x.Den]) (zaS zax rfl rfl (An rfl)) rfl) ?_;refine uB 5 rfl (uCl zs2 rfl (zp3 (n:=x.Num) (d:=x.Den) (most:=10000) (hb x (Ab hx)).1 (hb x (Ab hx)).2 uO)) ?_;refine uB 6 rfl (za (hs:=[_,_]) zeh zgA rfl rfl (by decide) (by decide) rfl) ?_;refine uB 7 rfl (uCl zk5 rfl (zch (l:=[_,_]) (by simp))) ?_;refine gz6 ?_;refine uCo (fun h9=> ?_) fun h10=> ?_
 refine gz5 ?_;refine uRp ?_
 focus first
 | (refine congrArg _ (zbJ ?_)
    omega)
 | (refine congrArg _ (zbB ?_ hg)
    omega)
 | (refine congrArg _ (zy (e:=5) ?_ hg ?_ ?_)
    omega
    unfold zbI;exact uT
    first|decide|assumption)
 | (refine congrArg _ (zy (e:=7) ?_ hg ?_ ?_)
    omega
    unfold zbI;exact uT
    first|decide|assumption)
 | (refine congrArg _ (zy (e:=(orI [zc8 x.Positions,zbm x.Num x.Den 10000])) ?_ hg ?_ ?_)
    omega
    unfold zbI;exact uT
    first|decide|assumption)
 refine gz7 ?_;refine ⟨k+1,?_,?_,⟨rfl,trivial⟩,uK,Ac _⟩
 refine ⟨by omega,?_⟩
 rw [hg,zaV (by unfold zbI;(try clear hdx hg);(try simp only [Af]);focus first|(simp_all;done)|((repeat' split)<;>focus first|rfl|(exfalso;omega)|(simp_all;done)|(exfalso;rcases ‹_\/_› with q|q<;>simp_all;done)|(exfalso;simp_all;omega)))]
 dsimp only;omega
 have hnk:l.length<=k:=by omega
 obtain rfl:k=l.length:=by omega
 rw [zI (Ae _)] at hg;refine gz2 ?_;refine zw ?_;refine gz6 ?_;refine uRp ?_
 focus first
 | (refine congrArg _ (zbJ ?_)
    omega)
 | (refine congrArg _ (zbB ?_ hg)
    omega)
 | (refine congrArg _ (zy (e:=5) ?_ hg ?_ ?_)
    omega
    unfold zbI;exact uT
    first|decide|assumption)
 | (refine congrArg _ (zy (e:=7) ?_ hg ?_ ?_)
    omega
    unfold zbI;exact uT
    first|decide|assumption)
 | (refine congrArg _ (zy (e:=(orI [zc8 x.Positions,zbm x.Num x.Den 10000])) ?_ hg ?_ ?_)
    omega
    unfold zbI;exact uT
    first|decide|assumption)
theorem zfL [Tracks] {l:List FillS} {fid:FuncId} {caps:List HVal} {p:FillS->Bool} (hca:Callable prog fid) (hp: ∀x,ConP prog fid ([zb0 x]++caps) (.bool (p x))) (hl:l.length<=1000000):ConP prog 158 [.slice 2 (l.map zb0),.fn (.func fid) [] caps] (.int .i64 (zT p l 0)):=by
 refine uOb func158 ntmps158 ?_;refine zaz ?_;refine uT1 [4,2,8,11] (fun k=>[(8,.int .i64 k)]) (fun k=>[]) (fun k=>k<=l.length/\(zT p l 0=zT p (l.drop k) k)) (fun k=>l.length-k) (0) ?_ ?_;exact ⟨Ad _,rfl⟩;rintro k ⟨hk,hg⟩;refine gz4 ?_;refine uCo (fun h1=> ?_) fun h2=> ?_
 obtain ⟨x,hx⟩: ∃x,l[k]? =some x:=⟨_,Aa h1⟩
 have hdx:=zi hx;rw [hdx] at hg;refine zdg ?_;refine dq (zao hca rfl rfl (WeakL.refl _) (hp _)) ?_;refine gz1 ?_;refine uCo (fun h3=> ?_) fun h4=> ?_
 refine gz5 ?_;refine uRp ?_
 first|(rw [hg];rfl)|(rw [hg];simp_all [zT])
 refine gz7 ?_;refine ⟨k+1,?_,?_,⟨rfl,trivial⟩,uK,Ac _⟩
 refine ⟨by omega,?_⟩
 rw [hg,zT,if_neg uSa];rfl
 dsimp only;omega
 have hnk:l.length<=k:=by omega
 obtain rfl:k=l.length:=by omega
 rw [zI (Ae _)] at hg;refine gz2 ?_;refine zw ?_;refine gz6 ?_;refine uRp ?_
 first|(rw [hg];rfl)|(rw [hg];simp_all [zT])
theorem zcL [Tracks] {l:List FillS} {fid:FuncId} {caps:List HVal} {p:FillS->Bool} (hca:Callable prog fid) (hp: ∀x,ConP prog fid ([zb0 x]++caps) (.bool (p x))) (hl:l.length<=1000000):ConP prog 75 [.slice 2 (l.map zb0),.fn (.func fid) [] caps] (.bool (l.any p)):=by
 refine uOb func75 ntmps75 ?_;refine gz6 ?_;refine dq (uCl zDy rfl (zfL hca hp hl)) ?_;refine gz4 ?_;refine zx rfl ?_
 congr 1;exact zc1 p l 0 uO
theorem zeY [Tracks] {l:List ScorerS} {fid:FuncId} {caps:List HVal} {p:ScorerS->Bool} (hca:Callable prog fid) (hp: ∀x,ConP prog fid ([zcr x]++caps) (.bool (p x))) (hl:l.length<=1000000):ConP prog 36 [.slice 5 (l.map zcr),.fn (.func fid) [] caps] (.int .i64 (zT p l 0)):=by
 refine uOb func36 ntmps36 ?_;refine zaz ?_;refine uT1 [4,2,8,11] (fun k=>[(8,.int .i64 k)]) (fun k=>[]) (fun k=>k<=l.length/\(zT p l 0=zT p (l.drop k) k)) (fun k=>l.length-k) (0) ?_ ?_;exact ⟨Ad _,rfl⟩;rintro k ⟨hk,hg⟩;refine gz4 ?_;refine uCo (fun h1=> ?_) fun h2=> ?_
 obtain ⟨x,hx⟩: ∃x,l[k]? =some x:=⟨_,Aa h1⟩
 have hdx:=zi hx;rw [hdx] at hg;refine zdg ?_;refine dq (zao hca rfl rfl (WeakL.refl _) (hp _)) ?_;refine gz1 ?_;refine uCo (fun h3=> ?_) fun h4=> ?_
 refine gz5 ?_;refine uRp ?_
 first|(rw [hg];rfl)|(rw [hg];simp_all [zT])
 refine gz7 ?_;refine ⟨k+1,?_,?_,⟨rfl,trivial⟩,uK,Ac _⟩
 refine ⟨by omega,?_⟩
 rw [hg,zT,if_neg uSa];rfl
 dsimp only;omega
 have hnk:l.length<=k:=by omega
 obtain rfl:k=l.length:=by omega
 rw [zI (Ae _)] at hg;refine gz2 ?_;refine zw ?_;refine gz6 ?_;refine uRp ?_
 first|(rw [hg];rfl)|(rw [hg];simp_all [zT])
theorem zfN [Tracks] {l:List LineS} {fid:FuncId} {caps:List HVal} {p:LineS->Bool} (hca:Callable prog fid) (hp: ∀x,ConP prog fid ([zbP x]++caps) (.bool (p x))) (hl:l.length<=1000000):ConP prog 80 [.slice 3 (l.map zbP),.fn (.func fid) [] caps] (.int .i64 (zT p l 0)):=by
 refine uOb func80 ntmps80 ?_;refine zaz ?_;refine uT1 [4,2,8,11] (fun k=>[(8,.int .i64 k)]) (fun k=>[]) (fun k=>k<=l.length/\(zT p l 0=zT p (l.drop k) k)) (fun k=>l.length-k) (0) ?_ ?_;exact ⟨Ad _,rfl⟩;rintro k ⟨hk,hg⟩;refine gz4 ?_;refine uCo (fun h1=> ?_) fun h2=> ?_
 obtain ⟨x,hx⟩: ∃x,l[k]? =some x:=⟨_,Aa h1⟩
 have hdx:=zi hx;rw [hdx] at hg;refine zdg ?_;refine dq (zao hca rfl rfl (WeakL.refl _) (hp _)) ?_;refine gz1 ?_;refine uCo (fun h3=> ?_) fun h4=> ?_
 refine gz5 ?_;refine uRp ?_
 first|(rw [hg];rfl)|(rw [hg];simp_all [zT])
 refine gz7 ?_;refine ⟨k+1,?_,?_,⟨rfl,trivial⟩,uK,Ac _⟩
 refine ⟨by omega,?_⟩
 rw [hg,zT,if_neg uSa];rfl
 dsimp only;omega
 have hnk:l.length<=k:=by omega
 obtain rfl:k=l.length:=by omega
 rw [zI (Ae _)] at hg;refine gz2 ?_;refine zw ?_;refine gz6 ?_;refine uRp ?_
 first|(rw [hg];rfl)|(rw [hg];simp_all [zT])
theorem zrh [Tracks] {x:FillS} {s:Str}:ConP prog 245 [zb0 x,.vptr [.str s] 0] (.bool (x.Player==s)):=by
 refine uOb func245 ntmps245 ?_;refine zdf ?_;refine zx rfl ?_
 rfl
theorem znH [Tracks] {f:List FillS} {s:Str} (hf:f.length<=1000000):ConP prog 169 [zlw f,.str s] (.bool (f.any fun x=>x.Player==s)):=by
 refine uOb func169 ntmps169 ?_;refine gz7 ?_;refine dq (uCl ca75 rfl (zcL (l:=f) (p:=fun x=>x.Player==s) zEn (fun _=>zrh) hf)) ?_;refine gz3 ?_;refine zx rfl ?_
 rfl
end
end Go.Proofs.YtbmggbfabohegaaGreatDoor
namespace Go.HL
section
open Go Op
structure BookX (b:BookS):Prop where
 w:BookW b
 gm: ∀x∈b.League.Games,za1 x.Week=true/\b.League.Teams.contains x.Home=true/\b.League.Teams.contains x.Away=true/\x.Played=false
 st:0<=b.League.Start/\b.League.Start+36288000000<=345686400000
 ru:zgx b.League.Rules=0
 sl:zdr b.League.Slots=0
 pl:zca b.Plays=0
 tr:zcb b.League.Trust=0
 me:zbE b.Mends=0
 po: ∀p∈b.League.Players,zc8 p.Positions=0
theorem ztC {b:BookS} (h:zdl b=0):BookX b:=by
 obtain ⟨h1,h2⟩:=ztD h;have h3:=zgT (ztb h1);have hW:=zCc h;unfold zcA at h1;rw [if_neg (fun q=>q (ztb h1))] at h1
 split at h1
 cases h1
 rename_i hp
 split at h1
 rename_i q;exact absurd h1 q
 rename_i h4
 split at h1
 cases h1
 rename_i h5
 rw [not_or] at h5;have h6:zdX b.League.Teams b.League.Games=0:=h3 _ (by simp);have h7:zdY 1000 (zb3 b.League.Teams) zdT b.League.Games=0:=by
  unfold zdX at h6
  split at h6
  rename_i q;exact absurd h6 q
  unfold zdM at h6
  split at h6
  rename_i q;exact absurd h6 q
  rename_i q
  exact Decidable.not_not.1 q
 obtain ⟨_,h8⟩:=zfm h7;have h9:=zgT (l:=[zh9 b.League.Breaks,zcb b.League.Trust]) (Decidable.not_not.1 h4);refine ⟨hW,fun x hx=> ?_,?_,h3 _ (by simp),h3 _ (by simp),zgT h2 _ (by simp),h9 _ (by simp),zgT h2 _ (by simp),fun p hp=> ?_⟩
 obtain ⟨i,hi,rfl⟩:=AS hx;have h10:=h8 i _ (Aa hi);unfold zb3 at h10
 split at h10
 cases h10
 rename_i a1
 split at h10
 cases h10
 rename_i a2
 rw [not_or] at a2;refine ⟨by simpa using a1,by simpa using a2.1,by simpa using a2.2,?_⟩
 have:zcW b.League.Games=false:=by simpa using hp
 unfold zcW at this;have:=List.any_eq_false.1 this _ hx
 simpa using this
 have:zU b.League.Start=true:=by simpa using h5.1
 unfold zU out at this
 simp at this
 omega
 obtain ⟨i,hi,rfl⟩:=AS hp;have h10:=(zfm hW.py).2 i _ (Aa hi);unfold zcJ at h10
 split at h10
 cases h10
 split at h10
 cases h10
 exact h10
theorem zxr {b:BookS} (h:BookX b) {w:Int} (hw:za1 w=true):zU (za9 b.League w)=true/\0<=za9 b.League w/\za9 b.League w<=345686400000/\za9 b.League (w+1)<=345686400000/\za9 b.League (w+1)=za9 b.League w+604800000:=by
 have h1:=h.st;have h2:1<=w/\w<=60:=by unfold za1 out at hw;simp at hw;omega
 have h3:0<=za9 b.League w/\za9 b.League w+604800000<=345686400000:=by unfold za9;omega
 refine ⟨?_,by omega,by omega,?_,?_⟩
 unfold zU out;simp;omega;unfold za9;omega;unfold za9;omega
/-! the lines of a week,and scorers-/
abbrev wlL (b:BookS) (w n:Int):List LineS:=knL b.Plays b.League.Trust (zf3 b.Mends w) w n
abbrev wlE (b:BookS) (w n:Int):Int:=zhN b.Plays b.League.Trust w n
def zlg (g:LeagueS) (L:List LineS) (s:Str):Option ScorerS:=
 match plO g.Players s with
 |none=>none
 |some p=>match L.find? (fun x=>x.Player==s) with
   |none=>some ⟨s,p.Positions,0,1,false⟩
   |some x=>some ⟨s,p.Positions,(ofH (zha g.Rules p.Positions x)).Num,(ofH (zha g.Rules p.Positions x)).Den,true⟩
def zkd (g:LeagueS) (L:List LineS) (own:List Str):List ScorerS:=own.filterMap (zlg g L)
theorem zpR {g:LeagueS} {L:List LineS} {own:List Str} {k:Nat} {s:Str} (h:own[k]? =some s):zkd g L (own.take (k+1))=zkd g L (own.take k)++(zlg g L s).toList:=by
 unfold zkd;rw [z6 h,List.filterMap_append]
 cases e:zlg g L s<;>simp [e]
theorem zoS (g:LeagueS) (L:List LineS) (own:List Str):(zkd g L own).length<=own.length:=List.length_filterMap_le _ _
theorem zCJ {L:List PlayerS} {s:Str} (h: ∃x,x∈L/\x.Key=s): ∃p,plO L s=some p:=by
 obtain ⟨x,hx,e⟩:=h
 cases hq:plO L s with
 |none=>have:=List.find?_eq_none.1 hq x hx;simp [e] at this
 |some p=>exact ⟨p,rfl⟩
theorem zuu {g:LeagueS} {L:List LineS} {s:Str} (h:plO g.Players s=none):zlg g L s=none:=by unfold zlg;rw [h]
theorem zlH {g:LeagueS} {L:List LineS} {s:Str} {p:PlayerS} (h:plO g.Players s=some p) (h2:L.find? (fun x=>x.Player==s)=none):zlg g L s=some ⟨s,p.Positions,0,1,false⟩:=by
 unfold zlg;rw [h];dsimp only;rw [h2]
theorem zlI {g:LeagueS} {L:List LineS} {s:Str} {p:PlayerS} {x:LineS} (h:plO g.Players s=some p) (h2:L.find? (fun x=>x.Player==s)=some x):
 zlg g L s=some ⟨s,p.Positions,(ofH (zha g.Rules p.Positions x)).Num,(ofH (zha g.Rules p.Positions x)).Den,true⟩:=by
 unfold zlg;rw [h];dsimp only;rw [h2]
theorem zt4 {l:List Play} {t:List Str} {w n:Int} (h1:zca l=0) (h2:zcb t=0) (h3:za1 w=true) (h4:zU n=true):ziB l t w n=zdO l t w n/\ziA l t w n=zhN l t w n:=by
 have e:orI [zca l,zcb t]=0:=by rw [zdZ,h1,h2];rfl
 unfold ziB ziA;rw [e,h3,h4];exact ⟨rfl,rfl⟩
theorem zsf {l:List LineS} {m:List MendS} {n:Int} (h1:zaA l=0) (h2:zbE m=0) (h3:zU n=true):zd2 l m n=mdL l m n/\zd1 l m n=0:=by
 have e:orI [zaA l,zbE m]=0:=by rw [zdZ,h1,h2];rfl
 unfold zd2 zd1;rw [e,h3];exact ⟨rfl,rfl⟩
theorem zCN {g:LeagueS} {L:List LineS} {s:Str} {p:PlayerS} (h:plO g.Players s=some p): ∃sc,zlg g L s=some sc:=by
 cases hq:L.find? (fun x=>x.Player==s) with
 |none=>exact ⟨_,zlH h hq⟩
 |some x=>exact ⟨_,zlI h hq⟩
theorem zyv {g:LeagueS} {L:List LineS} {own:List Str} (hr:zgx g.Rules=0) (hL: ∀x∈L,zkr x): ∀y∈zkd g L own,(-1000000000000000<=y.Num/\y.Num<=1000000000000000)/\ -1000000000<=y.Den/\y.Den<=1000000000:=by
 intro y hy
 obtain ⟨s,_,he⟩:=List.mem_filterMap.1 hy;obtain ⟨r1,r2⟩:=zys hr
 cases hp:plO g.Players s with
 |none=>rw [zuu hp] at he;cases he
 |some p=>
   cases hq:L.find? (fun x=>x.Player==s) with
   |none=>rw [zlH hp hq] at he;cases he;dsimp only;omega
   |some x=>
     rw [zlI hp hq] at he
     cases he
     have h1:=zqP r1 r2 (hL x (Bp hq)) p.Positions g.Rules.length;rw [Ak] at h1;have h2:=zye h1
     dsimp only
     omega
theorem zvS {g:LeagueS} {L:List LineS} {own:List Str} (hp: ∀p∈g.Players,p.Positions.length<=1000000): ∀y∈zkd g L own,y.Positions.length<=1000000:=by
 intro y hy
 obtain ⟨s,_,he⟩:=List.mem_filterMap.1 hy
 cases hq:plO g.Players s with
 |none=>rw [zuu hq] at he;cases he
 |some p=>
   have hm:=hp p (Bp hq)
   cases hl:L.find? (fun x=>x.Player==s) with
   |none=>rw [zlH hq hl] at he;cases he;exact hm
   |some x=>rw [zlI hq hl] at he;cases he;exact hm
abbrev zfu (b:BookS) (t:Str) (w:Int):List Str:=rPl (zgU b.League.Bounds b.Moves (za9 b.League w)) t
abbrev dsL (b:BookS) (t:Str) (w n:Int):List ScorerS:=zkd b.League (wlL b w n) (zfu b t w)
def zq7 (b:BookS) (t:Str) (w n:Int):List ScorerS:=if wlE b w n≠0 then [] else dsL b t w n
def fdE (b:BookS) (t:Str) (w n:Int):Int:=if wlE b w n≠0 then wlE b w n else zil (dsL b t w n)
abbrev fdC (b:BookS) (t:Str) (w n:Int):Option ChoiceS:=zws b.Choices t w n (za9 b.League w)
abbrev fdF (b:BookS) (t:Str) (w n:Int):List FillS:=zcS (dsL b t w n) (fdC b t w n) b.League.Slots b.League.Slots.length
abbrev fdP (b:BookS) (t:Str) (w n:Int):Str:=znN (fdC b t w n) (fdF b t w n)
def ptV (b:BookS) (t:Str) (w n:Int):Int:=sfL (dsL b t w n) (fdF b t w n) (fdP b t w n)
def FdL (b:BookS) (t:Str) (w n:Int):List ScorerS:=if fdE b t w n≠0 then [] else dsL b t w n
def FdF (b:BookS) (t:Str) (w n:Int):List FillS:=if fdE b t w n≠0 then [] else fdF b t w n
def FdP (b:BookS) (t:Str) (w n:Int):Str:=if fdE b t w n≠0 then [] else fdP b t w n
def PtF (b:BookS) (t:Str) (w n:Int):FracS:=if fdE b t w n≠0 then ⟨0,0⟩ else ofH (ptV b t w n)
abbrev zeC (o:Option ChoiceS):ChoiceS:=o.getD zfg
theorem zpP {o:Option ChoiceS} (h:o.isSome=true):pCh o= .vptr (zb (zar (zeC o))) 0:=by
 cases o with
 |none=>cases h
 |some c=>rfl
theorem zA5 {o:Option ChoiceS} {f:List FillS} (h1:o.isSome=true) (h2:(zeC o).Captain≠[]) (h3:f.any (fun x=>x.Player==(zeC o).Captain)=true):znN o f=(zeC o).Captain:=by
 cases o with
 |none=>cases h1
 |some c=>exact if_pos ⟨h2,h3⟩
theorem zme {o:Option ChoiceS} {f:List FillS} (h:(o.isSome=true/\¬(zeC o).Captain=[])/\∃x,x∈f/\x.Player=(zeC o).Captain):znN o f=(zeC o).Captain:=by
 obtain ⟨⟨h1,h2⟩,x,h3,h4⟩:=h;exact zA5 h1 h2 (List.any_eq_true.2 ⟨x,h3,by simpa using h4⟩)
theorem zCe {o:Option ChoiceS} {f:List FillS} (h: ¬((o.isSome=true/\(zeC o).Captain≠[])/\f.any (fun x=>x.Player==(zeC o).Captain)=true)):znN o f=[]:=by
 cases o with
 |none=>rfl
 |some c=>exact if_neg fun q=>h ⟨⟨rfl,q.1⟩,q.2⟩
theorem zoF {o:Option ChoiceS} {f:List FillS} (h:o.isSome=true->¬(zeC o).Captain=[]->∀x,x∈f->¬x.Player=(zeC o).Captain):znN o f=[]:=by
 refine zCe fun q=> ?_
 obtain ⟨x,h3,h4⟩:=List.any_eq_true.1 q.2;exact h q.1.1 q.1.2 x h3 (by simpa using h4)
theorem zAI {b:BookS} {t:Str} {w n:Int} (h:fdE b t w n=0):wlE b w n=0/\zil (dsL b t w n)=0/\ScoOk (dsL b t w n):=by
 unfold fdE at h
 split at h
 rename_i q;exact absurd h q
 rename_i q
 exact ⟨Decidable.not_not.1 q,h,zut h⟩
theorem zqp {b:BookS} {t:Str} {w n:Int} (h:wlE b w n≠0):fdE b t w n=wlE b w n:=by unfold fdE;rw [if_pos h]
theorem zn0 {b:BookS} {t:Str} {w n:Int} (h:wlE b w n=0):fdE b t w n=zil (dsL b t w n):=by unfold fdE;rw [if_neg (fun q=>q h)]
theorem zBd {b:BookS} (hb:BookW b) {t:Str} {w n f:Int} {c:ChoiceS} (h:zws b.Choices t w n f=some c):c.Players.length=b.League.Slots.length:=by
 rcases zwr h with q|q
 cases q
 exact (hb.ch c q.1).1
theorem zAT {b:BookS} (hb:BookW b) {t:Str} {w n:Int} (h:fdE b t w n=0): -24000000<=ptV b t w n/\ptV b t w n<=24000000:=by
 obtain ⟨_,_,h3⟩:=zAI h;have h4:(fdF b t w n).length=b.League.Slots.length:=ze1 (dsL b t w n) (fdC b t w n) b.League.Slots b.League.Slots.length;have h5:=zw7 h3 (f:=fdF b t w n) (by have:=hb.sl;omega) (fdP b t w n) (fdF b t w n).length;rw [Ak] at h5;exact h5
/-! results-/
def gaE (b:BookS) (n:Int) (x:GameS):Int:=if n<za9 b.League (x.Week+1) then 0 else if fdE b x.Home x.Week n≠0 then fdE b x.Home x.Week n else fdE b x.Away x.Week n
def gaV (b:BookS) (n:Int) (x:GameS):GameS:=
 if n<za9 b.League (x.Week+1) then x
 else ⟨x.Week,x.Home,x.Away,true,(ofH (ptV b x.Home x.Week n)).Num,(ofH (ptV b x.Home x.Week n)).Den,(ofH (ptV b x.Away x.Week n)).Num,(ofH (ptV b x.Away x.Week n)).Den⟩
abbrev zmm (b:BookS) (n:Int) (l:List GameS):Int:=orI (l.map (gaE b n))
abbrev zf5 (b:BookS) (n:Int):List GameS:=b.League.Games.map (gaV b n)
def zbw (b:BookS) (n:Int):Int:=if zmm b n b.League.Games≠0 then zmm b n b.League.Games else zdX b.League.Teams (zf5 b n)
def zi0 (b:BookS) (n:Int):Int:=if mfE b n≠0 then mfE b n else zbw b n
def zq6 (b:BookS) (n:Int):List GameS:=if zi0 b n≠0 then [] else zf5 b n
theorem ztW {b:BookS} {n:Int} {l:List GameS} (h: ∀x∈l,gaE b n x=0):zmm b n l=0:=by
 induction l with
 |nil=>rfl
 |cons x r ih=>
   show orI (gaE b n x::r.map (gaE b n))=0
   rw [orI,if_neg (fun q=>q (h x Aj))];exact ih fun y hy=>h y (Al _ hy)
theorem zvq {b:BookS} {n:Int} {l:List GameS} {k:Nat} {x:GameS} (hx:l[k]? =some x) (h: ∀y∈l.take k,gaE b n y=0) (hn:gaE b n x≠0):zmm b n l=gaE b n x:=by
 have e:l=l.take k++x::l.drop (k+1):=by rw [<-zi hx,A2]
 show orI (l.map (gaE b n))=_
 rw [e,Ay,zcl,if_neg (fun q=>q (ztW h)),As,orI,if_pos hn]
theorem zxQ {l:List GameS} {b:BookS} {n:Int} {k:Nat} {x:GameS} (hx:l[k]? =some x) (h: ∀y∈l.take k,gaE b n y=0) (h0:gaE b n x=0): ∀y∈l.take (k+1),gaE b n y=0:=by
 rw [z6 hx]
 intro y hy
 rcases List.mem_append.1 hy with hy|hy
 exact h y hy;rw [List.mem_singleton.1 hy];exact h0
theorem zvO {b:BookS} {n:Int} (h:zmm b n b.League.Games≠0):zbw b n=zmm b n b.League.Games:=by unfold zbw;rw [if_pos h]
theorem zhs {b:BookS} {n:Int} (h:zmm b n b.League.Games=0):zbw b n=zdX b.League.Teams (zf5 b n):=by unfold zbw;rw [if_neg (fun q=>q h)]
theorem zmA {b:BookS} {n:Int} {k:Nat} {x:GameS} (hx:b.League.Games[k]? =some x) (h: ∀y∈b.League.Games.take k,gaE b n y=0) (hn: ¬n<za9 b.League (x.Week+1)) (h1:fdE b x.Home x.Week n≠0):zbw b n=fdE b x.Home x.Week n/\zbw b n≠0:=by
 have q0:gaE b n x=fdE b x.Home x.Week n:=by unfold gaE;rw [if_neg hn,if_pos h1]
 have q1:zmm b n b.League.Games=fdE b x.Home x.Week n:=(zvq hx h (by rw [q0];exact h1)).trans q0;have q2:zbw b n=fdE b x.Home x.Week n:=(zvO (by rw [q1];exact h1)).trans q1;exact ⟨q2,by rw [q2];exact h1⟩
theorem zmz {b:BookS} {n:Int} {k:Nat} {x:GameS} (hx:b.League.Games[k]? =some x) (h: ∀y∈b.League.Games.take k,gaE b n y=0) (hn: ¬n<za9 b.League (x.Week+1)) (h0:fdE b x.Home x.Week n=0) (h1:fdE b x.Away x.Week n≠0):zbw b n=fdE b x.Away x.Week n/\zbw b n≠0:=by
 have q0:gaE b n x=fdE b x.Away x.Week n:=by unfold gaE;rw [if_neg hn,if_neg (fun q=>q h0)]
 have q1:zmm b n b.League.Games=fdE b x.Away x.Week n:=(zvq hx h (by rw [q0];exact h1)).trans q0;have q2:zbw b n=fdE b x.Away x.Week n:=(zvO (by rw [q1];exact h1)).trans q1;exact ⟨q2,by rw [q2];exact h1⟩
theorem zE6 {b:BookS} {n:Int} {x:GameS} (h:gaE b n x=0) (hn: ¬n<za9 b.League (x.Week+1)):fdE b x.Home x.Week n=0/\fdE b x.Away x.Week n=0:=by
 unfold gaE at h;rw [if_neg hn] at h
 split at h
 rename_i q;exact absurd h q
 rename_i q;exact ⟨Decidable.not_not.1 q,h⟩
def zoB (n d:Int):Prop:=(-1000000000<=n/\n<=1000000000)/\ -1000000000<=d/\d<=1000000000
theorem zyf {n:Int} (h: -24000000<=n/\n<=24000000):zoB (ofH n).Num (ofH n).Den:=by
 have:=zye h;unfold zoB;omega
theorem zE5 {b:BookS} (hb:BookC b) (hw:BookW b) {n:Int} {x:GameS} (hx:x∈b.League.Games) (h:gaE b n x=0):zoB (gaV b n x).FNum (gaV b n x).FDen/\zoB (gaV b n x).ONum (gaV b n x).ODen:=by
 unfold gaV
 split
 have:=hb.bb.lea.gb x hx;exact this
 rename_i q
 obtain ⟨h1,h2⟩:=zE6 h q;exact ⟨zyf (zAT hw h1),zyf (zAT hw h2)⟩
theorem zCL {b:BookS} (hb:BookC b) (hw:BookW b) {n:Int} (h: ∀x∈b.League.Games,gaE b n x=0): ∀y∈zf5 b n,zoB y.FNum y.FDen/\zoB y.ONum y.ODen:=by
 intro y hy
 obtain ⟨x,hx,rfl⟩:=List.mem_map.1 hy;exact zE5 hb hw hx (h x hx)
/-! games that turned-/
structure SwungS where
 Week:Int
 Home:Str
 Away:Str
 Was:Int
 Now:Int
abbrev zj4 (x:SwungS):HVal:= .agg [.int .i64 x.Week,.str x.Home,.str x.Away,.int .i64 x.Was,.int .i64 x.Now]
abbrev zBc (l:List SwungS):HVal:= .slice 5 (l.map zj4)
def znT (x:GameS):Int:=min 1 (max (-1) (zcz x.FNum x.FDen-zcz x.ONum x.ODen))
def swI (b:BookS) (f t:Int) (x:GameS):Option SwungS:=
 if (gaV b f x).Played=true/\znT (gaV b f x)≠znT (gaV b t x) then some ⟨(gaV b f x).Week,(gaV b f x).Home,(gaV b f x).Away,znT (gaV b f x),znT (gaV b t x)⟩ else none
def swL (b:BookS) (f t:Int) (l:List GameS):List SwungS:=l.filterMap (swI b f t)
theorem zvX {b:BookS} {f t:Int} {l:List GameS} {k:Nat} {x:GameS} (h:l[k]? =some x):swL b f t (l.take (k+1))=swL b f t (l.take k)++(swI b f t x).toList:=by
 unfold swL;rw [z6 h,List.filterMap_append]
 cases e:swI b f t x<;>simp [e]
theorem zyB (b:BookS) (f t:Int) (l:List GameS):(swL b f t l).length<=l.length:=List.length_filterMap_le _ _
def zac (b:BookS) (f t:Int):Int:=if mfE b f≠0 then mfE b f else if zU t=false then 1 else if t<f then 7 else if zbw b f≠0 then zbw b f else zbw b t
def zbA (b:BookS) (f t:Int):List SwungS:=if zac b f t≠0 then [] else swL b f t b.League.Games
theorem zB7 (b:BookS) (t:Int) (l:List GameS):swL b t t l=[]:=by
 unfold swL;rw [List.filterMap_eq_nil_iff]
 intro x _
 unfold swI;rw [if_neg (fun q=>q.2 rfl)]
theorem zvn (b:BookS) (n:Int) (x:GameS):(gaV b n x).Week=x.Week/\(gaV b n x).Home=x.Home/\(gaV b n x).Away=x.Away:=by
 unfold gaV;split<;>exact ⟨rfl,rfl,rfl⟩
theorem zn3 {b:BookS} {n:Int} {x:GameS} (h: ¬n<za9 b.League (x.Week+1)):(gaV b n x).Played=true:=by unfold gaV;rw [if_neg h]
theorem zpE {b:BookS} {n:Int} {x:GameS} (h0:x.Played=false) (h:(gaV b n x).Played=true): ¬n<za9 b.League (x.Week+1):=fun q=>by
 unfold gaV at h;rw [if_pos q,h0] at h;cases h
theorem zCT {b:BookS} (hb:BookX b) {f t:Int} (hft:f<=t) {y:SwungS} (h:y∈swL b f t b.League.Games):
 y.Was≠y.Now/\(zf5 b t).any (fun z=>z.Played&&(z.Week==y.Week&&(z.Home==y.Home&&z.Away==y.Away)))=true:=by
 unfold swL at h;obtain ⟨x,hx,he⟩:=List.mem_filterMap.1 h;unfold swI at he
 split at he
 rename_i q
 cases he
 refine ⟨q.2,?_⟩
 rw [BZ];refine ⟨gaV b t x,List.mem_map.2 ⟨x,hx,rfl⟩,?_⟩
 have h1:=zpE (hb.gm x hx).2.2.2 q.1;have h2:=zn3 (b:=b) (n:=t) (x:=x) (by omega);obtain ⟨a1,a2,a3⟩:=zvn b f x;obtain ⟨c1,c2,c3⟩:=zvn b t x;rw [h2,a1,a2,a3,c1,c2,c3]
 simp
 cases he
theorem zy2 {x:GameS} (hp:x.Played=true) (h:zfW x=0):zbm x.FNum x.FDen 1000000=0/\zbm x.ONum x.ODen 1000000=0:=by
 unfold zfW at h;rw [if_neg (by rw [hp];simp)] at h
 split at h
 cases h
 have:=zgT h;exact ⟨this _ (by simp),this _ (by simp)⟩
theorem zwS {b:BookS} {n:Int} (h:mfE b n=0):zdl b=0/\zU n=true:=by
 unfold mfE at h
 by_cases h1:zdl b≠0
 rw [if_pos h1] at h;exact absurd h h1;rw [if_neg h1] at h;refine ⟨Decidable.not_not.1 h1,?_⟩
 cases hm:zU n with
 |true=>rfl
 |false=>rw [hm] at h;cases h
theorem zAM {b:BookS} (hX:BookX b) (hb:BookC b) {w:Int} (hwk:za1 w=true) (n:Int): ∀x∈wlL b w n,zkr x:=by
 have h1:=zka b.Mends w;have h2:=hb.l2;have h3:=hb.l3;have h:=(zpK (t:=b.League.Trust) (m:=zf3 b.Mends w) (week:=w) (n:=n) (ziv hX.pl) h2 (by omega) hwk (zol (week:=w) hX.me)).1;exact fun x hx=>(zvz h hx).sb
theorem zBi {b:BookS} {n:Int} {l:List GameS} {k:Nat} {x:GameS} (hx:l[k]? =some x) (h:gaV b n x=x):(l.take (k+1)).map (gaV b n)++l.drop (k+1)=(l.take k).map (gaV b n)++l.drop k:=by
 rw [z6 hx,Ay,zi hx];simp [h]
theorem zCn {b:BookS} {n:Int} {l:List GameS} {k:Nat} {x y:GameS} (hx:l[k]? =some x) (h:gaV b n x=y):(((l.take k).map (gaV b n)++l.drop k).map zaa).set k (zaa y)=((l.take (k+1)).map (gaV b n)++l.drop (k+1)).map zaa:=by
 have hl:=zo hx;rw [z6 hx,Ay,zi hx,<-h];have e:((l.take k).map (gaV b n)).length=k:=by rw [Ag,Ax];omega
 rw [Ay,BX _ _ (by rw [Ag];omega),Ag,e,BY]
 simp
theorem ztV {b:BookS} {n:Int} {l:List GameS} {k:Nat} {x:GameS} (hx:l[k]? =some x):(l.map (gaV b n))[k]? =some (gaV b n x):=by rw [Ah,hx];rfl
theorem zoQ {b:BookS} {n:Int} (h:zbw b n=0) {x:GameS} (hx:x∈b.League.Games) (hp:(gaV b n x).Played=true):
 ((1<=(gaV b n x).FDen/\(gaV b n x).FDen<=100)/\ -100000000<=zcz (gaV b n x).FNum (gaV b n x).FDen/\zcz (gaV b n x).FNum (gaV b n x).FDen<=100000000)/\
 ((1<=(gaV b n x).ODen/\(gaV b n x).ODen<=100)/\ -100000000<=zcz (gaV b n x).ONum (gaV b n x).ODen/\zcz (gaV b n x).ONum (gaV b n x).ODen<=100000000):=by
 have h1:zdX b.League.Teams (zf5 b n)=0:=by
  unfold zbw at h
  split at h
  rename_i q;exact absurd h q
  exact h
 have h2:zdY 1000 (zb3 b.League.Teams) zdT (zf5 b n)=0:=by
  unfold zdX at h1
  split at h1
  rename_i q;exact absurd h1 q
  unfold zdM at h1
  split at h1
  rename_i q;exact absurd h1 q
  rename_i q
  exact Decidable.not_not.1 q
 obtain ⟨_,h3⟩:=zfm h2;obtain ⟨i,hi,e⟩:=AS (show gaV b n x∈zf5 b n from List.mem_map.2 ⟨x,hx,rfl⟩);have h4:=h3 i _ (Aa hi);rw [e] at h4;unfold zb3 at h4
 split at h4
 cases h4
 split at h4
 cases h4
 split at h4
 cases h4
 split at h4
 rename_i q;exact absurd h4 q
 rename_i q
 have h5:zfW (gaV b n x)=0:=Decidable.not_not.1 q;have h6:zbm (gaV b n x).FNum (gaV b n x).FDen 1000000=0/\zbm (gaV b n x).ONum (gaV b n x).ODen 1000000=0:=zy2 hp h5;have h7:=zjA h6.1 (by decide);have h8:=zjA h6.2 (by decide);exact ⟨⟨h7.1,h7.2.2⟩,h8.1,h8.2.2⟩
theorem zyD {b:BookS} {f t:Int} (h:zac b f t=0):(zdl b=0/\zU f=true)/\zU t=true/\f<=t/\zbw b f=0/\zbw b t=0/\zbA b f t=swL b f t b.League.Games:=by
 have hL:zbA b f t=swL b f t b.League.Games:=by unfold zbA;rw [if_neg (fun q=>q h)]
 unfold zac at h
 by_cases h1:mfE b f≠0
 rw [if_pos h1] at h;exact absurd h h1;rw [if_neg h1] at h
 by_cases h2:zU t=false
 rw [if_pos h2] at h;cases h;rw [if_neg h2] at h
 by_cases h3:t<f
 rw [if_pos h3] at h;cases h;rw [if_neg h3] at h
 by_cases h4:zbw b f≠0
 rw [if_pos h4] at h;exact absurd h h4;rw [if_neg h4] at h;exact ⟨zwS (Decidable.not_not.1 h1),by simpa using h2,by omega,Decidable.not_not.1 h4,h,hL⟩
end
end Go.HL
