/- Part 4 of the proof: a program logic, contracts of functions and plain facts; no conditions. -/
import Derived.Test.YtbmggbfabohegaaGreatDoorQFieldedAreScorers3
import Derived.Lib.AtoiBound
import Derived.Lib.ItoaMem
import Derived.Lib.Strings
import Derived.Shelf.SlMaps.Clone
import Derived.Shelf.Slices.CompactI
import Derived.Shelf.Slices.In.SortNone
import Derived.Shelf.Sort.Plain
set_option linter.unusedVariables false
set_option linter.unusedSimpArgs false
set_option maxHeartbeats 16000000
namespace Go.Proofs.YtbmggbfabohegaaGreatDoor
set_option maxRecDepth 100000
set_option linter.unusedVariables false
set_option linter.unusedSimpArgs false
section
open Go.Proofs.Tryz
open Go.HL
theorem zgB [Tracks] {x n:Int} (hn:n<=4000000000):ConP prog 54 [.int .i64 x,.int .i64 n] (.int .i64 (below x n)):=by
 refine uOb func54 ntmps54 ?_;refine gz8 ?_;refine uCo (fun h1=> ?_) fun h2=> ?_
 refine gz4 ?_;refine uRp ?_
 simp_all [below]
 try omega
 refine gz5 ?_;refine dq (zcP rfl rfl uO) ?_;refine gz7 ?_;refine uCo (fun h3=> ?_) fun h4=> ?_
 refine gz3 ?_;have hm:=BW x (show 0<n by omega);obtain ⟨y,hy1,hy2⟩:=znC x n;have hb:below x n=x.tmod n+n:=by unfold below;rw [if_neg uO,if_pos uO]
 refine gz9 ?_;refine uRp ?_
 simp_all [below]
 try omega
 refine gz7 ?_;refine uRp ?_
 simp_all [below]
 try omega
theorem zak [Tracks] {b:Nat} {l:List Int} {a:Nat} {n:Int} (ha:a<=1000000) (hn:n<=4000000000):Con prog 22 [pAt b,.int .i64 n] [St b l a] (fun x M'=> ∃y:Nat,x= .int .i64 (y:Int)/\(y:Int)<max n 1/\M'=[St b l (a+1)]):=by
 refine uOb func22 ntmps22 ?_;refine gz7 ?_;refine de rfl (uZ 0 ?_)
 refine gz3 ?_;refine de0 (uY 0 ?_)
 refine gz6 ?_;refine de rfl (uZ 0 ?_)
 refine gz3 ?_;refine uCo (fun h1=> ?_) fun h2=> ?_
 refine gz4 ?_;refine de rfl (uZ 0 ?_)
 refine dq (zrO rfl rfl) ?_;refine gz1 ?_;refine dq (uCl zzr rfl (zgB (by assumption))) ?_;refine gz3 ?_;refine zad rfl ?_;obtain ⟨y,h1,h2⟩:=znC _ n;exact ⟨y,congrArg _ h1,h2,rfl⟩;refine gz2 ?_;have hl0:0<l.length:=List.length_pos_iff.2 (by simpa using h2);refine zbT (fun M=> ∃i:Nat,M[i]? =some (St b l (a+1))) [3,8] mixed ?_;refine gz3 ?_;refine uM 3 rfl (⟨0,rfl⟩) (fun M hM=>by obtain ⟨i,hi⟩:=hM;exact zan (i:=i) ty3 rfl hi (.inl ⟨rfl,rfl⟩) ⟨rfl,rfl⟩) ?_;refine gz4 ?_;refine uM 8 rfl (⟨0,rfl⟩) (fun M hM=>by obtain ⟨i,hi⟩:=hM;exact zan (i:=i) z8 rfl hi (.inl ⟨rfl,rfl⟩) ⟨rfl,rfl⟩) ?_;refine gz1 ?_;refine uB 10 rfl (zU (h':= .int .i64 ((a%l.length:Nat):Int)) (zcP rfl rfl uO) (by show HVal.int .i64 (((a:Int)+1-1).tmod _)=_;rw [show ((a:Int)+1-1)=(a:Int) by omega];exact congrArg _ (zp4 _ _))) ?_;refine gz2 ?_;refine zbT (fun M=> ∃i:Nat,M[i]? =some (St b l (a+1))) [3,8] mixed ?_;refine gz3 ?_;refine uM 3 rfl (⟨0,rfl⟩) (fun M hM=>by obtain ⟨i,hi⟩:=hM;exact zan (i:=i) ty3 rfl hi (.inl ⟨rfl,rfl⟩) ⟨rfl,rfl⟩) ?_;refine gz4 ?_;refine uM 8 rfl (⟨0,rfl⟩) (fun M hM=>by obtain ⟨i,hi⟩:=hM;exact zan (i:=i) z8 rfl hi (.inl ⟨rfl,rfl⟩) ⟨rfl,rfl⟩) ?_;refine gz1 ?_;refine uB 10 rfl (zwg rfl rfl uO) ?_;refine gz6 ?_;refine de rfl (uZ 0 ?_)
 refine gz1 ?_;refine dq (zy (j:=a%l.length) (a:=l[a%l.length]'(BY _ uO)) z8 ty3 rfl rfl rfl (Aa _)) ?_;refine gz1 ?_;refine dq (uCl zzr rfl (zgB uO)) ?_;refine gz2 ?_;refine dq (zoX rfl rfl) ?_;refine dq (zrO rfl rfl) ?_;refine dq (zoX rfl rfl) ?_;refine gz1 ?_;refine dq (uCl zzr rfl (zgB (by assumption))) ?_;refine gz3 ?_;refine zad rfl ?_;obtain ⟨y,h1,h2⟩:=znC _ n;exact ⟨y,congrArg _ h1,h2,rfl⟩
theorem zJ [Tracks] {b:Nat} {l:List Int} {a:Nat} {lo hi:Int} (ha:a<=1000000) (hlh:lo<=hi) (h0: -1000000000<=lo) (h1:hi<=1000000000):Con prog 13 [pAt b,.int .i64 lo,.int .i64 hi] [St b l a] (fun x M'=> ∃y:Int,x= .int .i64 y/\(lo<=y/\y<=hi)/\M'=[St b l (a+1)]):=by
 refine uOb func13 ntmps13 ?_;refine gz9 ?_;refine zX rfl (fun h1=> ?_) (fun h1=> ?_)
 exfalso
 try simp at h1
 omega
 try simp at h1
 refine gz9 ?_;refine de rfl (uCx 0 zjd rfl rfl (zak (by assumption) uO) ?_)
 rintro _ _ ⟨y17,rfl,hy17,rfl⟩;refine gz4 ?_;exact zad rfl ⟨_,rfl,by omega,rfl⟩
theorem zI [Tracks] {b:Nat} {l:List Int} {a:Nat} {n:Int} (ha:a<=1000000) (hn:n<=4000000000):Con prog 45 [pAt b,.int .i64 n] [St b l a] (fun x M'=> ∃y:Bool,x= .bool y/\M'=[St b l (a+1)]):=by
 refine uOb func45 ntmps45 ?_;refine gz6 ?_;refine de rfl (uCx 0 zjd rfl rfl (zak (by assumption) (by assumption)) ?_)
 rintro _ _ ⟨y7,rfl,hy7,rfl⟩;refine gz4 ?_;exact zad rfl ⟨_,rfl,rfl⟩
theorem zf [Tracks] {b:Nat} {l:List Int} {a:Nat} {L:List Int} (ha:a<=1000000) (h0:0<L.length) (h1:L.length<=1000000):Con prog 6 [pAt b,.slice 1 (L.map (.int .i64))] [St b l a] (fun x M'=> ∃y:Int,x= .int .i64 y/\y∈L/\M'=[St b l (a+1)]):=by
 refine uOb func6 ntmps6 ?_;refine gz8 ?_;refine de rfl (uCx 0 zjd rfl rfl (zak (by assumption) uO) ?_)
 rintro _ _ ⟨y9,rfl,hy9,rfl⟩;obtain ⟨z,hz,hm⟩:=getI hy9 h0;refine dq (zy (j:=y9) (a:=z) z8 ty3 rfl rfl rfl hz) ?_;refine gz4 ?_;exact zad rfl ⟨_,rfl,hm,rfl⟩
theorem zo [Tracks] {b:Nat} {l:List Int} {a:Nat} {L:List Str} (ha:a<=1000000) (h0:0<L.length) (h1:L.length<=1000000):Con prog 12 [pAt b,eSs L] [St b l a] (fun x M'=> ∃y:Str,x= .str y/\y∈L/\M'=[St b l (a+1)]):=by
 refine uOb func12 ntmps12 ?_;refine gz8 ?_;refine de rfl (uCx 0 zjd rfl rfl (zak (by assumption) uO) ?_)
 rintro _ _ ⟨y9,rfl,hy9,rfl⟩;obtain ⟨z,hz,hm⟩:=getS hy9 h0;refine dq (zy (j:=y9) (a:=z) zq ty9 rfl rfl rfl hz) ?_;refine gz4 ?_;exact zad rfl ⟨_,rfl,hm,rfl⟩
end
section
open Go.HL
set_option linter.unusedSimpArgs false
end
section
open Go.HL
set_option linter.unusedSimpArgs false
end
section
open Go.HL
set_option linter.unusedSimpArgs false
end
section
open Go.HL
set_option linter.unusedSimpArgs false
end
end Go.Proofs.YtbmggbfabohegaaGreatDoor
namespace Go.HL
section
open Op (bytesLess)
theorem zyV {α:Type} {R:α->α->Prop}: ∀{l:List α},l.Pairwise R->∀x∈l,∀y∈l,x=y\/R x y\/R y x
 |[],_,x,hx,_,_=>by simp at hx
 |a::l,h,x,hx,y,hy=>by
   obtain ⟨h1,h2⟩:=List.pairwise_cons.1 h
   rcases List.mem_cons.1 hx with e|hx'<;>rcases List.mem_cons.1 hy with e'|hy'
   exact .inl (e.trans e'.symm);exact .inr (.inl (e▸h1 y hy'));exact .inr (.inr (e'▸h1 x hx'));exact zyV h2 x hx' y hy'
/-! keeps that are right-/
def kLt (a b:Keep):Prop:=bytesLess a.Team b.Team=true\/(a.Team=b.Team/\a.Round<b.Round)
theorem zDl {a b:Keep} (h: ¬orI [zV b.Team a.Team,zae b.Round a.Round]<=0):kLt a b:=by
 rw [zgn] at h
 rcases zb5 a.Team b.Team with h1|h1|h1
 exact .inl h1;refine .inr ⟨h1,?_⟩
 rw [h1] at h
 simp [zac,orI,zae] at h
 split at h
 omega
 split at h<;>omega
 rw [h1] at h;simp [orI] at h
structure KeepsOk (r:Room) (k:List Keep):Prop where
 all: ∀x∈k,x.Team∈r.Teams/\x.Player∈r.Players/\1<=x.Round/\x.Round<=r.Rounds
 lt:k.Pairwise kLt
theorem zxd {r:Room} {l:List Keep}: ∀(t:List Keep) (k:Nat) (kept:List Str) (tw:Bool),l.drop k=t->zrJ r l k kept tw t=0->
 (∀x∈t,x.Team∈r.Teams/\x.Player∈r.Players/\1<=x.Round/\x.Round<=r.Rounds)/\∀(i:Nat) (a b:Keep),k<=i+1->l[i]? =some a->l[i+1]? =some b->kLt a b
 |[],k,kept,tw,hd,h=>⟨by simp,fun i a b hi ha hb=>by
    have:=zn hb;have h2:l.length<=k:=by rw [<-List.drop_eq_nil_iff];exact hd
    omega⟩
 |x::t,k,kept,tw,hd,h=>by
   have hk:l[k]? =some x:=by
    have:=congrArg (fun q=>q[0]?) hd
    simpa using this
   have hd':l.drop (k+1)=t:=by
    have:=zi hk;rw [hd] at this;simp at this;exact this.symm
   simp only [zrJ] at h
   split at h
   omega
   rename_i h1
   split at h
   omega
   rename_i h2
   split at h
   omega
   rename_i h3
   obtain ⟨h4,h5⟩:=zxd t (k+1) _ _ hd' h;have h2':=ze8 (by simpa using h2);refine ⟨fun y hy=> ?_,fun i a b hi ha hb=> ?_⟩
   rcases List.mem_cons.1 hy with rfl|hy
   simp at h1;exact ⟨h1.1,h1.2,h2'⟩
   exact h4 y hy
   by_cases e:k=i+1
   subst e;rw [hk] at hb;cases hb;refine zDl fun hc=>h3 ?_
   simp [List.getD,ha];exact hc
   exact h5 i a b (by omega) ha hb
theorem zoA {l:List Str}: ∀(r:List Str) (k:Nat),zbM l k r=0->∀s∈r,key s=true
 |[],_,_,s,hs=>by simp at hs
 |x::r,k,h,s,hs=>by
   simp only [zbM] at h
   split at h
   omega
   rename_i h1
   split at h
   omega
   rcases List.mem_cons.1 hs with rfl|hs
   simpa using h1
   exact zoA r (k+1) h s hs
def fits (t:Turn) (x:Keep):Bool:=decide (x.Team=t.of/\x.Round=t.round)
theorem KeepsOk.one {r:Room} {k:List Keep} (h:KeepsOk r k) {t:Turn} {x y:Keep} (hx:x∈k) (hy:y∈k) (fx:fits t x=true) (fy:fits t y=true):y=x:=by
 simp [fits] at fx fy
 rcases zyV h.lt x hx y hy with e|e|e
 exact e.symm
 exfalso
 rcases e with e|⟨e1,e2⟩
 rw [fx.1,fy.1,zac] at e;cases e
 omega
 exfalso
 rcases e with e|⟨e1,e2⟩
 rw [fx.1,fy.1,zac] at e;cases e
 omega
def ztw (k:List Keep) (l:List Pick) (s:Str):Bool:=k.any (fun x=>x.Player==s)||l.any (fun p=>p.Player==s)
end
section
section
variable {r:Room} {k:List Keep} {fr l:List Pick} {p:Pick}
end
structure Wish where
 Team:Str
 Players:List Str
theorem zxb (k:List Keep) (l:List Pick) (p:Pick) (s:Str):ztw k (l++[p]) s=(ztw k l s||p.Player==s):=by
 simp [ztw,Cq]
/-! what a run holds-/
structure RunOk (r:Room) (k:List Keep) (s:List Swap) (l:List Pick) (S:List Str):Prop where
 gone: ∀x∈r.Players,S.contains x=ztw k l x
theorem RunOk.add {r:Room} {k:List Keep} {s:List Swap} {l:List Pick} {S:List Str} (ok:RunOk r k s l S) (p:Pick):RunOk r k s (l++[p]) (zb8 p.Player S):=
 ⟨fun x hx=>by rw [zxb,znj,ok.gone x hx]⟩
end
section
theorem zsm {α:Type} {p:α->Bool} {l:List α} (h:0<=zT p l 0): ∃(i:Nat) (x:α),zT p l 0=(i:Int)/\l[i]? =some x/\l.find? p=some x:=by
 obtain ⟨i,h1,h2,⟨x,hx,hp⟩,hb⟩:=zgs p l 0 (by omega) (by omega);refine ⟨i,x,by omega,hx,?_⟩
 have e:l=l.take i++x::l.drop (i+1):=by rw [<-zi hx,Be]
 rw [e,List.find?_append,List.find?_eq_none.2 (by simpa using hb)]
 simp [hp]
theorem zok {α:Type} {p:α->Bool} {l:List α} (h:zT p l 0<0):l.find? p=none:=by
 have:=zcC p l 0 (by omega);rw [Ci]
 intro x hx hp
 have h1:l.any p=true:=List.any_eq_true.2 ⟨x,hx,hp⟩;rw [<-this] at h1
 simp at h1;omega
section
variable {r:Room} {w:List Wish} {k:Nat} {x:Wish} {t:List Wish}
end
end
end Go.HL
namespace Go.Proofs.YtbmggbfabohegaaGreatDoor
set_option maxRecDepth 100000
set_option linter.unusedVariables false
set_option linter.unusedSimpArgs false
section
open Go.HL
set_option linter.unusedSimpArgs false
end
section
open Go.HL
set_option linter.unusedSimpArgs false
end
section
open Go.HL
set_option linter.unusedSimpArgs false
end
section
open Go.HL
set_option linter.unusedSimpArgs false
end
section
open Go.HL
set_option linter.unusedSimpArgs false
end
section
open Go.HL
set_option linter.unusedSimpArgs false
end
section
open Go.Proofs.Tryz
open Go.HL
theorem zfL [Tracks] {b:Nat} {l:List Int} {a:Nat} {n:Nat} (ha:a<=800000) (hn1:1<=n) (hn2:n<=1000):Con prog 182 [pAt b,.int .i64 (n:Int)] [St b l a] (fun x M'=> ∃(L:List Int) (a':Nat),x= .slice 1 (L.map (.int .i64))/\(L.length=n/\∀i∈L,(0:Int)<=i/\i<n)/\a'<=a+n/\M'=[St b l a']):=by
 refine uOb func182 ntmps182 ?_;refine gz6 ?_;refine ze (zN 1) ?_;refine gz6 ?_;refine uV3 [5,2,10,8] (fun (k:Nat) (u:Value) (L:List Int)=>[(10,.int .i64 (k:Int)),(5,.raw u)]) (fun (k:Nat) (u:Value) (L:List Int)=>[.arr u 1 (L.map (HVal.int .i64)),St b l a]) (fun (k:Nat) (u:Value) (L:List Int)=>k<=n/\L.length=k/\∀i∈L,(0:Int)<=i/\i<n) (fun (k:Nat) (u:Value) (L:List Int)=>n-k) (0) (.slice none 0 0) ([]) ?_ ?_ ?_ ?_;exact ⟨by omega,rfl,by simp⟩;exact ⟨rfl,rfl,trivial⟩;exact zm rfl
 intro k u L hinv
 obtain ⟨hk,hL,hLb⟩:=hinv;refine gz4 ?_;refine uCo (fun h1=> ?_) fun h2=> ?_
 have hkn:k<n:=by omega
 refine zcl ?_;refine dq (za (hs:=[_]) z8 ty3 rfl rfl (by decide) (by decide) rfl) ?_;refine de rfl (zK (i:=0) z8 ty3 rfl rfl rfl rfl rfl (by simp [zar,zb]) uSo fun v16=> ?_)
 refine gz8 ?_;exact ⟨k+1,v16,L++[(k:Int)],⟨by omega,by simp [hL],fun i hi=>by rcases List.mem_append.1 hi with h|h;exact hLb i h;(simp at h;omega)⟩,uD,⟨rfl,rfl,trivial⟩,uK,zm (by simp)⟩;obtain rfl:n=k:=by omega
 refine gz2 ?_;refine zcI ?_;refine gz3 ?_;refine ze (Ghost.perm (M':=[St b l a,.arr u 1 (L.map (.int .i64))]) uP) ?_;refine zdi (i:=1) rfl (fun h0 he=> ?_) (fun ob off cap hv hcap=> ?_)
 exfalso;have:=congrArg List.length he;simp at this;subst this;simp at hL;omega
 rw [Ah,hL] at hv hcap;subst hv;refine gz6 ?_;refine uV3 [7,2,20,22] (fun (m:Nat) (L:List Int) (a2:Nat)=>[(7,.int .i64 (m:Int))]) (fun (m:Nat) (L:List Int) (a2:Nat)=>[St b l a2,.arr (.slice (some ⟨ob,off,none⟩) n cap) 1 (L.map (HVal.int .i64))]) (fun (m:Nat) (L:List Int) (a2:Nat)=>m<n/\(L.length=n/\∀i∈L,(0:Int)<=i/\i<n)/\a2+m<=a+n) (fun (m:Nat) (L:List Int) (a2:Nat)=>m) (n-1) (L) (a) ?_ ?_ ?_ ?_;exact ⟨by omega,⟨hL,hLb⟩,by omega⟩;exact ⟨zP uO,trivial⟩;exact Ac _
 intro m L a2 hinv
 obtain ⟨hm,⟨hL,hLb⟩,ha2⟩:=hinv;refine gz5 ?_;refine uCo (fun h3=> ?_) fun h4=> ?_
 have hm0:0<m:=by omega
 refine gz8 ?_;refine de rfl (uCx 0 zjd rfl rfl (zak uO uO) ?_)
 rintro _ _ ⟨y27,rfl,hy27,rfl⟩;refine gz2 ?_;obtain ⟨z1,hz1⟩: ∃z,L[y27]? =some z:=⟨_,Aa uO⟩
 obtain ⟨z2,hz2⟩: ∃z,L[m]? =some z:=⟨_,Aa uO⟩
 obtain ⟨z3,hz3⟩: ∃z,(L.set m z1)[y27]? =some z:=⟨_,Aa uSo⟩
 refine zbj (fun M=> ∃i:Nat,M[i]? =some (.arr (.slice (some ⟨ob,off,none⟩) n cap) 1 (L.map (HVal.int .i64)))) [7,11] mixed ?_;refine gz6 ?_;refine uB 6 rfl (zx (j:=y27) z8 ty3 rfl rfl rfl uO) ?_;refine uM 7 rfl (⟨1,rfl⟩) (fun M hM=>by obtain ⟨i,hi⟩:=hM;exact zaq (i:=i) (j:=y27) 0 ty3 rfl uO hi hz1 rfl rfl ⟨rfl,rfl⟩) ?_;refine gz2 ?_;refine uB 10 rfl (zx (j:=m) z8 ty3 rfl rfl rfl uO) ?_;refine uM 11 rfl (⟨1,rfl⟩) (fun M hM=>by obtain ⟨i,hi⟩:=hM;exact zaq (i:=i) (j:=m) 0 ty3 rfl uO hi hz2 rfl rfl ⟨rfl,rfl⟩) ?_;refine uB 12 rfl (zx (j:=m) z8 ty3 rfl rfl rfl uO) ?_;refine uF 13 ?_;refine zD (za2 (i:=1) (f:=HVal.int .i64) (es:=L) (j:=m) (y:=z2) (y':=z1) ty3 rfl rfl rfl rfl hz2 rfl rfl rfl ?_)
 refine ⟨uE,?_⟩
 refine uB 14 rfl (zx (j:=y27) z8 ty3 rfl rfl rfl uO) ?_;refine uF 15 ?_;refine zD (za2 (i:=1) (f:=HVal.int .i64) (es:=L.set m z1) (j:=y27) (y:=z3) (y':=z2) ty3 rfl rfl rfl rfl hz3 rfl rfl rfl ?_)
 refine ⟨uE,?_⟩
 refine gz8 ?_;exact ⟨m-1,(L.set m z1).set y27 z2,a2+1,⟨by omega,⟨by simp [hL],zfk (P:=fun i:Int=>0<=i/\i<n) (zfk (P:=fun i:Int=>0<=i/\i<n) hLb (hLb z1 (Ab hz1))) (hLb z2 (Ab hz2))⟩,by omega⟩,uD,⟨zP uO,trivial⟩,uK,zm (by simp [B3])⟩;refine gz2 ?_;refine zcI ?_;refine gz7 ?_;refine zat (zaJ 4 (i:=1) rfl rfl) rfl ⟨L,a2,rfl,⟨hL,hLb⟩,by omega,rfl⟩
end
section
open Go.HL
set_option linter.unusedSimpArgs false
end
end Go.Proofs.YtbmggbfabohegaaGreatDoor
namespace Go.HL
section
variable {P:Program}
open Go.Sort Go.Proofs
end
end Go.HL
namespace Go.Proofs.YtbmggbfabohegaaGreatDoor
set_option maxRecDepth 100000
set_option linter.unusedVariables false
set_option linter.unusedSimpArgs false
section
open Go.Proofs.Tryz
open Go.HL
theorem zfV [Tracks] {l:List StatS} {fid:FuncId} {caps:List HVal} {p:StatS->Bool} (hca:Callable prog fid) (hp: ∀x,ConP prog fid ([zbf x]++caps) (.bool (p x))) (hl:l.length<=1000000):ConP prog 342 [.slice 2 (l.map zbf),.fn (.func fid) [] caps] (.int .i64 (zT p l 0)):=by
 refine uOb func342 ntmps342 ?_;refine zau ?_;refine uT1 [4,2,8,11] (fun k=>[(8,.int .i64 k)]) (fun k=>[]) (fun k=>k<=l.length/\(zT p l 0=zT p (l.drop k) k)) (fun k=>l.length-k) (0) ?_ ?_;exact ⟨Ad _,rfl⟩;rintro k ⟨hk,hg⟩;refine gz4 ?_;refine uCo (fun h1=> ?_) fun h2=> ?_
 obtain ⟨x,hx⟩: ∃x,l[k]? =some x:=⟨_,Aa h1⟩
 have hdx:=zi hx;rw [hdx] at hg;refine zdm ?_;refine dq (zal hca rfl rfl (WeakL.refl _) (hp _)) ?_;refine gz1 ?_;refine uCo (fun h3=> ?_) fun h4=> ?_
 refine gz5 ?_;refine uRp ?_
 (rw [hg];simp_all [zT])
 refine gz7 ?_;refine ⟨k+1,?_,?_,⟨rfl,trivial⟩,uK,Ac _⟩
 refine ⟨by omega,?_⟩
 rw [hg,zT,if_neg uSa];rfl
 dsimp only;omega
 have hnk:l.length<=k:=by omega
 obtain rfl:k=l.length:=by omega
 rw [zH (Af _)] at hg;refine gz2 ?_;refine zt ?_;refine gz6 ?_;refine uRp ?_
 (rw [hg];rfl)
theorem zle [Tracks] {l:List Int} {z:Int} (hl:l.length<=1000000):ConP prog 271 [.slice 1 (l.map (.int .i64)),.int .i64 z] (.int .i64 (zT (· ==z) l 0)):=by
 refine uOb func271 ntmps271 ?_;refine zau ?_;refine uT1 [4,2,8,11] (fun k=>[(8,.int .i64 k)]) (fun k=>[]) (fun k=>k<=l.length/\(zT (· ==z) l 0=zT (· ==z) (l.drop k) k)) (fun k=>l.length-k) (0) ?_ ?_;exact ⟨Ad _,rfl⟩;rintro k ⟨hk,hg⟩;refine gz4 ?_;refine uCo (fun h1=> ?_) fun h2=> ?_
 obtain ⟨x,hx⟩: ∃x,l[k]? =some x:=⟨_,Aa h1⟩
 have hdx:=zi hx;rw [hdx] at hg;refine zpQ ?_;refine uCo (fun h3=> ?_) fun h4=> ?_
 refine gz5 ?_;refine uRp ?_
 (rw [hg];simp_all [zT])
 refine gz7 ?_;refine ⟨k+1,?_,?_,⟨rfl,trivial⟩,uK,Ac _⟩
 refine ⟨by omega,?_⟩
 rw [hg,zT,if_neg (by simp_all;try omega)];rfl
 dsimp only;omega
 have hnk:l.length<=k:=by omega
 obtain rfl:k=l.length:=by omega
 rw [zH (Af _)] at hg;refine gz2 ?_;refine zt ?_;refine gz6 ?_;refine uRp ?_
 (rw [hg];rfl)
theorem zfC [Tracks] {l:List Int} {z:Int} (hl:l.length<=1000000):ConP prog 203 [.slice 1 (l.map (.int .i64)),.int .i64 z] (.bool (l.contains z)):=by
 refine uOb func203 ntmps203 ?_;refine gz6 ?_;refine dq (uCl zFv rfl (zle (by assumption))) ?_;refine gz4 ?_;refine zw rfl ?_
 show HVal.bool _=_
 rw [ztc,<-zcC _ l 0 uO]
theorem zeH [Tracks] {n:Int}:ConP prog 123 [.int .i64 n] (.int .i64 (if zaV n then 0 else 1)):=by
 refine uOb func123 ntmps123 ?_;refine gz5 ?_;refine dq (uCl zBe rfl zhq) ?_;refine gz3 ?_;refine uRp ?_;unfold zaV
 cases out n 1 60<;>rfl
theorem zlH [Tracks] {p:Play} (hgp:zdg p):ConP prog 120 [zas p] (.int .i64 (playFault p)):=by
 refine uOb func120 ntmps120 ?_;refine gz9 ?_;refine dq (uCl zjt rfl (zbP hgp.1)) ?_;refine gz3 ?_;refine uCo (fun h1=> ?_) fun h2=> ?_
 refine gz4 ?_;refine uRp ?_
 simp_all [playFault]
 refine gz3 ?_;refine dq (uCl zmz rfl zcW) ?_;refine gz4 ?_;refine uGr rfl (fun hc=>uCl ztl rfl zcV) ?_;refine gz5 ?_;refine uGr rfl (fun hc=>uCl zwL rfl zeH) ?_;refine gz4 ?_;refine uCo (fun h3=> ?_) fun h4=> ?_
 refine gz4 ?_;refine uRp ?_
 simp_all [playFault]
 refine gz3 ?_;refine dq (uCl zjt rfl (zbP hgp.2.1)) ?_;refine gz4 ?_;refine uGr rfl (fun hc=>uCl zjt rfl (zbP hgp.2.2.1)) ?_;refine gz5 ?_;refine uGr rfl (fun hc=>uCl zjt rfl (zbP hgp.2.2.2)) ?_;refine gz4 ?_;refine uCo (fun h5=> ?_) fun h6=> ?_
 refine gz4 ?_;refine uRp ?_
 simp_all [playFault]
 refine gz3 ?_;refine dq (uCl zmz rfl zcW) ?_;refine gz6 ?_;have hN:=ze8 (n:=p.No) (lo:=1) (hi:=3000) uSa;refine gz1 ?_;refine uGr rfl (fun hc=>uCl zmz rfl zcW) ?_;refine gz4 ?_;refine uCo (fun h7=> ?_) fun h8=> ?_
 refine gz4 ?_;refine uRp ?_
 simp_all [playFault]
 refine zcl ?_;refine uCo (fun h9=> ?_) fun h10=> ?_
 refine gz4 ?_;refine uRp ?_
 simp_all [playFault]
 refine gz7 ?_;refine uRp ?_
 simp_all [playFault]
theorem znG [Tracks] {a b:Play}:ConP prog 121 [zas a,zas b] (.int .i64 (byNo a b)):=by
 refine uOb func121 ntmps121 ?_;refine gz5 ?_;refine uDr mixed ?_;refine gz4 ?_;refine uB 4 rfl (uCl zcf rfl zL) ?_;refine gz4 ?_;refine uB 9 rfl (uCl zc2 rfl zS) ?_;refine uB 10 rfl (za (hs:=[_,_]) z8 ty3 rfl rfl (by decide) (by decide) rfl) ?_;refine uB 11 rfl (uCl zfD rfl (zbe (l:=[_,_]) (by simp))) ?_;refine gz3 ?_;refine zw rfl ?_
 rfl
theorem zk4 [Tracks] {l:List Play} (hl:l.length<=1000000) (hgl: ∀x∈l,zdg x):ConP prog 50 [zb0 l] (.int .i64 (zcb l)):=by
 refine uOb func50 ntmps50 ?_;refine gz9 ?_;refine uCo (fun h1=> ?_) fun h2=> ?_
 refine gz4 ?_;refine zat Ghost.clear rfl ⟨?_,rfl⟩
 show HVal.int .i64 _=_
 (rw [zcb,if_pos uO])
 refine gz3 ?_;refine de rfl (zaG fun m12=> ?_)
 refine de rfl (zaG fun m13=> ?_)
 refine zd3 ?_;refine uT1 [2,1,5,4,16,48] (fun k=>[(16,.int .i64 k),(5,.bool (zbv (l.take k)).c)]) (fun k=>[.map m13 (sk (em (.int .i64) (zbv (l.take k)).W)),.map m12 (sk (zaU (zbv (l.take k)).S))]) (fun k=>k<=l.length/\(zb7 l 0 l=zb7 l k (l.drop k)/\∀y∈l.take k,playFault y=0)) (fun k=>l.length-k) (0) ?_ ?_;exact ⟨Ad _,rfl,by simp⟩;rintro k ⟨hk,hg,hok⟩;refine gz4 ?_;refine uCo (fun h3=> ?_) fun h4=> ?_
 obtain ⟨x,hx⟩: ∃x,l[k]? =some x:=⟨_,Aa h3⟩
 have hdx:=zi hx;rw [hdx] at hg;refine gz8 ?_;refine de rfl (zj zb1 rfl fun b7=> ?_)
 refine gz1 ?_;refine de0 (zp zb1 rfl rfl rfl rfl rfl ?_)
 refine gz1 ?_;refine ze (zk 7 rfl) ?_;refine gz3 ?_;refine dq (uCl zD8 rfl (zlH (hgl x (Ab hx)))) ?_;refine gz6 ?_;refine uCo (fun h5=> ?_) fun h6=> ?_
 refine gz5 ?_;refine zat Ghost.clear rfl ⟨?_,rfl⟩
 show HVal.int .i64 _=_
 (rw [zkT uO (by rw [hg,zb7,if_pos (by simpa using h5)]) (by simpa using h5)])
 refine gz3 ?_;refine uDr mixed ?_;refine gz6 ?_;refine uGy 6 rfl rfl (fun hc=>by have hq:=hc;(try simp at hq);exact zy (j:=k-1) (a:=l.getD (k-1) zmP) zho zb1 rfl rfl uO (getD_some uO)) ?_;refine gz2 ?_;refine uGy 9 rfl rfl (fun hc=>uCl zD9 rfl znG) ?_;refine gz3 ?_;refine uCo (fun h7=> ?_) fun h8=> ?_
 refine gz4 ?_;refine zat Ghost.clear rfl ⟨?_,rfl⟩
 show HVal.int .i64 _=_
 (rw [zkT (c:=7) uO (by rw [hg,zb7,if_neg (by simpa using h6),if_pos (by obtain ⟨qa,qb⟩:=h7;have qb':0<=byNo (l.getD (k-1) zmP) x:=(by simpa using qb);rw [zr9];exact ⟨by omega,by omega⟩)]) (by decide)])
 refine gz6 ?_;refine de0 (zcX (i:=1) ziK ty9 rfl rfl rfl rfl ?_)
 refine gz7 ?_;refine dgl rfl rfl (fun hc=>⟨_,OpenTo.upd (t:=45) rfl (hc) (OpenTo.upd (t:=43) rfl (hc) (OpenTo.refl _)),zfp (i:=0) (z0:=(0:Int)) zeG ty9 ty3 rfl rfl rfl rfl ⟨rfl,rfl⟩⟩) ?_;refine gz5 ?_;refine dgl rfl rfl (fun hc=>⟨_,OpenTo.upd (t:=51) rfl (hc) (OpenTo.upd (t:=49) rfl (hc) (OpenTo.refl _)),zfp (i:=0) (z0:=(0:Int)) zeG ty9 ty3 rfl rfl rfl rfl ⟨rfl,rfl⟩⟩) ?_;refine zd3 ?_;refine de0 (zdB (i:=0) zeG ty9 rfl rfl rfl rfl ?_)
 refine gz7 ?_;refine ⟨k+1,⟨by omega,?_,?_⟩,uD,⟨rfl,?_,trivial⟩,uK,?_⟩
 rw [hg,zmQ (by simpa using h6) (fun hk0=>by have hz:=h8;rw [zr9] at hz;simp_all;try omega)]
 intro y hy
 rw [z6 hx] at hy
 rcases List.mem_append.1 hy with hy|hy
 exact hok y hy;rw [List.mem_singleton.1 hy];simpa using h6;rw [ze6 hx,<-zBY hok];exact congrArg (fun b=>some (HVal.bool b)) (by cases (zbv (l.take k)).c<;>simp);exact zm (by dsimp only;rw [ze6 hx];rfl);have hnk:l.length<=k:=by omega
 obtain rfl:k=l.length:=by omega
 rw [zH (Af _)] at hg;rw [Ak];refine gz2 ?_;refine zt ?_;refine gz4 ?_;have e1:(sk (zaU (zbv l).S)).length=(zbv l).S.length:=by simp [sk,zaU]
 have e2:(sk (em (HVal.int .i64) (zbv l).W)).length=(zbv l).W.length:=by simp [sk]
 refine gz2 ?_;refine de rfl (zeg (i:=1) ziK rfl rfl ?_)
 refine gz3 ?_;refine dgl rfl rfl (fun hc=>⟨_,OpenTo.upd (t:=69) rfl (hc) (OpenTo.refl _),zeg (i:=0) zeG rfl rfl ⟨rfl,rfl⟩⟩) ?_;refine gz4 ?_;refine uCo (fun h9=> ?_) fun h10=> ?_
 refine gz4 ?_;refine zat Ghost.clear rfl ⟨?_,rfl⟩
 show HVal.int .i64 _=_
 (rw [zfr uO hg,ze0,if_pos uO])
 refine gz4 ?_;refine uCo (fun h11=> ?_) fun h12=> ?_
 refine gz4 ?_;refine zat Ghost.clear rfl ⟨?_,rfl⟩
 show HVal.int .i64 _=_
 (rw [zfr uO hg,ze0,if_neg uO,if_pos (by assumption)])
 refine gz7 ?_;refine zat Ghost.clear rfl ⟨?_,rfl⟩
 show HVal.int .i64 _=_
 (rw [zfr uO hg,ze0,if_neg uO,if_neg uSa])
theorem zk5 [Tracks] {l:List Str} (hl:l.length<=1000000) (hs: ∀s∈l,Sh s):ConP prog 115 [eSs l] (.int .i64 (zcc l)):=by
 refine uOb func115 ntmps115 ?_;refine gz9 ?_;refine uCo (fun h1=> ?_) fun h2=> ?_
 refine gz4 ?_;refine uRp ?_
 (rw [zcc,if_pos uO])
 refine gz9 ?_;refine uT1 [2,3,10,16] (fun k=>[(10,.int .i64 k)]) (fun k=>[]) (fun k=>k<=l.length/\(zcc l=zec l k (l.drop k))) (fun k=>l.length-k) (0) ?_ ?_;refine ⟨Ad _,?_⟩
 rw [zcc,if_neg uO];rfl;rintro k ⟨hk,hg⟩;refine gz4 ?_;refine uCo (fun h3=> ?_) fun h4=> ?_
 obtain ⟨x,hx⟩: ∃x,l[k]? =some x:=⟨_,Aa h3⟩
 have hdx:=zi hx;rw [hdx] at hg;refine zdm ?_;refine dq (uCl zjt rfl (zbP (hs x (Ab hx)))) ?_;refine gz3 ?_;refine uCo (fun h5=> ?_) fun h6=> ?_
 refine gz4 ?_;refine uRp ?_
 (rw [hg];simp_all [zec])
 refine gz3 ?_;refine dq (zaP zq ty9 rfl rfl ⟨_,_,rfl,rfl⟩ uO uO) ?_;refine gz1 ?_;refine dq (uCl zfX rfl (zC uSo)) ?_;refine gz2 ?_;refine uCo (fun h7=> ?_) fun h8=> ?_
 refine gz4 ?_;refine uRp ?_
 (rw [hg];simp_all [zec])
 refine gz8 ?_;refine ⟨k+1,?_,?_,⟨rfl,trivial⟩,uK,Ac _⟩
 refine ⟨by omega,?_⟩
 rw [hg];simp_all [zec]
 dsimp only;omega
 have hnk:l.length<=k:=by omega
 obtain rfl:k=l.length:=by omega
 rw [zH (Af _)] at hg;refine gz2 ?_;refine zt ?_;refine gz6 ?_;refine uRp ?_
 (rw [hg];simp_all [zec])
end
end Go.Proofs.YtbmggbfabohegaaGreatDoor
namespace Go.HL
section
open Go.Proofs Go.Shelf
variable {P:Program}
end
section

end
section
section
variable {P:Program}
end
section
variable {P:Program} {e:Env} {dst:Option Tmp} {ty:TypeId} {pos:String} {af:Array Edge} {g:Option (Nat×Bool)}
end
end
section
section
variable {P:Program}
end
end
end Go.HL
namespace Go.Proofs.YtbmggbfabohegaaGreatDoor
set_option maxRecDepth 100000
set_option linter.unusedVariables false
set_option linter.unusedSimpArgs false
section
open Go.Proofs.Tryz
open Go.HL
theorem zro [Tracks] {x:Nat} (hx:x<16):Con prog 261 [.int .u64 (x:Int)] [] (fun y M'=> ∃n:Int,y= .int .i64 n/\M'=[]):=by
 refine uOb func261 ntmps261 ?_;refine gz8 ?_;refine zX rfl (fun h1=> ?_) (fun h1=> ?_)
 exfalso
 try simp at h1
 omega
 try simp at h1
 refine gz7 ?_;refine zX rfl (fun h2=> ?_) (fun h2=> ?_)
 exfalso
 try simp at h2
 omega
 try simp at h2
 refine gz7 ?_;refine zX rfl (fun h3=> ?_) (fun h3=> ?_)
 exfalso
 try simp at h3
 omega
 try simp at h3
 refine gz5 ?_;refine dq (zcd zo7 ty5 rfl) ?_;refine dq (zaO (j:=x) ty9 rfl rfl (zGx hx) (Aa (Nat.lt_of_lt_of_le hx (Ao (by kernel_rfl))))) ?_;refine dq (zcd ty5 ty3 rfl) ?_;refine dq (zoX rfl rfl) ?_;refine gz3 ?_;exact zad rfl ⟨_,rfl,rfl⟩
theorem zt5 [Tracks] {x:Nat} (hx:x<16):Con prog 188 [.int .u64 (x:Int)] [] (fun y M'=> ∃n:Int,y= .int .i64 n/\M'=[]):=by
 refine uOb func188 ntmps188 ?_;refine gz4 ?_;refine zdC rfl ?_;refine gz4 ?_;refine de rfl (za7 (M1:=[]) (R:=[]) zBr rfl (WeakL.refl _) (Ac _) (zro hx) ?_)
 rintro _ _ ⟨n7,rfl,rfl⟩;refine gz3 ?_;exact zad rfl ⟨_,rfl,rfl⟩
theorem zfe [Tracks] {l:List Asset} {v:Value} {fid:FuncId} {caps:List HVal} {c:Asset->Asset->Int} {n:Int} (hca:Callable prog fid) (hp: ∀x y,ConP prog fid ([zbZ x,zbZ y]++caps) (.int .i64 (c x y))) (hn:n=l.length) (hl:l.length<=1000000):Con prog 331 [.raw v,.int .i64 0,.int .i64 n,.fn (.func fid) [] caps] [.arr v 3 (l.map zbZ)] (fun x M'=>x= .tup []/\M'=[.arr v 3 ((zaj c l).map zbZ)]):=by
 subst hn;refine uOb func331 ntmps331 ?_;refine gz6 ?_;refine uV1 [8,2,12,41] (fun (k:Nat)=>[(8,.int .i64 (k:Int))]) (fun (k:Nat)=>[.arr v 3 ((zaj c (l.take k)++l.drop k).map zbZ)]) (fun (k:Nat)=>1<=k) (fun (k:Nat)=>l.length-k) (1) ?_ ?_ ?_ ?_;exact Af _;exact ⟨rfl,trivial⟩;exact zm (by rw [zlt])
 intro k hk
 refine gz6 ?_;refine uCo (fun h1=> ?_) fun h2=> ?_
 obtain ⟨x,hx⟩: ∃x,l[k]? =some x:=⟨_,Aa uO⟩
 refine zdi (i:=0) rfl (fun h0 he=> ?_) (fun b off cap hv hcap=> ?_)
 exfalso;have:=congrArg List.length he;simp [za8] at this;omega
 rw [show ((zaj c (l.take k)++l.drop k).map zbZ).length=l.length by simp [za8];omega] at hv;subst hv;refine gz9 ?_;refine uV2 [9,1,18,35] (fun (A:List Asset) (B:List Asset)=>[(9,.int .i64 (A.length:Int))]) (fun (A:List Asset) (B:List Asset)=>[.arr (.slice (some ⟨b,off,none⟩) l.length cap) 3 ((A++x::(B++l.drop (k+1))).map zbZ)]) (fun (A:List Asset) (B:List Asset)=>A.length+B.length=k/\zdu c x (zaj c (l.take k))=zdu c x A++B) (fun (A:List Asset) (B:List Asset)=>A.length) (zaj c (l.take k)) ([]) ?_ ?_ ?_ ?_;exact ⟨by simp [za8];omega,by simp⟩;exact ⟨zP (by simp [za8];omega),trivial⟩;exact zm (by rw [zi hx];rfl)
 intro A B hinv
 obtain ⟨hA,hB⟩:=hinv;have hlA:A.length<l.length:=by omega
 have hll:((A++x::(B++l.drop (k+1)))).length=l.length:=by simp;omega
 refine gz1 ?_;refine zbT (fun M=>M=[.arr (.slice (some ⟨b,off,none⟩) l.length cap) 3 ((A++x::(B++l.drop (k+1))).map zbZ)]) [8,13] mixed ?_;refine gz7 ?_;refine ahg 7 rfl rfl (by kernel_rfl) (by kernel_rfl) rfl (fun hc=>by
  have hq:0<A.length:=by simpa using hc
  exact ⟨_,OpenTo.upd (t:=24) rfl (hc) (OpenTo.upd (t:=23) rfl (hc) (OpenTo.refl _)),zx (j:=A.length) zgx zcp rfl rfl (by rfl) uO⟩) ?_
 refine zpB 8 rfl rfl (by kernel_rfl) (by kernel_rfl) (by simp) rfl rfl (fun hc=>⟨_,OpenTo.upd (t:=25) rfl (hc) (OpenTo.refl _),fun M hM=>by
  subst hM;exact zab (i:=0) (j:=A.length) zcp rfl rfl rfl zgp rfl rfl rfl ⟨rfl,rfl⟩
  ⟩) ?_
 refine gz2 ?_;refine ahg 11 rfl rfl (by kernel_rfl) (by kernel_rfl) rfl (fun hc=>by
  have hq:0<A.length:=by simpa using hc
  exact ⟨_,OpenTo.upd (t:=28) rfl (hc) (OpenTo.refl _),zem rfl rfl uO uO⟩) ?_
 refine ahg 12 rfl rfl (by kernel_rfl) (by kernel_rfl) rfl (fun hc=>by
  have hq:0<A.length:=by simpa using hc
  exact ⟨_,OpenTo.upd (t:=29) rfl (hc) (OpenTo.upd (t:=27) rfl (hc) (OpenTo.refl _)),zx (j:=A.length-1) zgx zcp rfl rfl uO uO⟩) ?_
 refine zpB 13 rfl rfl (by kernel_rfl) (by kernel_rfl) (by simp) rfl rfl (fun hc=>⟨_,OpenTo.upd (t:=30) rfl (hc) (OpenTo.refl _),fun M hM=>by
  have hq:0<A.length:=by simpa using hc
  subst hM;exact zab (i:=0) (j:=A.length-1) zcp rfl rfl rfl (zhU hq) rfl rfl rfl ⟨rfl,rfl⟩
  ⟩) ?_
 refine uGy 14 rfl rfl (fun hc=>zal hca rfl rfl (WeakL.refl _) (hp _ _)) ?_;refine gz3 ?_;refine uCo (fun h3=> ?_) fun h4=> ?_
 obtain ⟨hA0,hcx⟩:=h3;obtain ⟨A1,y,rfl⟩:=zo2 hA0;rw [zi6] at hcx;refine gz4 ?_;refine zbj (fun M=>M=[.arr (.slice (some ⟨b,off,none⟩) l.length cap) 3 (((A1++[y])++x::(B++l.drop (k+1))).map zbZ)]) [9,13] mixed ?_;refine gz8 ?_;refine uB 8 rfl (zx (j:=(A1++[y]).length-1) zgx zcp rfl rfl uO uO) ?_;refine uM 9 rfl rfl (uW (zab (i:=0) (j:=(A1++[y]).length-1) zcp rfl rfl rfl ((zhU hA0).trans (by rw [zi6])) rfl rfl rfl ⟨rfl,rfl⟩)) ?_;refine gz2 ?_;refine uB 12 rfl (zx (j:=(A1++[y]).length) zgx zcp rfl rfl rfl uO) ?_;refine uM 13 rfl rfl (uW (zab (i:=0) (j:=(A1++[y]).length) zcp rfl rfl rfl zgp rfl rfl rfl ⟨rfl,rfl⟩)) ?_;refine uB 14 rfl (zx (j:=(A1++[y]).length) zgx zcp rfl rfl rfl uO) ?_;refine uF 15 ?_;refine zD (za2 (i:=0) (j:=(A1++[y]).length) (y:=x) (y':=y) zcp rfl rfl rfl rfl zgp rfl rfl rfl ?_)
 refine ⟨uE,?_⟩
 refine uB 16 rfl (zx (j:=(A1++[y]).length-1) zgx zcp rfl rfl uO uO) ?_;refine uF 17 ?_;refine zD (za2 (i:=0) (j:=(A1++[y]).length-1) (y:=y) (y':=x) zcp rfl rfl rfl rfl (by rw [A7 (by simp)];exact (zhU hA0).trans (by rw [zi6])) rfl rfl rfl ?_)
 refine ⟨uE,?_⟩
 refine gz8 ?_;exact ⟨A1,y::B,⟨by simp at hA⊢;omega,zpT hB hcx⟩,by dsimp only;simp,⟨zP (by simp),trivial⟩,uK,zm (by rw [zp3];rfl)⟩;have hins:=zpS (l:=l) (k:=k) hx hB (by intro h0;have:=h4 h0;omega);refine gz2 ?_;refine zM ?_;refine gz8 ?_;refine ⟨k+1,?_,?_,⟨rfl,trivial⟩,uK,zm (by rw [hins])⟩
 omega
 dsimp only;omega
 have hend:zaj c (l.take k)++l.drop k=zaj c l:=by rw [AZ uO,zH uO];simp
 refine gz2 ?_;refine zt ?_;refine gz1 ?_;exact ⟨_,_,Ghost.sub (Sub.refl _),_,_,rfl,Weak.refl _,rfl,by rw [hend]⟩
theorem zgP [Tracks] {l:List Asset} {v:Value} {fid:FuncId} {caps:List HVal} {c:Asset->Asset->Int} {lim:Int} (hca:Callable prog fid) (hp: ∀x y,ConP prog fid ([zbZ x,zbZ y]++caps) (.int .i64 (c x y))) (hl:l.length<=12):Con prog 285 [.raw v,.int .i64 0,.int .i64 (l.length:Int),.int .i64 lim,.fn (.func fid) [] caps] [.arr v 3 (l.map zbZ)] (fun x M'=>x= .tup []/\M'=[.arr v 3 ((zaj c l).map zbZ)]):=by
 refine uOb func285 ntmps285 ?_;refine gz7 ?_;refine uU1 [1,3,10,138] (fun (u:Unit)=>[(1,.int .i64 0),(2,.int .i64 (l.length:Int))]) (fun (u:Unit)=>[.arr v 3 (l.map zbZ)]) (fun (u:Unit)=>True) (fun (u:Unit)=>0) (()) ?_ ?_
 trivial
 intro u hu
 refine zdb ?_;refine zX rfl (fun h1=> ?_) (fun h1=> ?_)
 try simp at h1
 refine gz5 ?_;refine de rfl (uCx 0 zFP rfl rfl (zfe (l:=l) hca hp uO uO) ?_)
 rintro _ _ ⟨rfl,rfl⟩;refine gz2 ?_;exact zad rfl ⟨rfl,rfl⟩
 exfalso
 try simp at h1
 omega
theorem zfK [Tracks] {l:List Asset} {v:Value} {fid:FuncId} {caps:List HVal} {c:Asset->Asset->Int} (hca:Callable prog fid) (hp: ∀x y,ConP prog fid ([zbZ x,zbZ y]++caps) (.int .i64 (c x y))) (hl:l.length<=12):Con prog 230 [.raw v,.fn (.func fid) [] caps] [.arr v 3 (l.map zbZ)] (fun x M'=>x= .tup []/\M'=[.arr v 3 ((zaj c l).map zbZ)]):=by
 refine uOb func230 ntmps230 ?_;refine gz2 ?_;refine de rfl (zaT (i:=0) zgx rfl rfl ?_)
 refine gz6 ?_;refine dq (zU (zcd ty3 zkY rfl) (congrArg _ (zC2 uO))) ?_;refine de rfl (za7 (M1:=[]) (R:=[_]) zA9 rfl (WeakL.refl _) (Ac _) (zt5 (x:=l.length) uO) ?_)
 rintro _ _ ⟨n11,rfl,rfl⟩;refine gz1 ?_;refine de rfl (uCx 0 zFE rfl rfl (zgP hca hp hl) ?_)
 rintro _ _ ⟨rfl,rfl⟩;refine gz1 ?_;exact ⟨_,_,Ghost.sub (Sub.refl _),_,_,rfl,Weak.refl _,rfl,rfl⟩
end
section
open Go.HL
set_option linter.unusedSimpArgs false
end
section
open Go.Proofs.Tryz
open Go.HL
theorem znY [Tracks] {x:Asset}:ConP prog 151 [zbZ x] (.int .i64 (assetFault x)):=by
 refine uOb func151 ntmps151 ?_;refine gz9 ?_;refine dq (uCl zbH rfl zaf) ?_;refine gz4 ?_;refine uGr rfl (fun hc=>uCl zbH rfl zaf) ?_;refine gz4 ?_;refine uCo (fun h1=> ?_) fun h2=> ?_
 refine gz4 ?_;refine uRp ?_
 simp_all [assetFault]
 refine gz3 ?_;refine dq (uCl zcy rfl zag) ?_;refine gz2 ?_;refine uCo (fun h3=> ?_) fun h4=> ?_
 refine gz4 ?_;refine uRp ?_
 simp_all [assetFault]
 refine gz7 ?_;refine uRp ?_
 simp_all [assetFault]
theorem znr [Tracks] {l:List Asset} (hl:l.length<=1000000):ConP prog 69 [zjM l] (.int .i64 (zdz l)):=by
 refine uOb func69 ntmps69 ?_;refine gz9 ?_;refine uCo (fun h1=> ?_) fun h2=> ?_
 refine gz4 ?_;refine uRp ?_
 (rw [zdz,if_pos uO])
 refine gz9 ?_;refine uT1 [2,4,11,24] (fun k=>[(11,.int .i64 k)]) (fun k=>[]) (fun k=>k<=l.length/\(zdz l=ze3 l k (l.drop k))) (fun k=>l.length-k) (0) ?_ ?_;refine ⟨Ad _,?_⟩
 rw [zdz,if_neg uO];rfl;rintro k ⟨hk,hg⟩;refine gz4 ?_;refine uCo (fun h3=> ?_) fun h4=> ?_
 obtain ⟨x,hx⟩: ∃x,l[k]? =some x:=⟨_,Aa h3⟩
 have hdx:=zi hx;rw [hdx] at hg;refine gz8 ?_;refine de rfl (zj zcp rfl fun b4=> ?_)
 refine gz1 ?_;refine de0 (zp zcp rfl rfl rfl rfl rfl ?_)
 refine gz1 ?_;refine ze (zk 4 rfl) ?_;refine gz3 ?_;refine dq (uCl zEr rfl znY) ?_;refine gz6 ?_;refine uCo (fun h5=> ?_) fun h6=> ?_
 refine gz5 ?_;refine uRp ?_
 (rw [hg];simp_all [ze3,leS])
 refine gz2 ?_;refine uDr mixed ?_;refine gz8 ?_;refine uGy 8 rfl rfl (fun hc=>by have hq:=hc;(try simp at hq);exact zy (j:=k-1) (a:=l.getD (k-1) zjX) zgx zcp rfl rfl uO (getD_some uO)) ?_;refine gz5 ?_;refine uCo (fun h7=> ?_) fun h8=> ?_
 refine gz4 ?_;refine uRp ?_
 (rw [hg];simp_all [ze3,leS])
 refine gz7 ?_;refine ⟨k+1,?_,?_,⟨rfl,trivial⟩,uK,Ac _⟩
 refine ⟨by omega,?_⟩
 rw [hg];simp_all [ze3,leS]
 dsimp only;omega
 have hnk:l.length<=k:=by omega
 obtain rfl:k=l.length:=by omega
 rw [zH (Af _)] at hg;refine gz2 ?_;refine zt ?_;refine gz6 ?_;refine uRp ?_
 (rw [hg];simp_all [ze3,leS])
theorem zns [Tracks] {l:List HL.Place} (hl:l.length<=1000000):ConP prog 70 [zoQ l] (.int .i64 (zdA l)):=by
 refine uOb func70 ntmps70 ?_;refine gz9 ?_;refine uCo (fun h1=> ?_) fun h2=> ?_
 refine gz4 ?_;refine uRp ?_
 (rw [zdA,if_pos uO])
 refine gz9 ?_;refine uT1 [2,3,10,29] (fun k=>[(10,.int .i64 k)]) (fun k=>[]) (fun k=>k<=l.length/\(zdA l=zev l k (l.drop k))) (fun k=>l.length-k) (0) ?_ ?_;refine ⟨Ad _,?_⟩
 rw [zdA,if_neg uO];rfl;rintro k ⟨hk,hg⟩;refine gz4 ?_;refine uCo (fun h3=> ?_) fun h4=> ?_
 obtain ⟨x,hx⟩: ∃x,l[k]? =some x:=⟨_,Aa h3⟩
 have hdx:=zi hx;rw [hdx] at hg;refine gz8 ?_;refine de rfl (zj zkX rfl fun b4=> ?_)
 refine gz1 ?_;refine de0 (zp zkX rfl rfl rfl rfl rfl ?_)
 refine gz1 ?_;refine ze (zk 4 rfl) ?_;refine gz4 ?_;refine dq (uCl zbH rfl zaf) ?_;refine gz3 ?_;refine uCo (fun h5=> ?_) fun h6=> ?_
 refine gz4 ?_;refine uRp ?_
 (rw [hg];simp_all [zev,leS])
 refine gz3 ?_;refine dq (uCl zcy rfl zag) ?_;refine gz2 ?_;refine uCo (fun h7=> ?_) fun h8=> ?_
 refine gz4 ?_;refine uRp ?_
 (rw [hg];simp_all [zev,leS])
 refine uDr mixed ?_;refine gz8 ?_;refine uGy 8 rfl rfl (fun hc=>by have hq:=hc;(try simp at hq);exact zy (j:=k-1) (a:=l.getD (k-1) zuN) zxL zkX rfl rfl uO (getD_some uO)) ?_;refine gz6 ?_;refine uCo (fun h9=> ?_) fun h10=> ?_
 refine gz4 ?_;refine uRp ?_
 (rw [hg];simp_all [zev,leS])
 refine gz8 ?_;refine ⟨k+1,?_,?_,⟨rfl,trivial⟩,uK,Ac _⟩
 refine ⟨by omega,?_⟩
 rw [hg];simp_all [zev,leS]
 dsimp only;omega
 have hnk:l.length<=k:=by omega
 obtain rfl:k=l.length:=by omega
 rw [zH (Af _)] at hg;refine gz2 ?_;refine zt ?_;refine gz6 ?_;refine uRp ?_
 (rw [hg];simp_all [zev,leS])
theorem zqu [Tracks] {x y:Asset}:ConP prog 231 [zbZ x,zbZ y] (.int .i64 (byValue x y)):=by
 refine uOb func231 ntmps231 ?_;refine gz5 ?_;refine uDr mixed ?_;refine gz4 ?_;refine uB 4 rfl (uCl zc2 rfl zS) ?_;refine gz4 ?_;refine uB 9 rfl (uCl zcf rfl zL) ?_;refine uB 10 rfl (za (hs:=[_,_]) z8 ty3 rfl rfl (by decide) (by decide) rfl) ?_;refine uB 11 rfl (uCl zfD rfl (zbe (l:=[_,_]) (by simp))) ?_;refine gz3 ?_;refine zw rfl ?_
 rfl
theorem zwJ [Tracks] {l:List Asset} {pos:Str} (hl:l.length<=12):ConP prog 152 [zjM l,.str pos] (zjM (ofP l pos)):=by
 refine uOb func152 ntmps152 ?_;refine gz6 ?_;refine ze (zN 3) ?_;refine gz7 ?_;refine uV2 [5,1,7,1,10,13] (fun (k:Nat) (u:Value)=>[(10,.int .i64 k),(5,.raw u)]) (fun (k:Nat) (u:Value)=>[.arr u 3 ((zhI (l.take k) pos).map zbZ)]) (fun (k:Nat) (u:Value)=>k<=l.length/\(True)) (fun (k:Nat) (u:Value)=>l.length-k) (0) (.slice none 0 0) ?_ ?_ ?_ ?_;exact ⟨Ad _,by simp_all⟩;exact ⟨rfl,rfl,trivial⟩;exact zm (by simp [zhI])
 intro k u hinv
 obtain ⟨hk,-⟩:=hinv;refine gz4 ?_;refine uCo (fun h1=> ?_) fun h2=> ?_
 obtain ⟨x,hx⟩: ∃x,l[k]? =some x:=⟨_,Aa h1⟩
 have hdx:=zi hx;refine gz7 ?_;refine de rfl (zj zcp rfl fun b7=> ?_)
 refine de0 (zp zcp rfl rfl rfl rfl rfl ?_)
 refine gz1 ?_;refine ze (zk 7 rfl) ?_;refine gz6 ?_;refine uCo (fun h3=> ?_) fun h4=> ?_
 refine gz3 ?_;refine dq (za (hs:=[_]) zgx zcp rfl rfl (by decide) (by decide) rfl) ?_;have hal:(zhI (l.take k) pos).length<=12:=Aq (zpC _ _) uSo;refine de rfl (zK (i:=0) zgx zcp rfl rfl rfl rfl rfl (by simp [zar,zb]) uSo fun v21=> ?_)
 refine gz8 ?_;exact ⟨k+1,_,⟨by omega,trivial⟩,uD,⟨rfl,rfl,trivial⟩,uK,zm (by dsimp only;rw [zqc hx,if_pos uSa];simp)⟩;refine gz7 ?_;exact ⟨k+1,_,⟨by omega,trivial⟩,uD,⟨rfl,rfl,trivial⟩,uK,zm (by dsimp only;rw [zqc hx,if_neg uSa];simp)⟩;have hnk:l.length<=k:=by omega
 obtain rfl:k=l.length:=by omega
 rw [Ak];refine gz2 ?_;refine zM ?_;refine gz2 ?_;have hal:=zpC l pos;refine gz2 ?_;refine de rfl (uCx 0 zE7 rfl rfl (zfK (l:=zhI l pos) (c:=byValue) (caps:=[]) zE8 (fun x y=>zqu) uO) ?_)
 rintro _ _ ⟨rfl,rfl⟩;refine gz6 ?_;exact zlZ (M:=[]) 4 rfl rfl rfl
theorem zqv [Tracks] {l:List Asset} {p:List HL.Place} (hl:l.length<=12) (hp:p.length<=10) (hm: ∀x∈p,0<=x.Many) (hv: ∀x∈l,-1000000<=x.Value/\x.Value<=1000000):ConP prog 71 [zjM l,zoQ p] (.tup [.int .i64 (zeT (zaB (ofP l) p)),eSs (zqV (zaB (ofP l) p))]):=by
 have hon: ∀s,(ofP l s).length<=12:=fun s=>Aq (zCw l s) hl
 refine uOb func71 ntmps71 ?_;refine zau ?_;refine ze (zN 1) ?_;refine gz7 ?_;refine uV2 [6,2,9,2,12,1,15,34] (fun (i:Nat) (u:Value)=>[(15,.int .i64 i),(6,.int .i64 (zeT (zaB (ofP l) (p.take i)))),(7,.raw u)]) (fun (i:Nat) (u:Value)=>[.arr u 1 (((zaB (ofP l) (p.take i)).map (·.Player)).map .str)]) (fun (i:Nat) (u:Value)=>i<=p.length/\(True)) (fun (i:Nat) (u:Value)=>p.length-i) (0) (.slice none 0 0) ?_ ?_ ?_ ?_;exact ⟨Ad _,by simp_all⟩;exact ⟨rfl,zP (by simp [zaB,zeT]),rfl,trivial⟩;exact zm (by simp [zaB])
 intro i u hinv
 obtain ⟨hi,-⟩:=hinv;refine gz4 ?_;refine uCo (fun h1=> ?_) fun h2=> ?_
 obtain ⟨x,hx⟩: ∃x,p[i]? =some x:=⟨_,Aa h1⟩
 have hdx:=zi hx;refine gz7 ?_;refine de rfl (zj zkX rfl fun b9=> ?_)
 refine de0 (zp zkX rfl rfl rfl rfl rfl ?_)
 refine gz1 ?_;refine ze (zk 9 rfl) ?_;refine gz4 ?_;refine dq (uCl zEs rfl (zwJ (by assumption))) ?_;refine gz2 ?_;have hx0:=hm x (Ab hx);have hon1:=hon x.Position;obtain ⟨N,hN⟩: ∃N:Nat,(if ((ofP l x.Position).length:Int)<x.Many then ((ofP l x.Position).length:Int) else x.Many)=(N:Int):=⟨_,(Int.toNat_of_nonneg (by split<;>omega)).symm⟩
 have hNle:N<=(ofP l x.Position).length:=by split at hN<;>omega
 refine gz6 ?_;refine dq (zU (zCI rfl rfl) (congrArg _ hN)) ?_;refine dq (zaP (h:=N) zgx zcp rfl rfl ⟨_,_,rfl,rfl⟩ uO hNle) ?_;refine gz3 ?_;have hCl:((List.drop 0 (List.take N (ofP l x.Position)))).length<=12:=by simp;omega
 have hCm: ∀y∈(List.drop 0 (List.take N (ofP l x.Position))),y∈l:=fun y hy=>by
  have:=AL (List.mem_of_mem_drop hy);unfold ofP zhI at this;exact (List.mem_filter.1 ((zej _).1 this)).1
 generalize hCd:List.drop 0 (List.take N (ofP l x.Position))=C at*
 refine gz1 ?_;refine uV2 [6,2,12,1,31,17] (fun (k:Nat) (w:Value)=>[(31,.int .i64 k),(6,.int .i64 (zeT ((zaB (ofP l) (p.take i))++((C.take k).filter (fun y=>decide (0<y.Value)))))),(7,.raw w)]) (fun (k:Nat) (w:Value)=>[.arr w 1 ((((zaB (ofP l) (p.take i))++((C.take k).filter (fun y=>decide (0<y.Value)))).map (·.Player)).map .str)]) (fun (k:Nat) (w:Value)=>k<=C.length/\(True)) (fun (k:Nat) (w:Value)=>C.length-k) (0) (u) ?_ ?_ ?_ ?_;exact ⟨Ad _,by simp_all⟩;exact ⟨rfl,zP (by simp),rfl,trivial⟩;exact zm (by simp)
 intro k w hinv
 obtain ⟨hk,-⟩:=hinv;refine gz4 ?_;refine uCo (fun h3=> ?_) fun h4=> ?_
 obtain ⟨y,hy⟩: ∃y,C[k]? =some y:=⟨_,Aa h3⟩
 have hdy:=zi hy;refine gz7 ?_;refine de rfl (zj zcp rfl fun b12=> ?_)
 refine de0 (zp zcp rfl rfl rfl rfl rfl ?_)
 refine gz1 ?_;refine ze (zk 12 rfl) ?_;refine gz5 ?_;refine uCo (fun h5=> ?_) fun h6=> ?_
 refine gz4 ?_;have hb1:=zun (f:=ofP l) (p:=p) (i:=i) (fun s m y=>zqP) hon hp hv;have hb2:=zDF (k:=k) hCm hCl hv;have hb3:=hv y (hCm y (Ab hy));have hb4:=zu8 (zaB (ofP l) (p.take i)) ((C.take k).filter (fun y=>decide (0<y.Value)));refine gz7 ?_;refine dq (za (hs:=[_]) zq ty9 rfl rfl (by decide) (by decide) rfl) ?_;refine de rfl (zK (i:=0) zq ty9 rfl rfl rfl rfl rfl (by simp [zar,zb]) (by simp only [Ah,Av,Ai,AB];omega) fun v46=> ?_)
 refine gz8 ?_;exact ⟨k+1,_,⟨by omega,trivial⟩,uD,⟨rfl,zP (by rw [zmT hy,if_pos uSa,<-AV,zu8 _ [y]];simp [zeT]),rfl,trivial⟩,uK,zm (by dsimp only;rw [zmT hy,if_pos uSa];simp)⟩;refine gz7 ?_;exact ⟨k+1,_,⟨by omega,trivial⟩,uD,⟨rfl,zP (by rw [zmT hy,if_neg uO];simp),rfl,trivial⟩,uK,zm (by dsimp only;rw [zmT hy,if_neg uO];simp)⟩;have hnk:C.length<=k:=by omega
 obtain rfl:k=C.length:=by omega
 refine gz2 ?_;refine zM ?_;refine gz7 ?_;exact ⟨i+1,_,⟨by omega,trivial⟩,uD,⟨rfl,zP (by rw [zng _ hx,zsb hN,hCd,Ak]),rfl,trivial⟩,uK,zm (by dsimp only;rw [zng _ hx,zsb hN,hCd,Ak])⟩;have hni:p.length<=i:=by omega
 obtain rfl:i=p.length:=by omega
 refine gz2 ?_;refine zM ?_;refine gz2 ?_;rw [Ak];refine gz2 ?_;refine de rfl (uCx 0 zEt rfl rfl (zs8 (l:=(zaB (ofP l) p).map (·.Player)) (by have hb1:=zun (f:=ofP l) (p:=p) (i:=p.length) (fun s m y=>zqP) hon hp hv;rw [Ak] at hb1;simp;omega)) ?_)
 rintro _ _ ⟨rfl,rfl⟩;refine gz8 ?_;exact zlZ (M:=[]) 5 rfl rfl rfl
end
section
open Go.Proofs.Tryz
open Go.HL
theorem zqt [Tracks] {l:List Asset} {p:List HL.Place} (hl:l.length<=11) (hp:p.length<=1000000):ConP prog 29 [zjM l,zoQ p] (.tup [.int .i64 (if zlw l p !=0 then 0 else zu7 l p),eSs (if zlw l p !=0 then [] else zqV (zaB (ofP l) p)),.int .i64 (zlw l p)]):=by
 refine uOb func29 ntmps29 ?_;refine gz8 ?_;refine dq (uCl ca69 rfl (znr uO)) ?_;refine gz1 ?_;refine dq (uCl ca70 rfl (zns (by assumption))) ?_;refine dq (za (hs:=[_,_]) zep zgJ rfl rfl (by decide) (by decide) rfl) ?_;refine dq (uCl zlj rfl (zck (l:=[_,_]) (by simp))) ?_;refine gz6 ?_;refine uCo (fun h1=> ?_) fun h2=> ?_
 refine gz7 ?_
 (refine zch rfl (zoI ?_ ?_ (Weak.refl _))
  rw [if_pos (by simpa [zlw] using h1)];exact Weak.refl _;rw [if_pos (by simpa [zlw] using h1)];exact zW 1)
 refine gz2 ?_;obtain ⟨hca0,hcp0⟩:=zCx (l:=l) (p:=p) (by simpa [zlw] using h2);obtain ⟨hsr,haf⟩:=zrA hca0;obtain ⟨hmm,hp10⟩:=zrB hcp0;have hvv: ∀x∈l,-1000000<=x.Value/\x.Value<=1000000:=fun x hx=>(zm8 (haf x hx)).2.2
 refine gz3 ?_;refine dq (uCl ca71 rfl (zqv uO (by assumption) uSa (by assumption))) ?_;refine zdm ?_
 (refine zw rfl ?_
  have h0:zlw l p=0:=by simpa [zlw] using h2
  simp [h0,zu7,zaz,za4])
end
section
open Go.Proofs.Tryz
open Go.HL
theorem zxs [Tracks]:KeyOk prog 366 zgE:=zf7 (cs:=fun x:Plc=>zb (zgE x)) zg3 zF0 (fun x y=>⟨rfl,⟨_,_,_,_,ty9,rfl⟩,rfl,⟨_,_,_,_,ty3,rfl⟩,trivial⟩)
 (fun x y=>by obtain ⟨a,b⟩:=x;obtain ⟨c,d⟩:=y;show (_&&(_&&true))=_;rw [AF];simp [eqH,Prod.mk.injEq]) (fun x=>rfl)
theorem zvn [Tracks] {c:LineS->LineS->Int} (hO:Go.Sort.SWO (Go.Proofs.ltOf c)) {g:FuncId} (hg:Callable prog g) {cap:List HVal} (hc: ∀x y, @ConP zhE prog g (zbQ x::zbQ y::cap) (.int .i64 (c x y))) {l:List LineS} (hl:l.length<=1000000) {v:Value}:
 Con prog 300 [.raw v,.fn (.func g) [] cap] [.arr v 3 (l.map zbQ)] fun x M'=> ∃l':List LineS,x= .tup []/\l'.Perm l/\l'.Pairwise (fun a b=> ¬c b a<0)/\M'=[.arr v 3 (l'.map zbQ)]:=
 zn4 (e:=zbQ) zxW (Tryz.isAgg109) (Tryz.sizeOf109) (fun _=>rfl) (fun _=>rfl) (fun _=>rfl) hO hg hc hl
theorem zhc [Tracks] {l:List StatS} (hl:l.length<=1000000):zww prog 297 [.slice 2 (l.map zbf)] 2 (l.map zbf):=by
 refine uOb func297 ntmps297 ?_;refine gz6 ?_;refine de rfl (zsc zb9 rfl rfl fun b4 hb4=> ?_)
 refine gz1 ?_;refine uCo (fun h1=> ?_) fun h2=> ?_
 refine gz4 ?_
 first|exact zxA rfl rfl|exact zat (zN 2) rfl ⟨_,rfl,by simp_all⟩
 refine gz3 ?_;refine de rfl (zvR zb9 zci fun v5=> ?_)
 refine gz1 ?_;refine de rfl (zK (i:=0) zb9 zci rfl rfl rfl rfl rfl (by simp [zar,zb]) (by first|omega|(simp;omega)) fun v7=> ?_)
 refine gz3 ?_
 first|exact zxA rfl rfl|exact zat (zN 2) rfl ⟨_,rfl,by simp_all⟩
theorem zfJ [Tracks] {l:List StatS} {fid:FuncId} {caps:List HVal} {p:StatS->Bool} {v:Value} (hca:Callable prog fid) (hp: ∀x,ConP prog fid ([zbf x]++caps) (.bool (p x))) (hl:l.length<=1000000):Con prog 298 [.raw v,.fn (.func fid) [] caps] [.arr v 2 (l.map zbf)] (fun x M'=> ∃u,x= .raw u/\M'=[.arr u 2 ((l.filter (fun x=> !p x)).map zbf)]):=by
 refine uOb func298 ntmps298 ?_;refine gz6 ?_;refine de rfl (zeY (hs':=[.slice 2 (l.map zbf),.fn (.func fid) [] caps]) zFQ rfl ⟨.arr (i:=0) rfl,.weak (Weak.refl _),trivial⟩ (zfV (p:=p) hca hp hl) rfl ?_)
 refine gz7 ?_;refine uCo (fun h1=> ?_) fun h2=> ?_
 ·refine gz5 ?_
  first
  | (refine zad rfl ⟨_,rfl,?_⟩
     rw [zhC p l 0 uO h1]
     done)
  | (refine zad rfl ⟨_,rfl,?_⟩
     rw [Ak,<-BG,hend];rfl)
 ·refine gz3 ?_;obtain ⟨i0,hi0,hil,⟨x0,hx0,hp0⟩,hb0⟩:=zgs p l 0 uO h2;rw [Cw] at hi0;obtain ⟨hD0,hn0⟩:=DelInv.start (p:=p) hil hx0 hp0 hb0;refine zdi (i:=0) rfl (fun h0 he=> ?_) (fun b off cap hv hcap=> ?_)
  ·exfalso;have:=congrArg List.length he;simp at this;subst this;simp at hil
  rw [Ah] at hv hcap;subst hv;refine gz2 ?_;refine dq (zU (zaX rfl rfl (by rw [hi0];omega) (by rw [hi0];omega)) (congrArg _ (by rw [hi0]))) ?_;refine gz3 ?_;refine uV2 [5,3,16,20] (fun (j:Nat) (D:List StatS)=>[(6,.int .i64 (j:Int)),(5,.int .i64 (((l.take j).filter (fun x=> !p x)).length:Int))]) (fun (j:Nat) (D:List StatS)=>[.arr (.slice (some ⟨b,off,none⟩) l.length cap) 2 (D.map zbf)]) (fun (j:Nat) (D:List StatS)=>DelInv p l j D) (fun (j:Nat) (D:List StatS)=>l.length-j) (i0+1) (l) ?_ ?_ ?_ ?_
  ·exact hD0
  ·exact ⟨rfl,zP (by rw [hn0,hi0]),trivial⟩
  ·exact Ac _
  ·intro j D hD
   have hlt0:=hD.lt;have hle0:=hD.len;refine gz4 ?_
   first
   |refine de rfl (zaT (i:=0) zb9 rfl rfl ?_)
   |refine de rfl (zaT (i:=1) zb9 rfl rfl ?_)
   |refine de rfl (zaT (i:=2) zb9 rfl rfl ?_)
   |refine de rfl (zaT (i:=3) zb9 rfl rfl ?_)
   refine gz2 ?_;refine uCo (fun h3=> ?_) fun h4=> ?_
   ·obtain ⟨x,hx⟩: ∃x,l[j]? =some x:=⟨_,Aa uO⟩
    refine gz7 ?_;refine dq (zx (j:=j) zb9 zci rfl rfl rfl uO) ?_;refine de rfl (zab (i:=0) (j:=j) zci rfl rfl rfl (hD.get hx) rfl rfl rfl ?_)
    refine de rfl (zj zci rfl fun b7=> ?_)
    refine de0 (zp zci rfl rfl rfl rfl rfl ?_)
    refine gz1 ?_;refine ze (zk 7 rfl) ?_;refine gz3 ?_;refine dq (zal hca rfl rfl (WeakL.refl _) (hp _)) ?_;refine gz2 ?_;refine uCo (fun h5=> ?_) fun h6=> ?_
    ·refine gz4 ?_;refine dq (zx (j:=((l.take j).filter (fun x=> !p x)).length) zb9 zci rfl rfl rfl (by have:=hD.lt;omega)) ?_;refine de0 (za2 (i:=0) (j:=((l.take j).filter (fun x=> !p x)).length) (y:=D[((l.take j).filter (fun x=> !p x)).length]'(by have:=hD.lt;have:=hD.len;omega)) (y':=x) zci rfl rfl rfl rfl (Aa _) rfl rfl rfl ?_)
     refine gz3 ?_;refine dq (zaX rfl rfl uO (by have:=hD.lt;omega)) ?_;refine gz9 ?_
     first
     |exact ⟨j+1,_,(hD.keep hx uSa).1,uD,⟨rfl,zP (by rw [(hD.keep hx uSa).2];rfl),trivial⟩,uK,Ac _⟩
     |exact ⟨j+1,_,(hD.skip hx uSa).1,uD,⟨rfl,zP (by rw [(hD.skip hx uSa).2]),trivial⟩,uK,Ac _⟩
    ·refine gz8 ?_
     first
     |exact ⟨j+1,_,(hD.keep hx uSa).1,uD,⟨rfl,zP (by rw [(hD.keep hx uSa).2];rfl),trivial⟩,uK,Ac _⟩
     |exact ⟨j+1,_,(hD.skip hx uSa).1,uD,⟨rfl,zP (by rw [(hD.skip hx uSa).2]),trivial⟩,uK,Ac _⟩
   ·obtain rfl:j=l.length:=by have:=hD.jle;omega
    have hend:=hD.done;refine gz2 ?_;refine zM ?_;refine gz5 ?_;refine dq (ze1 (l:=((l.take l.length).filter (fun x=> !p x)).length) zb9 zci rfl ⟨_,_,rfl,rfl⟩ rfl uO uO hcap) ?_;refine de0 (zeM (i:=0) (m:=((l.take l.length).filter (fun x=> !p x)).length) (((l.take l.length).filter (fun x=> !p x)).length) zb9 zci rfl rfl rfl (ziA uO hcap) rfl uO (Af _) (by rw [Ah,hD.len];omega) ?_)
    refine gz4 ?_;refine dq (zgv (h:=((l.take l.length).filter (fun x=> !p x)).length) zb9 zci rfl ⟨_,_,rfl,rfl⟩ uO) ?_;refine gz3 ?_
    first
    | (refine zad rfl ⟨_,rfl,?_⟩
       rw [zhC p l 0 uO h1]
       done)
    | (refine zad rfl ⟨_,rfl,?_⟩
       rw [Ak,<-BG,hend];rfl)
theorem zpL [Tracks] {a b:MendS}:ConP prog 218 [zbV a,zbV b] (.int .i64 (zeA a b)):=by
 refine uOb func218 ntmps218 ?_;refine gz5 ?_;refine uDr mixed ?_;refine gz4 ?_;refine uB 4 rfl (uCl zcf rfl zL) ?_;refine gz4 ?_;refine uB 9 rfl (uCl zc2 rfl zS) ?_;refine gz4 ?_;refine uB 14 rfl (uCl zcf rfl zL) ?_;refine gz4 ?_;refine uB 19 rfl (uCl zc2 rfl zS) ?_;refine uB 20 rfl (za (hs:=[_,_,_,_]) z8 ty3 rfl rfl (by decide) (by decide) rfl) ?_;refine uB 21 rfl (uCl zfD rfl (zbe (l:=[_,_,_,_]) (by simp))) ?_;refine gz3 ?_;refine zw rfl ?_
 rfl
theorem zna [Tracks] {a b:LineS}:ConP prog 296 [zbQ a,zbQ b] (.int .i64 (zc8 a b)):=by
 refine uOb func296 ntmps296 ?_;refine gz5 ?_;refine uDr mixed ?_;refine gz4 ?_;refine uB 4 rfl (uCl zcf rfl zL) ?_;refine gz4 ?_;refine uB 9 rfl (uCl zc2 rfl zS) ?_;refine uB 10 rfl (za (hs:=[_,_]) z8 ty3 rfl rfl (by decide) (by decide) rfl) ?_;refine uB 11 rfl (uCl zfD rfl (zbe (l:=[_,_]) (by simp))) ?_;refine gz3 ?_;refine zw rfl ?_
 rfl
theorem zjm [Tracks] {m:List MendS} (hl:m.length<=1000000):ConP prog 132 [zct m] (.int .i64 (zbE m)):=by
 refine uOb func132 ntmps132 ?_;refine gz9 ?_;refine uCo (fun h1=> ?_) fun h2=> ?_
 ·refine gz4 ?_;refine uRp ?_
  (rw [zbE,if_pos uO];done)
 ·refine gz9 ?_;refine uT1 [2,3,10,57] (fun k=>[(10,.int .i64 k)]) (fun k=>[]) (fun k=>k<=m.length/\(zaR zaE zeA zeE m 0 m=zaR zaE zeA zeE m k (m.drop k))) (fun k=>m.length-k) (0) ?_ ?_
  ·exact ⟨Ad _,rfl⟩
  ·rintro k ⟨hk,hg⟩;refine gz4 ?_;refine uCo (fun h3=> ?_) fun h4=> ?_
   ·obtain ⟨x,hx⟩: ∃x,m[k]? =some x:=⟨_,Aa h3⟩
    have hdx:=zi hx;rw [hdx] at hg;refine gz8 ?_;refine de rfl (zj zbq rfl fun b4=> ?_)
    refine gz1 ?_;refine de0 (zp zbq rfl rfl rfl rfl rfl ?_)
    refine gz1 ?_;refine ze (zk 4 rfl) ?_;refine gz4 ?_;refine dq (uCl zbH rfl zaf) ?_;refine gz4 ?_;refine uGr rfl (fun hc=>uCl zbH rfl zaf) ?_;refine gz5 ?_;refine uGr rfl (fun hc=>uCl zbH rfl zaf) ?_;refine gz4 ?_;refine uCo (fun h5=> ?_) fun h6=> ?_
    ·refine gz4 ?_;refine uRp ?_
     (refine congrArg _ (zkS (c:=5) uO hg (by decide) ?_)
      rw [zaE,if_pos]
      simp_all
      done)
    ·refine gz3 ?_;refine dq (uCl zlk rfl zcB) ?_;refine gz4 ?_;refine uGr rfl (fun hc=>uCl zcy rfl zag) ?_;refine gz4 ?_;refine uGr rfl (fun hc=>uCl zkb rfl zbz) ?_;refine gz5 ?_;refine uGr rfl (fun hc=>uCl zcy rfl zag) ?_;refine gz3 ?_;refine uCo (fun h7=> ?_) fun h8=> ?_
     ·refine gz4 ?_;refine uRp ?_
      (refine congrArg _ (zkS (c:=1) uO hg (by decide) ?_)
       rw [zaE,if_neg,if_pos]
       all_goals simp_all
       done)
     ·refine uDr mixed ?_;refine gz7 ?_;refine uGy 7 rfl rfl (fun hc=>by have hq:=hc;(try simp at hq);exact zy (j:=k-1) (a:=m.getD (k-1) zeE) zgI zbq rfl rfl uO (getD_some uO)) ?_;refine gz1 ?_;refine uGy 9 rfl rfl (fun hc=>uCl zE1 rfl zpL) ?_;refine gz4 ?_;refine uCo (fun h9=> ?_) fun h10=> ?_
      ·refine gz4 ?_;refine uRp ?_
       (refine congrArg _ (zsA uO hg ?_ ?_ ?_)
        ·rw [zaE,if_neg,if_neg]<;>simp_all
        ·simp_all
        ·simp_all)
      ·refine gz8 ?_;refine ⟨k+1,?_,?_,⟨rfl,trivial⟩,uK,Ac _⟩
       ·refine ⟨by omega,?_⟩
        rw [hg,zkd (by rw [zaE,if_neg uSa,if_neg uSa]) (by intro hk0;simp_all;try omega)]
       ·dsimp only;omega
   ·have hnk:m.length<=k:=by omega
    obtain rfl:k=m.length:=by omega
    rw [zH (Af _)] at hg;refine gz2 ?_;refine zt ?_;refine gz6 ?_;refine uRp ?_
    (rw [zbE,if_neg uO,hg];rfl)
theorem zpg [Tracks] {l:List StatS} (hl:l.length<=1000000):ConP prog 295 [zyh l] (.int .i64 (za5 l)):=by
 refine uOb func295 ntmps295 ?_;refine gz9 ?_;refine uCo (fun h1=> ?_) fun h2=> ?_
 ·refine gz4 ?_;refine uRp ?_
  first
  |(rw [za5,if_pos uO];done)
  |(rw [za5,if_neg uO,hg];rfl)
  | (refine congrArg _ (zdF (c:=5) uO hg (by decide) ?_)
     rw [zah,if_pos]
     simp_all
     done)
  | (refine congrArg _ (zdF (c:=1) uO hg (by decide) ?_)
     rw [zah,if_neg,if_pos]
     all_goals simp_all
     done)
  | (refine congrArg _ (zjb uO hg ?_ ?_ ?_)
     ·rw [zah,if_neg,if_neg]<;>simp_all
     ·simp_all
     ·simp_all)
 ·refine gz9 ?_;refine uT1 [2,3,10,34] (fun k=>[(10,.int .i64 k)]) (fun k=>[]) (fun k=>k<=l.length/\(zaR zah zbc zdZ l 0 l=zaR zah zbc zdZ l k (l.drop k))) (fun k=>l.length-k) (0) ?_ ?_
  ·exact ⟨Ad _,rfl⟩
  ·rintro k ⟨hk,hg⟩;refine gz4 ?_;refine uCo (fun h3=> ?_) fun h4=> ?_
   ·obtain ⟨x,hx⟩: ∃x,l[k]? =some x:=⟨_,Aa h3⟩
    have hdx:=zi hx;rw [hdx] at hg;refine gz8 ?_;refine de rfl (zj zci rfl fun b4=> ?_)
    refine gz1 ?_;refine de0 (zp zci rfl rfl rfl rfl rfl ?_)
    refine gz1 ?_;refine ze (zk 4 rfl) ?_;refine gz4 ?_;refine dq (uCl zbH rfl zaf) ?_;refine gz3 ?_;refine uCo (fun h5=> ?_) fun h6=> ?_
    ·refine gz4 ?_;refine uRp ?_
     first
     |(rw [za5,if_pos uO];done)
     |(rw [za5,if_neg uO,hg];rfl)
     | (refine congrArg _ (zdF (c:=5) uO hg (by decide) ?_)
        rw [zah,if_pos]
        simp_all
        done)
     | (refine congrArg _ (zdF (c:=1) uO hg (by decide) ?_)
        rw [zah,if_neg,if_pos]
        all_goals simp_all
        done)
     | (refine congrArg _ (zjb uO hg ?_ ?_ ?_)
        ·rw [zah,if_neg,if_neg]<;>simp_all
        ·simp_all
        ·simp_all)
    ·refine gz3 ?_;refine dq (uCl zcy rfl zag) ?_;refine gz7 ?_;refine uCo (fun h7=> ?_) fun h8=> ?_
     ·refine gz4 ?_;refine uRp ?_
      first
      |(rw [za5,if_pos uO];done)
      |(rw [za5,if_neg uO,hg];rfl)
      | (refine congrArg _ (zdF (c:=5) uO hg (by decide) ?_)
         rw [zah,if_pos]
         simp_all
         done)
      | (refine congrArg _ (zdF (c:=1) uO hg (by decide) ?_)
         rw [zah,if_neg,if_pos]
         all_goals simp_all
         done)
      | (refine congrArg _ (zjb uO hg ?_ ?_ ?_)
         ·rw [zah,if_neg,if_neg]<;>simp_all
         ·simp_all
         ·simp_all)
     ·refine uDr mixed ?_;refine gz8 ?_;refine uGy 8 rfl rfl (fun hc=>by have hq:=hc;(try simp at hq);exact zy (j:=k-1) (a:=l.getD (k-1) zdZ) zb9 zci rfl rfl uO (getD_some uO)) ?_;refine gz6 ?_;refine uCo (fun h9=> ?_) fun h10=> ?_
      ·refine gz4 ?_;refine uRp ?_
       first
       |(rw [za5,if_pos uO];done)
       |(rw [za5,if_neg uO,hg];rfl)
       | (refine congrArg _ (zdF (c:=5) uO hg (by decide) ?_)
          rw [zah,if_pos]
          simp_all
          done)
       | (refine congrArg _ (zdF (c:=1) uO hg (by decide) ?_)
          rw [zah,if_neg,if_pos]
          all_goals simp_all
          done)
       | (refine congrArg _ (zjb uO hg ?_ ?_ ?_)
          ·rw [zah,if_neg,if_neg]<;>simp_all
          ·simp_all
          ·simp_all)
      ·refine gz8 ?_;refine ⟨k+1,?_,?_,⟨rfl,trivial⟩,uK,Ac _⟩
       ·refine ⟨by omega,?_⟩
        rw [hg,zxF (by rw [zah,if_neg uSa,if_neg uSa]) (by intro hk0;simp_all)]
       ·dsimp only;omega
   ·have hnk:l.length<=k:=by omega
    obtain rfl:k=l.length:=by omega
    rw [zH (Af _)] at hg;refine gz2 ?_;refine zt ?_;refine gz6 ?_;refine uRp ?_
    first
    |(rw [za5,if_pos uO];done)
    |(rw [za5,if_neg uO,hg];rfl)
    | (refine congrArg _ (zdF (c:=5) uO hg (by decide) ?_)
       rw [zah,if_pos]
       simp_all
       done)
    | (refine congrArg _ (zdF (c:=1) uO hg (by decide) ?_)
       rw [zah,if_neg,if_pos]
       all_goals simp_all
       done)
    | (refine congrArg _ (zjb uO hg ?_ ?_ ?_)
       ·rw [zah,if_neg,if_neg]<;>simp_all
       ·simp_all
       ·simp_all)
theorem zpf [Tracks] {l:List LineS} (hl:l.length<=1000000) (hL: ∀x∈l,x.Stats.length<=1000000):ConP prog 235 [zff l] (.int .i64 (zax l)):=by
 refine uOb func235 ntmps235 ?_;refine gz9 ?_;refine uCo (fun h1=> ?_) fun h2=> ?_
 ·refine gz4 ?_;refine uRp ?_
  first
  |(rw [zax,if_pos uO];done)
  |(rw [zax,if_neg uO,hg];rfl)
  | (refine congrArg _ (zbn (c:=5) uO hg (by decide) ?_)
     rw [zZ,if_pos]
     simp_all
     done)
  | (refine congrArg _ (zbn (c:=1) uO hg (by decide) ?_)
     rw [zZ,if_neg,if_pos]
     all_goals simp_all
     done)
  | (refine congrArg _ (zbn (c:=za5 x.Stats) uO hg ?_ ?_)
     ·simp_all
     ·rw [zZ,if_neg,if_neg]<;>simp_all)
  | (refine congrArg _ (zhD uO hg ?_ ?_ ?_)
     ·rw [zZ,if_neg,if_neg]<;>simp_all
     ·simp_all
     ·simp_all)
 ·refine gz9 ?_;refine uT1 [2,4,11,34] (fun k=>[(11,.int .i64 k)]) (fun k=>[]) (fun k=>k<=l.length/\(zaR zZ zc8 zjy l 0 l=zaR zZ zc8 zjy l k (l.drop k))) (fun k=>l.length-k) (0) ?_ ?_
  ·exact ⟨Ad _,rfl⟩
  ·rintro k ⟨hk,hg⟩;refine gz4 ?_;refine uCo (fun h3=> ?_) fun h4=> ?_
   ·obtain ⟨x,hx⟩: ∃x,l[k]? =some x:=⟨_,Aa h3⟩
    have hdx:=zi hx;rw [hdx] at hg;refine gz8 ?_;refine de rfl (zj zbW rfl fun b4=> ?_)
    refine gz1 ?_;refine de0 (zp zbW rfl rfl rfl rfl rfl ?_)
    refine gz1 ?_;refine ze (zk 4 rfl) ?_;refine gz5 ?_;refine dq (uCl zbH rfl zaf) ?_;refine gz3 ?_;refine uCo (fun h5=> ?_) fun h6=> ?_
    ·refine gz4 ?_;refine uRp ?_
     first
     |(rw [zax,if_pos uO];done)
     |(rw [zax,if_neg uO,hg];rfl)
     | (refine congrArg _ (zbn (c:=5) uO hg (by decide) ?_)
        rw [zZ,if_pos]
        simp_all
        done)
     | (refine congrArg _ (zbn (c:=1) uO hg (by decide) ?_)
        rw [zZ,if_neg,if_pos]
        all_goals simp_all
        done)
     | (refine congrArg _ (zbn (c:=za5 x.Stats) uO hg ?_ ?_)
        ·simp_all
        ·rw [zZ,if_neg,if_neg]<;>simp_all)
     | (refine congrArg _ (zhD uO hg ?_ ?_ ?_)
        ·rw [zZ,if_neg,if_neg]<;>simp_all
        ·simp_all
        ·simp_all)
    ·refine gz3 ?_;refine dq (uCl zlk rfl zcB) ?_;refine gz3 ?_;refine uCo (fun h7=> ?_) fun h8=> ?_
     ·refine gz4 ?_;refine uRp ?_
      first
      |(rw [zax,if_pos uO];done)
      |(rw [zax,if_neg uO,hg];rfl)
      | (refine congrArg _ (zbn (c:=5) uO hg (by decide) ?_)
         rw [zZ,if_pos]
         simp_all
         done)
      | (refine congrArg _ (zbn (c:=1) uO hg (by decide) ?_)
         rw [zZ,if_neg,if_pos]
         all_goals simp_all
         done)
      | (refine congrArg _ (zbn (c:=za5 x.Stats) uO hg ?_ ?_)
         ·simp_all
         ·rw [zZ,if_neg,if_neg]<;>simp_all)
      | (refine congrArg _ (zhD uO hg ?_ ?_ ?_)
         ·rw [zZ,if_neg,if_neg]<;>simp_all
         ·simp_all
         ·simp_all)
     ·refine gz7 ?_;refine dq (uCl zFH rfl (zpg (l:=x.Stats) (hL x (Ab hx)))) ?_;refine gz6 ?_;refine uCo (fun h9=> ?_) fun h10=> ?_
      ·refine gz5 ?_;refine uRp ?_
       first
       |(rw [zax,if_pos uO];done)
       |(rw [zax,if_neg uO,hg];rfl)
       | (refine congrArg _ (zbn (c:=5) uO hg (by decide) ?_)
          rw [zZ,if_pos]
          simp_all
          done)
       | (refine congrArg _ (zbn (c:=1) uO hg (by decide) ?_)
          rw [zZ,if_neg,if_pos]
          all_goals simp_all
          done)
       | (refine congrArg _ (zbn (c:=za5 x.Stats) uO hg ?_ ?_)
          ·simp_all
          ·rw [zZ,if_neg,if_neg]<;>simp_all)
       | (refine congrArg _ (zhD uO hg ?_ ?_ ?_)
          ·rw [zZ,if_neg,if_neg]<;>simp_all
          ·simp_all
          ·simp_all)
      ·refine gz2 ?_;refine uDr mixed ?_;refine gz7 ?_;refine uGy 7 rfl rfl (fun hc=>by have hq:=hc;(try simp at hq);exact zy (j:=k-1) (a:=l.getD (k-1) zjy) zm4 zbW rfl rfl uO (getD_some uO)) ?_;refine gz1 ?_;refine uGy 9 rfl rfl (fun hc=>uCl zBu rfl zna) ?_;refine gz3 ?_;refine uCo (fun h11=> ?_) fun h12=> ?_
       ·refine gz4 ?_;refine uRp ?_
        first
        |(rw [zax,if_pos uO];done)
        |(rw [zax,if_neg uO,hg];rfl)
        | (refine congrArg _ (zbn (c:=5) uO hg (by decide) ?_)
           rw [zZ,if_pos]
           simp_all
           done)
        | (refine congrArg _ (zbn (c:=1) uO hg (by decide) ?_)
           rw [zZ,if_neg,if_pos]
           all_goals simp_all
           done)
        | (refine congrArg _ (zbn (c:=za5 x.Stats) uO hg ?_ ?_)
           ·simp_all
           ·rw [zZ,if_neg,if_neg]<;>simp_all)
        | (refine congrArg _ (zhD uO hg ?_ ?_ ?_)
           ·rw [zZ,if_neg,if_neg]<;>simp_all
           ·simp_all
           ·simp_all)
       ·refine gz7 ?_;refine ⟨k+1,?_,?_,⟨rfl,trivial⟩,uK,Ac _⟩
        ·refine ⟨by omega,?_⟩
         rw [hg,zkd (by rw [zZ,if_neg uSa,if_neg uSa];simp_all) (by intro hk0;simp_all;try omega)]
        ·dsimp only;omega
   ·have hnk:l.length<=k:=by omega
    obtain rfl:k=l.length:=by omega
    rw [zH (Af _)] at hg;refine gz2 ?_;refine zt ?_;refine gz6 ?_;refine uRp ?_
    first
    |(rw [zax,if_pos uO];done)
    |(rw [zax,if_neg uO,hg];rfl)
    | (refine congrArg _ (zbn (c:=5) uO hg (by decide) ?_)
       rw [zZ,if_pos]
       simp_all
       done)
    | (refine congrArg _ (zbn (c:=1) uO hg (by decide) ?_)
       rw [zZ,if_neg,if_pos]
       all_goals simp_all
       done)
    | (refine congrArg _ (zbn (c:=za5 x.Stats) uO hg ?_ ?_)
       ·simp_all
       ·rw [zZ,if_neg,if_neg]<;>simp_all)
    | (refine congrArg _ (zhD uO hg ?_ ?_ ?_)
       ·rw [zZ,if_neg,if_neg]<;>simp_all
       ·simp_all
       ·simp_all)
theorem zqm [Tracks] {s:StatS} {x:MendS}:ConP prog 299 [zbf s,.vptr (zb (zbV x)) 0] (.bool (s.Name==x.Stat)):=by
 refine uOb func299 ntmps299 ?_;refine zd3 ?_;refine zw rfl ?_
 rfl
theorem zs3 [Tracks] {l:List LineS} {m:List MendS} {n:Int} (hl:l.length<=1000) (hm:m.length<=100) (hL: ∀x∈l,x.Stats.length<=1000) (hs: ∀x∈l,(x.Stats.map (·.Name)).Nodup) (h40:GLen 40 (zeC l m n)):ConP prog 236 [zff l,zct m,.int .i64 n] (.tup [zff (mdL l m n),.int .i64 0]):=by
 refine uOb func236 ntmps236 ?_;refine gz5 ?_;refine de rfl (zaG fun m18=> ?_)
 refine gz2 ?_;refine ze (zaQ (M':=[.map m18 (kk zgE (em fG ([]:GrV)))]++zf4 2 zbf ([]:GrV)) rfl) ?_;refine gz7 ?_;refine uV2 [10,1,21,14] (fun (k:Nat) (G:GrV)=>[(21,.int .i64 k)]) (fun (k:Nat) (G:GrV)=>[.map m18 (kk zgE (em fG G))]++zf4 2 zbf G) (fun (k:Nat) (G:GrV)=>k<=l.length/\(ANodup G/\zfv G=zc5 (l.take k))) (fun (k:Nat) (G:GrV)=>l.length-k) (0) ([]) ?_ ?_ ?_ ?_;exact ⟨Ad _,ANodup.nil,rfl⟩;exact ⟨rfl,trivial⟩;exact zm rfl
 intro k G hinv
 obtain ⟨hk,⟨hn,hc⟩⟩:=hinv;refine gz4 ?_;refine uCo (fun h1=> ?_) fun h2=> ?_
 obtain ⟨x,hx⟩: ∃x,l[k]? =some x:=⟨_,Aa h1⟩
 have hdx:=zi hx;refine gz7 ?_;refine de rfl (zj zbW rfl fun b10=> ?_)
 refine de0 (zp zbW rfl rfl rfl rfl rfl ?_)
 refine gz1 ?_;refine ze (zk 10 rfl) ?_;refine zia mixed ?_;refine gz1 ?_;refine uB 1 rfl ((by first|exact zg zbW rfl ty9 (by decide) rfl|exact zd zbW rfl ty9 (by decide) rfl)) ?_;refine gz1 ?_;refine uB 3 rfl ((by first|exact zg zbW rfl ty3 (by decide) rfl|exact zd zbW rfl ty3 (by decide) rfl)) ?_;refine gz1 ?_;refine uB 5 rfl (zF (cs:=[_,_]) zg3 zBH rfl) ?_;refine uB 6 rfl ((by first|exact zg zbW rfl zb9 (by decide) rfl|exact zd zbW rfl zb9 (by decide) rfl)) ?_;refine gz1 ?_;refine uF 8 ?_;refine zv rfl (uCa zFI rfl (zhc (l:=x.Stats) (Aq (hL x (Ab hx)) (by decide))) fun v33=> ?_)
 refine ⟨uE,?_⟩
 refine uF 9 ?_;refine zD (zrj (zf1 (i:=1) (s:=(x.Player,x.Week)) (f:=fG) (L:=G) (v:=(v33,x.Stats)) zk0 zxs rfl rfl rfl rfl ⟨_,zyq (A:=[.map m18 (kk zgE (em fG (zA (x.Player,x.Week) (v33,x.Stats) G)))]) (s:=(x.Player,x.Week)) (v:=v33) (l:=x.Stats) hn,?_⟩))
 refine ⟨uE,?_⟩
 refine gz7 ?_;exact ⟨k+1,zA (x.Player,x.Week) (v33,x.Stats) G,⟨by omega,hn.put,by rw [zpN,hc,zxi hx]⟩,uD,⟨rfl,trivial⟩,uK,zm rfl⟩;have hnk:l.length<=k:=by omega
 obtain rfl:k=l.length:=by omega
 rw [Ak] at hc;refine gz2 ?_;refine zM ?_;refine gz9 ?_;refine uV2 [12,3,37,33] (fun (k:Nat) (G:GrV)=>[(37,.int .i64 k)]) (fun (k:Nat) (G:GrV)=>[.map m18 (kk zgE (em fG G))]++zf4 2 zbf G) (fun (k:Nat) (G:GrV)=>k<=m.length/\(ANodup G/\zfv G=zgF (zc5 l) (m.take k) n)) (fun (k:Nat) (G:GrV)=>m.length-k) (0) (G) ?_ ?_ ?_ ?_;exact ⟨Ad _,hn,hc⟩;exact ⟨rfl,trivial⟩;exact zm rfl
 intro k G hinv
 obtain ⟨hk,⟨hn,hc⟩⟩:=hinv;refine gz4 ?_;refine uCo (fun h3=> ?_) fun h4=> ?_
 obtain ⟨x,hx⟩: ∃x,m[k]? =some x:=⟨_,Aa h3⟩
 have hdx:=zi hx;refine gz7 ?_;refine de rfl (zj zbq rfl fun b12=> ?_)
 refine de0 (zp zbq rfl rfl rfl rfl rfl ?_)
 refine gz1 ?_;refine ze (zk 12 rfl) ?_;refine gz2 ?_;refine dq ((by first|exact zg zbq rfl ty3 (by decide) rfl|exact zd zbq rfl ty3 (by decide) rfl)) ?_;refine gz4 ?_;refine uCo (fun h5=> ?_) fun h6=> ?_
 refine gz8 ?_;exact ⟨k+1,G,⟨by omega,hn,by rw [zsw hx,zcJ,if_pos uO];exact hc⟩,uD,⟨rfl,trivial⟩,uK,zm rfl⟩;refine gz3 ?_;refine dq ((by first|exact zg zbq rfl ty9 (by decide) rfl|exact zd zbq rfl ty9 (by decide) rfl)) ?_;refine gz1 ?_;refine dq ((by first|exact zg zbq rfl ty3 (by decide) rfl|exact zd zbq rfl ty3 (by decide) rfl)) ?_;refine gz1 ?_;refine dq (zF (cs:=[_,_]) zg3 zBH rfl) ?_;refine de rfl (zj zg3 rfl fun b13=> ?_)
 refine de0 (zp zg3 rfl rfl rfl rfl rfl ?_)
 refine gz1 ?_;refine ze (zk 13 rfl) ?_;have hgl:=zCq (n:=n) hL hm hc (x.Player,x.Week);refine ze (zkE (A:=[.map m18 (kk zgE (em fG G))]) (G:=G) (G':=G) (s:=(x.Player,x.Week)) hn rfl) ?_;refine gz3 ?_;refine de rfl (zeN (i:=1) (s:=(x.Player,x.Week)) (z0:=gZ StatS) zk0 zxs zb9 rfl rfl rfl rfl ?_)
 refine gz1 ?_;refine de rfl (uCx 0 zFJ rfl rfl (zfJ (l:=gLK (x.Player,x.Week) G) (p:=fun s=>s.Name==x.Stat) zFK (fun _=>zqm) uO) ?_)
 rintro _ _ ⟨u54,rfl,rfl⟩;refine gz2 ?_;refine uVj [14,1,55,11] (fun (w:Value)=>[(14,.raw w)]) (fun (w:Value)=> .arr w 2 ((zeD x (gLK (x.Player,x.Week) G)).map zbf)::([.map m18 (kk zgE (em fG G))]++zf4 2 zbf (G.filter fun q=>decide (q.1≠(x.Player,x.Week))))) (fun (w:Value)=>True) ?_ ?_
 skip
 refine gz1 ?_;refine dq ((by first|exact zg zbq rfl ty3 (by decide) rfl|exact zd zbq rfl ty3 (by decide) rfl)) ?_;refine gz3 ?_;refine uCo (fun h7=> ?_) fun h8=> ?_
 refine gz2 ?_;refine dq ((by first|exact zg zbq rfl ty9 (by decide) rfl|exact zd zbq rfl ty9 (by decide) rfl)) ?_;refine gz1 ?_;refine dq ((by first|exact zg zbq rfl ty3 (by decide) rfl|exact zd zbq rfl ty3 (by decide) rfl)) ?_;refine gz1 ?_;refine dq (zF (cs:=[_,_]) zci zBG rfl) ?_;refine dq (za (hs:=[_]) zb9 zci rfl rfl (by decide) (by decide) rfl) ?_;refine de rfl (zK (i:=0) zb9 zci rfl rfl rfl rfl rfl (by simp [zar,zb]) (by have:=zsv x (gLK (x.Player,x.Week) G);unfold ztB at this;simp only [Ah,Ai,AB];omega) fun v65=> ?_)
 refine gz2 ?_;exact ⟨v65,trivial,⟨rfl,trivial⟩,uK,zm (by rw [zeD,if_pos (by assumption),Az];rfl)⟩;refine gz1 ?_;exact ⟨u54,trivial,⟨rfl,trivial⟩,uK,zm (by rw [zeD,if_neg uSa,Bb];rfl)⟩
 intro w _
 refine gz4 ?_;refine de0 (zm7 (zf1 (i:=1) (s:=(x.Player,x.Week)) (f:=fG) (L:=G) (v:=(w,zeD x (gLK (x.Player,x.Week) G))) zk0 zxs rfl rfl rfl rfl ⟨_,zur (A:=[.map m18 (kk zgE (em fG (zA (x.Player,x.Week) (w,zeD x (gLK (x.Player,x.Week) G)) G)))]) (s:=(x.Player,x.Week)) (v:=w) (l:=zeD x (gLK (x.Player,x.Week) G)) hn,?_⟩))
 refine gz7 ?_;exact ⟨k+1,zA (x.Player,x.Week) (w,zeD x (gLK (x.Player,x.Week) G)) G,⟨by omega,hn.put,by rw [zsw hx,<-hc,zyH (n:=n) uO]⟩,uD,⟨rfl,trivial⟩,uK,zm rfl⟩;have hnk:m.length<=k:=by omega
 obtain rfl:k=m.length:=by omega
 rw [Ak] at hc;refine gz2 ?_;refine zM ?_;refine gz3 ?_;have hGl:=zCr hl hm hc;have hkl:(kk zgE (em fG G)).length=G.length:=by simp [kk]
 refine gz2 ?_
 focus first
 |refine de rfl (zeg (i:=0) zk0 rfl rfl ?_)
 |refine de rfl (zeg (i:=1) zk0 rfl rfl ?_)
 |refine de rfl (zeg (i:=2) zk0 rfl rfl ?_)
 |refine de rfl (zeg (i:=3) zk0 rfl rfl ?_)
 refine gz2 ?_;refine zX rfl (fun h9=> ?_) (fun h9=> ?_)
 exfalso
 try simp at h9
 omega
 try simp at h9
 refine gz5 ?_;refine ze (zN 3) ?_;refine gz3 ?_;refine de rfl (zn9 (i:=1) zk0 rfl rfl fun r=> ?_)
 refine gz2 ?_;refine uV3 [6,2,15,3,75,19] (fun (vis:List Nat) (E:List (Plc×(Value×List StatS))) (u:Value)=>[(15,.raw u)]) (fun (vis:List Nat) (E:List (Plc×(Value×List StatS))) (u:Value)=>[.arr u 3 ((E.map zmH).map zbQ),.iter r m18 (kk zgE (em fG G)) vis]++zf4 2 zbf (zfH G (E.map (·.1)))) (fun (vis:List Nat) (E:List (Plc×(Value×List StatS))) (u:Value)=>VisOk (G) vis E/\(True)) (fun (vis:List Nat) (E:List (Plc×(Value×List StatS))) (u:Value)=>(G).length-vis.length) ([]) ([]) (.slice none 0 0) ?_ ?_ ?_ ?_;exact ⟨VisOk.nil _,trivial⟩;exact ⟨rfl,trivial⟩;exact zm (by simp only [A8,zyY];rfl)
 intro vis E u hinv
 obtain ⟨hvis,-⟩:=hinv;refine gz1 ?_;refine de rfl (zn8 (i:=1) (L:=G) (enc:=(fun p:Plc×(Value×List StatS)=>(zgE p.1,fG p.2))) rfl rfl (ztx _ _ _) hvis.nd hvis.lt fun cb R vis' hnx=> ?_)
 refine gz3 ?_;refine uCo (fun h10=> ?_) fun h11=> ?_
 obtain ⟨j,q,hq,hj,rfl⟩:=hnx.t h10;have hroom:=hvis.room hq hj;have hstep:=hvis.step hq hj;have hqm:=Ab hq;refine gz4 ?_;refine de rfl (zmE (i:=1) (L:=G) (enc:=(fun p:Plc×(Value×List StatS)=>(zgE p.1,fG p.2))) rfl rfl (ztx _ _ _) hq ?_)
 refine gz2 ?_;refine de rfl (zj zg3 rfl fun b16=> ?_)
 refine de0 (zp zg3 rfl rfl rfl rfl rfl ?_)
 refine gz2 ?_;refine ze (zk 16 rfl) ?_;have hqa:alk q.1 G=some q.2:=(zd8 hn).1 hqm;have hqx:q.1∉E.map (·.1):=zeq.1 (hvis.fresh hn hq hj);obtain ⟨gv1,gl1⟩:=zF2 hqa;have hq40:=zDt h40 hc hqm;have hqn:=zF5 hs hc hqm;refine ze (zkE (A:=[.arr u 3 ((E.map zmH).map zbQ),.iter r m18 (kk zgE (em fG G)) (vis++[j])]) (G:=zfH G (E.map (·.1))) (G':=G) (s:=q.1) (zvC hn) (zyW hqx)) ?_;rw [zxy,gv1,gl1];refine gz3 ?_;refine de rfl (zaT (i:=0) (es:=q.2.2) zb9 rfl rfl ?_)
 refine gz2 ?_;refine zX rfl (fun h12=> ?_) (fun h12=> ?_)
 exfalso
 try simp at h12
 omega
 try simp at h12
 refine gz4 ?_;refine de rfl (za7 (M1:=[.arr q.2.1 2 (q.2.2.map zbf)]) (R:=_) zBm rfl (WeakL.refl _) (Ac _) (zpo (c:=zbc) (zo4 zdj) zBn (fun _ _=> @zm9 zhE _ _) (l:=q.2.2) uO) ?_)
 rintro _ _ ⟨l',rfl,hp',hw',rfl⟩;obtain rfl:=zvG hqn hp' hw';refine gz1 ?_;refine ze (zaJ 17 (i:=0) rfl rfl) ?_;refine gz2 ?_;refine dq ((by first|exact zg zg3 rfl ty9 (by decide) rfl|exact zd zg3 rfl ty9 (by decide) rfl)) ?_;refine gz1 ?_;refine dq ((by first|exact zg zg3 rfl ty3 (by decide) rfl|exact zd zg3 rfl ty3 (by decide) rfl)) ?_;refine gz2 ?_;refine dq (zF (cs:=[_,_,_]) zbW zBF rfl) ?_;refine dq (za (hs:=[_]) zm4 zbW rfl rfl (by decide) (by decide) rfl) ?_;refine de rfl (zK (i:=0) zm4 zbW rfl rfl rfl rfl rfl (by simp [zar,zb]) (by have:=hvis.len;simp only [Ah,Ai,AB];omega) fun v93=> ?_)
 refine gz3 ?_;exact ⟨_,E++[q],v93,⟨hstep,trivial⟩,by dsimp only;rw [Av];simp only [Ai,AB];omega,⟨rfl,trivial⟩,uK,zm (by dsimp only;simp only [Az,Au,A8];rfl)⟩;obtain ⟨rfl,hlen⟩:=hnx.f h11;have hEp:=hvis.done hlen;refine gz2 ?_;refine zcI ?_;refine gz2 ?_;have hr0:zfH G (E.map (·.1))=[]:=zyX (fun q hq=>Bn (hEp.mem_iff.2 hq));rw [hr0];refine ze (zlB (i:=1) rfl) ?_;refine ze (zaQ (M':=[.arr u 3 ((E.map zmH).map zbQ),.map m18 (kk zgE (em fG G))]) rfl) ?_;refine gz2 ?_;refine de rfl (za7 (M1:=[.arr u 3 ((E.map zmH).map zbQ)]) (R:=[.map m18 (kk zgE (em fG G))]) zFL rfl (WeakL.refl _) (Ac _) (zvn (c:=zc8) (zo4 zjY) zBu (fun _ _=> @zna zhE _ _) (l:=E.map zmH) (by have:=hEp.length_eq;simp only [Ah];omega)) ?_)
 rintro _ _ ⟨l',rfl,hp',hw',rfl⟩;obtain rfl:=zDs hc hEp hp' hw';refine gz1 ?_;refine ze (Ghost.only (i:=0) rfl) ?_;refine gz6 ?_;exact zlZ (M:=[]) 6 rfl rfl rfl
theorem zs2 [Tracks] {l:List LineS} {m:List MendS} {n:Int} (hl:l.length<=1000) (hm:m.length<=100) (hL: ∀x∈l,x.Stats.length<=1000) (h40:zax l=0->GLen 40 (zeC l m n)):ConP prog 159 [zff l,zct m,.int .i64 n] (.tup [zff (zd7 l m n),.int .i64 (zd6 l m n)]):=by
 refine uOb func159 ntmps159 ?_;refine gz7 ?_;refine dq (uCl zFb rfl (zpf (l:=l) uO (fun x hx=>Aq (hL x hx) (by decide)))) ?_;refine gz1 ?_;refine dq (uCl zAZ rfl (zjm (m:=m) uO)) ?_;refine dq (za (hs:=[_,_]) zep zgJ rfl rfl (by decide) (by decide) rfl) ?_;refine dq (uCl zlj rfl (zck (l:=[_,_]) (by simp))) ?_;refine gz6 ?_;refine uCo (fun h1=> ?_) fun h2=> ?_
 refine gz6 ?_
 focus first
 |exact zch rfl (zaA (by rw [zd7,if_pos (by simpa using h1)];exact zW 3) (by rw [zd6,if_pos (by simpa using h1)];exact Weak.refl _))
 |exact zch rfl (zaA (by rw [zd7,if_neg (by simpa using h2),if_neg uSa];exact zW 3) (by rw [zd6,if_neg (by simpa using h2),if_neg uSa];exact Weak.refl _))
 | (refine zw rfl ?_
    rw [zd7,zd6,if_neg (by simpa using h2),if_pos uSa,if_neg (by simpa using h2),if_pos uSa])
 refine gz5 ?_;refine dq (uCl zkb rfl zbz) ?_;refine gz2 ?_;refine uCo (fun h3=> ?_) fun h4=> ?_
 refine gz5 ?_
 focus first
 |exact zch rfl (zaA (by rw [zd7,if_pos (by simpa using h1)];exact zW 3) (by rw [zd6,if_pos (by simpa using h1)];exact Weak.refl _))
 |exact zch rfl (zaA (by rw [zd7,if_neg (by simpa using h2),if_neg uSa];exact zW 3) (by rw [zd6,if_neg (by simpa using h2),if_neg uSa];exact Weak.refl _))
 | (refine zw rfl ?_
    rw [zd7,zd6,if_neg (by simpa using h2),if_pos uSa,if_neg (by simpa using h2),if_pos uSa])
 refine gz6 ?_;refine dq (uCl zFc rfl (zs3 (l:=l) (m:=m) (n:=n) hl hm hL (zxg (zAb h2).1) (h40 (zAb h2).1))) ?_;refine gz6 ?_
 focus first
 |exact zch rfl (zaA (by rw [zd7,if_pos (by simpa using h1)];exact zW 3) (by rw [zd6,if_pos (by simpa using h1)];exact Weak.refl _))
 |exact zch rfl (zaA (by rw [zd7,if_neg (by simpa using h2),if_neg uSa];exact zW 3) (by rw [zd6,if_neg (by simpa using h2),if_neg uSa];exact Weak.refl _))
 | (refine zw rfl ?_
    rw [zd7,zd6,if_neg (by simpa using h2),if_pos uSa,if_neg (by simpa using h2),if_pos uSa])
end
section
open Go.Proofs.Tryz
open Go.HL
theorem zBE [Tracks]:KeyOk prog 227 zis:=zf7 (cs:=fun x:Num=>zb (zis x)) zre zFX (fun x y=>⟨rfl,⟨_,_,_,_,ty9,rfl⟩,⟨rfl,⟨_,_,_,_,ty3,rfl⟩,trivial⟩⟩)
 (fun x y=>by obtain ⟨a,b⟩:=x;obtain ⟨c,d⟩:=y;show (_&&(_&&true))=_;rw [AF];simp [eqH,Prod.mk.injEq]) (fun x=>rfl)
theorem znN [Tracks] {T:List Str} {l:List GameS} (hT:T.length<=1000000) (hl:l.length<=1000000) (hb:(∀x∈l,((-1000000000<=x.FNum/\x.FNum<=1000000000)/\ -1000000000<=x.FDen/\x.FDen<=1000000000)/\((-1000000000<=x.ONum/\x.ONum<=1000000000)/\ -1000000000<=x.ODen/\x.ODen<=1000000000))):ConP prog 60 [eSs T,zlM l] (.int .i64 (zfw T l)):=by
 refine uOb func60 ntmps60 ?_;refine gz6 ?_;refine dq (uCl zEf rfl (znO hT)) ?_;refine gz6 ?_;refine uCo (fun h1=> ?_) fun h2=> ?_
 ·refine gz5 ?_;refine zat Ghost.clear rfl ⟨?_,rfl⟩
  show HVal.int .i64 _=_
  try rw [hE]
  (rw [zfw,if_pos (by assumption)];done)
 ·refine gz3 ?_;have hz:zdd T=0:=by first|assumption|simp_all
  have hE:zfw T l=zd2 T l:=by rw [zfw,if_neg (by simp [hz])]
  refine gz5 ?_;refine uCo (fun h3=> ?_) fun h4=> ?_
  ·refine gz4 ?_;refine zat Ghost.clear rfl ⟨?_,rfl⟩
   show HVal.int .i64 _=_
   try rw [hE]
   (refine congrArg _ (zd9 (zbL ?_) (by decide))
    omega)
  ·refine gz3 ?_;refine de rfl (zaG fun m22=> ?_)
   refine zau ?_;refine uV1 [4,1,7,4,12,2,25,70] (fun (k:Nat)=>[(25,.int .i64 k),(7,.bool (zke l k))]) (fun (k:Nat)=>[.map m22 (kk zis (em HVal.bool (zjH (l.take k))))]) (fun (k:Nat)=>k<=l.length/\(za0 (zco T) zeh l 0 l=za0 (zco T) zeh l k (l.drop k))) (fun (k:Nat)=>l.length-k) (0) ?_ ?_ ?_ ?_
   ·exact ⟨Ad _,rfl⟩
   ·exact ⟨rfl,rfl,trivial⟩
   ·exact zm rfl
   ·intro k hinv
    obtain ⟨hk,hg⟩:=hinv;refine gz4 ?_;refine uCo (fun h5=> ?_) fun h6=> ?_
    ·obtain ⟨x,hx⟩: ∃x,l[k]? =some x:=⟨_,Aa h5⟩
     have hdx:=zi hx;rw [hdx] at hg;refine gz6 ?_;refine dq (zy zgd zdr rfl rfl rfl (by assumption)) ?_;refine gz1 ?_;refine de rfl (zj zdr rfl fun b9=> ?_)
     refine gz1 ?_;refine de0 (zp zdr rfl rfl rfl rfl rfl ?_)
     refine gz1 ?_;refine ze (zk 9 rfl) ?_;refine gz5 ?_;refine dq (uCl zlk rfl zcB) ?_;refine gz3 ?_;refine uCo (fun h7=> ?_) fun h8=> ?_
     ·refine gz4 ?_;refine zat Ghost.clear rfl ⟨?_,rfl⟩
      show HVal.int .i64 _=_
      try rw [hE]
      (refine congrArg _ (zd9 (e:=1) (zz ?_ hg ?_ ?_) ?_)
       ·omega
       ·unfold zco
        simp_all
        done
       ·first|decide|assumption
       ·first|decide|assumption)
     ·refine gz4 ?_;refine dq (uCl zfX rfl (zC (l:=T) (s:=x.Home) uO)) ?_;refine gz5 ?_;refine uGr rfl (fun hc=>by have hq:=hc;(try simp at hq);exact uCl zfX rfl (zC (l:=T) (s:=x.Away) uO)) ?_;refine gz4 ?_;refine uCo (fun h9=> ?_) fun h10=> ?_
      ·refine gz4 ?_;refine zat Ghost.clear rfl ⟨?_,rfl⟩
       show HVal.int .i64 _=_
       try rw [hE]
       (refine congrArg _ (zd9 (e:=8) (zz ?_ hg ?_ ?_) ?_)
        ·omega
        ·unfold zco
         simp_all
         done
        ·first|decide|assumption
        ·first|decide|assumption)
      ·refine gz8 ?_;refine uCo (fun h11=> ?_) fun h12=> ?_
       ·refine gz4 ?_;refine zat Ghost.clear rfl ⟨?_,rfl⟩
        show HVal.int .i64 _=_
        try rw [hE]
        (refine congrArg _ (zd9 (e:=6) (zz ?_ hg ?_ ?_) ?_)
         ·omega
         ·unfold zco
          simp_all
          done
         ·first|decide|assumption
         ·first|decide|assumption)
       ·refine gz5 ?_;refine dq (zaK (h:=zaS x) zdr rfl rfl rfl rfl) ?_;refine dq (uCl zEg rfl (znm (x:=x) (hb x (Ab hx)))) ?_;refine gz6 ?_;refine uCo (fun h13=> ?_) fun h14=> ?_
        ·refine gz5 ?_;refine zat Ghost.clear rfl ⟨?_,rfl⟩
         show HVal.int .i64 _=_
         try rw [hE]
         (refine congrArg _ (zd9 (e:=(zhT x)) (zz ?_ hg ?_ ?_) ?_)
          ·omega
          ·unfold zco
           simp_all
           done
          ·first|decide|assumption
          ·first|decide|assumption)
        ·refine gz3 ?_;refine uDr mixed ?_;refine gz7 ?_;refine uGy 7 rfl rfl (fun hc=>by have hq:=hc;(try simp at hq);exact zy (j:=k-1) (a:=l.getD (k-1) zeh) zgd zdr rfl rfl uO (getD_some uO)) ?_;refine gz1 ?_;refine uGy 9 rfl rfl (fun hc=>uCl zEh rfl zrq) ?_;refine gz3 ?_;refine uCo (fun h15=> ?_) fun h16=> ?_
         ·refine gz4 ?_;refine zat Ghost.clear rfl ⟨?_,rfl⟩
          show HVal.int .i64 _=_
          try rw [hE]
          (refine congrArg _ (zd9 (e:=7) (zz ?_ hg ?_ ?_) ?_)
           ·omega
           ·unfold zco
            simp_all
            done
           ·first|decide|assumption
           ·first|decide|assumption)
         ·refine gz2 ?_;have hne:x.Home≠x.Away:=by first|assumption|simp_all
          have hg0:zco T k x (l.getD (k-1) zeh)=0:=by unfold zco;simp_all
          refine gz5 ?_;refine dq (za (hs:=[_,_]) zq ty9 rfl rfl (by decide) (by decide) rfl) ?_;refine dq (zao (f:=HVal.str) (l:=[x.Home,x.Away]) zq rfl) ?_;refine gz3 ?_;refine uV1 [7,1,12,2,77,17] (fun (j:Nat)=>[(77,.int .i64 j),(7,.bool (inC l x k j))]) (fun (j:Nat)=>[.map m22 (kk zis (em HVal.bool (inM l x k j)))]) (fun (j:Nat)=>j<=[x.Home,x.Away].length/\(True)) (fun (j:Nat)=>[x.Home,x.Away].length-j) (0) ?_ ?_ ?_ ?_
          ·exact ⟨Ad _,trivial⟩
          ·exact ⟨rfl,congrArg (fun q=>some (HVal.bool q)) zvZ.1.symm,trivial⟩
          ·exact zm (by rw [zvZ.2])
          ·intro j hinv
           obtain ⟨hj,-⟩:=hinv;refine gz4 ?_;refine uCo (fun h17=> ?_) fun h18=> ?_
           ·obtain ⟨s,hs⟩: ∃s,[x.Home,x.Away][j]? =some s:=⟨_,Aa (by show j<2;omega)⟩
            have hds:=zi hs;refine gz5 ?_;refine dq (zy zq ty9 rfl rfl rfl (by assumption)) ?_;refine gz3 ?_;obtain ⟨st1,st2⟩:=zCf (l:=l) (k:=k) hne hs;refine gz4 ?_;refine dq (zF (cs:=[_,_]) zre zGk rfl) ?_;refine de rfl (zj zre rfl fun b13=> ?_)
            refine de0 (zp zre rfl rfl rfl rfl rfl ?_)
            refine gz1 ?_;refine ze (zk 13 rfl) ?_;refine gz5 ?_;refine dgl rfl rfl (fun hc=>⟨_,OpenTo.upd (t:=88) rfl (hc) (OpenTo.upd (t:=87) rfl (hc) (OpenTo.refl _)),zeN (i:=0) (f:=HVal.bool) (L:=inM l x k j) (s:=(s,x.Week)) (z0:=false) zBN zBE ty4 rfl rfl rfl rfl ⟨rfl,rfl⟩⟩) ?_;refine gz6 ?_;refine de0 (zf1 (i:=0) (f:=HVal.bool) (v:=true) (s:=(s,x.Week)) (L:=inM l x k j) zBN zBE rfl rfl rfl rfl ?_)
            refine gz7 ?_;exact ⟨j+1,⟨by show j+1<=2;omega,trivial⟩,by show 2-(j+1)<2-j;omega,⟨rfl,congrArg (fun q=>some (HVal.bool q)) (by rw [<-st1];cases inC l x k j<;>rfl),trivial⟩,uK,zm (by dsimp only;rw [<-st2];rfl)⟩
           ·refine gz2 ?_;refine zt ?_;refine gz7 ?_;have e2:j=2:=by (have q:[x.Home,x.Away].length=2:=rfl;omega)
            subst e2;obtain ⟨t1,t2⟩:=zDk hx;exact ⟨k+1,⟨by omega,by rw [hg,zaW hg0]⟩,uD,⟨rfl,congrArg (fun q=>some (HVal.bool q)) t1,trivial⟩,uK,zm (by dsimp only;rw [t2])⟩
    ·have hnk:l.length<=k:=by omega
     obtain rfl:k=l.length:=by omega
     rw [zH (Af _)] at hg;refine gz2 ?_;refine zt ?_;refine gz6 ?_;refine uCo (fun h19=> ?_) fun h20=> ?_
     ·refine gz4 ?_;refine zat Ghost.clear rfl ⟨?_,rfl⟩
      show HVal.int .i64 _=_
      try rw [hE]
      (rw [zvU ?_ hg,if_pos (by assumption)]
       omega)
     ·refine gz6 ?_;refine zat Ghost.clear rfl ⟨?_,rfl⟩
      show HVal.int .i64 _=_
      try rw [hE]
      (rw [zvU ?_ hg,if_neg uSa]
       omega)
theorem zmo [Tracks] {l:List Int} (hl:l.length<=1000000):ConP prog 216 [.slice 1 (l.map (HVal.int .i64))] (.int .i64 (zik l)):=by
 refine uOb func216 ntmps216 ?_;refine gz9 ?_;refine uCo (fun h1=> ?_) fun h2=> ?_
 ·refine gz4 ?_;refine uRp ?_
  (rw [zik,if_pos uO];done)
 ·refine gz9 ?_;refine uT1 [2,3,10,13] (fun k=>[(10,.int .i64 k)]) (fun k=>[]) (fun k=>k<=l.length/\(zed l 0 l=zed l k (l.drop k))) (fun k=>l.length-k) (0) ?_ ?_
  ·exact ⟨Ad _,rfl⟩
  ·rintro k ⟨hk,hg⟩;refine gz4 ?_;refine uCo (fun h3=> ?_) fun h4=> ?_
   ·obtain ⟨x,hx⟩: ∃x,l[k]? =some x:=⟨_,Aa h3⟩
    have hdx:=zi hx;rw [hdx] at hg;refine zdm ?_;refine dq (uCl zcy rfl zag) ?_;refine gz1 ?_;refine uCo (fun h5=> ?_) fun h6=> ?_
    ·refine gz4 ?_;refine uRp ?_
     (refine congrArg _ (zoM (e:=4) ?_ hg ?_)
      ·omega
      ·rw [zed]
       simp_all
       done)
    ·refine gz5 ?_;refine dq (zaP z8 ty3 rfl rfl ⟨_,_,rfl,rfl⟩ uO uO) ?_;refine gz1 ?_;refine dq (uCl zBd rfl (zfC (l:=l.take k) (z:=x) (by rw [AD];omega))) ?_;refine gz1 ?_;refine uCo (fun h7=> ?_) fun h8=> ?_
     ·refine gz4 ?_;refine uRp ?_
      (refine congrArg _ (zoM (e:=6) ?_ hg ?_)
       ·omega
       ·rw [zed]
        simp_all
        done)
     ·refine gz7 ?_;refine ⟨k+1,?_,?_,⟨rfl,trivial⟩,uK,Ac _⟩
      ·refine ⟨by omega,?_⟩
       rw [hg,zed,if_neg uSa,if_neg uSa]
      ·dsimp only;omega
   ·have hnk:l.length<=k:=by omega
    obtain rfl:k=l.length:=by omega
    rw [zH (Af _)] at hg;refine gz2 ?_;refine zt ?_;refine gz6 ?_;refine uRp ?_
    (refine congrArg _ (zvL ?_ hg)
     omega)
theorem zfS [Tracks] {l:List GameS} {fid:FuncId} {caps:List HVal} {p:GameS->Bool} (hca:Callable prog fid) (hp: ∀x,ConP prog fid ([zaS x]++caps) (.bool (p x))) (hl:l.length<=1000000):ConP prog 31 [.slice 8 (l.map zaS),.fn (.func fid) [] caps] (.int .i64 (zT p l 0)):=by
 refine uOb func31 ntmps31 ?_;refine zau ?_;refine uT1 [4,2,8,11] (fun k=>[(8,.int .i64 k)]) (fun k=>[]) (fun k=>k<=l.length/\(zT p l 0=zT p (l.drop k) k)) (fun k=>l.length-k) (0) ?_ ?_;exact ⟨Ad _,rfl⟩;rintro k ⟨hk,hg⟩;refine gz4 ?_;refine uCo (fun h1=> ?_) fun h2=> ?_
 obtain ⟨x,hx⟩: ∃x,l[k]? =some x:=⟨_,Aa h1⟩
 have hdx:=zi hx;rw [hdx] at hg;refine zdm ?_;refine dq (zal hca rfl rfl (WeakL.refl _) (hp _)) ?_;refine gz1 ?_;refine uCo (fun h3=> ?_) fun h4=> ?_
 refine gz5 ?_;refine uRp ?_
 (rw [hg];simp_all [zT])
 refine gz7 ?_;refine ⟨k+1,?_,?_,⟨rfl,trivial⟩,uK,Ac _⟩
 refine ⟨by omega,?_⟩
 rw [hg,zT,if_neg uSa];rfl
 dsimp only;omega
 have hnk:l.length<=k:=by omega
 obtain rfl:k=l.length:=by omega
 rw [zH (Af _)] at hg;refine gz2 ?_;refine zt ?_;refine gz6 ?_;refine uRp ?_
 (rw [hg];rfl)
theorem zbA [Tracks] {l:List GameS} {fid:FuncId} {caps:List HVal} {p:GameS->Bool} (hca:Callable prog fid) (hp: ∀x,ConP prog fid ([zaS x]++caps) (.bool (p x))) (hl:l.length<=1000000):ConP prog 10 [.slice 8 (l.map zaS),.fn (.func fid) [] caps] (.bool (l.any p)):=by
 refine uOb func10 ntmps10 ?_;refine gz6 ?_;refine dq (uCl ca31 rfl (zfS hca hp hl)) ?_;refine gz4 ?_;refine zw rfl ?_
 congr 1;exact zcC p l 0 uO
theorem zlc [Tracks] {x:GameS}:ConP prog 215 [zaS x] (.bool x.Played):=by
 refine uOb func215 ntmps215 ?_;refine zau ?_;refine zw rfl ?_
 rfl
theorem zmn [Tracks] {g:LeagueS} (hT:Tracks.on=false) (hb:LeaB g):ConP prog 130 [zfn g] (.int .i64 (zcz g)):=by
 have hst:=hb.sta;refine uOb func130 ntmps130 ?_;refine gz5 ?_;refine uDr mixed ?_;refine gz4 ?_;refine uB 4 rfl (uCl zEW rfl (zmt (L:=g.Players) (l:=g.Stints) hT hb.pl hb.nm hb.po hb.st)) ?_;refine gz2 ?_;refine uB 7 rfl (uCl zEX rfl (zld (l:=g.Fixtures) hb.fx)) ?_;refine gz2 ?_;refine uB 10 rfl (uCl zBi rfl (ziY (l:=g.Rules) hb.ru hb.rw')) ?_;refine gz2 ?_;refine uB 13 rfl (uCl zA1 rfl (ziZ (l:=g.Slots) hb.sl hb.sp)) ?_;refine gz1 ?_;refine uB 15 rfl (zU (h':=zfZ g.Bounds) (zaY zji rfl rfl (Ao rfl)) rfl) ?_;refine uB 16 rfl (uCl zBj rfl (zhJ (b:=g.Bounds))) ?_;refine gz4 ?_;refine uB 21 rfl (uCl ca60 rfl (znN (T:=g.Teams) (l:=g.Games) hb.tm hb.ga hb.gb)) ?_;refine uB 22 rfl (za (hs:=[_,_,_,_,_,_]) zep zgJ rfl rfl (by decide) (by decide) rfl) ?_;refine uB 23 rfl (uCl zlj rfl (zck (l:=[_,_,_,_,_,_]) (by simp))) ?_;refine gz6 ?_;refine uCo (fun h1=> ?_) fun h2=> ?_
 refine gz5 ?_;refine uRp ?_;unfold zcz zhV zlu zc0
 (rw [if_pos (by assumption)])
 refine gz6 ?_;refine dq (uCl zzo rfl (zbA (l:=g.Games) (p:=fun x=>x.Played) zEY (fun _=>zlc) hb.ga)) ?_;refine gz1 ?_;refine uCo (fun h3=> ?_) fun h4=> ?_
 refine gz4 ?_;refine uRp ?_;unfold zcz zhV zlu zc0
 (rw [if_neg (fun q=>q h2),if_pos uSa])
 refine gz3 ?_;refine uDr mixed ?_;refine gz2 ?_;refine uB 2 rfl (uCl zEZ rfl (zmo (l:=g.Breaks) hb.br)) ?_;refine gz2 ?_;refine uB 5 rfl (uCl ca64 rfl (zjo (l:=g.Trust) hb.tr)) ?_;refine uB 6 rfl (za (hs:=[_,_]) zep zgJ rfl rfl (by decide) (by decide) rfl) ?_;refine uB 7 rfl (uCl zlj rfl (zck (l:=[_,_]) (by simp))) ?_;refine gz6 ?_;refine uCo (fun h5=> ?_) fun h6=> ?_
 refine gz5 ?_;refine uRp ?_;unfold zcz zhV zlu zc0
 (rw [if_neg (fun q=>q h2),if_neg uSa,if_pos (by assumption)])
 refine gz6 ?_;refine dq (uCl zkb rfl zbz) ?_;refine gz8 ?_;refine uCo (fun h7=> ?_) fun h8=> ?_
 refine gz4 ?_;refine uRp ?_;unfold zcz zhV zlu zc0
 (rw [if_neg (fun q=>q h2),if_neg uSa,if_neg (fun q=>q h6),if_pos uSa])
 refine gz6 ?_;refine uRp ?_;unfold zcz zhV zlu zc0
 (rw [if_neg (fun q=>q h2),if_neg uSa,if_neg (fun q=>q h6),if_neg uSa])
theorem zpc [Tracks] {a b:ChoiceS}:ConP prog 221 [zam a,zam b] (.int .i64 (zkG a b)):=by
 refine uOb func221 ntmps221 ?_;refine gz5 ?_;refine uDr mixed ?_;refine gz4 ?_;refine uB 4 rfl (uCl zcf rfl zL) ?_;refine gz4 ?_;refine uB 9 rfl (uCl zc2 rfl zS) ?_;refine gz4 ?_;refine uB 14 rfl (uCl zc2 rfl zS) ?_;refine uB 15 rfl (za (hs:=[_,_,_]) z8 ty3 rfl rfl (by decide) (by decide) rfl) ?_;refine uB 16 rfl (uCl zfD rfl (zbe (l:=[_,_,_]) (by simp))) ?_;refine gz3 ?_;refine zw rfl ?_
 rfl
theorem zlI [Tracks] {b:BookS} {l:List ChoiceS} (hb:BookB b) (hl:l.length<=1000000) (hc: ∀x∈l,x.Players.length<=1000000):ConP prog 134 [.vptr (zwG b) 0,zkf l] (.int .i64 (zrC b.League.Teams b.League.Slots.length l)):=by
 have hsl:=hb.lea.sl;have htm:=hb.lea.tm;refine uOb func134 ntmps134 ?_;refine gz9 ?_;refine uCo (fun h1=> ?_) fun h2=> ?_
 refine gz4 ?_;refine uRp ?_
 (refine congrArg _ (zbL ?_)
  omega)
 refine gz9 ?_;refine uT1 [4,3,8,1,14,68] (fun k=>[(14,.int .i64 k)]) (fun k=>[]) (fun k=>k<=l.length/\(za0 (zb3 b.League.Teams b.League.Slots.length) zfl l 0 l=za0 (zb3 b.League.Teams b.League.Slots.length) zfl l k (l.drop k))) (fun k=>l.length-k) (0) ?_ ?_;exact ⟨Ad _,rfl⟩;rintro k ⟨hk,hg⟩;refine gz4 ?_;refine uCo (fun h3=> ?_) fun h4=> ?_
 obtain ⟨x,hx⟩: ∃x,l[k]? =some x:=⟨_,Aa h3⟩
 have hdx:=zi hx;rw [hdx] at hg;refine gz6 ?_;refine dq (zy zge zeo rfl rfl rfl (by assumption)) ?_;refine gz1 ?_;refine de rfl (zj zeo rfl fun b6=> ?_)
 refine gz1 ?_;refine de0 (zp zeo rfl rfl rfl rfl rfl ?_)
 refine gz1 ?_;refine ze (zk 6 rfl) ?_;refine gz2 ?_;refine uDr mixed ?_;refine gz6 ?_;refine uB 6 rfl (uCl zfX rfl (zC (l:=b.League.Teams) (s:=x.Team) uO)) ?_;refine gz3 ?_;refine uCo (fun h5=> ?_) fun h6=> ?_
 refine gz4 ?_;refine uRp ?_
 (refine congrArg _ (zz (e:=8) ?_ hg ?_ ?_)
  omega
  unfold zb3;exact uT
  first|decide|assumption)
 refine gz3 ?_;refine dq (uCl zlk rfl zcB) ?_;refine gz4 ?_;refine uGr rfl (fun hc=>uCl zkb rfl zbz) ?_;refine gz4 ?_;refine uCo (fun h7=> ?_) fun h8=> ?_
 refine gz4 ?_;refine uRp ?_
 (refine congrArg _ (zz (e:=1) ?_ hg ?_ ?_)
  omega
  unfold zb3;exact uT
  first|decide|assumption)
 refine uDr mixed ?_;refine gz2 ?_;refine uB 2 rfl (zao (f:=HVal.str) (l:=x.Players) zq rfl) ?_;refine gz4 ?_;refine uB 7 rfl (zao (f:=zbo) (l:=b.League.Slots) zbG rfl) ?_;refine gz3 ?_;refine uCo (fun h9=> ?_) fun h10=> ?_
 refine gz4 ?_;refine uRp ?_
 (refine congrArg _ (zz (e:=3) ?_ hg ?_ ?_)
  omega
  unfold zb3;exact uT
  first|decide|assumption)
 refine gz4 ?_;have hcx:=hc x (Ab hx);refine uDr mixed ?_;refine gz2 ?_;refine uA 3 ?_;refine gz1 ?_;refine uB 5 rfl (za (hs:=[_]) zq ty9 rfl rfl (by decide) (by decide) rfl) ?_;refine uA 8 ?_;refine uF 2 ?_;refine zv rfl (uCa zkc rfl (z7 (l:=x.Players) hcx) fun v51=> ?_)
 refine ⟨uE,?_⟩
 refine uF 6 ?_;refine zv rfl (zlA (N:=[]) (sz:=1) (es:=(x.Players++[x.Captain]).map .str) 0 (zK (i:=0) (v:=v51) (es:=x.Players.map .str) (ys:=[.str x.Captain]) zq ty9 rfl rfl rfl rfl rfl (by simp [zar,zb]) uSo fun v55=>⟨v55,rfl,by rw [Az];rfl,rfl⟩) ?_)
 refine ⟨uE,?_⟩
 refine uB 7 rfl (zao (f:=HVal.str) (l:=x.Players++[x.Captain]) zq rfl) ?_;refine uAz ?_;refine gz1 ?_;refine uT1 [4,1,8,1,57,12] (fun j=>[(57,.int .i64 j)]) (fun j=>[]) (fun j=>j<=(x.Players++[x.Captain]).length/\(∀s∈(x.Players++[x.Captain]).take j,zb6 s=true)) (fun j=>(x.Players++[x.Captain]).length-j) (0) ?_ ?_;exact ⟨Ad _,by simp⟩;rintro j ⟨hj,hnm⟩;have hlen:(x.Players++[x.Captain]).length=x.Players.length+1:=by simp
 refine gz4 ?_;refine uCo (fun h11=> ?_) fun h12=> ?_
 obtain ⟨s,hs⟩: ∃s,(x.Players++[x.Captain])[j]? =some s:=⟨_,Aa (by rw [Av];simp;omega)⟩
 have hds:=zi hs;refine gz5 ?_;refine dq (zy zq ty9 rfl rfl rfl (by assumption)) ?_;refine gz8 ?_;refine uGr rfl (fun hc=>uCl zbH rfl zaf) ?_;refine gz3 ?_;refine uCo (fun h13=> ?_) fun h14=> ?_
 refine gz4 ?_;refine uRp ?_
 (obtain ⟨q1,q2⟩: ¬s=[]/\key s=false:=by first|assumption|simp_all
  have g1:zb3 b.League.Teams b.League.Slots.length k x (l.getD (k-1) zfl)=5:=by
   unfold zb3;rw [if_neg uSa,if_neg uSa,if_neg (fun q=>q uO),if_pos (zyM (Ab hs) (zCt q1 q2))]
  exact congrArg _ (zz (e:=5) uO hg g1 (by decide)))
 refine gz7 ?_;refine ⟨j+1,?_,?_,⟨rfl,trivial⟩,uK,Ac _⟩
 refine ⟨by omega,fun s' hs'=> ?_⟩
 rw [z6 hs] at hs'
 rcases List.mem_append.1 hs' with q|q
 exact hnm s' q;rw [List.mem_singleton.1 q];exact zCu (by intro q2;simp_all)
 dsimp only;omega
 have hnj:(x.Players++[x.Captain]).length<=j:=by omega
 obtain rfl:j=(x.Players++[x.Captain]).length:=by omega
 rw [Ak] at hnm;refine gz2 ?_;refine zt ?_;refine gz2 ?_;have hall:((x.Players++[x.Captain]).all zb6)=true:=by
  rw [List.all_eq_true]
  intro s hs
  exact hnm s hs
 refine uDr mixed ?_;refine gz7 ?_;refine uGy 7 rfl rfl (fun hc=>by have hq:=hc;(try simp at hq);exact zy (j:=k-1) (a:=l.getD (k-1) zfl) zge zeo rfl rfl uO (getD_some uO)) ?_;refine gz1 ?_;refine uGy 9 rfl rfl (fun hc=>uCl zE2 rfl zpc) ?_;refine gz3 ?_;refine uCo (fun h15=> ?_) fun h16=> ?_
 refine gz4 ?_;refine uRp ?_
 (refine congrArg _ (zz (e:=7) ?_ hg ?_ ?_)
  omega
  unfold zb3;exact uT
  first|decide|assumption)
 refine gz7 ?_;refine ⟨k+1,?_,?_,⟨rfl,trivial⟩,uK,Ac _⟩
 refine ⟨by omega,?_⟩
 rw [hg,zaW (by unfold zb3;(try clear hdx hg);(try simp only [Ae]);focus first|(simp_all;done)|((repeat' split)<;>focus first|rfl|(exfalso;omega)|(simp_all;done)|(exfalso;rcases ‹_\/_› with q|q<;>simp_all;done)|(exfalso;simp_all;omega)))]
 dsimp only;omega
 have hnk:l.length<=k:=by omega
 obtain rfl:k=l.length:=by omega
 rw [zH (Af _)] at hg;refine gz2 ?_;refine zt ?_;refine gz6 ?_;refine uRp ?_
 (refine congrArg _ (zbw ?_ hg)
  omega)
theorem znL [Tracks] {b:BookS} (hT:Tracks.on=false) (hb:BookB b) (hw: ∀x∈b.Health,-1000000000000000<=x.To/\x.To<=1000000000000000):ConP prog 55 [zbx b] (.int .i64 (zdW b)):=by
 refine uOb func55 ntmps55 ?_;refine gz7 ?_;refine dq (zU (h':=zfn b.League) (zaY zaM rfl rfl (Ao rfl)) rfl) ?_;refine dq (uCl zEc rfl (zmn (g:=b.League) hT hb.lea)) ?_;refine gz6 ?_;refine uCo (fun h1=> ?_) fun h2=> ?_
 refine gz5 ?_;refine uRp ?_;unfold zdW
 (rw [if_pos (by assumption)])
 refine gz2 ?_;refine uDr mixed ?_;refine gz2 ?_;refine uB 2 rfl (uCl zAY rfl (zig (l:=b.Moves) hb.mv)) ?_;refine gz2 ?_;refine uB 5 rfl (uCl ca63 rfl (zjn (l:=b.Plays) hb.pl)) ?_;refine gz2 ?_;refine uB 8 rfl (uCl zAZ rfl (zjm (m:=b.Mends) hb.me)) ?_;refine gz5 ?_;refine uB 14 rfl (uCl zEd rfl (zms (L:=b.League.Players) (l:=b.Health) hT hb.lea.pl hb.lea.nm hb.lea.po hb.he hw)) ?_;refine gz3 ?_;refine uB 18 rfl (uCl zEe rfl (zlI (b:=b) (l:=b.Choices) hb hb.ch hb.cp)) ?_;refine uB 19 rfl (za (hs:=[_,_,_,_,_]) zep zgJ rfl rfl (by decide) (by decide) rfl) ?_;refine uB 20 rfl (uCl zlj rfl (zck (l:=[_,_,_,_,_]) (by simp))) ?_;refine gz3 ?_;refine uRp ?_;unfold zdW
 (rw [if_neg (fun q=>q h2),<-zDh (fun q=>q h2)])
end
section
open Go.Proofs.Tryz
open Go.HL
theorem zaZ [Tracks] {n lo hi:Int}:ConP prog 118 [.int .i64 n,.int .i64 lo,.int .i64 hi] (.bool (!(out n lo hi))):=by
 refine uOb func118 ntmps118 ?_;refine zit ?_;refine zw rfl ?_
 show HVal.bool _=_
 congr 1;simp [out];rw [AF];simp;try omega
theorem zg8 [Tracks] {n:Int}:ConP prog 100 [.int .i64 n] (.int .i64 (zmY n)):=by
 refine uOb func100 ntmps100 ?_;refine zau ?_;refine uCo (fun h1=> ?_) fun h2=> ?_
 refine gz4 ?_;refine uRp ?_;unfold zmY
 (rw [if_pos uO])
 refine gz5 ?_;refine uCo (fun h3=> ?_) fun h4=> ?_
 refine gz4 ?_;refine uRp ?_;unfold zmY
 (rw [if_neg uO,if_pos uO])
 refine gz7 ?_;refine uRp ?_;unfold zmY
 (rw [if_neg uO,if_neg uO])
theorem zj6 [Tracks] {s l:Str} (hs:s.length<=1000000):ConP prog 205 [.str s,.str l] (.bool (zh3 s l)):=by
 refine uOb func205 ntmps205 ?_;refine zau ?_;refine uT1 [4,2,8,10] (fun k=>[(8,.int .i64 (k:Int))]) (fun k=>[]) (fun k=>k<=s.length/\zh3 s l=zh3 (s.drop k) l) (fun k=>s.length-k) (0) ?_ ?_;exact ⟨Ad _,rfl⟩;rintro k ⟨hk,hg⟩;refine gz4 ?_;refine uCo (fun h1=> ?_) fun h2=> ?_
 obtain ⟨x,hx⟩: ∃x,s[k]? =some x:=⟨_,Aa uO⟩
 have hd:=zi hx;rw [hd] at hg;refine zdb ?_;refine dq (zaO (j:=k) (b:=x) ty9 rfl rfl rfl hx) ?_;refine dq (uCl zBh rfl (zii (s:=l) (c:=x.toNat))) ?_;refine gz2 ?_;refine uCo (fun h3=> ?_) fun h4=> ?_
 refine gz4 ?_;refine zw rfl ?_
 show HVal.bool _=_
 rw [hg]
 (rw [zDC (by assumption)])
 refine gz7 ?_;refine ⟨k+1,?_,?_,⟨rfl,trivial⟩,uK,Ac _⟩
 refine ⟨by omega,?_⟩
 rw [hg,zDD (by assumption)]
 dsimp only;omega
 rw [zH uO] at hg;refine gz2 ?_;refine zt ?_;refine gz6 ?_;refine zw rfl ?_
 show HVal.bool _=_
 rw [hg]
 rfl
theorem zbd [Tracks] {s:Str}:ConP prog 119 [.str s] (.bool (key s)):=by
 refine uOb func119 ntmps119 ?_;refine gz6 ?_;refine dq (uCl zgl rfl zaZ) ?_;refine gz2 ?_;refine dg rfl rfl (fun hc=>by
  have hb:=ze8 (n:=(s.length:Int)) (lo:=1) (hi:=40) (by simpa using hc);exact ⟨_,OpenTo.upd (t:=7) rfl (hc) (OpenTo.refl _),zh5 (l:=0) (h:=1) ty9 rfl rfl ⟨_,_,rfl,by omega⟩ uO uO⟩) ?_
 refine uGr rfl (fun hc=>by have hq:=hc;(try simp at hq);exact uCl zBf rfl (zj6 (s:=s.take 1) (l:=zjR) (by rw [AD];omega))) ?_;refine gz3 ?_;refine dg rfl rfl (fun hc=>by
  have hb:=ze8 (n:=(s.length:Int)) (lo:=1) (hi:=40) (by (have q:=hc;simp at q;exact q.1));exact ⟨_,OpenTo.upd (t:=12) rfl (hc) (OpenTo.refl _),uCl zBf rfl (zj6 (s:=s) (l:=zgY) uO)⟩) ?_
 refine gz4 ?_;refine zw rfl ?_
 show HVal.bool _=_
 rw [zzT]
 simp
theorem ziV [Tracks] {n:Int}:ConP prog 117 [.int .i64 n] (.bool (zaa n)):=by
 refine uOb func117 ntmps117 ?_;refine gz5 ?_;refine dq (uCl zgl rfl zaZ) ?_;refine gz3 ?_;refine zw rfl ?_
 show HVal.bool _=_
 rfl
theorem zg7 [Tracks] {n:Int}:ConP prog 196 [.int .i64 n] (.bool (zaV n)):=by
 refine uOb func196 ntmps196 ?_;refine gz5 ?_;refine dq (uCl zgl rfl zaZ) ?_;refine gz3 ?_;refine zw rfl ?_
 show HVal.bool _=_
 rfl
theorem ziW [Tracks] {l:List Str} (hl:l.length<=1000000):ConP prog 200 [eSs l] (.int .i64 (zdI l)):=by
 refine uOb func200 ntmps200 ?_;refine zau ?_;refine uT1 [2,3,7,20] (fun k=>[(7,.int .i64 k)]) (fun k=>[]) (fun k=>k<=l.length/\(zdI l=zbM l k (l.drop k))) (fun k=>l.length-k) (0) ?_ ?_;exact ⟨Ad _,rfl⟩;rintro k ⟨hk,hg⟩;refine gz4 ?_;refine uCo (fun h1=> ?_) fun h2=> ?_
 obtain ⟨x,hx⟩: ∃x,l[k]? =some x:=⟨_,Aa h1⟩
 have hdx:=zi hx;rw [hdx] at hg;refine zdm ?_;refine dq (uCl zhO rfl zbd) ?_;refine gz2 ?_;refine uCo (fun h3=> ?_) fun h4=> ?_
 refine gz4 ?_;refine uRp ?_;rw [hg];simp_all [zbM,leS];refine zau ?_;refine uGr rfl (fun hc=>by have hq:=hc;(try simp at hq);exact zy (j:=k-1) (a:=l.getD (k-1) []) zq ty9 rfl rfl uO (getD_some uO)) ?_;refine gz4 ?_;refine uCo (fun h5=> ?_) fun h6=> ?_
 refine gz4 ?_;refine uRp ?_;rw [hg];simp_all [zbM,leS];refine gz7 ?_;refine ⟨k+1,?_,?_,⟨rfl,trivial⟩,uK,Ac _⟩
 refine ⟨by omega,?_⟩
 rw [hg];simp_all [zbM,leS]
 dsimp only;omega
 have hnk:l.length<=k:=by omega
 obtain rfl:k=l.length:=by omega
 rw [zH (Af _)] at hg;refine gz2 ?_;refine zt ?_;refine gz6 ?_;refine uRp ?_;rw [hg];simp_all [zbM,leS]
theorem zhs [Tracks] {l:List Str} (hl:l.length<=1000000):ConP prog 195 [eSs l,.bool true] (.int .i64 (zdc l)):=by
 refine uOb func195 ntmps195 ?_;refine zdm ?_;refine uCo (fun h1=> ?_) fun h2=> ?_
 refine gz4 ?_;refine uRp ?_;rw [zrP]
 (rw [if_pos uSa])
 refine gz6 ?_;refine uCo (fun h3=> ?_) fun h4=> ?_
 refine gz4 ?_;refine uRp ?_;rw [zrP]
 (rw [if_neg uO,if_pos uO])
 refine gz5 ?_;refine dq (uCl zBc rfl (ziW (by assumption))) ?_;refine gz3 ?_;refine uRp ?_;rw [zrP]
 (rw [if_neg uSa,if_neg uO])
theorem zj4 [Tracks] {l:List PlayerS} (hT:Tracks.on=false) (hl:l.length<=1000000) (hn: ∀p∈l,p.Name∈zc6) (hp: ∀p∈l,p.Positions.length<=1000000):ConP prog 105 [zbi l] (.int .i64 (zcL l)):=by
 refine uOb func105 ntmps105 ?_;refine gz9 ?_;refine uCo (fun h1=> ?_) fun h2=> ?_
 refine gz4 ?_;refine uRp ?_
 (refine congrArg _ (zbL ?_)
  omega)
 refine zdb ?_;refine uT1 [2,2,5,2,12,35] (fun k=>[(12,.int .i64 k),(3,.str (zoU PlayerS.Key zeb l k))]) (fun k=>[]) (fun k=>k<=l.length/\(za0 zcO zeb l 0 l=za0 zcO zeb l k (l.drop k))) (fun k=>l.length-k) (0) ?_ ?_;exact ⟨Ad _,rfl⟩;rintro k ⟨hk,hg⟩;refine gz4 ?_;refine uCo (fun h3=> ?_) fun h4=> ?_
 obtain ⟨x,hx⟩: ∃x,l[k]? =some x:=⟨_,Aa h3⟩
 have hdx:=zi hx;rw [hdx] at hg;refine gz7 ?_;refine de rfl (zj zeF rfl fun b5=> ?_)
 refine de0 (zp zeF rfl rfl rfl rfl rfl ?_)
 refine gz1 ?_;refine ze (zk 5 rfl) ?_;refine gz5 ?_;refine dq (uCl zhO rfl zbd) ?_;refine gz3 ?_;refine uCo (fun h5=> ?_) fun h6=> ?_
 refine gz4 ?_;refine uRp ?_
 (refine congrArg _ (zz (e:=5) ?_ hg ?_ ?_)
  omega
  unfold zcO;exact uT
  first|decide|assumption)
 have hkx:key x.Key=true:=by first|assumption|simp_all
 have hll:=zv2 (f:=PlayerS.Key) (d:=zeb) (l:=l) (k:=k) (x:=x) hkx;refine gz7 ?_;refine uCo (fun h7=> ?_) fun h8=> ?_
 refine gz4 ?_;refine uRp ?_
 (refine congrArg _ (zz (e:=7) ?_ hg ?_ ?_)
  omega
  unfold zcO;exact uT
  first|decide|assumption)
 have hn6:=zot (hn x (Ab hx));refine gz3 ?_;refine dq (uCl zEQ rfl (zo8 hT (hn x (Ab hx)))) ?_;refine gz5 ?_;refine uGr rfl (fun hc=>uCl zgl rfl zaZ) ?_;refine gz4 ?_;refine zX rfl (fun h9=> ?_) (fun h9=> ?_)
 exfalso
 try simp at h9
 simp_all
 try simp at h9
 refine gz7 ?_;refine dq (uCl zBa rfl (zhs (hp x (Ab hx)))) ?_;refine gz6 ?_;refine uCo (fun h10=> ?_) fun h11=> ?_
 refine gz5 ?_;refine uRp ?_
 (refine congrArg _ (zz (e:=(zdc x.Positions)) ?_ hg ?_ ?_)
  omega
  unfold zcO;exact uT
  first|decide|assumption)
 refine zd3 ?_;exact ⟨k+1,⟨by omega,by rw [hg,zaW (by unfold zcO;(try clear hdx hg);(try simp only [Ae]);focus first|(simp_all;done)|((repeat' split)<;>focus first|rfl|(exfalso;omega)|(simp_all;done)|(exfalso;rcases ‹_\/_› with q|q<;>simp_all;done)|(exfalso;simp_all;omega)))]⟩,uD,⟨rfl,congrArg (fun q=>some (HVal.str q)) (zss hx).symm,trivial⟩,uK,Ac _⟩;have hnk:l.length<=k:=by omega
 obtain rfl:k=l.length:=by omega
 rw [zH (Af _)] at hg;refine gz2 ?_;refine zt ?_;refine gz6 ?_;refine uRp ?_
 (refine congrArg _ (zbw ?_ hg)
  omega)
theorem zk8 [Tracks] {x:PlayerS} {s:Str}:ConP prog 209 [zeL x,.vptr [.str s] 0] (.bool (x.Key==s)):=by
 refine uOb func209 ntmps209 ?_;refine zdb ?_;refine zw rfl ?_
 rfl
theorem ze5 [Tracks] {l:List PlayerS} {fid:FuncId} {caps:List HVal} {p:PlayerS->Bool} (hca:Callable prog fid) (hp: ∀x,ConP prog fid ([zeL x]++caps) (.bool (p x))) (hl:l.length<=1000000):ConP prog 208 [.slice 3 (l.map zeL),.fn (.func fid) [] caps] (.int .i64 (zT p l 0)):=by
 refine uOb func208 ntmps208 ?_;refine zau ?_;refine uT1 [4,2,8,11] (fun k=>[(8,.int .i64 k)]) (fun k=>[]) (fun k=>k<=l.length/\(zT p l 0=zT p (l.drop k) k)) (fun k=>l.length-k) (0) ?_ ?_;exact ⟨Ad _,rfl⟩;rintro k ⟨hk,hg⟩;refine gz4 ?_;refine uCo (fun h1=> ?_) fun h2=> ?_
 obtain ⟨x,hx⟩: ∃x,l[k]? =some x:=⟨_,Aa h1⟩
 have hdx:=zi hx;rw [hdx] at hg;refine zdm ?_;refine dq (zal hca rfl rfl (WeakL.refl _) (hp _)) ?_;refine gz1 ?_;refine uCo (fun h3=> ?_) fun h4=> ?_
 refine gz5 ?_;refine uRp ?_
 (rw [hg];simp_all [zT])
 refine gz7 ?_;refine ⟨k+1,?_,?_,⟨rfl,trivial⟩,uK,Ac _⟩
 refine ⟨by omega,?_⟩
 rw [hg,zT,if_neg uSa];rfl
 dsimp only;omega
 have hnk:l.length<=k:=by omega
 obtain rfl:k=l.length:=by omega
 rw [zH (Af _)] at hg;refine gz2 ?_;refine zt ?_;refine gz6 ?_;refine uRp ?_
 (rw [hg];rfl)
theorem zds [Tracks] {l:List PlayerS} {s:Str} (hl:l.length<=1000000):ConP prog 126 [zbi l,.str s] (.int .i64 (zT (fun x:PlayerS=>x.Key==s) l 0)):=by
 refine uOb func126 ntmps126 ?_;refine gz7 ?_;refine dq (uCl zEU rfl (ze5 (l:=l) (p:=fun x=>x.Key==s) zEV (fun _=>zk8) hl)) ?_;refine gz3 ?_;refine zw rfl ?_
 rfl
theorem zky [Tracks] {L:List PlayerS} {l:List StintS} (hL:L.length<=1000000) (hl:l.length<=1000000):ConP prog 106 [zbi L,zfo l] (.int .i64 (zjg L l)):=by
 refine uOb func106 ntmps106 ?_;refine gz9 ?_;refine uCo (fun h1=> ?_) fun h2=> ?_
 refine gz4 ?_;refine uRp ?_
 (refine congrArg _ (zbL ?_)
  omega)
 refine gz9 ?_;refine uT1 [4,3,12,63] (fun k=>[(12,.int .i64 k)]) (fun k=>[]) (fun k=>k<=l.length/\(za0 (zdR L) zfh l 0 l=za0 (zdR L) zfh l k (l.drop k))) (fun k=>l.length-k) (0) ?_ ?_;exact ⟨Ad _,rfl⟩;rintro k ⟨hk,hg⟩;refine gz4 ?_;refine uCo (fun h3=> ?_) fun h4=> ?_
 obtain ⟨x,hx⟩: ∃x,l[k]? =some x:=⟨_,Aa h3⟩
 have hdx:=zi hx;rw [hdx] at hg;refine gz8 ?_;refine de rfl (zj zcN rfl fun b6=> ?_)
 refine gz1 ?_;refine de0 (zp zcN rfl rfl rfl rfl rfl ?_)
 refine gz1 ?_;refine ze (zk 6 rfl) ?_;refine gz5 ?_;refine dq (uCl ztm rfl (zds (l:=L) (s:=x.Player) hL)) ?_;refine gz3 ?_;refine uCo (fun h5=> ?_) fun h6=> ?_
 have hph:=zqZ (L:=L) (s:=x.Player);refine gz4 ?_;refine uRp ?_
 (refine congrArg _ (zz (e:=8) ?_ hg ?_ ?_)
  omega
  unfold zdR;exact uT
  first|decide|assumption)
 have hph:=zqZ (L:=L) (s:=x.Player);have hpl:zgq L x.Player=true:=by
  cases hq:zgq L x.Player with
  |true=>rfl
  |false=>have:=hph.2 hq;omega
 refine gz7 ?_;refine uGr rfl (fun hc=>uCl zhO rfl zbd) ?_;refine gz4 ?_;refine uCo (fun h7=> ?_) fun h8=> ?_
 refine gz4 ?_;refine uRp ?_
 (refine congrArg _ (zz (e:=5) ?_ hg ?_ ?_)
  omega
  unfold zdR;exact uT
  first|decide|assumption)
 refine gz3 ?_;refine dq (uCl zwQ rfl zg7) ?_;refine gz3 ?_;refine uCo (fun h9=> ?_) fun h10=> ?_
 refine gz4 ?_;refine uRp ?_
 (refine congrArg _ (zz (e:=1) ?_ hg ?_ ?_)
  omega
  unfold zdR;exact uT
  first|decide|assumption)
 have hord:=ord2 (a:=x.Player) (b:=(l.getD (k-1) zfh).Player) (m:=x.Week) (n:=(l.getD (k-1) zfh).Week);refine uDr mixed ?_;refine gz8 ?_;refine uGy 8 rfl rfl (fun hc=>by have hq:=hc;(try simp at hq);exact zy (j:=k-1) (a:=l.getD (k-1) zfh) zhn zcN rfl rfl uO (getD_some uO)) ?_;refine gz9 ?_;refine uGy 18 rfl rfl (fun hc=>by have hq:=hc;(try simp at hq);exact zy (j:=k-1) (a:=l.getD (k-1) zfh) zhn zcN rfl rfl uO (getD_some uO)) ?_;refine gz9 ?_;refine uGy 28 rfl rfl (fun hc=>by have hq:=hc;(try simp at hq);exact zy (j:=k-1) (a:=l.getD (k-1) zfh) zhn zcN rfl rfl uO (getD_some uO)) ?_;refine gz8 ?_;refine uCo (fun h11=> ?_) fun h12=> ?_
 refine gz4 ?_;refine uRp ?_
 (refine congrArg _ (zz (e:=7) ?_ hg ?_ ?_)
  omega
  unfold zdR;exact uT
  first|decide|assumption)
 refine gz8 ?_;refine ⟨k+1,?_,?_,⟨rfl,trivial⟩,uK,Ac _⟩
 refine ⟨by omega,?_⟩
 rw [hg,zaW (by unfold zdR;(try clear hdx hg);(try simp only [Ae]);focus first|(simp_all;done)|((repeat' split)<;>focus first|rfl|(exfalso;omega)|(simp_all;done)|(exfalso;rcases ‹_\/_› with q|q<;>simp_all;done)|(exfalso;simp_all;omega)))]
 dsimp only;omega
 have hnk:l.length<=k:=by omega
 obtain rfl:k=l.length:=by omega
 rw [zH (Af _)] at hg;refine gz2 ?_;refine zt ?_;refine gz6 ?_;refine uRp ?_
 (refine congrArg _ (zbw ?_ hg)
  omega)
theorem zkx [Tracks] {L:List PlayerS} {l:List HealthS} (hL:L.length<=1000000) (hl:l.length<=1000000) (hw: ∀x∈l,-1000000000000000<=x.To/\x.To<=1000000000000000):ConP prog 52 [zbi L,zcF l] (.int .i64 (zrH L l)):=by
 refine uOb func52 ntmps52 ?_;refine gz9 ?_;refine uCo (fun h1=> ?_) fun h2=> ?_
 refine gz4 ?_;refine uRp ?_
 (refine congrArg _ (zbL ?_)
  omega)
 refine gz9 ?_;refine uT1 [4,4,13,74] (fun k=>[(13,.int .i64 k)]) (fun k=>[]) (fun k=>k<=l.length/\(za0 (zb4 L) zgr l 0 l=za0 (zb4 L) zgr l k (l.drop k))) (fun k=>l.length-k) (0) ?_ ?_;exact ⟨Ad _,rfl⟩;rintro k ⟨hk,hg⟩;refine gz4 ?_;refine uCo (fun h3=> ?_) fun h4=> ?_
 obtain ⟨x,hx⟩: ∃x,l[k]? =some x:=⟨_,Aa h3⟩
 have hdx:=zi hx;rw [hdx] at hg;refine gz8 ?_;refine de rfl (zj zcw rfl fun b6=> ?_)
 refine gz1 ?_;refine de0 (zp zcw rfl rfl rfl rfl rfl ?_)
 refine gz1 ?_;refine ze (zk 6 rfl) ?_;refine gz2 ?_;have hwx:=hw x (Ab hx);refine gz4 ?_;refine dq (uCl ztm rfl (zds (l:=L) (s:=x.Player) hL)) ?_;refine gz3 ?_;refine uCo (fun h5=> ?_) fun h6=> ?_
 have hph:=zqZ (L:=L) (s:=x.Player);refine gz4 ?_;refine uRp ?_
 (refine congrArg _ (zz (e:=8) ?_ hg ?_ ?_)
  omega
  unfold zb4;exact uT
  first|decide|assumption)
 have hph:=zqZ (L:=L) (s:=x.Player);have hpl:zgq L x.Player=true:=by
  cases hq:zgq L x.Player with
  |true=>rfl
  |false=>have:=hph.2 hq;omega
 refine gz6 ?_;refine dq (uCl zgl rfl zaZ) ?_;refine gz8 ?_;refine uCo (fun h7=> ?_) fun h8=> ?_
 have hag:=zzN (f:=x.From) (t:=x.To) (by assumption);refine gz4 ?_;refine uRp ?_
 (refine congrArg _ (zz (e:=1) ?_ hg ?_ ?_)
  omega
  unfold zb4;exact uT
  first|decide|assumption)
 have hag:=zzM (f:=x.From) (t:=x.To) (by assumption);refine zcl ?_;refine uCo (fun h9=> ?_) fun h10=> ?_
 have hkd:=zDn (k:=x.Kind) (by assumption);refine gz4 ?_;refine uRp ?_
 (refine congrArg _ (zz (e:=4) ?_ hg ?_ ?_)
  omega
  unfold zb4;exact uT
  first|decide|assumption)
 refine gz4 ?_;have hkd:=zDm (k:=x.Kind) (by assumption);refine gz4 ?_;refine uCo (fun h11=> ?_) fun h12=> ?_
 refine gz8 ?_;refine ⟨k+1,?_,?_,⟨rfl,trivial⟩,uK,Ac _⟩
 refine ⟨by omega,?_⟩
 rw [hg,zaW (by unfold zb4;(try clear hdx hg);(try simp only [Ae]);focus first|(simp_all;done)|((repeat' split)<;>focus first|rfl|(exfalso;omega)|(simp_all;done)|(exfalso;rcases ‹_\/_› with q|q<;>simp_all;done)|(exfalso;simp_all;omega)))]
 dsimp only;omega
 refine gz2 ?_;have hk0:0<k:=by omega
 refine gz4 ?_;refine dq (zy (j:=k-1) (a:=l.getD (k-1) zgr) zjj zcw rfl rfl uO (getD_some uO)) ?_;refine gz1 ?_;refine de rfl (zj zcw rfl fun b7=> ?_)
 refine de0 (zp zcw rfl rfl rfl rfl rfl ?_)
 refine gz1 ?_;refine ze (zk 7 rfl) ?_;refine gz1 ?_;have hord:=ord2 (a:=x.Player) (b:=(l.getD (k-1) zgr).Player) (m:=x.From) (n:=(l.getD (k-1) zgr).From);refine gz22 ?_;refine uCo (fun h13=> ?_) fun h14=> ?_
 refine gz4 ?_;refine uRp ?_
 (refine congrArg _ (zz (e:=7) ?_ hg ?_ ?_)
  omega
  unfold zb4;exact uT
  first|decide|assumption)
 refine zit ?_;refine uCo (fun h15=> ?_) fun h16=> ?_
 refine gz4 ?_;refine uRp ?_
 (refine congrArg _ (zz (e:=13) ?_ hg ?_ ?_)
  omega
  unfold zb4;exact uT
  first|decide|assumption)
 refine gz8 ?_;refine ⟨k+1,?_,?_,⟨rfl,trivial⟩,uK,Ac _⟩
 refine ⟨by omega,?_⟩
 rw [hg,zaW (by unfold zb4;(try clear hdx hg);(try simp only [Ae]);focus first|(simp_all;done)|((repeat' split)<;>focus first|rfl|(exfalso;omega)|(simp_all;done)|(exfalso;rcases ‹_\/_› with q|q<;>simp_all;done)|(exfalso;simp_all;omega)))]
 dsimp only;omega
 have hnk:l.length<=k:=by omega
 obtain rfl:k=l.length:=by omega
 rw [zH (Af _)] at hg;refine gz2 ?_;refine zt ?_;refine gz6 ?_;refine uRp ?_
 (refine congrArg _ (zbw ?_ hg)
  omega)
theorem zfQ [Tracks] {a b:List Int} (ha:a.length<=1000) (hb:b.length<=1000):ConP prog 177 [.slice 1 (a.map (HVal.int .i64)),.slice 1 (b.map (HVal.int .i64))] (.int .i64 (zfu a b)):=by
 refine uOb func177 ntmps177 ?_;refine zau ?_;refine uT1 [4,5,11,20] (fun k=>[(11,.int .i64 k)]) (fun k=>[]) (fun k=>k<=a.length/\(zfu a b=zfu (a.drop k) (b.drop k))) (fun k=>a.length-k) (0) ?_ ?_;exact ⟨Ad _,rfl⟩;rintro k ⟨hk,hg⟩;refine gz4 ?_;refine uCo (fun h1=> ?_) fun h2=> ?_
 obtain ⟨x,hx⟩: ∃x,a[k]? =some x:=⟨_,Aa h1⟩
 have hdx:=zi hx;rw [hdx] at hg;refine gz18 ?_;refine uCo (fun h3=> ?_) fun h4=> ?_
 refine gz4 ?_;refine uRp ?_
 (rw [hg,BB (show b.length<=k by omega)];rfl)
 refine gz2 ?_;obtain ⟨y,hy⟩: ∃y,b[k]? =some y:=⟨_,Aa uO⟩
 refine zau ?_;refine dq (uCl zc2 rfl (zS (a:=x) (b:=y))) ?_;refine gz6 ?_;refine uCo (fun h5=> ?_) fun h6=> ?_
 refine gz5 ?_;refine uRp ?_
 (rw [hg,zi hy,zfu,if_pos (by assumption)])
 refine gz7 ?_;exact ⟨k+1,⟨by omega,by rw [hg,zi hy,zfu,if_neg uSa]⟩,uD,⟨rfl,trivial⟩,uK,Ac _⟩;have hnk:a.length<=k:=by omega
 obtain rfl:k=a.length:=by omega
 rw [zH (Af _)] at hg;refine gz2 ?_;refine zt ?_;refine zau ?_;refine uCo (fun h7=> ?_) fun h8=> ?_
 refine gz4 ?_;refine uRp ?_
 (obtain ⟨y,hy⟩: ∃y,b[a.length]? =some y:=⟨_,Aa uO⟩
  rw [hg,zi hy];rfl)
 refine gz6 ?_;refine uRp ?_
 (rw [hg,BB (show b.length<=a.length by omega)];rfl)
theorem zjs [Tracks] {l:List FixS} (hl:l.length<=1000000):ConP prog 107 [zmD l] (.int .i64 (zje l)):=by
 refine uOb func107 ntmps107 ?_;refine gz9 ?_;refine uCo (fun h1=> ?_) fun h2=> ?_
 refine gz4 ?_;refine uRp ?_
 (refine congrArg _ (zbL ?_)
  omega)
 refine gz9 ?_;refine uT1 [2,5,12,65] (fun k=>[(12,.int .i64 k)]) (fun k=>[]) (fun k=>k<=l.length/\(za0 zf3 zlo l 0 l=za0 zf3 zlo l k (l.drop k))) (fun k=>l.length-k) (0) ?_ ?_;exact ⟨Ad _,rfl⟩;rintro k ⟨hk,hg⟩;refine gz4 ?_;refine uCo (fun h3=> ?_) fun h4=> ?_
 obtain ⟨x,hx⟩: ∃x,l[k]? =some x:=⟨_,Aa h3⟩
 have hdx:=zi hx;rw [hdx] at hg;refine gz8 ?_;refine de rfl (zj zaI rfl fun b4=> ?_)
 refine gz1 ?_;refine de0 (zp zaI rfl rfl rfl rfl rfl ?_)
 refine gz1 ?_;refine ze (zk 4 rfl) ?_;refine gz5 ?_;refine dq (uCl zwQ rfl zg7) ?_;refine gz4 ?_;refine uGr rfl (fun hc=>uCl zAV rfl ziV) ?_;refine gz4 ?_;refine uCo (fun h5=> ?_) fun h6=> ?_
 refine gz4 ?_;refine uRp ?_
 (refine congrArg _ (zz (e:=1) ?_ hg ?_ ?_)
  omega
  unfold zf3;exact uT
  first|decide|assumption)
 refine gz3 ?_;refine dq (uCl zhO rfl zbd) ?_;refine gz4 ?_;refine uGr rfl (fun hc=>uCl zhO rfl zbd) ?_;refine gz4 ?_;refine uCo (fun h7=> ?_) fun h8=> ?_
 refine gz4 ?_;refine uRp ?_
 (refine congrArg _ (zz (e:=5) ?_ hg ?_ ?_)
  omega
  unfold zf3;exact uT
  first|decide|assumption)
 refine gz8 ?_;refine uCo (fun h9=> ?_) fun h10=> ?_
 refine gz4 ?_;refine uRp ?_
 (refine congrArg _ (zz (e:=6) ?_ hg ?_ ?_)
  omega
  unfold zf3;exact uT
  first|decide|assumption)
 refine gz7 ?_;refine uCo (fun h11=> ?_) fun h12=> ?_
 refine gz4 ?_;refine dq (zy (j:=k-1) (a:=l.getD (k-1) zlo) zc1 zaI rfl rfl uO (getD_some uO)) ?_;refine gz1 ?_;refine de rfl (zj zaI rfl fun b5=> ?_)
 refine de0 (zp zaI rfl rfl rfl rfl rfl ?_)
 refine gz1 ?_;refine ze (zk 5 rfl) ?_;refine gz5 ?_;refine dq (za (hs:=[_,_]) z8 ty3 rfl rfl (by decide) (by decide) rfl) ?_;refine gz4 ?_;refine dq (za (hs:=[_,_]) z8 ty3 rfl rfl (by decide) (by decide) rfl) ?_;refine dq (uCl zA5 rfl (zfQ (a:=[(l.getD (k-1) zlo).Week,(l.getD (k-1) zlo).At]) (b:=[x.Week,x.At]) (by simp) (by simp))) ?_;refine gz2 ?_;have hord:=zB6 (x:=x) (p:=l.getD (k-1) zlo);refine zit ?_;refine uCo (fun h13=> ?_) fun h14=> ?_
 refine gz4 ?_;refine uRp ?_
 (refine congrArg _ (zz (e:=7) ?_ hg ?_ ?_)
  omega
  unfold zf3;exact uT
  first|decide|assumption)
 refine gz7 ?_;refine ⟨k+1,?_,?_,⟨rfl,trivial⟩,uK,Ac _⟩
 refine ⟨by omega,?_⟩
 rw [hg,zaW (by unfold zf3;(try clear hdx hg);(try simp only [Ae]);focus first|(simp_all;done)|((repeat' split)<;>focus first|rfl|(exfalso;omega)|(simp_all;done)|(exfalso;rcases ‹_\/_› with q|q<;>simp_all;done)|(exfalso;simp_all;omega)))]
 dsimp only;omega
 refine gz7 ?_;refine ⟨k+1,?_,?_,⟨rfl,trivial⟩,uK,Ac _⟩
 refine ⟨by omega,?_⟩
 rw [hg,zaW (by unfold zf3;(try clear hdx hg);(try simp only [Ae]);focus first|(simp_all;done)|((repeat' split)<;>focus first|rfl|(exfalso;omega)|(simp_all;done)|(exfalso;rcases ‹_\/_› with q|q<;>simp_all;done)|(exfalso;simp_all;omega)))]
 dsimp only;omega
 have hnk:l.length<=k:=by omega
 obtain rfl:k=l.length:=by omega
 rw [zH (Af _)] at hg;refine gz2 ?_;refine zt ?_;refine gz6 ?_;refine uRp ?_
 (refine congrArg _ (zbw ?_ hg)
  omega)
theorem zif [Tracks] {n d:Int} (hn: -1000000000000<=n/\n<=1000000000000) (hd:0<=d/\d<=1000000000000):ConP prog 269 [.int .i64 n,.int .i64 d] (.int .i64 ((Nat.gcd n.natAbs d.natAbs:Nat):Int)):=by
 refine uOb func269 ntmps269 ?_;refine gz5 ?_;refine uU2 [0,2,5,6] (fun (a:Int) (b:Int)=>[(0,.int .i64 a),(1,.int .i64 b)]) (fun (a:Int) (b:Int)=>[]) (fun (a:Int) (b:Int)=>(-1000000000000<=a/\a<=1000000000000)/\(-1000000000000<=b/\b<=1000000000000)/\Nat.gcd a.natAbs b.natAbs=Nat.gcd n.natAbs d.natAbs) (fun (a:Int) (b:Int)=>b.natAbs) (n) (d) ?_ ?_;exact ⟨hn,by omega,rfl⟩;rintro a b ⟨ha,hb,hg⟩;refine gz5 ?_;refine uCo (fun h1=> ?_) fun h2=> ?_
 have hb0:b≠0:=by simpa using h1
 obtain ⟨m1,m2,m3⟩:=zva (a:=a) hb0;refine gz3 ?_;refine zia mixed ?_;refine gz3 ?_;refine uB 3 rfl (zcP rfl rfl uO) ?_;refine gz4 ?_;refine ⟨b,a.tmod b,?_,?_,⟨rfl,rfl,trivial⟩,uK,Ac _⟩
 exact ⟨hb,by omega,by rw [zAK];exact hg⟩
 dsimp only;exact m3
 obtain rfl:b=0:=by simpa using h2
 rw [show (0:Int).natAbs=0 from rfl,Nat.gcd_zero_right] at hg;refine gz2 ?_;refine zM ?_;refine gz5 ?_;refine dq (zi7 rfl uO uO) ?_;refine dq (zoY rfl rfl) ?_;refine gz3 ?_;refine uRp ?_;rw [<-hg]
 congr 1
 omega
theorem zd1 [Tracks] {n d most:Int} (hn: -1000000000<=n/\n<=1000000000) (hd: -1000000000<=d/\d<=1000000000) (hm:0<=most/\most<=1000000):ConP prog 197 [.agg [.int .i64 n,.int .i64 d],.int .i64 most] (.int .i64 (zby n d most)):=by
 refine uOb func197 ntmps197 ?_;refine zit ?_;refine dg rfl rfl (fun hc=>by
  have hd1:1<=d:=by (have q:=hc;simp at q;omega)
  exact ⟨_,OpenTo.upd (t:=13) rfl (hc) (OpenTo.upd (t:=11) rfl (hc) (OpenTo.refl _)),uCl zBt rfl (zif (n:=n) (d:=d) uO uO)⟩) ?_
 refine gz4 ?_;refine uCo (fun h1=> ?_) fun h2=> ?_
 have hp3:=pts3 (n:=n) (d:=d) (by assumption);refine gz4 ?_;refine uRp ?_;unfold zby
 (rw [if_pos hp3])
 have hp0:=pts0 (n:=n) (d:=d) uSa;have hd1:1<=d:=by (focus first|omega|(simp_all;done)|(simp_all;omega))
 have hmd:=zqS (a:=most) (b:=d) (A:=1000000) (B:=1000000000) uO uO uO uO;have hmn: -most*d= -(most*d):=Bu _ _;refine gz3 ?_;refine dq (zcP rfl rfl uO) ?_;refine gz5 ?_;refine uGr rfl (fun hc=>by have hq:=hc;(try simp at hq);exact zi7 rfl uO uO) ?_;refine gz2 ?_;refine uGr rfl (fun hc=>by have hq:=hc;(try simp at hq);exact zcg rfl rfl uO uO) ?_;refine gz8 ?_;refine uGr rfl (fun hc=>by have hq:=hc;(try simp at hq);exact zcg rfl rfl uO uO) ?_;refine gz4 ?_;refine uCo (fun h3=> ?_) fun h4=> ?_
 have hp1:=pts1 (n:=n) (d:=d) (m:=most) (by assumption);refine gz4 ?_;refine uRp ?_;unfold zby
 (rw [if_neg (by rw [hp0];simp;omega),if_pos hp1])
 refine gz3 ?_;have hp2:=pts2 (n:=n) (d:=d) (m:=most) (by assumption);refine gz4 ?_;refine uRp ?_;unfold zby
 (rw [if_neg (by rw [hp0];simp;omega),if_neg hp2])
theorem zk9 [Tracks] {l:List RuleS} (hl:l.length<=1000000) (hb: ∀x∈l,((-1000000000<=x.Num/\x.Num<=1000000000)/\ -1000000000<=x.Den/\x.Den<=1000000000)):ConP prog 108 [zf0 l] (.int .i64 (zgG l)):=by
 refine uOb func108 ntmps108 ?_;refine gz9 ?_;refine uCo (fun h1=> ?_) fun h2=> ?_
 refine gz4 ?_;refine uRp ?_
 (refine congrArg _ (zbL ?_)
  omega)
 refine zdb ?_;refine uT1 [2,2,5,3,13,70] (fun k=>[(13,.int .i64 k),(3,.str (zoU RuleS.Key zkU l k))]) (fun k=>[]) (fun k=>k<=l.length/\(za0 zdY zkU l 0 l=za0 zdY zkU l k (l.drop k))) (fun k=>l.length-k) (0) ?_ ?_;exact ⟨Ad _,rfl⟩;rintro k ⟨hk,hg⟩;refine gz4 ?_;refine uCo (fun h3=> ?_) fun h4=> ?_
 obtain ⟨x,hx⟩: ∃x,l[k]? =some x:=⟨_,Aa h3⟩
 have hdx:=zi hx;rw [hdx] at hg;refine gz7 ?_;refine de rfl (zj zgy rfl fun b5=> ?_)
 refine de0 (zp zgy rfl rfl rfl rfl rfl ?_)
 refine gz1 ?_;refine ze (zk 5 rfl) ?_;refine gz9 ?_;refine dq (zU (h':= .bool (zqN x.Kind)) (zjC rfl) rfl) ?_;refine gz6 ?_;refine dq (uCl zhO rfl zbd) ?_;refine gz4 ?_;refine uGr rfl (fun hc=>uCl zhO rfl zbd) ?_;refine gz9 ?_;refine uGr rfl (fun hc=>uCl zhO rfl zbd) ?_;refine gz5 ?_;refine uCo (fun h5=> ?_) fun h6=> ?_
 refine gz4 ?_;refine uRp ?_
 (refine congrArg _ (zz (e:=5) ?_ hg ?_ ?_)
  omega
  unfold zdY;exact uT
  first|decide|assumption)
 have hkx:key x.Key=true:=by simp_all
 have hll:=zv2 (f:=RuleS.Key) (d:=zkU) (l:=l) (k:=k) (x:=x) hkx;refine gz7 ?_;refine uCo (fun h7=> ?_) fun h8=> ?_
 refine gz4 ?_;refine uRp ?_
 (refine congrArg _ (zz (e:=7) ?_ hg ?_ ?_)
  omega
  unfold zdY;exact uT
  first|decide|assumption)
 refine gz3 ?_;refine dq (uCl zgl rfl zaZ) ?_;refine gz3 ?_;refine uCo (fun h9=> ?_) fun h10=> ?_
 refine gz4 ?_;refine uRp ?_
 (refine congrArg _ (zz (e:=4) ?_ hg ?_ ?_)
  omega
  unfold zdY;exact uT
  first|decide|assumption)
 refine gz5 ?_;refine uGr rfl (fun hc=>uCl zgl rfl zaZ) ?_;refine zd3 ?_;refine uCo (fun h11=> ?_) fun h12=> ?_
 refine gz4 ?_;refine uRp ?_
 (refine congrArg _ (zz (e:=1) ?_ hg ?_ ?_)
  omega
  unfold zdY;exact uT
  first|decide|assumption)
 refine gz6 ?_;refine dq (zU (h':= .agg [.int .i64 x.Num,.int .i64 x.Den]) (zaY zav rfl rfl (Ao rfl)) rfl) ?_;refine dq (uCl zwR rfl (zd1 (n:=x.Num) (d:=x.Den) (most:=10000) (hb x (Ab hx)).1 (hb x (Ab hx)).2 uO)) ?_;refine gz6 ?_;refine uCo (fun h13=> ?_) fun h14=> ?_
 refine gz5 ?_;refine uRp ?_
 (refine congrArg _ (zz (e:=(zby x.Num x.Den 10000)) ?_ hg ?_ ?_)
  omega
  unfold zdY;exact uT
  first|decide|assumption)
 refine zd3 ?_;exact ⟨k+1,⟨by omega,by rw [hg,zaW (by unfold zdY;(try clear hdx hg);(try simp only [Ae]);focus first|(simp_all;done)|((repeat' split)<;>focus first|rfl|(exfalso;omega)|(simp_all;done)|(exfalso;rcases ‹_\/_› with q|q<;>simp_all;done)|(exfalso;simp_all;omega)))]⟩,uD,⟨rfl,congrArg (fun q=>some (HVal.str q)) (zss hx).symm,trivial⟩,uK,Ac _⟩;have hnk:l.length<=k:=by omega
 obtain rfl:k=l.length:=by omega
 rw [zH (Af _)] at hg;refine gz2 ?_;refine zt ?_;refine gz6 ?_;refine uRp ?_
 (refine congrArg _ (zbw ?_ hg)
  omega)
theorem zj5 [Tracks] {y x:SlotS}:ConP prog 199 [zbo y,.vptr (zb (zbo x)) 0] (.bool (y.Key==x.Key)):=by
 refine uOb func199 ntmps199 ?_;refine zd3 ?_;refine zw rfl ?_
 rfl
theorem zlb [Tracks] {l:List SlotS} (hl:l.length<=1000000) (hp: ∀x∈l,x.Positions.length<=1000000):ConP prog 109 [zbB l] (.int .i64 (zdx l)):=by
 refine uOb func109 ntmps109 ?_;refine zcl ?_;refine uCo (fun h1=> ?_) fun h2=> ?_
 ·refine gz4 ?_;refine uRp ?_
  (unfold zdx;simp_all;done)
 ·refine gz6 ?_;refine uCo (fun h3=> ?_) fun h4=> ?_
  ·refine gz4 ?_;refine uRp ?_
   (rw [zdx,if_neg (by first|omega|simp_all),if_pos uO];done)
  ·refine zau ?_;refine uT1 [2,4,16,21] (fun k=>[(16,.int .i64 k)]) (fun k=>[]) (fun k=>k<=l.length/\(zcM l 0 l=zcM l k (l.drop k))) (fun k=>l.length-k) (0) ?_ ?_
   ·exact ⟨Ad _,rfl⟩
   ·rintro k ⟨hk,hg⟩;refine gz4 ?_;refine uCo (fun h5=> ?_) fun h6=> ?_
    ·obtain ⟨x,hx⟩: ∃x,l[k]? =some x:=⟨_,Aa h5⟩
     have hdx:=zi hx;rw [hdx] at hg;refine gz8 ?_;refine de rfl (zj zce rfl fun b4=> ?_)
     refine gz1 ?_;refine de0 (zp zce rfl rfl rfl rfl rfl ?_)
     refine gz1 ?_;refine ze (zk 4 rfl) ?_;refine gz4 ?_;refine dq (uCl zhO rfl zbd) ?_;refine gz2 ?_;refine uCo (fun h7=> ?_) fun h8=> ?_
     ·refine gz4 ?_;refine uRp ?_
      (refine congrArg _ (ziB (e:=5) ?_ ?_ hg ?_)
       ·first|omega|simp_all
       ·omega
       ·rw [zcM]
        simp_all
        done)
     ·refine gz6 ?_;refine dq (zaP zbG zce rfl rfl ⟨_,_,rfl,rfl⟩ uO uO) ?_;refine gz1 ?_;refine dq (uCl zBb rfl (zcR (l:=l.take k) (p:=fun y=>y.Key==x.Key) zER (fun _=>zj5) (by rw [AD];omega))) ?_;refine gz1 ?_;refine uCo (fun h9=> ?_) fun h10=> ?_
      ·refine gz4 ?_;refine uRp ?_
       (refine congrArg _ (ziB (e:=6) ?_ ?_ hg ?_)
        ·first|omega|simp_all
        ·omega
        ·rw [zcM]
         simp_all
         done)
      ·refine gz5 ?_;refine dq (uCl zBa rfl (zhs (hp x (Ab hx)))) ?_;refine gz6 ?_;refine uCo (fun h11=> ?_) fun h12=> ?_
       ·refine gz5 ?_;refine uRp ?_
        (refine congrArg _ (ziB (e:=(zdc x.Positions)) ?_ ?_ hg ?_)
         ·first|omega|simp_all
         ·omega
         ·rw [zcM]
          simp_all
          done)
       ·refine gz7 ?_;refine ⟨k+1,?_,?_,⟨rfl,trivial⟩,uK,Ac _⟩
        ·refine ⟨by omega,?_⟩
         rw [hg,zcM,if_neg uSa,if_neg uSa,if_neg uSa]
        ·dsimp only;omega
    ·have hnk:l.length<=k:=by omega
     obtain rfl:k=l.length:=by omega
     rw [zH (Af _)] at hg;refine gz2 ?_;refine zt ?_;refine gz6 ?_;refine uRp ?_
     (refine congrArg _ (zu3 ?_ ?_ hg)<;>first|omega|simp_all)
theorem zkv [Tracks] {b:BoundS}:ConP prog 110 [zfZ b] (.int .i64 (zdM b)):=by
 refine uOb func110 ntmps110 ?_;refine gz8 ?_;refine dq (uCl zgl rfl zaZ) ?_;refine gz4 ?_;refine uGr rfl (fun hc=>uCl zgl rfl zaZ) ?_;refine gz5 ?_;refine uGr rfl (fun hc=>uCl zgl rfl zaZ) ?_;refine gz5 ?_;refine uGr rfl (fun hc=>uCl zgl rfl zaZ) ?_;refine gz3 ?_;refine uCo (fun h1=> ?_) fun h2=> ?_
 refine gz4 ?_;refine uRp ?_;unfold zdM
 (rw [if_pos uSa])
 refine gz6 ?_;refine uRp ?_;unfold zdM
 (rw [if_neg uSa])
theorem zht [Tracks] {a b:MoveS} (ha:MovB a) (hb:MovB b):ConP prog 42 [zdh a,zdh b] (.int .i64 (zgU a b)):=by
 obtain ⟨a1,a2⟩:=ha;obtain ⟨b1,b2⟩:=hb;refine uOb func42 ntmps42 ?_;refine zit ?_;refine uCo (fun h1=> ?_) fun h2=> ?_
 refine gz6 ?_;refine dq (uCl zwK rfl zg8) ?_;refine gz3 ?_;refine uRp ?_;rw [zmi]
 try rw [zhm]
 simp_all
 refine gz8 ?_;refine uCo (fun h3=> ?_) fun h4=> ?_
 refine gz5 ?_;refine dq (uCl zcf rfl zL) ?_;refine gz3 ?_;refine uRp ?_;rw [zmi]
 try rw [zhm]
 simp_all
 refine gz8 ?_;refine uCo (fun h5=> ?_) fun h6=> ?_
 refine gz5 ?_;refine dq (uCl zcf rfl zL) ?_;refine gz3 ?_;refine uRp ?_;rw [zmi]
 try rw [zhm]
 simp_all
 refine gz9 ?_;refine dq (uCl zwK rfl zg8) ?_;refine gz3 ?_;refine uRp ?_;rw [zmi]
 try rw [zhm]
 simp_all
theorem zk7 [Tracks] {l:List MoveS} (hl:l.length<=1000000) (hb: ∀x∈l,MovB x):ConP prog 49 [zcG l] (.int .i64 (zf9 l)):=by
 refine uOb func49 ntmps49 ?_;refine gz9 ?_;refine uCo (fun h1=> ?_) fun h2=> ?_
 refine gz4 ?_;refine uRp ?_
 (refine congrArg _ (zbL ?_)
  omega)
 refine gz9 ?_;refine uT1 [2,3,10,40] (fun k=>[(10,.int .i64 k)]) (fun k=>[]) (fun k=>k<=l.length/\(za0 zeB zjz l 0 l=za0 zeB zjz l k (l.drop k))) (fun k=>l.length-k) (0) ?_ ?_;exact ⟨Ad _,rfl⟩;rintro k ⟨hk,hg⟩;refine gz4 ?_;refine uCo (fun h3=> ?_) fun h4=> ?_
 obtain ⟨x,hx⟩: ∃x,l[k]? =some x:=⟨_,Aa h3⟩
 have hdx:=zi hx;rw [hdx] at hg;refine gz8 ?_;refine de rfl (zj zG rfl fun b4=> ?_)
 refine gz1 ?_;refine de0 (zp zG rfl rfl rfl rfl rfl ?_)
 refine gz1 ?_;refine ze (zk 4 rfl) ?_;refine gz4 ?_;refine dq (uCl zAV rfl ziV) ?_;refine gz3 ?_;refine uCo (fun h5=> ?_) fun h6=> ?_
 refine gz4 ?_;refine uRp ?_
 (refine congrArg _ (zz (e:=1) ?_ hg ?_ ?_)
  omega
  unfold zeB;exact uT
  first|decide|assumption)
 refine gz3 ?_;refine dq (uCl zgl rfl zaZ) ?_;refine gz3 ?_;refine uCo (fun h7=> ?_) fun h8=> ?_
 refine gz4 ?_;refine uRp ?_
 (refine congrArg _ (zz (e:=4) ?_ hg ?_ ?_)
  omega
  unfold zeB;exact uT
  first|decide|assumption)
 refine gz3 ?_;refine dq (uCl zhO rfl zbd) ?_;refine gz4 ?_;refine uGr rfl (fun hc=>uCl zhO rfl zbd) ?_;refine gz4 ?_;refine uCo (fun h9=> ?_) fun h10=> ?_
 refine gz4 ?_;refine uRp ?_
 (refine congrArg _ (zz (e:=5) ?_ hg ?_ ?_)
  omega
  unfold zeB;exact uT
  first|decide|assumption)
 have htu:=zz5 (x:=x) (p:=l.getD (k-1) zjz);refine uDr mixed ?_;refine gz6 ?_;refine uGy 6 rfl rfl (fun hc=>by have hq:=hc;(try simp at hq);exact zy (j:=k-1) (a:=l.getD (k-1) zjz) zcq zG rfl rfl uO (getD_some uO)) ?_;refine gz2 ?_;refine uGy 9 rfl rfl (fun hc=>by have hq:=hc;(try simp at hq);exact uCl ca42 rfl (zht (a:=l.getD (k-1) zjz) (b:=x) (hb _ (Ab (getD_some uO))) (hb _ (Ab hx)))) ?_;refine gz4 ?_;refine uCo (fun h11=> ?_) fun h12=> ?_
 refine gz4 ?_;refine uRp ?_
 (refine congrArg _ (zz (e:=7) ?_ hg ?_ ?_)
  omega
  unfold zeB;exact uT
  first|decide|assumption)
 refine gz8 ?_;refine ⟨k+1,?_,?_,⟨rfl,trivial⟩,uK,Ac _⟩
 refine ⟨by omega,?_⟩
 rw [hg,zaW (by unfold zeB;(try clear hdx hg);(try simp only [Ae]);focus first|(simp_all;done)|((repeat' split)<;>focus first|rfl|(exfalso;omega)|(simp_all;done)|(exfalso;rcases ‹_\/_› with q|q<;>simp_all;done)|(exfalso;simp_all;omega)))]
 dsimp only;omega
 have hnk:l.length<=k:=by omega
 obtain rfl:k=l.length:=by omega
 rw [zH (Af _)] at hg;refine gz2 ?_;refine zt ?_;refine gz6 ?_;refine uRp ?_
 (refine congrArg _ (zbw ?_ hg)
  omega)
theorem zgO [Tracks] {l:List Str} (hl:l.length<=1000000):ConP prog 111 [eSs l] (.int .i64 (zdd l)):=by
 refine uOb func111 ntmps111 ?_;refine zcl ?_;refine uCo (fun h1=> ?_) fun h2=> ?_
 refine gz4 ?_;refine uRp ?_
 (rw [zdd,if_pos uO])
 refine gz6 ?_;refine uCo (fun h3=> ?_) fun h4=> ?_
 refine gz4 ?_;refine uRp ?_
 (rw [zdd,if_neg uO,if_pos uO])
 refine gz5 ?_;refine dq (uCl zBc rfl (ziW (by assumption))) ?_;refine gz3 ?_;refine uRp ?_
 (rw [zdd,if_neg uO,if_neg uO])
theorem zhr [Tracks] {a b:GameS} (ha: -1000000000000000<=a.Week/\a.Week<=1000000000000000) (hb: -1000000000000000<=b.Week/\b.Week<=1000000000000000):ConP prog 97 [zaS a,zaS b] (.int .i64 (zgi a b)):=by
 refine uOb func97 ntmps97 ?_;refine zit ?_;refine uCo (fun h1=> ?_) fun h2=> ?_
 refine gz6 ?_;refine dq (uCl zwK rfl zg8) ?_;refine gz3 ?_;refine uRp ?_;rw [zpE]
 try rw [zhm]
 simp_all
 refine gz8 ?_;refine uCo (fun h3=> ?_) fun h4=> ?_
 refine gz5 ?_;refine dq (uCl zcf rfl zL) ?_;refine gz3 ?_;refine uRp ?_;rw [zpE]
 try rw [zhm]
 simp_all
 refine gz8 ?_;refine dq (uCl zcf rfl zL) ?_;refine gz3 ?_;refine uRp ?_;rw [zpE]
 try rw [zhm]
 simp_all
theorem zj7 [Tracks] {x:GameS} (hb:((-1000000000<=x.FNum/\x.FNum<=1000000000)/\ -1000000000<=x.FDen/\x.FDen<=1000000000)/\((-1000000000<=x.ONum/\x.ONum<=1000000000)/\ -1000000000<=x.ODen/\x.ODen<=1000000000)):ConP prog 201 [zaS x] (.int .i64 (zhT x)):=by
 refine uOb func201 ntmps201 ?_;refine zau ?_;refine uCo (fun h1=> ?_) fun h2=> ?_
 refine gz3 ?_;refine dq (zU (h':= .agg [.int .i64 x.FNum,.int .i64 x.FDen]) (zaY zav rfl rfl (Ao rfl)) rfl) ?_;refine dq (zF (cs:=[_,_]) zav zkn rfl) ?_;refine dq (zi8 zav zw5 rfl rfl ⟨rfl,⟨_,_,_,_,ty3,rfl⟩,⟨rfl,⟨_,_,_,_,ty3,rfl⟩,trivial⟩⟩) ?_;refine gz2 ?_;refine uGr rfl (fun hc=>zU (h':= .agg [.int .i64 x.ONum,.int .i64 x.ODen]) (zaY zav rfl rfl (Ao rfl)) rfl) ?_;refine uGr rfl (fun hc=>zF (cs:=[_,_]) zav zkn rfl) ?_;refine uGr rfl (fun hc=>zi8 zav zw5 rfl rfl ⟨rfl,⟨_,_,_,_,ty3,rfl⟩,⟨rfl,⟨_,_,_,_,ty3,rfl⟩,trivial⟩⟩) ?_;refine gz2 ?_;refine uCo (fun h3=> ?_) fun h4=> ?_
 simp [za4,zhe,eqH] at h3
 refine gz4 ?_;refine uRp ?_
 (unfold zhT;simp_all)
 refine gz2 ?_
 simp [za4,zhe,eqH] at h4
 refine gz4 ?_;refine uRp ?_
 (unfold zhT;simp_all)
 refine gz2 ?_;have hpl:x.Played=true:=by simpa using h2
 have hgf:=zzG hpl;refine uDr mixed ?_;refine gz1 ?_;refine uB 1 rfl (zU (h':= .agg [.int .i64 x.FNum,.int .i64 x.FDen]) (zaY zav rfl rfl (Ao rfl)) rfl) ?_;refine uB 2 rfl (uCl zwR rfl (zd1 (n:=x.FNum) (d:=x.FDen) (most:=1000000) hb.1.1 hb.1.2 uO)) ?_;refine gz1 ?_;refine uB 4 rfl (zU (h':= .agg [.int .i64 x.ONum,.int .i64 x.ODen]) (zaY zav rfl rfl (Ao rfl)) rfl) ?_;refine uB 5 rfl (uCl zwR rfl (zd1 (n:=x.ONum) (d:=x.ODen) (most:=1000000) hb.2.1 hb.2.2 uO)) ?_;refine gz5 ?_;refine dq (za (hs:=[_,_]) zep zgJ rfl rfl (by decide) (by decide) rfl) ?_;refine dq (zao (f:=HVal.int .i64) (l:=([3,1]:List Int)) zep rfl) ?_;refine gz3 ?_;refine uT1 [2,1,6,1,28,14] (fun k=>[(28,.int .i64 k)]) (fun k=>[]) (fun k=>k<=([3,1]:List Int).length/\(zAN (zby x.FNum x.FDen 1000000) (zby x.ONum x.ODen 1000000)=zoG (zby x.FNum x.FDen 1000000) (zby x.ONum x.ODen 1000000) (([3,1]:List Int).drop k))) (fun k=>([3,1]:List Int).length-k) (0) ?_ ?_;exact ⟨Ad _,rfl⟩;rintro k ⟨hk,hg⟩;refine gz4 ?_;refine uCo (fun h5=> ?_) fun h6=> ?_
 obtain ⟨z,hz⟩: ∃z,([3,1]:List Int)[k]? =some z:=⟨_,Aa (by show k<2;omega)⟩
 have hdz:=zi hz;rw [hdz] at hg;refine gz5 ?_;refine dq (zy zep zgJ rfl rfl rfl (by assumption)) ?_;refine zd3 ?_;refine uCo (fun h7=> ?_) fun h8=> ?_
 refine gz5 ?_;refine uRp ?_
 (rw [hgf,hg,zoG,if_pos uSa])
 refine gz7 ?_;refine ⟨k+1,?_,?_,⟨rfl,trivial⟩,uK,Ac _⟩
 refine ⟨by show k+1<=2;omega,?_⟩
 rw [hg,zoG,if_neg uSa]
 show 2-(k+1)<2-k
 omega
 refine gz2 ?_;refine zt ?_;refine gz6 ?_;refine uRp ?_
 (have e2:k=2:=by (have q:([3,1]:List Int).length=2:=rfl;omega)
  subst e2;rw [hgf,hg];rfl)
theorem zj2 [Tracks] {y x:GameS}:ConP prog 202 [zaS y,.vptr (zb (zaS x)) 0] (.bool (zi2 x y)):=by
 refine uOb func202 ntmps202 ?_;refine gz40 ?_;refine gz1 ?_;refine zw rfl ?_
 show HVal.bool _=_
 unfold zi2
 simp [Cq]
theorem zk6 [Tracks] {T:List Str} {l:List GameS} (hT:T.length<=1000000) (hl:l.length<=1000000) (hb: ∀x∈l,GamB x):ConP prog 112 [eSs T,zlM l] (.int .i64 (zfw T l)):=by
 refine uOb func112 ntmps112 ?_;refine gz6 ?_;refine dq (uCl zAU rfl (zgO (by assumption))) ?_;refine gz6 ?_;refine uCo (fun h1=> ?_) fun h2=> ?_
 ·refine gz5 ?_;refine uRp ?_
  try rw [hE]
  (rw [zfw,if_pos (by assumption)];done)
 ·refine gz3 ?_;have hz:zdd T=0:=by first|assumption|simp_all
  have hE:zfw T l=zd2 T l:=by rw [zfw,if_neg (by simp [hz])]
  refine gz5 ?_;refine uCo (fun h3=> ?_) fun h4=> ?_
  ·refine gz4 ?_;refine uRp ?_
   try rw [hE]
   (refine congrArg _ (zd9 (zbL ?_) (by decide))
    omega)
  ·refine gz9 ?_;refine uT1 [4,1,6,3,21,47] (fun k=>[(21,.int .i64 k)]) (fun k=>[]) (fun k=>k<=l.length/\(za0 (zco T) zeh l 0 l=za0 (zco T) zeh l k (l.drop k))) (fun k=>l.length-k) (0) ?_ ?_
   ·exact ⟨Ad _,rfl⟩
   ·rintro k ⟨hk,hg⟩;refine gz4 ?_;refine uCo (fun h5=> ?_) fun h6=> ?_
    ·obtain ⟨x,hx⟩: ∃x,l[k]? =some x:=⟨_,Aa h5⟩
     have hdx:=zi hx;rw [hdx] at hg;refine gz8 ?_;refine de rfl (zj zdr rfl fun b7=> ?_)
     refine gz1 ?_;refine de0 (zp zdr rfl rfl rfl rfl rfl ?_)
     refine gz1 ?_;refine ze (zk 7 rfl) ?_;refine gz5 ?_;refine dq (uCl zwQ rfl zg7) ?_;refine gz3 ?_;refine uCo (fun h7=> ?_) fun h8=> ?_
     ·refine gz4 ?_;refine uRp ?_
      try rw [hE]
      (refine congrArg _ (zd9 (e:=1) (zz ?_ hg ?_ ?_) ?_)
       ·omega
       ·unfold zco
        simp_all
        done
       ·first|decide|assumption
       ·first|decide|assumption)
     ·refine gz4 ?_;refine dq (uCl zfX rfl (zC (l:=T) (s:=x.Home) uO)) ?_;refine gz5 ?_;refine uGr rfl (fun hc=>by have hq:=hc;(try simp at hq);exact uCl zfX rfl (zC (l:=T) (s:=x.Away) uO)) ?_;refine gz4 ?_;refine uCo (fun h9=> ?_) fun h10=> ?_
      ·refine gz4 ?_;refine uRp ?_
       try rw [hE]
       (refine congrArg _ (zd9 (e:=8) (zz ?_ hg ?_ ?_) ?_)
        ·omega
        ·unfold zco
         simp_all
         done
        ·first|decide|assumption
        ·first|decide|assumption)
      ·refine gz8 ?_;refine uCo (fun h11=> ?_) fun h12=> ?_
       ·refine gz4 ?_;refine uRp ?_
        try rw [hE]
        (refine congrArg _ (zd9 (e:=6) (zz ?_ hg ?_ ?_) ?_)
         ·omega
         ·unfold zco
          simp_all
          done
         ·first|decide|assumption
         ·first|decide|assumption)
       ·refine gz5 ?_;refine dq (zaK (h:=zaS x) zdr rfl rfl rfl rfl) ?_;refine dq (uCl zES rfl (zj7 (x:=x) ⟨(hb x (Ab hx)).fr,(hb x (Ab hx)).ot⟩)) ?_;refine gz6 ?_;refine uCo (fun h13=> ?_) fun h14=> ?_
        ·refine gz5 ?_;refine uRp ?_
         try rw [hE]
         (refine congrArg _ (zd9 (e:=(zhT x)) (zz ?_ hg ?_ ?_) ?_)
          ·omega
          ·unfold zco
           simp_all
           done
          ·first|decide|assumption
          ·first|decide|assumption)
        ·refine gz2 ?_;have htu:=zzH (x:=x) (p:=l.getD (k-1) zeh);refine uDr mixed ?_;refine gz6 ?_;refine uGy 6 rfl rfl (fun hc=>by have hq:=hc;(try simp at hq);exact zy (j:=k-1) (a:=l.getD (k-1) zeh) zgd zdr rfl rfl uO (getD_some uO)) ?_;refine gz2 ?_;refine uGy 9 rfl rfl (fun hc=>by have hq:=hc;(try simp at hq);exact uCl ca97 rfl (zhr (a:=l.getD (k-1) zeh) (b:=x) (hb _ (Ab (getD_some uO))).week (hb _ (Ab hx)).week)) ?_;refine gz3 ?_;refine uCo (fun h15=> ?_) fun h16=> ?_
         ·refine gz4 ?_;refine uRp ?_
          try rw [hE]
          (refine congrArg _ (zd9 (e:=7) (zz ?_ hg ?_ ?_) ?_)
           ·omega
           ·unfold zco
            simp_all
            done
           ·first|decide|assumption
           ·first|decide|assumption)
         ·refine gz7 ?_;refine ⟨k+1,?_,?_,⟨rfl,trivial⟩,uK,Ac _⟩
          ·refine ⟨by omega,?_⟩
           rw [hg,zaW (by unfold zco;(try clear hdx hg);(try simp only [Ae]);first|(simp_all;done)|((repeat' split)<;>first|rfl|(exfalso;omega)|(simp_all;done)|(exfalso;rcases ‹_\/_› with q|q<;>simp_all;done)|(exfalso;simp_all;omega)))]
          ·dsimp only;omega
    ·have hnk:l.length<=k:=by omega
     obtain rfl:k=l.length:=by omega
     rw [zH (Af _)] at hg;refine gz2 ?_;refine zt ?_;refine gz9 ?_;refine uT1 [4,1,9,2,70,11] (fun k=>[(70,.int .i64 k)]) (fun k=>[]) (fun k=>k<=l.length/\(zdQ l 0 l=zdQ l k (l.drop k))) (fun k=>l.length-k) (0) ?_ ?_
     ·exact ⟨Ad _,rfl⟩
     ·rintro k ⟨hk,hg2⟩;refine gz4 ?_;refine uCo (fun h17=> ?_) fun h18=> ?_
      ·obtain ⟨x,hx⟩: ∃x,l[k]? =some x:=⟨_,Aa h17⟩
       have hdx:=zi hx;rw [hdx] at hg2;refine gz8 ?_;refine de rfl (zj zdr rfl fun b10=> ?_)
       refine gz1 ?_;refine de0 (zp zdr rfl rfl rfl rfl rfl ?_)
       refine gz1 ?_;refine ze (zk 10 rfl) ?_;refine gz3 ?_;refine dq (zaP zgd zdr rfl rfl ⟨_,_,rfl,rfl⟩ uO uO) ?_;refine gz1 ?_;refine dq (uCl zzo rfl (zbA (l:=l.take k) (p:=zi2 x) zET (fun _=>zj2) (by rw [AD];omega))) ?_;refine gz1 ?_;refine uCo (fun h19=> ?_) fun h20=> ?_
       ·refine gz4 ?_;refine uRp ?_
        try rw [hE]
        (rw [zd2,if_neg (by rw [<-zbw uO hg];simp),if_pos (by rw [hg2,zdQ];simp_all)];done)
       ·refine gz7 ?_;refine ⟨k+1,?_,?_,⟨rfl,trivial⟩,uK,Ac _⟩
        ·refine ⟨by omega,?_⟩
         rw [hg2,zdQ];simp_all
        ·dsimp only;omega
      ·have hnk:l.length<=k:=by omega
       obtain rfl:k=l.length:=by omega
       rw [zH (Af _)] at hg2;refine gz2 ?_;refine zt ?_;refine gz6 ?_;refine uRp ?_
       try rw [hE]
       (rw [zd2,if_neg (by rw [<-zbw uO hg];simp),if_neg (by rw [hg2];simp [zdQ])];done)
theorem zkw [Tracks] {l:List Int} (hl:l.length<=1000000):ConP prog 114 [.slice 1 (l.map (HVal.int .i64))] (.int .i64 (zik l)):=by
 refine uOb func114 ntmps114 ?_;refine gz9 ?_;refine uCo (fun h1=> ?_) fun h2=> ?_
 ·refine gz4 ?_;refine uRp ?_
  (rw [zik,if_pos uO];done)
 ·refine gz9 ?_;refine uT1 [2,3,10,14] (fun k=>[(10,.int .i64 k)]) (fun k=>[]) (fun k=>k<=l.length/\(zed l 0 l=zed l k (l.drop k))) (fun k=>l.length-k) (0) ?_ ?_
  ·exact ⟨Ad _,rfl⟩
  ·rintro k ⟨hk,hg⟩;refine gz4 ?_;refine uCo (fun h3=> ?_) fun h4=> ?_
   ·obtain ⟨x,hx⟩: ∃x,l[k]? =some x:=⟨_,Aa h3⟩
    have hdx:=zi hx;rw [hdx] at hg;refine zdm ?_;refine dq (uCl zgl rfl zaZ) ?_;refine gz2 ?_;refine uCo (fun h5=> ?_) fun h6=> ?_
    ·refine gz4 ?_;refine uRp ?_
     (refine congrArg _ (zoM (e:=4) ?_ hg ?_)
      ·omega
      ·rw [zed]
       simp_all
       done)
    ·refine gz5 ?_;refine dq (zaP z8 ty3 rfl rfl ⟨_,_,rfl,rfl⟩ uO uO) ?_;refine gz1 ?_;refine dq (uCl zBd rfl (zfC (l:=l.take k) (z:=x) (by rw [AD];omega))) ?_;refine gz1 ?_;refine uCo (fun h7=> ?_) fun h8=> ?_
     ·refine gz4 ?_;refine uRp ?_
      (refine congrArg _ (zoM (e:=6) ?_ hg ?_)
       ·omega
       ·rw [zed]
        simp_all
        done)
     ·refine gz7 ?_;refine ⟨k+1,?_,?_,⟨rfl,trivial⟩,uK,Ac _⟩
      ·refine ⟨by omega,?_⟩
       rw [hg,zed,if_neg uSa,if_neg uSa]
      ·dsimp only;omega
   ·have hnk:l.length<=k:=by omega
    obtain rfl:k=l.length:=by omega
    rw [zH (Af _)] at hg;refine gz2 ?_;refine zt ?_;refine gz6 ?_;refine uRp ?_
    (refine congrArg _ (zvL ?_ hg)
     omega)
end
section
open Go.Proofs.Tryz
open Go.HL
theorem znF [Tracks] {a b:MendS}:ConP prog 125 [zbV a,zbV b] (.int .i64 (zeA a b)):=by
 refine uOb func125 ntmps125 ?_;refine gz5 ?_;refine uDr mixed ?_;refine gz4 ?_;refine uB 4 rfl (uCl zcf rfl zL) ?_;refine gz4 ?_;refine uB 9 rfl (uCl zc2 rfl zS) ?_;refine gz4 ?_;refine uB 14 rfl (uCl zcf rfl zL) ?_;refine gz4 ?_;refine uB 19 rfl (uCl zc2 rfl zS) ?_;refine uB 20 rfl (za (hs:=[_,_,_,_]) z8 ty3 rfl rfl (by decide) (by decide) rfl) ?_;refine uB 21 rfl (uCl zfD rfl (zbe (l:=[_,_,_,_]) (by simp))) ?_;refine gz3 ?_;refine zw rfl ?_
 rfl
theorem zk3 [Tracks] {m:List MendS} (hl:m.length<=1000000) (hgm: ∀x∈m,zhF x):ConP prog 51 [zct m] (.int .i64 (zbE m)):=by
 refine uOb func51 ntmps51 ?_;refine gz9 ?_;refine uCo (fun h1=> ?_) fun h2=> ?_
 ·refine gz4 ?_;refine uRp ?_
  (rw [zbE,if_pos uO];done)
 ·refine gz9 ?_;refine uT1 [2,3,10,59] (fun k=>[(10,.int .i64 k)]) (fun k=>[]) (fun k=>k<=m.length/\(zaR zaE zeA zeE m 0 m=zaR zaE zeA zeE m k (m.drop k))) (fun k=>m.length-k) (0) ?_ ?_
  ·exact ⟨Ad _,rfl⟩
  ·rintro k ⟨hk,hg⟩;refine gz4 ?_;refine uCo (fun h3=> ?_) fun h4=> ?_
   ·obtain ⟨x,hx⟩: ∃x,m[k]? =some x:=⟨_,Aa h3⟩
    have hdx:=zi hx;rw [hdx] at hg;refine gz8 ?_;refine de rfl (zj zbq rfl fun b4=> ?_)
    refine gz1 ?_;refine de0 (zp zbq rfl rfl rfl rfl rfl ?_)
    refine gz1 ?_;refine ze (zk 4 rfl) ?_;refine gz4 ?_;refine dq (uCl zjt rfl (zbP (hgm x (Ab hx)).1)) ?_;refine gz4 ?_;refine uGr rfl (fun hc=>uCl zjt rfl (zbP (hgm x (Ab hx)).2.1)) ?_;refine gz5 ?_;refine uGr rfl (fun hc=>uCl zjt rfl (zbP (hgm x (Ab hx)).2.2)) ?_;refine gz4 ?_;refine uCo (fun h5=> ?_) fun h6=> ?_
    ·refine gz4 ?_;refine uRp ?_
     (refine congrArg _ (zkS (c:=5) uO hg (by decide) ?_)
      rw [zaE,if_pos]
      simp_all
      done)
    ·refine gz3 ?_;refine dq (uCl zwL rfl zeH) ?_;refine gz4 ?_;refine uGr rfl (fun hc=>uCl zmz rfl zcW) ?_;refine gz5 ?_;refine uGr rfl (fun hc=>uCl ztl rfl zcV) ?_;refine gz5 ?_;refine uGr rfl (fun hc=>uCl zmz rfl zcW) ?_;refine gz4 ?_;refine uCo (fun h7=> ?_) fun h8=> ?_
     ·refine gz4 ?_;refine uRp ?_
      (refine congrArg _ (zkS (c:=1) uO hg (by decide) ?_)
       rw [zaE,if_neg,if_pos]
       all_goals simp_all
       done)
     ·refine uDr mixed ?_;refine gz6 ?_;refine uGy 6 rfl rfl (fun hc=>by have hq:=hc;(try simp at hq);exact zy (j:=k-1) (a:=m.getD (k-1) zeE) zgI zbq rfl rfl uO (getD_some uO)) ?_;refine gz2 ?_;refine uGy 9 rfl rfl (fun hc=>uCl zEa rfl znF) ?_;refine gz4 ?_;refine uCo (fun h9=> ?_) fun h10=> ?_
      ·refine gz4 ?_;refine uRp ?_
       (have f1:=zhp.flip x (m.getD (k-1) zeE) trivial trivial
        have f2:=zhp.flip (m.getD (k-1) zeE) x trivial trivial;refine congrArg _ (zsA uO hg ?_ ?_ ?_)
        ·rw [zaE,if_neg,if_neg]<;>simp_all
        ·simp_all
        ·simp_all;omega)
      ·refine gz8 ?_;refine ⟨k+1,?_,?_,⟨rfl,trivial⟩,uK,Ac _⟩
       ·refine ⟨by omega,?_⟩
        rw [hg,zkd (by rw [zaE,if_neg uSa,if_neg uSa]) (by intro hk0;have:=zhp.flip x (m.getD (k-1) zeE) trivial trivial;have:=zhp.flip (m.getD (k-1) zeE) x trivial trivial;simp_all;try omega)]
       ·dsimp only;omega
   ·have hnk:m.length<=k:=by omega
    obtain rfl:k=m.length:=by omega
    rw [zH (Af _)] at hg;refine gz2 ?_;refine zt ?_;refine gz6 ?_;refine uRp ?_
    (rw [zbE,if_neg uO,hg];rfl)
end
section
open Go.Proofs.Tryz
open Go.HL
theorem zsX [Tracks] {l:List Str} {fid:FuncId} {caps:List HVal} {p:Str->Bool} (hca:Callable prog fid) (hp: ∀x∈l,ConP prog fid ([HVal.str x]++caps) (.bool (p x))) (hl:l.length<=1000000):ConP prog 210 [.slice 1 (l.map HVal.str),.fn (.func fid) [] caps] (.int .i64 (zT p l 0)):=by
 refine uOb func210 ntmps210 ?_;refine zau ?_;refine uT1 [4,2,8,11] (fun k=>[(8,.int .i64 k)]) (fun k=>[]) (fun k=>k<=l.length/\(zT p l 0=zT p (l.drop k) k)) (fun k=>l.length-k) (0) ?_ ?_;exact ⟨Ad _,rfl⟩;rintro k ⟨hk,hg⟩;refine gz4 ?_;refine uCo (fun h1=> ?_) fun h2=> ?_
 obtain ⟨x,hx⟩: ∃x,l[k]? =some x:=⟨_,Aa h1⟩
 have hdx:=zi hx;rw [hdx] at hg;refine zdm ?_;refine dq (zal hca rfl rfl (WeakL.refl _) (hp _ (Ab hx))) ?_;refine gz1 ?_;refine uCo (fun h3=> ?_) fun h4=> ?_
 refine gz5 ?_;refine uRp ?_
 (rw [hg];simp_all [zT])
 refine gz7 ?_;refine ⟨k+1,?_,?_,⟨rfl,trivial⟩,uK,Ac _⟩
 refine ⟨by omega,?_⟩
 rw [hg,zT,if_neg uSa];rfl
 dsimp only;omega
 have hnk:l.length<=k:=by omega
 obtain rfl:k=l.length:=by omega
 rw [zH (Af _)] at hg;refine gz2 ?_;refine zt ?_;refine gz6 ?_;refine uRp ?_
 (rw [hg];rfl)
theorem zpG [Tracks] {l:List Str} {fid:FuncId} {caps:List HVal} {p:Str->Bool} (hca:Callable prog fid) (hp: ∀x∈l,ConP prog fid ([HVal.str x]++caps) (.bool (p x))) (hl:l.length<=1000000):ConP prog 128 [.slice 1 (l.map HVal.str),.fn (.func fid) [] caps] (.bool (l.any p)):=by
 refine uOb func128 ntmps128 ?_;refine gz6 ?_;refine dq (uCl zwS rfl (zsX hca hp hl)) ?_;refine gz4 ?_;refine zw rfl ?_
 congr 1;exact zcC p l 0 uO
theorem zjr [Tracks] {x:GameS}:ConP prog 113 [zaS x] (.bool x.Played):=by
 refine uOb func113 ntmps113 ?_;refine zau ?_;refine zw rfl ?_
 rfl
theorem zku [Tracks] {g:LeagueS} (hT:Tracks.on=false) (hb:LeaB g) (hg: ∀x∈g.Games,GamB x) (ht: ∀s∈g.Trust,Sh s):ConP prog 47 [zfn g] (.int .i64 (zcz g)):=by
 have hst:=hb.sta;refine uOb func47 ntmps47 ?_;refine gz8 ?_;refine dq (uCl zDY rfl (zj4 (l:=g.Players) hT hb.pl hb.nm hb.po)) ?_;refine gz6 ?_;refine uCo (fun h1=> ?_) fun h2=> ?_
 refine gz5 ?_;refine uRp ?_;exact congrArg _ (zyy (by assumption));refine gz3 ?_;refine uDr mixed ?_;refine gz4 ?_;refine uB 4 rfl (uCl zDZ rfl (zky (L:=g.Players) (l:=g.Stints) hb.pl hb.st)) ?_;refine gz2 ?_;refine uB 7 rfl (uCl zD0 rfl (zjs (l:=g.Fixtures) hb.fx)) ?_;refine gz2 ?_;refine uB 10 rfl (uCl zD1 rfl (zk9 (l:=g.Rules) hb.ru hb.rw')) ?_;refine gz2 ?_;refine uB 13 rfl (uCl zD2 rfl (zlb (l:=g.Slots) hb.sl hb.sp)) ?_;refine gz1 ?_;refine uB 15 rfl (zU (h':=zfZ g.Bounds) (zaY zji rfl rfl (Ao rfl)) rfl) ?_;refine uB 16 rfl (uCl zD3 rfl (zkv (b:=g.Bounds))) ?_;refine gz2 ?_;refine uB 19 rfl (uCl zAU rfl (zgO (l:=g.Teams) hb.tm)) ?_;refine uB 20 rfl (za (hs:=[_,_,_,_,_,_]) zep zgJ rfl rfl (by decide) (by decide) rfl) ?_;refine uB 21 rfl (uCl zzq rfl (zfN (l:=[_,_,_,_,_,_]) (by simp))) ?_;refine gz6 ?_;refine uCo (fun h3=> ?_) fun h4=> ?_
 refine gz5 ?_;refine uRp ?_;exact congrArg _ (zDo (by assumption) (by assumption));refine gz3 ?_;have hB:zjf g=0:=by assumption
 have hgt:=zB8 (l:=g.Games) (zzW hB);refine gz5 ?_;refine dq (zU (uCl zD4 rfl (zk6 (T:=g.Teams) (l:=g.Games) hb.tm hb.ga hg)) (congrArg (HVal.int .i64) hgt)) ?_;refine gz6 ?_;refine uCo (fun h5=> ?_) fun h6=> ?_
 refine gz5 ?_;refine uRp ?_;exact congrArg _ (zDp (by assumption) hB (by assumption));refine gz6 ?_;refine dq (uCl zzo rfl (zbA (l:=g.Games) (p:=fun x=>x.Played) zD5 (fun _=>zjr) hb.ga)) ?_;refine gz1 ?_;refine uCo (fun h7=> ?_) fun h8=> ?_
 refine gz4 ?_;refine uRp ?_;exact congrArg _ (zDq (by assumption) hB (by assumption) (by unfold zc0;simp_all));refine gz3 ?_;refine uDr mixed ?_;refine gz2 ?_;refine uB 2 rfl (uCl zD6 rfl (zkw (l:=g.Breaks) hb.br)) ?_;refine gz2 ?_;refine uB 5 rfl (uCl zD7 rfl (zk5 (l:=g.Trust) hb.tr ht)) ?_;refine gz2 ?_;refine uB 8 rfl (uCl ztl rfl zcV) ?_;refine uB 9 rfl (za (hs:=[_,_,_]) zep zgJ rfl rfl (by decide) (by decide) rfl) ?_;refine uB 10 rfl (uCl zzq rfl (zfN (l:=[_,_,_]) (by simp))) ?_;refine gz6 ?_;refine uCo (fun h9=> ?_) fun h10=> ?_
 refine gz5 ?_;refine uRp ?_;exact congrArg _ (zDr (by assumption) hB (by assumption) (by unfold zc0;simp_all) (by assumption));refine gz8 ?_;refine uCo (fun h11=> ?_) fun h12=> ?_
 refine gz4 ?_;refine uRp ?_
 (rw [zyz (by assumption) hB (by assumption) (by unfold zc0;simp_all) (by assumption),if_pos uO])
 refine gz6 ?_;refine uRp ?_
 (rw [zyz (by assumption) hB (by assumption) (by unfold zc0;simp_all) (by assumption),if_neg uO])
theorem zmk [Tracks] {a b:ChoiceS}:ConP prog 129 [zam a,zam b] (.int .i64 (zkG a b)):=by
 refine uOb func129 ntmps129 ?_;refine gz5 ?_;refine uDr mixed ?_;refine gz4 ?_;refine uB 4 rfl (uCl zcf rfl zL) ?_;refine gz4 ?_;refine uB 9 rfl (uCl zc2 rfl zS) ?_;refine gz4 ?_;refine uB 14 rfl (uCl zc2 rfl zS) ?_;refine uB 15 rfl (za (hs:=[_,_,_]) z8 ty3 rfl rfl (by decide) (by decide) rfl) ?_;refine uB 16 rfl (uCl zfD rfl (zbe (l:=[_,_,_]) (by simp))) ?_;refine gz3 ?_;refine zw rfl ?_
 rfl
theorem zfc [Tracks] {s:Str} (hs:Sh s):ConP prog 127 [.str s] (.bool (!(zb6 s))):=by
 refine uOb func127 ntmps127 ?_;refine gz8 ?_;refine uGr rfl (fun hc=>uCl zjt rfl (zbP hs)) ?_;refine gz5 ?_;refine zw rfl ?_
 show HVal.bool _=_
 rw [zyK]
 cases s with
 |nil=>rfl
 |cons x r=>simp
theorem zj1 [Tracks] {g:LeagueS} {l:List ChoiceS} (hb:LeaB g) (hl:l.length<=1000000) (hp: ∀x∈l,x.Players.length<=1000000) (hcs: ∀x∈l,(∀s∈x.Players,Sh s)/\Sh x.Captain):ConP prog 53 [zfn g,zkf l] (.int .i64 (zrC g.Teams g.Slots.length l)):=by
 refine uOb func53 ntmps53 ?_;refine zau ?_;refine uCo (fun h1=> ?_) fun h2=> ?_
 refine gz4 ?_;refine uRp ?_
 (refine congrArg _ (zbL ?_)
  omega)
 refine zdb ?_;refine uT1 [4,1,6,2,13,56] (fun k=>[(13,.int .i64 k)]) (fun k=>[]) (fun k=>k<=l.length/\(za0 (zb3 g.Teams g.Slots.length) zfl l 0 l=za0 (zb3 g.Teams g.Slots.length) zfl l k (l.drop k))) (fun k=>l.length-k) (0) ?_ ?_;exact ⟨Ad _,rfl⟩;rintro k ⟨hk,hg⟩;refine gz4 ?_;refine uCo (fun h3=> ?_) fun h4=> ?_
 obtain ⟨x,hx⟩: ∃x,l[k]? =some x:=⟨_,Aa h3⟩
 have hdx:=zi hx;rw [hdx] at hg;refine gz6 ?_;refine dq (zy zge zeo rfl rfl rfl (by assumption)) ?_;refine gz1 ?_;refine de rfl (zj zeo rfl fun b7=> ?_)
 refine gz1 ?_;refine de0 (zp zeo rfl rfl rfl rfl rfl ?_)
 refine gz1 ?_;refine ze (zk 7 rfl) ?_;refine gz1 ?_;have hwk: ∀n:Int,((if zaV n then (0:Int) else 1)=0)↔zaV n=true:=fun n=>by cases zaV n<;>simp
 have hmo: ∀n:Int,((if zaa n then (0:Int) else 1)=0)↔zaa n=true:=fun n=>by cases zaa n<;>simp
 refine gz5 ?_;refine dq (uCl zfX rfl (zC (l:=g.Teams) (s:=x.Team) (by have:=hb.tm;omega))) ?_;refine gz3 ?_;refine uCo (fun h5=> ?_) fun h6=> ?_
 refine gz4 ?_;refine uRp ?_
 (refine congrArg _ (zz (e:=8) ?_ hg ?_ ?_)
  omega
  unfold zb3
  (try generalize ((x.Players++[x.Captain]).all zb6)=N at*)
  exact uT
  first|decide|assumption)
 refine gz3 ?_;refine dq (uCl zwL rfl zeH) ?_;refine gz4 ?_;refine uGr rfl (fun hc=>uCl ztl rfl zcV) ?_;refine gz4 ?_;refine uCo (fun h7=> ?_) fun h8=> ?_
 refine gz4 ?_;refine uRp ?_
 (refine congrArg _ (zz (e:=1) ?_ hg ?_ ?_)
  omega
  unfold zb3
  (try generalize ((x.Players++[x.Captain]).all zb6)=N at*)
  exact uT
  first|decide|assumption)
 refine gz3 ?_;refine dq (zao (f:=HVal.str) (l:=x.Players) zq rfl) ?_;refine gz2 ?_;refine dq (zao (f:=zbo) (l:=g.Slots) zbG rfl) ?_;refine gz3 ?_;refine uCo (fun h9=> ?_) fun h10=> ?_
 refine gz4 ?_;refine uRp ?_
 (refine congrArg _ (zz (e:=3) ?_ hg ?_ ?_)
  omega
  unfold zb3
  (try generalize ((x.Players++[x.Captain]).all zb6)=N at*)
  exact uT
  first|decide|assumption)
 refine gz4 ?_;refine dq (uCl zAX rfl (zpG (l:=x.Players) (p:=fun s=> !(zb6 s)) zAW (fun s hs=>zfc ((hcs x (Ab hx)).1 s hs)) (hp x (Ab hx)))) ?_;refine gz4 ?_;refine uGr rfl (fun hc=>zal zAW rfl rfl (WeakL.refl _) (zfc (hcs x (Ab hx)).2)) ?_;refine gz3 ?_;refine uCo (fun h11=> ?_) fun h12=> ?_
 have hbad:((x.Players++[x.Captain]).all zb6)=false:=zvy (by assumption);refine gz4 ?_;refine uRp ?_
 (refine congrArg _ (zz (e:=5) ?_ hg ?_ ?_)
  omega
  unfold zb3
  (try generalize ((x.Players++[x.Captain]).all zb6)=N at*)
  exact uT
  first|decide|assumption)
 have hgood:((x.Players++[x.Captain]).all zb6)=true:=by rw [zyL];simp_all
 have htu:=zzw (x:=x) (p:=l.getD (k-1) zfl);refine uDr mixed ?_;refine gz6 ?_;refine uGy 6 rfl rfl (fun hc=>by have hq:=hc;(try simp at hq);exact zy (j:=k-1) (a:=l.getD (k-1) zfl) zge zeo rfl rfl uO (getD_some uO)) ?_;refine gz2 ?_;refine uGy 9 rfl rfl (fun hc=>uCl zEb rfl zmk) ?_;refine gz4 ?_;refine uCo (fun h13=> ?_) fun h14=> ?_
 refine gz4 ?_;refine uRp ?_
 (refine congrArg _ (zz (e:=7) ?_ hg ?_ ?_)
  omega
  unfold zb3
  (try generalize ((x.Players++[x.Captain]).all zb6)=N at*)
  exact uT
  first|decide|assumption)
 refine gz8 ?_;refine ⟨k+1,?_,?_,⟨rfl,trivial⟩,uK,Ac _⟩
 refine ⟨by omega,?_⟩
 rw [hg,zaW (by unfold zb3;(try generalize ((x.Players++[x.Captain]).all zb6)=N at*);(try clear hdx hg);(try simp only [Ae]);focus first|(simp_all;done)|((repeat' split)<;>focus first|rfl|(exfalso;omega)|(simp_all;done)|(exfalso;rcases ‹_\/_› with q|q<;>simp_all;done)|(exfalso;simp_all;omega)))]
 dsimp only;omega
 have hnk:l.length<=k:=by omega
 obtain rfl:k=l.length:=by omega
 rw [zH (Af _)] at hg;refine gz2 ?_;refine zt ?_;refine gz6 ?_;refine uRp ?_
 (refine congrArg _ (zbw ?_ hg)
  omega)
theorem zlG [Tracks] {b:BookS} (hT:Tracks.on=false) (hb:BookC b):ConP prog 21 [zbx b] (.int .i64 (zdW b)):=by
 refine uOb func21 ntmps21 ?_;refine gz7 ?_;refine dq (zU (h':=zfn b.League) (zaY zaM rfl rfl (Ao rfl)) rfl) ?_;refine dq (uCl ca47 rfl (zku (g:=b.League) hT hb.bb.lea hb.gw hb.tr)) ?_;refine gz6 ?_;refine uCo (fun h1=> ?_) fun h2=> ?_
 refine gz5 ?_;refine uRp ?_;unfold zdW
 (rw [if_pos (by assumption)])
 refine gz2 ?_;refine uDr mixed ?_;refine gz2 ?_;refine uB 2 rfl (uCl ca49 rfl (zk7 (l:=b.Moves) hb.bb.mv hb.mb)) ?_;refine gz2 ?_;refine uB 5 rfl (uCl ca50 rfl (zk4 (l:=b.Plays) hb.bb.pl hb.pg)) ?_;refine gz2 ?_;refine uB 8 rfl (uCl ca51 rfl (zk3 (m:=b.Mends) hb.bb.me hb.mg)) ?_;refine gz5 ?_;refine uB 14 rfl (uCl ca52 rfl (zkx (L:=b.League.Players) (l:=b.Health) hb.bb.lea.pl hb.bb.he hb.hw)) ?_;refine gz1 ?_;refine uB 16 rfl (zU (h':=zfn b.League) (zaY zaM rfl rfl (Ao rfl)) rfl) ?_;refine gz2 ?_;refine uB 19 rfl (uCl ca53 rfl (zj1 (g:=b.League) (l:=b.Choices) hb.bb.lea hb.bb.ch hb.bb.cp hb.cs)) ?_;refine uB 20 rfl (za (hs:=[_,_,_,_,_]) zep zgJ rfl rfl (by decide) (by decide) rfl) ?_;refine uB 21 rfl (uCl zzq rfl (zfN (l:=[_,_,_,_,_]) (by simp))) ?_;refine gz3 ?_;refine uRp ?_;unfold zdW
 (rw [if_neg (fun q=>q h2)])
end
end Go.Proofs.YtbmggbfabohegaaGreatDoor
namespace Go.HL
section
section
variable {κ:Type}
end
end
section

end
section
def zC4 (x:LineS):Prop:=Sh x.Player/\∀s∈x.Stats,Sh s.Name
abbrev LnV:=LineS×Value
structure LG where
 u:Value
 out:List LnV
 a:Nat
def zxS (p:LnV):Prop:=zC4 p.1/\p.1.Stats.length<=3
structure LGok (n m:Nat) (q:LG):Prop where
 len:q.out.length<=n
 all: ∀p∈q.out,zxS p
 a:q.a<=m
theorem LGok.mono {n n' m m':Nat} {q:LG} (h:LGok n m q) (hn:n<=n') (hm:m<=m'):LGok n' m' q:=⟨Aq h.len hn,h.all,Aq h.a hm⟩
theorem LGok.same {n m m':Nat} {u:Value} {out:List LnV} {a1 a2:Nat} (h:LGok n m ⟨u,out,a1⟩) (ha:a2<=m'):LGok (n+1) m' ⟨u,out,a2⟩:=⟨Nat.le_succ_of_le h.len,h.all,ha⟩
theorem LGok.add {n m m':Nat} {u u':Value} {out:List LnV} {a1 a2:Nat} {p:LnV} (h:LGok n m ⟨u,out,a1⟩) (hp:zxS p) (ha:a2<=m'):LGok (n+1) m' ⟨u',out++[p],a2⟩:=
 ⟨by have:=h.len;simp only [Av,Ai,AB] at*;omega,fun y hy=>by
  rcases List.mem_append.1 hy with hy|hy
  exact h.all y hy;rw [List.mem_singleton.1 hy];exact hp,ha⟩
end
section
/-! sums-/
def zra (p:Str) (c:List (Of2×Int)) (s:StatS):List (Of2×Int):=zA (p,s.Name) ((alk (p,s.Name) c).getD 0+s.Count) c
def zBL (p:Str) (c:List (Of2×Int)) (l:List StatS):List (Of2×Int):=l.foldl (zra p) c
theorem LnOk.le {q:LnS} {n m:Nat} (h:LnOk q n) (hn:n<=m):LnOk q m:=
 ⟨h.c,h.S,h.k,Aq h.cl hn,Aq h.Sl hn,fun e he=>by have:=h.bd e he;omega⟩
theorem LnOk.addC {q:LnS} {n:Nat} (h:LnOk q n) (p:Str) {s:StatS} (hb: -100000<=s.Count/\s.Count<=100000):LnOk ⟨q.S,zra p q.c s⟩ (n+1):=by
 have hv:=h.val (p,s.Name);refine ⟨h.c.put,h.S,h.k,Aq (zlD _ _ _) (by have:=h.cl;omega),by have:=h.Sl;dsimp only;omega,fun e he=> ?_⟩
 rcases zcZ he with rfl|he
 dsimp only;omega
 have:=h.bd e he;omega
theorem LnOk.row (p:Str): ∀(l:List StatS) {q:LnS} {n:Nat},LnOk q n->(∀s∈l,-100000<=s.Count/\s.Count<=100000)->LnOk ⟨q.S,zBL p q.c l⟩ (n+l.length)
 |[],q,n,h,_=>h
 |s::r,q,n,h,hb=>by
   have h1:=LnOk.row p r (h.addC p (hb s Aj)) fun y hy=>hb y (Am _ hy)
   rw [Ai,show n+(r.length+1)=n+1+r.length by omega];exact h1
theorem zuG {κ α:Type} [DecidableEq κ]: ∀{S D:List (κ×α)},ANodup (D++S)->zrM D S=D++S
 |[],D,_=>by simp [zrM]
 |p::r,D,h=>by
   have hn:alk p.1 D=none:=by
    rw [zeq];intro hm;unfold ANodup at h;rw [Az] at h;exact (List.nodup_append.1 h).2.2 _ hm _ Aj rfl
   have e:zA p.1 p.2 D=D++[p]:=zjV hn
   show zrM (zA p.1 p.2 D) r=_
   rw [e,zuG (by simpa using h)]
   simp
end
section
def stP (l:List StatS):List (Str×Int):=l.foldl (fun c s=>zA s.Name s.Count c) []
theorem zws (l:List StatS):stP l=zrM [] (stA l):=by
 unfold stP zrM stA;rw [List.foldl_map]
theorem zy9 (l:List StatS):ANodup (stP l):=by rw [zws];exact zqQ ANodup.nil
theorem zDP {l:List StatS} (h:(l.map (·.Name)).Nodup):stP l=stA l:=by
 rw [zws,zuG (by simpa using zsQ h)];rfl
def ztE (l:List StatS) (s:Str) (n:Int):List StatS:=zrc (zA s n (stP l))
theorem zzi {κ:Type} [DecidableEq κ] {c:List (κ×Int)} (hn:ANodup c) (k:κ):(alk k (c.filter fun e=>e.2 !=0)).getD 0=(alk k c).getD 0:=by
 have hn2:ANodup (c.filter fun e=>e.2 !=0):=by
  unfold ANodup at*;exact hn.sublist (List.filter_sublist.map _)
 cases hq:alk k (c.filter fun e=>e.2 !=0) with
 |some v=>
   have h1:=(List.mem_filter.1 (zbO hq)).1;rw [(zd8 hn).1 h1]
 |none=>
   cases hr:alk k c with
   |none=>rfl
   |some v=>
     by_cases hv:v=0
     rw [hv];rfl;have h1:(k,v)∈c.filter fun e=>e.2 !=0:=List.mem_filter.2 ⟨zbO hr,by simpa using hv⟩
     rw [(zd8 hn2).1 h1] at hq
     cases hq
theorem zrV {c:List (Str×Int)} (hn:ANodup c):StOk (zrU c) where
 nd:=by
  unfold zrU;rw [AY];unfold ANodup at hn;exact hn.sublist (List.filter_sublist.map _)
 nz x hx:=by
  unfold zrU at hx;obtain ⟨e,he,rfl⟩:=List.mem_map.1 hx;have:=(List.mem_filter.1 he).2
  simpa using this
theorem zzb {c:List (Str×Int)} (hn:ANodup c):StOk (zrc c):=(zrV hn).sort
theorem zxE {c:List (Str×Int)} (hn:ANodup c) (s:Str):sv (zrc c) s=(alk s c).getD 0:=by
 have h1:sv (zrc c) s=sv (zrU c) s:=zCZ (zrV hn).nd (zbp zbc _) s;have h2:stA (zrU c)=c.filter fun e=>e.2 !=0:=by
  unfold stA zrU;rw [AY];exact List.map_id _
 rw [h1];unfold sv;rw [h2];exact zzi hn s
theorem zza {l:List StatS} (h:(l.map (·.Name)).Nodup) (hw:l.Pairwise fun a b=> ¬zbc b a<0):zaj zbc l=l:=
 (zfF zdj (fun _ _ hx hy e=>zv8 h hx hy (zbm.1 e)) (Ac _) hw).symm
theorem zvt {l:List StatS} (h:(l.map (·.Name)).Nodup):zaj zbc (zaj zbc l)=zaj zbc l:=by
 have h1:=zf6 zdj (l:=l) (fun _ _=>trivial);refine zza (((zbp zbc l).map _).nodup_iff.2 h) (h1.imp fun {a b} hab=> ?_)
 have:=zdj.flip a b trivial trivial;have:=zdj.flip b a trivial trivial
 omega
structure RfSt (l:List StatS):Prop where
 ok:StOk l
 so:zaj zbc l=l
theorem RfSt.nil:RfSt []:=⟨StOk.nil,rfl⟩
theorem RfSt.put {l:List StatS} (h:RfSt l) (s:Str) (n:Int):RfSt (ztE l s n)/\∀t,sv (ztE l s n) t=if t=s then n else sv l t:=by
 have hn:ANodup (zA s n (stP l)):=(zy9 l).put;refine ⟨⟨zzb hn,zvt (zrV hn).nd⟩,fun t=> ?_⟩
 unfold ztE;rw [zxE hn,zdH,zDP h.ok.nd]
 by_cases e:t=s
 rw [if_pos e,if_pos e];rfl;rw [if_neg e,if_neg e];rfl
structure RfOk (G:GrS):Prop where
 nd:ANodup G
 st: ∀q∈G,RfSt q.2
theorem RfOk.get {G:GrS} (h:RfOk G) (p:Plc):RfSt ((alk p G).getD []):=by
 cases hq:alk p G with
 |none=>exact RfSt.nil
 |some l=>exact h.st _ (zbO hq)
theorem zGy {G:GrS} (h:RfOk G):GSOk G:=⟨h.nd,fun q hq=>(h.st q hq).ok⟩
theorem RfOk.put {G:GrS} (h:RfOk G) (p:Plc) (s:Str) (n:Int):RfOk (zA p (ztE ((alk p G).getD []) s n) G):=
 ⟨h.nd.put,fun q hq=>by
  rcases zcZ hq with rfl|hq
  exact ((h.get p).put s n).1;exact h.st q hq⟩
end
section
theorem zr6 {κ α:Type} [DecidableEq κ] (s:κ) (v v':α): ∀G:List (κ×α),zA s v' (zA s v G)=zA s v' G
 |[]=>by simp [zA]
 |p::r=>by
   have ih:=zr6 s v v' r
   by_cases h:s=p.1
   simp [zA,h]
   simp [zA,h,ih]
theorem zr7 {κ α:Type} [DecidableEq κ] {s:κ} {v:α}: ∀{G:List (κ×α)},alk s G=some v->zA s v G=G
 |[],h=>by simp [alk] at h
 |p::r,h=>by
   by_cases e:s=p.1
   simp only [alk,if_pos e] at h;have:=Aw h;subst this;unfold zA;rw [if_pos e,e];simp only [alk,if_neg e] at h;have ih:=zr7 h;simp only [zA,if_neg e,ih]
def rowI (L:List (Str×Int)) (l:List StatS):List (Str×Int):=l.foldl (fun L s=>zA s.Name ((alk s.Name L).getD 0+s.Count) L) L
theorem GrOk.row {S:List Str} {p:Str} {b:Nat}: ∀(l:List StatS) {c:List (Of2×Int)} {G:GrM Str} {L:List (Str×Int)},GrOk S c G->alk p G=some (b,L)->GrOk S (zBL p c l) (zA p (b,rowI L l) G)
 |[],c,G,L,h,hq=>by
   show GrOk S c (zA p (b,L) G)
   rw [zr7 hq];exact h
 |s::r,c,G,L,h,hq=>by
   have hL:=h.get hq;have h1:=h.put hq s.Name ((alk s.Name L).getD 0+s.Count);have e:zA (p,s.Name) ((alk s.Name L).getD 0+s.Count) c=zra p c s:=by unfold zra;rw [hL,zsn]
   rw [e] at h1;have h2:=GrOk.row r h1 (L:=zA s.Name ((alk s.Name L).getD 0+s.Count) L) (by rw [zdH,if_pos rfl]);rw [zr6] at h2;exact h2
end
section
structure DisOk (q:DisS) (n:Nat):Prop where
 c:ANodup q.c
 S:q.S.Nodup
 k: ∀s∈q.S,s.length<=40
 cl:q.c.length<=n
 Sl:q.S.length<=n
 bd: ∀e∈q.c,-(100000*(n:Int))<=e.2/\e.2<=100000*(n:Int)
theorem DisOk.val {q:DisS} {n:Nat} (h:DisOk q n) (s:Str×Of2): -(100000*(n:Int))<=(alk s q.c).getD 0/\(alk s q.c).getD 0<=100000*(n:Int):=by
 cases hq:alk s q.c with
 |none=>simp;omega
 |some v=>exact h.bd _ (zbO hq)
theorem DisOk.sput {q:DisS} {n:Nat} (h:DisOk q n) {p:Play} (hp:playFault p=0):DisOk ⟨zb8 p.Source q.S,q.c⟩ (n+1):=by
 refine ⟨h.c,zjF h.S,fun s hs=> ?_,by have:=h.cl;dsimp only;omega,Aq (zwm _ _) (by have:=h.Sl;omega),fun e he=>by have:=h.bd e he;omega⟩
 rcases zkk.1 hs with rfl|hs
 exact zv1 (zeQ hp).1;exact h.k s hs
theorem DisOk.put {q:DisS} {n:Nat} (h:DisOk q n) {p:Play} (hp:playFault p=0):DisOk ⟨zb8 p.Source q.S,zDc q p⟩ (n+1):=by
 have hs:=h.sput hp;obtain ⟨_,_,_,_,_,hb,_⟩:=zeQ hp;have hv:=h.val (zui p);refine ⟨h.c.put,hs.S,hs.k,Aq (zlD _ _ _) (by have:=h.cl;omega),hs.Sl,fun e he=> ?_⟩
 rcases zcZ he with rfl|he
 dsimp only;omega
 have:=h.bd e he;omega
end
section

end
section
theorem zri (x:Of2): ∀(A:List Of2) (p:Option Of2),zfb p (A++[x])=zfb p A++if (A.getLast?.or p)=some x then [] else [x]
 |[],p=>by
   by_cases h:p=some x<;>simp [zfb,h]
 |y::A,p=>by
   have ih:=zri x A (some y);have e:((y::A).getLast?.or p)=(A.getLast?.or (some y)):=by
    cases A with
    |nil=>simp
    |cons z A=>simp [List.getLast?_cons_cons,List.getLast?_cons]
   simp only [A0,zfb];rw [e,ih]
   split<;>simp
theorem zxR {l:List Of2} {k:Nat} {x y:Of2} (hx:l[k]? =some x) (hy:l[k-1]? =some y) (h0:0<k):zfb none (l.take (k+1))=zfb none (l.take k)++if x=y then [] else [x]:=by
 have hk:=zn hx;rw [z6 hx,zri];have e:((l.take k).getLast?.or none)=some y:=by
  rw [List.getLast?_eq_getElem?,AD,Cz (by omega),AC (by omega),hy];rfl
 rw [e]
 by_cases h:x=y
 rw [if_pos h,if_pos (by rw [h])];rw [if_neg h,if_neg (by simpa using fun q:y=x=>h q.symm)]
structure CmpO (l:List Of2) (j:Nat) (D:List Of2):Prop where
 len:D.length=l.length
 lo:D.take (zfb none (l.take j)).length=zfb none (l.take j)
 lt:(zfb none (l.take j)).length<j
 hi: ∀i,j<=i+1->D[i]? =l[i]?
theorem CmpO.same {l D:List Of2} {j:Nat} (h:CmpO l j D) {x y:Of2} (hx:l[j]? =some x) (hy:l[j-1]? =some y) (e:x=y):CmpO l (j+1) D/\(zfb none (l.take (j+1))).length=(zfb none (l.take j)).length:=by
 have h0:=h.lt;have h1:zfb none (l.take (j+1))=zfb none (l.take j):=by rw [zxR hx hy (by omega),if_pos e];simp
 exact ⟨⟨h.len,by rw [h1];exact h.lo,by rw [h1];omega,fun i hi=>h.hi i (by omega)⟩,by rw [h1]⟩
end
section
theorem zzK {l:List Str} {i:Nat} (h:i<l.length):l.getD i []∈l:=by
 rw [Ae,Aa h];exact BQ h
end
section

end
section
open Op
end
end Go.HL
section
namespace Go.HL
section
variable {P:Program} {e:Env} {dst:Option Tmp} {ty:TypeId} {pos:String} {af:Array Edge} {g:Option (Nat×Bool)}
theorem ze9 {t el:TypeId} (hu:P.underlying t=some (.pointer el)) (a:Option Addr) (w:World):(Op.equal t (.pointer a) (.pointer none)).run P w= .ok a.isNone w:=by
 have h: ∀d,(Op.equalIn (d+1) t (.pointer a) (.pointer none)).run P w= .ok a.isNone w:=fun d=>by
  cases a<;>simp only [Op.equalIn,Sem.run_bind,run_underlying hu,Result.andThen_ok,Sem.run_pure,Option.isNone]
 exact h 9999
def zow:Option (List HVal)->HVal
 |none=> .raw (.pointer none)
 |some cs=> .vptr cs 0
theorem zxv [Tracks] {x y:Operand} {t t' el:TypeId} {size bytes:Nat} {zero:Value} {o:Option (List HVal)} (hf:Fits P t (.ptr el) size bytes zero) (hx:zh e x=some (zow o)) (hy:zh e y=some (.raw (.pointer none))):
 POp P e ⟨dst,.binOp .eql t x y t',ty,pos,af,g⟩ (.bool o.isNone):=
 zB fun I a w ho=>by
  have hv:=ho.one (x:=x) (by simp [Op.operands]) hx;have h2:=(ho.one (x:=y) (by simp [Op.operands]) hy).raw_inv
  cases o with
  |none=>
    have h1:=hv.raw_inv;refine ⟨_,?_,.bool _⟩
    simp [execOp,h1,h2,eqGuard,binOp,ze9 hf.ptrD]
  |some cs=>
    obtain ⟨b,base,rc,el',fr,h1,h3,h4,h5⟩:=hv.vptr_inv;refine ⟨_,?_,.bool _⟩
    simp [execOp,h1,h2,eqGuard,binOp,ze9 hf.ptrD]
end
end Go.HL
namespace Go.HL
theorem ze2 [Tracks] {a b c d a' b' c' d':HVal} (h1:Weak a a') (h2:Weak b b') (h3:Weak c c') (h4:Weak d d'):Weak (.tup [a,b,c,d]) (.tup [a',b',c',d']):=
 zp5 rfl fun j h h' x y=>by
  match j,x,y with
  |0,x,y=>simp at x y;subst x y;exact h1
  |1,x,y=>simp at x y;subst x y;exact h2
  |2,x,y=>simp at x y;subst x y;exact h3
  |3,x,y=>simp at x y;subst x y;exact h4
end Go.HL
end
namespace Go.HL
section
open Op
end
section
open Op
end
section
open Op
end
section
open Op
def sp4:List Str:=[[100,102],[102,119],[103,107],[109,102]]
def nm5:List Str:=[[97,110,110],[98,101,97],[99,105,100],[100,97,110],[101,118,101]]
def sl4:List Str:=[[115,98],[115,97],[115,99],[115,100]]
def ru5:List Str:=[[114,97],[114,98],[114,99],[114,100],[114,101]]
structure GoodPy (p:PlayerS):Prop where
 name:p.Name∈zc6
 pos:p.Positions.length<=4
structure GoodPys (l:List PlayerS):Prop where
 len:l.length<=5
 all: ∀p∈l,GoodPy p
def zoJ (x:SlotS):Prop:=x.Positions.length<=10
structure GoodSlos (l:List SlotS):Prop where
 len:l.length<=4
 all: ∀x∈l,zoJ x
def zlC (x:SlotS):Prop:=x.Positions.length<=4
structure GoodS4s (l:List SlotS):Prop where
 len:l.length<=4
 all: ∀x∈l,zlC x
theorem GoodS4s.up {l:List SlotS} (h:GoodS4s l):GoodSlos l:=⟨h.len,fun x hx=>by have:=h.all x hx;dsimp only [zlC] at this;show x.Positions.length<=10;omega⟩
def ztN (x:HealthS):Prop:= -1000000000000000<=x.To/\x.To<=1000000000000000
structure GoodHes (l:List HealthS):Prop where
 len:l.length<=10
 all: ∀x∈l,ztN x
def ofB (L:List PlayerS) (s:Str):Bool:=decide (zT (fun x:PlayerS=>x.Key==s) L 0<0)&&(s !=[122,101,100])
theorem GoodHes.filter {l:List HealthS} {p:HealthS->Bool} (h1:l.length<=10) (h2: ∀x∈l,ztN x):GoodHes (l.filter p):=
 ⟨Aq (AW _ _) h1,fun x hx=>h2 x (List.mem_filter.1 hx).1⟩
def zzg (x:RuleS):Prop:=(-1000000000<=x.Num/\x.Num<=1000000000)/\ -1000000000<=x.Den/\x.Den<=1000000000
structure GoodRus (l:List RuleS):Prop where
 len:l.length<=5
 all: ∀x∈l,zzg x
theorem zvS {n g:Int} (h: -1000<=n/\n<=1000): -1000000000<=n.tdiv g/\n.tdiv g<=1000000000:=by
 have h1:(n.tdiv g).natAbs<=n.natAbs:=by
  rw [Int.natAbs_tdiv];exact Nat.div_le_self _ _
 omega
def zhY (n d:Int):Int:=((Nat.gcd n.natAbs d.natAbs:Nat):Int)
theorem zCp {n d:Int} (h:1<=d):1<=zhY n d:=by
 unfold zhY;have:=Nat.gcd_pos_of_pos_right n.natAbs (show 0<d.natAbs by omega)
 omega
end
section
open Op
def onI (W p n:Int):Int:=if 0<p then 1+((p-1-(W-1)).tmod (n-1)+(n-1)).tmod (n-1) else p
def onS (T:List Str) (W p n:Int):Str:=if T.length<=onI W p n then [] else T.getD (onI W p n).toNat []
theorem zF8 {W p n:Int} (hp:0<=p/\p<=10) (hn:2<=n/\n<=10):(-10<=(p-1-(W-1)).tmod (n-1)/\(p-1-(W-1)).tmod (n-1)<=10)/\(0<=((p-1-(W-1)).tmod (n-1)+(n-1)).tmod (n-1)/\((p-1-(W-1)).tmod (n-1)+(n-1)).tmod (n-1)<=10)/\0<=onI W p n:=by
 obtain ⟨m1,m2,_⟩:=zva (a:=p-1-(W-1)) (b:=n-1) (by omega);have h0:0<=(p-1-(W-1)).tmod (n-1)+(n-1):=by omega
 have h1:=Cv (n-1) h0;have h2:=BW ((p-1-(W-1)).tmod (n-1)+(n-1)) (show 0<n-1 by omega);refine ⟨⟨by omega,by omega⟩,⟨h1,by omega⟩,?_⟩
 unfold onI
 split<;>omega
def zhd:List Str->List Str->Int
 |[],[]=>0
 |[],_::_=> -1
 |_::_,[]=>1
 |a::l,b::m=>if zV a b≠0 then zV a b else zhd l m
theorem zzy {l m:List Str} (h:m.length<=0\/m=[]) (hl:l≠[]):zhd l m=1:=by
 have hm:m=[]:=by
  rcases h with h|h
  cases m with
  |nil=>rfl
  |cons _ _=>simp at h
  exact h
 subst hm
 cases l with
 |nil=>exact absurd rfl hl
 |cons _ _=>rfl
theorem zx8 {a b:Str} {l m:List Str} (h:zV a b=0):zhd (a::l) (b::m)=zhd l m:=by rw [zhd,if_neg (by simp [h])]
theorem zx9 {a b:Str} {l m:List Str} (h:zV a b≠0):zhd (a::l) (b::m)=zV a b:=by rw [zhd,if_pos h]
theorem zmC {m:List Str} {k:Nat} (h:k<m.length):m.drop k=m.getD k []::m.drop (k+1):=by
 rw [BL h,Ae,Aa h];rfl
theorem zub {m:List Str} (k:Nat):zhd [] (m.drop k)=if k<m.length then-1 else 0:=by
 split
 rename_i h;rw [zmC h];rfl
 rename_i h;rw [BB (by omega)];rfl
def zpD (x y:FixS):Int:=if zfu [x.Week,x.At] [y.Week,y.At]≠0 then zfu [x.Week,x.At] [y.Week,y.At] else zhd [x.Home] [y.Home]
theorem zzm:Cmp zpD fun _=>True:=by
 have h:=zdG (zfm FixS.Week) (zdG (zfm FixS.At) (zgm FixS.Home));have e:zpD=fun a b=>if zae a.Week b.Week≠0 then zae a.Week b.Week else if zae a.At b.At≠0 then zae a.At b.At else zV a.Home b.Home:=by
  funext a b
  unfold zpD;have e1:zfu [a.Week,a.At] [b.Week,b.At]=if zae a.Week b.Week≠0 then zae a.Week b.Week else zae a.At b.At:=by
   rw [zfu,zfu,zfu]
   by_cases h2:zae a.At b.At≠0
   rw [if_pos h2];rw [if_neg h2];simp at h2;rw [h2]
  have e2:zhd [a.Home] [b.Home]=zV a.Home b.Home:=by
   rw [zhd,zhd]
   by_cases h2:zV a.Home b.Home≠0
   rw [if_pos h2];rw [if_neg h2];simp at h2;rw [h2]
  rw [e1,e2]
  by_cases h1:zae a.Week b.Week≠0
  rw [if_pos h1,if_pos h1,if_pos h1];rw [if_neg h1,if_neg h1]
 rw [e];exact h
def nOf (T:List Str):Int:=(T.length:Int)+(T.length:Int).tmod 2
def mOf (T:List Str):Int:=(nOf T).tdiv 2
theorem zDx {T:List Str} (h:2<=T.length/\T.length<=4):(0<=(T.length:Int).tmod 2/\(T.length:Int).tmod 2<=1)/\(2<=nOf T/\nOf T<=4)/\(1<=mOf T/\mOf T<=2)/\2*mOf T=nOf T:=by
 have h3:T.length=2\/T.length=3\/T.length=4:=by omega
 unfold mOf nOf
 rcases h3 with e|e|e<;>(rw [e];decide)
theorem zvV {w:Nat} {x y:Str} (h:w<=10):GamB ⟨(w:Int)+1,x,y,false,0,0,0,0⟩:=⟨by dsimp only;omega,by dsimp only;omega,by dsimp only;omega⟩
structure GoodGas (l:List GameS):Prop where
 len:l.length<=6
 all: ∀x∈l,GamB x
def tm4:List Str:=[[116,97],[116,98],[116,99],[116,100]]
theorem zfj {y:Int} (h:2<=y):HasAB (tm4.take y.toNat):=by
 obtain ⟨n,hn⟩: ∃n,y.toNat=n+2:=⟨y.toNat-2,by omega⟩
 rw [hn];unfold HasAB tm4
 constructor<;>simp
structure LeaC (g:LeagueS):Prop where
 lea:LeaB g
 gw: ∀x∈g.Games,GamB x
 tr: ∀s∈g.Trust,Sh s
 sl:g.Slots.length<=4
 tm:g.Teams.length<=5
 pl:g.Players.length<=5
 tt:HasAB g.Teams
theorem zjP {g:LeagueS} (h1:GoodPys g.Players) (h2:g.Stints.length<=10) (h3:g.Fixtures.length<=12) (h4:GoodRus g.Rules) (h5:GoodSlos g.Slots) (h6:g.Teams.length<=5) (h7:g.Games.length<=6/\∀x∈g.Games,GamB x)
 (h8:g.Breaks.length<=6) (h9:g.Trust.length<=100/\∀s∈g.Trust,Sh s) (h10: -1<=g.Start/\g.Start<=1000000000000) (h11:HasAB g.Teams):LeaC g:=by
 have l1:=h1.len;have l4:=h4.len;have l5:=h5.len;refine ⟨⟨by omega,fun p hp=>(h1.all p hp).name,fun p hp=>by have:=(h1.all p hp).pos;omega,by omega,by omega,by omega,fun x hx=>h4.all x hx,by omega,fun x hx=>by have:=h5.all x hx;dsimp only [zoJ] at this;omega,by omega,by omega,
  fun x hx=>⟨(h7.2 x hx).fr,(h7.2 x hx).ot⟩,by omega,by omega,by omega⟩,h7.2,h9.2,l5,h6,l1,h11⟩
structure LeaD (g:LeagueS):Prop where
 pl:GoodPys g.Players
 fx:g.Fixtures.length<=12
 ru:GoodRus g.Rules
 sl:GoodS4s g.Slots
 tm:2<=g.Teams.length/\g.Teams.length<=4
 br:g.Breaks.length<=6
 tr:GoodTr g.Trust
 sta: -1<=g.Start/\g.Start<=1000000000000
 tt:HasAB g.Teams
end
section
open Op
structure HalfG {α:Type} (a b l:List α):Prop where
 sa:List.Sublist a l
 sb:List.Sublist b l
theorem HalfG.nil {α:Type}:HalfG ([]:List α) [] []:=⟨Bk _,Bk _⟩
theorem HalfG.left {α:Type} {a b l:List α} (h:HalfG a b l) (x:α):HalfG (a++[x]) b (l++[x]):=
 ⟨h.sa.append (Bk _),h.sb.trans (BR _ _)⟩
theorem HalfG.right {α:Type} {a b l:List α} (h:HalfG a b l) (x:α):HalfG a (b++[x]) (l++[x]):=
 ⟨h.sa.trans (BR _ _),h.sb.append (Bk _)⟩
abbrev MvS:={m:MoveS//MovB m}
abbrev zdl (x:MvS):HVal:=zdh x.1
def zAS (x y:MvS):Int:=zgU x.1 y.1
theorem zx5:Cmp zAS fun _=>True:=zwF
end
section
theorem zt3: ∀a b:Str,Op.bytesLess a b=decide (a<b)
 |[],[]=>by simp [Op.bytesLess]
 |_::_,[]=>by simp [Op.bytesLess]
 |[],_::_=>by simp [Op.bytesLess]
 |a::x,b::y=>by
   have ih:=zt3 x y;rw [AF,decide_eq_true_iff,List.cons_lt_cons_iff];unfold Op.bytesLess;rw [ih]
   simp
theorem zCW {a b:Str} (h:SLt a b):zV a b<0:=by
 have h1:zV a b<=0:=by
  rw [zjL,zt3,decide_eq_false_iff_not];exact List.not_lt.2 h.1
 have h2:zV a b≠0:=fun e=>h.2 (zbm.1 e)
 omega
/-! the lines of right plays are right-/
structure LnKey (q:LnS):Prop where
 S: ∀s∈q.S,key s=true
 c: ∀e∈q.c,key e.1.2=true
theorem zuA {l:List Play} {t:List Str} {week n:Int}: ∀(m:List Play) (q:LnS),LnKey q->(∀x∈m,playFault x=0)->LnKey (m.foldl (zhX l t week n) q)
 |[],_,h,_=>h
 |x::m,q,h,hm=>by
   rw [Bw];refine zuA m _ ?_ fun y hy=>hm y (Am _ hy)
   obtain ⟨_,_,_,_,⟨_,k2,k3⟩,_,_⟩:=zeQ (hm x Aj);unfold zhX
   split
   refine ⟨fun s hs=> ?_,fun e he=> ?_⟩
   rcases zkk.1 hs with rfl|hs
   exact k2;exact h.S s hs
   rcases zcZ he with rfl|he
   exact k3;exact h.c e he;exact h
theorem zlv {l:List Play} {t:List Str} {week n:Int} (hok: ∀x∈l,playFault x=0) (hl:l.length<=15) (hw:zaV week=true) (h0:zhW l t week n=0):zax (zdT l t week n)=0:=by
 have h:=ztA (l:=l) (m:=l) (trust:=t) (week:=week) (n:=n) hok;have hk:LnKey (zcH l t week n l):=zuA (l:=l) (t:=t) (week:=week) (n:=n) l ⟨[],[]⟩ ⟨(fun s h=>by cases h),(fun e h=>by cases h)⟩ hok;obtain ⟨hsl,hsn⟩:=zkj (t:=t) (week:=week) (n:=n) hok hl;have hf:zg0 (zcH l t week n l).c (zcH l t week n l).S=false:=by
  unfold zhW ziq at h0
  cases hq:zg0 (zcH l t week n l).c (zcH l t week n l).S with
  |false=>rfl
  |true=>rw [hq] at h0;simp at h0
 have e:zdT l t week n=(zbh (zcH l t week n l).S).map fun s=>⟨s,week,zdJ (zcH l t week n l).c s⟩:=by
  unfold zdT zhz;rw [hf];rfl
 unfold zg0 at hf;rw [A6] at hf;obtain ⟨f1,f2⟩:=hf;refine zqM (by omega) (fun y hy=> ?_) ?_;obtain ⟨y1,y2,y3⟩:=hsn y hy;rw [e] at hy;obtain ⟨s,hs,rfl⟩:=List.mem_map.1 hy;have hsS:s∈(zcH l t week n l).S:=(zh8 _).mem_iff.1 hs;have hnm:((zbk (zcH l t week n l).c s).map (·.Name)).Nodup:=by
  have:=znk h.c s;unfold zdJ at this;exact ((zbp zbc _).map _).nodup_iff.1 this
 refine zeP.2 ⟨hk.S s hsS,hw,zsR (Aq y1 (by decide)) (fun z hz=> ?_) (zpy hnm)⟩
 have hz':z∈zbk (zcH l t week n l).c s:=(zej _).1 hz;obtain ⟨p,hp,rfl⟩:=List.mem_map.1 hz';obtain ⟨p1,p2⟩:=List.mem_filter.1 hp;have p3:p.2≠0:=by
  simp only [A5,bne_iff_ne,ne_eq] at p2;exact p2.2
 have p4:out p.2 (-100000) 100000=false:=by
  have:=List.any_eq_false.1 f1 p p1
  simpa using this
 refine zeS.2 ⟨hk.c p p1,?_,p3⟩
 unfold out at p4;simp only [A6,decide_eq_false_iff_not] at p4
 dsimp only
 omega
 rw [e];refine List.pairwise_map.2 ((zu5 h.S).imp fun {a b} hab=> ?_)
 have h1:=zCW hab
 show orI [zV a b,zae week week]<0
 rw [zd4,if_pos (by omega)];exact h1
/-! parts that make the whole-/
structure Half (a b l:List Play):Prop where
 sa:a.Sublist l
 sb:b.Sublist l
 all: ∀x∈l,x∈a\/x∈b
theorem Half.nil:Half [] [] []:=⟨Bk _,Bk _,fun x h=>by cases h⟩
theorem Half.left {a b l:List Play} (h:Half a b l) (x:Play):Half (a++[x]) b (l++[x]):=
 ⟨h.sa.append (Bk _),h.sb.trans (BR _ _),fun y hy=>by
  rcases List.mem_append.1 hy with hy|hy
  rcases h.all y hy with q|q
  exact .inl (Ap _ q);exact .inr q;exact .inl (Bt _ hy)⟩
theorem Half.right {a b l:List Play} (h:Half a b l) (x:Play):Half a (b++[x]) (l++[x]):=
 ⟨h.sa.trans (BR _ _),h.sb.append (Bk _),fun y hy=>by
  rcases List.mem_append.1 hy with hy|hy
  rcases h.all y hy with q|q
  exact .inl q;exact .inr (Ap _ q);exact .inr (Bt _ hy)⟩
end
section

end
section
open Op
def ztM (x:ChoiceS):Prop:=(∀s∈x.Players,Sh s)/\Sh x.Captain/\x.Players.length<=5
def GoodC4 (x:ChoiceS):Prop:=(∀s∈x.Players,Sh s)/\Sh x.Captain/\x.Players.length<=4
theorem GoodC4.up {x:ChoiceS} (h:GoodC4 x):ztM x:=⟨h.1,h.2.1,Nat.le_succ_of_le h.2.2⟩
structure GoodChs (l:List ChoiceS):Prop where
 len:l.length<=20
 all: ∀x∈l,ztM x
structure BookG (b:BookS):Prop where
 lea:LeaC b.League
 mv:b.Moves.length<=10
 mb: ∀x∈b.Moves,MovB x
 pl:GoodPl b.Plays
 me:GoodMds b.Mends
 he:GoodHes b.Health
 ch:GoodChs b.Choices
theorem BookG.c {b:BookS} (h:BookG b):BookC b:=by
 have a1:=h.mv;have a2:=h.pl.len;have a3:=h.me.len;have a4:=h.he.len;have a5:=h.ch.len;exact ⟨⟨h.lea.lea,by omega,by omega,by omega,by omega,by omega,fun x hx=>by have:=(h.ch.all x hx).2.2;omega⟩,h.lea.gw,h.mb,h.he.all,h.lea.tr,h.pl.all,h.me.all,fun x hx=>⟨(h.ch.all x hx).1,(h.ch.all x hx).2.1⟩,by omega,by omega,by omega,by omega,by omega,h.lea.tt⟩
def g0L:LeagueS:=⟨[],[],[],[],[⟨[115,97],[[103,107]]⟩],⟨3,0,5,0⟩,[[116,97],[116,98]],[],[],[],0⟩
theorem g0_b:LeaB g0L:=
 ⟨by decide,fun _ h=>(by cases h),fun _ h=>(by cases h),by decide,by decide,by decide,fun _ h=>(by cases h),by decide,fun x hx=>(by simp only [g0L,List.mem_singleton] at hx;subst hx;decide),by decide,by decide,fun _ h=>(by cases h),by decide,by decide,by decide⟩
theorem g0_E:zcz g0L=0:=by decide
end
section
open Go
theorem zh4: ∀{l:List Int},orI l=0->∀x∈l,x=0
 |[],_,x,h=>by cases h
 |y::r,h,x,hx=>by
   unfold orI at h
   by_cases e:y≠0
   rw [if_pos e] at h;exact absurd h e;rw [if_neg e] at h
   rcases List.mem_cons.1 hx with rfl|q
   exact Decidable.not_not.1 e;exact zh4 h x q
theorem ztz {g:LeagueS} (h:zcz g=0):zhV g=0:=by
 unfold zcz at h
 by_cases e:zhV g≠0
 rw [if_pos e] at h;exact h;exact Decidable.not_not.1 e
theorem zt1 {b:BookS} (h:zdW b=0):zcz b.League=0/\orI [zf9 b.Moves,zcb b.Plays,zbE b.Mends,zrH b.League.Players b.Health,zrC b.League.Teams b.League.Slots.length b.Choices]=0:=by
 unfold zdW at h
 by_cases e:zcz b.League≠0
 rw [if_pos e] at h;exact absurd h e;rw [if_neg e] at h;exact ⟨Decidable.not_not.1 e,h⟩
structure BookF (b:BookS):Prop where
 bo:zdM b.League.Bounds=0
 mo:zf9 b.Moves=0
 ps:b.League.Players.length<=500
 ky: ∀p∈b.League.Players,key p.Key=true
theorem zx1 {b:BookS} (h:zdW b=0):BookF b:=by
 obtain ⟨h1,h2⟩:=zt1 h;have h3:=zh4 (ztz h1);have h4:zkr b.League.Players b.League.Stints=0:=h3 _ (by simp);have h5:zcL b.League.Players=0:=by
  unfold zkr at h4
  by_cases e:zcL b.League.Players≠0
  rw [if_pos e] at h4;exact h4;exact Decidable.not_not.1 e
 obtain ⟨h6,h7⟩:=zgu h5;refine ⟨h3 _ (by simp),zh4 h2 _ (by simp),h6,fun p hp=> ?_⟩
 obtain ⟨i,hi,rfl⟩:=AT hp;have:=h7 i _ (Aa hi);unfold zcO at this
 by_cases e:key b.League.Players[i].Key=false
 rw [if_pos e] at this;cases this
 simpa using e
abbrev zF4 (b:BookS):List Str:=b.League.Players.map (·.Key)
theorem BookF.fr {b:BookS} (h:BookF b) {n:Int} (hn:zaa n=true):frE b.League.Bounds b.Moves (zF4 b) n=0:=by
 refine zB7 (by simp [orI,h.bo,h.mo]) (by simp;exact h.ps) ?_ hn
 rw [BH]
 intro s hs
 obtain ⟨p,hp,rfl⟩:=List.mem_map.1 hs;rw [h.ky p hp];simp
def g0B:BookS:=⟨g0L,[],[],[],[],[]⟩
theorem zBA:BookC g0B:=
 ⟨⟨g0_b,by decide,by decide,by decide,by decide,by decide,fun _ h=>(by cases h)⟩,fun _ h=>(by cases h),fun _ h=>(by cases h),fun _ h=>(by cases h),fun _ h=>(by cases h),fun _ h=>(by cases h),fun _ h=>(by cases h),fun _ h=>(by cases h),by decide,by decide,by decide,by decide,by decide,⟨by decide,by decide⟩⟩
theorem zBz:zdW g0B=0:=by
 unfold zdW;rw [show zcz g0B.League=0 from g0_E,if_neg (by decide)]
 decide
end
end Go.HL
namespace Go.Proofs.YtbmggbfabohegaaGreatDoor
set_option maxRecDepth 100000
set_option linter.unusedVariables false
set_option linter.unusedSimpArgs false
section
open Go.HL
set_option linter.unusedSimpArgs false
end
end Go.Proofs.YtbmggbfabohegaaGreatDoor
namespace Go.HL
section
open Go
def zhQ (a b:List Str):Bool:=a.any fun s=>b.contains s
def zqI (team:Str) (w at' before:Int) (x:ChoiceS):Bool:=((x.Team==team&&x.Week==w)&&decide (x.At<=at'))&&decide (x.At<before)
def zoO (team:Str) (w at' before:Int) (o:Option ChoiceS):List ChoiceS->Option ChoiceS
 |[]=>o
 |x::r=>zoO team w at' before (if zqI team w at' before x=true then some x else o) r
def zwY (l:List ChoiceS) (team:Str) (w at' before:Int):Option ChoiceS:=zoO team w at' before none l
theorem zwX {team:Str} {w at' before:Int} {o:Option ChoiceS} {l:List ChoiceS} {c:ChoiceS} (h:zoO team w at' before o l=some c):o=some c\/c∈l/\zqI team w at' before c=true:=by
 induction l generalizing o with
 |nil=>exact .inl h
 |cons y r ih=>
   rcases ih h with q|⟨q1,q2⟩
   by_cases e:zqI team w at' before y=true
   rw [if_pos e] at q;cases q;exact .inr ⟨Aj,e⟩;rw [if_neg e] at q;exact .inl q;exact .inr ⟨Am _ q1,q2⟩
end
section
open Go
theorem zGq {L:List PlayerS} {s:Str} (hs:SortedS (L.map (·.Key))) (h:(L.map (·.Key)).contains s=true):
 ∃p,L[zbF (L.map (·.Key)) s]? =some p/\p.Key=s/\L.find? (fun p=>p.Key==s)=some p:=by
 obtain ⟨h1,h2⟩:=zrQ hs h;have hl:zbF (L.map (·.Key)) s<L.length:=by simpa using zn h1
 refine ⟨L[zbF (L.map (·.Key)) s],Aa hl,?_,?_⟩
 rw [Ag,Aa hl] at h1
 simpa using h1
 rw [BX];refine ⟨?_,_,hl,rfl,fun j hj=> ?_⟩
 rw [Ag,Aa hl] at h1
 simpa using h1
 have:=h2 j (L[j]'(by omega)).Key hj (by rw [Ag,Aa (by omega)];rfl)
 simpa using this
theorem zwd {L:List PlayerS} {s:Str} (h:(L.map (·.Key)).contains s=false):L.find? (fun p=>p.Key==s)=none:=by
 rw [Ci]
 intro p hp q
 have:(L.map (·.Key)).contains s=true:=by
  simp only [BK,decide_eq_true_eq];exact List.mem_map.2 ⟨p,hp,by simpa using q⟩
 rw [h] at this;cases this
abbrev plO (L:List PlayerS) (s:Str):Option PlayerS:=L.find? (fun p=>p.Key==s)
abbrev pPl (o:Option PlayerS):HVal:=zow (o.map fun p=>zb (zeL p))
abbrev pCh (o:Option ChoiceS):HVal:=zow (o.map fun c=>zb (zam c))
abbrev zw3 (t:Str) (p h:List Str):HVal:= .agg [.str t,eSs p,eSs h]
abbrev zjw (b:BookS) (n:Int):HVal:= .agg [.vptr (zb (zbx b)) 0,.int .i64 n]
def zc7 (b:BookS) (t:Str) (w n:Int):Int:=if zdW b≠0 then zdW b else if b.League.Teams.contains t=false then 8 else if zaV w=false\/zaa n=false then 1 else 0
theorem zo5 {b:BookS} {t:Str} {w n:Int} (h:zc7 b t w n=0):zdW b=0/\b.League.Teams.contains t=true/\zaV w=true/\zaa n=true:=by
 unfold zc7 at h
 by_cases h1:zdW b≠0
 rw [if_pos h1] at h;exact absurd h h1;rw [if_neg h1] at h
 by_cases h2:b.League.Teams.contains t=false
 rw [if_pos h2] at h;cases h;rw [if_neg h2] at h
 by_cases h3:zaV w=false\/zaa n=false
 rw [if_pos h3] at h;cases h;rw [not_or] at h3;exact ⟨Decidable.not_not.1 h1,by simpa using h2,by simpa using h3.1,by simpa using h3.2⟩
structure BookW (b:BookS):Prop where
 f:BookF b
 st:zkr b.League.Players b.League.Stints=0
 fx:zje b.League.Fixtures=0
 he:zoi b.League.Players b.Health=0
 py:zcL b.League.Players=0
 so:SortedS (b.League.Players.map (·.Key))
 ch: ∀c∈b.Choices,c.Players.length=b.League.Slots.length/\zaV c.Week=true/\zaa c.At=true
 tm: ∀t,b.League.Teams.contains t=true->key t=true
 sl:b.League.Slots.length<=12
theorem zBZ {T:List Str} {n:Nat} {l:List ChoiceS} (h:zrC T n l=0) {c:ChoiceS} (hc:c∈l):c.Players.length=n/\zaV c.Week=true/\zaa c.At=true:=by
 obtain ⟨_,h2⟩:=zgu h;obtain ⟨i,hi,rfl⟩:=AT hc;have:=h2 i _ (Aa hi);unfold zb3 at this
 split at this
 omega
 split at this
 omega
 split at this
 omega
 rename_i h3 h4
 rw [not_or] at h3;exact ⟨Decidable.not_not.1 h4,by simpa using h3.1,by simpa using h3.2⟩
theorem zx2 {b:BookS} (h:zdW b=0):BookW b:=by
 obtain ⟨h1,h2⟩:=zt1 h;have h3:=zh4 (ztz h1);have h4:zkr b.League.Players b.League.Stints=0:=h3 _ (by simp);have h5:zcL b.League.Players=0:=by
  unfold zkr at h4
  by_cases e:zcL b.League.Players≠0
  rw [if_pos e] at h4;exact h4;exact Decidable.not_not.1 e
 have h6:zfw b.League.Teams b.League.Games=0:=h3 _ (by simp);have h7:zdd b.League.Teams=0:=by
  unfold zfw at h6
  by_cases e:zdd b.League.Teams≠0
  rw [if_pos e] at h6;exact h6;exact Decidable.not_not.1 e
 have h8:zdI b.League.Teams=0:=by
  unfold zdd at h7
  split at h7
  cases h7
  split at h7
  cases h7
  exact h7
 have h9:zdx b.League.Slots=0:=h3 _ (by simp);have h10:zrC b.League.Teams b.League.Slots.length b.Choices=0:=zh4 h2 _ (by simp);refine ⟨zx1 h,h4,h3 _ (by simp),?_,h5,zmR h5,fun c hc=>zBZ h10 hc,fun t ht=>zoA _ 0 h8 t (by simpa using ht),?_⟩
 unfold zoi;rw [if_neg (fun q=>q h5)];exact zh4 h2 _ (by simp);unfold zdx at h9
 split at h9
 cases h9
 split at h9
 cases h9
 omega
end
end Go.HL
namespace Go.Proofs.YtbmggbfabohegaaGreatDoor
set_option maxRecDepth 100000
set_option linter.unusedVariables false
set_option linter.unusedSimpArgs false
section
open Go.Proofs.Tryz
open Go.HL
theorem zqf [Tracks] {s:Str} {l:List Str} (hl:l.length<=1000000):ConP prog 234 [.str s,.vptr [eSs l] 0] (.bool (l.contains s)):=by
 refine uOb func234 ntmps234 ?_;refine gz4 ?_;refine dq (zO (h:=eSs l) zq rfl rfl rfl) ?_;refine gz1 ?_;refine dq (uCl zfX rfl (zC uS)) ?_;refine gz3 ?_;refine zw rfl ?_
 rfl
theorem zgV [Tracks] {a b:List Str} (ha:a.length<=1000000) (hb:b.length<=1000000):ConP prog 157 [eSs a,eSs b] (.bool (zhQ a b)):=by
 refine uOb func157 ntmps157 ?_;refine gz7 ?_;refine dq (uCl zAX rfl (zgk (l:=a) (p:=fun s=>b.contains s) zFa (fun _=>zqf hb) ha)) ?_;refine gz3 ?_;refine zw rfl ?_
 rfl
theorem zmv [Tracks] {kb pb hb ob db ab:Nat} {b:BoundS} {k:RosS} {t:Str} (hP: ∀t,(rPl k t).length<=1000000) (hH: ∀t,(rHu k t).length<=1000000):Con prog 162 [.raw (.pointer (some ⟨kb,0,none⟩)),.str t] (zdq kb pb hb ob db ab b k) (fun x1 M'=>x1=zw3 t (rPl k t) (rHu k t)/\M'=[]):=by
 refine zbb func162 rfl ntmps162 rfl rfl ?_;refine gz1 ?_;refine de rfl (zj zh9 rfl fun b4=> ?_)
 refine gz1 ?_;refine zbT (fun M=>M=(.cells b4 [.str [],.raw (.slice none 0 0),.raw (.slice none 0 0)]::(zdq kb pb hb ob db ab b k))) [4,6,11,13] mixed ?_;refine gz2 ?_;refine uB 2 rfl ((by first|exact zu rfl|exact zl rfl)) ?_;refine gz1 ?_;refine uM 4 rfl rfl (fun M hM=>by subst hM;exact zan (i:=1) zdy rfl rfl (.inl ⟨rfl,rfl⟩) ⟨rfl,rfl⟩) ?_;refine gz1 ?_;refine uM 6 rfl rfl (fun M hM=>by subst hM;exact zfq (i:=2) (f:=eSs) (z0:=([]:List Str)) zdy ty9 zq rfl rfl rfl (zW 1) ⟨rfl,rfl⟩) ?_;refine uA 8 ?_;refine uB 9 rfl ((by first|exact zu rfl|exact zl rfl)) ?_;refine gz1 ?_;refine uM 11 rfl rfl (fun M hM=>by subst hM;exact zan (i:=1) zdy rfl rfl (.inl ⟨rfl,rfl⟩) ⟨rfl,rfl⟩) ?_;refine gz1 ?_;refine uM 13 rfl rfl (fun M hM=>by subst hM;exact zfq (i:=3) (f:=eSs) (z0:=([]:List Str)) zdy ty9 zq rfl rfl rfl (zW 1) ⟨rfl,rfl⟩) ?_;refine uF 7 ?_;refine zv rfl (zp7 (uCa zkc rfl (z7 (l:=rPl k t) (hP t)) fun v=>⟨v,rfl,rfl⟩) ?_)
 refine ⟨fun _=> .inl rfl,?_⟩
 refine uF 14 ?_;refine zv rfl (zp7 (uCa zkc rfl (z7 (l:=rHu k t) (hH t)) fun v=>⟨v,rfl,rfl⟩) ?_)
 refine ⟨fun _=> .inl rfl,?_⟩
 refine uB 15 rfl (zF (cs:=[_,_,_]) zh9 zGf rfl) ?_;refine uF 16 ?_;refine zD (zp (h:=zw3 t (rPl k t) (rHu k t)) zh9 rfl rfl rfl rfl rfl ?_)
 refine ⟨uE,?_⟩
 refine gz2 ?_;exact ⟨_,_,(zbr 4 (i:=0) rfl rfl).trans Ghost.clear,[_],_,⟨⟨_,_,_,_,_,rfl,zh9,.inr ⟨rfl,rfl,rfl⟩⟩,trivial⟩,Weak.refl _,rfl,rfl⟩
theorem zvl [Tracks] {b:BoundS} {l:List MoveS} {t:Str} {n:Int} (hl:l.length<=1000000) (hz:zk2 b l t n=0):ConP prog 78 [zfZ b,zcG l,.str t,.int .i64 n] (.tup [zw3 t (rPl (zg2 b l n) t) (rHu (zg2 b l n) t),.int .i64 0]):=by
 obtain ⟨hm0,hk0,hn0⟩:=zC5 hz;have hok:=zo0 (b:=b) (n:=n) hm0;refine zbb func78 rfl ntmps78 rfl rfl ?_;refine gz2 ?_;refine de rfl (zj zh9 rfl fun b8=> ?_)
 refine gz8 ?_;refine dq (zU (h':= .int .i64 0) (uCl zEx rfl (znn (b:=b) (l:=l) (p:=t) (n:=n) hl)) (by rw [hz])) ?_;refine gz6 ?_;refine zX rfl (fun h1=> ?_) (fun h1=> ?_)
 ·exfalso
  try simp at h1
  done
 ·try simp at h1
  refine gz6 ?_;refine de rfl (za7 (M1:=[]) (R:=[_]) zEy rfl (WeakL.refl _) (Ac _) (zvm (b:=b) (l:=l) (n:=n) hm0) ?_)
  rintro _ _ ⟨kb,pb,hb,ob,db,ab,rfl,rfl⟩;refine gz1 ?_;refine de rfl (za7 (M1:=(zdq kb pb hb ob db ab b (zg2 b l n))) (R:=[_]) zEz rfl (WeakL.refl _) (Ac _) (zmv (t:=t) (fun t=>by have:=(hok.p t).2;omega) (fun t=>by have:=(hok.h t).2;omega)) ?_)
  rintro _ _ ⟨rfl,rfl⟩;refine de0 (zp (h:=zw3 t (rPl (zg2 b l n) t) (rHu (zg2 b l n) t)) zh9 rfl rfl rfl rfl rfl ?_)
  refine gz3 ?_;exact ⟨_,_,zk 8 rfl,[_,_],_,⟨⟨_,_,_,_,_,rfl,zh9,.inr ⟨rfl,rfl,rfl⟩⟩,⟨rfl,trivial⟩⟩,Weak.refl _,rfl,rfl⟩
theorem zfO [Tracks] {b:BookS} {t:Str} {w n:Int} (hT:Tracks.on=false) (hb:BookC b):ConP prog 32 [.vptr (zb (zbx b)) 0,.str t,.int .i64 w,.int .i64 n] (.int .i64 (zc7 b t w n)):=by
 have htm:=hb.bb.lea.tm;refine uOb func32 ntmps32 ?_;refine gz6 ?_;refine dq ((by first|exact zu rfl|exact zl rfl)) ?_;refine dq (zaK (h:=zbx b) zbt rfl rfl rfl rfl) ?_;refine dq (uCl ca55 rfl (znL (b:=b) hT hb.bb hb.hw)) ?_;refine gz6 ?_;refine uCo (fun h1=> ?_) fun h2=> ?_
 refine gz5 ?_;refine uRp ?_;unfold zc7
 simp_all
 refine gz6 ?_;refine dq ((by first|exact zu rfl|exact zl rfl)) ?_;refine gz2 ?_;refine dq (zO (h:=eSs b.League.Teams) zq rfl rfl rfl) ?_;refine gz1 ?_;refine dq (uCl zfX rfl (zC uS)) ?_;refine gz3 ?_;refine uCo (fun h3=> ?_) fun h4=> ?_
 refine gz4 ?_;refine uRp ?_;unfold zc7
 simp_all
 refine gz2 ?_;refine dq (uCl zlk rfl zcB) ?_;refine gz3 ?_;refine uGr rfl (fun hc=>uCl zkb rfl zbz) ?_;refine gz4 ?_;refine uCo (fun h5=> ?_) fun h6=> ?_
 refine gz4 ?_;refine uRp ?_;unfold zc7
 simp_all
 refine gz7 ?_;refine uRp ?_;unfold zc7
 simp_all
theorem zmp [Tracks] {b:BookS} {n w f:Int} {t:Str} (hl:b.Choices.length<=1000000):ConP prog 73 [zjw b n,.str t,.int .i64 w,.int .i64 f] (pCh (zwY b.Choices t w n f)):=by
 refine uOb func73 ntmps73 ?_;refine zau ?_;refine dq (zO (h:= .vptr (zb (zbx b)) 0) zcU rfl rfl rfl) ?_;refine dq ((by first|exact zu rfl|exact zl rfl)) ?_;refine gz1 ?_;refine dq (zO (h:=zkf b.Choices) zge rfl rfl rfl) ?_;refine dq (zao (f:=zam) (l:=b.Choices) zge rfl) ?_;refine gz3 ?_;refine uU2 [9,3,18,43] (fun (k:Nat) (o:Option ChoiceS)=>[(18,.int .i64 k),(9,pCh o)]) (fun (k:Nat) (o:Option ChoiceS)=>[]) (fun (k:Nat) (o:Option ChoiceS)=>k<=b.Choices.length/\(zwY b.Choices t w n f=zoO t w n f o (b.Choices.drop k))) (fun (k:Nat) (o:Option ChoiceS)=>b.Choices.length-k) (0) (none) ?_ ?_;exact ⟨Ad _,rfl⟩;rintro k o ⟨hk,hg⟩;refine gz4 ?_;refine uCo (fun h1=> ?_) fun h2=> ?_
 obtain ⟨x,hx⟩: ∃x,b.Choices[k]? =some x:=⟨_,Aa h1⟩
 have hdx:=zi hx;rw [hdx] at hg;refine zau ?_;refine dq (zO (h:= .vptr (zb (zbx b)) 0) zcU rfl rfl rfl) ?_;refine dq ((by first|exact zu rfl|exact zl rfl)) ?_;refine gz1 ?_;refine dq (zO (h:=zkf b.Choices) zge rfl rfl rfl) ?_;refine gz1 ?_;refine dq (zy (f:=zam) (l:=b.Choices) (j:=k) (a:=x) zge zeo rfl rfl rfl hx) ?_;refine gz2 ?_;refine uDr mixed ?_;refine gz1 ?_;refine uB 1 rfl ((by first|exact zu rfl|exact zl rfl)) ?_;refine gz6 ?_;refine uGy 8 rfl rfl (fun hc=>(by first|exact zu rfl|exact zl rfl)) ?_;refine gz7 ?_;refine uGy 16 rfl rfl (fun hc=>(by first|exact zu rfl|exact zl rfl)) ?_;refine gz8 ?_;refine uGy 25 rfl rfl (fun hc=>(by first|exact zu rfl|exact zl rfl)) ?_;refine gz6 ?_;refine uCo (fun h3=> ?_) fun h4=> ?_
 refine zau ?_;exact ⟨k+1,some x,⟨by omega,by rw [hg,zoO,if_pos (by simp_all [zqI])]⟩,uD,⟨rfl,rfl,trivial⟩,uK,Ac _⟩;refine gz7 ?_;exact ⟨k+1,o,⟨by omega,by rw [hg,zoO,if_neg (by simp_all [zqI])]⟩,uD,⟨rfl,rfl,trivial⟩,uK,Ac _⟩;have hnk:b.Choices.length<=k:=by omega
 obtain rfl:k=b.Choices.length:=by omega
 rw [zH (Af _)] at hg;refine gz2 ?_;refine zM ?_;refine gz7 ?_;refine zw rfl ?_;rw [hg];rfl
theorem zmq [Tracks] {x:PlayerS} {s:Str}:ConP prog 164 [zeL x,.str s] (.int .i64 (zV x.Key s)):=by
 refine uOb func164 ntmps164 ?_;refine gz8 ?_;refine dq (uCl zcf rfl zL) ?_;refine gz3 ?_;refine zw rfl ?_
 rfl
theorem znM [Tracks] {b:BookS} {n:Int} {s:Str} (hl:b.League.Players.length<=1000000) (hs:SortedS (b.League.Players.map (·.Key))):ConP prog 79 [zjw b n,.str s] (pPl (plO b.League.Players s)):=by
 refine uOb func79 ntmps79 ?_;refine gz6 ?_;refine dq (zO (h:= .vptr (zb (zbx b)) 0) zcU rfl rfl rfl) ?_;refine dq ((by first|exact zu rfl|exact zl rfl)) ?_;refine gz2 ?_;refine dq (zO (h:=zbi b.League.Players) zm3 rfl rfl rfl) ?_;refine gz5 ?_;refine dq (uCl zA0 rfl (zdO (l:=b.League.Players) zEA (fun _=>zmq) hl hs)) ?_;refine zcl ?_;refine uCo (fun h1=> ?_) fun h2=> ?_
 refine gz4 ?_;refine zw rfl ?_
 focus first
 |(rw [plO,hp3];rfl)
 |(rw [plO,zwd uSa];rfl)
 refine gz2 ?_;obtain ⟨p,hp1,hp2,hp3⟩:=zGq hs (s:=s) uSa;refine gz3 ?_;refine dq (zy (f:=zeL) (l:=b.League.Players) (j:=zbF (b.League.Players.map (·.Key)) s) (a:=p) zm3 zeF rfl rfl rfl hp1) ?_;refine gz3 ?_;refine zw rfl ?_
 focus first
 |(rw [plO,hp3];rfl)
 |(rw [plO,zwd uSa];rfl)
end
end Go.Proofs.YtbmggbfabohegaaGreatDoor
namespace Go.HL
section
structure OutS where
 Points:Int
 Weight:Int
abbrev most:Int:=1000000000000
end
section
abbrev NW:=List (Int×Int)
def one (p:Int×Int) (O:List OutS):NW:=O.map fun o=>(p.1+o.Points,p.2*o.Weight)
def tot:NW->Int
 |[]=>0
 |p::r=>p.2+tot r
def PosW (L:NW):Prop:= ∀p∈L,1<=p.2
theorem PosW.tot {L:NW} (h:PosW L):0<=tot L:=by
 induction L with
 |nil=>simp [HL.tot]
 |cons p L ih=>
   have:=ih fun q hq=>h q (Am _ hq)
   have:=h p Aj;simp only [HL.tot];omega
theorem PosW.le {L:NW} (h:PosW L) {p:Int×Int} (hp:p∈L):p.2<=HL.tot L:=by
 induction L with
 |nil=>cases hp
 |cons q L ih=>
   have hL:PosW L:=fun q hq=>h q (Am _ hq)
   have h1:=hL.tot;have h2:=h q Aj
   rcases List.mem_cons.1 hp with rfl|hp
   simp only [HL.tot];omega;have:=ih hL hp;simp only [HL.tot];omega
theorem PosW.alk {L:NW} (h:PosW L) (k:Int):0<=(alk k L).getD 0/\(alk k L).getD 0<=HL.tot L:=by
 cases hq:HL.alk k L with
 |none=>have:=h.tot;simp;omega
 |some v=>
   have hm:=zbO hq;have h1:=h _ hm;have h2:=h.le hm;simp only [B8];simp only at h1 h2
   omega
theorem PosW.one {p:Int×Int} (hp:1<=p.2) {O:List OutS} (hO: ∀y∈O,1<=y.Weight):PosW (HL.one p O):=fun q hq=>by
 obtain ⟨o,ho,rfl⟩:=List.mem_map.1 hq;have:=hO o ho;have:1*1<=p.2*o.Weight:=Int.mul_le_mul hp this (by decide) (by omega)
 dsimp only;omega
end
section
structure FracS where
 Num:Int
 Den:Int
abbrev zkM (x:FracS):HVal:= .agg [.int .i64 x.Num,.int .i64 x.Den]
def zfx (a b:Int):Int:=(Nat.gcd a.toNat b.toNat:Nat)
def zpW (n d:Int):FracS:=⟨n.tdiv (zfx (max n (-n)) d),d.tdiv (zfx (max n (-n)) d)⟩
theorem zzJ {a b:Int} (ha:0<=a) (hb:0<b):zfx b (a.tmod b)=zfx a b:=by
 unfold zfx
 congr 1
 have e:(a.tmod b).toNat=a.toNat%b.toNat:=by
  rw [Int.tmod_eq_emod_of_nonneg ha];have h1:=Int.toNat_emod ha (by omega:0<=b);exact h1
 rw [e,Nat.gcd_comm b.toNat,<-Nat.gcd_rec,Nat.gcd_comm]
theorem zzI {a:Int} (ha:0<=a):zfx a 0=a:=by
 unfold zfx;simp;omega
theorem zvW {a b:Int} (hb:0<b):0<zfx a b:=by
 unfold zfx;have:=Nat.gcd_pos_of_pos_right a.toNat (n:=b.toNat) (by omega)
 omega
end
section
def PosO (Y:List OutS):Prop:= ∀q∈Y,1<=q.Weight
theorem PosO.take {Y:List OutS} (h:PosO Y) (k:Nat):PosO (Y.take k):=fun x hx=>h x (AL hx)
def IncO (Y:List OutS):Prop:=Y.Pairwise fun a b=>a.Points<b.Points
theorem IncO.drop {Y:List OutS} (h:IncO Y) {i:Nat} {n:Int} {q:OutS} (hq:Y[i]? =some q) (hn:n<=q.Points): ∀x∈Y.drop i,n<=x.Points:=by
 intro x hx
 have hi:i<Y.length:=(List.getElem?_eq_some_iff.1 hq).1;have he:Y[i]=q:=(List.getElem?_eq_some_iff.1 hq).2;rw [BL hi,he] at hx
 rcases List.mem_cons.1 hx with rfl|hx
 exact hn;have hp:(Y.drop i).Pairwise fun a b=>a.Points<b.Points:=Cs (List.drop_sublist i Y) h
 rw [BL hi,he] at hp;have:=(List.pairwise_cons.1 hp).1 x hx
 omega
end
section

end
section
theorem zxa {a b:Int} (hb:0<=b):zfx a b∣b:=by
 have h:((Nat.gcd a.toNat b.toNat:Nat):Int)∣(b.toNat:Int):=Int.ofNat_dvd.2 (Nat.gcd_dvd_right _ _);rw [Int.toNat_of_nonneg hb] at h;exact h
theorem zw9 {a b:Int} (ha:0<=a):zfx a b∣a:=by
 have h:((Nat.gcd a.toNat b.toNat:Nat):Int)∣(a.toNat:Int):=Int.ofNat_dvd.2 (Nat.gcd_dvd_left _ _);rw [Int.toNat_of_nonneg ha] at h;exact h
theorem zz0 {w T:Int} (hT:0<T): ∃g,0<g/\w=(zpW w T).Num*g/\T=(zpW w T).Den*g/\0<(zpW w T).Den:=by
 have hg:=zvW (a:=max w (-w)) hT;have h1:zfx (max w (-w)) T∣T:=zxa (by omega);have h2:zfx (max w (-w)) T∣w:=by
  have h:=zw9 (a:=max w (-w)) (b:=T) (by omega)
  by_cases c:0<=w
  have e:max w (-w)=w:=by omega
  rw [e] at h⊢;exact h;have e:max w (-w)= -w:=by omega
  rw [e] at h⊢;exact (Int.dvd_neg).1 h
 have e2:T=(zpW w T).Den*zfx (max w (-w)) T:=(Int.tdiv_mul_cancel h1).symm;refine ⟨_,hg,(Int.tdiv_mul_cancel h2).symm,e2,?_⟩
 refine Decidable.not_not.1 fun hn=> ?_
 have:(zpW w T).Den*zfx (max w (-w)) T<=0:=Int.mul_nonpos_of_nonpos_of_nonneg (by omega) (by omega)
 omega
end
section

end
section
theorem zvv {n:Int}:(if-n>n then-n else n)=max n (-n):=by split<;>omega
end
section

end
section

end
section

end
section

end
section

end
section

end
section

end
section

end
section

end
section
section
variable {α:Type} (rB:Str->Bool) (rP:Str->α) (F:List α->Int) (W:α->List Str) (enc:α->HVal) (sz:Nat)
end
end
section

end
section

end
section
theorem zov {m:List MendS} {week:Int} (h:zbE m=0):zbE (zgb m week)=0:=by
 obtain ⟨h1,h2,h3⟩:=zsz h;have hl:=zkl m week;unfold zbE;rw [if_neg (by omega)];exact zqw zhp (fun x hx=>h2 x (List.mem_filter.1 hx).1) (h3.filter _) _ 0 rfl
theorem zpU {l:List Play} {t:List Str} {m:List MendS} {week n:Int} (hok: ∀x∈l,playFault x=0) (hl:l.length<=15) (hm:m.length<=24) (hw:zaV week=true) (hm0:zbE m=0):zax (knL l t m week n)=0/\(knL l t m week n).length<=40/\∀y∈knL l t m week n,y.Stats.length<=40:=by
 unfold knL
 split
 exact ⟨rfl,by simp,fun y hy=>by cases hy⟩
 rename_i h0
 have h0':zhW l t week n=0:=by simpa using h0
 have h40:=zpV (t:=t) (week:=week) (n:=n) hok hl hm;have h1:=zqO (zdT l t week n) m n;have h2:=(zkj (t:=t) (week:=week) (n:=n) hok hl).1;refine ⟨zyE (zlv hok hl hw h0') hm0 h40 (by omega),by unfold mdL;rw [za8,Ah];omega,fun y hy=> ?_⟩
 unfold mdL at hy;rw [zej] at hy;obtain ⟨q,hq,rfl⟩:=List.mem_map.1 hy;have:=h40 q hq
 show (zaj zbc q.2).length<=40
 rw [za8];omega
end
section
open Go
structure WhS where
 team:Str
 hurt:Bool
 dropped:Int
structure OffS where
 W:List (Str×WhS)
 A:List (Str×List Int)
def wh0:WhS:=⟨[],false,-1⟩
def ofO (o:OffS) (p:Str):WhS:=(alk p o.W).getD wh0
def zAR (o:OffS) (t:Str):List Int:=(alk t o.A).getD []
end
section
open Go
structure OffW (n:Nat) (o:OffS):Prop where
 dr: ∀p,-1<=(ofO o p).dropped/\(ofO o p).dropped<=345686399999
 al: ∀t,(zAR o t).length<=n
 ab: ∀t,∀m∈zAR o t,0<=m/\m<=345686399999
 wl:o.W.length<=n
 nd:ANodup o.W
 ad:ANodup o.A
theorem OffW.mono {n m:Nat} {o:OffS} (h:OffW n o) (hm:n<=m):OffW m o:=⟨h.dr,fun t=>Aq (h.al t) hm,h.ab,Aq h.wl hm,h.nd,h.ad⟩
section
variable {e:Env} {β:Type} {eb:β->HVal}
end
end
section
open Go
end
section
open Go
end
section
open Go
end
section
open Go
section
variable {b:BookS} {own:List Str} {s:Str} {x:SlotS} {w:Int} {p:PlayerS}
variable {c:ChoiceS} {i:Nat} {v:Str}
end
end
section
open Go Op
structure ScorerS where
 Player:Str
 Positions:List Str
 Num:Int
 Den:Int
 Played:Bool
structure FillS where
 Slot:Str
 Player:Str
abbrev za6 (x:ScorerS):HVal:= .agg [.str x.Player,eSs x.Positions,.int .i64 x.Num,.int .i64 x.Den,.bool x.Played]
abbrev za3 (l:List ScorerS):HVal:= .slice 5 (l.map za6)
abbrev zaF (x:FillS):HVal:= .agg [.str x.Slot,.str x.Player]
abbrev zhR (l:List FillS):HVal:= .slice 2 (l.map zaF)
def zR:ScorerS:=⟨[],[],0,0,false⟩
def zet (n d:Int):Int:=n*(100:Int).tdiv d
abbrev ofH (n:Int):FracS:=zpW n 100
theorem zwa (n:Int): ∃g,1<=g/\n=(ofH n).Num*g/\100=(ofH n).Den*g/\1<=(ofH n).Den/\(100:Int).tdiv (ofH n).Den=g:=by
 obtain ⟨g,hg,e1,e2,h0⟩:=zz0 (w:=n) (T:=100) (by decide);refine ⟨g,hg,e1,e2,h0,?_⟩
 conv=>lhs;rw [e2]
 exact Int.mul_tdiv_cancel_left g (by omega)
theorem zBR {a g B:Int} (hg:1<=g) (h: -B<=a*g/\a*g<=B): -B<=a/\a<=B:=by
 by_cases c:0<=a
 have:=Bf hg c
 omega
 have:=Bf hg (show 0<= -a by omega);rw [Bu,Bu] at this
 omega
theorem zDz {n B:Int} (h: -B<=n/\n<=B):(1<=(ofH n).Den/\(ofH n).Den<=100)/\ -B<=(ofH n).Num/\(ofH n).Num<=B:=by
 obtain ⟨g,hg,e1,e2,h0,_⟩:=zwa n;have h2:=zBR (a:=(ofH n).Num) hg (B:=B) (by rw [<-e1];exact h);have h3:=Bf hg (show 0<=(ofH n).Den by omega);exact ⟨⟨h0,by omega⟩,h2⟩
theorem zoL {n d m:Int} (h:zby n d m=0) (hm:0<=m):(1<=d/\d<=100)/\(0<=(100:Int).tdiv d/\(100:Int).tdiv d<=100)/\ -(m*100)<=zet n d/\zet n d<=m*100:=by
 unfold zby at h
 split at h
 cases h
 rename_i h1
 rw [not_or] at h1
 split at h
 cases h
 rename_i h2
 rw [not_or] at h2;have hd:1<=d:=by omega
 have h3:(100:Int).tmod d=0:=Decidable.not_not.1 h2.1;have h4:out n (-m*d) (m*d)=false:=by simpa using h2.2
 have h5: -m*d<=n/\n<=m*d:=by
  have e0: -m*d= -(m*d):=Bu _ _;rw [e0] at h4⊢;unfold out at h4;simp at h4;omega
 have e:=Int.tdiv_mul_cancel_of_tmod_eq_zero h3;have hq:0<=(100:Int).tdiv d:=Cf (by decide) (by omega);have hq1:1<=(100:Int).tdiv d:=by
  refine Decidable.not_not.1 fun hn=> ?_
  have:(100:Int).tdiv d=0:=by omega
  rw [this] at e;simp at e
 have hq2:=Bf hd hq;have hd2:=BV hq1 (show 0<=d by omega);have h6:=BV h5.1 hq;have h7:=BV h5.2 hq;have e2:m*d*(100:Int).tdiv d=m*100:=by rw [Int.mul_assoc,Int.mul_comm d,e]
 have e3: -m*d*(100:Int).tdiv d= -(m*100):=by rw [Bu,Bu,e2]
 rw [e2] at h7;rw [e3] at h6;refine ⟨⟨hd,by omega⟩,⟨hq,by omega⟩,?_⟩
 unfold zet;exact ⟨h6,h7⟩
/-! what rules give-/
def zdk (s:Str) (n:Int):List StatS->Int
 |[]=>n
 |y::r=>zdk s (if y.Name=s then y.Count else n) r
def zhg (r:RuleS) (pos:List Str) (x:LineS):Int:=
 if r.Position≠[]/\zhQ [r.Position] pos=false then 0
 else if r.Kind=1 then zet r.Num r.Den*zdk r.Stat 0 x.Stats
 else if r.Kind=2 then zet r.Num r.Den*(max (zdk r.Stat 0 x.Stats) 0).tdiv r.Many
 else if (r.Kind=3/\r.Many<=zdk r.Stat 0 x.Stats)\/(r.Kind=4/\zdk r.Stat 0 x.Stats=0) then zet r.Num r.Den else 0
def zhj (R:List RuleS) (pos:List Str) (x:LineS):Int:=(R.map fun r=>zhg r pos x).sum
structure RuleOk (r:RuleS):Prop where
 kd:1<=r.Kind/\r.Kind<=4
 mm:r.Kind=2->1<=r.Many/\r.Many<=100000
 dn:1<=r.Den/\r.Den<=100
 q:0<=(100:Int).tdiv r.Den/\(100:Int).tdiv r.Den<=100
 w: -1000000<=zet r.Num r.Den/\zet r.Num r.Den<=1000000
theorem zy3 {R:List RuleS} (h:zgG R=0):R.length<=100/\∀r∈R,RuleOk r:=by
 obtain ⟨h1,h2⟩:=zgu h;refine ⟨h1,fun r hr=> ?_⟩
 obtain ⟨i,hi,rfl⟩:=AT hr;have h3:=h2 i _ (Aa hi);unfold zdY at h3
 split at h3
 cases h3
 split at h3
 cases h3
 split at h3
 cases h3
 rename_i h4
 split at h3
 cases h3
 rename_i h5
 rw [not_or] at h5;have h6:=zoL h3 (by decide);have h7:1<=R[i].Kind/\R[i].Kind<=4:=by unfold out at h4;simp at h4;omega
 refine ⟨h7,fun e=> ?_,h6.1,h6.2.1,h6.2.2⟩
 have h8:zqN R[i].Kind=true:=by rw [e];rfl
 have h9:out R[i].Many 1 100000=false:=by
  cases hq:out R[i].Many 1 100000 with
  |false=>rfl
  |true=>exact absurd ⟨h8,hq⟩ h5.1
 unfold out at h9;simp at h9;omega
theorem zvN (s:Str): ∀(l:List StatS) (n:Int),(∀y∈l,-100000<=y.Count/\y.Count<=100000)->(-100000<=n/\n<=100000)-> -100000<=zdk s n l/\zdk s n l<=100000
 |[],n,_,h=>h
 |y::r,n,hl,h=>by
   refine zvN s r _ (fun z hz=>hl z (Am _ hz)) ?_
   split
   exact hl y Aj;exact h
theorem zya {s:Str} {l:List StatS} {k:Nat} {n:Int} {y:StatS} (h:l[k]? =some y):zdk s n (l.drop k)=zdk s (if y.Name=s then y.Count else n) (l.drop (k+1)):=by
 rw [zi h];rfl
theorem zv7 {a b A B:Int} (ha: -A<=a/\a<=A) (hb: -B<=b/\b<=B) (hA:0<=A) (hB:0<=B): -(A*B)<=a*b/\a*b<=A*B:=by
 have key: ∀x y:Int,0<=x->x<=A->0<=y->y<=B->0<=x*y/\x*y<=A*B:=fun x y h1 h2 h3 h4=>⟨Int.mul_nonneg h1 h3,Int.mul_le_mul h2 h4 h3 hA⟩
 by_cases c:0<=a<;>by_cases d:0<=b
 have:=key a b c ha.2 d hb.2;omega;have:=key a (-b) c ha.2 (by omega) (by omega);rw [Int.mul_neg] at this;omega;have:=key (-a) b (by omega) (by omega) d hb.2;rw [Bu] at this;omega;have:=key (-a) (-b) (by omega) (by omega) (by omega) (by omega);rw [Int.neg_mul_neg] at this;omega
theorem zC0 {a b:Int} (ha:0<=a) (hb:1<=b):0<=a.tdiv b/\a.tdiv b<=a:=by
 refine ⟨Cf ha (by omega),?_⟩
 have h:=Cf ha (show 0<=b by omega);have h1:=Bf hb h;have h2:=Int.mul_tdiv_add_tmod a b;have h3:=Cv b ha;rw [Int.mul_comm b] at h2
 omega
def zkF (x:LineS):Prop:= ∀y∈x.Stats,-100000<=y.Count/\y.Count<=100000
theorem zsh {r:RuleS} (hr:RuleOk r) {x:LineS} (hx:zkF x):(-100000<=zdk r.Stat 0 x.Stats/\zdk r.Stat 0 x.Stats<=100000)/\(-100000000000<=zet r.Num r.Den*zdk r.Stat 0 x.Stats/\zet r.Num r.Den*zdk r.Stat 0 x.Stats<=100000000000)/\
 (r.Kind=2->(0<=(max (zdk r.Stat 0 x.Stats) 0).tdiv r.Many/\(max (zdk r.Stat 0 x.Stats) 0).tdiv r.Many<=100000)/\ -100000000000<=zet r.Num r.Den*(max (zdk r.Stat 0 x.Stats) 0).tdiv r.Many/\zet r.Num r.Den*(max (zdk r.Stat 0 x.Stats) 0).tdiv r.Many<=100000000000):=by
 have h1:=zvN r.Stat x.Stats 0 hx (by omega);have h2:=zv7 hr.w h1 (by decide) (by decide);refine ⟨h1,by omega,fun e=> ?_⟩
 have h3:=zC0 (a:=max (zdk r.Stat 0 x.Stats) 0) (by omega) (hr.mm e).1;have h4:0<=(max (zdk r.Stat 0 x.Stats) 0).tdiv r.Many/\(max (zdk r.Stat 0 x.Stats) 0).tdiv r.Many<=100000:=by omega
 have h5:=zv7 hr.w (b:=(max (zdk r.Stat 0 x.Stats) 0).tdiv r.Many) (B:=100000) (by omega) (by decide) (by decide);exact ⟨h4,by omega⟩
theorem zDg {r:RuleS} (hr:RuleOk r) {x:LineS} (hx:zkF x) (pos:List Str): -100000000000<=zhg r pos x/\zhg r pos x<=100000000000:=by
 obtain ⟨h1,h2,h3⟩:=zsh hr hx;have h4:=hr.w;unfold zhg
 split
 omega
 split
 exact h2
 split
 rename_i e;exact (h3 e).2
 split<;>omega
theorem zwt {l:List Int} {B:Int} (h: ∀x∈l,-B<=x/\x<=B) (hB:0<=B): -(B*l.length)<=l.sum/\l.sum<=B*l.length:=by
 induction l with
 |nil=>simp
 |cons x r ih=>
   have h1:=h x Aj;have h2:=ih fun y hy=>h y (Am _ hy)
   rw [List.sum_cons,Ai];have e:B*((r.length+1:Nat):Int)=B*r.length+B:=by rw [Int.natCast_add,Int.mul_add];simp
   rw [e];omega
theorem zuV {R:List RuleS} {pos:List Str} {x:LineS} {k:Nat} {r:RuleS} (h:R[k]? =some r):zhj (R.take (k+1)) pos x=zhj (R.take k) pos x+zhg r pos x:=by
 unfold zhj;rw [z6 h];simp
theorem zq3 {R:List RuleS} (hl:R.length<=100) (hR: ∀r∈R,RuleOk r) {x:LineS} (hx:zkF x) (pos:List Str) (k:Nat): -10000000000000<=zhj (R.take k) pos x/\zhj (R.take k) pos x<=10000000000000:=by
 have h:=zwt (l:=(R.take k).map fun r=>zhg r pos x) (B:=100000000000) (fun y hy=>by
  obtain ⟨r,hr,rfl⟩:=List.mem_map.1 hy;exact zDg (hR r (AL hr)) hx pos) (by decide)
 have h2:((R.take k).map fun r=>zhg r pos x).length<=100:=by rw [Ah,AD];omega
 unfold zhj
 omega
theorem zyR {l:List Str} (h:zdc l=0):l.length<=10/\zdI l=0:=by
 unfold zdc at h
 split at h
 cases h
 split at h
 cases h
 exact ⟨by omega,h⟩
/-! right lines-/
structure LineOk (x:LineS):Prop where
 ky:key x.Player=true
 wk:zaV x.Week=true
 st:za5 x.Stats=0
theorem zv4 {l:List LineS} (h:zax l=0) {x:LineS} (hx:x∈l):LineOk x:=by
 obtain ⟨h1,h2,h3⟩:=zeP.1 ((zgt h).2.1 x hx);exact ⟨h1,h2,h3⟩
theorem LineOk.len {x:LineS} (h:LineOk x):x.Stats.length<=40:=by
 have:=h.st;unfold za5 at this;split at this
 cases this
 omega
theorem LineOk.go {x:LineS} (h:LineOk x):zaR zah zbc zdZ x.Stats 0 x.Stats=0:=by
 have:=h.st;unfold za5 at this;split at this
 cases this
 exact this
theorem LineOk.sb {x:LineS} (h:LineOk x):zkF x:=fun y hy=>(zeS.1 (zhy x.Stats 0 h.go y hy)).2.1
theorem zzX {a b:Str} (h:bytesLess a b=true):leB b a=false:=by
 unfold leB;rw [A6];refine ⟨?_,?_⟩
 cases e:bytesLess b a with
 |false=>rfl
 |true=>have:=zhA.2 h;have h2:=zhA.2 e;have h3:=zeX a b;omega
 cases e:(b==a) with
 |false=>rfl
 |true=>have e2:b=a:=eq_of_beq e;rw [e2,zac] at h;cases h
theorem LineOk.at {x:LineS} (h:LineOk x) {k:Nat} {y:StatS} (hy:x.Stats[k]? =some y):key y.Name=true/\(-100000<=y.Count/\y.Count<=100000)/\(0<k->leB y.Name (x.Stats.getD (k-1) zdZ).Name=false):=by
 have h1:=zeS.1 (zhy x.Stats 0 h.go y (Ab hy));refine ⟨h1.1,h1.2.1,fun hk=> ?_⟩
 have hlt:=zn hy;have h2:=(List.pairwise_iff_getElem.1 (zju zdj h.go)) (k-1) k (by omega) hlt (by omega);rw [Aa hlt,Ay] at hy;rw [hy] at h2;have e:x.Stats.getD (k-1) zdZ=x.Stats[k-1]'(by omega):=by rw [Ae,Aa (by omega)];rfl
 rw [e];exact zzX (zhA.1 h2)
theorem zz3 {n:Int}:(if 0>n then 0 else n)=max n 0:=by split<;>omega
end
section
open Go Op
def zbK (k:Nat) (x p:ScorerS):Int:=if key x.Player=false then 5 else if 0<k/\leB x.Player p.Player=true then 7 else orI [zdc x.Positions,zby x.Num x.Den 10000]
def ziz (l:List ScorerS):Int:=zeu 20 zbK zR l
structure ScoOk (l:List ScorerS):Prop where
 len:l.length<=20
 so:SortedS (l.map (·.Player))
 ky: ∀x∈l,key x.Player=true
 dn: ∀x∈l,1<=x.Den/\x.Den<=100
 q: ∀x∈l,0<=(100:Int).tdiv x.Den/\(100:Int).tdiv x.Den<=100
 w: ∀x∈l,-1000000<=zet x.Num x.Den/\zet x.Num x.Den<=1000000
 po: ∀x∈l,x.Positions.length<=10
theorem zDJ {l:List ScorerS} (h:ziz l=0):SortedS (l.map (·.Player)):=by
 obtain ⟨_,h2⟩:=zgu h;have nx: ∀(j:Nat) (x y:Str),(l.map (·.Player))[j]? =some x->(l.map (·.Player))[j+1]? =some y->bytesLess x y=true:=by
  intro j x y hx hy
  rw [Ag] at hx hy;obtain ⟨a,ha,rfl⟩:=Option.map_eq_some_iff.1 hx;obtain ⟨b,hb,rfl⟩:=Option.map_eq_some_iff.1 hy;have:=h2 (j+1) b hb;have ed:l.getD (j+1-1) zR=a:=by rw [Nat.add_sub_cancel,Ae,ha];rfl
  rw [ed] at this;unfold zbK at this
  split at this
  omega
  split at this
  omega
  rename_i h3
  have h4:leB b.Player a.Player=false:=by
   cases e:leB b.Player a.Player with
   |false=>rfl
   |true=>exact absurd ⟨by omega,e⟩ h3
  unfold leB at h4;rw [A6] at h4
  rcases zb5 a.Player b.Player with q|q|q
  exact q;rw [q] at h4;simp at h4;rw [q] at h4;cases h4.1
 exact zl5 nx
theorem zu0 {l:List ScorerS} (h:ziz l=0):ScoOk l:=by
 obtain ⟨h1,h2⟩:=zgu h;have key1: ∀x∈l,key x.Player=true/\zdc x.Positions=0/\zby x.Num x.Den 10000=0:=fun x hx=>by
  obtain ⟨i,hi,rfl⟩:=AT hx;have h3:=h2 i _ (Aa hi);unfold zbK at h3
  split at h3
  cases h3
  rename_i h4
  split at h3
  cases h3
  have h5:=zh4 h3;exact ⟨by simpa using h4,h5 _ (by simp),h5 _ (by simp)⟩
 refine ⟨h1,zDJ h,fun x hx=>(key1 x hx).1,fun x hx=>(zoL (key1 x hx).2.2 (by decide)).1,fun x hx=>(zoL (key1 x hx).2.2 (by decide)).2.1,fun x hx=>(zoL (key1 x hx).2.2 (by decide)).2.2,fun x hx=> ?_⟩
 have h6:=(key1 x hx).2.1;unfold zdc at h6
 split at h6
 cases h6
 split at h6
 cases h6
 omega
theorem zx3 {l:List ScorerS} {s:Str} {i:Nat}:(bif decide ((i:Int)<(l.length:Int)) then zV (l.getD i zR).Player s==0 else false)=((l.map (·.Player))[i]? ==some s):=by
 by_cases h:i<l.length
 have h':(i:Int)<(l.length:Int):=by omega
 rw [Ag,getD_some (d:=zR) h];simp only [h',decide_true,cond_true];rw [AF];simp [zbm];have h': ¬(i:Int)<(l.length:Int):=by omega
 rw [Ag,Ax (by omega:l.length<=i)]
 simp [h']
/-! the scorer of a name-/
abbrev scO (l:List ScorerS) (s:Str):Option ScorerS:=l.find? (fun y=>y.Player==s)
theorem zjG {l:List ScorerS} {s:Str} (hs:SortedS (l.map (·.Player))) {y:ScorerS} (h:scO l s=some y):
 (l.map (·.Player)).contains s=true/\l[zbF (l.map (·.Player)) s]? =some y:=by
 have hm:=Bc h;have he:y.Player=s:=by have:=List.find?_some h;simpa using this
 have hc:(l.map (·.Player)).contains s=true:=by
  simp only [BK,decide_eq_true_eq];exact List.mem_map.2 ⟨y,hm,he⟩
 refine ⟨hc,?_⟩
 obtain ⟨h1,h2⟩:=zrQ hs hc;have hl:zbF (l.map (·.Player)) s<l.length:=by simpa using zn h1
 have h3:l.find? (fun y=>y.Player==s)=some (l[zbF (l.map (·.Player)) s]):=by
  rw [BX];refine ⟨?_,_,hl,rfl,fun j hj=> ?_⟩
  rw [Ag,Aa hl] at h1
  simpa using h1
  have:=h2 j (l[j]'(by omega)).Player hj (by rw [Ag,Aa (by omega)];rfl)
  simpa using this
 rw [Aa hl];exact h3.symm.trans h
theorem zgT {l:List ScorerS} {s:Str} {y:ScorerS} (h:scO l s=some y):y∈l/\y.Player=s:=⟨Bc h,by have:=List.find?_some h;simpa using this⟩
/-! who is fielded-/
abbrev zgK (c:ChoiceS) (i:Nat):Str:=c.Players.getD i []
def okF (l:List ScorerS) (c:Option ChoiceS) (S:List SlotS) (seen:List Str) (i:Nat):Bool:=
 match c with
 |none=>false
 |some c=>match scO l (zgK c i) with
   |none=>false
   |some y=> !(seen.contains (zgK c i))&&zhQ y.Positions (S.getD i zbI).Positions
def zm6 (c:Option ChoiceS) (i:Nat):Str:=match c with|none=>[]|some c=>zgK c i
def zb2 (l:List ScorerS) (c:Option ChoiceS) (S:List SlotS):Nat->List FillS×List Str
 |0=>([],[])
 |n+1=>if okF l c S (zb2 l c S n).2 n=true then ((zb2 l c S n).1++[⟨(S.getD n zbI).Key,zm6 c n⟩],zb8 (zm6 c n) (zb2 l c S n).2) else ((zb2 l c S n).1++[⟨(S.getD n zbI).Key,[]⟩],(zb2 l c S n).2)
abbrev zcY (l:List ScorerS) (c:Option ChoiceS) (S:List SlotS) (n:Nat):List FillS:=(zb2 l c S n).1
theorem zrG {l:List ScorerS} {c:Option ChoiceS} {S:List SlotS} {n:Nat} (h:okF l c S (zb2 l c S n).2 n=true):zb2 l c S (n+1)=((zb2 l c S n).1++[⟨(S.getD n zbI).Key,zm6 c n⟩],zb8 (zm6 c n) (zb2 l c S n).2):=by
 rw [zb2,if_pos h]
theorem zqD {l:List ScorerS} {c:Option ChoiceS} {S:List SlotS} {n:Nat} (h:okF l c S (zb2 l c S n).2 n=false):zb2 l c S (n+1)=((zb2 l c S n).1++[⟨(S.getD n zbI).Key,[]⟩],(zb2 l c S n).2):=by
 rw [zb2,if_neg (by rw [h];simp)]
theorem zf2 (l:List ScorerS) (c:Option ChoiceS) (S:List SlotS): ∀n,(zcY l c S n).length=n
 |0=>rfl
 |n+1=>by
   have ih:=zf2 l c S n;unfold zcY at ih⊢
   cases h:okF l c S (zb2 l c S n).2 n with
   |true=>rw [zrG h];simp [ih]
   |false=>rw [zqD h];simp [ih]
theorem zAa {l:List ScorerS} {c:Option ChoiceS} {S:List SlotS} {seen:List Str} {i:Nat} (h:okF l c S seen i=true):
 ∃y,scO l (zm6 c i)=some y/\seen.contains (zm6 c i)=false/\zhQ y.Positions (S.getD i zbI).Positions=true:=by
 unfold okF at h
 cases c with
 |none=>cases h
 |some c=>
   dsimp only at h
   cases hs:scO l (zgK c i) with
   |none=>rw [hs] at h;cases h
   |some y=>
     rw [hs] at h;simp only [A5,B0] at h;exact ⟨y,hs,h.1,h.2⟩
theorem zzP (l:List ScorerS) (w:Str): ∃(z:Int) (i0:Nat),zT (fun x:ScorerS=>x.Player==w) l 0=z/\(0<=z->z=(i0:Int)/\l[i0]? =some (l.getD i0 zR)/\scO l w=some (l.getD i0 zR))/\(z<0->scO l w=none):=by
 by_cases h:0<=zT (fun x:ScorerS=>x.Player==w) l 0
 obtain ⟨i,x,e1,e2,e3⟩:=zsm h;have e4:l.getD i zR=x:=by rw [Ae,e2];rfl
 exact ⟨_,i,rfl,fun _=>⟨e1,by rw [e4];exact e2,by rw [e4];exact e3⟩,fun q=>by omega⟩;exact ⟨_,0,rfl,fun q=>absurd q h,fun _=>zok (by omega)⟩
theorem zwb {l:List ScorerS} {c:ChoiceS} {S:List SlotS} {seen:List Str} {i:Nat} {z:Int} {i0:Nat} (h2:0<=z->z=(i0:Int)/\l[i0]? =some (l.getD i0 zR)/\scO l (zgK c i)=some (l.getD i0 zR)) (h3:z<0->scO l (zgK c i)=none):
 okF l (some c) S seen i=(decide (0<=z)&&(!(seen.contains (zgK c i))&&zhQ (l.getD i0 zR).Positions (S.getD i zbI).Positions)):=by
 unfold okF
 by_cases h:0<=z
 dsimp only
 rw [(h2 h).2.2,decide_eq_true h];rfl
 dsimp only
 rw [h3 (by omega),decide_eq_false h];rfl
structure FillOk (l:List ScorerS) (S:List SlotS) (n:Nat) (f:List FillS):Prop where
 len:f.length=n
 key: ∀(k:Nat) (x:FillS),f[k]? =some x->x.Slot=(S.getD k zbI).Key
 who: ∀(k:Nat) (x:FillS),f[k]? =some x->x.Player≠[]->(f.take k).any (fun y=>y.Player==x.Player)=false/\∃y,scO l x.Player=some y/\zhQ y.Positions (S.getD k zbI).Positions=true
theorem zB5 {l:List ScorerS} (c:Option ChoiceS) (S:List SlotS): ∀n,(∀s,s∈(zb2 l c S n).2↔s≠[]/\∃x∈zcY l c S n,x.Player=s)/\FillOk l S n (zcY l c S n)\/∃y∈l,y.Player=[]:=by
 by_cases hne: ∃y∈l,y.Player=[]
 exact fun _=> .inr hne
 intro n
 left
 have hn: ∀y∈l,y.Player≠[]:=fun y hy e=>hne ⟨y,hy,e⟩
 induction n with
 |zero=>exact ⟨fun s=>by simp [zb2,zcY],⟨rfl,fun k x h=>by simp [zcY,zb2] at h,fun k x h=>by simp [zcY,zb2] at h⟩⟩
 |succ n ih=>
   obtain ⟨hs,hf⟩:=ih;have hlen:=hf.len
   cases h:okF l c S (zb2 l c S n).2 n with
   |true=>
     obtain ⟨y,hy1,hy2,hy3⟩:=zAa h;have hw:zm6 c n≠[]:=fun e=>hn y (zgT hy1).1 ((zgT hy1).2.trans e)
     have hno:(zcY l c S n).any (fun z=>z.Player==zm6 c n)=false:=by
      rw [BH]
      intro z hz e
      have:zm6 c n∈(zb2 l c S n).2:=(hs _).2 ⟨hw,z,hz,by simpa using e⟩;rw [BK,decide_eq_false_iff_not] at hy2;exact hy2 this
     unfold zcY at hno hlen⊢;rw [zrG h];refine ⟨fun s=> ?_,?_,?_,?_⟩
     dsimp only
     rw [zAG,hs s]
     constructor
     rintro (rfl|⟨a,x,hx,e⟩);exact ⟨hw,_,Bt _ (List.mem_singleton.2 rfl),rfl⟩;exact ⟨a,x,Ap _ hx,e⟩;rintro ⟨a,x,hx,e⟩
     rcases List.mem_append.1 hx with hx|hx
     exact .inr ⟨a,x,hx,e⟩;rw [List.mem_singleton.1 hx] at e;exact .inl e.symm;rw [Av,hlen];rfl
     intro k x hx
     by_cases hk:k<n
     rw [An (by omega)] at hx;exact hf.key k x hx;have:k=n:=by have:=zn hx;rw [Av,hlen] at this;simp at this;omega
     subst this;rw [Al (by omega),hlen,B4] at hx
     cases hx;rfl
     intro k x hx hp
     by_cases hk:k<n
     rw [An (by omega)] at hx;rw [A2 (by omega)];exact hf.who k x hx hp;have:k=n:=by have:=zn hx;rw [Av,hlen] at this;simp at this;omega
     subst this;rw [Al (by omega),hlen,B4] at hx
     cases hx
     rw [A2 (by omega),AZ (by omega)];exact ⟨hno,y,hy1,hy3⟩
   |false=>
     unfold zcY at hlen⊢;rw [zqD h];refine ⟨fun s=> ?_,?_,?_,?_⟩
     dsimp only
     rw [hs s]
     constructor
     rintro ⟨a,x,hx,e⟩;exact ⟨a,x,Ap _ hx,e⟩;rintro ⟨a,x,hx,e⟩
     rcases List.mem_append.1 hx with hx|hx
     exact ⟨a,x,hx,e⟩;rw [List.mem_singleton.1 hx] at e;exact absurd e.symm a;rw [Av,hlen];rfl
     intro k x hx
     by_cases hk:k<n
     rw [An (by omega)] at hx;exact hf.key k x hx;have:k=n:=by have:=zn hx;rw [Av,hlen] at this;simp at this;omega
     subst this;rw [Al (by omega),hlen,B4] at hx
     cases hx;rfl
     intro k x hx hp
     by_cases hk:k<n
     rw [An (by omega)] at hx;rw [A2 (by omega)];exact hf.who k x hx hp;have:k=n:=by have:=zn hx;rw [Av,hlen] at this;simp at this;omega
     subst this;rw [Al (by omega),hlen,B4] at hx
     cases hx
     exact absurd rfl hp
theorem zuo {l:List ScorerS} (h:ScoOk l) (c:Option ChoiceS) (S:List SlotS) (n:Nat):FillOk l S n (zcY l c S n):=by
 rcases zB5 (l:=l) c S n with q|⟨y,hy,e⟩
 exact q.2;exact absurd e (zuu (h.ky y hy))
/-! captains and sums-/
def zn0 (c:Option ChoiceS) (f:List FillS):Str:=
 match c with
 |none=>[]
 |some c=>if c.Captain≠[]/\f.any (fun x=>x.Player==c.Captain)=true then c.Captain else []
theorem zC6 {c:Option ChoiceS} {f:List FillS} (h:zn0 c f≠[]):f.any (fun x=>x.Player==zn0 c f)=true:=by
 unfold zn0 at h⊢
 cases c with
 |none=>exact absurd rfl h
 |some c=>
   dsimp only at h⊢
   split
   rename_i q;exact q.2
   rename_i q;rw [if_neg q] at h;exact absurd rfl h
def zls (l:List ScorerS) (s:Str):Int:=((scO l s).map fun y=>zet y.Num y.Den).getD 0
def ziC (l:List ScorerS) (c:Str) (x:FillS):Int:=if x.Player=[] then 0 else if x.Player=c then zls l x.Player*2 else zls l x.Player
def sfL (l:List ScorerS) (f:List FillS) (c:Str):Int:=(f.map (ziC l c)).sum
theorem zrZ {l:List ScorerS} {f:List FillS} {c:Str} {k:Nat} {x:FillS} (h:f[k]? =some x):sfL l (f.take (k+1)) c=sfL l (f.take k) c+ziC l c x:=by
 unfold sfL;rw [z6 h];simp
theorem zB9 {l:List ScorerS} (h:ScoOk l) (s:Str): -1000000<=zls l s/\zls l s<=1000000:=by
 unfold zls
 cases e:scO l s with
 |none=>simp
 |some y=>exact h.w y (zgT e).1
theorem zCY {l:List ScorerS} (h:ScoOk l) (c:Str) (x:FillS): -2000000<=ziC l c x/\ziC l c x<=2000000:=by
 have:=zB9 h x.Player;unfold ziC
 split
 omega
 split<;>omega
theorem zxC {l:List ScorerS} (h:ScoOk l) {f:List FillS} (hf:f.length<=12) (c:Str) (k:Nat): -24000000<=sfL l (f.take k) c/\sfL l (f.take k) c<=24000000:=by
 have h1:=zwt (l:=(f.take k).map (ziC l c)) (B:=2000000) (fun y hy=>by
  obtain ⟨x,_,rfl⟩:=List.mem_map.1 hy;exact zCY h c x) (by decide)
 have h2:((f.take k).map (ziC l c)).length<=12:=by rw [Ah,AD];omega
 unfold sfL
 omega
end
section
section
variable {P:Program} {e:Env} {dst:Option Tmp} {ty:TypeId} {pos:String} {af:Array Edge} {g:Option (Nat×Bool)}
theorem zwf [Tracks] {x y:Operand} {t t' el:TypeId} {size bytes:Nat} {zero:Value} {o:Option (List HVal)} (hf:Fits P t (.ptr el) size bytes zero) (hx:zh e x=some (zow o)) (hy:zh e y=some (.raw (.pointer none))):
 POp P e ⟨dst,.binOp .neq t x y t',ty,pos,af,g⟩ (.bool (!o.isNone)):=
 zB fun I a w ho=>by
  have hv:=ho.one (x:=x) (by simp [Op.operands]) hx;have h2:=(ho.one (x:=y) (by simp [Op.operands]) hy).raw_inv
  cases o with
  |none=>
    have h1:=hv.raw_inv;refine ⟨_,?_,.bool _⟩
    simp [execOp,h1,h2,eqGuard,binOp,ze9 hf.ptrD]
  |some cs=>
    obtain ⟨b,base,rc,el',fr,h1,h3,h4,h5⟩:=hv.vptr_inv;refine ⟨_,?_,.bool _⟩
    simp [execOp,h1,h2,eqGuard,binOp,ze9 hf.ptrD]
end
theorem zwW (o:Option (List HVal)):zb (zow o)=[zow o]:=by cases o<;>rfl
theorem zym (o:Option (List HVal)):zar (zb (zow o))=true:=by cases o<;>rfl
theorem zCy (o:Option (List HVal)):zdU 1 (zow o)=true:=by cases o<;>rfl
end
end Go.HL
namespace Go.Proofs.YtbmggbfabohegaaGreatDoor
set_option maxRecDepth 100000
set_option linter.unusedVariables false
set_option linter.unusedSimpArgs false
section
open Go.Proofs.Tryz
open Go.HL
theorem zqh [Tracks] {n d:Int} (hn: -1000000000000000<=n/\n<=1000000000000000) (hd:1<=d/\d<=1000000000000):ConP prog 233 [.agg [.int .i64 n,.int .i64 d]] (.bool (zmN n d)):=by
 refine uOb func233 ntmps233 ?_;refine gz4 ?_;refine uDr mixed ?_;refine gz2 ?_;refine uB 2 rfl (zU (zcd ty3 zo7 rfl) (congrArg (HVal.int .u64) (ztL uO uO))) ?_;refine gz2 ?_;refine uB 5 rfl (zU (zcd ty3 zo7 rfl) (congrArg (HVal.int .u64) (show IntKind.wrap .u64 d=((d.natAbs:Nat):Int) by rw [ztL uO uO,if_neg uO];omega))) ?_;refine gz3 ?_;refine uVj [3,1,11,5] (fun (z0:Unit)=>[(3,.int .u64 ((n.natAbs:Nat):Int))]) (fun (z0:Unit)=>[]) (fun (z0:Unit)=>True) ?_ ?_
 skip
 refine gz5 ?_;refine uCo (fun h1=> ?_) fun h2=> ?_
 refine gz2 ?_;refine dq (zU (zuR rfl) (congrArg (HVal.int .u64) (show IntKind.wrap .u64 (-(if n<0 then n+18446744073709551616 else n))=((n.natAbs:Nat):Int) by rw [if_pos (by assumption),zzf uO uO];omega))) ?_;refine gz2 ?_;exact ⟨(),trivial,⟨rfl,trivial⟩,uK,Ac _⟩;refine gz1 ?_;exact ⟨(),trivial,⟨congrArg (fun q=>some (HVal.int .u64 q)) (show (if n<0 then n+18446744073709551616 else n)=((n.natAbs:Nat):Int) by rw [if_neg uO];omega),trivial⟩,uK,Ac _⟩
 intro z0 _
 refine gz2 ?_;refine uT2 [3,2,16,6] (fun a b=>[(3,.int .u64 ((a:Nat):Int)),(4,.int .u64 ((b:Nat):Int))]) (fun a b=>[]) (fun a b=>Nat.gcd a b=Nat.gcd n.natAbs d.natAbs) (fun a b=>b) (n.natAbs) (d.natAbs) ?_ ?_
 rfl
 intro a b hg
 refine gz5 ?_;refine uCo (fun h3=> ?_) fun h4=> ?_
 have hb0:0<b:=by omega
 refine gz3 ?_;refine zia mixed ?_;refine gz3 ?_;refine uB 3 rfl (zU (zcP rfl rfl uO) (congrArg (HVal.int .u64) (zp4 a b))) ?_;refine gz4 ?_;refine ⟨b,a%b,?_,?_,⟨rfl,rfl,trivial⟩,uK,Ac _⟩
 exact zoe.trans hg
 dsimp only;exact BY _ hb0
 obtain rfl:b=0:=by omega
 rw [Nat.gcd_zero_right] at hg;refine gz2 ?_;refine zM ?_;refine gz8 ?_;refine zw rfl ?_
 show HVal.bool _=_
 unfold zmN;rw [<-hg]
 congr 1
 rw [AF]
 simp
 try omega
theorem zqe [Tracks] {n d most:Int} (hn: -1000000000000000<=n/\n<=1000000000000000) (hd: -1000000000<=d/\d<=1000000000) (hm:0<=most/\most<=1000000):ConP prog 155 [.agg [.int .i64 n,.int .i64 d],.int .i64 most] (.int .i64 (zby n d most)):=by
 refine uOb func155 ntmps155 ?_;refine zdb ?_;refine dg rfl rfl (fun hc=>by
  have hd1:1<=d:=by (have q:=hc;simp at q;omega)
  exact ⟨_,OpenTo.upd (t:=10) rfl uC (OpenTo.refl _),uCl zBp rfl (zqh (n:=n) (d:=d) uO uO)⟩) ?_
 refine gz4 ?_;refine uCo (fun h1=> ?_) fun h2=> ?_
 refine gz4 ?_;refine uRp ?_;unfold zby
 focus first
 |(rw [if_pos uSa];done)
 |(rw [if_neg uSa,if_pos uSa];done)
 |(rw [if_neg uSa,if_neg uSa];done)
 have hd1:1<=d:=by (first|omega|(simp_all;omega))
 have hmd:=zqS (a:=most) (b:=d) (A:=1000000) (B:=1000000000) uO uO uO uO;have hmn: -most*d= -(most*d):=Bu _ _;refine gz3 ?_;refine dq (zcP rfl rfl uO) ?_;refine gz5 ?_;refine uGr rfl (fun hc=>by have hq:=hc;(try simp at hq);exact zi7 rfl uO uO) ?_;refine gz2 ?_;refine uGr rfl (fun hc=>by have hq:=hc;(try simp at hq);exact zcg rfl rfl uO uO) ?_;refine gz3 ?_;refine uGr rfl (fun hc=>by have hq:=hc;(try simp at hq);exact zcg rfl rfl uO uO) ?_;refine uGr rfl (fun hc=>uCl zcy rfl zag) ?_;refine gz3 ?_;refine uCo (fun h3=> ?_) fun h4=> ?_
 refine gz4 ?_;refine uRp ?_;unfold zby
 focus first
 |(rw [if_pos uSa];done)
 |(rw [if_neg uSa,if_pos uSa];done)
 |(rw [if_neg uSa,if_neg uSa];done)
 refine gz7 ?_;refine uRp ?_;unfold zby
 focus first
 |(rw [if_pos uSa];done)
 |(rw [if_neg uSa,if_pos uSa];done)
 |(rw [if_neg uSa,if_neg uSa];done)
theorem zwH [Tracks] {x y:Int} (hx:0<=x) (hy:0<=y):ConP prog 246 [.int .i64 x,.int .i64 y] (.int .i64 (zfx x y)):=by
 refine uOb func246 ntmps246 ?_;refine gz5 ?_;refine uU2 [0,2,5,6] (fun (a:Int) (b:Int)=>[(0,.int .i64 a),(1,.int .i64 b)]) (fun (a:Int) (b:Int)=>[]) (fun (a:Int) (b:Int)=>0<=a/\0<=b/\zfx a b=zfx x y) (fun (a:Int) (b:Int)=>b.toNat) (x) (y) ?_ ?_;exact ⟨hx,hy,rfl⟩;rintro a b ⟨ha,hb,hg⟩;refine gz5 ?_;refine uCo (fun h1=> ?_) fun h2=> ?_
 have hbn:b≠0:=by simpa using h1
 have hb0:0<b:=by omega
 have hm0:=Cv b ha;have hm1:=BW a hb0;refine gz3 ?_;refine zia mixed ?_;refine gz3 ?_;refine uB 3 rfl (zcP rfl rfl uO) ?_;refine gz4 ?_;refine ⟨b,a.tmod b,?_,?_,⟨rfl,rfl,trivial⟩,uK,Ac _⟩
 exact ⟨hb,hm0,by rw [zzJ ha hb0];exact hg⟩
 dsimp only;omega
 have hb0:b=0:=by simpa using h2
 subst hb0;rw [zzI ha] at hg;refine gz2 ?_;refine zM ?_;refine gz7 ?_;refine uRp ?_;rw [<-hg]
theorem zqg [Tracks] {n d:Int} (hn: -9000000000000000000<=n/\n<=9000000000000000000) (hd:0<d/\d<=9000000000000000000):ConP prog 170 [.int .i64 n,.int .i64 d] (zkM (zpW n d)):=by
 refine zbb func170 rfl ntmps170 rfl rfl ?_;refine gz1 ?_;refine de rfl (zj zav rfl fun b4=> ?_)
 refine gz4 ?_;refine dq (zi7 rfl uO uO) ?_;refine dq (zU (h':= .int .i64 (max n (-n))) (zoY rfl rfl) (congrArg (HVal.int .i64) zvv)) ?_;refine gz1 ?_;refine dq (uCl zFm rfl (zwH (x:=max n (-n)) (y:=d) uO uO)) ?_;refine gz2 ?_;have hgp:=zvW (a:=max n (-n)) hd.1;refine uDr mixed ?_;refine gz2 ?_;refine uB 2 rfl (zdE rfl rfl uO uO uO) ?_;refine gz2 ?_;refine uB 5 rfl (zdE rfl rfl uO uO uO) ?_;refine uB 6 rfl (zF (cs:=[_,_]) zav zkn rfl) ?_;refine uF 7 ?_;refine zD (zp zav rfl rfl rfl rfl rfl ?_)
 refine ⟨uE,?_⟩
 refine gz2 ?_;refine ⟨_,_,zk 4 rfl,[_],_,⟨⟨_,_,_,_,_,rfl,zav,.inr ⟨rfl,rfl,rfl⟩⟩,trivial⟩,Weak.refl _,?_,rfl⟩
 rfl
theorem zgA [Tracks] {n d:Int} (hd:1<=d/\d<=100) (hw: -1000000000000<=zet n d/\zet n d<=1000000000000):ConP prog 61 [.agg [.int .i64 n,.int .i64 d]] (.int .i64 (zet n d)):=by
 unfold zet at hw;refine uOb func61 ntmps61 ?_;refine gz4 ?_;refine uDr mixed ?_;refine gz4 ?_;refine uB 4 rfl (zdE rfl rfl uO uO uO) ?_;refine uB 5 rfl (zcg rfl rfl uO uO) ?_;refine gz3 ?_;refine zw rfl ?_
 rfl
theorem zie [Tracks] {n:Int} (hn: -1000000000000000<=n/\n<=1000000000000000):ConP prog 84 [.int .i64 n] (zkM (ofH n)):=by
 refine zbb func84 rfl ntmps84 rfl rfl ?_;refine gz1 ?_;refine de rfl (zj zav rfl fun b2=> ?_)
 refine gz3 ?_;refine dq (uCl zEE rfl (zqg (n:=n) (d:=100) uO uO)) ?_
 focus first
 |refine de0 (uY 0 ?_)
 |refine de0 (uY 1 ?_)
 |refine de0 (uY 2 ?_)
 |refine de0 (uY 3 ?_)
 refine gz2 ?_;exact ⟨_,_,zk 2 rfl,[_],_,⟨⟨_,_,_,_,_,rfl,zav,.inr ⟨rfl,rfl,rfl⟩⟩,trivial⟩,Weak.refl _,rfl,rfl⟩
theorem zpj [Tracks] {x:LineS} (hx:LineOk x):ConP prog 240 [zbQ x] (.int .i64 0):=by
 have hln:=hx.len;have hky:=hx.ky;have hwk:=hx.wk;refine uOb func240 ntmps240 ?_;refine gz9 ?_;refine dq (uCl zbH rfl zaf) ?_;refine gz3 ?_;refine zX rfl (fun h1=> ?_) (fun h1=> ?_)
 exfalso
 try simp at h1
 simp_all
 try simp at h1
 refine gz3 ?_;refine dq (uCl zlk rfl zcB) ?_;refine gz3 ?_;refine zX rfl (fun h2=> ?_) (fun h2=> ?_)
 exfalso
 try simp at h2
 simp_all
 try simp at h2
 refine gz7 ?_;refine zX rfl (fun h3=> ?_) (fun h3=> ?_)
 exfalso
 try simp at h3
 omega
 try simp at h3
 refine zcl ?_;refine uT1 [2,3,23,30] (fun k=>[(23,.int .i64 k)]) (fun k=>[]) (fun k=>k<=x.Stats.length/\(True)) (fun k=>x.Stats.length-k) (0) ?_ ?_;exact ⟨Ad _,trivial⟩;rintro k ⟨hk,-⟩;refine gz4 ?_;refine uCo (fun h4=> ?_) fun h5=> ?_
 obtain ⟨y,hy⟩: ∃y,x.Stats[k]? =some y:=⟨_,Aa h4⟩
 have hdy:=zi hy;have hat:=hx.at hy;refine gz8 ?_;refine de rfl (zj zci rfl fun b4=> ?_)
 refine gz1 ?_;refine de0 (zp zci rfl rfl rfl rfl rfl ?_)
 refine gz1 ?_;refine ze (zk 4 rfl) ?_;refine gz4 ?_;refine dq (uCl zbH rfl zaf) ?_;refine gz3 ?_;refine zX rfl (fun h6=> ?_) (fun h6=> ?_)
 exfalso
 try simp at h6
 have q:=hat.1;simp_all
 try simp at h6
 refine gz3 ?_;refine dq (uCl zcy rfl zag) ?_;refine gz2 ?_;refine zX rfl (fun h7=> ?_) (fun h7=> ?_)
 exfalso
 try simp at h7
 have q:=hat.2.1;simp [out] at h7;omega
 try simp at h7
 refine uDr mixed ?_;refine gz9 ?_;refine uGy 9 rfl rfl (fun hc=>by have hq:=hc;(try simp at hq);exact zy (f:=zbf) (l:=x.Stats) (j:=k-1) (a:=x.Stats.getD (k-1) zdZ) zb9 zci rfl rfl uO (getD_some uO)) ?_;refine gz6 ?_;refine zX rfl (fun h8=> ?_) (fun h8=> ?_)
 exfalso
 try simp at h8
 obtain ⟨q1,q2⟩:=h8;have q3:=hat.2.2 uO
 simp_all
 try simp at h8
 refine gz8 ?_;refine ⟨k+1,?_,?_,⟨rfl,trivial⟩,uK,Ac _⟩
 exact ⟨by omega,trivial⟩
 dsimp only;omega
 have hnk:x.Stats.length<=k:=by omega
 obtain rfl:k=x.Stats.length:=by omega
 refine gz2 ?_;refine zt ?_;refine gz6 ?_;refine zw rfl ?_
 rfl
theorem zs6 [Tracks] {R:List RuleS} {pos:List Str} {l:List LineS} (hR:R.length<=1000000) (hb: ∀x∈R,((-1000000000<=x.Num/\x.Num<=1000000000)/\ -1000000000<=x.Den/\x.Den<=1000000000)) (hz:zgG R=0) (hp:zdc pos=0) (hl:l.length<=1000000) (hxl: ∀x∈l,LineOk x):ConP prog 165 [zf0 R,eSs pos,zff l] (.int .i64 0):=by
 obtain ⟨hp1,hp2⟩:=zyR hp;refine uOb func165 ntmps165 ?_;refine gz6 ?_;refine dq (uCl zBi rfl (ziY (l:=R) hR hb)) ?_;refine gz6 ?_;refine zX rfl (fun h1=> ?_) (fun h1=> ?_)
 ·exfalso
  try simp at h1
  simp_all
 ·try simp at h1
  refine gz8 ?_;refine zX rfl (fun h2=> ?_) (fun h2=> ?_)
  ·exfalso
   try simp at h2
   omega
  ·try simp at h2
   refine gz5 ?_;refine dq (uCl ztp rfl (zgW (l:=pos) uO)) ?_;refine gz6 ?_;refine zX rfl (fun h3=> ?_) (fun h3=> ?_)
   ·exfalso
    try simp at h3
    simp_all
   ·try simp at h3
    refine gz9 ?_;refine uT1 [6,1,10,2,27,10] (fun k=>[(27,.int .i64 k)]) (fun k=>[]) (fun k=>k<=l.length/\(True)) (fun k=>l.length-k) (0) ?_ ?_
    ·exact ⟨Ad _,trivial⟩
    ·rintro k ⟨hk,-⟩;refine gz4 ?_;refine uCo (fun h4=> ?_) fun h5=> ?_
     ·obtain ⟨x,hx⟩: ∃x,l[k]? =some x:=⟨_,Aa h4⟩
      have hdx:=zi hx;have hx1:=hx;refine gz7 ?_;refine de rfl (zj zbW rfl fun b10=> ?_)
      refine de0 (zp zbW rfl rfl rfl rfl rfl ?_)
      refine gz1 ?_;refine ze (zk 10 rfl) ?_;refine gz1 ?_;refine dq (zaK (h:=zbQ x) zbW rfl rfl rfl rfl) ?_;refine dq (uCl zFg rfl (zpj (x:=x) (hxl x (Ab hx)))) ?_;refine gz6 ?_;refine zX rfl (fun h6=> ?_) (fun h6=> ?_)
      ·exfalso
       try simp at h6
       done
      ·try simp at h6
       refine gz7 ?_;refine ⟨k+1,?_,?_,⟨rfl,trivial⟩,uK,Ac _⟩
       ·exact ⟨by omega,trivial⟩
       ·dsimp only;omega
     ·have hnk:l.length<=k:=by omega
      obtain rfl:k=l.length:=by omega
      refine gz2 ?_;refine zt ?_;refine gz6 ?_;refine zw rfl ?_
      rfl
theorem zs7 [Tracks] {r:RuleS} {pos:List Str} {x:LineS} (hr:RuleOk r) (hb:zkF x) (hpos:pos.length<=1000000) (hl:x.Stats.length<=1000000):ConP prog 241 [zoR r,eSs pos,zbQ x] (.int .i64 (zhg r pos x)):=by
 obtain ⟨hc1,hc2,hc3⟩:=zsh hr hb;have hrd:=hr.dn;have hrw:=hr.w;refine uOb func241 ntmps241 ?_;refine zd3 ?_;refine uGr rfl (fun hc=>za (hs:=[_]) zq ty9 rfl rfl (by decide) (by decide) rfl) ?_;refine gz1 ?_;refine uGr rfl (fun hc=>uCl zto rfl (zgV (a:=[r.Position]) (b:=pos) (by simp) hpos)) ?_;refine gz3 ?_;refine uCo (fun h1=> ?_) fun h2=> ?_
 refine gz4 ?_;refine uRp ?_;unfold zhg
 focus first|(simp_all;done)|((repeat' split)<;>focus first|rfl|(exfalso;simp_all;done)|(exfalso;omega)|(simp_all;done))
 refine zd3 ?_;refine uU2 [7,1,9,1,25,12] (fun (k:Nat) (n:Int)=>[(25,.int .i64 k),(7,.int .i64 n)]) (fun (k:Nat) (n:Int)=>[]) (fun (k:Nat) (n:Int)=>k<=x.Stats.length/\(zdk r.Stat 0 x.Stats=zdk r.Stat n (x.Stats.drop k))) (fun (k:Nat) (n:Int)=>x.Stats.length-k) (0) (0) ?_ ?_;exact ⟨Ad _,rfl⟩;rintro k n ⟨hk,hg⟩;refine gz4 ?_;refine uCo (fun h3=> ?_) fun h4=> ?_
 obtain ⟨y,hy⟩: ∃y,x.Stats[k]? =some y:=⟨_,Aa h3⟩
 have hdy:=zi hy;rw [zya hy] at hg;refine gz7 ?_;refine de rfl (zj zci rfl fun b9=> ?_)
 refine de0 (zp zci rfl rfl rfl rfl rfl ?_)
 refine gz1 ?_;refine ze (zk 9 rfl) ?_;refine gz7 ?_;refine uCo (fun h5=> ?_) fun h6=> ?_
 refine zcl ?_;exact ⟨k+1,y.Count,⟨by omega,by rw [hg,if_pos (by assumption)]⟩,uD,⟨rfl,rfl,trivial⟩,uK,Ac _⟩;refine gz7 ?_;exact ⟨k+1,n,⟨by omega,by rw [hg,if_neg (by assumption)]⟩,uD,⟨rfl,rfl,trivial⟩,uK,Ac _⟩;have hnk:x.Stats.length<=k:=by omega
 obtain rfl:k=x.Stats.length:=by omega
 rw [zH (Af _)] at hg
 replace hg:zdk r.Stat 0 x.Stats=n:=hg
 subst hg;refine gz2 ?_;refine zM ?_;refine gz4 ?_;refine dq (zU (h':= .agg [.int .i64 r.Num,.int .i64 r.Den]) (zaY zav rfl rfl (Ao rfl)) rfl) ?_;refine dq (uCl zzs rfl (zgA (n:=r.Num) (d:=r.Den) hrd uO)) ?_;refine zau ?_;refine uCo (fun h7=> ?_) fun h8=> ?_
 refine gz3 ?_;refine dq (zcg rfl rfl uO uO) ?_;refine gz3 ?_;refine uRp ?_;unfold zhg
 focus first|(simp_all;done)|((repeat' split)<;>focus first|rfl|(exfalso;simp_all;done)|(exfalso;omega)|(simp_all;done))
 refine gz6 ?_;refine uCo (fun h9=> ?_) fun h10=> ?_
 have hmm:=hr.mm uSa;obtain ⟨hc4,hc5⟩:=hc3 uSa;refine gz3 ?_;refine dq (zU (h':= .int .i64 (max (zdk r.Stat 0 x.Stats) 0)) (zoY rfl rfl) (congrArg (HVal.int .i64) zz3)) ?_;refine gz2 ?_;refine dq (zdE rfl rfl uO uO uO) ?_;refine dq (zcg rfl rfl uO uO) ?_;refine gz3 ?_;refine uRp ?_;unfold zhg
 focus first|(simp_all;done)|((repeat' split)<;>focus first|rfl|(exfalso;simp_all;done)|(exfalso;omega)|(simp_all;done))
 refine zd3 ?_;refine uCo (fun h11=> ?_) fun h12=> ?_
 refine gz2 ?_;refine uCo (fun h13=> ?_) fun h14=> ?_
 refine gz5 ?_;refine uRp ?_;unfold zhg
 focus first|(simp_all;done)|((repeat' split)<;>focus first|rfl|(exfalso;simp_all;done)|(exfalso;omega)|(simp_all;done))
 refine gz7 ?_;refine uRp ?_;unfold zhg
 focus first|(simp_all;done)|((repeat' split)<;>focus first|rfl|(exfalso;simp_all;done)|(exfalso;omega)|(simp_all;done))
 refine zcl ?_;refine uCo (fun h15=> ?_) fun h16=> ?_
 refine gz5 ?_;refine uRp ?_;unfold zhg
 focus first|(simp_all;done)|((repeat' split)<;>focus first|rfl|(exfalso;simp_all;done)|(exfalso;omega)|(simp_all;done))
 refine gz7 ?_;refine uRp ?_;unfold zhg
 focus first|(simp_all;done)|((repeat' split)<;>focus first|rfl|(exfalso;simp_all;done)|(exfalso;omega)|(simp_all;done))
theorem zrv [Tracks] {R:List RuleS} {pos:List Str} {x:LineS} (hl:R.length<=100) (hrr: ∀r∈R,RuleOk r) (hb:zkF x) (hpos:pos.length<=1000000) (hs:x.Stats.length<=1000000):ConP prog 166 [zf0 R,eSs pos,zbQ x] (.int .i64 (zhj R pos x)):=by
 refine uOb func166 ntmps166 ?_;refine zdm ?_;refine uT1 [7,1,9,1,12,11] (fun k=>[(12,.int .i64 k),(7,.int .i64 (zhj (R.take k) pos x))]) (fun k=>[]) (fun k=>k<=R.length/\(True)) (fun k=>R.length-k) (0) ?_ ?_;exact ⟨Ad _,trivial⟩;rintro k ⟨hk,-⟩;refine gz4 ?_;refine uCo (fun h1=> ?_) fun h2=> ?_
 obtain ⟨r,hr⟩: ∃r,R[k]? =some r:=⟨_,Aa h1⟩
 have hdr:=zi hr;have hp1:=zq3 hl hrr hb pos k;have hp2:=zq3 hl hrr hb pos (k+1);rw [zuV hr] at hp2;refine gz7 ?_;refine de rfl (zj zgy rfl fun b9=> ?_)
 refine de0 (zp zgy rfl rfl rfl rfl rfl ?_)
 refine gz1 ?_;refine ze (zk 9 rfl) ?_;refine gz2 ?_;refine dq (zaK (h:=zoR r) zgy rfl rfl rfl rfl) ?_;refine gz1 ?_;refine dq (zaK (h:=zbQ x) zbW rfl rfl rfl rfl) ?_;refine dq (uCl zFh rfl (zs7 (r:=r) (pos:=pos) (x:=x) (hrr r (Ab hr)) hb hpos hs)) ?_;refine gz9 ?_;exact ⟨k+1,⟨by omega,trivial⟩,uD,⟨rfl,by rw [zuV hr];rfl,trivial⟩,uK,Ac _⟩;have hnk:R.length<=k:=by omega
 obtain rfl:k=R.length:=by omega
 rw [Ak];refine gz2 ?_;refine zt ?_;refine gz7 ?_;refine zw rfl ?_
 rfl
theorem zrs [Tracks] {R:List RuleS} {pos:List Str} {x:LineS} (hR:R.length<=1000000) (hb: ∀x∈R,((-1000000000<=x.Num/\x.Num<=1000000000)/\ -1000000000<=x.Den/\x.Den<=1000000000)) (hz:zgG R=0) (hp:zdc pos=0) (hx:LineOk x):ConP prog 82 [zf0 R,eSs pos,zbQ x] (.tup [zkM (ofH (zhj R pos x)),.int .i64 0]):=by
 obtain ⟨hp1,hp2⟩:=zyR hp;obtain ⟨hr1,hr2⟩:=zy3 hz;have hbd:=zq3 hr1 hr2 hx.sb pos R.length;rw [Ak] at hbd;have hsl:=hx.len;refine zbb func82 rfl ntmps82 rfl rfl ?_;refine gz2 ?_;refine de rfl (zj zav rfl fun b6=> ?_)
 refine gz6 ?_;refine dq (zaK (h:=zbQ x) zbW rfl rfl rfl rfl) ?_;refine dq (za (hs:=[zbQ x]) zm4 zbW rfl rfl (by decide) (by decide) rfl) ?_;refine dq (uCl zEB rfl (zs6 (R:=R) (pos:=pos) (l:=[x]) hR hb hz hp (by simp) (fun y hy=>by rw [List.mem_singleton.1 hy];exact hx))) ?_;refine gz6 ?_;refine zX rfl (fun h1=> ?_) (fun h1=> ?_)
 ·exfalso
  try simp at h1
  done
 ·try simp at h1
  refine gz5 ?_;refine dq (zaK (h:=zbQ x) zbW rfl rfl rfl rfl) ?_;refine dq (uCl zEC rfl (zrv (R:=R) (pos:=pos) (x:=x) hr1 hr2 hx.sb uO uO)) ?_;refine dq (uCl ca84 rfl (zie (n:=zhj R pos x) uO)) ?_;refine de0 (zp (h:=zkM (ofH (zhj R pos x))) zav rfl rfl rfl rfl rfl ?_)
  refine gz3 ?_;exact ⟨_,_,zk 6 rfl,[_,_],_,⟨⟨_,_,_,_,_,rfl,zav,.inr ⟨rfl,rfl,rfl⟩⟩,⟨rfl,trivial⟩⟩,Weak.refl _,rfl,rfl⟩
theorem zhb [Tracks] {l:List ScorerS} {s:Str} {fid:FuncId} (hca:Callable prog fid) (hp: ∀x:ScorerS,ConP prog fid [za6 x,.str s] (.int .i64 (zV x.Player s))) (hl:l.length<=1000000) (hs:SortedS (l.map (·.Player))):ConP prog 243 [za3 l,.str s,.fn (.func fid) [] []] (.tup [.int .i64 (zbF (l.map (·.Player)) s),.bool ((l.map (·.Player)).contains s)]):=by
 have hLl:(l.map (·.Player)).length=l.length:=Ah _;refine uOb func243 ntmps243 ?_;refine zpQ ?_;refine uT2 [9,3,15,20] (fun i j=>[(9,.int .i64 i),(10,.int .i64 j)]) (fun i j=>[]) (fun i j=>i<=j/\j<=(l.map (·.Player)).length/\(∀(k:Nat) (x:Str),k<i->(l.map (·.Player))[k]? =some x->Op.bytesLess x s=true)/\(∀(k:Nat) (x:Str),j<=k->(l.map (·.Player))[k]? =some x->Op.bytesLess x s=false)) (fun i j=>j-i) (0) (l.length) ?_ ?_;exact ⟨Ad _,by rw [hLl];exact Af _,fun k x h=>by omega,fun k x h1 h2=>by have:=zn h2;omega⟩;rintro i j ⟨hij,hjl,ha,hb⟩;rw [hLl] at hjl;refine gz6 ?_;refine uCo (fun h1=> ?_) fun h2=> ?_
 obtain ⟨x,hx⟩: ∃x,l[(i+j)/2]? =some x:=⟨_,Aa uO⟩
 have hxL:(l.map (·.Player))[(i+j)/2]? =some x.Player:=by rw [Ag,hx];rfl
 have hm:(i+j)/2<j/\i<=(i+j)/2:=by omega
 refine gz7 ?_;refine dq (zcd ty3 zkY rfl) ?_;refine dq (zoZ rfl rfl uO) ?_;refine dq (zU (zcd zkY ty3 rfl) (zuH (i:=i) (j:=j) uO)) ?_;refine gz6 ?_;refine dq (zy (j:=(i+j)/2) (a:=x) zcm zde rfl rfl rfl hx) ?_;refine gz2 ?_;refine dq (zal hca rfl rfl (WeakL.refl _) (hp _)) ?_;refine gz2 ?_;refine uCo (fun h3=> ?_) fun h4=> ?_
 refine gz6 ?_;exact ⟨(i+j)/2+1,j,⟨by omega,by rw [hLl];exact hjl,zwC hs hxL (zhA.1 h3),hb⟩,uD,⟨rfl,rfl,trivial⟩,uK,Ac _⟩;refine gz5 ?_;exact ⟨i,(i+j)/2,⟨by omega,by omega,ha,ztk hs hxL (by have q:=fun e=>(show ¬zV x.Player s<0 by omega) (zhA.2 e);simpa using q)⟩,uD,⟨rfl,rfl,trivial⟩,uK,Ac _⟩;obtain rfl:i=j:=by omega
 have hjl2:i<=(l.map (·.Player)).length:=by rw [hLl];exact hjl
 refine gz2 ?_;refine zM ?_;refine zcl ?_;refine uGr rfl (fun hc=>by have hq:=hc;(try simp at hq);exact zy (j:=i) (a:=l.getD i zR) zcm zde rfl rfl rfl (getD_some uO)) ?_;refine gz2 ?_;refine uGr rfl (fun hc=>zal hca rfl rfl (WeakL.refl _) (hp _)) ?_;refine gz6 ?_;refine zw rfl ?_;rw [zlX hjl2 ha hb,<-zpP hs hjl2 ha hb,<-zx3]
theorem zrt [Tracks] {x:ScorerS} {s:Str}:ConP prog 244 [za6 x,.str s] (.int .i64 (zV x.Player s)):=by
 refine uOb func244 ntmps244 ?_;refine gz8 ?_;refine dq (uCl zcf rfl zL) ?_;refine gz3 ?_;refine zw rfl ?_
 rfl
theorem znU [Tracks] {l:List ScorerS} {s:Str} (hl:l.length<=1000000) (hs:SortedS (l.map (·.Player))):ConP prog 168 [za3 l,.str s] (.int .i64 (zfE (l.map (·.Player)) s)):=by
 refine uOb func168 ntmps168 ?_;refine gz6 ?_;refine dq (uCl zFj rfl (zhb (l:=l) zFk (fun _=>zrt) hl hs)) ?_;refine zcl ?_;refine uCo (fun h1=> ?_) fun h2=> ?_
 refine gz4 ?_;refine uRp ?_;unfold zfE
 simp_all
 refine gz7 ?_;refine uRp ?_;unfold zfE
 simp_all
theorem zhK [Tracks] {l:List ScorerS} (hl:l.length<=1000000) (hp: ∀x∈l,x.Positions.length<=1000000) (hb: ∀x∈l,(-1000000000000000<=x.Num/\x.Num<=1000000000000000)/\ -1000000000<=x.Den/\x.Den<=1000000000):ConP prog 72 [za3 l] (.int .i64 (ziz l)):=by
 refine uOb func72 ntmps72 ?_;refine gz9 ?_;refine uCo (fun h1=> ?_) fun h2=> ?_
 refine gz4 ?_;refine uRp ?_
 focus first
 | (refine congrArg _ (zbL ?_)
    omega)
 | (refine congrArg _ (zbw ?_ hg)
    omega)
 | (refine congrArg _ (zz (e:=5) ?_ hg ?_ ?_)
    omega
    unfold zbK;exact uT
    first|decide|assumption)
 | (refine congrArg _ (zz (e:=7) ?_ hg ?_ ?_)
    omega
    unfold zbK;exact uT
    first|decide|assumption)
 | (refine congrArg _ (zz (e:=(orI [zdc x.Positions,zby x.Num x.Den 10000])) ?_ hg ?_ ?_)
    omega
    unfold zbK;exact uT
    first|decide|assumption)
 refine gz9 ?_;refine uT1 [2,4,11,36] (fun k=>[(11,.int .i64 k)]) (fun k=>[]) (fun k=>k<=l.length/\(za0 zbK zR l 0 l=za0 zbK zR l k (l.drop k))) (fun k=>l.length-k) (0) ?_ ?_;exact ⟨Ad _,rfl⟩;rintro k ⟨hk,hg⟩;refine gz4 ?_;refine uCo (fun h3=> ?_) fun h4=> ?_
 obtain ⟨x,hx⟩: ∃x,l[k]? =some x:=⟨_,Aa h3⟩
 have hdx:=zi hx;rw [hdx] at hg;refine gz8 ?_;refine de rfl (zj zde rfl fun b4=> ?_)
 refine gz1 ?_;refine de0 (zp zde rfl rfl rfl rfl rfl ?_)
 refine gz1 ?_;refine ze (zk 4 rfl) ?_;refine gz5 ?_;refine dq (uCl zbH rfl zaf) ?_;refine gz3 ?_;refine uCo (fun h5=> ?_) fun h6=> ?_
 refine gz4 ?_;refine uRp ?_
 focus first
 | (refine congrArg _ (zbL ?_)
    omega)
 | (refine congrArg _ (zbw ?_ hg)
    omega)
 | (refine congrArg _ (zz (e:=5) ?_ hg ?_ ?_)
    omega
    unfold zbK;exact uT
    first|decide|assumption)
 | (refine congrArg _ (zz (e:=7) ?_ hg ?_ ?_)
    omega
    unfold zbK;exact uT
    first|decide|assumption)
 | (refine congrArg _ (zz (e:=(orI [zdc x.Positions,zby x.Num x.Den 10000])) ?_ hg ?_ ?_)
    omega
    unfold zbK;exact uT
    first|decide|assumption)
 refine uDr mixed ?_;refine gz8 ?_;refine uGy 8 rfl rfl (fun hc=>by have hq:=hc;(try simp at hq);exact zy (j:=k-1) (a:=l.getD (k-1) zR) zcm zde rfl rfl uO (getD_some uO)) ?_;refine gz6 ?_;refine uCo (fun h7=> ?_) fun h8=> ?_
 refine gz4 ?_;refine uRp ?_
 focus first
 | (refine congrArg _ (zbL ?_)
    omega)
 | (refine congrArg _ (zbw ?_ hg)
    omega)
 | (refine congrArg _ (zz (e:=5) ?_ hg ?_ ?_)
    omega
    unfold zbK;exact uT
    first|decide|assumption)
 | (refine congrArg _ (zz (e:=7) ?_ hg ?_ ?_)
    omega
    unfold zbK;exact uT
    first|decide|assumption)
 | (refine congrArg _ (zz (e:=(orI [zdc x.Positions,zby x.Num x.Den 10000])) ?_ hg ?_ ?_)
    omega
    unfold zbK;exact uT
    first|decide|assumption)
 refine gz3 ?_;refine uDr mixed ?_;refine gz2 ?_;refine uB 2 rfl (uCl zwM rfl (zg5 (hp x (Ab hx)))) ?_;refine gz1 ?_;refine uB 4 rfl (zU (h':= .agg [.int .i64 x.Num,.int .i64 x.Den]) (zaY zav rfl rfl (Ao rfl)) rfl) ?_;refine uB 5 rfl (uCl ztn rfl (zqe (n:=x.Num) (d:=x.Den) (most:=10000) (hb x (Ab hx)).1 (hb x (Ab hx)).2 uO)) ?_;refine uB 6 rfl (za (hs:=[_,_]) zep zgJ rfl rfl (by decide) (by decide) rfl) ?_;refine uB 7 rfl (uCl zlj rfl (zck (l:=[_,_]) (by simp))) ?_;refine gz6 ?_;refine uCo (fun h9=> ?_) fun h10=> ?_
 refine gz5 ?_;refine uRp ?_
 focus first
 | (refine congrArg _ (zbL ?_)
    omega)
 | (refine congrArg _ (zbw ?_ hg)
    omega)
 | (refine congrArg _ (zz (e:=5) ?_ hg ?_ ?_)
    omega
    unfold zbK;exact uT
    first|decide|assumption)
 | (refine congrArg _ (zz (e:=7) ?_ hg ?_ ?_)
    omega
    unfold zbK;exact uT
    first|decide|assumption)
 | (refine congrArg _ (zz (e:=(orI [zdc x.Positions,zby x.Num x.Den 10000])) ?_ hg ?_ ?_)
    omega
    unfold zbK;exact uT
    first|decide|assumption)
 refine gz7 ?_;refine ⟨k+1,?_,?_,⟨rfl,trivial⟩,uK,Ac _⟩
 refine ⟨by omega,?_⟩
 rw [hg,zaW (by unfold zbK;(try clear hdx hg);(try simp only [Ae]);focus first|(simp_all;done)|((repeat' split)<;>focus first|rfl|(exfalso;omega)|(simp_all;done)|(exfalso;rcases ‹_\/_› with q|q<;>simp_all;done)|(exfalso;simp_all;omega)))]
 dsimp only;omega
 have hnk:l.length<=k:=by omega
 obtain rfl:k=l.length:=by omega
 rw [zH (Af _)] at hg;refine gz2 ?_;refine zt ?_;refine gz6 ?_;refine uRp ?_
 focus first
 | (refine congrArg _ (zbL ?_)
    omega)
 | (refine congrArg _ (zbw ?_ hg)
    omega)
 | (refine congrArg _ (zz (e:=5) ?_ hg ?_ ?_)
    omega
    unfold zbK;exact uT
    first|decide|assumption)
 | (refine congrArg _ (zz (e:=7) ?_ hg ?_ ?_)
    omega
    unfold zbK;exact uT
    first|decide|assumption)
 | (refine congrArg _ (zz (e:=(orI [zdc x.Positions,zby x.Num x.Den 10000])) ?_ hg ?_ ?_)
    omega
    unfold zbK;exact uT
    first|decide|assumption)
theorem zfR [Tracks] {l:List FillS} {fid:FuncId} {caps:List HVal} {p:FillS->Bool} (hca:Callable prog fid) (hp: ∀x,ConP prog fid ([zaF x]++caps) (.bool (p x))) (hl:l.length<=1000000):ConP prog 158 [.slice 2 (l.map zaF),.fn (.func fid) [] caps] (.int .i64 (zT p l 0)):=by
 refine uOb func158 ntmps158 ?_;refine zau ?_;refine uT1 [4,2,8,11] (fun k=>[(8,.int .i64 k)]) (fun k=>[]) (fun k=>k<=l.length/\(zT p l 0=zT p (l.drop k) k)) (fun k=>l.length-k) (0) ?_ ?_;exact ⟨Ad _,rfl⟩;rintro k ⟨hk,hg⟩;refine gz4 ?_;refine uCo (fun h1=> ?_) fun h2=> ?_
 obtain ⟨x,hx⟩: ∃x,l[k]? =some x:=⟨_,Aa h1⟩
 have hdx:=zi hx;rw [hdx] at hg;refine zdm ?_;refine dq (zal hca rfl rfl (WeakL.refl _) (hp _)) ?_;refine gz1 ?_;refine uCo (fun h3=> ?_) fun h4=> ?_
 refine gz5 ?_;refine uRp ?_
 first|(rw [hg];rfl)|(rw [hg];simp_all [zT])
 refine gz7 ?_;refine ⟨k+1,?_,?_,⟨rfl,trivial⟩,uK,Ac _⟩
 refine ⟨by omega,?_⟩
 rw [hg,zT,if_neg uSa];rfl
 dsimp only;omega
 have hnk:l.length<=k:=by omega
 obtain rfl:k=l.length:=by omega
 rw [zH (Af _)] at hg;refine gz2 ?_;refine zt ?_;refine gz6 ?_;refine uRp ?_
 first|(rw [hg];rfl)|(rw [hg];simp_all [zT])
theorem zcQ [Tracks] {l:List FillS} {fid:FuncId} {caps:List HVal} {p:FillS->Bool} (hca:Callable prog fid) (hp: ∀x,ConP prog fid ([zaF x]++caps) (.bool (p x))) (hl:l.length<=1000000):ConP prog 75 [.slice 2 (l.map zaF),.fn (.func fid) [] caps] (.bool (l.any p)):=by
 refine uOb func75 ntmps75 ?_;refine gz6 ?_;refine dq (uCl zEv rfl (zfR hca hp hl)) ?_;refine gz4 ?_;refine zw rfl ?_
 congr 1;exact zcC p l 0 uO
theorem zcD [Tracks] {l:List ScorerS} {fid:FuncId} {caps:List HVal} {p:ScorerS->Bool} (hca:Callable prog fid) (hp: ∀x,ConP prog fid ([za6 x]++caps) (.bool (p x))) (hl:l.length<=1000000):ConP prog 36 [.slice 5 (l.map za6),.fn (.func fid) [] caps] (.int .i64 (zT p l 0)):=by
 refine uOb func36 ntmps36 ?_;refine zau ?_;refine uT1 [4,2,8,11] (fun k=>[(8,.int .i64 k)]) (fun k=>[]) (fun k=>k<=l.length/\(zT p l 0=zT p (l.drop k) k)) (fun k=>l.length-k) (0) ?_ ?_;exact ⟨Ad _,rfl⟩;rintro k ⟨hk,hg⟩;refine gz4 ?_;refine uCo (fun h1=> ?_) fun h2=> ?_
 obtain ⟨x,hx⟩: ∃x,l[k]? =some x:=⟨_,Aa h1⟩
 have hdx:=zi hx;rw [hdx] at hg;refine zdm ?_;refine dq (zal hca rfl rfl (WeakL.refl _) (hp _)) ?_;refine gz1 ?_;refine uCo (fun h3=> ?_) fun h4=> ?_
 refine gz5 ?_;refine uRp ?_
 first|(rw [hg];rfl)|(rw [hg];simp_all [zT])
 refine gz7 ?_;refine ⟨k+1,?_,?_,⟨rfl,trivial⟩,uK,Ac _⟩
 refine ⟨by omega,?_⟩
 rw [hg,zT,if_neg uSa];rfl
 dsimp only;omega
 have hnk:l.length<=k:=by omega
 obtain rfl:k=l.length:=by omega
 rw [zH (Af _)] at hg;refine gz2 ?_;refine zt ?_;refine gz6 ?_;refine uRp ?_
 first|(rw [hg];rfl)|(rw [hg];simp_all [zT])
theorem zez [Tracks] {l:List ScorerS} {fid:FuncId} {caps:List HVal} {p:ScorerS->Bool} (hca:Callable prog fid) (hp: ∀x,ConP prog fid ([za6 x]++caps) (.bool (p x))) (hl:l.length<=1000000):ConP prog 17 [.slice 5 (l.map za6),.fn (.func fid) [] caps] (.bool (l.any p)):=by
 refine uOb func17 ntmps17 ?_;refine gz6 ?_;refine dq (uCl ca36 rfl (zcD hca hp hl)) ?_;refine gz4 ?_;refine zw rfl ?_
 congr 1;exact zcC p l 0 uO
theorem zfT [Tracks] {l:List LineS} {fid:FuncId} {caps:List HVal} {p:LineS->Bool} (hca:Callable prog fid) (hp: ∀x,ConP prog fid ([zbQ x]++caps) (.bool (p x))) (hl:l.length<=1000000):ConP prog 80 [.slice 3 (l.map zbQ),.fn (.func fid) [] caps] (.int .i64 (zT p l 0)):=by
 refine uOb func80 ntmps80 ?_;refine zau ?_;refine uT1 [4,2,8,11] (fun k=>[(8,.int .i64 k)]) (fun k=>[]) (fun k=>k<=l.length/\(zT p l 0=zT p (l.drop k) k)) (fun k=>l.length-k) (0) ?_ ?_;exact ⟨Ad _,rfl⟩;rintro k ⟨hk,hg⟩;refine gz4 ?_;refine uCo (fun h1=> ?_) fun h2=> ?_
 obtain ⟨x,hx⟩: ∃x,l[k]? =some x:=⟨_,Aa h1⟩
 have hdx:=zi hx;rw [hdx] at hg;refine zdm ?_;refine dq (zal hca rfl rfl (WeakL.refl _) (hp _)) ?_;refine gz1 ?_;refine uCo (fun h3=> ?_) fun h4=> ?_
 refine gz5 ?_;refine uRp ?_
 first|(rw [hg];rfl)|(rw [hg];simp_all [zT])
 refine gz7 ?_;refine ⟨k+1,?_,?_,⟨rfl,trivial⟩,uK,Ac _⟩
 refine ⟨by omega,?_⟩
 rw [hg,zT,if_neg uSa];rfl
 dsimp only;omega
 have hnk:l.length<=k:=by omega
 obtain rfl:k=l.length:=by omega
 rw [zH (Af _)] at hg;refine gz2 ?_;refine zt ?_;refine gz6 ?_;refine uRp ?_
 first|(rw [hg];rfl)|(rw [hg];simp_all [zT])
theorem zru [Tracks] {x:FillS} {s:Str}:ConP prog 245 [zaF x,.vptr [.str s] 0] (.bool (x.Player==s)):=by
 refine uOb func245 ntmps245 ?_;refine zdb ?_;refine zw rfl ?_
 rfl
theorem zt8 [Tracks] {f:List FillS} {s:Str} (hf:f.length<=1000000):ConP prog 169 [zhR f,.str s] (.bool (f.any fun x=>x.Player==s)):=by
 refine uOb func169 ntmps169 ?_;refine gz7 ?_;refine dq (uCl ca75 rfl (zcQ (l:=f) (p:=fun x=>x.Player==s) zFl (fun _=>zru) hf)) ?_;refine gz3 ?_;refine zw rfl ?_
 rfl
end
end Go.Proofs.YtbmggbfabohegaaGreatDoor
namespace Go.HL
section
open Go Op
structure BookX (b:BookS):Prop where
 w:BookW b
 gm: ∀x∈b.League.Games,zaV x.Week=true/\b.League.Teams.contains x.Home=true/\b.League.Teams.contains x.Away=true/\x.Played=false
 st:0<=b.League.Start/\b.League.Start+36288000000<=345686400000
 ru:zgG b.League.Rules=0
 sl:zdx b.League.Slots=0
 pl:zcb b.Plays=0
 tr:zcc b.League.Trust=0
 me:zbE b.Mends=0
 po: ∀p∈b.League.Players,zdc p.Positions=0
theorem zt0 {b:BookS} (h:zdW b=0):BookX b:=by
 obtain ⟨h1,h2⟩:=zt1 h;have h3:=zh4 (ztz h1);have hW:=zx2 h;unfold zcz at h1;rw [if_neg (fun q=>q (ztz h1))] at h1
 split at h1
 cases h1
 rename_i hp
 split at h1
 rename_i q;exact absurd h1 q
 rename_i h4
 split at h1
 cases h1
 rename_i h5
 rw [not_or] at h5;have h6:zfw b.League.Teams b.League.Games=0:=h3 _ (by simp);have h7:zeu 1000 (zco b.League.Teams) zeh b.League.Games=0:=by
  unfold zfw at h6
  split at h6
  rename_i q;exact absurd h6 q
  unfold zd2 at h6
  split at h6
  rename_i q;exact absurd h6 q
  rename_i q
  exact Decidable.not_not.1 q
 obtain ⟨_,h8⟩:=zgu h7;have h9:=zh4 (l:=[zik b.League.Breaks,zcc b.League.Trust]) (Decidable.not_not.1 h4);refine ⟨hW,fun x hx=> ?_,?_,h3 _ (by simp),h3 _ (by simp),zh4 h2 _ (by simp),h9 _ (by simp),zh4 h2 _ (by simp),fun p hp=> ?_⟩
 obtain ⟨i,hi,rfl⟩:=AT hx;have h10:=h8 i _ (Aa hi);unfold zco at h10
 split at h10
 cases h10
 rename_i a1
 split at h10
 cases h10
 rename_i a2
 rw [not_or] at a2;refine ⟨by simpa using a1,by simpa using a2.1,by simpa using a2.2,?_⟩
 have:zc0 b.League.Games=false:=by simpa using hp
 unfold zc0 at this;have:=List.any_eq_false.1 this _ hx
 simpa using this
 have:zaa b.League.Start=true:=by simpa using h5.1
 unfold zaa out at this
 simp at this
 omega
 obtain ⟨i,hi,rfl⟩:=AT hp;have h10:=(zgu hW.py).2 i _ (Aa hi);unfold zcO at h10
 split at h10
 cases h10
 split at h10
 cases h10
 exact h10
theorem zxX {b:BookS} (h:BookX b) {w:Int} (hw:zaV w=true):zaa (zbX b.League w)=true/\0<=zbX b.League w/\zbX b.League w<=345686400000/\zbX b.League (w+1)<=345686400000/\zbX b.League (w+1)=zbX b.League w+604800000:=by
 have h1:=h.st;have h2:1<=w/\w<=60:=by unfold zaV out at hw;simp at hw;omega
 have h3:0<=zbX b.League w/\zbX b.League w+604800000<=345686400000:=by unfold zbX;omega
 refine ⟨?_,by omega,by omega,?_,?_⟩
 unfold zaa out;simp;omega;unfold zbX;omega;unfold zbX;omega
/-! the lines of a week,and scorers-/
abbrev wlL (b:BookS) (w n:Int):List LineS:=knL b.Plays b.League.Trust (zgb b.Mends w) w n
abbrev wlE (b:BookS) (w n:Int):Int:=zhW b.Plays b.League.Trust w n
def zly (g:LeagueS) (L:List LineS) (s:Str):Option ScorerS:=
 match plO g.Players s with
 |none=>none
 |some p=>match L.find? (fun x=>x.Player==s) with
   |none=>some ⟨s,p.Positions,0,1,false⟩
   |some x=>some ⟨s,p.Positions,(ofH (zhj g.Rules p.Positions x)).Num,(ofH (zhj g.Rules p.Positions x)).Den,true⟩
def zkq (g:LeagueS) (L:List LineS) (own:List Str):List ScorerS:=own.filterMap (zly g L)
theorem zp1 {g:LeagueS} {L:List LineS} {own:List Str} {k:Nat} {s:Str} (h:own[k]? =some s):zkq g L (own.take (k+1))=zkq g L (own.take k)++(zly g L s).toList:=by
 unfold zkq;rw [z6 h,List.filterMap_append]
 cases e:zly g L s<;>simp [e]
theorem zo1 (g:LeagueS) (L:List LineS) (own:List Str):(zkq g L own).length<=own.length:=List.length_filterMap_le _ _
theorem zDE {L:List PlayerS} {s:Str} (h: ∃x,x∈L/\x.Key=s): ∃p,plO L s=some p:=by
 obtain ⟨x,hx,e⟩:=h
 cases hq:plO L s with
 |none=>have:=List.find?_eq_none.1 hq x hx;simp [e] at this
 |some p=>exact ⟨p,rfl⟩
theorem zu1 {g:LeagueS} {L:List LineS} {s:Str} (h:plO g.Players s=none):zly g L s=none:=by unfold zly;rw [h]
theorem zl3 {g:LeagueS} {L:List LineS} {s:Str} {p:PlayerS} (h:plO g.Players s=some p) (h2:L.find? (fun x=>x.Player==s)=none):zly g L s=some ⟨s,p.Positions,0,1,false⟩:=by
 unfold zly;rw [h];dsimp only;rw [h2]
theorem zl4 {g:LeagueS} {L:List LineS} {s:Str} {p:PlayerS} {x:LineS} (h:plO g.Players s=some p) (h2:L.find? (fun x=>x.Player==s)=some x):
 zly g L s=some ⟨s,p.Positions,(ofH (zhj g.Rules p.Positions x)).Num,(ofH (zhj g.Rules p.Positions x)).Den,true⟩:=by
 unfold zly;rw [h];dsimp only;rw [h2]
theorem zuy {l:List Play} {t:List Str} {w n:Int} (h1:zcb l=0) (h2:zcc t=0) (h3:zaV w=true) (h4:zaa n=true):ziO l t w n=zdT l t w n/\ziN l t w n=zhW l t w n:=by
 have e:orI [zcb l,zcc t]=0:=by rw [zd4,h1,h2];rfl
 unfold ziO ziN;rw [e,h3,h4];exact ⟨rfl,rfl⟩
theorem zsy {l:List LineS} {m:List MendS} {n:Int} (h1:zax l=0) (h2:zbE m=0) (h3:zaa n=true):zd7 l m n=mdL l m n/\zd6 l m n=0:=by
 have e:orI [zax l,zbE m]=0:=by rw [zd4,h1,h2];rfl
 unfold zd7 zd6;rw [e,h3];exact ⟨rfl,rfl⟩
theorem zDK {g:LeagueS} {L:List LineS} {s:Str} {p:PlayerS} (h:plO g.Players s=some p): ∃sc,zly g L s=some sc:=by
 cases hq:L.find? (fun x=>x.Player==s) with
 |none=>exact ⟨_,zl3 h hq⟩
 |some x=>exact ⟨_,zl4 h hq⟩
theorem zy6 {g:LeagueS} {L:List LineS} {own:List Str} (hr:zgG g.Rules=0) (hL: ∀x∈L,zkF x): ∀y∈zkq g L own,(-1000000000000000<=y.Num/\y.Num<=1000000000000000)/\ -1000000000<=y.Den/\y.Den<=1000000000:=by
 intro y hy
 obtain ⟨s,_,he⟩:=List.mem_filterMap.1 hy;obtain ⟨r1,r2⟩:=zy3 hr
 cases hp:plO g.Players s with
 |none=>rw [zu1 hp] at he;cases he
 |some p=>
   cases hq:L.find? (fun x=>x.Player==s) with
   |none=>rw [zl3 hp hq] at he;cases he;dsimp only;omega
   |some x=>
     rw [zl4 hp hq] at he
     cases he
     have h1:=zq3 r1 r2 (hL x (Bc hq)) p.Positions g.Rules.length;rw [Ak] at h1;have h2:=zDz h1
     dsimp only
     omega
theorem zwo {g:LeagueS} {L:List LineS} {own:List Str} (hp: ∀p∈g.Players,p.Positions.length<=1000000): ∀y∈zkq g L own,y.Positions.length<=1000000:=by
 intro y hy
 obtain ⟨s,_,he⟩:=List.mem_filterMap.1 hy
 cases hq:plO g.Players s with
 |none=>rw [zu1 hq] at he;cases he
 |some p=>
   have hm:=hp p (Bc hq)
   cases hl:L.find? (fun x=>x.Player==s) with
   |none=>rw [zl3 hq hl] at he;cases he;exact hm
   |some x=>rw [zl4 hq hl] at he;cases he;exact hm
abbrev zfy (b:BookS) (t:Str) (w:Int):List Str:=rPl (zg2 b.League.Bounds b.Moves (zbX b.League w)) t
abbrev dsL (b:BookS) (t:Str) (w n:Int):List ScorerS:=zkq b.League (wlL b w n) (zfy b t w)
def znw (b:BookS) (t:Str) (w n:Int):List ScorerS:=if wlE b w n≠0 then [] else dsL b t w n
def fdE (b:BookS) (t:Str) (w n:Int):Int:=if wlE b w n≠0 then wlE b w n else ziz (dsL b t w n)
abbrev fdC (b:BookS) (t:Str) (w n:Int):Option ChoiceS:=zwY b.Choices t w n (zbX b.League w)
abbrev fdF (b:BookS) (t:Str) (w n:Int):List FillS:=zcY (dsL b t w n) (fdC b t w n) b.League.Slots b.League.Slots.length
abbrev fdP (b:BookS) (t:Str) (w n:Int):Str:=zn0 (fdC b t w n) (fdF b t w n)
def FdL (b:BookS) (t:Str) (w n:Int):List ScorerS:=if fdE b t w n≠0 then [] else dsL b t w n
def FdF (b:BookS) (t:Str) (w n:Int):List FillS:=if fdE b t w n≠0 then [] else fdF b t w n
def FdP (b:BookS) (t:Str) (w n:Int):Str:=if fdE b t w n≠0 then [] else fdP b t w n
abbrev zeK (o:Option ChoiceS):ChoiceS:=o.getD zfl
theorem zpZ {o:Option ChoiceS} (h:o.isSome=true):pCh o= .vptr (zb (zam (zeK o))) 0:=by
 cases o with
 |none=>cases h
 |some c=>rfl
theorem zBV {o:Option ChoiceS} {f:List FillS} (h1:o.isSome=true) (h2:(zeK o).Captain≠[]) (h3:f.any (fun x=>x.Player==(zeK o).Captain)=true):zn0 o f=(zeK o).Captain:=by
 cases o with
 |none=>cases h1
 |some c=>exact if_pos ⟨h2,h3⟩
theorem zmB {o:Option ChoiceS} {f:List FillS} (h:(o.isSome=true/\¬(zeK o).Captain=[])/\∃x,x∈f/\x.Player=(zeK o).Captain):zn0 o f=(zeK o).Captain:=by
 obtain ⟨⟨h1,h2⟩,x,h3,h4⟩:=h;exact zBV h1 h2 (List.any_eq_true.2 ⟨x,h3,by simpa using h4⟩)
theorem zC7 {o:Option ChoiceS} {f:List FillS} (h: ¬((o.isSome=true/\(zeK o).Captain≠[])/\f.any (fun x=>x.Player==(zeK o).Captain)=true)):zn0 o f=[]:=by
 cases o with
 |none=>rfl
 |some c=>exact if_neg fun q=>h ⟨⟨rfl,q.1⟩,q.2⟩
theorem zoN {o:Option ChoiceS} {f:List FillS} (h:o.isSome=true->¬(zeK o).Captain=[]->∀x,x∈f->¬x.Player=(zeK o).Captain):zn0 o f=[]:=by
 refine zC7 fun q=> ?_
 obtain ⟨x,h3,h4⟩:=List.any_eq_true.1 q.2;exact h q.1.1 q.1.2 x h3 (by simpa using h4)
theorem zqC {b:BookS} {t:Str} {w n:Int} (h:fdE b t w n=0):wlE b w n=0/\ziz (dsL b t w n)=0/\ScoOk (dsL b t w n):=by
 unfold fdE at h
 split at h
 rename_i q;exact absurd h q
 rename_i q
 exact ⟨Decidable.not_not.1 q,h,zu0 h⟩
theorem zqB {b:BookS} {t:Str} {w n:Int} (h:wlE b w n≠0):fdE b t w n=wlE b w n:=by unfold fdE;rw [if_pos h]
theorem zob {b:BookS} {t:Str} {w n:Int} (h:wlE b w n=0):fdE b t w n=ziz (dsL b t w n):=by unfold fdE;rw [if_neg (fun q=>q h)]
theorem zB4 {b:BookS} (hb:BookW b) {t:Str} {w n f:Int} {c:ChoiceS} (h:zwY b.Choices t w n f=some c):c.Players.length=b.League.Slots.length:=by
 rcases zwX h with q|q
 cases q
 exact (hb.ch c q.1).1
theorem zBC {b:BookS} (hX:BookX b) (hb:BookC b) {w:Int} (hwk:zaV w=true) (n:Int): ∀x∈wlL b w n,zkF x:=by
 have h1:=zkl b.Mends w;have h2:=hb.l2;have h3:=hb.l3;have h:=(zpU (t:=b.League.Trust) (m:=zgb b.Mends w) (week:=w) (n:=n) (ziI hX.pl) h2 (by omega) hwk (zov (week:=w) hX.me)).1;exact fun x hx=>(zv4 h hx).sb
end
end Go.HL
