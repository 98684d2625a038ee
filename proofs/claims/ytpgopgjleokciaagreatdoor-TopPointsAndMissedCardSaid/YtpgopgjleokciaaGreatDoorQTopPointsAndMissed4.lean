/- Part 4 of the proof: a program logic, contracts of functions and plain facts; no conditions. -/
import Derived.Test.YtpgopgjleokciaaGreatDoorQTopPointsAndMissed3
import Derived.Lib.AtoiBound
import Derived.Lib.ItoaMem
import Derived.Lib.Strings
import Derived.Shelf.SlMaps.Clone
import Derived.Shelf.Slices.CompactI
import Derived.Shelf.Slices.In.SortNone
import Derived.Shelf.Sort.Plain
set_option linter.unusedVariables false
set_option linter.unusedSimpArgs false
set_option maxHeartbeats 16000000
namespace Go.Proofs.YtpgopgjleokciaaGreatDoor
set_option maxRecDepth 100000
set_option linter.unusedVariables false
set_option linter.unusedSimpArgs false
section
open Go.Proofs.Tryz
open Go.HL
theorem zgI [Tracks] {x n:Int} (hn:n<=4000000000):ConP prog 49 [.int .i64 x,.int .i64 n] (.int .i64 (below x n)):=by
 refine uOb func49 ntmps49 ?_;refine gz8 ?_;refine uCo (fun h1=> ?_) fun h2=> ?_
 refine gz4 ?_;refine uRp ?_
 simp_all [below]
 try omega
 refine gz5 ?_;refine dq (zcx rfl rfl uO) ?_;refine gz7 ?_;refine uCo (fun h3=> ?_) fun h4=> ?_
 refine gz3 ?_;have hm:=BC x (show 0<n by omega);obtain ⟨y,hy1,hy2⟩:=znL x n;have hb:below x n=x.tmod n+n:=by unfold below;rw [if_neg uO,if_pos uO]
 refine gz9 ?_;refine uRp ?_
 simp_all [below]
 try omega
 refine gz7 ?_;refine uRp ?_
 simp_all [below]
 try omega
theorem zX [Tracks] {b:Nat} {l:List Int} {a:Nat} {n:Int} (ha:a<=1000000) (hn:n<=4000000000):Con prog 16 [pAt b,.int .i64 n] [St b l a] (fun x M'=> ∃y:Nat,x= .int .i64 (y:Int)/\(y:Int)<max n 1/\M'=[St b l (a+1)]):=by
 refine uOb func16 ntmps16 ?_;refine gz7 ?_;refine de rfl (uZ 0 ?_)
 refine gz3 ?_;refine de0 (uY 0 ?_)
 refine gz6 ?_;refine de rfl (uZ 0 ?_)
 refine gz3 ?_;refine uCo (fun h1=> ?_) fun h2=> ?_
 refine gz4 ?_;refine de rfl (uZ 0 ?_)
 refine dq (zrZ rfl rfl) ?_;refine gz1 ?_;refine dq (uCl zzE rfl (zgI (by assumption))) ?_;refine gz3 ?_;refine zah rfl ?_;obtain ⟨y,h1,h2⟩:=znL _ n;exact ⟨y,congrArg _ h1,h2,rfl⟩;refine gz2 ?_;have hl0:0<l.length:=List.length_pos_iff.2 (by simpa using h2);refine zbW (fun M=> ∃i:Nat,M[i]? =some (St b l (a+1))) [3,8] mixed ?_;refine gz3 ?_;refine uM 3 rfl (⟨0,rfl⟩) (fun M hM=>by obtain ⟨i,hi⟩:=hM;exact zar (i:=i) ty3 rfl hi (.inl ⟨rfl,rfl⟩) ⟨rfl,rfl⟩) ?_;refine gz4 ?_;refine uM 8 rfl (⟨0,rfl⟩) (fun M hM=>by obtain ⟨i,hi⟩:=hM;exact zar (i:=i) zac rfl hi (.inl ⟨rfl,rfl⟩) ⟨rfl,rfl⟩) ?_;refine gz1 ?_;refine uB 10 rfl (zS (h':= .int .i64 ((a%l.length:Nat):Int)) (zcx rfl rfl uO) (by show HVal.int .i64 (((a:Int)+1-1).tmod _)=_;rw [show ((a:Int)+1-1)=(a:Int) by omega];exact congrArg _ (zp9 _ _))) ?_;refine gz2 ?_;refine zbW (fun M=> ∃i:Nat,M[i]? =some (St b l (a+1))) [3,8] mixed ?_;refine gz3 ?_;refine uM 3 rfl (⟨0,rfl⟩) (fun M hM=>by obtain ⟨i,hi⟩:=hM;exact zar (i:=i) ty3 rfl hi (.inl ⟨rfl,rfl⟩) ⟨rfl,rfl⟩) ?_;refine gz4 ?_;refine uM 8 rfl (⟨0,rfl⟩) (fun M hM=>by obtain ⟨i,hi⟩:=hM;exact zar (i:=i) zac rfl hi (.inl ⟨rfl,rfl⟩) ⟨rfl,rfl⟩) ?_;refine gz1 ?_;refine uB 10 rfl (zwt rfl rfl uO) ?_;refine gz6 ?_;refine de rfl (uZ 0 ?_)
 refine gz1 ?_;refine dq (zA (j:=a%l.length) (a:=l[a%l.length]'(BW _ uO)) zac ty3 rfl rfl rfl (Aa _)) ?_;refine gz1 ?_;refine dq (uCl zzE rfl (zgI uO)) ?_;refine gz2 ?_;refine dq (zo6 rfl rfl) ?_;refine dq (zrZ rfl rfl) ?_;refine dq (zo6 rfl rfl) ?_;refine gz1 ?_;refine dq (uCl zzE rfl (zgI (by assumption))) ?_;refine gz3 ?_;refine zah rfl ?_;obtain ⟨y,h1,h2⟩:=znL _ n;exact ⟨y,congrArg _ h1,h2,rfl⟩
theorem zD [Tracks] {b:Nat} {l:List Int} {a:Nat} {lo hi:Int} (ha:a<=1000000) (hlh:lo<=hi) (h0: -1000000000<=lo) (h1:hi<=1000000000):Con prog 6 [pAt b,.int .i64 lo,.int .i64 hi] [St b l a] (fun x M'=> ∃y:Int,x= .int .i64 y/\(lo<=y/\y<=hi)/\M'=[St b l (a+1)]):=by
 refine uOb func6 ntmps6 ?_;refine gz9 ?_;refine zZ rfl (fun h1=> ?_) (fun h1=> ?_)
 exfalso
 try simp at h1
 omega
 try simp at h1
 refine gz9 ?_;refine de rfl (uCx 0 zhi rfl rfl (zX (by assumption) uO) ?_)
 rintro _ _ ⟨y17,rfl,hy17,rfl⟩;refine gz4 ?_;exact zah rfl ⟨_,rfl,by omega,rfl⟩
theorem zJ [Tracks] {b:Nat} {l:List Int} {a:Nat} {n:Int} (ha:a<=1000000) (hn:n<=4000000000):Con prog 40 [pAt b,.int .i64 n] [St b l a] (fun x M'=> ∃y:Bool,x= .bool y/\M'=[St b l (a+1)]):=by
 refine uOb func40 ntmps40 ?_;refine gz6 ?_;refine de rfl (uCx 0 zhi rfl rfl (zX (by assumption) (by assumption)) ?_)
 rintro _ _ ⟨y7,rfl,hy7,rfl⟩;refine gz4 ?_;exact zah rfl ⟨_,rfl,rfl⟩
theorem zb [Tracks] {b:Nat} {l:List Int} {a:Nat} {L:List Int} (ha:a<=1000000) (h0:0<L.length) (h1:L.length<=1000000):Con prog 7 [pAt b,.slice 1 (L.map (.int .i64))] [St b l a] (fun x M'=> ∃y:Int,x= .int .i64 y/\y∈L/\M'=[St b l (a+1)]):=by
 refine uOb func7 ntmps7 ?_;refine gz8 ?_;refine de rfl (uCx 0 zhi rfl rfl (zX (by assumption) uO) ?_)
 rintro _ _ ⟨y9,rfl,hy9,rfl⟩;obtain ⟨z,hz,hm⟩:=getI hy9 h0;refine dq (zA (j:=y9) (a:=z) zac ty3 rfl rfl rfl hz) ?_;refine gz4 ?_;exact zah rfl ⟨_,rfl,hm,rfl⟩
theorem zg [Tracks] {b:Nat} {l:List Int} {a:Nat} {L:List Str} (ha:a<=1000000) (h0:0<L.length) (h1:L.length<=1000000):Con prog 5 [pAt b,eSs L] [St b l a] (fun x M'=> ∃y:Str,x= .str y/\y∈L/\M'=[St b l (a+1)]):=by
 refine uOb func5 ntmps5 ?_;refine gz8 ?_;refine de rfl (uCx 0 zhi rfl rfl (zX (by assumption) uO) ?_)
 rintro _ _ ⟨y9,rfl,hy9,rfl⟩;obtain ⟨z,hz,hm⟩:=getS hy9 h0;refine dq (zA (j:=y9) (a:=z) zq ty9 rfl rfl rfl hz) ?_;refine gz4 ?_;exact zah rfl ⟨_,rfl,hm,rfl⟩
end
section
open Go.HL
set_option linter.unusedSimpArgs false
end
section
open Go.HL
set_option linter.unusedSimpArgs false
end
section
open Go.HL
set_option linter.unusedSimpArgs false
end
section
open Go.HL
set_option linter.unusedSimpArgs false
end
end Go.Proofs.YtpgopgjleokciaaGreatDoor
namespace Go.HL
section
open Op (bytesLess)
theorem zy6 {α:Type} {R:α->α->Prop}: ∀{l:List α},l.Pairwise R->∀x∈l,∀y∈l,x=y\/R x y\/R y x
 |[],_,x,hx,_,_=>by simp at hx
 |a::l,h,x,hx,y,hy=>by
   obtain ⟨h1,h2⟩:=List.pairwise_cons.1 h
   rcases List.mem_cons.1 hx with e|hx'<;>rcases List.mem_cons.1 hy with e'|hy'
   exact .inl (e.trans e'.symm);exact .inr (.inl (e▸h1 y hy'));exact .inr (.inr (e'▸h1 x hx'));exact zy6 h2 x hx' y hy'
/-! keeps that are right-/
def kLt (a b:Keep):Prop:=bytesLess a.Team b.Team=true\/(a.Team=b.Team/\a.Round<b.Round)
theorem zDH {a b:Keep} (h: ¬orI [zY b.Team a.Team,zaj b.Round a.Round]<=0):kLt a b:=by
 rw [zgx] at h
 rcases zb6 a.Team b.Team with h1|h1|h1
 exact .inl h1;refine .inr ⟨h1,?_⟩
 rw [h1] at h
 simp [zag,orI,zaj] at h
 split at h
 omega
 split at h<;>omega
 rw [h1] at h;simp [orI] at h
structure KeepsOk (r:Room) (k:List Keep):Prop where
 all: ∀x∈k,x.Team∈r.Teams/\x.Player∈r.Players/\1<=x.Round/\x.Round<=r.Rounds
 lt:k.Pairwise kLt
theorem zxs {r:Room} {l:List Keep}: ∀(t:List Keep) (k:Nat) (kept:List Str) (tw:Bool),l.drop k=t->zrT r l k kept tw t=0->
 (∀x∈t,x.Team∈r.Teams/\x.Player∈r.Players/\1<=x.Round/\x.Round<=r.Rounds)/\∀(i:Nat) (a b:Keep),k<=i+1->l[i]? =some a->l[i+1]? =some b->kLt a b
 |[],k,kept,tw,hd,h=>⟨by simp,fun i a b hi ha hb=>by
    have:=zp hb;have h2:l.length<=k:=by rw [<-List.drop_eq_nil_iff];exact hd
    omega⟩
 |x::t,k,kept,tw,hd,h=>by
   have hk:l[k]? =some x:=by
    have:=congrArg (fun q=>q[0]?) hd
    simpa using this
   have hd':l.drop (k+1)=t:=by
    have:=zk hk;rw [hd] at this;simp at this;exact this.symm
   simp only [zrT] at h
   split at h
   omega
   rename_i h1
   split at h
   omega
   rename_i h2
   split at h
   omega
   rename_i h3
   obtain ⟨h4,h5⟩:=zxs t (k+1) _ _ hd' h;have h2':=zfk (by simpa using h2);refine ⟨fun y hy=> ?_,fun i a b hi ha hb=> ?_⟩
   rcases List.mem_cons.1 hy with rfl|hy
   simp at h1;exact ⟨h1.1,h1.2,h2'⟩
   exact h4 y hy
   by_cases e:k=i+1
   subst e;rw [hk] at hb;cases hb;refine zDH fun hc=>h3 ?_
   simp [List.getD,ha];exact hc
   exact h5 i a b (by omega) ha hb
theorem zoJ {l:List Str}: ∀(r:List Str) (k:Nat),zbL l k r=0->∀s∈r,key s=true
 |[],_,_,s,hs=>by simp at hs
 |x::r,k,h,s,hs=>by
   simp only [zbL] at h
   split at h
   omega
   rename_i h1
   split at h
   omega
   rcases List.mem_cons.1 hs with rfl|hs
   simpa using h1
   exact zoJ r (k+1) h s hs
def fits (t:Turn) (x:Keep):Bool:=decide (x.Team=t.of/\x.Round=t.round)
theorem KeepsOk.one {r:Room} {k:List Keep} (h:KeepsOk r k) {t:Turn} {x y:Keep} (hx:x∈k) (hy:y∈k) (fx:fits t x=true) (fy:fits t y=true):y=x:=by
 simp [fits] at fx fy
 rcases zy6 h.lt x hx y hy with e|e|e
 exact e.symm
 exfalso
 rcases e with e|⟨e1,e2⟩
 rw [fx.1,fy.1,zag] at e;cases e
 omega
 exfalso
 rcases e with e|⟨e1,e2⟩
 rw [fx.1,fy.1,zag] at e;cases e
 omega
def ztH (k:List Keep) (l:List Pick) (s:Str):Bool:=k.any (fun x=>x.Player==s)||l.any (fun p=>p.Player==s)
end
section
section
variable {r:Room} {k:List Keep} {fr l:List Pick} {p:Pick}
end
structure Wish where
 Team:Str
 Players:List Str
theorem zxq (k:List Keep) (l:List Pick) (p:Pick) (s:Str):ztH k (l++[p]) s=(ztH k l s||p.Player==s):=by
 simp [ztH,Ct]
/-! what a run holds-/
structure RunOk (r:Room) (k:List Keep) (s:List Swap) (l:List Pick) (S:List Str):Prop where
 gone: ∀x∈r.Players,S.contains x=ztH k l x
theorem RunOk.add {r:Room} {k:List Keep} {s:List Swap} {l:List Pick} {S:List Str} (ok:RunOk r k s l S) (p:Pick):RunOk r k s (l++[p]) (zb8 p.Player S):=
 ⟨fun x hx=>by rw [zxq,znr,ok.gone x hx]⟩
end
section
theorem zsy {α:Type} {p:α->Bool} {l:List α} (h:0<=zW p l 0): ∃(i:Nat) (x:α),zW p l 0=(i:Int)/\l[i]? =some x/\l.find? p=some x:=by
 obtain ⟨i,h1,h2,⟨x,hx,hp⟩,hb⟩:=zgC p l 0 (by omega) (by omega);refine ⟨i,x,by omega,hx,?_⟩
 have e:l=l.take i++x::l.drop (i+1):=by rw [<-zk hx,Bi]
 rw [e,List.find?_append,List.find?_eq_none.2 (by simpa using hb)]
 simp [hp]
theorem zot {α:Type} {p:α->Bool} {l:List α} (h:zW p l 0<0):l.find? p=none:=by
 have:=zdd p l 0 (by omega);rw [Ck]
 intro x hx hp
 have h1:l.any p=true:=List.any_eq_true.2 ⟨x,hx,hp⟩;rw [<-this] at h1
 simp at h1;omega
section
variable {r:Room} {w:List Wish} {k:Nat} {x:Wish} {t:List Wish}
end
end
end Go.HL
namespace Go.Proofs.YtpgopgjleokciaaGreatDoor
set_option maxRecDepth 100000
set_option linter.unusedVariables false
set_option linter.unusedSimpArgs false
section
open Go.HL
set_option linter.unusedSimpArgs false
end
section
open Go.HL
set_option linter.unusedSimpArgs false
end
section
open Go.HL
set_option linter.unusedSimpArgs false
end
section
open Go.HL
set_option linter.unusedSimpArgs false
end
section
open Go.HL
set_option linter.unusedSimpArgs false
end
section
open Go.HL
set_option linter.unusedSimpArgs false
end
section
open Go.Proofs.Tryz
open Go.HL
theorem zfX [Tracks] {b:Nat} {l:List Int} {a:Nat} {n:Nat} (ha:a<=800000) (hn1:1<=n) (hn2:n<=1000):Con prog 178 [pAt b,.int .i64 (n:Int)] [St b l a] (fun x M'=> ∃(L:List Int) (a':Nat),x= .slice 1 (L.map (.int .i64))/\(L.length=n/\∀i∈L,(0:Int)<=i/\i<n)/\a'<=a+n/\M'=[St b l a']):=by
 refine uOb func178 ntmps178 ?_;refine gz6 ?_;refine ze (zL 1) ?_;refine gz6 ?_;refine uV3 [5,2,10,8] (fun (k:Nat) (u:Value) (L:List Int)=>[(10,.int .i64 (k:Int)),(5,.raw u)]) (fun (k:Nat) (u:Value) (L:List Int)=>[.arr u 1 (L.map (HVal.int .i64)),St b l a]) (fun (k:Nat) (u:Value) (L:List Int)=>k<=n/\L.length=k/\∀i∈L,(0:Int)<=i/\i<n) (fun (k:Nat) (u:Value) (L:List Int)=>n-k) (0) (.slice none 0 0) ([]) ?_ ?_ ?_ ?_;exact ⟨by omega,rfl,by simp⟩;exact ⟨rfl,rfl,trivial⟩;exact zo rfl
 intro k u L hinv
 obtain ⟨hk,hL,hLb⟩:=hinv;refine gz4 ?_;refine uCo (fun h1=> ?_) fun h2=> ?_
 have hkn:k<n:=by omega
 refine zct ?_;refine dq (za (hs:=[_]) zac ty3 rfl rfl (by decide) (by decide) rfl) ?_;refine de rfl (zI (i:=0) zac ty3 rfl rfl rfl rfl rfl (by simp [zaq,zd]) uSo fun v16=> ?_)
 refine gz8 ?_;exact ⟨k+1,v16,L++[(k:Int)],⟨by omega,by simp [hL],fun i hi=>by rcases List.mem_append.1 hi with h|h;exact hLb i h;(simp at h;omega)⟩,uD,⟨rfl,rfl,trivial⟩,uK,zo (by simp)⟩;obtain rfl:n=k:=by omega
 refine gz2 ?_;refine zcK ?_;refine gz3 ?_;refine ze (Ghost.perm (M':=[St b l a,.arr u 1 (L.map (.int .i64))]) uP) ?_;refine zcS (i:=1) rfl (fun h0 he=> ?_) (fun ob off cap hv hcap=> ?_)
 exfalso;have:=congrArg List.length he;simp at this;subst this;simp at hL;omega
 rw [Ah,hL] at hv hcap;subst hv;refine gz6 ?_;refine uV3 [7,2,20,22] (fun (m:Nat) (L:List Int) (a2:Nat)=>[(7,.int .i64 (m:Int))]) (fun (m:Nat) (L:List Int) (a2:Nat)=>[St b l a2,.arr (.slice (some ⟨ob,off,none⟩) n cap) 1 (L.map (HVal.int .i64))]) (fun (m:Nat) (L:List Int) (a2:Nat)=>m<n/\(L.length=n/\∀i∈L,(0:Int)<=i/\i<n)/\a2+m<=a+n) (fun (m:Nat) (L:List Int) (a2:Nat)=>m) (n-1) (L) (a) ?_ ?_ ?_ ?_;exact ⟨by omega,⟨hL,hLb⟩,by omega⟩;exact ⟨zP uO,trivial⟩;exact Ac _
 intro m L a2 hinv
 obtain ⟨hm,⟨hL,hLb⟩,ha2⟩:=hinv;refine gz5 ?_;refine uCo (fun h3=> ?_) fun h4=> ?_
 have hm0:0<m:=by omega
 refine gz8 ?_;refine de rfl (uCx 0 zhi rfl rfl (zX uO uO) ?_)
 rintro _ _ ⟨y27,rfl,hy27,rfl⟩;refine gz2 ?_;obtain ⟨z1,hz1⟩: ∃z,L[y27]? =some z:=⟨_,Aa uO⟩
 obtain ⟨z2,hz2⟩: ∃z,L[m]? =some z:=⟨_,Aa uO⟩
 obtain ⟨z3,hz3⟩: ∃z,(L.set m z1)[y27]? =some z:=⟨_,Aa uSo⟩
 refine zbk (fun M=> ∃i:Nat,M[i]? =some (.arr (.slice (some ⟨ob,off,none⟩) n cap) 1 (L.map (HVal.int .i64)))) [7,11] mixed ?_;refine gz6 ?_;refine uB 6 rfl (zx (j:=y27) zac ty3 rfl rfl rfl uO) ?_;refine uM 7 rfl (⟨1,rfl⟩) (fun M hM=>by obtain ⟨i,hi⟩:=hM;exact zat (i:=i) (j:=y27) 0 ty3 rfl uO hi hz1 rfl rfl ⟨rfl,rfl⟩) ?_;refine gz2 ?_;refine uB 10 rfl (zx (j:=m) zac ty3 rfl rfl rfl uO) ?_;refine uM 11 rfl (⟨1,rfl⟩) (fun M hM=>by obtain ⟨i,hi⟩:=hM;exact zat (i:=i) (j:=m) 0 ty3 rfl uO hi hz2 rfl rfl ⟨rfl,rfl⟩) ?_;refine uB 12 rfl (zx (j:=m) zac ty3 rfl rfl rfl uO) ?_;refine uF 13 ?_;refine zz (za5 (i:=1) (f:=HVal.int .i64) (es:=L) (j:=m) (y:=z2) (y':=z1) ty3 rfl rfl rfl rfl hz2 rfl rfl rfl ?_)
 refine ⟨uE,?_⟩
 refine uB 14 rfl (zx (j:=y27) zac ty3 rfl rfl rfl uO) ?_;refine uF 15 ?_;refine zz (za5 (i:=1) (f:=HVal.int .i64) (es:=L.set m z1) (j:=y27) (y:=z3) (y':=z2) ty3 rfl rfl rfl rfl hz3 rfl rfl rfl ?_)
 refine ⟨uE,?_⟩
 refine gz8 ?_;exact ⟨m-1,(L.set m z1).set y27 z2,a2+1,⟨by omega,⟨by simp [hL],zfx (P:=fun i:Int=>0<=i/\i<n) (zfx (P:=fun i:Int=>0<=i/\i<n) hLb (hLb z1 (Ab hz1))) (hLb z2 (Ab hz2))⟩,by omega⟩,uD,⟨zP uO,trivial⟩,uK,zo (by simp [B3])⟩;refine gz2 ?_;refine zcK ?_;refine gz7 ?_;refine zav (zaR 4 (i:=1) rfl rfl) rfl ⟨L,a2,rfl,⟨hL,hLb⟩,by omega,rfl⟩
end
section
open Go.HL
set_option linter.unusedSimpArgs false
end
end Go.Proofs.YtpgopgjleokciaaGreatDoor
namespace Go.HL
section
variable {P:Program}
open Go.Sort Go.Proofs
end
end Go.HL
namespace Go.Proofs.YtpgopgjleokciaaGreatDoor
set_option maxRecDepth 100000
set_option linter.unusedVariables false
set_option linter.unusedSimpArgs false
section
open Go.Proofs.Tryz
open Go.HL
theorem zf9 [Tracks] {l:List StatS} {fid:FuncId} {caps:List HVal} {p:StatS->Bool} (hca:Callable prog fid) (hp: ∀x,ConP prog fid ([zbf x]++caps) (.bool (p x))) (hl:l.length<=1000000):ConP prog 315 [.slice 2 (l.map zbf),.fn (.func fid) [] caps] (.int .i64 (zW p l 0)):=by
 refine uOb func315 ntmps315 ?_;refine zaw ?_;refine uT1 [4,2,8,11] (fun k=>[(8,.int .i64 k)]) (fun k=>[]) (fun k=>k<=l.length/\(zW p l 0=zW p (l.drop k) k)) (fun k=>l.length-k) (0) ?_ ?_;exact ⟨Ad _,rfl⟩;rintro k ⟨hk,hg⟩;refine gz4 ?_;refine uCo (fun h1=> ?_) fun h2=> ?_
 obtain ⟨x,hx⟩: ∃x,l[k]? =some x:=⟨_,Aa h1⟩
 have hdx:=zk hx;rw [hdx] at hg;refine zdu ?_;refine dq (zap hca rfl rfl (WeakL.refl _) (hp _)) ?_;refine gz1 ?_;refine uCo (fun h3=> ?_) fun h4=> ?_
 refine gz5 ?_;refine uRp ?_
 (rw [hg];simp_all [zW])
 refine gz7 ?_;refine ⟨k+1,?_,?_,⟨rfl,trivial⟩,uK,Ac _⟩
 refine ⟨by omega,?_⟩
 rw [hg,zW,if_neg uSa];rfl
 dsimp only;omega
 have hnk:l.length<=k:=by omega
 obtain rfl:k=l.length:=by omega
 rw [zH (Af _)] at hg;refine gz2 ?_;refine zv ?_;refine gz6 ?_;refine uRp ?_
 (rw [hg];rfl)
theorem zll [Tracks] {l:List Int} {z:Int} (hl:l.length<=1000000):ConP prog 261 [.slice 1 (l.map (.int .i64)),.int .i64 z] (.int .i64 (zW (· ==z) l 0)):=by
 refine uOb func261 ntmps261 ?_;refine zaw ?_;refine uT1 [4,2,8,11] (fun k=>[(8,.int .i64 k)]) (fun k=>[]) (fun k=>k<=l.length/\(zW (· ==z) l 0=zW (· ==z) (l.drop k) k)) (fun k=>l.length-k) (0) ?_ ?_;exact ⟨Ad _,rfl⟩;rintro k ⟨hk,hg⟩;refine gz4 ?_;refine uCo (fun h1=> ?_) fun h2=> ?_
 obtain ⟨x,hx⟩: ∃x,l[k]? =some x:=⟨_,Aa h1⟩
 have hdx:=zk hx;rw [hdx] at hg;refine zpW ?_;refine uCo (fun h3=> ?_) fun h4=> ?_
 refine gz5 ?_;refine uRp ?_
 (rw [hg];simp_all [zW])
 refine gz7 ?_;refine ⟨k+1,?_,?_,⟨rfl,trivial⟩,uK,Ac _⟩
 refine ⟨by omega,?_⟩
 rw [hg,zW,if_neg (by simp_all;try omega)];rfl
 dsimp only;omega
 have hnk:l.length<=k:=by omega
 obtain rfl:k=l.length:=by omega
 rw [zH (Af _)] at hg;refine gz2 ?_;refine zv ?_;refine gz6 ?_;refine uRp ?_
 (rw [hg];rfl)
theorem zfN [Tracks] {l:List Int} {z:Int} (hl:l.length<=1000000):ConP prog 199 [.slice 1 (l.map (.int .i64)),.int .i64 z] (.bool (l.contains z)):=by
 refine uOb func199 ntmps199 ?_;refine gz6 ?_;refine dq (uCl zFO rfl (zll (by assumption))) ?_;refine gz4 ?_;refine zw rfl ?_
 show HVal.bool _=_
 rw [zto,<-zdd _ l 0 uO]
theorem zeQ [Tracks] {n:Int}:ConP prog 123 [.int .i64 n] (.int .i64 (if zaQ n then 0 else 1)):=by
 refine uOb func123 ntmps123 ?_;refine gz5 ?_;refine dq (uCl zBu rfl zhw) ?_;refine gz3 ?_;refine uRp ?_;unfold zaQ
 cases out n 1 60<;>rfl
theorem zlU [Tracks] {p:Play} (hgp:zdp p):ConP prog 120 [zau p] (.int .i64 (playFault p)):=by
 refine uOb func120 ntmps120 ?_;refine gz9 ?_;refine dq (uCl zjy rfl (zbP hgp.1)) ?_;refine gz3 ?_;refine uCo (fun h1=> ?_) fun h2=> ?_
 refine gz4 ?_;refine uRp ?_
 simp_all [playFault]
 refine gz3 ?_;refine dq (uCl zmG rfl zc2) ?_;refine gz4 ?_;refine uGr rfl (fun hc=>uCl ztx rfl zc0) ?_;refine gz5 ?_;refine uGr rfl (fun hc=>uCl zwX rfl zeQ) ?_;refine gz4 ?_;refine uCo (fun h3=> ?_) fun h4=> ?_
 refine gz4 ?_;refine uRp ?_
 simp_all [playFault]
 refine gz3 ?_;refine dq (uCl zjy rfl (zbP hgp.2.1)) ?_;refine gz4 ?_;refine uGr rfl (fun hc=>uCl zjy rfl (zbP hgp.2.2.1)) ?_;refine gz5 ?_;refine uGr rfl (fun hc=>uCl zjy rfl (zbP hgp.2.2.2)) ?_;refine gz4 ?_;refine uCo (fun h5=> ?_) fun h6=> ?_
 refine gz4 ?_;refine uRp ?_
 simp_all [playFault]
 refine gz3 ?_;refine dq (uCl zmG rfl zc2) ?_;refine gz6 ?_;have hN:=zfk (n:=p.No) (lo:=1) (hi:=3000) uSa;refine gz1 ?_;refine uGr rfl (fun hc=>uCl zmG rfl zc2) ?_;refine gz4 ?_;refine uCo (fun h7=> ?_) fun h8=> ?_
 refine gz4 ?_;refine uRp ?_
 simp_all [playFault]
 refine zct ?_;refine uCo (fun h9=> ?_) fun h10=> ?_
 refine gz4 ?_;refine uRp ?_
 simp_all [playFault]
 refine gz7 ?_;refine uRp ?_
 simp_all [playFault]
theorem znQ [Tracks] {a b:Play}:ConP prog 121 [zau a,zau b] (.int .i64 (byNo a b)):=by
 refine uOb func121 ntmps121 ?_;refine gz5 ?_;refine uDr mixed ?_;refine gz4 ?_;refine uB 4 rfl (uCl zcf rfl zM) ?_;refine gz4 ?_;refine uB 9 rfl (uCl zdb rfl zV) ?_;refine uB 10 rfl (za (hs:=[_,_]) zac ty3 rfl rfl (by decide) (by decide) rfl) ?_;refine uB 11 rfl (uCl zfO rfl (zbe (l:=[_,_]) (by simp))) ?_;refine gz3 ?_;refine zw rfl ?_
 rfl
theorem zlb [Tracks] {l:List Play} (hl:l.length<=1000000) (hgl: ∀x∈l,zdp x):ConP prog 45 [zbE l] (.int .i64 (zbT l)):=by
 refine uOb func45 ntmps45 ?_;refine gz9 ?_;refine uCo (fun h1=> ?_) fun h2=> ?_
 refine gz4 ?_;refine zav Ghost.clear rfl ⟨?_,rfl⟩
 show HVal.int .i64 _=_
 (rw [zbT,if_pos uO])
 refine gz3 ?_;refine de rfl (zaI fun m12=> ?_)
 refine de rfl (zaI fun m13=> ?_)
 refine zee ?_;refine uT1 [2,1,5,4,16,48] (fun k=>[(16,.int .i64 k),(5,.bool (zbx (l.take k)).c)]) (fun k=>[.map m13 (sk (em (.int .i64) (zbx (l.take k)).W)),.map m12 (sk (zaY (zbx (l.take k)).S))]) (fun k=>k<=l.length/\(zb7 l 0 l=zb7 l k (l.drop k)/\∀y∈l.take k,playFault y=0)) (fun k=>l.length-k) (0) ?_ ?_;exact ⟨Ad _,rfl,by simp⟩;rintro k ⟨hk,hg,hok⟩;refine gz4 ?_;refine uCo (fun h3=> ?_) fun h4=> ?_
 obtain ⟨x,hx⟩: ∃x,l[k]? =some x:=⟨_,Aa h3⟩
 have hdx:=zk hx;rw [hdx] at hg;refine gz8 ?_;refine de rfl (zj zb3 rfl fun b7=> ?_)
 refine gz1 ?_;refine de0 (zn zb3 rfl rfl rfl rfl rfl ?_)
 refine gz1 ?_;refine ze (zm 7 rfl) ?_;refine gz3 ?_;refine dq (uCl zEu rfl (zlU (hgl x (Ab hx)))) ?_;refine gz6 ?_;refine uCo (fun h5=> ?_) fun h6=> ?_
 refine gz5 ?_;refine zav Ghost.clear rfl ⟨?_,rfl⟩
 show HVal.int .i64 _=_
 (rw [zkZ uO (by rw [hg,zb7,if_pos (by simpa using h5)]) (by simpa using h5)])
 refine gz3 ?_;refine uDr mixed ?_;refine gz6 ?_;refine uGy 6 rfl rfl (fun hc=>by have hq:=hc;(try simp at hq);exact zA (j:=k-1) (a:=l.getD (k-1) zmY) zht zb3 rfl rfl uO (getD_some uO)) ?_;refine gz2 ?_;refine uGy 9 rfl rfl (fun hc=>uCl zEv rfl znQ) ?_;refine gz3 ?_;refine uCo (fun h7=> ?_) fun h8=> ?_
 refine gz4 ?_;refine zav Ghost.clear rfl ⟨?_,rfl⟩
 show HVal.int .i64 _=_
 (rw [zkZ (c:=7) uO (by rw [hg,zb7,if_neg (by simpa using h6),if_pos (by obtain ⟨qa,qb⟩:=h7;have qb':0<=byNo (l.getD (k-1) zmY) x:=(by simpa using qb);rw [zsj];exact ⟨by omega,by omega⟩)]) (by decide)])
 refine gz6 ?_;refine de0 (zc3 (i:=1) ziQ ty9 rfl rfl rfl rfl ?_)
 refine gz7 ?_;refine dgl rfl rfl (fun hc=>⟨_,OpenTo.upd (t:=45) rfl (hc) (OpenTo.upd (t:=43) rfl (hc) (OpenTo.refl _)),zfB (i:=0) (z0:=(0:Int)) zeP ty9 ty3 rfl rfl rfl rfl ⟨rfl,rfl⟩⟩) ?_;refine gz5 ?_;refine dgl rfl rfl (fun hc=>⟨_,OpenTo.upd (t:=51) rfl (hc) (OpenTo.upd (t:=49) rfl (hc) (OpenTo.refl _)),zfB (i:=0) (z0:=(0:Int)) zeP ty9 ty3 rfl rfl rfl rfl ⟨rfl,rfl⟩⟩) ?_;refine zee ?_;refine de0 (zdK (i:=0) zeP ty9 rfl rfl rfl rfl ?_)
 refine gz7 ?_;refine ⟨k+1,⟨by omega,?_,?_⟩,uD,⟨rfl,?_,trivial⟩,uK,?_⟩
 rw [hg,zmZ (by simpa using h6) (fun hk0=>by have hz:=h8;rw [zsj] at hz;simp_all;try omega)]
 intro y hy
 rw [zaf hx] at hy
 rcases List.mem_append.1 hy with hy|hy
 exact hok y hy;rw [List.mem_singleton.1 hy];simpa using h6;rw [zfg hx,<-zCg hok];exact congrArg (fun b=>some (HVal.bool b)) (by cases (zbx (l.take k)).c<;>simp);exact zo (by dsimp only;rw [zfg hx];rfl);have hnk:l.length<=k:=by omega
 obtain rfl:k=l.length:=by omega
 rw [zH (Af _)] at hg;rw [Ak];refine gz2 ?_;refine zv ?_;refine gz4 ?_;have e1:(sk (zaY (zbx l).S)).length=(zbx l).S.length:=by simp [sk,zaY]
 have e2:(sk (em (HVal.int .i64) (zbx l).W)).length=(zbx l).W.length:=by simp [sk]
 refine gz2 ?_;refine de rfl (zer (i:=1) ziQ rfl rfl ?_)
 refine gz3 ?_;refine dgl rfl rfl (fun hc=>⟨_,OpenTo.upd (t:=69) rfl (hc) (OpenTo.refl _),zer (i:=0) zeP rfl rfl ⟨rfl,rfl⟩⟩) ?_;refine gz4 ?_;refine uCo (fun h9=> ?_) fun h10=> ?_
 refine gz4 ?_;refine zav Ghost.clear rfl ⟨?_,rfl⟩
 show HVal.int .i64 _=_
 (rw [zfE uO hg,ze8,if_pos uO])
 refine gz4 ?_;refine uCo (fun h11=> ?_) fun h12=> ?_
 refine gz4 ?_;refine zav Ghost.clear rfl ⟨?_,rfl⟩
 show HVal.int .i64 _=_
 (rw [zfE uO hg,ze8,if_neg uO,if_pos (by assumption)])
 refine gz7 ?_;refine zav Ghost.clear rfl ⟨?_,rfl⟩
 show HVal.int .i64 _=_
 (rw [zfE uO hg,ze8,if_neg uO,if_neg uSa])
theorem zlc [Tracks] {l:List Str} (hl:l.length<=1000000) (hs: ∀s∈l,Sh s):ConP prog 115 [eSs l] (.int .i64 (zcb l)):=by
 refine uOb func115 ntmps115 ?_;refine gz9 ?_;refine uCo (fun h1=> ?_) fun h2=> ?_
 refine gz4 ?_;refine uRp ?_
 (rw [zcb,if_pos uO])
 refine gz9 ?_;refine uT1 [2,3,10,16] (fun k=>[(10,.int .i64 k)]) (fun k=>[]) (fun k=>k<=l.length/\(zcb l=zeo l k (l.drop k))) (fun k=>l.length-k) (0) ?_ ?_;refine ⟨Ad _,?_⟩
 rw [zcb,if_neg uO];rfl;rintro k ⟨hk,hg⟩;refine gz4 ?_;refine uCo (fun h3=> ?_) fun h4=> ?_
 obtain ⟨x,hx⟩: ∃x,l[k]? =some x:=⟨_,Aa h3⟩
 have hdx:=zk hx;rw [hdx] at hg;refine zdu ?_;refine dq (uCl zjy rfl (zbP (hs x (Ab hx)))) ?_;refine gz3 ?_;refine uCo (fun h5=> ?_) fun h6=> ?_
 refine gz4 ?_;refine uRp ?_
 (rw [hg];simp_all [zeo])
 refine gz3 ?_;refine dq (zaP zq ty9 rfl rfl ⟨_,_,rfl,rfl⟩ uO uO) ?_;refine gz1 ?_;refine dq (uCl zhj rfl (zK uSo)) ?_;refine gz2 ?_;refine uCo (fun h7=> ?_) fun h8=> ?_
 refine gz4 ?_;refine uRp ?_
 (rw [hg];simp_all [zeo])
 refine gz8 ?_;refine ⟨k+1,?_,?_,⟨rfl,trivial⟩,uK,Ac _⟩
 refine ⟨by omega,?_⟩
 rw [hg];simp_all [zeo]
 dsimp only;omega
 have hnk:l.length<=k:=by omega
 obtain rfl:k=l.length:=by omega
 rw [zH (Af _)] at hg;refine gz2 ?_;refine zv ?_;refine gz6 ?_;refine uRp ?_
 (rw [hg];simp_all [zeo])
end
end Go.Proofs.YtpgopgjleokciaaGreatDoor
namespace Go.HL
section
open Go.Proofs Go.Shelf
variable {P:Program}
end
section

end
section
section
variable {P:Program}
end
section
variable {P:Program} {e:Env} {dst:Option Tmp} {ty:TypeId} {pos:String} {af:Array Edge} {g:Option (Nat×Bool)}
end
end
section
section
variable {P:Program}
end
end
end Go.HL
namespace Go.Proofs.YtpgopgjleokciaaGreatDoor
set_option maxRecDepth 100000
set_option linter.unusedVariables false
set_option linter.unusedSimpArgs false
section
open Go.Proofs.Tryz
open Go.HL
theorem zrx [Tracks] {x:Nat} (hx:x<16):Con prog 252 [.int .u64 (x:Int)] [] (fun y M'=> ∃n:Int,y= .int .i64 n/\M'=[]):=by
 refine uOb func252 ntmps252 ?_;refine gz8 ?_;refine zZ rfl (fun h1=> ?_) (fun h1=> ?_)
 exfalso
 try simp at h1
 omega
 try simp at h1
 refine gz7 ?_;refine zZ rfl (fun h2=> ?_) (fun h2=> ?_)
 exfalso
 try simp at h2
 omega
 try simp at h2
 refine gz7 ?_;refine zZ rfl (fun h3=> ?_) (fun h3=> ?_)
 exfalso
 try simp at h3
 omega
 try simp at h3
 refine gz5 ?_;refine dq (zcd zpe ty5 rfl) ?_;refine dq (zaO (j:=x) ty9 rfl rfl (zGQ hx) (Aa (Nat.lt_of_lt_of_le hx (Ap (by kernel_rfl))))) ?_;refine dq (zcd ty5 ty3 rfl) ?_;refine dq (zo6 rfl rfl) ?_;refine gz3 ?_;exact zah rfl ⟨_,rfl,rfl⟩
theorem zuh [Tracks] {x:Nat} (hx:x<16):Con prog 184 [.int .u64 (x:Int)] [] (fun y M'=> ∃n:Int,y= .int .i64 n/\M'=[]):=by
 refine uOb func184 ntmps184 ?_;refine gz4 ?_;refine zdL rfl ?_;refine gz4 ?_;refine de rfl (za8 (M1:=[]) (R:=[]) zBG rfl (WeakL.refl _) (Ac _) (zrx hx) ?_)
 rintro _ _ ⟨n7,rfl,rfl⟩;refine gz3 ?_;exact zah rfl ⟨_,rfl,rfl⟩
theorem zfr [Tracks] {l:List Asset} {v:Value} {fid:FuncId} {caps:List HVal} {c:Asset->Asset->Int} {n:Int} (hca:Callable prog fid) (hp: ∀x y,ConP prog fid ([zb2 x,zb2 y]++caps) (.int .i64 (c x y))) (hn:n=l.length) (hl:l.length<=1000000):Con prog 329 [.raw v,.int .i64 0,.int .i64 n,.fn (.func fid) [] caps] [.arr v 3 (l.map zb2)] (fun x M'=>x= .tup []/\M'=[.arr v 3 ((zao c l).map zb2)]):=by
 subst hn;refine uOb func329 ntmps329 ?_;refine gz6 ?_;refine uV1 [8,2,12,41] (fun (k:Nat)=>[(8,.int .i64 (k:Int))]) (fun (k:Nat)=>[.arr v 3 ((zao c (l.take k)++l.drop k).map zb2)]) (fun (k:Nat)=>1<=k) (fun (k:Nat)=>l.length-k) (1) ?_ ?_ ?_ ?_;exact Af _;exact ⟨rfl,trivial⟩;exact zo (by rw [zlx])
 intro k hk
 refine gz6 ?_;refine uCo (fun h1=> ?_) fun h2=> ?_
 obtain ⟨x,hx⟩: ∃x,l[k]? =some x:=⟨_,Aa uO⟩
 refine zcS (i:=0) rfl (fun h0 he=> ?_) (fun b off cap hv hcap=> ?_)
 exfalso;have:=congrArg List.length he;simp [za9] at this;omega
 rw [show ((zao c (l.take k)++l.drop k).map zb2).length=l.length by simp [za9];omega] at hv;subst hv;refine gz9 ?_;refine uV2 [9,1,18,35] (fun (A:List Asset) (B:List Asset)=>[(9,.int .i64 (A.length:Int))]) (fun (A:List Asset) (B:List Asset)=>[.arr (.slice (some ⟨b,off,none⟩) l.length cap) 3 ((A++x::(B++l.drop (k+1))).map zb2)]) (fun (A:List Asset) (B:List Asset)=>A.length+B.length=k/\zdE c x (zao c (l.take k))=zdE c x A++B) (fun (A:List Asset) (B:List Asset)=>A.length) (zao c (l.take k)) ([]) ?_ ?_ ?_ ?_;exact ⟨by simp [za9];omega,by simp⟩;exact ⟨zP (by simp [za9];omega),trivial⟩;exact zo (by rw [zk hx];rfl)
 intro A B hinv
 obtain ⟨hA,hB⟩:=hinv;have hlA:A.length<l.length:=by omega
 have hll:((A++x::(B++l.drop (k+1)))).length=l.length:=by simp;omega
 refine gz1 ?_;refine zbW (fun M=>M=[.arr (.slice (some ⟨b,off,none⟩) l.length cap) 3 ((A++x::(B++l.drop (k+1))).map zb2)]) [8,13] mixed ?_;refine gz7 ?_;refine ahg 7 rfl rfl (by kernel_rfl) (by kernel_rfl) rfl (fun hc=>by
  have hq:0<A.length:=by simpa using hc
  exact ⟨_,OpenTo.upd (t:=24) rfl (hc) (OpenTo.upd (t:=23) rfl (hc) (OpenTo.refl _)),zx (j:=A.length) ziK zdz rfl rfl (by rfl) uO⟩) ?_
 refine zpI 8 rfl rfl (by kernel_rfl) (by kernel_rfl) (by simp) rfl rfl (fun hc=>⟨_,OpenTo.upd (t:=25) rfl (hc) (OpenTo.refl _),fun M hM=>by
  subst hM;exact zad (i:=0) (j:=A.length) zdz rfl rfl rfl zgz rfl rfl rfl ⟨rfl,rfl⟩
  ⟩) ?_
 refine gz2 ?_;refine ahg 11 rfl rfl (by kernel_rfl) (by kernel_rfl) rfl (fun hc=>by
  have hq:0<A.length:=by simpa using hc
  exact ⟨_,OpenTo.upd (t:=28) rfl (hc) (OpenTo.refl _),zex rfl rfl uO uO⟩) ?_
 refine ahg 12 rfl rfl (by kernel_rfl) (by kernel_rfl) rfl (fun hc=>by
  have hq:0<A.length:=by simpa using hc
  exact ⟨_,OpenTo.upd (t:=29) rfl (hc) (OpenTo.upd (t:=27) rfl (hc) (OpenTo.refl _)),zx (j:=A.length-1) ziK zdz rfl rfl uO uO⟩) ?_
 refine zpI 13 rfl rfl (by kernel_rfl) (by kernel_rfl) (by simp) rfl rfl (fun hc=>⟨_,OpenTo.upd (t:=30) rfl (hc) (OpenTo.refl _),fun M hM=>by
  have hq:0<A.length:=by simpa using hc
  subst hM;exact zad (i:=0) (j:=A.length-1) zdz rfl rfl rfl (zh0 hq) rfl rfl rfl ⟨rfl,rfl⟩
  ⟩) ?_
 refine uGy 14 rfl rfl (fun hc=>zap hca rfl rfl (WeakL.refl _) (hp _ _)) ?_;refine gz3 ?_;refine uCo (fun h3=> ?_) fun h4=> ?_
 obtain ⟨hA0,hcx⟩:=h3;obtain ⟨A1,y,rfl⟩:=zo9 hA0;rw [zjd] at hcx;refine gz4 ?_;refine zbk (fun M=>M=[.arr (.slice (some ⟨b,off,none⟩) l.length cap) 3 (((A1++[y])++x::(B++l.drop (k+1))).map zb2)]) [9,13] mixed ?_;refine gz8 ?_;refine uB 8 rfl (zx (j:=(A1++[y]).length-1) ziK zdz rfl rfl uO uO) ?_;refine uM 9 rfl rfl (uW (zad (i:=0) (j:=(A1++[y]).length-1) zdz rfl rfl rfl ((zh0 hA0).trans (by rw [zjd])) rfl rfl rfl ⟨rfl,rfl⟩)) ?_;refine gz2 ?_;refine uB 12 rfl (zx (j:=(A1++[y]).length) ziK zdz rfl rfl rfl uO) ?_;refine uM 13 rfl rfl (uW (zad (i:=0) (j:=(A1++[y]).length) zdz rfl rfl rfl zgz rfl rfl rfl ⟨rfl,rfl⟩)) ?_;refine uB 14 rfl (zx (j:=(A1++[y]).length) ziK zdz rfl rfl rfl uO) ?_;refine uF 15 ?_;refine zz (za5 (i:=0) (j:=(A1++[y]).length) (y:=x) (y':=y) zdz rfl rfl rfl rfl zgz rfl rfl rfl ?_)
 refine ⟨uE,?_⟩
 refine uB 16 rfl (zx (j:=(A1++[y]).length-1) ziK zdz rfl rfl uO uO) ?_;refine uF 17 ?_;refine zz (za5 (i:=0) (j:=(A1++[y]).length-1) (y:=y) (y':=x) zdz rfl rfl rfl rfl (by rw [A0 (by simp)];exact (zh0 hA0).trans (by rw [zjd])) rfl rfl rfl ?_)
 refine ⟨uE,?_⟩
 refine gz8 ?_;exact ⟨A1,y::B,⟨by simp at hA⊢;omega,zpZ hB hcx⟩,by dsimp only;simp,⟨zP (by simp),trivial⟩,uK,zo (by rw [zp8];rfl)⟩;have hins:=zpY (l:=l) (k:=k) hx hB (by intro h0;have:=h4 h0;omega);refine gz2 ?_;refine zN ?_;refine gz8 ?_;refine ⟨k+1,?_,?_,⟨rfl,trivial⟩,uK,zo (by rw [hins])⟩
 omega
 dsimp only;omega
 have hend:zao c (l.take k)++l.drop k=zao c l:=by rw [A3 uO,zH uO];simp
 refine gz2 ?_;refine zv ?_;refine gz1 ?_;exact ⟨_,_,Ghost.sub (Sub.refl _),_,_,rfl,Weak.refl _,rfl,by rw [hend]⟩
theorem zgT [Tracks] {l:List Asset} {v:Value} {fid:FuncId} {caps:List HVal} {c:Asset->Asset->Int} {lim:Int} (hca:Callable prog fid) (hp: ∀x y,ConP prog fid ([zb2 x,zb2 y]++caps) (.int .i64 (c x y))) (hl:l.length<=12):Con prog 285 [.raw v,.int .i64 0,.int .i64 (l.length:Int),.int .i64 lim,.fn (.func fid) [] caps] [.arr v 3 (l.map zb2)] (fun x M'=>x= .tup []/\M'=[.arr v 3 ((zao c l).map zb2)]):=by
 refine uOb func285 ntmps285 ?_;refine gz7 ?_;refine uU1 [1,3,10,138] (fun (u:Unit)=>[(1,.int .i64 0),(2,.int .i64 (l.length:Int))]) (fun (u:Unit)=>[.arr v 3 (l.map zb2)]) (fun (u:Unit)=>True) (fun (u:Unit)=>0) (()) ?_ ?_
 trivial
 intro u hu
 refine zdl ?_;refine zZ rfl (fun h1=> ?_) (fun h1=> ?_)
 try simp at h1
 refine gz5 ?_;refine de rfl (uCx 0 zGd rfl rfl (zfr (l:=l) hca hp uO uO) ?_)
 rintro _ _ ⟨rfl,rfl⟩;refine gz2 ?_;exact zah rfl ⟨rfl,rfl⟩
 exfalso
 try simp at h1
 omega
theorem zfW [Tracks] {l:List Asset} {v:Value} {fid:FuncId} {caps:List HVal} {c:Asset->Asset->Int} (hca:Callable prog fid) (hp: ∀x y,ConP prog fid ([zb2 x,zb2 y]++caps) (.int .i64 (c x y))) (hl:l.length<=12):Con prog 235 [.raw v,.fn (.func fid) [] caps] [.arr v 3 (l.map zb2)] (fun x M'=>x= .tup []/\M'=[.arr v 3 ((zao c l).map zb2)]):=by
 refine uOb func235 ntmps235 ?_;refine gz2 ?_;refine de rfl (zaX (i:=0) ziK rfl rfl ?_)
 refine gz6 ?_;refine dq (zS (zcd ty3 zk4 rfl) (congrArg _ (zDn uO))) ?_;refine de rfl (za8 (M1:=[]) (R:=[_]) zBq rfl (WeakL.refl _) (Ac _) (zuh (x:=l.length) uO) ?_)
 rintro _ _ ⟨n11,rfl,rfl⟩;refine gz1 ?_;refine de rfl (uCx 0 zF6 rfl rfl (zgT hca hp hl) ?_)
 rintro _ _ ⟨rfl,rfl⟩;refine gz1 ?_;exact ⟨_,_,Ghost.sub (Sub.refl _),_,_,rfl,Weak.refl _,rfl,rfl⟩
end
section
open Go.HL
set_option linter.unusedSimpArgs false
end
section
open Go.Proofs.Tryz
open Go.HL
theorem zn7 [Tracks] {x:Asset}:ConP prog 161 [zb2 x] (.int .i64 (assetFault x)):=by
 refine uOb func161 ntmps161 ?_;refine gz9 ?_;refine dq (uCl zcD rfl zak) ?_;refine gz4 ?_;refine uGr rfl (fun hc=>uCl zcD rfl zak) ?_;refine gz4 ?_;refine uCo (fun h1=> ?_) fun h2=> ?_
 refine gz4 ?_;refine uRp ?_
 simp_all [assetFault]
 refine gz3 ?_;refine dq (uCl zbH rfl zal) ?_;refine gz2 ?_;refine uCo (fun h3=> ?_) fun h4=> ?_
 refine gz4 ?_;refine uRp ?_
 simp_all [assetFault]
 refine gz7 ?_;refine uRp ?_
 simp_all [assetFault]
theorem znA [Tracks] {l:List Asset} (hl:l.length<=1000000):ConP prog 72 [zjO l] (.int .i64 (zdI l)):=by
 refine uOb func72 ntmps72 ?_;refine gz9 ?_;refine uCo (fun h1=> ?_) fun h2=> ?_
 refine gz4 ?_;refine uRp ?_
 (rw [zdI,if_pos uO])
 refine gz9 ?_;refine uT1 [2,4,11,24] (fun k=>[(11,.int .i64 k)]) (fun k=>[]) (fun k=>k<=l.length/\(zdI l=zfb l k (l.drop k))) (fun k=>l.length-k) (0) ?_ ?_;refine ⟨Ad _,?_⟩
 rw [zdI,if_neg uO];rfl;rintro k ⟨hk,hg⟩;refine gz4 ?_;refine uCo (fun h3=> ?_) fun h4=> ?_
 obtain ⟨x,hx⟩: ∃x,l[k]? =some x:=⟨_,Aa h3⟩
 have hdx:=zk hx;rw [hdx] at hg;refine gz8 ?_;refine de rfl (zj zdz rfl fun b4=> ?_)
 refine gz1 ?_;refine de0 (zn zdz rfl rfl rfl rfl rfl ?_)
 refine gz1 ?_;refine ze (zm 4 rfl) ?_;refine gz3 ?_;refine dq (uCl zEU rfl zn7) ?_;refine gz6 ?_;refine uCo (fun h5=> ?_) fun h6=> ?_
 refine gz5 ?_;refine uRp ?_
 (rw [hg];simp_all [zfb,leS])
 refine gz2 ?_;refine uDr mixed ?_;refine gz8 ?_;refine uGy 8 rfl rfl (fun hc=>by have hq:=hc;(try simp at hq);exact zA (j:=k-1) (a:=l.getD (k-1) zj1) ziK zdz rfl rfl uO (getD_some uO)) ?_;refine gz5 ?_;refine uCo (fun h7=> ?_) fun h8=> ?_
 refine gz4 ?_;refine uRp ?_
 (rw [hg];simp_all [zfb,leS])
 refine gz7 ?_;refine ⟨k+1,?_,?_,⟨rfl,trivial⟩,uK,Ac _⟩
 refine ⟨by omega,?_⟩
 rw [hg];simp_all [zfb,leS]
 dsimp only;omega
 have hnk:l.length<=k:=by omega
 obtain rfl:k=l.length:=by omega
 rw [zH (Af _)] at hg;refine gz2 ?_;refine zv ?_;refine gz6 ?_;refine uRp ?_
 (rw [hg];simp_all [zfb,leS])
theorem znB [Tracks] {l:List HL.Place} (hl:l.length<=1000000):ConP prog 73 [zoY l] (.int .i64 (zdJ l)):=by
 refine uOb func73 ntmps73 ?_;refine gz9 ?_;refine uCo (fun h1=> ?_) fun h2=> ?_
 refine gz4 ?_;refine uRp ?_
 (rw [zdJ,if_pos uO])
 refine gz9 ?_;refine uT1 [2,3,10,29] (fun k=>[(10,.int .i64 k)]) (fun k=>[]) (fun k=>k<=l.length/\(zdJ l=zeD l k (l.drop k))) (fun k=>l.length-k) (0) ?_ ?_;refine ⟨Ad _,?_⟩
 rw [zdJ,if_neg uO];rfl;rintro k ⟨hk,hg⟩;refine gz4 ?_;refine uCo (fun h3=> ?_) fun h4=> ?_
 obtain ⟨x,hx⟩: ∃x,l[k]? =some x:=⟨_,Aa h3⟩
 have hdx:=zk hx;rw [hdx] at hg;refine gz8 ?_;refine de rfl (zj zoS rfl fun b4=> ?_)
 refine gz1 ?_;refine de0 (zn zoS rfl rfl rfl rfl rfl ?_)
 refine gz1 ?_;refine ze (zm 4 rfl) ?_;refine gz4 ?_;refine dq (uCl zcD rfl zak) ?_;refine gz3 ?_;refine uCo (fun h5=> ?_) fun h6=> ?_
 refine gz4 ?_;refine uRp ?_
 (rw [hg];simp_all [zeD,leS])
 refine gz3 ?_;refine dq (uCl zbH rfl zal) ?_;refine gz2 ?_;refine uCo (fun h7=> ?_) fun h8=> ?_
 refine gz4 ?_;refine uRp ?_
 (rw [hg];simp_all [zeD,leS])
 refine uDr mixed ?_;refine gz8 ?_;refine uGy 8 rfl rfl (fun hc=>by have hq:=hc;(try simp at hq);exact zA (j:=k-1) (a:=l.getD (k-1) zu4) zA4 zoS rfl rfl uO (getD_some uO)) ?_;refine gz6 ?_;refine uCo (fun h9=> ?_) fun h10=> ?_
 refine gz4 ?_;refine uRp ?_
 (rw [hg];simp_all [zeD,leS])
 refine gz8 ?_;refine ⟨k+1,?_,?_,⟨rfl,trivial⟩,uK,Ac _⟩
 refine ⟨by omega,?_⟩
 rw [hg];simp_all [zeD,leS]
 dsimp only;omega
 have hnk:l.length<=k:=by omega
 obtain rfl:k=l.length:=by omega
 rw [zH (Af _)] at hg;refine gz2 ?_;refine zv ?_;refine gz6 ?_;refine uRp ?_
 (rw [hg];simp_all [zeD,leS])
theorem zqB [Tracks] {x y:Asset}:ConP prog 236 [zb2 x,zb2 y] (.int .i64 (byValue x y)):=by
 refine uOb func236 ntmps236 ?_;refine gz5 ?_;refine uDr mixed ?_;refine gz4 ?_;refine uB 4 rfl (uCl zdb rfl zV) ?_;refine gz4 ?_;refine uB 9 rfl (uCl zcf rfl zM) ?_;refine uB 10 rfl (za (hs:=[_,_]) zac ty3 rfl rfl (by decide) (by decide) rfl) ?_;refine uB 11 rfl (uCl zfO rfl (zbe (l:=[_,_]) (by simp))) ?_;refine gz3 ?_;refine zw rfl ?_
 rfl
theorem zwV [Tracks] {l:List Asset} {pos:Str} (hl:l.length<=12):ConP prog 162 [zjO l,.str pos] (zjO (ofP l pos)):=by
 refine uOb func162 ntmps162 ?_;refine gz6 ?_;refine ze (zL 3) ?_;refine gz7 ?_;refine uV2 [5,1,7,1,10,13] (fun (k:Nat) (u:Value)=>[(10,.int .i64 k),(5,.raw u)]) (fun (k:Nat) (u:Value)=>[.arr u 3 ((zhP (l.take k) pos).map zb2)]) (fun (k:Nat) (u:Value)=>k<=l.length/\(True)) (fun (k:Nat) (u:Value)=>l.length-k) (0) (.slice none 0 0) ?_ ?_ ?_ ?_;exact ⟨Ad _,by simp_all⟩;exact ⟨rfl,rfl,trivial⟩;exact zo (by simp [zhP])
 intro k u hinv
 obtain ⟨hk,-⟩:=hinv;refine gz4 ?_;refine uCo (fun h1=> ?_) fun h2=> ?_
 obtain ⟨x,hx⟩: ∃x,l[k]? =some x:=⟨_,Aa h1⟩
 have hdx:=zk hx;refine gz7 ?_;refine de rfl (zj zdz rfl fun b7=> ?_)
 refine de0 (zn zdz rfl rfl rfl rfl rfl ?_)
 refine gz1 ?_;refine ze (zm 7 rfl) ?_;refine gz6 ?_;refine uCo (fun h3=> ?_) fun h4=> ?_
 refine gz3 ?_;refine dq (za (hs:=[_]) ziK zdz rfl rfl (by decide) (by decide) rfl) ?_;have hal:(zhP (l.take k) pos).length<=12:=Aq (zpJ _ _) uSo;refine de rfl (zI (i:=0) ziK zdz rfl rfl rfl rfl rfl (by simp [zaq,zd]) uSo fun v21=> ?_)
 refine gz8 ?_;exact ⟨k+1,_,⟨by omega,trivial⟩,uD,⟨rfl,rfl,trivial⟩,uK,zo (by dsimp only;rw [zqh hx,if_pos uSa];simp)⟩;refine gz7 ?_;exact ⟨k+1,_,⟨by omega,trivial⟩,uD,⟨rfl,rfl,trivial⟩,uK,zo (by dsimp only;rw [zqh hx,if_neg uSa];simp)⟩;have hnk:l.length<=k:=by omega
 obtain rfl:k=l.length:=by omega
 rw [Ak];refine gz2 ?_;refine zN ?_;refine gz2 ?_;have hal:=zpJ l pos;refine gz2 ?_;refine de rfl (uCx 0 zFE rfl rfl (zfW (l:=zhP l pos) (c:=byValue) (caps:=[]) zFF (fun x y=>zqB) uO) ?_)
 rintro _ _ ⟨rfl,rfl⟩;refine gz6 ?_;exact zl7 (M:=[]) 4 rfl rfl rfl
theorem zqC [Tracks] {l:List Asset} {p:List HL.Place} (hl:l.length<=12) (hp:p.length<=10) (hm: ∀x∈p,0<=x.Many) (hv: ∀x∈l,-1000000<=x.Value/\x.Value<=1000000):ConP prog 74 [zjO l,zoY p] (.tup [.int .i64 (ze1 (zaD (ofP l) p)),eSs (zq2 (zaD (ofP l) p))]):=by
 have hon: ∀s,(ofP l s).length<=12:=fun s=>Aq (zCQ l s) hl
 refine uOb func74 ntmps74 ?_;refine zaw ?_;refine ze (zL 1) ?_;refine gz7 ?_;refine uV2 [6,2,9,2,12,1,15,34] (fun (i:Nat) (u:Value)=>[(15,.int .i64 i),(6,.int .i64 (ze1 (zaD (ofP l) (p.take i)))),(7,.raw u)]) (fun (i:Nat) (u:Value)=>[.arr u 1 (((zaD (ofP l) (p.take i)).map (·.Player)).map .str)]) (fun (i:Nat) (u:Value)=>i<=p.length/\(True)) (fun (i:Nat) (u:Value)=>p.length-i) (0) (.slice none 0 0) ?_ ?_ ?_ ?_;exact ⟨Ad _,by simp_all⟩;exact ⟨rfl,zP (by simp [zaD,ze1]),rfl,trivial⟩;exact zo (by simp [zaD])
 intro i u hinv
 obtain ⟨hi,-⟩:=hinv;refine gz4 ?_;refine uCo (fun h1=> ?_) fun h2=> ?_
 obtain ⟨x,hx⟩: ∃x,p[i]? =some x:=⟨_,Aa h1⟩
 have hdx:=zk hx;refine gz7 ?_;refine de rfl (zj zoS rfl fun b9=> ?_)
 refine de0 (zn zoS rfl rfl rfl rfl rfl ?_)
 refine gz1 ?_;refine ze (zm 9 rfl) ?_;refine gz4 ?_;refine dq (uCl zEV rfl (zwV (by assumption))) ?_;refine gz2 ?_;have hx0:=hm x (Ab hx);have hon1:=hon x.Position;obtain ⟨N,hN⟩: ∃N:Nat,(if ((ofP l x.Position).length:Int)<x.Many then ((ofP l x.Position).length:Int) else x.Many)=(N:Int):=⟨_,(Int.toNat_of_nonneg (by split<;>omega)).symm⟩
 have hNle:N<=(ofP l x.Position).length:=by split at hN<;>omega
 refine gz6 ?_;refine dq (zS (zC2 rfl rfl) (congrArg _ hN)) ?_;refine dq (zaP (h:=N) ziK zdz rfl rfl ⟨_,_,rfl,rfl⟩ uO hNle) ?_;refine gz3 ?_;have hCl:((List.drop 0 (List.take N (ofP l x.Position)))).length<=12:=by simp;omega
 have hCm: ∀y∈(List.drop 0 (List.take N (ofP l x.Position))),y∈l:=fun y hy=>by
  have:=AL (List.mem_of_mem_drop hy);unfold ofP zhP at this;exact (List.mem_filter.1 ((zeu _).1 this)).1
 generalize hCd:List.drop 0 (List.take N (ofP l x.Position))=C at*
 refine gz1 ?_;refine uV2 [6,2,12,1,31,17] (fun (k:Nat) (w:Value)=>[(31,.int .i64 k),(6,.int .i64 (ze1 ((zaD (ofP l) (p.take i))++((C.take k).filter (fun y=>decide (0<y.Value)))))),(7,.raw w)]) (fun (k:Nat) (w:Value)=>[.arr w 1 ((((zaD (ofP l) (p.take i))++((C.take k).filter (fun y=>decide (0<y.Value)))).map (·.Player)).map .str)]) (fun (k:Nat) (w:Value)=>k<=C.length/\(True)) (fun (k:Nat) (w:Value)=>C.length-k) (0) (u) ?_ ?_ ?_ ?_;exact ⟨Ad _,by simp_all⟩;exact ⟨rfl,zP (by simp),rfl,trivial⟩;exact zo (by simp)
 intro k w hinv
 obtain ⟨hk,-⟩:=hinv;refine gz4 ?_;refine uCo (fun h3=> ?_) fun h4=> ?_
 obtain ⟨y,hy⟩: ∃y,C[k]? =some y:=⟨_,Aa h3⟩
 have hdy:=zk hy;refine gz7 ?_;refine de rfl (zj zdz rfl fun b12=> ?_)
 refine de0 (zn zdz rfl rfl rfl rfl rfl ?_)
 refine gz1 ?_;refine ze (zm 12 rfl) ?_;refine gz5 ?_;refine uCo (fun h5=> ?_) fun h6=> ?_
 refine gz4 ?_;have hb1:=zuA (f:=ofP l) (p:=p) (i:=i) (fun s m y=>zqW) hon hp hv;have hb2:=zD4 (k:=k) hCm hCl hv;have hb3:=hv y (hCm y (Ab hy));have hb4:=zvp (zaD (ofP l) (p.take i)) ((C.take k).filter (fun y=>decide (0<y.Value)));refine gz7 ?_;refine dq (za (hs:=[_]) zq ty9 rfl rfl (by decide) (by decide) rfl) ?_;refine de rfl (zI (i:=0) zq ty9 rfl rfl rfl rfl rfl (by simp [zaq,zd]) (by simp only [Ah,Av,Ai,AC];omega) fun v46=> ?_)
 refine gz8 ?_;exact ⟨k+1,_,⟨by omega,trivial⟩,uD,⟨rfl,zP (by rw [zm2 hy,if_pos uSa,<-AV,zvp _ [y]];simp [ze1]),rfl,trivial⟩,uK,zo (by dsimp only;rw [zm2 hy,if_pos uSa];simp)⟩;refine gz7 ?_;exact ⟨k+1,_,⟨by omega,trivial⟩,uD,⟨rfl,zP (by rw [zm2 hy,if_neg uO];simp),rfl,trivial⟩,uK,zo (by dsimp only;rw [zm2 hy,if_neg uO];simp)⟩;have hnk:C.length<=k:=by omega
 obtain rfl:k=C.length:=by omega
 refine gz2 ?_;refine zN ?_;refine gz7 ?_;exact ⟨i+1,_,⟨by omega,trivial⟩,uD,⟨rfl,zP (by rw [zno _ hx,zsn hN,hCd,Ak]),rfl,trivial⟩,uK,zo (by dsimp only;rw [zno _ hx,zsn hN,hCd,Ak])⟩;have hni:p.length<=i:=by omega
 obtain rfl:i=p.length:=by omega
 refine gz2 ?_;refine zN ?_;refine gz2 ?_;rw [Ak];refine gz2 ?_;refine de rfl (uCx 0 zEW rfl rfl (ztk (l:=(zaD (ofP l) p).map (·.Player)) (by have hb1:=zuA (f:=ofP l) (p:=p) (i:=p.length) (fun s m y=>zqW) hon hp hv;rw [Ak] at hb1;simp;omega)) ?_)
 rintro _ _ ⟨rfl,rfl⟩;refine gz8 ?_;exact zl7 (M:=[]) 5 rfl rfl rfl
end
section
open Go.Proofs.Tryz
open Go.HL
theorem zqA [Tracks] {l:List Asset} {p:List HL.Place} (hl:l.length<=11) (hp:p.length<=1000000):ConP prog 24 [zjO l,zoY p] (.tup [.int .i64 (if zlE l p !=0 then 0 else zvo l p),eSs (if zlE l p !=0 then [] else zq2 (zaD (ofP l) p)),.int .i64 (zlE l p)]):=by
 refine uOb func24 ntmps24 ?_;refine gz8 ?_;refine dq (uCl ca72 rfl (znA uO)) ?_;refine gz1 ?_;refine dq (uCl ca73 rfl (znB (by assumption))) ?_;refine dq (za (hs:=[_,_]) zd9 zgp rfl rfl (by decide) (by decide) rfl) ?_;refine dq (uCl zkf rfl (zb0 (l:=[_,_]) (by simp))) ?_;refine gz6 ?_;refine uCo (fun h1=> ?_) fun h2=> ?_
 refine gz7 ?_
 (refine zcA rfl (zzp ?_ ?_ (Weak.refl _))
  rw [if_pos (by simpa [zlE] using h1)];exact Weak.refl _;rw [if_pos (by simpa [zlE] using h1)];exact z7 1)
 refine gz2 ?_;obtain ⟨hca0,hcp0⟩:=zCR (l:=l) (p:=p) (by simpa [zlE] using h2);obtain ⟨hsr,haf⟩:=zrJ hca0;obtain ⟨hmm,hp10⟩:=zrK hcp0;have hvv: ∀x∈l,-1000000<=x.Value/\x.Value<=1000000:=fun x hx=>(zng (haf x hx)).2.2
 refine gz3 ?_;refine dq (uCl ca74 rfl (zqC uO (by assumption) uSa (by assumption))) ?_;refine zdu ?_
 (refine zw rfl ?_
  have h0:zlE l p=0:=by simpa [zlE] using h2
  simp [h0,zvo,zaB,za6])
end
section
open Go.Proofs.Tryz
open Go.HL
theorem zxI [Tracks]:KeyOk prog 346 zgK:=zgk (cs:=fun x:Plc=>zd (zgK x)) zg8 zGm (fun x y=>⟨rfl,⟨_,_,_,_,ty9,rfl⟩,rfl,⟨_,_,_,_,ty3,rfl⟩,trivial⟩)
 (fun x y=>by obtain ⟨a,b⟩:=x;obtain ⟨c,d⟩:=y;show (_&&(_&&true))=_;rw [AF];simp [eqH,Prod.mk.injEq]) (fun x=>rfl)
theorem zvE [Tracks] {c:LineS->LineS->Int} (hO:Go.Sort.SWO (Go.Proofs.ltOf c)) {g:FuncId} (hg:Callable prog g) {cap:List HVal} (hc: ∀x y, @ConP zhK prog g (zbQ x::zbQ y::cap) (.int .i64 (c x y))) {l:List LineS} (hl:l.length<=1000000) {v:Value}:
 Con prog 280 [.raw v,.fn (.func g) [] cap] [.arr v 3 (l.map zbQ)] fun x M'=> ∃l':List LineS,x= .tup []/\l'.Perm l/\l'.Pairwise (fun a b=> ¬c b a<0)/\M'=[.arr v 3 (l'.map zbQ)]:=
 zoc (e:=zbQ) zyb (Tryz.isAgg96) (Tryz.sizeOf96) (fun _=>rfl) (fun _=>rfl) (fun _=>rfl) hO hg hc hl
theorem zhh [Tracks] {l:List StatS} (hl:l.length<=1000000):zwH prog 277 [.slice 2 (l.map zbf)] 2 (l.map zbf):=by
 refine uOb func277 ntmps277 ?_;refine gz6 ?_;refine de rfl (zso zc9 rfl rfl fun b4 hb4=> ?_)
 refine gz1 ?_;refine uCo (fun h1=> ?_) fun h2=> ?_
 refine gz4 ?_
 first|exact zxQ rfl rfl|exact zav (zL 2) rfl ⟨_,rfl,by simp_all⟩
 refine gz3 ?_;refine de rfl (zv7 zc9 zci fun v5=> ?_)
 refine gz1 ?_;refine de rfl (zI (i:=0) zc9 zci rfl rfl rfl rfl rfl (by simp [zaq,zd]) (by first|omega|(simp;omega)) fun v7=> ?_)
 refine gz3 ?_
 first|exact zxQ rfl rfl|exact zav (zL 2) rfl ⟨_,rfl,by simp_all⟩
theorem zfV [Tracks] {l:List StatS} {fid:FuncId} {caps:List HVal} {p:StatS->Bool} {v:Value} (hca:Callable prog fid) (hp: ∀x,ConP prog fid ([zbf x]++caps) (.bool (p x))) (hl:l.length<=1000000):Con prog 278 [.raw v,.fn (.func fid) [] caps] [.arr v 2 (l.map zbf)] (fun x M'=> ∃u,x= .raw u/\M'=[.arr u 2 ((l.filter (fun x=> !p x)).map zbf)]):=by
 refine uOb func278 ntmps278 ?_;refine gz6 ?_;refine de rfl (ze6 (hs':=[.slice 2 (l.map zbf),.fn (.func fid) [] caps]) zGb rfl ⟨.arr (i:=0) rfl,.weak (Weak.refl _),trivial⟩ (zf9 (p:=p) hca hp hl) rfl ?_)
 refine gz7 ?_;refine uCo (fun h1=> ?_) fun h2=> ?_
 ·refine gz5 ?_
  first
  | (refine zah rfl ⟨_,rfl,?_⟩
     rw [zhH p l 0 uO h1]
     done)
  | (refine zah rfl ⟨_,rfl,?_⟩
     rw [Ak,<-BI,hend];rfl)
 ·refine gz3 ?_;obtain ⟨i0,hi0,hil,⟨x0,hx0,hp0⟩,hb0⟩:=zgC p l 0 uO h2;rw [Cz] at hi0;obtain ⟨hD0,hn0⟩:=DelInv.start (p:=p) hil hx0 hp0 hb0;refine zcS (i:=0) rfl (fun h0 he=> ?_) (fun b off cap hv hcap=> ?_)
  ·exfalso;have:=congrArg List.length he;simp at this;subst this;simp at hil
  rw [Ah] at hv hcap;subst hv;refine gz2 ?_;refine dq (zS (zaZ rfl rfl (by rw [hi0];omega) (by rw [hi0];omega)) (congrArg _ (by rw [hi0]))) ?_;refine gz3 ?_;refine uV2 [5,3,16,20] (fun (j:Nat) (D:List StatS)=>[(6,.int .i64 (j:Int)),(5,.int .i64 (((l.take j).filter (fun x=> !p x)).length:Int))]) (fun (j:Nat) (D:List StatS)=>[.arr (.slice (some ⟨b,off,none⟩) l.length cap) 2 (D.map zbf)]) (fun (j:Nat) (D:List StatS)=>DelInv p l j D) (fun (j:Nat) (D:List StatS)=>l.length-j) (i0+1) (l) ?_ ?_ ?_ ?_
  ·exact hD0
  ·exact ⟨rfl,zP (by rw [hn0,hi0]),trivial⟩
  ·exact Ac _
  ·intro j D hD
   have hlt0:=hD.lt;have hle0:=hD.len;refine gz4 ?_
   first
   |refine de rfl (zaX (i:=0) zc9 rfl rfl ?_)
   |refine de rfl (zaX (i:=1) zc9 rfl rfl ?_)
   |refine de rfl (zaX (i:=2) zc9 rfl rfl ?_)
   |refine de rfl (zaX (i:=3) zc9 rfl rfl ?_)
   refine gz2 ?_;refine uCo (fun h3=> ?_) fun h4=> ?_
   ·obtain ⟨x,hx⟩: ∃x,l[j]? =some x:=⟨_,Aa uO⟩
    refine gz7 ?_;refine dq (zx (j:=j) zc9 zci rfl rfl rfl uO) ?_;refine de rfl (zad (i:=0) (j:=j) zci rfl rfl rfl (hD.get hx) rfl rfl rfl ?_)
    refine de rfl (zj zci rfl fun b7=> ?_)
    refine de0 (zn zci rfl rfl rfl rfl rfl ?_)
    refine gz1 ?_;refine ze (zm 7 rfl) ?_;refine gz3 ?_;refine dq (zap hca rfl rfl (WeakL.refl _) (hp _)) ?_;refine gz2 ?_;refine uCo (fun h5=> ?_) fun h6=> ?_
    ·refine gz4 ?_;refine dq (zx (j:=((l.take j).filter (fun x=> !p x)).length) zc9 zci rfl rfl rfl (by have:=hD.lt;omega)) ?_;refine de0 (za5 (i:=0) (j:=((l.take j).filter (fun x=> !p x)).length) (y:=D[((l.take j).filter (fun x=> !p x)).length]'(by have:=hD.lt;have:=hD.len;omega)) (y':=x) zci rfl rfl rfl rfl (Aa _) rfl rfl rfl ?_)
     refine gz3 ?_;refine dq (zaZ rfl rfl uO (by have:=hD.lt;omega)) ?_;refine gz9 ?_
     first
     |exact ⟨j+1,_,(hD.keep hx uSa).1,uD,⟨rfl,zP (by rw [(hD.keep hx uSa).2];rfl),trivial⟩,uK,Ac _⟩
     |exact ⟨j+1,_,(hD.skip hx uSa).1,uD,⟨rfl,zP (by rw [(hD.skip hx uSa).2]),trivial⟩,uK,Ac _⟩
    ·refine gz8 ?_
     first
     |exact ⟨j+1,_,(hD.keep hx uSa).1,uD,⟨rfl,zP (by rw [(hD.keep hx uSa).2];rfl),trivial⟩,uK,Ac _⟩
     |exact ⟨j+1,_,(hD.skip hx uSa).1,uD,⟨rfl,zP (by rw [(hD.skip hx uSa).2]),trivial⟩,uK,Ac _⟩
   ·obtain rfl:j=l.length:=by have:=hD.jle;omega
    have hend:=hD.done;refine gz2 ?_;refine zN ?_;refine gz5 ?_;refine dq (ze9 (l:=((l.take l.length).filter (fun x=> !p x)).length) zc9 zci rfl ⟨_,_,rfl,rfl⟩ rfl uO uO hcap) ?_;refine de0 (zeU (i:=0) (m:=((l.take l.length).filter (fun x=> !p x)).length) (((l.take l.length).filter (fun x=> !p x)).length) zc9 zci rfl rfl rfl (ziG uO hcap) rfl uO (Af _) (by rw [Ah,hD.len];omega) ?_)
    refine gz4 ?_;refine dq (zgE (h:=((l.take l.length).filter (fun x=> !p x)).length) zc9 zci rfl ⟨_,_,rfl,rfl⟩ uO) ?_;refine gz3 ?_
    first
    | (refine zah rfl ⟨_,rfl,?_⟩
       rw [zhH p l 0 uO h1]
       done)
    | (refine zah rfl ⟨_,rfl,?_⟩
       rw [Ak,<-BI,hend];rfl)
theorem zpR [Tracks] {a b:MendS}:ConP prog 215 [zbY a,zbY b] (.int .i64 (zeJ a b)):=by
 refine uOb func215 ntmps215 ?_;refine gz5 ?_;refine uDr mixed ?_;refine gz4 ?_;refine uB 4 rfl (uCl zcf rfl zM) ?_;refine gz4 ?_;refine uB 9 rfl (uCl zdb rfl zV) ?_;refine gz4 ?_;refine uB 14 rfl (uCl zcf rfl zM) ?_;refine gz4 ?_;refine uB 19 rfl (uCl zdb rfl zV) ?_;refine uB 20 rfl (za (hs:=[_,_,_,_]) zac ty3 rfl rfl (by decide) (by decide) rfl) ?_;refine uB 21 rfl (uCl zfO rfl (zbe (l:=[_,_,_,_]) (by simp))) ?_;refine gz3 ?_;refine zw rfl ?_
 rfl
theorem zni [Tracks] {a b:LineS}:ConP prog 276 [zbQ a,zbQ b] (.int .i64 (zdi a b)):=by
 refine uOb func276 ntmps276 ?_;refine gz5 ?_;refine uDr mixed ?_;refine gz4 ?_;refine uB 4 rfl (uCl zcf rfl zM) ?_;refine gz4 ?_;refine uB 9 rfl (uCl zdb rfl zV) ?_;refine uB 10 rfl (za (hs:=[_,_]) zac ty3 rfl rfl (by decide) (by decide) rfl) ?_;refine uB 11 rfl (uCl zfO rfl (zbe (l:=[_,_]) (by simp))) ?_;refine gz3 ?_;refine zw rfl ?_
 rfl
theorem zjr [Tracks] {m:List MendS} (hl:m.length<=1000000):ConP prog 132 [zca m] (.int .i64 (zbu m)):=by
 refine uOb func132 ntmps132 ?_;refine gz9 ?_;refine uCo (fun h1=> ?_) fun h2=> ?_
 ·refine gz4 ?_;refine uRp ?_
  (rw [zbu,if_pos uO];done)
 ·refine gz9 ?_;refine uT1 [2,3,10,57] (fun k=>[(10,.int .i64 k)]) (fun k=>[]) (fun k=>k<=m.length/\(zaU zaG zeJ zeN m 0 m=zaU zaG zeJ zeN m k (m.drop k))) (fun k=>m.length-k) (0) ?_ ?_
  ·exact ⟨Ad _,rfl⟩
  ·rintro k ⟨hk,hg⟩;refine gz4 ?_;refine uCo (fun h3=> ?_) fun h4=> ?_
   ·obtain ⟨x,hx⟩: ∃x,m[k]? =some x:=⟨_,Aa h3⟩
    have hdx:=zk hx;rw [hdx] at hg;refine gz8 ?_;refine de rfl (zj zbq rfl fun b4=> ?_)
    refine gz1 ?_;refine de0 (zn zbq rfl rfl rfl rfl rfl ?_)
    refine gz1 ?_;refine ze (zm 4 rfl) ?_;refine gz4 ?_;refine dq (uCl zcD rfl zak) ?_;refine gz4 ?_;refine uGr rfl (fun hc=>uCl zcD rfl zak) ?_;refine gz5 ?_;refine uGr rfl (fun hc=>uCl zcD rfl zak) ?_;refine gz4 ?_;refine uCo (fun h5=> ?_) fun h6=> ?_
    ·refine gz4 ?_;refine uRp ?_
     (refine congrArg _ (zkY (c:=5) uO hg (by decide) ?_)
      rw [zaG,if_pos]
      simp_all
      done)
    ·refine gz3 ?_;refine dq (uCl zlq rfl zcG) ?_;refine gz4 ?_;refine uGr rfl (fun hc=>uCl zbH rfl zal) ?_;refine gz4 ?_;refine uGr rfl (fun hc=>uCl zkh rfl zbC) ?_;refine gz5 ?_;refine uGr rfl (fun hc=>uCl zbH rfl zal) ?_;refine gz3 ?_;refine uCo (fun h7=> ?_) fun h8=> ?_
     ·refine gz4 ?_;refine uRp ?_
      (refine congrArg _ (zkY (c:=1) uO hg (by decide) ?_)
       rw [zaG,if_neg,if_pos]
       all_goals simp_all
       done)
     ·refine uDr mixed ?_;refine gz7 ?_;refine uGy 7 rfl rfl (fun hc=>by have hq:=hc;(try simp at hq);exact zA (j:=k-1) (a:=m.getD (k-1) zeN) zgO zbq rfl rfl uO (getD_some uO)) ?_;refine gz1 ?_;refine uGy 9 rfl rfl (fun hc=>uCl zFp rfl zpR) ?_;refine gz4 ?_;refine uCo (fun h9=> ?_) fun h10=> ?_
      ·refine gz4 ?_;refine uRp ?_
       (refine congrArg _ (zsM uO hg ?_ ?_ ?_)
        ·rw [zaG,if_neg,if_neg]<;>simp_all
        ·simp_all
        ·simp_all)
      ·refine gz8 ?_;refine ⟨k+1,?_,?_,⟨rfl,trivial⟩,uK,Ac _⟩
       ·refine ⟨by omega,?_⟩
        rw [hg,zki (by rw [zaG,if_neg uSa,if_neg uSa]) (by intro hk0;simp_all;try omega)]
       ·dsimp only;omega
   ·have hnk:m.length<=k:=by omega
    obtain rfl:k=m.length:=by omega
    rw [zH (Af _)] at hg;refine gz2 ?_;refine zv ?_;refine gz6 ?_;refine uRp ?_
    (rw [zbu,if_neg uO,hg];rfl)
theorem zpn [Tracks] {l:List StatS} (hl:l.length<=1000000):ConP prog 275 [zyu l] (.int .i64 (za7 l)):=by
 refine uOb func275 ntmps275 ?_;refine gz9 ?_;refine uCo (fun h1=> ?_) fun h2=> ?_
 ·refine gz4 ?_;refine uRp ?_
  first
  |(rw [za7,if_pos uO];done)
  |(rw [za7,if_neg uO,hg];rfl)
  | (refine congrArg _ (zdM (c:=5) uO hg (by decide) ?_)
     rw [zam,if_pos]
     simp_all
     done)
  | (refine congrArg _ (zdM (c:=1) uO hg (by decide) ?_)
     rw [zam,if_neg,if_pos]
     all_goals simp_all
     done)
  | (refine congrArg _ (zjh uO hg ?_ ?_ ?_)
     ·rw [zam,if_neg,if_neg]<;>simp_all
     ·simp_all
     ·simp_all)
 ·refine gz9 ?_;refine uT1 [2,3,10,34] (fun k=>[(10,.int .i64 k)]) (fun k=>[]) (fun k=>k<=l.length/\(zaU zam zbc zd8 l 0 l=zaU zam zbc zd8 l k (l.drop k))) (fun k=>l.length-k) (0) ?_ ?_
  ·exact ⟨Ad _,rfl⟩
  ·rintro k ⟨hk,hg⟩;refine gz4 ?_;refine uCo (fun h3=> ?_) fun h4=> ?_
   ·obtain ⟨x,hx⟩: ∃x,l[k]? =some x:=⟨_,Aa h3⟩
    have hdx:=zk hx;rw [hdx] at hg;refine gz8 ?_;refine de rfl (zj zci rfl fun b4=> ?_)
    refine gz1 ?_;refine de0 (zn zci rfl rfl rfl rfl rfl ?_)
    refine gz1 ?_;refine ze (zm 4 rfl) ?_;refine gz4 ?_;refine dq (uCl zcD rfl zak) ?_;refine gz3 ?_;refine uCo (fun h5=> ?_) fun h6=> ?_
    ·refine gz4 ?_;refine uRp ?_
     first
     |(rw [za7,if_pos uO];done)
     |(rw [za7,if_neg uO,hg];rfl)
     | (refine congrArg _ (zdM (c:=5) uO hg (by decide) ?_)
        rw [zam,if_pos]
        simp_all
        done)
     | (refine congrArg _ (zdM (c:=1) uO hg (by decide) ?_)
        rw [zam,if_neg,if_pos]
        all_goals simp_all
        done)
     | (refine congrArg _ (zjh uO hg ?_ ?_ ?_)
        ·rw [zam,if_neg,if_neg]<;>simp_all
        ·simp_all
        ·simp_all)
    ·refine gz3 ?_;refine dq (uCl zbH rfl zal) ?_;refine gz7 ?_;refine uCo (fun h7=> ?_) fun h8=> ?_
     ·refine gz4 ?_;refine uRp ?_
      first
      |(rw [za7,if_pos uO];done)
      |(rw [za7,if_neg uO,hg];rfl)
      | (refine congrArg _ (zdM (c:=5) uO hg (by decide) ?_)
         rw [zam,if_pos]
         simp_all
         done)
      | (refine congrArg _ (zdM (c:=1) uO hg (by decide) ?_)
         rw [zam,if_neg,if_pos]
         all_goals simp_all
         done)
      | (refine congrArg _ (zjh uO hg ?_ ?_ ?_)
         ·rw [zam,if_neg,if_neg]<;>simp_all
         ·simp_all
         ·simp_all)
     ·refine uDr mixed ?_;refine gz8 ?_;refine uGy 8 rfl rfl (fun hc=>by have hq:=hc;(try simp at hq);exact zA (j:=k-1) (a:=l.getD (k-1) zd8) zc9 zci rfl rfl uO (getD_some uO)) ?_;refine gz6 ?_;refine uCo (fun h9=> ?_) fun h10=> ?_
      ·refine gz4 ?_;refine uRp ?_
       first
       |(rw [za7,if_pos uO];done)
       |(rw [za7,if_neg uO,hg];rfl)
       | (refine congrArg _ (zdM (c:=5) uO hg (by decide) ?_)
          rw [zam,if_pos]
          simp_all
          done)
       | (refine congrArg _ (zdM (c:=1) uO hg (by decide) ?_)
          rw [zam,if_neg,if_pos]
          all_goals simp_all
          done)
       | (refine congrArg _ (zjh uO hg ?_ ?_ ?_)
          ·rw [zam,if_neg,if_neg]<;>simp_all
          ·simp_all
          ·simp_all)
      ·refine gz8 ?_;refine ⟨k+1,?_,?_,⟨rfl,trivial⟩,uK,Ac _⟩
       ·refine ⟨by omega,?_⟩
        rw [hg,zxU (by rw [zam,if_neg uSa,if_neg uSa]) (by intro hk0;simp_all)]
       ·dsimp only;omega
   ·have hnk:l.length<=k:=by omega
    obtain rfl:k=l.length:=by omega
    rw [zH (Af _)] at hg;refine gz2 ?_;refine zv ?_;refine gz6 ?_;refine uRp ?_
    first
    |(rw [za7,if_pos uO];done)
    |(rw [za7,if_neg uO,hg];rfl)
    | (refine congrArg _ (zdM (c:=5) uO hg (by decide) ?_)
       rw [zam,if_pos]
       simp_all
       done)
    | (refine congrArg _ (zdM (c:=1) uO hg (by decide) ?_)
       rw [zam,if_neg,if_pos]
       all_goals simp_all
       done)
    | (refine congrArg _ (zjh uO hg ?_ ?_ ?_)
       ·rw [zam,if_neg,if_neg]<;>simp_all
       ·simp_all
       ·simp_all)
theorem zpm [Tracks] {l:List LineS} (hl:l.length<=1000000) (hL: ∀x∈l,x.Stats.length<=1000000):ConP prog 219 [zfs l] (.int .i64 (zaz l)):=by
 refine uOb func219 ntmps219 ?_;refine gz9 ?_;refine uCo (fun h1=> ?_) fun h2=> ?_
 ·refine gz4 ?_;refine uRp ?_
  first
  |(rw [zaz,if_pos uO];done)
  |(rw [zaz,if_neg uO,hg];rfl)
  | (refine congrArg _ (zbo (c:=5) uO hg (by decide) ?_)
     rw [z8,if_pos]
     simp_all
     done)
  | (refine congrArg _ (zbo (c:=1) uO hg (by decide) ?_)
     rw [z8,if_neg,if_pos]
     all_goals simp_all
     done)
  | (refine congrArg _ (zbo (c:=za7 x.Stats) uO hg ?_ ?_)
     ·simp_all
     ·rw [z8,if_neg,if_neg]<;>simp_all)
  | (refine congrArg _ (zhI uO hg ?_ ?_ ?_)
     ·rw [z8,if_neg,if_neg]<;>simp_all
     ·simp_all
     ·simp_all)
 ·refine gz9 ?_;refine uT1 [2,4,11,34] (fun k=>[(11,.int .i64 k)]) (fun k=>[]) (fun k=>k<=l.length/\(zaU z8 zdi zjC l 0 l=zaU z8 zdi zjC l k (l.drop k))) (fun k=>l.length-k) (0) ?_ ?_
  ·exact ⟨Ad _,rfl⟩
  ·rintro k ⟨hk,hg⟩;refine gz4 ?_;refine uCo (fun h3=> ?_) fun h4=> ?_
   ·obtain ⟨x,hx⟩: ∃x,l[k]? =some x:=⟨_,Aa h3⟩
    have hdx:=zk hx;rw [hdx] at hg;refine gz8 ?_;refine de rfl (zj zcY rfl fun b4=> ?_)
    refine gz1 ?_;refine de0 (zn zcY rfl rfl rfl rfl rfl ?_)
    refine gz1 ?_;refine ze (zm 4 rfl) ?_;refine gz5 ?_;refine dq (uCl zcD rfl zak) ?_;refine gz3 ?_;refine uCo (fun h5=> ?_) fun h6=> ?_
    ·refine gz4 ?_;refine uRp ?_
     first
     |(rw [zaz,if_pos uO];done)
     |(rw [zaz,if_neg uO,hg];rfl)
     | (refine congrArg _ (zbo (c:=5) uO hg (by decide) ?_)
        rw [z8,if_pos]
        simp_all
        done)
     | (refine congrArg _ (zbo (c:=1) uO hg (by decide) ?_)
        rw [z8,if_neg,if_pos]
        all_goals simp_all
        done)
     | (refine congrArg _ (zbo (c:=za7 x.Stats) uO hg ?_ ?_)
        ·simp_all
        ·rw [z8,if_neg,if_neg]<;>simp_all)
     | (refine congrArg _ (zhI uO hg ?_ ?_ ?_)
        ·rw [z8,if_neg,if_neg]<;>simp_all
        ·simp_all
        ·simp_all)
    ·refine gz3 ?_;refine dq (uCl zlq rfl zcG) ?_;refine gz3 ?_;refine uCo (fun h7=> ?_) fun h8=> ?_
     ·refine gz4 ?_;refine uRp ?_
      first
      |(rw [zaz,if_pos uO];done)
      |(rw [zaz,if_neg uO,hg];rfl)
      | (refine congrArg _ (zbo (c:=5) uO hg (by decide) ?_)
         rw [z8,if_pos]
         simp_all
         done)
      | (refine congrArg _ (zbo (c:=1) uO hg (by decide) ?_)
         rw [z8,if_neg,if_pos]
         all_goals simp_all
         done)
      | (refine congrArg _ (zbo (c:=za7 x.Stats) uO hg ?_ ?_)
         ·simp_all
         ·rw [z8,if_neg,if_neg]<;>simp_all)
      | (refine congrArg _ (zhI uO hg ?_ ?_ ?_)
         ·rw [z8,if_neg,if_neg]<;>simp_all
         ·simp_all
         ·simp_all)
     ·refine gz7 ?_;refine dq (uCl zF0 rfl (zpn (l:=x.Stats) (hL x (Ab hx)))) ?_;refine gz6 ?_;refine uCo (fun h9=> ?_) fun h10=> ?_
      ·refine gz5 ?_;refine uRp ?_
       first
       |(rw [zaz,if_pos uO];done)
       |(rw [zaz,if_neg uO,hg];rfl)
       | (refine congrArg _ (zbo (c:=5) uO hg (by decide) ?_)
          rw [z8,if_pos]
          simp_all
          done)
       | (refine congrArg _ (zbo (c:=1) uO hg (by decide) ?_)
          rw [z8,if_neg,if_pos]
          all_goals simp_all
          done)
       | (refine congrArg _ (zbo (c:=za7 x.Stats) uO hg ?_ ?_)
          ·simp_all
          ·rw [z8,if_neg,if_neg]<;>simp_all)
       | (refine congrArg _ (zhI uO hg ?_ ?_ ?_)
          ·rw [z8,if_neg,if_neg]<;>simp_all
          ·simp_all
          ·simp_all)
      ·refine gz2 ?_;refine uDr mixed ?_;refine gz7 ?_;refine uGy 7 rfl rfl (fun hc=>by have hq:=hc;(try simp at hq);exact zA (j:=k-1) (a:=l.getD (k-1) zjC) znc zcY rfl rfl uO (getD_some uO)) ?_;refine gz1 ?_;refine uGy 9 rfl rfl (fun hc=>uCl zBJ rfl zni) ?_;refine gz3 ?_;refine uCo (fun h11=> ?_) fun h12=> ?_
       ·refine gz4 ?_;refine uRp ?_
        first
        |(rw [zaz,if_pos uO];done)
        |(rw [zaz,if_neg uO,hg];rfl)
        | (refine congrArg _ (zbo (c:=5) uO hg (by decide) ?_)
           rw [z8,if_pos]
           simp_all
           done)
        | (refine congrArg _ (zbo (c:=1) uO hg (by decide) ?_)
           rw [z8,if_neg,if_pos]
           all_goals simp_all
           done)
        | (refine congrArg _ (zbo (c:=za7 x.Stats) uO hg ?_ ?_)
           ·simp_all
           ·rw [z8,if_neg,if_neg]<;>simp_all)
        | (refine congrArg _ (zhI uO hg ?_ ?_ ?_)
           ·rw [z8,if_neg,if_neg]<;>simp_all
           ·simp_all
           ·simp_all)
       ·refine gz7 ?_;refine ⟨k+1,?_,?_,⟨rfl,trivial⟩,uK,Ac _⟩
        ·refine ⟨by omega,?_⟩
         rw [hg,zki (by rw [z8,if_neg uSa,if_neg uSa];simp_all) (by intro hk0;simp_all;try omega)]
        ·dsimp only;omega
   ·have hnk:l.length<=k:=by omega
    obtain rfl:k=l.length:=by omega
    rw [zH (Af _)] at hg;refine gz2 ?_;refine zv ?_;refine gz6 ?_;refine uRp ?_
    first
    |(rw [zaz,if_pos uO];done)
    |(rw [zaz,if_neg uO,hg];rfl)
    | (refine congrArg _ (zbo (c:=5) uO hg (by decide) ?_)
       rw [z8,if_pos]
       simp_all
       done)
    | (refine congrArg _ (zbo (c:=1) uO hg (by decide) ?_)
       rw [z8,if_neg,if_pos]
       all_goals simp_all
       done)
    | (refine congrArg _ (zbo (c:=za7 x.Stats) uO hg ?_ ?_)
       ·simp_all
       ·rw [z8,if_neg,if_neg]<;>simp_all)
    | (refine congrArg _ (zhI uO hg ?_ ?_ ?_)
       ·rw [z8,if_neg,if_neg]<;>simp_all
       ·simp_all
       ·simp_all)
theorem zqt [Tracks] {s:StatS} {x:MendS}:ConP prog 279 [zbf s,.vptr (zd (zbY x)) 0] (.bool (s.Name==x.Stat)):=by
 refine uOb func279 ntmps279 ?_;refine zee ?_;refine zw rfl ?_
 rfl
theorem ztf [Tracks] {l:List LineS} {m:List MendS} {n:Int} (hl:l.length<=1000) (hm:m.length<=100) (hL: ∀x∈l,x.Stats.length<=1000) (hs: ∀x∈l,(x.Stats.map (·.Name)).Nodup) (h40:GLen 40 (zeL l m n)):ConP prog 220 [zfs l,zca m,.int .i64 n] (.tup [zfs (mdL l m n),.int .i64 0]):=by
 refine uOb func220 ntmps220 ?_;refine gz5 ?_;refine de rfl (zaI fun m18=> ?_)
 refine gz2 ?_;refine ze (zaH (M':=[.map m18 (kk zgK (em fG ([]:GrV)))]++zgh 2 zbf ([]:GrV)) rfl) ?_;refine gz7 ?_;refine uV2 [10,1,21,14] (fun (k:Nat) (G:GrV)=>[(21,.int .i64 k)]) (fun (k:Nat) (G:GrV)=>[.map m18 (kk zgK (em fG G))]++zgh 2 zbf G) (fun (k:Nat) (G:GrV)=>k<=l.length/\(ANodup G/\zfI G=zdf (l.take k))) (fun (k:Nat) (G:GrV)=>l.length-k) (0) ([]) ?_ ?_ ?_ ?_;exact ⟨Ad _,ANodup.nil,rfl⟩;exact ⟨rfl,trivial⟩;exact zo rfl
 intro k G hinv
 obtain ⟨hk,⟨hn,hc⟩⟩:=hinv;refine gz4 ?_;refine uCo (fun h1=> ?_) fun h2=> ?_
 obtain ⟨x,hx⟩: ∃x,l[k]? =some x:=⟨_,Aa h1⟩
 have hdx:=zk hx;refine gz7 ?_;refine de rfl (zj zcY rfl fun b10=> ?_)
 refine de0 (zn zcY rfl rfl rfl rfl rfl ?_)
 refine gz1 ?_;refine ze (zm 10 rfl) ?_;refine zhu mixed ?_;refine gz1 ?_;refine uB 1 rfl ((by first|exact zi zcY rfl ty9 (by decide) rfl|exact zf zcY rfl ty9 (by decide) rfl)) ?_;refine gz1 ?_;refine uB 3 rfl ((by first|exact zi zcY rfl ty3 (by decide) rfl|exact zf zcY rfl ty3 (by decide) rfl)) ?_;refine gz1 ?_;refine uB 5 rfl (zB (cs:=[_,_]) zg8 zBY rfl) ?_;refine uB 6 rfl ((by first|exact zi zcY rfl zc9 (by decide) rfl|exact zf zcY rfl zc9 (by decide) rfl)) ?_;refine gz1 ?_;refine uF 8 ?_;refine zt rfl (uCa zF1 rfl (zhh (l:=x.Stats) (Aq (hL x (Ab hx)) (by decide))) fun v33=> ?_)
 refine ⟨uE,?_⟩
 refine uF 9 ?_;refine zz (zrs (zge (i:=1) (s:=(x.Player,x.Week)) (f:=fG) (L:=G) (v:=(v33,x.Stats)) zk6 zxI rfl rfl rfl rfl ⟨_,zyC (A:=[.map m18 (kk zgK (em fG (zC (x.Player,x.Week) (v33,x.Stats) G)))]) (s:=(x.Player,x.Week)) (v:=v33) (l:=x.Stats) hn,?_⟩))
 refine ⟨uE,?_⟩
 refine gz7 ?_;exact ⟨k+1,zC (x.Player,x.Week) (v33,x.Stats) G,⟨by omega,hn.put,by rw [zpT,hc,zxx hx]⟩,uD,⟨rfl,trivial⟩,uK,zo rfl⟩;have hnk:l.length<=k:=by omega
 obtain rfl:k=l.length:=by omega
 rw [Ak] at hc;refine gz2 ?_;refine zN ?_;refine gz9 ?_;refine uV2 [12,3,37,33] (fun (k:Nat) (G:GrV)=>[(37,.int .i64 k)]) (fun (k:Nat) (G:GrV)=>[.map m18 (kk zgK (em fG G))]++zgh 2 zbf G) (fun (k:Nat) (G:GrV)=>k<=m.length/\(ANodup G/\zfI G=zgL (zdf l) (m.take k) n)) (fun (k:Nat) (G:GrV)=>m.length-k) (0) (G) ?_ ?_ ?_ ?_;exact ⟨Ad _,hn,hc⟩;exact ⟨rfl,trivial⟩;exact zo rfl
 intro k G hinv
 obtain ⟨hk,⟨hn,hc⟩⟩:=hinv;refine gz4 ?_;refine uCo (fun h3=> ?_) fun h4=> ?_
 obtain ⟨x,hx⟩: ∃x,m[k]? =some x:=⟨_,Aa h3⟩
 have hdx:=zk hx;refine gz7 ?_;refine de rfl (zj zbq rfl fun b12=> ?_)
 refine de0 (zn zbq rfl rfl rfl rfl rfl ?_)
 refine gz1 ?_;refine ze (zm 12 rfl) ?_;refine gz2 ?_;refine dq ((by first|exact zi zbq rfl ty3 (by decide) rfl|exact zf zbq rfl ty3 (by decide) rfl)) ?_;refine gz4 ?_;refine uCo (fun h5=> ?_) fun h6=> ?_
 refine gz8 ?_;exact ⟨k+1,G,⟨by omega,hn,by rw [zsI hx,zcL,if_pos uO];exact hc⟩,uD,⟨rfl,trivial⟩,uK,zo rfl⟩;refine gz3 ?_;refine dq ((by first|exact zi zbq rfl ty9 (by decide) rfl|exact zf zbq rfl ty9 (by decide) rfl)) ?_;refine gz1 ?_;refine dq ((by first|exact zi zbq rfl ty3 (by decide) rfl|exact zf zbq rfl ty3 (by decide) rfl)) ?_;refine gz1 ?_;refine dq (zB (cs:=[_,_]) zg8 zBY rfl) ?_;refine de rfl (zj zg8 rfl fun b13=> ?_)
 refine de0 (zn zg8 rfl rfl rfl rfl rfl ?_)
 refine gz1 ?_;refine ze (zm 13 rfl) ?_;have hgl:=zCK (n:=n) hL hm hc (x.Player,x.Week);refine ze (zkK (A:=[.map m18 (kk zgK (em fG G))]) (G:=G) (G':=G) (s:=(x.Player,x.Week)) hn rfl) ?_;refine gz3 ?_;refine de rfl (zeV (i:=1) (s:=(x.Player,x.Week)) (z0:=gZ StatS) zk6 zxI zc9 rfl rfl rfl rfl ?_)
 refine gz1 ?_;refine de rfl (uCx 0 zF2 rfl rfl (zfV (l:=gLK (x.Player,x.Week) G) (p:=fun s=>s.Name==x.Stat) zF3 (fun _=>zqt) uO) ?_)
 rintro _ _ ⟨u54,rfl,rfl⟩;refine gz2 ?_;refine uVj [14,1,55,11] (fun (w:Value)=>[(14,.raw w)]) (fun (w:Value)=> .arr w 2 ((zeM x (gLK (x.Player,x.Week) G)).map zbf)::([.map m18 (kk zgK (em fG G))]++zgh 2 zbf (G.filter fun q=>decide (q.1≠(x.Player,x.Week))))) (fun (w:Value)=>True) ?_ ?_
 skip
 refine gz1 ?_;refine dq ((by first|exact zi zbq rfl ty3 (by decide) rfl|exact zf zbq rfl ty3 (by decide) rfl)) ?_;refine gz3 ?_;refine uCo (fun h7=> ?_) fun h8=> ?_
 refine gz2 ?_;refine dq ((by first|exact zi zbq rfl ty9 (by decide) rfl|exact zf zbq rfl ty9 (by decide) rfl)) ?_;refine gz1 ?_;refine dq ((by first|exact zi zbq rfl ty3 (by decide) rfl|exact zf zbq rfl ty3 (by decide) rfl)) ?_;refine gz1 ?_;refine dq (zB (cs:=[_,_]) zci zBX rfl) ?_;refine dq (za (hs:=[_]) zc9 zci rfl rfl (by decide) (by decide) rfl) ?_;refine de rfl (zI (i:=0) zc9 zci rfl rfl rfl rfl rfl (by simp [zaq,zd]) (by have:=zsH x (gLK (x.Player,x.Week) G);unfold ztN at this;simp only [Ah,Ai,AC];omega) fun v65=> ?_)
 refine gz2 ?_;exact ⟨v65,trivial,⟨rfl,trivial⟩,uK,zo (by rw [zeM,if_pos (by assumption),Ay];rfl)⟩;refine gz1 ?_;exact ⟨u54,trivial,⟨rfl,trivial⟩,uK,zo (by rw [zeM,if_neg uSa,Bf];rfl)⟩
 intro w _
 refine gz4 ?_;refine de0 (znf (zge (i:=1) (s:=(x.Player,x.Week)) (f:=fG) (L:=G) (v:=(w,zeM x (gLK (x.Player,x.Week) G))) zk6 zxI rfl rfl rfl rfl ⟨_,zuH (A:=[.map m18 (kk zgK (em fG (zC (x.Player,x.Week) (w,zeM x (gLK (x.Player,x.Week) G)) G)))]) (s:=(x.Player,x.Week)) (v:=w) (l:=zeM x (gLK (x.Player,x.Week) G)) hn,?_⟩))
 refine gz7 ?_;exact ⟨k+1,zC (x.Player,x.Week) (w,zeM x (gLK (x.Player,x.Week) G)) G,⟨by omega,hn.put,by rw [zsI hx,<-hc,zyT (n:=n) uO]⟩,uD,⟨rfl,trivial⟩,uK,zo rfl⟩;have hnk:m.length<=k:=by omega
 obtain rfl:k=m.length:=by omega
 rw [Ak] at hc;refine gz2 ?_;refine zN ?_;refine gz3 ?_;have hGl:=zCL hl hm hc;have hkl:(kk zgK (em fG G)).length=G.length:=by simp [kk]
 refine gz2 ?_
 focus first
 |refine de rfl (zer (i:=0) zk6 rfl rfl ?_)
 |refine de rfl (zer (i:=1) zk6 rfl rfl ?_)
 |refine de rfl (zer (i:=2) zk6 rfl rfl ?_)
 |refine de rfl (zer (i:=3) zk6 rfl rfl ?_)
 refine gz2 ?_;refine zZ rfl (fun h9=> ?_) (fun h9=> ?_)
 exfalso
 try simp at h9
 omega
 try simp at h9
 refine gz5 ?_;refine ze (zL 3) ?_;refine gz3 ?_;refine de rfl (zoh (i:=1) zk6 rfl rfl fun r=> ?_)
 refine gz2 ?_;refine uV3 [6,2,15,3,75,19] (fun (vis:List Nat) (E:List (Plc×(Value×List StatS))) (u:Value)=>[(15,.raw u)]) (fun (vis:List Nat) (E:List (Plc×(Value×List StatS))) (u:Value)=>[.arr u 3 ((E.map zmQ).map zbQ),.iter r m18 (kk zgK (em fG G)) vis]++zgh 2 zbf (zfT G (E.map (·.1)))) (fun (vis:List Nat) (E:List (Plc×(Value×List StatS))) (u:Value)=>VisOk (G) vis E/\(True)) (fun (vis:List Nat) (E:List (Plc×(Value×List StatS))) (u:Value)=>(G).length-vis.length) ([]) ([]) (.slice none 0 0) ?_ ?_ ?_ ?_;exact ⟨VisOk.nil _,trivial⟩;exact ⟨rfl,trivial⟩;exact zo (by simp only [Ba,zy9];rfl)
 intro vis E u hinv
 obtain ⟨hvis,-⟩:=hinv;refine gz1 ?_;refine de rfl (zog (i:=1) (L:=G) (enc:=(fun p:Plc×(Value×List StatS)=>(zgK p.1,fG p.2))) rfl rfl (ztI _ _ _) hvis.nd hvis.lt fun cb R vis' hnx=> ?_)
 refine gz3 ?_;refine uCo (fun h10=> ?_) fun h11=> ?_
 obtain ⟨j,q,hq,hj,rfl⟩:=hnx.t h10;have hroom:=hvis.room hq hj;have hstep:=hvis.step hq hj;have hqm:=Ab hq;refine gz4 ?_;refine de rfl (zmN (i:=1) (L:=G) (enc:=(fun p:Plc×(Value×List StatS)=>(zgK p.1,fG p.2))) rfl rfl (ztI _ _ _) hq ?_)
 refine gz2 ?_;refine de rfl (zj zg8 rfl fun b16=> ?_)
 refine de0 (zn zg8 rfl rfl rfl rfl rfl ?_)
 refine gz2 ?_;refine ze (zm 16 rfl) ?_;have hqa:alk q.1 G=some q.2:=(zek hn).1 hqm;have hqx:q.1∉E.map (·.1):=zez.1 (hvis.fresh hn hq hj);obtain ⟨gv1,gl1⟩:=zGo hqa;have hq40:=zDP h40 hc hqm;have hqn:=zGr hs hc hqm;refine ze (zkK (A:=[.arr u 3 ((E.map zmQ).map zbQ),.iter r m18 (kk zgK (em fG G)) (vis++[j])]) (G:=zfT G (E.map (·.1))) (G':=G) (s:=q.1) (zvS hn) (zy7 hqx)) ?_;rw [zxO,gv1,gl1];refine gz3 ?_;refine de rfl (zaX (i:=0) (es:=q.2.2) zc9 rfl rfl ?_)
 refine gz2 ?_;refine zZ rfl (fun h12=> ?_) (fun h12=> ?_)
 exfalso
 try simp at h12
 omega
 try simp at h12
 refine gz4 ?_;refine de rfl (za8 (M1:=[.arr q.2.1 2 (q.2.2.map zbf)]) (R:=_) zBC rfl (WeakL.refl _) (Ac _) (zpu (c:=zbc) (zpb zdr) zBD (fun _ _=> @znh zhK _ _) (l:=q.2.2) uO) ?_)
 rintro _ _ ⟨l',rfl,hp',hw',rfl⟩;obtain rfl:=zvW hqn hp' hw';refine gz1 ?_;refine ze (zaR 17 (i:=0) rfl rfl) ?_;refine gz2 ?_;refine dq ((by first|exact zi zg8 rfl ty9 (by decide) rfl|exact zf zg8 rfl ty9 (by decide) rfl)) ?_;refine gz1 ?_;refine dq ((by first|exact zi zg8 rfl ty3 (by decide) rfl|exact zf zg8 rfl ty3 (by decide) rfl)) ?_;refine gz2 ?_;refine dq (zB (cs:=[_,_,_]) zcY pl96 rfl) ?_;refine dq (za (hs:=[_]) znc zcY rfl rfl (by decide) (by decide) rfl) ?_;refine de rfl (zI (i:=0) znc zcY rfl rfl rfl rfl rfl (by simp [zaq,zd]) (by have:=hvis.len;simp only [Ah,Ai,AC];omega) fun v93=> ?_)
 refine gz3 ?_;exact ⟨_,E++[q],v93,⟨hstep,trivial⟩,by dsimp only;rw [Av];simp only [Ai,AC];omega,⟨rfl,trivial⟩,uK,zo (by dsimp only;simp only [Ay,Au,Ba];rfl)⟩;obtain ⟨rfl,hlen⟩:=hnx.f h11;have hEp:=hvis.done hlen;refine gz2 ?_;refine zcK ?_;refine gz2 ?_;have hr0:zfT G (E.map (·.1))=[]:=zy8 (fun q hq=>Bq (hEp.mem_iff.2 hq));rw [hr0];refine ze (zlP (i:=1) rfl) ?_;refine ze (zaH (M':=[.arr u 3 ((E.map zmQ).map zbQ),.map m18 (kk zgK (em fG G))]) rfl) ?_;refine gz2 ?_;refine de rfl (za8 (M1:=[.arr u 3 ((E.map zmQ).map zbQ)]) (R:=[.map m18 (kk zgK (em fG G))]) zF4 rfl (WeakL.refl _) (Ac _) (zvE (c:=zdi) (zpb zj3) zBJ (fun _ _=> @zni zhK _ _) (l:=E.map zmQ) (by have:=hEp.length_eq;simp only [Ah];omega)) ?_)
 rintro _ _ ⟨l',rfl,hp',hw',rfl⟩;obtain rfl:=zDO hc hEp hp' hw';refine gz1 ?_;refine ze (Ghost.only (i:=0) rfl) ?_;refine gz6 ?_;exact zl7 (M:=[]) 6 rfl rfl rfl
theorem zte [Tracks] {l:List LineS} {m:List MendS} {n:Int} (hl:l.length<=1000) (hm:m.length<=100) (hL: ∀x∈l,x.Stats.length<=1000) (h40:zaz l=0->GLen 40 (zeL l m n)):ConP prog 137 [zfs l,zca m,.int .i64 n] (.tup [zfs (zej l m n),.int .i64 (zei l m n)]):=by
 refine uOb func137 ntmps137 ?_;refine gz7 ?_;refine dq (uCl zFr rfl (zpm (l:=l) uO (fun x hx=>Aq (hL x hx) (by decide)))) ?_;refine gz1 ?_;refine dq (uCl zBh rfl (zjr (m:=m) uO)) ?_;refine dq (za (hs:=[_,_]) zd9 zgp rfl rfl (by decide) (by decide) rfl) ?_;refine dq (uCl zkf rfl (zb0 (l:=[_,_]) (by simp))) ?_;refine gz6 ?_;refine uCo (fun h1=> ?_) fun h2=> ?_
 refine gz6 ?_
 focus first
 |exact zcA rfl (zai (by rw [zej,if_pos (by simpa using h1)];exact z7 3) (by rw [zei,if_pos (by simpa using h1)];exact Weak.refl _))
 |exact zcA rfl (zai (by rw [zej,if_neg (by simpa using h2),if_neg uSa];exact z7 3) (by rw [zei,if_neg (by simpa using h2),if_neg uSa];exact Weak.refl _))
 | (refine zw rfl ?_
    rw [zej,zei,if_neg (by simpa using h2),if_pos uSa,if_neg (by simpa using h2),if_pos uSa])
 refine gz5 ?_;refine dq (uCl zkh rfl zbC) ?_;refine gz2 ?_;refine uCo (fun h3=> ?_) fun h4=> ?_
 refine gz5 ?_
 focus first
 |exact zcA rfl (zai (by rw [zej,if_pos (by simpa using h1)];exact z7 3) (by rw [zei,if_pos (by simpa using h1)];exact Weak.refl _))
 |exact zcA rfl (zai (by rw [zej,if_neg (by simpa using h2),if_neg uSa];exact z7 3) (by rw [zei,if_neg (by simpa using h2),if_neg uSa];exact Weak.refl _))
 | (refine zw rfl ?_
    rw [zej,zei,if_neg (by simpa using h2),if_pos uSa,if_neg (by simpa using h2),if_pos uSa])
 refine gz6 ?_;refine dq (uCl zFs rfl (ztf (l:=l) (m:=m) (n:=n) hl hm hL (zxv (zAs h2).1) (h40 (zAs h2).1))) ?_;refine gz6 ?_
 focus first
 |exact zcA rfl (zai (by rw [zej,if_pos (by simpa using h1)];exact z7 3) (by rw [zei,if_pos (by simpa using h1)];exact Weak.refl _))
 |exact zcA rfl (zai (by rw [zej,if_neg (by simpa using h2),if_neg uSa];exact z7 3) (by rw [zei,if_neg (by simpa using h2),if_neg uSa];exact Weak.refl _))
 | (refine zw rfl ?_
    rw [zej,zei,if_neg (by simpa using h2),if_pos uSa,if_neg (by simpa using h2),if_pos uSa])
end
section
open Go.Proofs.Tryz
open Go.HL
theorem zBT [Tracks]:KeyOk prog 340 ziz:=zgk (cs:=fun x:Num=>zd (ziz x)) zrp zGl (fun x y=>⟨rfl,⟨_,_,_,_,ty9,rfl⟩,⟨rfl,⟨_,_,_,_,ty3,rfl⟩,trivial⟩⟩)
 (fun x y=>by obtain ⟨a,b⟩:=x;obtain ⟨c,d⟩:=y;show (_&&(_&&true))=_;rw [AF];simp [eqH,Prod.mk.injEq]) (fun x=>rfl)
theorem znX [Tracks] {T:List Str} {l:List GameS} (hT:T.length<=1000000) (hl:l.length<=1000000) (hb:(∀x∈l,((-1000000000<=x.FNum/\x.FNum<=1000000000)/\ -1000000000<=x.FDen/\x.FDen<=1000000000)/\((-1000000000<=x.ONum/\x.ONum<=1000000000)/\ -1000000000<=x.ODen/\x.ODen<=1000000000))):ConP prog 211 [eSs T,zlZ l] (.int .i64 (zfJ T l)):=by
 refine uOb func211 ntmps211 ?_;refine gz6 ?_;refine dq (uCl zFV rfl (znY hT)) ?_;refine gz6 ?_;refine uCo (fun h1=> ?_) fun h2=> ?_
 ·refine gz5 ?_;refine zav Ghost.clear rfl ⟨?_,rfl⟩
  show HVal.int .i64 _=_
  try rw [hE]
  (rw [zfJ,if_pos (by assumption)];done)
 ·refine gz3 ?_;have hz:zdo T=0:=by first|assumption|simp_all
  have hE:zfJ T l=zed T l:=by rw [zfJ,if_neg (by simp [hz])]
  refine gz5 ?_;refine uCo (fun h3=> ?_) fun h4=> ?_
  ·refine gz4 ?_;refine zav Ghost.clear rfl ⟨?_,rfl⟩
   show HVal.int .i64 _=_
   try rw [hE]
   (refine congrArg _ (zel (zbK ?_) (by decide))
    omega)
  ·refine gz3 ?_;refine de rfl (zaI fun m22=> ?_)
   refine zaw ?_;refine uV1 [4,1,7,4,12,2,25,70] (fun (k:Nat)=>[(25,.int .i64 k),(7,.bool (zkj l k))]) (fun (k:Nat)=>[.map m22 (kk ziz (em HVal.bool (zjJ (l.take k))))]) (fun (k:Nat)=>k<=l.length/\(zaV (zcp T) zes l 0 l=zaV (zcp T) zes l k (l.drop k))) (fun (k:Nat)=>l.length-k) (0) ?_ ?_ ?_ ?_
   ·exact ⟨Ad _,rfl⟩
   ·exact ⟨rfl,rfl,trivial⟩
   ·exact zo rfl
   ·intro k hinv
    obtain ⟨hk,hg⟩:=hinv;refine gz4 ?_;refine uCo (fun h5=> ?_) fun h6=> ?_
    ·obtain ⟨x,hx⟩: ∃x,l[k]? =some x:=⟨_,Aa h5⟩
     have hdx:=zk hx;rw [hdx] at hg;refine gz6 ?_;refine dq (zA zgo zcs rfl rfl rfl (by assumption)) ?_;refine gz1 ?_;refine de rfl (zj zcs rfl fun b9=> ?_)
     refine gz1 ?_;refine de0 (zn zcs rfl rfl rfl rfl rfl ?_)
     refine gz1 ?_;refine ze (zm 9 rfl) ?_;refine gz5 ?_;refine dq (uCl zlq rfl zcG) ?_;refine gz3 ?_;refine uCo (fun h7=> ?_) fun h8=> ?_
     ·refine gz4 ?_;refine zav Ghost.clear rfl ⟨?_,rfl⟩
      show HVal.int .i64 _=_
      try rw [hE]
      (refine congrArg _ (zel (e:=1) (zy ?_ hg ?_ ?_) ?_)
       ·omega
       ·unfold zcp
        simp_all
        done
       ·first|decide|assumption
       ·first|decide|assumption)
     ·refine gz4 ?_;refine dq (uCl zhj rfl (zK (l:=T) (s:=x.Home) uO)) ?_;refine gz5 ?_;refine uGr rfl (fun hc=>by have hq:=hc;(try simp at hq);exact uCl zhj rfl (zK (l:=T) (s:=x.Away) uO)) ?_;refine gz4 ?_;refine uCo (fun h9=> ?_) fun h10=> ?_
      ·refine gz4 ?_;refine zav Ghost.clear rfl ⟨?_,rfl⟩
       show HVal.int .i64 _=_
       try rw [hE]
       (refine congrArg _ (zel (e:=8) (zy ?_ hg ?_ ?_) ?_)
        ·omega
        ·unfold zcp
         simp_all
         done
        ·first|decide|assumption
        ·first|decide|assumption)
      ·refine gz8 ?_;refine uCo (fun h11=> ?_) fun h12=> ?_
       ·refine gz4 ?_;refine zav Ghost.clear rfl ⟨?_,rfl⟩
        show HVal.int .i64 _=_
        try rw [hE]
        (refine congrArg _ (zel (e:=6) (zy ?_ hg ?_ ?_) ?_)
         ·omega
         ·unfold zcp
          simp_all
          done
         ·first|decide|assumption
         ·first|decide|assumption)
       ·refine gz5 ?_;refine dq (zaL (h:=zaW x) zcs rfl rfl rfl rfl) ?_;refine dq (uCl zFW rfl (znv (x:=x) (hb x (Ab hx)))) ?_;refine gz6 ?_;refine uCo (fun h13=> ?_) fun h14=> ?_
        ·refine gz5 ?_;refine zav Ghost.clear rfl ⟨?_,rfl⟩
         show HVal.int .i64 _=_
         try rw [hE]
         (refine congrArg _ (zel (e:=(zhZ x)) (zy ?_ hg ?_ ?_) ?_)
          ·omega
          ·unfold zcp
           simp_all
           done
          ·first|decide|assumption
          ·first|decide|assumption)
        ·refine gz3 ?_;refine uDr mixed ?_;refine gz7 ?_;refine uGy 7 rfl rfl (fun hc=>by have hq:=hc;(try simp at hq);exact zA (j:=k-1) (a:=l.getD (k-1) zes) zgo zcs rfl rfl uO (getD_some uO)) ?_;refine gz1 ?_;refine uGy 9 rfl rfl (fun hc=>uCl zFX rfl zrz) ?_;refine gz3 ?_;refine uCo (fun h15=> ?_) fun h16=> ?_
         ·refine gz4 ?_;refine zav Ghost.clear rfl ⟨?_,rfl⟩
          show HVal.int .i64 _=_
          try rw [hE]
          (refine congrArg _ (zel (e:=7) (zy ?_ hg ?_ ?_) ?_)
           ·omega
           ·unfold zcp
            simp_all
            done
           ·first|decide|assumption
           ·first|decide|assumption)
         ·refine gz2 ?_;have hne:x.Home≠x.Away:=by first|assumption|simp_all
          have hg0:zcp T k x (l.getD (k-1) zes)=0:=by unfold zcp;simp_all
          refine gz5 ?_;refine dq (za (hs:=[_,_]) zq ty9 rfl rfl (by decide) (by decide) rfl) ?_;refine dq (zax (f:=HVal.str) (l:=[x.Home,x.Away]) zq rfl) ?_;refine gz3 ?_;refine uV1 [7,1,12,2,77,17] (fun (j:Nat)=>[(77,.int .i64 j),(7,.bool (inC l x k j))]) (fun (j:Nat)=>[.map m22 (kk ziz (em HVal.bool (inM l x k j)))]) (fun (j:Nat)=>j<=[x.Home,x.Away].length/\(True)) (fun (j:Nat)=>[x.Home,x.Away].length-j) (0) ?_ ?_ ?_ ?_
          ·exact ⟨Ad _,trivial⟩
          ·exact ⟨rfl,congrArg (fun q=>some (HVal.bool q)) zwd.1.symm,trivial⟩
          ·exact zo (by rw [zwd.2])
          ·intro j hinv
           obtain ⟨hj,-⟩:=hinv;refine gz4 ?_;refine uCo (fun h17=> ?_) fun h18=> ?_
           ·obtain ⟨s,hs⟩: ∃s,[x.Home,x.Away][j]? =some s:=⟨_,Aa (by show j<2;omega)⟩
            have hds:=zk hs;refine gz5 ?_;refine dq (zA zq ty9 rfl rfl rfl (by assumption)) ?_;refine gz3 ?_;obtain ⟨st1,st2⟩:=zCy (l:=l) (k:=k) hne hs;refine gz4 ?_;refine dq (zB (cs:=[_,_]) zrp zGH rfl) ?_;refine de rfl (zj zrp rfl fun b13=> ?_)
            refine de0 (zn zrp rfl rfl rfl rfl rfl ?_)
            refine gz1 ?_;refine ze (zm 13 rfl) ?_;refine gz5 ?_;refine dgl rfl rfl (fun hc=>⟨_,OpenTo.upd (t:=88) rfl (hc) (OpenTo.upd (t:=87) rfl (hc) (OpenTo.refl _)),zeV (i:=0) (f:=HVal.bool) (L:=inM l x k j) (s:=(s,x.Week)) (z0:=false) zB8 zBT ty4 rfl rfl rfl rfl ⟨rfl,rfl⟩⟩) ?_;refine gz6 ?_;refine de0 (zge (i:=0) (f:=HVal.bool) (v:=true) (s:=(s,x.Week)) (L:=inM l x k j) zB8 zBT rfl rfl rfl rfl ?_)
            refine gz7 ?_;exact ⟨j+1,⟨by show j+1<=2;omega,trivial⟩,by show 2-(j+1)<2-j;omega,⟨rfl,congrArg (fun q=>some (HVal.bool q)) (by rw [<-st1];cases inC l x k j<;>rfl),trivial⟩,uK,zo (by dsimp only;rw [<-st2];rfl)⟩
           ·refine gz2 ?_;refine zv ?_;refine gz7 ?_;have e2:j=2:=by (have q:[x.Home,x.Away].length=2:=rfl;omega)
            subst e2;obtain ⟨t1,t2⟩:=zDG hx;exact ⟨k+1,⟨by omega,by rw [hg,zaT hg0]⟩,uD,⟨rfl,congrArg (fun q=>some (HVal.bool q)) t1,trivial⟩,uK,zo (by dsimp only;rw [t2])⟩
    ·have hnk:l.length<=k:=by omega
     obtain rfl:k=l.length:=by omega
     rw [zH (Af _)] at hg;refine gz2 ?_;refine zv ?_;refine gz6 ?_;refine uCo (fun h19=> ?_) fun h20=> ?_
     ·refine gz4 ?_;refine zav Ghost.clear rfl ⟨?_,rfl⟩
      show HVal.int .i64 _=_
      try rw [hE]
      (rw [zv9 ?_ hg,if_pos (by assumption)]
       omega)
     ·refine gz6 ?_;refine zav Ghost.clear rfl ⟨?_,rfl⟩
      show HVal.int .i64 _=_
      try rw [hE]
      (rw [zv9 ?_ hg,if_neg uSa]
       omega)
theorem zmu [Tracks] {l:List Int} (hl:l.length<=1000000):ConP prog 213 [.slice 1 (l.map (HVal.int .i64))] (.int .i64 (zit l)):=by
 refine uOb func213 ntmps213 ?_;refine gz9 ?_;refine uCo (fun h1=> ?_) fun h2=> ?_
 ·refine gz4 ?_;refine uRp ?_
  (rw [zit,if_pos uO];done)
 ·refine gz9 ?_;refine uT1 [2,3,10,13] (fun k=>[(10,.int .i64 k)]) (fun k=>[]) (fun k=>k<=l.length/\(zep l 0 l=zep l k (l.drop k))) (fun k=>l.length-k) (0) ?_ ?_
  ·exact ⟨Ad _,rfl⟩
  ·rintro k ⟨hk,hg⟩;refine gz4 ?_;refine uCo (fun h3=> ?_) fun h4=> ?_
   ·obtain ⟨x,hx⟩: ∃x,l[k]? =some x:=⟨_,Aa h3⟩
    have hdx:=zk hx;rw [hdx] at hg;refine zdu ?_;refine dq (uCl zbH rfl zal) ?_;refine gz1 ?_;refine uCo (fun h5=> ?_) fun h6=> ?_
    ·refine gz4 ?_;refine uRp ?_
     (refine congrArg _ (zoW (e:=4) ?_ hg ?_)
      ·omega
      ·rw [zep]
       simp_all
       done)
    ·refine gz5 ?_;refine dq (zaP zac ty3 rfl rfl ⟨_,_,rfl,rfl⟩ uO uO) ?_;refine gz1 ?_;refine dq (uCl zBt rfl (zfN (l:=l.take k) (z:=x) (by rw [Az];omega))) ?_;refine gz1 ?_;refine uCo (fun h7=> ?_) fun h8=> ?_
     ·refine gz4 ?_;refine uRp ?_
      (refine congrArg _ (zoW (e:=6) ?_ hg ?_)
       ·omega
       ·rw [zep]
        simp_all
        done)
     ·refine gz7 ?_;refine ⟨k+1,?_,?_,⟨rfl,trivial⟩,uK,Ac _⟩
      ·refine ⟨by omega,?_⟩
       rw [hg,zep,if_neg uSa,if_neg uSa]
      ·dsimp only;omega
   ·have hnk:l.length<=k:=by omega
    obtain rfl:k=l.length:=by omega
    rw [zH (Af _)] at hg;refine gz2 ?_;refine zv ?_;refine gz6 ?_;refine uRp ?_
    (refine congrArg _ (zv1 ?_ hg)
     omega)
theorem zf6 [Tracks] {l:List GameS} {fid:FuncId} {caps:List HVal} {p:GameS->Bool} (hca:Callable prog fid) (hp: ∀x,ConP prog fid ([zaW x]++caps) (.bool (p x))) (hl:l.length<=1000000):ConP prog 198 [.slice 8 (l.map zaW),.fn (.func fid) [] caps] (.int .i64 (zW p l 0)):=by
 refine uOb func198 ntmps198 ?_;refine zaw ?_;refine uT1 [4,2,8,11] (fun k=>[(8,.int .i64 k)]) (fun k=>[]) (fun k=>k<=l.length/\(zW p l 0=zW p (l.drop k) k)) (fun k=>l.length-k) (0) ?_ ?_;exact ⟨Ad _,rfl⟩;rintro k ⟨hk,hg⟩;refine gz4 ?_;refine uCo (fun h1=> ?_) fun h2=> ?_
 obtain ⟨x,hx⟩: ∃x,l[k]? =some x:=⟨_,Aa h1⟩
 have hdx:=zk hx;rw [hdx] at hg;refine zdu ?_;refine dq (zap hca rfl rfl (WeakL.refl _) (hp _)) ?_;refine gz1 ?_;refine uCo (fun h3=> ?_) fun h4=> ?_
 refine gz5 ?_;refine uRp ?_
 (rw [hg];simp_all [zW])
 refine gz7 ?_;refine ⟨k+1,?_,?_,⟨rfl,trivial⟩,uK,Ac _⟩
 refine ⟨by omega,?_⟩
 rw [hg,zW,if_neg uSa];rfl
 dsimp only;omega
 have hnk:l.length<=k:=by omega
 obtain rfl:k=l.length:=by omega
 rw [zH (Af _)] at hg;refine gz2 ?_;refine zv ?_;refine gz6 ?_;refine uRp ?_
 (rw [hg];rfl)
theorem zbD [Tracks] {l:List GameS} {fid:FuncId} {caps:List HVal} {p:GameS->Bool} (hca:Callable prog fid) (hp: ∀x,ConP prog fid ([zaW x]++caps) (.bool (p x))) (hl:l.length<=1000000):ConP prog 112 [.slice 8 (l.map zaW),.fn (.func fid) [] caps] (.bool (l.any p)):=by
 refine uOb func112 ntmps112 ?_;refine gz6 ?_;refine dq (uCl zFg rfl (zf6 hca hp hl)) ?_;refine gz4 ?_;refine zw rfl ?_
 congr 1;exact zdd p l 0 uO
theorem zlj [Tracks] {x:GameS}:ConP prog 212 [zaW x] (.bool x.Played):=by
 refine uOb func212 ntmps212 ?_;refine zaw ?_;refine zw rfl ?_
 rfl
theorem zmt [Tracks] {g:LeagueS} (hT:Tracks.on=false) (hb:LeaB g):ConP prog 130 [zfz g] (.int .i64 (zcu g)):=by
 have hst:=hb.sta;refine uOb func130 ntmps130 ?_;refine gz5 ?_;refine uDr mixed ?_;refine gz4 ?_;refine uB 4 rfl (uCl zFj rfl (zmA (L:=g.Players) (l:=g.Stints) hT hb.pl hb.nm hb.po hb.st)) ?_;refine gz2 ?_;refine uB 7 rfl (uCl zFk rfl (zlk (l:=g.Fixtures) hb.fx)) ?_;refine gz2 ?_;refine uB 10 rfl (uCl zBy rfl (zi3 (l:=g.Rules) hb.ru hb.rw')) ?_;refine gz2 ?_;refine uB 13 rfl (uCl zzB rfl (zf2 (l:=g.Slots) hb.sl hb.sp)) ?_;refine gz1 ?_;refine uB 15 rfl (zS (h':=zgc g.Bounds) (za0 zjn rfl rfl (Ap rfl)) rfl) ?_;refine uB 16 rfl (uCl zBz rfl (zhQ (b:=g.Bounds))) ?_;refine gz4 ?_;refine uB 21 rfl (uCl zFl rfl (znX (T:=g.Teams) (l:=g.Games) hb.tm hb.ga hb.gb)) ?_;refine uB 22 rfl (za (hs:=[_,_,_,_,_,_]) zd9 zgp rfl rfl (by decide) (by decide) rfl) ?_;refine uB 23 rfl (uCl zkf rfl (zb0 (l:=[_,_,_,_,_,_]) (by simp))) ?_;refine gz6 ?_;refine uCo (fun h1=> ?_) fun h2=> ?_
 refine gz5 ?_;refine uRp ?_;unfold zcu zh2 zlz zc6
 (rw [if_pos (by assumption)])
 refine gz6 ?_;refine dq (uCl zwW rfl (zbD (l:=g.Games) (p:=fun x=>x.Played) zFm (fun _=>zlj) hb.ga)) ?_;refine gz1 ?_;refine uCo (fun h3=> ?_) fun h4=> ?_
 refine gz4 ?_;refine uRp ?_;unfold zcu zh2 zlz zc6
 (rw [if_neg (fun q=>q h2),if_pos uSa])
 refine gz3 ?_;refine uDr mixed ?_;refine gz2 ?_;refine uB 2 rfl (uCl zFn rfl (zmu (l:=g.Breaks) hb.br)) ?_;refine gz2 ?_;refine uB 5 rfl (uCl ca68 rfl (zjt (l:=g.Trust) hb.tr)) ?_;refine uB 6 rfl (za (hs:=[_,_]) zd9 zgp rfl rfl (by decide) (by decide) rfl) ?_;refine uB 7 rfl (uCl zkf rfl (zb0 (l:=[_,_]) (by simp))) ?_;refine gz6 ?_;refine uCo (fun h5=> ?_) fun h6=> ?_
 refine gz5 ?_;refine uRp ?_;unfold zcu zh2 zlz zc6
 (rw [if_neg (fun q=>q h2),if_neg uSa,if_pos (by assumption)])
 refine gz6 ?_;refine dq (uCl zkh rfl zbC) ?_;refine gz8 ?_;refine uCo (fun h7=> ?_) fun h8=> ?_
 refine gz4 ?_;refine uRp ?_;unfold zcu zh2 zlz zc6
 (rw [if_neg (fun q=>q h2),if_neg uSa,if_neg (fun q=>q h6),if_pos uSa])
 refine gz6 ?_;refine uRp ?_;unfold zcu zh2 zlz zc6
 (rw [if_neg (fun q=>q h2),if_neg uSa,if_neg (fun q=>q h6),if_neg uSa])
theorem zpj [Tracks] {a b:ChoiceS}:ConP prog 218 [zR a,zR b] (.int .i64 (zkM a b)):=by
 refine uOb func218 ntmps218 ?_;refine gz5 ?_;refine uDr mixed ?_;refine gz4 ?_;refine uB 4 rfl (uCl zcf rfl zM) ?_;refine gz4 ?_;refine uB 9 rfl (uCl zdb rfl zV) ?_;refine gz4 ?_;refine uB 14 rfl (uCl zdb rfl zV) ?_;refine uB 15 rfl (za (hs:=[_,_,_]) zac ty3 rfl rfl (by decide) (by decide) rfl) ?_;refine uB 16 rfl (uCl zfO rfl (zbe (l:=[_,_,_]) (by simp))) ?_;refine gz3 ?_;refine zw rfl ?_
 rfl
theorem zlV [Tracks] {b:BookS} {l:List ChoiceS} (hb:BookB b) (hl:l.length<=1000000) (hc: ∀x∈l,x.Players.length<=1000000):ConP prog 134 [.vptr (zwS b) 0,zkk l] (.int .i64 (zmK b.League.Teams b.League.Slots.length l)):=by
 have hsl:=hb.lea.sl;have htm:=hb.lea.tm;refine uOb func134 ntmps134 ?_;refine gz9 ?_;refine uCo (fun h1=> ?_) fun h2=> ?_
 refine gz4 ?_;refine uRp ?_
 (refine congrArg _ (zbK ?_)
  omega)
 refine gz9 ?_;refine uT1 [4,3,8,1,14,68] (fun k=>[(14,.int .i64 k)]) (fun k=>[]) (fun k=>k<=l.length/\(zaV (zbV b.League.Teams b.League.Slots.length) zdP l 0 l=zaV (zbV b.League.Teams b.League.Slots.length) zdP l k (l.drop k))) (fun k=>l.length-k) (0) ?_ ?_;exact ⟨Ad _,rfl⟩;rintro k ⟨hk,hg⟩;refine gz4 ?_;refine uCo (fun h3=> ?_) fun h4=> ?_
 obtain ⟨x,hx⟩: ∃x,l[k]? =some x:=⟨_,Aa h3⟩
 have hdx:=zk hx;rw [hdx] at hg;refine gz6 ?_;refine dq (zA zeF zcm rfl rfl rfl (by assumption)) ?_;refine gz1 ?_;refine de rfl (zj zcm rfl fun b6=> ?_)
 refine gz1 ?_;refine de0 (zn zcm rfl rfl rfl rfl rfl ?_)
 refine gz1 ?_;refine ze (zm 6 rfl) ?_;refine gz2 ?_;refine uDr mixed ?_;refine gz6 ?_;refine uB 6 rfl (uCl zhj rfl (zK (l:=b.League.Teams) (s:=x.Team) uO)) ?_;refine gz3 ?_;refine uCo (fun h5=> ?_) fun h6=> ?_
 refine gz4 ?_;refine uRp ?_
 (refine congrArg _ (zy (e:=8) ?_ hg ?_ ?_)
  omega
  unfold zbV;exact uT
  first|decide|assumption)
 refine gz3 ?_;refine dq (uCl zlq rfl zcG) ?_;refine gz4 ?_;refine uGr rfl (fun hc=>uCl zkh rfl zbC) ?_;refine gz4 ?_;refine uCo (fun h7=> ?_) fun h8=> ?_
 refine gz4 ?_;refine uRp ?_
 (refine congrArg _ (zy (e:=1) ?_ hg ?_ ?_)
  omega
  unfold zbV;exact uT
  first|decide|assumption)
 refine uDr mixed ?_;refine gz2 ?_;refine uB 2 rfl (zax (f:=HVal.str) (l:=x.Players) zq rfl) ?_;refine gz4 ?_;refine uB 7 rfl (zax (f:=zbA) (l:=b.League.Slots) zcl rfl) ?_;refine gz3 ?_;refine uCo (fun h9=> ?_) fun h10=> ?_
 refine gz4 ?_;refine uRp ?_
 (refine congrArg _ (zy (e:=3) ?_ hg ?_ ?_)
  omega
  unfold zbV;exact uT
  first|decide|assumption)
 refine gz4 ?_;have hcx:=hc x (Ab hx);refine uDr mixed ?_;refine gz2 ?_;refine uA 3 ?_;refine gz1 ?_;refine uB 5 rfl (za (hs:=[_]) zq ty9 rfl rfl (by decide) (by decide) rfl) ?_;refine uA 8 ?_;refine uF 2 ?_;refine zt rfl (uCa zkg rfl (zab (l:=x.Players) hcx) fun v51=> ?_)
 refine ⟨uE,?_⟩
 refine uF 6 ?_;refine zt rfl (zlO (N:=[]) (sz:=1) (es:=(x.Players++[x.Captain]).map .str) 0 (zI (i:=0) (v:=v51) (es:=x.Players.map .str) (ys:=[.str x.Captain]) zq ty9 rfl rfl rfl rfl rfl (by simp [zaq,zd]) uSo fun v55=>⟨v55,rfl,by rw [Ay];rfl,rfl⟩) ?_)
 refine ⟨uE,?_⟩
 refine uB 7 rfl (zax (f:=HVal.str) (l:=x.Players++[x.Captain]) zq rfl) ?_;refine uAz ?_;refine gz1 ?_;refine uT1 [4,1,8,1,57,12] (fun j=>[(57,.int .i64 j)]) (fun j=>[]) (fun j=>j<=(x.Players++[x.Captain]).length/\(∀s∈(x.Players++[x.Captain]).take j,zbS s=true)) (fun j=>(x.Players++[x.Captain]).length-j) (0) ?_ ?_;exact ⟨Ad _,by simp⟩;rintro j ⟨hj,hnm⟩;have hlen:(x.Players++[x.Captain]).length=x.Players.length+1:=by simp
 refine gz4 ?_;refine uCo (fun h11=> ?_) fun h12=> ?_
 obtain ⟨s,hs⟩: ∃s,(x.Players++[x.Captain])[j]? =some s:=⟨_,Aa (by rw [Av];simp;omega)⟩
 have hds:=zk hs;refine gz5 ?_;refine dq (zA zq ty9 rfl rfl rfl (by assumption)) ?_;refine gz8 ?_;refine uGr rfl (fun hc=>uCl zcD rfl zak) ?_;refine gz3 ?_;refine uCo (fun h13=> ?_) fun h14=> ?_
 refine gz4 ?_;refine uRp ?_
 (obtain ⟨q1,q2⟩: ¬s=[]/\key s=false:=by first|assumption|simp_all
  have g1:zbV b.League.Teams b.League.Slots.length k x (l.getD (k-1) zdP)=5:=by
   unfold zbV;rw [if_neg uSa,if_neg uSa,if_neg (fun q=>q uO),if_pos (zyX (Ab hs) (zCM q1 q2))]
  exact congrArg _ (zy (e:=5) uO hg g1 (by decide)))
 refine gz7 ?_;refine ⟨j+1,?_,?_,⟨rfl,trivial⟩,uK,Ac _⟩
 refine ⟨by omega,fun s' hs'=> ?_⟩
 rw [zaf hs] at hs'
 rcases List.mem_append.1 hs' with q|q
 exact hnm s' q;rw [List.mem_singleton.1 q];exact zCN (by intro q2;simp_all)
 dsimp only;omega
 have hnj:(x.Players++[x.Captain]).length<=j:=by omega
 obtain rfl:j=(x.Players++[x.Captain]).length:=by omega
 rw [Ak] at hnm;refine gz2 ?_;refine zv ?_;refine gz2 ?_;have hall:((x.Players++[x.Captain]).all zbS)=true:=by
  rw [List.all_eq_true]
  intro s hs
  exact hnm s hs
 refine uDr mixed ?_;refine gz7 ?_;refine uGy 7 rfl rfl (fun hc=>by have hq:=hc;(try simp at hq);exact zA (j:=k-1) (a:=l.getD (k-1) zdP) zeF zcm rfl rfl uO (getD_some uO)) ?_;refine gz1 ?_;refine uGy 9 rfl rfl (fun hc=>uCl zFq rfl zpj) ?_;refine gz3 ?_;refine uCo (fun h15=> ?_) fun h16=> ?_
 refine gz4 ?_;refine uRp ?_
 (refine congrArg _ (zy (e:=7) ?_ hg ?_ ?_)
  omega
  unfold zbV;exact uT
  first|decide|assumption)
 refine gz7 ?_;refine ⟨k+1,?_,?_,⟨rfl,trivial⟩,uK,Ac _⟩
 refine ⟨by omega,?_⟩
 rw [hg,zaT (by unfold zbV;(try clear hdx hg);(try simp only [Ae]);focus first|(simp_all;done)|((repeat' split)<;>focus first|rfl|(exfalso;omega)|(simp_all;done)|(exfalso;rcases ‹_\/_› with q|q<;>simp_all;done)|(exfalso;simp_all;omega)))]
 dsimp only;omega
 have hnk:l.length<=k:=by omega
 obtain rfl:k=l.length:=by omega
 rw [zH (Af _)] at hg;refine gz2 ?_;refine zv ?_;refine gz6 ?_;refine uRp ?_
 (refine congrArg _ (zbz ?_ hg)
  omega)
theorem znV [Tracks] {b:BookS} (hT:Tracks.on=false) (hb:BookB b) (hw: ∀x∈b.Health,-1000000000000000<=x.To/\x.To<=1000000000000000):ConP prog 50 [zcg b] (.int .i64 (zda b)):=by
 refine uOb func50 ntmps50 ?_;refine gz7 ?_;refine dq (zS (h':=zfz b.League) (za0 zbi rfl rfl (Ap rfl)) rfl) ?_;refine dq (uCl zEy rfl (zmt (g:=b.League) hT hb.lea)) ?_;refine gz6 ?_;refine uCo (fun h1=> ?_) fun h2=> ?_
 refine gz5 ?_;refine uRp ?_;unfold zda
 (rw [if_pos (by assumption)])
 refine gz2 ?_;refine uDr mixed ?_;refine gz2 ?_;refine uB 2 rfl (uCl zBg rfl (zio (l:=b.Moves) hb.mv)) ?_;refine gz2 ?_;refine uB 5 rfl (uCl ca67 rfl (zjs (l:=b.Plays) hb.pl)) ?_;refine gz2 ?_;refine uB 8 rfl (uCl zBh rfl (zjr (m:=b.Mends) hb.me)) ?_;refine gz5 ?_;refine uB 14 rfl (uCl zEz rfl (zmz (L:=b.League.Players) (l:=b.Health) hT hb.lea.pl hb.lea.nm hb.lea.po hb.he hw)) ?_;refine gz3 ?_;refine uB 18 rfl (uCl zEA rfl (zlV (b:=b) (l:=b.Choices) hb hb.ch hb.cp)) ?_;refine uB 19 rfl (za (hs:=[_,_,_,_,_]) zd9 zgp rfl rfl (by decide) (by decide) rfl) ?_;refine uB 20 rfl (uCl zkf rfl (zb0 (l:=[_,_,_,_,_]) (by simp))) ?_;refine gz3 ?_;refine uRp ?_;unfold zda
 (rw [if_neg (fun q=>q h2),<-zDD (fun q=>q h2)])
end
section
open Go.Proofs.Tryz
open Go.HL
theorem za1 [Tracks] {n lo hi:Int}:ConP prog 118 [.int .i64 n,.int .i64 lo,.int .i64 hi] (.bool (!(out n lo hi))):=by
 refine uOb func118 ntmps118 ?_;refine zh1 ?_;refine zw rfl ?_
 show HVal.bool _=_
 congr 1;simp [out];rw [AF];simp;try omega
theorem zhd [Tracks] {n:Int}:ConP prog 99 [.int .i64 n] (.int .i64 (zm7 n)):=by
 refine uOb func99 ntmps99 ?_;refine zaw ?_;refine uCo (fun h1=> ?_) fun h2=> ?_
 refine gz4 ?_;refine uRp ?_;unfold zm7
 (rw [if_pos uO])
 refine gz5 ?_;refine uCo (fun h3=> ?_) fun h4=> ?_
 refine gz4 ?_;refine uRp ?_;unfold zm7
 (rw [if_neg uO,if_pos uO])
 refine gz7 ?_;refine uRp ?_;unfold zm7
 (rw [if_neg uO,if_neg uO])
theorem zka [Tracks] {s l:Str} (hs:s.length<=1000000):ConP prog 201 [.str s,.str l] (.bool (zib s l)):=by
 refine uOb func201 ntmps201 ?_;refine zaw ?_;refine uT1 [4,2,8,10] (fun k=>[(8,.int .i64 (k:Int))]) (fun k=>[]) (fun k=>k<=s.length/\zib s l=zib (s.drop k) l) (fun k=>s.length-k) (0) ?_ ?_;exact ⟨Ad _,rfl⟩;rintro k ⟨hk,hg⟩;refine gz4 ?_;refine uCo (fun h1=> ?_) fun h2=> ?_
 obtain ⟨x,hx⟩: ∃x,s[k]? =some x:=⟨_,Aa uO⟩
 have hd:=zk hx;rw [hd] at hg;refine zdl ?_;refine dq (zaO (j:=k) (b:=x) ty9 rfl rfl rfl hx) ?_;refine dq (uCl zBx rfl (zir (s:=l) (c:=x.toNat))) ?_;refine gz2 ?_;refine uCo (fun h3=> ?_) fun h4=> ?_
 refine gz4 ?_;refine zw rfl ?_
 show HVal.bool _=_
 rw [hg]
 (rw [zD1 (by assumption)])
 refine gz7 ?_;refine ⟨k+1,?_,?_,⟨rfl,trivial⟩,uK,Ac _⟩
 refine ⟨by omega,?_⟩
 rw [hg,zD2 (by assumption)]
 dsimp only;omega
 rw [zH uO] at hg;refine gz2 ?_;refine zv ?_;refine gz6 ?_;refine zw rfl ?_
 show HVal.bool _=_
 rw [hg]
 rfl
theorem zbd [Tracks] {s:Str}:ConP prog 119 [.str s] (.bool (key s)):=by
 refine uOb func119 ntmps119 ?_;refine gz6 ?_;refine dq (uCl zgv rfl za1) ?_;refine gz2 ?_;refine dg rfl rfl (fun hc=>by
  have hb:=zfk (n:=(s.length:Int)) (lo:=1) (hi:=40) (by simpa using hc);exact ⟨_,OpenTo.upd (t:=7) rfl (hc) (OpenTo.refl _),zie (l:=0) (h:=1) ty9 rfl rfl ⟨_,_,rfl,by omega⟩ uO uO⟩) ?_
 refine uGr rfl (fun hc=>by have hq:=hc;(try simp at hq);exact uCl zBv rfl (zka (s:=s.take 1) (l:=zjV) (by rw [Az];omega))) ?_;refine gz3 ?_;refine dg rfl rfl (fun hc=>by
  have hb:=zfk (n:=(s.length:Int)) (lo:=1) (hi:=40) (by (have q:=hc;simp at q;exact q.1));exact ⟨_,OpenTo.upd (t:=12) rfl (hc) (OpenTo.refl _),uCl zBv rfl (zka (s:=s) (l:=zg3) uO)⟩) ?_
 refine gz4 ?_;refine zw rfl ?_
 show HVal.bool _=_
 rw [zz9]
 simp
theorem ziZ [Tracks] {n:Int}:ConP prog 117 [.int .i64 n] (.bool (zaa n)):=by
 refine uOb func117 ntmps117 ?_;refine gz5 ?_;refine dq (uCl zgv rfl za1) ?_;refine gz3 ?_;refine zw rfl ?_
 show HVal.bool _=_
 rfl
theorem zhc [Tracks] {n:Int}:ConP prog 192 [.int .i64 n] (.bool (zaQ n)):=by
 refine uOb func192 ntmps192 ?_;refine gz5 ?_;refine dq (uCl zgv rfl za1) ?_;refine gz3 ?_;refine zw rfl ?_
 show HVal.bool _=_
 rfl
theorem zi0 [Tracks] {l:List Str} (hl:l.length<=1000000):ConP prog 195 [eSs l] (.int .i64 (zdQ l)):=by
 refine uOb func195 ntmps195 ?_;refine zaw ?_;refine uT1 [2,3,7,20] (fun k=>[(7,.int .i64 k)]) (fun k=>[]) (fun k=>k<=l.length/\(zdQ l=zbL l k (l.drop k))) (fun k=>l.length-k) (0) ?_ ?_;exact ⟨Ad _,rfl⟩;rintro k ⟨hk,hg⟩;refine gz4 ?_;refine uCo (fun h1=> ?_) fun h2=> ?_
 obtain ⟨x,hx⟩: ∃x,l[k]? =some x:=⟨_,Aa h1⟩
 have hdx:=zk hx;rw [hdx] at hg;refine zdu ?_;refine dq (uCl zhU rfl zbd) ?_;refine gz2 ?_;refine uCo (fun h3=> ?_) fun h4=> ?_
 refine gz4 ?_;refine uRp ?_;rw [hg];simp_all [zbL,leS];refine zaw ?_;refine uGr rfl (fun hc=>by have hq:=hc;(try simp at hq);exact zA (j:=k-1) (a:=l.getD (k-1) []) zq ty9 rfl rfl uO (getD_some uO)) ?_;refine gz4 ?_;refine uCo (fun h5=> ?_) fun h6=> ?_
 refine gz4 ?_;refine uRp ?_;rw [hg];simp_all [zbL,leS];refine gz7 ?_;refine ⟨k+1,?_,?_,⟨rfl,trivial⟩,uK,Ac _⟩
 refine ⟨by omega,?_⟩
 rw [hg];simp_all [zbL,leS]
 dsimp only;omega
 have hnk:l.length<=k:=by omega
 obtain rfl:k=l.length:=by omega
 rw [zH (Af _)] at hg;refine gz2 ?_;refine zv ?_;refine gz6 ?_;refine uRp ?_;rw [hg];simp_all [zbL,leS]
theorem zhy [Tracks] {l:List Str} (hl:l.length<=1000000):ConP prog 191 [eSs l,.bool true] (.int .i64 (zdm l)):=by
 refine uOb func191 ntmps191 ?_;refine zdu ?_;refine uCo (fun h1=> ?_) fun h2=> ?_
 refine gz4 ?_;refine uRp ?_;rw [zr0]
 (rw [if_pos uSa])
 refine gz6 ?_;refine uCo (fun h3=> ?_) fun h4=> ?_
 refine gz4 ?_;refine uRp ?_;rw [zr0]
 (rw [if_neg uO,if_pos uO])
 refine gz5 ?_;refine dq (uCl zBs rfl (zi0 (by assumption))) ?_;refine gz3 ?_;refine uRp ?_;rw [zr0]
 (rw [if_neg uSa,if_neg uO])
theorem zj8 [Tracks] {l:List PlayerS} (hT:Tracks.on=false) (hl:l.length<=1000000) (hn: ∀p∈l,p.Name∈zdg) (hp: ∀p∈l,p.Positions.length<=1000000):ConP prog 104 [zbj l] (.int .i64 (zcN l)):=by
 refine uOb func104 ntmps104 ?_;refine gz9 ?_;refine uCo (fun h1=> ?_) fun h2=> ?_
 refine gz4 ?_;refine uRp ?_
 (refine congrArg _ (zbK ?_)
  omega)
 refine zdl ?_;refine uT1 [2,2,5,2,12,35] (fun k=>[(12,.int .i64 k),(3,.str (zo3 PlayerS.Key zen l k))]) (fun k=>[]) (fun k=>k<=l.length/\(zaV zcR zen l 0 l=zaV zcR zen l k (l.drop k))) (fun k=>l.length-k) (0) ?_ ?_;exact ⟨Ad _,rfl⟩;rintro k ⟨hk,hg⟩;refine gz4 ?_;refine uCo (fun h3=> ?_) fun h4=> ?_
 obtain ⟨x,hx⟩: ∃x,l[k]? =some x:=⟨_,Aa h3⟩
 have hdx:=zk hx;rw [hdx] at hg;refine gz7 ?_;refine de rfl (zj zeO rfl fun b5=> ?_)
 refine de0 (zn zeO rfl rfl rfl rfl rfl ?_)
 refine gz1 ?_;refine ze (zm 5 rfl) ?_;refine gz5 ?_;refine dq (uCl zhU rfl zbd) ?_;refine gz3 ?_;refine uCo (fun h5=> ?_) fun h6=> ?_
 refine gz4 ?_;refine uRp ?_
 (refine congrArg _ (zy (e:=5) ?_ hg ?_ ?_)
  omega
  unfold zcR;exact uT
  first|decide|assumption)
 have hkx:key x.Key=true:=by first|assumption|simp_all
 have hll:=zwg (f:=PlayerS.Key) (d:=zen) (l:=l) (k:=k) (x:=x) hkx;refine gz7 ?_;refine uCo (fun h7=> ?_) fun h8=> ?_
 refine gz4 ?_;refine uRp ?_
 (refine congrArg _ (zy (e:=7) ?_ hg ?_ ?_)
  omega
  unfold zcR;exact uT
  first|decide|assumption)
 have hn6:=zoB (hn x (Ab hx));refine gz3 ?_;refine dq (uCl zFc rfl (zpf hT (hn x (Ab hx)))) ?_;refine gz5 ?_;refine uGr rfl (fun hc=>uCl zgv rfl za1) ?_;refine gz4 ?_;refine zZ rfl (fun h9=> ?_) (fun h9=> ?_)
 exfalso
 try simp at h9
 simp_all
 try simp at h9
 refine gz7 ?_;refine dq (uCl zBr rfl (zhy (hp x (Ab hx)))) ?_;refine gz6 ?_;refine uCo (fun h10=> ?_) fun h11=> ?_
 refine gz5 ?_;refine uRp ?_
 (refine congrArg _ (zy (e:=(zdm x.Positions)) ?_ hg ?_ ?_)
  omega
  unfold zcR;exact uT
  first|decide|assumption)
 refine zee ?_;exact ⟨k+1,⟨by omega,by rw [hg,zaT (by unfold zcR;(try clear hdx hg);(try simp only [Ae]);focus first|(simp_all;done)|((repeat' split)<;>focus first|rfl|(exfalso;omega)|(simp_all;done)|(exfalso;rcases ‹_\/_› with q|q<;>simp_all;done)|(exfalso;simp_all;omega)))]⟩,uD,⟨rfl,congrArg (fun q=>some (HVal.str q)) (zsE hx).symm,trivial⟩,uK,Ac _⟩;have hnk:l.length<=k:=by omega
 obtain rfl:k=l.length:=by omega
 rw [zH (Af _)] at hg;refine gz2 ?_;refine zv ?_;refine gz6 ?_;refine uRp ?_
 (refine congrArg _ (zbz ?_ hg)
  omega)
theorem zlf [Tracks] {x:PlayerS} {s:Str}:ConP prog 205 [zeT x,.vptr [.str s] 0] (.bool (x.Key==s)):=by
 refine uOb func205 ntmps205 ?_;refine zdl ?_;refine zw rfl ?_
 rfl
theorem zfe [Tracks] {l:List PlayerS} {fid:FuncId} {caps:List HVal} {p:PlayerS->Bool} (hca:Callable prog fid) (hp: ∀x,ConP prog fid ([zeT x]++caps) (.bool (p x))) (hl:l.length<=1000000):ConP prog 204 [.slice 3 (l.map zeT),.fn (.func fid) [] caps] (.int .i64 (zW p l 0)):=by
 refine uOb func204 ntmps204 ?_;refine zaw ?_;refine uT1 [4,2,8,11] (fun k=>[(8,.int .i64 k)]) (fun k=>[]) (fun k=>k<=l.length/\(zW p l 0=zW p (l.drop k) k)) (fun k=>l.length-k) (0) ?_ ?_;exact ⟨Ad _,rfl⟩;rintro k ⟨hk,hg⟩;refine gz4 ?_;refine uCo (fun h1=> ?_) fun h2=> ?_
 obtain ⟨x,hx⟩: ∃x,l[k]? =some x:=⟨_,Aa h1⟩
 have hdx:=zk hx;rw [hdx] at hg;refine zdu ?_;refine dq (zap hca rfl rfl (WeakL.refl _) (hp _)) ?_;refine gz1 ?_;refine uCo (fun h3=> ?_) fun h4=> ?_
 refine gz5 ?_;refine uRp ?_
 (rw [hg];simp_all [zW])
 refine gz7 ?_;refine ⟨k+1,?_,?_,⟨rfl,trivial⟩,uK,Ac _⟩
 refine ⟨by omega,?_⟩
 rw [hg,zW,if_neg uSa];rfl
 dsimp only;omega
 have hnk:l.length<=k:=by omega
 obtain rfl:k=l.length:=by omega
 rw [zH (Af _)] at hg;refine gz2 ?_;refine zv ?_;refine gz6 ?_;refine uRp ?_
 (rw [hg];rfl)
theorem zdA [Tracks] {l:List PlayerS} {s:Str} (hl:l.length<=1000000):ConP prog 126 [zbj l,.str s] (.int .i64 (zW (fun x:PlayerS=>x.Key==s) l 0)):=by
 refine uOb func126 ntmps126 ?_;refine gz7 ?_;refine dq (uCl zFh rfl (zfe (l:=l) (p:=fun x=>x.Key==s) zFi (fun _=>zlf) hl)) ?_;refine gz3 ?_;refine zw rfl ?_
 rfl
theorem zkC [Tracks] {L:List PlayerS} {l:List StintS} (hL:L.length<=1000000) (hl:l.length<=1000000):ConP prog 105 [zbj L,zfA l] (.int .i64 (zjl L l)):=by
 refine uOb func105 ntmps105 ?_;refine gz9 ?_;refine uCo (fun h1=> ?_) fun h2=> ?_
 refine gz4 ?_;refine uRp ?_
 (refine congrArg _ (zbK ?_)
  omega)
 refine gz9 ?_;refine uT1 [4,3,12,63] (fun k=>[(12,.int .i64 k)]) (fun k=>[]) (fun k=>k<=l.length/\(zaV (zdZ L) zfu l 0 l=zaV (zdZ L) zfu l k (l.drop k))) (fun k=>l.length-k) (0) ?_ ?_;exact ⟨Ad _,rfl⟩;rintro k ⟨hk,hg⟩;refine gz4 ?_;refine uCo (fun h3=> ?_) fun h4=> ?_
 obtain ⟨x,hx⟩: ∃x,l[k]? =some x:=⟨_,Aa h3⟩
 have hdx:=zk hx;rw [hdx] at hg;refine gz8 ?_;refine de rfl (zj zcP rfl fun b6=> ?_)
 refine gz1 ?_;refine de0 (zn zcP rfl rfl rfl rfl rfl ?_)
 refine gz1 ?_;refine ze (zm 6 rfl) ?_;refine gz5 ?_;refine dq (uCl zty rfl (zdA (l:=L) (s:=x.Player) hL)) ?_;refine gz3 ?_;refine uCo (fun h5=> ?_) fun h6=> ?_
 have hph:=zq6 (L:=L) (s:=x.Player);refine gz4 ?_;refine uRp ?_
 (refine congrArg _ (zy (e:=8) ?_ hg ?_ ?_)
  omega
  unfold zdZ;exact uT
  first|decide|assumption)
 have hph:=zq6 (L:=L) (s:=x.Player);have hpl:zgA L x.Player=true:=by
  cases hq:zgA L x.Player with
  |true=>rfl
  |false=>have:=hph.2 hq;omega
 refine gz7 ?_;refine uGr rfl (fun hc=>uCl zhU rfl zbd) ?_;refine gz4 ?_;refine uCo (fun h7=> ?_) fun h8=> ?_
 refine gz4 ?_;refine uRp ?_
 (refine congrArg _ (zy (e:=5) ?_ hg ?_ ?_)
  omega
  unfold zdZ;exact uT
  first|decide|assumption)
 refine gz3 ?_;refine dq (uCl zw0 rfl zhc) ?_;refine gz3 ?_;refine uCo (fun h9=> ?_) fun h10=> ?_
 refine gz4 ?_;refine uRp ?_
 (refine congrArg _ (zy (e:=1) ?_ hg ?_ ?_)
  omega
  unfold zdZ;exact uT
  first|decide|assumption)
 have hord:=ord2 (a:=x.Player) (b:=(l.getD (k-1) zfu).Player) (m:=x.Week) (n:=(l.getD (k-1) zfu).Week);refine uDr mixed ?_;refine gz8 ?_;refine uGy 8 rfl rfl (fun hc=>by have hq:=hc;(try simp at hq);exact zA (j:=k-1) (a:=l.getD (k-1) zfu) zhs zcP rfl rfl uO (getD_some uO)) ?_;refine gz9 ?_;refine uGy 18 rfl rfl (fun hc=>by have hq:=hc;(try simp at hq);exact zA (j:=k-1) (a:=l.getD (k-1) zfu) zhs zcP rfl rfl uO (getD_some uO)) ?_;refine gz9 ?_;refine uGy 28 rfl rfl (fun hc=>by have hq:=hc;(try simp at hq);exact zA (j:=k-1) (a:=l.getD (k-1) zfu) zhs zcP rfl rfl uO (getD_some uO)) ?_;refine gz8 ?_;refine uCo (fun h11=> ?_) fun h12=> ?_
 refine gz4 ?_;refine uRp ?_
 (refine congrArg _ (zy (e:=7) ?_ hg ?_ ?_)
  omega
  unfold zdZ;exact uT
  first|decide|assumption)
 refine gz8 ?_;refine ⟨k+1,?_,?_,⟨rfl,trivial⟩,uK,Ac _⟩
 refine ⟨by omega,?_⟩
 rw [hg,zaT (by unfold zdZ;(try clear hdx hg);(try simp only [Ae]);focus first|(simp_all;done)|((repeat' split)<;>focus first|rfl|(exfalso;omega)|(simp_all;done)|(exfalso;rcases ‹_\/_› with q|q<;>simp_all;done)|(exfalso;simp_all;omega)))]
 dsimp only;omega
 have hnk:l.length<=k:=by omega
 obtain rfl:k=l.length:=by omega
 rw [zH (Af _)] at hg;refine gz2 ?_;refine zv ?_;refine gz6 ?_;refine uRp ?_
 (refine congrArg _ (zbz ?_ hg)
  omega)
theorem zkB [Tracks] {L:List PlayerS} {l:List HealthS} (hL:L.length<=1000000) (hl:l.length<=1000000) (hw: ∀x∈l,-1000000000000000<=x.To/\x.To<=1000000000000000):ConP prog 47 [zbj L,zcc l] (.int .i64 (zor L l)):=by
 refine uOb func47 ntmps47 ?_;refine gz9 ?_;refine uCo (fun h1=> ?_) fun h2=> ?_
 refine gz4 ?_;refine uRp ?_
 (refine congrArg _ (zbK ?_)
  omega)
 refine gz9 ?_;refine uT1 [4,4,13,74] (fun k=>[(13,.int .i64 k)]) (fun k=>[]) (fun k=>k<=l.length/\(zaV (zb5 L) zgB l 0 l=zaV (zb5 L) zgB l k (l.drop k))) (fun k=>l.length-k) (0) ?_ ?_;exact ⟨Ad _,rfl⟩;rintro k ⟨hk,hg⟩;refine gz4 ?_;refine uCo (fun h3=> ?_) fun h4=> ?_
 obtain ⟨x,hx⟩: ∃x,l[k]? =some x:=⟨_,Aa h3⟩
 have hdx:=zk hx;rw [hdx] at hg;refine gz8 ?_;refine de rfl (zj zcB rfl fun b6=> ?_)
 refine gz1 ?_;refine de0 (zn zcB rfl rfl rfl rfl rfl ?_)
 refine gz1 ?_;refine ze (zm 6 rfl) ?_;refine gz2 ?_;have hwx:=hw x (Ab hx);refine gz4 ?_;refine dq (uCl zty rfl (zdA (l:=L) (s:=x.Player) hL)) ?_;refine gz3 ?_;refine uCo (fun h5=> ?_) fun h6=> ?_
 have hph:=zq6 (L:=L) (s:=x.Player);refine gz4 ?_;refine uRp ?_
 (refine congrArg _ (zy (e:=8) ?_ hg ?_ ?_)
  omega
  unfold zb5;exact uT
  first|decide|assumption)
 have hph:=zq6 (L:=L) (s:=x.Player);have hpl:zgA L x.Player=true:=by
  cases hq:zgA L x.Player with
  |true=>rfl
  |false=>have:=hph.2 hq;omega
 refine gz6 ?_;refine dq (uCl zgv rfl za1) ?_;refine gz8 ?_;refine uCo (fun h7=> ?_) fun h8=> ?_
 have hag:=zz3 (f:=x.From) (t:=x.To) (by assumption);refine gz4 ?_;refine uRp ?_
 (refine congrArg _ (zy (e:=1) ?_ hg ?_ ?_)
  omega
  unfold zb5;exact uT
  first|decide|assumption)
 have hag:=zz2 (f:=x.From) (t:=x.To) (by assumption);refine zct ?_;refine uCo (fun h9=> ?_) fun h10=> ?_
 have hkd:=zDJ (k:=x.Kind) (by assumption);refine gz4 ?_;refine uRp ?_
 (refine congrArg _ (zy (e:=4) ?_ hg ?_ ?_)
  omega
  unfold zb5;exact uT
  first|decide|assumption)
 refine gz4 ?_;have hkd:=zDI (k:=x.Kind) (by assumption);refine gz4 ?_;refine uCo (fun h11=> ?_) fun h12=> ?_
 refine gz8 ?_;refine ⟨k+1,?_,?_,⟨rfl,trivial⟩,uK,Ac _⟩
 refine ⟨by omega,?_⟩
 rw [hg,zaT (by unfold zb5;(try clear hdx hg);(try simp only [Ae]);focus first|(simp_all;done)|((repeat' split)<;>focus first|rfl|(exfalso;omega)|(simp_all;done)|(exfalso;rcases ‹_\/_› with q|q<;>simp_all;done)|(exfalso;simp_all;omega)))]
 dsimp only;omega
 refine gz2 ?_;have hk0:0<k:=by omega
 refine gz4 ?_;refine dq (zA (j:=k-1) (a:=l.getD (k-1) zgB) zjo zcB rfl rfl uO (getD_some uO)) ?_;refine gz1 ?_;refine de rfl (zj zcB rfl fun b7=> ?_)
 refine de0 (zn zcB rfl rfl rfl rfl rfl ?_)
 refine gz1 ?_;refine ze (zm 7 rfl) ?_;refine gz1 ?_;have hord:=ord2 (a:=x.Player) (b:=(l.getD (k-1) zgB).Player) (m:=x.From) (n:=(l.getD (k-1) zgB).From);refine gz22 ?_;refine uCo (fun h13=> ?_) fun h14=> ?_
 refine gz4 ?_;refine uRp ?_
 (refine congrArg _ (zy (e:=7) ?_ hg ?_ ?_)
  omega
  unfold zb5;exact uT
  first|decide|assumption)
 refine zh1 ?_;refine uCo (fun h15=> ?_) fun h16=> ?_
 refine gz4 ?_;refine uRp ?_
 (refine congrArg _ (zy (e:=13) ?_ hg ?_ ?_)
  omega
  unfold zb5;exact uT
  first|decide|assumption)
 refine gz8 ?_;refine ⟨k+1,?_,?_,⟨rfl,trivial⟩,uK,Ac _⟩
 refine ⟨by omega,?_⟩
 rw [hg,zaT (by unfold zb5;(try clear hdx hg);(try simp only [Ae]);focus first|(simp_all;done)|((repeat' split)<;>focus first|rfl|(exfalso;omega)|(simp_all;done)|(exfalso;rcases ‹_\/_› with q|q<;>simp_all;done)|(exfalso;simp_all;omega)))]
 dsimp only;omega
 have hnk:l.length<=k:=by omega
 obtain rfl:k=l.length:=by omega
 rw [zH (Af _)] at hg;refine gz2 ?_;refine zv ?_;refine gz6 ?_;refine uRp ?_
 (refine congrArg _ (zbz ?_ hg)
  omega)
theorem zf4 [Tracks] {a b:List Int} (ha:a.length<=1000) (hb:b.length<=1000):ConP prog 173 [.slice 1 (a.map (HVal.int .i64)),.slice 1 (b.map (HVal.int .i64))] (.int .i64 (zfH a b)):=by
 refine uOb func173 ntmps173 ?_;refine zaw ?_;refine uT1 [4,5,11,20] (fun k=>[(11,.int .i64 k)]) (fun k=>[]) (fun k=>k<=a.length/\(zfH a b=zfH (a.drop k) (b.drop k))) (fun k=>a.length-k) (0) ?_ ?_;exact ⟨Ad _,rfl⟩;rintro k ⟨hk,hg⟩;refine gz4 ?_;refine uCo (fun h1=> ?_) fun h2=> ?_
 obtain ⟨x,hx⟩: ∃x,a[k]? =some x:=⟨_,Aa h1⟩
 have hdx:=zk hx;rw [hdx] at hg;refine zz1 ?_;refine uCo (fun h3=> ?_) fun h4=> ?_
 refine gz4 ?_;refine uRp ?_
 (rw [hg,BB (show b.length<=k by omega)];rfl)
 refine gz2 ?_;obtain ⟨y,hy⟩: ∃y,b[k]? =some y:=⟨_,Aa uO⟩
 refine zaw ?_;refine dq (uCl zdb rfl (zV (a:=x) (b:=y))) ?_;refine gz6 ?_;refine uCo (fun h5=> ?_) fun h6=> ?_
 refine gz5 ?_;refine uRp ?_
 (rw [hg,zk hy,zfH,if_pos (by assumption)])
 refine gz7 ?_;exact ⟨k+1,⟨by omega,by rw [hg,zk hy,zfH,if_neg uSa]⟩,uD,⟨rfl,trivial⟩,uK,Ac _⟩;have hnk:a.length<=k:=by omega
 obtain rfl:k=a.length:=by omega
 rw [zH (Af _)] at hg;refine gz2 ?_;refine zv ?_;refine zaw ?_;refine uCo (fun h7=> ?_) fun h8=> ?_
 refine gz4 ?_;refine uRp ?_
 (obtain ⟨y,hy⟩: ∃y,b[a.length]? =some y:=⟨_,Aa uO⟩
  rw [hg,zk hy];rfl)
 refine gz6 ?_;refine uRp ?_
 (rw [hg,BB (show b.length<=a.length by omega)];rfl)
theorem zjx [Tracks] {l:List FixS} (hl:l.length<=1000000):ConP prog 106 [zmM l] (.int .i64 (zjj l)):=by
 refine uOb func106 ntmps106 ?_;refine gz9 ?_;refine uCo (fun h1=> ?_) fun h2=> ?_
 refine gz4 ?_;refine uRp ?_
 (refine congrArg _ (zbK ?_)
  omega)
 refine gz9 ?_;refine uT1 [2,5,12,65] (fun k=>[(12,.int .i64 k)]) (fun k=>[]) (fun k=>k<=l.length/\(zaV zgg zls l 0 l=zaV zgg zls l k (l.drop k))) (fun k=>l.length-k) (0) ?_ ?_;exact ⟨Ad _,rfl⟩;rintro k ⟨hk,hg⟩;refine gz4 ?_;refine uCo (fun h3=> ?_) fun h4=> ?_
 obtain ⟨x,hx⟩: ∃x,l[k]? =some x:=⟨_,Aa h3⟩
 have hdx:=zk hx;rw [hdx] at hg;refine gz8 ?_;refine de rfl (zj zaK rfl fun b4=> ?_)
 refine gz1 ?_;refine de0 (zn zaK rfl rfl rfl rfl rfl ?_)
 refine gz1 ?_;refine ze (zm 4 rfl) ?_;refine gz5 ?_;refine dq (uCl zw0 rfl zhc) ?_;refine gz4 ?_;refine uGr rfl (fun hc=>uCl zBd rfl ziZ) ?_;refine gz4 ?_;refine uCo (fun h5=> ?_) fun h6=> ?_
 refine gz4 ?_;refine uRp ?_
 (refine congrArg _ (zy (e:=1) ?_ hg ?_ ?_)
  omega
  unfold zgg;exact uT
  first|decide|assumption)
 refine gz3 ?_;refine dq (uCl zhU rfl zbd) ?_;refine gz4 ?_;refine uGr rfl (fun hc=>uCl zhU rfl zbd) ?_;refine gz4 ?_;refine uCo (fun h7=> ?_) fun h8=> ?_
 refine gz4 ?_;refine uRp ?_
 (refine congrArg _ (zy (e:=5) ?_ hg ?_ ?_)
  omega
  unfold zgg;exact uT
  first|decide|assumption)
 refine gz8 ?_;refine uCo (fun h9=> ?_) fun h10=> ?_
 refine gz4 ?_;refine uRp ?_
 (refine congrArg _ (zy (e:=6) ?_ hg ?_ ?_)
  omega
  unfold zgg;exact uT
  first|decide|assumption)
 refine gz7 ?_;refine uCo (fun h11=> ?_) fun h12=> ?_
 refine gz4 ?_;refine dq (zA (j:=k-1) (a:=l.getD (k-1) zls) zc7 zaK rfl rfl uO (getD_some uO)) ?_;refine gz1 ?_;refine de rfl (zj zaK rfl fun b5=> ?_)
 refine de0 (zn zaK rfl rfl rfl rfl rfl ?_)
 refine gz1 ?_;refine ze (zm 5 rfl) ?_;refine gz5 ?_;refine dq (za (hs:=[_,_]) zac ty3 rfl rfl (by decide) (by decide) rfl) ?_;refine gz4 ?_;refine dq (za (hs:=[_,_]) zac ty3 rfl rfl (by decide) (by decide) rfl) ?_;refine dq (uCl zBm rfl (zf4 (a:=[(l.getD (k-1) zls).Week,(l.getD (k-1) zls).At]) (b:=[x.Week,x.At]) (by simp) (by simp))) ?_;refine gz2 ?_;have hord:=zCo (x:=x) (p:=l.getD (k-1) zls);refine zh1 ?_;refine uCo (fun h13=> ?_) fun h14=> ?_
 refine gz4 ?_;refine uRp ?_
 (refine congrArg _ (zy (e:=7) ?_ hg ?_ ?_)
  omega
  unfold zgg;exact uT
  first|decide|assumption)
 refine gz7 ?_;refine ⟨k+1,?_,?_,⟨rfl,trivial⟩,uK,Ac _⟩
 refine ⟨by omega,?_⟩
 rw [hg,zaT (by unfold zgg;(try clear hdx hg);(try simp only [Ae]);focus first|(simp_all;done)|((repeat' split)<;>focus first|rfl|(exfalso;omega)|(simp_all;done)|(exfalso;rcases ‹_\/_› with q|q<;>simp_all;done)|(exfalso;simp_all;omega)))]
 dsimp only;omega
 refine gz7 ?_;refine ⟨k+1,?_,?_,⟨rfl,trivial⟩,uK,Ac _⟩
 refine ⟨by omega,?_⟩
 rw [hg,zaT (by unfold zgg;(try clear hdx hg);(try simp only [Ae]);focus first|(simp_all;done)|((repeat' split)<;>focus first|rfl|(exfalso;omega)|(simp_all;done)|(exfalso;rcases ‹_\/_› with q|q<;>simp_all;done)|(exfalso;simp_all;omega)))]
 dsimp only;omega
 have hnk:l.length<=k:=by omega
 obtain rfl:k=l.length:=by omega
 rw [zH (Af _)] at hg;refine gz2 ?_;refine zv ?_;refine gz6 ?_;refine uRp ?_
 (refine congrArg _ (zbz ?_ hg)
  omega)
theorem zim [Tracks] {n d:Int} (hn: -1000000000000<=n/\n<=1000000000000) (hd:0<=d/\d<=1000000000000):ConP prog 260 [.int .i64 n,.int .i64 d] (.int .i64 ((Nat.gcd n.natAbs d.natAbs:Nat):Int)):=by
 refine uOb func260 ntmps260 ?_;refine gz5 ?_;refine uU2 [0,2,5,6] (fun (a:Int) (b:Int)=>[(0,.int .i64 a),(1,.int .i64 b)]) (fun (a:Int) (b:Int)=>[]) (fun (a:Int) (b:Int)=>(-1000000000000<=a/\a<=1000000000000)/\(-1000000000000<=b/\b<=1000000000000)/\Nat.gcd a.natAbs b.natAbs=Nat.gcd n.natAbs d.natAbs) (fun (a:Int) (b:Int)=>b.natAbs) (n) (d) ?_ ?_;exact ⟨hn,by omega,rfl⟩;rintro a b ⟨ha,hb,hg⟩;refine gz5 ?_;refine uCo (fun h1=> ?_) fun h2=> ?_
 have hb0:b≠0:=by simpa using h1
 obtain ⟨m1,m2,m3⟩:=zvr (a:=a) hb0;refine gz3 ?_;refine zhu mixed ?_;refine gz3 ?_;refine uB 3 rfl (zcx rfl rfl uO) ?_;refine gz4 ?_;refine ⟨b,a.tmod b,?_,?_,⟨rfl,rfl,trivial⟩,uK,Ac _⟩
 exact ⟨hb,by omega,by rw [zA0];exact hg⟩
 dsimp only;exact m3
 obtain rfl:b=0:=by simpa using h2
 rw [show (0:Int).natAbs=0 from rfl,Nat.gcd_zero_right] at hg;refine gz2 ?_;refine zN ?_;refine gz5 ?_;refine dq (zhJ rfl uO uO) ?_;refine dq (zl5 rfl rfl) ?_;refine gz3 ?_;refine uRp ?_;rw [<-hg]
 congr 1
 omega
theorem zec [Tracks] {n d most:Int} (hn: -1000000000<=n/\n<=1000000000) (hd: -1000000000<=d/\d<=1000000000) (hm:0<=most/\most<=1000000):ConP prog 193 [.agg [.int .i64 n,.int .i64 d],.int .i64 most] (.int .i64 (zbB n d most)):=by
 refine uOb func193 ntmps193 ?_;refine zh1 ?_;refine dg rfl rfl (fun hc=>by
  have hd1:1<=d:=by (have q:=hc;simp at q;omega)
  exact ⟨_,OpenTo.upd (t:=13) rfl (hc) (OpenTo.upd (t:=11) rfl (hc) (OpenTo.refl _)),uCl zBI rfl (zim (n:=n) (d:=d) uO uO)⟩) ?_
 refine gz4 ?_;refine uCo (fun h1=> ?_) fun h2=> ?_
 have hp3:=pts3 (n:=n) (d:=d) (by assumption);refine gz4 ?_;refine uRp ?_;unfold zbB
 (rw [if_pos hp3])
 have hp0:=pts0 (n:=n) (d:=d) uSa;have hd1:1<=d:=by (focus first|omega|(simp_all;done)|(simp_all;omega))
 have hmd:=zqZ (a:=most) (b:=d) (A:=1000000) (B:=1000000000) uO uO uO uO;have hmn: -most*d= -(most*d):=Bk _ _;refine gz3 ?_;refine dq (zcx rfl rfl uO) ?_;refine gz5 ?_;refine uGr rfl (fun hc=>by have hq:=hc;(try simp at hq);exact zhJ rfl uO uO) ?_;refine gz2 ?_;refine uGr rfl (fun hc=>by have hq:=hc;(try simp at hq);exact zby rfl rfl uO uO) ?_;refine gz8 ?_;refine uGr rfl (fun hc=>by have hq:=hc;(try simp at hq);exact zby rfl rfl uO uO) ?_;refine gz4 ?_;refine uCo (fun h3=> ?_) fun h4=> ?_
 have hp1:=pts1 (n:=n) (d:=d) (m:=most) (by assumption);refine gz4 ?_;refine uRp ?_;unfold zbB
 (rw [if_neg (by rw [hp0];simp;omega),if_pos hp1])
 refine gz3 ?_;have hp2:=pts2 (n:=n) (d:=d) (m:=most) (by assumption);refine gz4 ?_;refine uRp ?_;unfold zbB
 (rw [if_neg (by rw [hp0];simp;omega),if_neg hp2])
theorem zlg [Tracks] {l:List RuleS} (hl:l.length<=1000000) (hb: ∀x∈l,((-1000000000<=x.Num/\x.Num<=1000000000)/\ -1000000000<=x.Den/\x.Den<=1000000000)):ConP prog 107 [zgd l] (.int .i64 (zgM l)):=by
 refine uOb func107 ntmps107 ?_;refine gz9 ?_;refine uCo (fun h1=> ?_) fun h2=> ?_
 refine gz4 ?_;refine uRp ?_
 (refine congrArg _ (zbK ?_)
  omega)
 refine zdl ?_;refine uT1 [2,2,5,3,13,70] (fun k=>[(13,.int .i64 k),(3,.str (zo3 RuleS.Key zk0 l k))]) (fun k=>[]) (fun k=>k<=l.length/\(zaV zd7 zk0 l 0 l=zaV zd7 zk0 l k (l.drop k))) (fun k=>l.length-k) (0) ?_ ?_;exact ⟨Ad _,rfl⟩;rintro k ⟨hk,hg⟩;refine gz4 ?_;refine uCo (fun h3=> ?_) fun h4=> ?_
 obtain ⟨x,hx⟩: ∃x,l[k]? =some x:=⟨_,Aa h3⟩
 have hdx:=zk hx;rw [hdx] at hg;refine gz7 ?_;refine de rfl (zj zgG rfl fun b5=> ?_)
 refine de0 (zn zgG rfl rfl rfl rfl rfl ?_)
 refine gz1 ?_;refine ze (zm 5 rfl) ?_;refine gz9 ?_;refine dq (zS (h':= .bool (zqU x.Kind)) (zjF rfl) rfl) ?_;refine gz6 ?_;refine dq (uCl zhU rfl zbd) ?_;refine gz4 ?_;refine uGr rfl (fun hc=>uCl zhU rfl zbd) ?_;refine gz9 ?_;refine uGr rfl (fun hc=>uCl zhU rfl zbd) ?_;refine gz5 ?_;refine uCo (fun h5=> ?_) fun h6=> ?_
 refine gz4 ?_;refine uRp ?_
 (refine congrArg _ (zy (e:=5) ?_ hg ?_ ?_)
  omega
  unfold zd7;exact uT
  first|decide|assumption)
 have hkx:key x.Key=true:=by simp_all
 have hll:=zwg (f:=RuleS.Key) (d:=zk0) (l:=l) (k:=k) (x:=x) hkx;refine gz7 ?_;refine uCo (fun h7=> ?_) fun h8=> ?_
 refine gz4 ?_;refine uRp ?_
 (refine congrArg _ (zy (e:=7) ?_ hg ?_ ?_)
  omega
  unfold zd7;exact uT
  first|decide|assumption)
 refine gz3 ?_;refine dq (uCl zgv rfl za1) ?_;refine gz3 ?_;refine uCo (fun h9=> ?_) fun h10=> ?_
 refine gz4 ?_;refine uRp ?_
 (refine congrArg _ (zy (e:=4) ?_ hg ?_ ?_)
  omega
  unfold zd7;exact uT
  first|decide|assumption)
 refine gz5 ?_;refine uGr rfl (fun hc=>uCl zgv rfl za1) ?_;refine zee ?_;refine uCo (fun h11=> ?_) fun h12=> ?_
 refine gz4 ?_;refine uRp ?_
 (refine congrArg _ (zy (e:=1) ?_ hg ?_ ?_)
  omega
  unfold zd7;exact uT
  first|decide|assumption)
 refine gz6 ?_;refine dq (zS (h':= .agg [.int .i64 x.Num,.int .i64 x.Den]) (za0 zU rfl rfl (Ap rfl)) rfl) ?_;refine dq (uCl zw1 rfl (zec (n:=x.Num) (d:=x.Den) (most:=10000) (hb x (Ab hx)).1 (hb x (Ab hx)).2 uO)) ?_;refine gz6 ?_;refine uCo (fun h13=> ?_) fun h14=> ?_
 refine gz5 ?_;refine uRp ?_
 (refine congrArg _ (zy (e:=(zbB x.Num x.Den 10000)) ?_ hg ?_ ?_)
  omega
  unfold zd7;exact uT
  first|decide|assumption)
 refine zee ?_;exact ⟨k+1,⟨by omega,by rw [hg,zaT (by unfold zd7;(try clear hdx hg);(try simp only [Ae]);focus first|(simp_all;done)|((repeat' split)<;>focus first|rfl|(exfalso;omega)|(simp_all;done)|(exfalso;rcases ‹_\/_› with q|q<;>simp_all;done)|(exfalso;simp_all;omega)))]⟩,uD,⟨rfl,congrArg (fun q=>some (HVal.str q)) (zsE hx).symm,trivial⟩,uK,Ac _⟩;have hnk:l.length<=k:=by omega
 obtain rfl:k=l.length:=by omega
 rw [zH (Af _)] at hg;refine gz2 ?_;refine zv ?_;refine gz6 ?_;refine uRp ?_
 (refine congrArg _ (zbz ?_ hg)
  omega)
theorem zj9 [Tracks] {y x:SlotS}:ConP prog 194 [zbA y,.vptr (zd (zbA x)) 0] (.bool (y.Key==x.Key)):=by
 refine uOb func194 ntmps194 ?_;refine zee ?_;refine zw rfl ?_
 rfl
theorem zli [Tracks] {l:List SlotS} (hl:l.length<=1000000) (hp: ∀x∈l,x.Positions.length<=1000000):ConP prog 108 [zbt l] (.int .i64 (zdn l)):=by
 refine uOb func108 ntmps108 ?_;refine zct ?_;refine uCo (fun h1=> ?_) fun h2=> ?_
 ·refine gz4 ?_;refine uRp ?_
  (unfold zdn;simp_all;done)
 ·refine gz6 ?_;refine uCo (fun h3=> ?_) fun h4=> ?_
  ·refine gz4 ?_;refine uRp ?_
   (rw [zdn,if_neg (by first|omega|simp_all),if_pos uO];done)
  ·refine zaw ?_;refine uT1 [2,4,16,21] (fun k=>[(16,.int .i64 k)]) (fun k=>[]) (fun k=>k<=l.length/\(zcO l 0 l=zcO l k (l.drop k))) (fun k=>l.length-k) (0) ?_ ?_
   ·exact ⟨Ad _,rfl⟩
   ·rintro k ⟨hk,hg⟩;refine gz4 ?_;refine uCo (fun h5=> ?_) fun h6=> ?_
    ·obtain ⟨x,hx⟩: ∃x,l[k]? =some x:=⟨_,Aa h5⟩
     have hdx:=zk hx;rw [hdx] at hg;refine gz8 ?_;refine de rfl (zj zcF rfl fun b4=> ?_)
     refine gz1 ?_;refine de0 (zn zcF rfl rfl rfl rfl rfl ?_)
     refine gz1 ?_;refine ze (zm 4 rfl) ?_;refine gz4 ?_;refine dq (uCl zhU rfl zbd) ?_;refine gz2 ?_;refine uCo (fun h7=> ?_) fun h8=> ?_
     ·refine gz4 ?_;refine uRp ?_
      (refine congrArg _ (ziH (e:=5) ?_ ?_ hg ?_)
       ·first|omega|simp_all
       ·omega
       ·rw [zcO]
        simp_all
        done)
     ·refine gz6 ?_;refine dq (zaP zcl zcF rfl rfl ⟨_,_,rfl,rfl⟩ uO uO) ?_;refine gz1 ?_;refine dq (uCl ca76 rfl (zcU (l:=l.take k) (p:=fun y=>y.Key==x.Key) zFd (fun _=>zj9) (by rw [Az];omega))) ?_;refine gz1 ?_;refine uCo (fun h9=> ?_) fun h10=> ?_
      ·refine gz4 ?_;refine uRp ?_
       (refine congrArg _ (ziH (e:=6) ?_ ?_ hg ?_)
        ·first|omega|simp_all
        ·omega
        ·rw [zcO]
         simp_all
         done)
      ·refine gz5 ?_;refine dq (uCl zBr rfl (zhy (hp x (Ab hx)))) ?_;refine gz6 ?_;refine uCo (fun h11=> ?_) fun h12=> ?_
       ·refine gz5 ?_;refine uRp ?_
        (refine congrArg _ (ziH (e:=(zdm x.Positions)) ?_ ?_ hg ?_)
         ·first|omega|simp_all
         ·omega
         ·rw [zcO]
          simp_all
          done)
       ·refine gz7 ?_;refine ⟨k+1,?_,?_,⟨rfl,trivial⟩,uK,Ac _⟩
        ·refine ⟨by omega,?_⟩
         rw [hg,zcO,if_neg uSa,if_neg uSa,if_neg uSa]
        ·dsimp only;omega
    ·have hnk:l.length<=k:=by omega
     obtain rfl:k=l.length:=by omega
     rw [zH (Af _)] at hg;refine gz2 ?_;refine zv ?_;refine gz6 ?_;refine uRp ?_
     (refine congrArg _ (zvk ?_ ?_ hg)<;>first|omega|simp_all)
theorem zkz [Tracks] {b:BoundS}:ConP prog 109 [zgc b] (.int .i64 (zdU b)):=by
 refine uOb func109 ntmps109 ?_;refine gz8 ?_;refine dq (uCl zgv rfl za1) ?_;refine gz4 ?_;refine uGr rfl (fun hc=>uCl zgv rfl za1) ?_;refine gz5 ?_;refine uGr rfl (fun hc=>uCl zgv rfl za1) ?_;refine gz5 ?_;refine uGr rfl (fun hc=>uCl zgv rfl za1) ?_;refine gz3 ?_;refine uCo (fun h1=> ?_) fun h2=> ?_
 refine gz4 ?_;refine uRp ?_;unfold zdU
 (rw [if_pos uSa])
 refine gz6 ?_;refine uRp ?_;unfold zdU
 (rw [if_neg uSa])
theorem zhz [Tracks] {a b:MoveS} (ha:MovB a) (hb:MovB b):ConP prog 37 [zdq a,zdq b] (.int .i64 (zgZ a b)):=by
 obtain ⟨a1,a2⟩:=ha;obtain ⟨b1,b2⟩:=hb;refine uOb func37 ntmps37 ?_;refine zh1 ?_;refine uCo (fun h1=> ?_) fun h2=> ?_
 refine gz6 ?_;refine dq (uCl zzJ rfl zhd) ?_;refine gz3 ?_;refine uRp ?_;rw [zmo]
 try rw [zhr]
 simp_all
 refine gz8 ?_;refine uCo (fun h3=> ?_) fun h4=> ?_
 refine gz5 ?_;refine dq (uCl zcf rfl zM) ?_;refine gz3 ?_;refine uRp ?_;rw [zmo]
 try rw [zhr]
 simp_all
 refine gz8 ?_;refine uCo (fun h5=> ?_) fun h6=> ?_
 refine gz5 ?_;refine dq (uCl zcf rfl zM) ?_;refine gz3 ?_;refine uRp ?_;rw [zmo]
 try rw [zhr]
 simp_all
 refine gz9 ?_;refine dq (uCl zzJ rfl zhd) ?_;refine gz3 ?_;refine uRp ?_;rw [zmo]
 try rw [zhr]
 simp_all
theorem zle [Tracks] {l:List MoveS} (hl:l.length<=1000000) (hb: ∀x∈l,MovB x):ConP prog 44 [zck l] (.int .i64 (zfi l)):=by
 refine uOb func44 ntmps44 ?_;refine gz9 ?_;refine uCo (fun h1=> ?_) fun h2=> ?_
 refine gz4 ?_;refine uRp ?_
 (refine congrArg _ (zbK ?_)
  omega)
 refine gz9 ?_;refine uT1 [2,3,10,40] (fun k=>[(10,.int .i64 k)]) (fun k=>[]) (fun k=>k<=l.length/\(zaV zeK zjD l 0 l=zaV zeK zjD l k (l.drop k))) (fun k=>l.length-k) (0) ?_ ?_;exact ⟨Ad _,rfl⟩;rintro k ⟨hk,hg⟩;refine gz4 ?_;refine uCo (fun h3=> ?_) fun h4=> ?_
 obtain ⟨x,hx⟩: ∃x,l[k]? =some x:=⟨_,Aa h3⟩
 have hdx:=zk hx;rw [hdx] at hg;refine gz8 ?_;refine de rfl (zj zG rfl fun b4=> ?_)
 refine gz1 ?_;refine de0 (zn zG rfl rfl rfl rfl rfl ?_)
 refine gz1 ?_;refine ze (zm 4 rfl) ?_;refine gz4 ?_;refine dq (uCl zBd rfl ziZ) ?_;refine gz3 ?_;refine uCo (fun h5=> ?_) fun h6=> ?_
 refine gz4 ?_;refine uRp ?_
 (refine congrArg _ (zy (e:=1) ?_ hg ?_ ?_)
  omega
  unfold zeK;exact uT
  first|decide|assumption)
 refine gz3 ?_;refine dq (uCl zgv rfl za1) ?_;refine gz3 ?_;refine uCo (fun h7=> ?_) fun h8=> ?_
 refine gz4 ?_;refine uRp ?_
 (refine congrArg _ (zy (e:=4) ?_ hg ?_ ?_)
  omega
  unfold zeK;exact uT
  first|decide|assumption)
 refine gz3 ?_;refine dq (uCl zhU rfl zbd) ?_;refine gz4 ?_;refine uGr rfl (fun hc=>uCl zhU rfl zbd) ?_;refine gz4 ?_;refine uCo (fun h9=> ?_) fun h10=> ?_
 refine gz4 ?_;refine uRp ?_
 (refine congrArg _ (zy (e:=5) ?_ hg ?_ ?_)
  omega
  unfold zeK;exact uT
  first|decide|assumption)
 have htu:=zAm (x:=x) (p:=l.getD (k-1) zjD);refine uDr mixed ?_;refine gz6 ?_;refine uGy 6 rfl rfl (fun hc=>by have hq:=hc;(try simp at hq);exact zA (j:=k-1) (a:=l.getD (k-1) zjD) zb9 zG rfl rfl uO (getD_some uO)) ?_;refine gz2 ?_;refine uGy 9 rfl rfl (fun hc=>by have hq:=hc;(try simp at hq);exact uCl ca37 rfl (zhz (a:=l.getD (k-1) zjD) (b:=x) (hb _ (Ab (getD_some uO))) (hb _ (Ab hx)))) ?_;refine gz4 ?_;refine uCo (fun h11=> ?_) fun h12=> ?_
 refine gz4 ?_;refine uRp ?_
 (refine congrArg _ (zy (e:=7) ?_ hg ?_ ?_)
  omega
  unfold zeK;exact uT
  first|decide|assumption)
 refine gz8 ?_;refine ⟨k+1,?_,?_,⟨rfl,trivial⟩,uK,Ac _⟩
 refine ⟨by omega,?_⟩
 rw [hg,zaT (by unfold zeK;(try clear hdx hg);(try simp only [Ae]);focus first|(simp_all;done)|((repeat' split)<;>focus first|rfl|(exfalso;omega)|(simp_all;done)|(exfalso;rcases ‹_\/_› with q|q<;>simp_all;done)|(exfalso;simp_all;omega)))]
 dsimp only;omega
 have hnk:l.length<=k:=by omega
 obtain rfl:k=l.length:=by omega
 rw [zH (Af _)] at hg;refine gz2 ?_;refine zv ?_;refine gz6 ?_;refine uRp ?_
 (refine congrArg _ (zbz ?_ hg)
  omega)
theorem zgS [Tracks] {l:List Str} (hl:l.length<=1000000):ConP prog 110 [eSs l] (.int .i64 (zdo l)):=by
 refine uOb func110 ntmps110 ?_;refine zct ?_;refine uCo (fun h1=> ?_) fun h2=> ?_
 refine gz4 ?_;refine uRp ?_
 (rw [zdo,if_pos uO])
 refine gz6 ?_;refine uCo (fun h3=> ?_) fun h4=> ?_
 refine gz4 ?_;refine uRp ?_
 (rw [zdo,if_neg uO,if_pos uO])
 refine gz5 ?_;refine dq (uCl zBs rfl (zi0 (by assumption))) ?_;refine gz3 ?_;refine uRp ?_
 (rw [zdo,if_neg uO,if_neg uO])
theorem zhx [Tracks] {a b:GameS} (ha: -1000000000000000<=a.Week/\a.Week<=1000000000000000) (hb: -1000000000000000<=b.Week/\b.Week<=1000000000000000):ConP prog 96 [zaW a,zaW b] (.int .i64 (zgs a b)):=by
 refine uOb func96 ntmps96 ?_;refine zh1 ?_;refine uCo (fun h1=> ?_) fun h2=> ?_
 refine gz6 ?_;refine dq (uCl zzJ rfl zhd) ?_;refine gz3 ?_;refine uRp ?_;rw [zpL]
 try rw [zhr]
 simp_all
 refine gz8 ?_;refine uCo (fun h3=> ?_) fun h4=> ?_
 refine gz5 ?_;refine dq (uCl zcf rfl zM) ?_;refine gz3 ?_;refine uRp ?_;rw [zpL]
 try rw [zhr]
 simp_all
 refine gz8 ?_;refine dq (uCl zcf rfl zM) ?_;refine gz3 ?_;refine uRp ?_;rw [zpL]
 try rw [zhr]
 simp_all
theorem zkb [Tracks] {x:GameS} (hb:((-1000000000<=x.FNum/\x.FNum<=1000000000)/\ -1000000000<=x.FDen/\x.FDen<=1000000000)/\((-1000000000<=x.ONum/\x.ONum<=1000000000)/\ -1000000000<=x.ODen/\x.ODen<=1000000000)):ConP prog 196 [zaW x] (.int .i64 (zhZ x)):=by
 refine uOb func196 ntmps196 ?_;refine zaw ?_;refine uCo (fun h1=> ?_) fun h2=> ?_
 refine gz3 ?_;refine dq (zS (h':= .agg [.int .i64 x.FNum,.int .i64 x.FDen]) (za0 zU rfl rfl (Ap rfl)) rfl) ?_;refine dq (zB (cs:=[_,_]) zU zid rfl) ?_;refine dq (zje zU zuz rfl rfl ⟨rfl,⟨_,_,_,_,ty3,rfl⟩,⟨rfl,⟨_,_,_,_,ty3,rfl⟩,trivial⟩⟩) ?_;refine gz2 ?_;refine uGr rfl (fun hc=>zS (h':= .agg [.int .i64 x.ONum,.int .i64 x.ODen]) (za0 zU rfl rfl (Ap rfl)) rfl) ?_;refine uGr rfl (fun hc=>zB (cs:=[_,_]) zU zid rfl) ?_;refine uGr rfl (fun hc=>zje zU zuz rfl rfl ⟨rfl,⟨_,_,_,_,ty3,rfl⟩,⟨rfl,⟨_,_,_,_,ty3,rfl⟩,trivial⟩⟩) ?_;refine gz2 ?_;refine uCo (fun h3=> ?_) fun h4=> ?_
 simp [za6,zgf,eqH] at h3
 refine gz4 ?_;refine uRp ?_
 (unfold zhZ;simp_all)
 refine gz2 ?_
 simp [za6,zgf,eqH] at h4
 refine gz4 ?_;refine uRp ?_
 (unfold zhZ;simp_all)
 refine gz2 ?_;have hpl:x.Played=true:=by simpa using h2
 have hgf:=zzW hpl;refine uDr mixed ?_;refine gz1 ?_;refine uB 1 rfl (zS (h':= .agg [.int .i64 x.FNum,.int .i64 x.FDen]) (za0 zU rfl rfl (Ap rfl)) rfl) ?_;refine uB 2 rfl (uCl zw1 rfl (zec (n:=x.FNum) (d:=x.FDen) (most:=1000000) hb.1.1 hb.1.2 uO)) ?_;refine gz1 ?_;refine uB 4 rfl (zS (h':= .agg [.int .i64 x.ONum,.int .i64 x.ODen]) (za0 zU rfl rfl (Ap rfl)) rfl) ?_;refine uB 5 rfl (uCl zw1 rfl (zec (n:=x.ONum) (d:=x.ODen) (most:=1000000) hb.2.1 hb.2.2 uO)) ?_;refine gz5 ?_;refine dq (za (hs:=[_,_]) zd9 zgp rfl rfl (by decide) (by decide) rfl) ?_;refine dq (zax (f:=HVal.int .i64) (l:=([3,1]:List Int)) zd9 rfl) ?_;refine gz3 ?_;refine uT1 [2,1,6,1,28,14] (fun k=>[(28,.int .i64 k)]) (fun k=>[]) (fun k=>k<=([3,1]:List Int).length/\(zA3 (zbB x.FNum x.FDen 1000000) (zbB x.ONum x.ODen 1000000)=zoQ (zbB x.FNum x.FDen 1000000) (zbB x.ONum x.ODen 1000000) (([3,1]:List Int).drop k))) (fun k=>([3,1]:List Int).length-k) (0) ?_ ?_;exact ⟨Ad _,rfl⟩;rintro k ⟨hk,hg⟩;refine gz4 ?_;refine uCo (fun h5=> ?_) fun h6=> ?_
 obtain ⟨z,hz⟩: ∃z,([3,1]:List Int)[k]? =some z:=⟨_,Aa (by show k<2;omega)⟩
 have hdz:=zk hz;rw [hdz] at hg;refine gz5 ?_;refine dq (zA zd9 zgp rfl rfl rfl (by assumption)) ?_;refine zee ?_;refine uCo (fun h7=> ?_) fun h8=> ?_
 refine gz5 ?_;refine uRp ?_
 (rw [hgf,hg,zoQ,if_pos uSa])
 refine gz7 ?_;refine ⟨k+1,?_,?_,⟨rfl,trivial⟩,uK,Ac _⟩
 refine ⟨by show k+1<=2;omega,?_⟩
 rw [hg,zoQ,if_neg uSa]
 show 2-(k+1)<2-k
 omega
 refine gz2 ?_;refine zv ?_;refine gz6 ?_;refine uRp ?_
 (have e2:k=2:=by (have q:([3,1]:List Int).length=2:=rfl;omega)
  subst e2;rw [hgf,hg];rfl)
theorem zj6 [Tracks] {y x:GameS}:ConP prog 197 [zaW y,.vptr (zd (zaW x)) 0] (.bool (zi7 x y)):=by
 refine uOb func197 ntmps197 ?_;refine gz40 ?_;refine gz1 ?_;refine zw rfl ?_
 show HVal.bool _=_
 unfold zi7
 simp [Ct]
theorem zld [Tracks] {T:List Str} {l:List GameS} (hT:T.length<=1000000) (hl:l.length<=1000000) (hb: ∀x∈l,GamB x):ConP prog 111 [eSs T,zlZ l] (.int .i64 (zfJ T l)):=by
 refine uOb func111 ntmps111 ?_;refine gz6 ?_;refine dq (uCl zBc rfl (zgS (by assumption))) ?_;refine gz6 ?_;refine uCo (fun h1=> ?_) fun h2=> ?_
 ·refine gz5 ?_;refine uRp ?_
  try rw [hE]
  (rw [zfJ,if_pos (by assumption)];done)
 ·refine gz3 ?_;have hz:zdo T=0:=by first|assumption|simp_all
  have hE:zfJ T l=zed T l:=by rw [zfJ,if_neg (by simp [hz])]
  refine gz5 ?_;refine uCo (fun h3=> ?_) fun h4=> ?_
  ·refine gz4 ?_;refine uRp ?_
   try rw [hE]
   (refine congrArg _ (zel (zbK ?_) (by decide))
    omega)
  ·refine gz9 ?_;refine uT1 [4,1,6,3,21,47] (fun k=>[(21,.int .i64 k)]) (fun k=>[]) (fun k=>k<=l.length/\(zaV (zcp T) zes l 0 l=zaV (zcp T) zes l k (l.drop k))) (fun k=>l.length-k) (0) ?_ ?_
   ·exact ⟨Ad _,rfl⟩
   ·rintro k ⟨hk,hg⟩;refine gz4 ?_;refine uCo (fun h5=> ?_) fun h6=> ?_
    ·obtain ⟨x,hx⟩: ∃x,l[k]? =some x:=⟨_,Aa h5⟩
     have hdx:=zk hx;rw [hdx] at hg;refine gz8 ?_;refine de rfl (zj zcs rfl fun b7=> ?_)
     refine gz1 ?_;refine de0 (zn zcs rfl rfl rfl rfl rfl ?_)
     refine gz1 ?_;refine ze (zm 7 rfl) ?_;refine gz5 ?_;refine dq (uCl zw0 rfl zhc) ?_;refine gz3 ?_;refine uCo (fun h7=> ?_) fun h8=> ?_
     ·refine gz4 ?_;refine uRp ?_
      try rw [hE]
      (refine congrArg _ (zel (e:=1) (zy ?_ hg ?_ ?_) ?_)
       ·omega
       ·unfold zcp
        simp_all
        done
       ·first|decide|assumption
       ·first|decide|assumption)
     ·refine gz4 ?_;refine dq (uCl zhj rfl (zK (l:=T) (s:=x.Home) uO)) ?_;refine gz5 ?_;refine uGr rfl (fun hc=>by have hq:=hc;(try simp at hq);exact uCl zhj rfl (zK (l:=T) (s:=x.Away) uO)) ?_;refine gz4 ?_;refine uCo (fun h9=> ?_) fun h10=> ?_
      ·refine gz4 ?_;refine uRp ?_
       try rw [hE]
       (refine congrArg _ (zel (e:=8) (zy ?_ hg ?_ ?_) ?_)
        ·omega
        ·unfold zcp
         simp_all
         done
        ·first|decide|assumption
        ·first|decide|assumption)
      ·refine gz8 ?_;refine uCo (fun h11=> ?_) fun h12=> ?_
       ·refine gz4 ?_;refine uRp ?_
        try rw [hE]
        (refine congrArg _ (zel (e:=6) (zy ?_ hg ?_ ?_) ?_)
         ·omega
         ·unfold zcp
          simp_all
          done
         ·first|decide|assumption
         ·first|decide|assumption)
       ·refine gz5 ?_;refine dq (zaL (h:=zaW x) zcs rfl rfl rfl rfl) ?_;refine dq (uCl zFe rfl (zkb (x:=x) ⟨(hb x (Ab hx)).fr,(hb x (Ab hx)).ot⟩)) ?_;refine gz6 ?_;refine uCo (fun h13=> ?_) fun h14=> ?_
        ·refine gz5 ?_;refine uRp ?_
         try rw [hE]
         (refine congrArg _ (zel (e:=(zhZ x)) (zy ?_ hg ?_ ?_) ?_)
          ·omega
          ·unfold zcp
           simp_all
           done
          ·first|decide|assumption
          ·first|decide|assumption)
        ·refine gz2 ?_;have htu:=zzX (x:=x) (p:=l.getD (k-1) zes);refine uDr mixed ?_;refine gz6 ?_;refine uGy 6 rfl rfl (fun hc=>by have hq:=hc;(try simp at hq);exact zA (j:=k-1) (a:=l.getD (k-1) zes) zgo zcs rfl rfl uO (getD_some uO)) ?_;refine gz2 ?_;refine uGy 9 rfl rfl (fun hc=>by have hq:=hc;(try simp at hq);exact uCl ca96 rfl (zhx (a:=l.getD (k-1) zes) (b:=x) (hb _ (Ab (getD_some uO))).week (hb _ (Ab hx)).week)) ?_;refine gz3 ?_;refine uCo (fun h15=> ?_) fun h16=> ?_
         ·refine gz4 ?_;refine uRp ?_
          try rw [hE]
          (refine congrArg _ (zel (e:=7) (zy ?_ hg ?_ ?_) ?_)
           ·omega
           ·unfold zcp
            simp_all
            done
           ·first|decide|assumption
           ·first|decide|assumption)
         ·refine gz7 ?_;refine ⟨k+1,?_,?_,⟨rfl,trivial⟩,uK,Ac _⟩
          ·refine ⟨by omega,?_⟩
           rw [hg,zaT (by unfold zcp;(try clear hdx hg);(try simp only [Ae]);first|(simp_all;done)|((repeat' split)<;>first|rfl|(exfalso;omega)|(simp_all;done)|(exfalso;rcases ‹_\/_› with q|q<;>simp_all;done)|(exfalso;simp_all;omega)))]
          ·dsimp only;omega
    ·have hnk:l.length<=k:=by omega
     obtain rfl:k=l.length:=by omega
     rw [zH (Af _)] at hg;refine gz2 ?_;refine zv ?_;refine gz9 ?_;refine uT1 [4,1,9,2,70,11] (fun k=>[(70,.int .i64 k)]) (fun k=>[]) (fun k=>k<=l.length/\(zdY l 0 l=zdY l k (l.drop k))) (fun k=>l.length-k) (0) ?_ ?_
     ·exact ⟨Ad _,rfl⟩
     ·rintro k ⟨hk,hg2⟩;refine gz4 ?_;refine uCo (fun h17=> ?_) fun h18=> ?_
      ·obtain ⟨x,hx⟩: ∃x,l[k]? =some x:=⟨_,Aa h17⟩
       have hdx:=zk hx;rw [hdx] at hg2;refine gz8 ?_;refine de rfl (zj zcs rfl fun b10=> ?_)
       refine gz1 ?_;refine de0 (zn zcs rfl rfl rfl rfl rfl ?_)
       refine gz1 ?_;refine ze (zm 10 rfl) ?_;refine gz3 ?_;refine dq (zaP zgo zcs rfl rfl ⟨_,_,rfl,rfl⟩ uO uO) ?_;refine gz1 ?_;refine dq (uCl zwW rfl (zbD (l:=l.take k) (p:=zi7 x) zFf (fun _=>zj6) (by rw [Az];omega))) ?_;refine gz1 ?_;refine uCo (fun h19=> ?_) fun h20=> ?_
       ·refine gz4 ?_;refine uRp ?_
        try rw [hE]
        (rw [zed,if_neg (by rw [<-zbz uO hg];simp),if_pos (by rw [hg2,zdY];simp_all)];done)
       ·refine gz7 ?_;refine ⟨k+1,?_,?_,⟨rfl,trivial⟩,uK,Ac _⟩
        ·refine ⟨by omega,?_⟩
         rw [hg2,zdY];simp_all
        ·dsimp only;omega
      ·have hnk:l.length<=k:=by omega
       obtain rfl:k=l.length:=by omega
       rw [zH (Af _)] at hg2;refine gz2 ?_;refine zv ?_;refine gz6 ?_;refine uRp ?_
       try rw [hE]
       (rw [zed,if_neg (by rw [<-zbz uO hg];simp),if_neg (by rw [hg2];simp [zdY])];done)
theorem zkA [Tracks] {l:List Int} (hl:l.length<=1000000):ConP prog 114 [.slice 1 (l.map (HVal.int .i64))] (.int .i64 (zit l)):=by
 refine uOb func114 ntmps114 ?_;refine gz9 ?_;refine uCo (fun h1=> ?_) fun h2=> ?_
 ·refine gz4 ?_;refine uRp ?_
  (rw [zit,if_pos uO];done)
 ·refine gz9 ?_;refine uT1 [2,3,10,14] (fun k=>[(10,.int .i64 k)]) (fun k=>[]) (fun k=>k<=l.length/\(zep l 0 l=zep l k (l.drop k))) (fun k=>l.length-k) (0) ?_ ?_
  ·exact ⟨Ad _,rfl⟩
  ·rintro k ⟨hk,hg⟩;refine gz4 ?_;refine uCo (fun h3=> ?_) fun h4=> ?_
   ·obtain ⟨x,hx⟩: ∃x,l[k]? =some x:=⟨_,Aa h3⟩
    have hdx:=zk hx;rw [hdx] at hg;refine zdu ?_;refine dq (uCl zgv rfl za1) ?_;refine gz2 ?_;refine uCo (fun h5=> ?_) fun h6=> ?_
    ·refine gz4 ?_;refine uRp ?_
     (refine congrArg _ (zoW (e:=4) ?_ hg ?_)
      ·omega
      ·rw [zep]
       simp_all
       done)
    ·refine gz5 ?_;refine dq (zaP zac ty3 rfl rfl ⟨_,_,rfl,rfl⟩ uO uO) ?_;refine gz1 ?_;refine dq (uCl zBt rfl (zfN (l:=l.take k) (z:=x) (by rw [Az];omega))) ?_;refine gz1 ?_;refine uCo (fun h7=> ?_) fun h8=> ?_
     ·refine gz4 ?_;refine uRp ?_
      (refine congrArg _ (zoW (e:=6) ?_ hg ?_)
       ·omega
       ·rw [zep]
        simp_all
        done)
     ·refine gz7 ?_;refine ⟨k+1,?_,?_,⟨rfl,trivial⟩,uK,Ac _⟩
      ·refine ⟨by omega,?_⟩
       rw [hg,zep,if_neg uSa,if_neg uSa]
      ·dsimp only;omega
   ·have hnk:l.length<=k:=by omega
    obtain rfl:k=l.length:=by omega
    rw [zH (Af _)] at hg;refine gz2 ?_;refine zv ?_;refine gz6 ?_;refine uRp ?_
    (refine congrArg _ (zv1 ?_ hg)
     omega)
end
section
open Go.Proofs.Tryz
open Go.HL
theorem znP [Tracks] {a b:MendS}:ConP prog 125 [zbY a,zbY b] (.int .i64 (zeJ a b)):=by
 refine uOb func125 ntmps125 ?_;refine gz5 ?_;refine uDr mixed ?_;refine gz4 ?_;refine uB 4 rfl (uCl zcf rfl zM) ?_;refine gz4 ?_;refine uB 9 rfl (uCl zdb rfl zV) ?_;refine gz4 ?_;refine uB 14 rfl (uCl zcf rfl zM) ?_;refine gz4 ?_;refine uB 19 rfl (uCl zdb rfl zV) ?_;refine uB 20 rfl (za (hs:=[_,_,_,_]) zac ty3 rfl rfl (by decide) (by decide) rfl) ?_;refine uB 21 rfl (uCl zfO rfl (zbe (l:=[_,_,_,_]) (by simp))) ?_;refine gz3 ?_;refine zw rfl ?_
 rfl
theorem zla [Tracks] {m:List MendS} (hl:m.length<=1000000) (hgm: ∀x∈m,zhM x):ConP prog 46 [zca m] (.int .i64 (zbu m)):=by
 refine uOb func46 ntmps46 ?_;refine gz9 ?_;refine uCo (fun h1=> ?_) fun h2=> ?_
 ·refine gz4 ?_;refine uRp ?_
  (rw [zbu,if_pos uO];done)
 ·refine gz9 ?_;refine uT1 [2,3,10,59] (fun k=>[(10,.int .i64 k)]) (fun k=>[]) (fun k=>k<=m.length/\(zaU zaG zeJ zeN m 0 m=zaU zaG zeJ zeN m k (m.drop k))) (fun k=>m.length-k) (0) ?_ ?_
  ·exact ⟨Ad _,rfl⟩
  ·rintro k ⟨hk,hg⟩;refine gz4 ?_;refine uCo (fun h3=> ?_) fun h4=> ?_
   ·obtain ⟨x,hx⟩: ∃x,m[k]? =some x:=⟨_,Aa h3⟩
    have hdx:=zk hx;rw [hdx] at hg;refine gz8 ?_;refine de rfl (zj zbq rfl fun b4=> ?_)
    refine gz1 ?_;refine de0 (zn zbq rfl rfl rfl rfl rfl ?_)
    refine gz1 ?_;refine ze (zm 4 rfl) ?_;refine gz4 ?_;refine dq (uCl zjy rfl (zbP (hgm x (Ab hx)).1)) ?_;refine gz4 ?_;refine uGr rfl (fun hc=>uCl zjy rfl (zbP (hgm x (Ab hx)).2.1)) ?_;refine gz5 ?_;refine uGr rfl (fun hc=>uCl zjy rfl (zbP (hgm x (Ab hx)).2.2)) ?_;refine gz4 ?_;refine uCo (fun h5=> ?_) fun h6=> ?_
    ·refine gz4 ?_;refine uRp ?_
     (refine congrArg _ (zkY (c:=5) uO hg (by decide) ?_)
      rw [zaG,if_pos]
      simp_all
      done)
    ·refine gz3 ?_;refine dq (uCl zwX rfl zeQ) ?_;refine gz4 ?_;refine uGr rfl (fun hc=>uCl zmG rfl zc2) ?_;refine gz5 ?_;refine uGr rfl (fun hc=>uCl ztx rfl zc0) ?_;refine gz5 ?_;refine uGr rfl (fun hc=>uCl zmG rfl zc2) ?_;refine gz4 ?_;refine uCo (fun h7=> ?_) fun h8=> ?_
     ·refine gz4 ?_;refine uRp ?_
      (refine congrArg _ (zkY (c:=1) uO hg (by decide) ?_)
       rw [zaG,if_neg,if_pos]
       all_goals simp_all
       done)
     ·refine uDr mixed ?_;refine gz6 ?_;refine uGy 6 rfl rfl (fun hc=>by have hq:=hc;(try simp at hq);exact zA (j:=k-1) (a:=m.getD (k-1) zeN) zgO zbq rfl rfl uO (getD_some uO)) ?_;refine gz2 ?_;refine uGy 9 rfl rfl (fun hc=>uCl zEw rfl znP) ?_;refine gz4 ?_;refine uCo (fun h9=> ?_) fun h10=> ?_
      ·refine gz4 ?_;refine uRp ?_
       (have f1:=zhv.flip x (m.getD (k-1) zeN) trivial trivial
        have f2:=zhv.flip (m.getD (k-1) zeN) x trivial trivial;refine congrArg _ (zsM uO hg ?_ ?_ ?_)
        ·rw [zaG,if_neg,if_neg]<;>simp_all
        ·simp_all
        ·simp_all;omega)
      ·refine gz8 ?_;refine ⟨k+1,?_,?_,⟨rfl,trivial⟩,uK,Ac _⟩
       ·refine ⟨by omega,?_⟩
        rw [hg,zki (by rw [zaG,if_neg uSa,if_neg uSa]) (by intro hk0;have:=zhv.flip x (m.getD (k-1) zeN) trivial trivial;have:=zhv.flip (m.getD (k-1) zeN) x trivial trivial;simp_all;try omega)]
       ·dsimp only;omega
   ·have hnk:m.length<=k:=by omega
    obtain rfl:k=m.length:=by omega
    rw [zH (Af _)] at hg;refine gz2 ?_;refine zv ?_;refine gz6 ?_;refine uRp ?_
    (rw [zbu,if_neg uO,hg];rfl)
end
section
open Go.Proofs.Tryz
open Go.HL
theorem zs9 [Tracks] {l:List Str} {fid:FuncId} {caps:List HVal} {p:Str->Bool} (hca:Callable prog fid) (hp: ∀x∈l,ConP prog fid ([HVal.str x]++caps) (.bool (p x))) (hl:l.length<=1000000):ConP prog 206 [.slice 1 (l.map HVal.str),.fn (.func fid) [] caps] (.int .i64 (zW p l 0)):=by
 refine uOb func206 ntmps206 ?_;refine zaw ?_;refine uT1 [4,2,8,11] (fun k=>[(8,.int .i64 k)]) (fun k=>[]) (fun k=>k<=l.length/\(zW p l 0=zW p (l.drop k) k)) (fun k=>l.length-k) (0) ?_ ?_;exact ⟨Ad _,rfl⟩;rintro k ⟨hk,hg⟩;refine gz4 ?_;refine uCo (fun h1=> ?_) fun h2=> ?_
 obtain ⟨x,hx⟩: ∃x,l[k]? =some x:=⟨_,Aa h1⟩
 have hdx:=zk hx;rw [hdx] at hg;refine zdu ?_;refine dq (zap hca rfl rfl (WeakL.refl _) (hp _ (Ab hx))) ?_;refine gz1 ?_;refine uCo (fun h3=> ?_) fun h4=> ?_
 refine gz5 ?_;refine uRp ?_
 (rw [hg];simp_all [zW])
 refine gz7 ?_;refine ⟨k+1,?_,?_,⟨rfl,trivial⟩,uK,Ac _⟩
 refine ⟨by omega,?_⟩
 rw [hg,zW,if_neg uSa];rfl
 dsimp only;omega
 have hnk:l.length<=k:=by omega
 obtain rfl:k=l.length:=by omega
 rw [zH (Af _)] at hg;refine gz2 ?_;refine zv ?_;refine gz6 ?_;refine uRp ?_
 (rw [hg];rfl)
theorem zpN [Tracks] {l:List Str} {fid:FuncId} {caps:List HVal} {p:Str->Bool} (hca:Callable prog fid) (hp: ∀x∈l,ConP prog fid ([HVal.str x]++caps) (.bool (p x))) (hl:l.length<=1000000):ConP prog 128 [.slice 1 (l.map HVal.str),.fn (.func fid) [] caps] (.bool (l.any p)):=by
 refine uOb func128 ntmps128 ?_;refine gz6 ?_;refine dq (uCl zw2 rfl (zs9 hca hp hl)) ?_;refine gz4 ?_;refine zw rfl ?_
 congr 1;exact zdd p l 0 uO
theorem zjw [Tracks] {x:GameS}:ConP prog 113 [zaW x] (.bool x.Played):=by
 refine uOb func113 ntmps113 ?_;refine zaw ?_;refine zw rfl ?_
 rfl
theorem zky [Tracks] {g:LeagueS} (hT:Tracks.on=false) (hb:LeaB g) (hg: ∀x∈g.Games,GamB x) (ht: ∀s∈g.Trust,Sh s):ConP prog 42 [zfz g] (.int .i64 (zcu g)):=by
 have hst:=hb.sta;refine uOb func42 ntmps42 ?_;refine gz8 ?_;refine dq (uCl zEk rfl (zj8 (l:=g.Players) hT hb.pl hb.nm hb.po)) ?_;refine gz6 ?_;refine uCo (fun h1=> ?_) fun h2=> ?_
 refine gz5 ?_;refine uRp ?_;exact congrArg _ (zyK (by assumption));refine gz3 ?_;refine uDr mixed ?_;refine gz4 ?_;refine uB 4 rfl (uCl zEl rfl (zkC (L:=g.Players) (l:=g.Stints) hb.pl hb.st)) ?_;refine gz2 ?_;refine uB 7 rfl (uCl zEm rfl (zjx (l:=g.Fixtures) hb.fx)) ?_;refine gz2 ?_;refine uB 10 rfl (uCl zEn rfl (zlg (l:=g.Rules) hb.ru hb.rw')) ?_;refine gz2 ?_;refine uB 13 rfl (uCl zEo rfl (zli (l:=g.Slots) hb.sl hb.sp)) ?_;refine gz1 ?_;refine uB 15 rfl (zS (h':=zgc g.Bounds) (za0 zjn rfl rfl (Ap rfl)) rfl) ?_;refine uB 16 rfl (uCl zEp rfl (zkz (b:=g.Bounds))) ?_;refine gz2 ?_;refine uB 19 rfl (uCl zBc rfl (zgS (l:=g.Teams) hb.tm)) ?_;refine uB 20 rfl (za (hs:=[_,_,_,_,_,_]) zd9 zgp rfl rfl (by decide) (by decide) rfl) ?_;refine uB 21 rfl (uCl zzD rfl (zf0 (l:=[_,_,_,_,_,_]) (by simp))) ?_;refine gz6 ?_;refine uCo (fun h3=> ?_) fun h4=> ?_
 refine gz5 ?_;refine uRp ?_;exact congrArg _ (zDK (by assumption) (by assumption));refine gz3 ?_;have hB:zjk g=0:=by assumption
 have hgt:=zCq (l:=g.Games) (zAc hB);refine gz5 ?_;refine dq (zS (uCl zEq rfl (zld (T:=g.Teams) (l:=g.Games) hb.tm hb.ga hg)) (congrArg (HVal.int .i64) hgt)) ?_;refine gz6 ?_;refine uCo (fun h5=> ?_) fun h6=> ?_
 refine gz5 ?_;refine uRp ?_;exact congrArg _ (zDL (by assumption) hB (by assumption));refine gz6 ?_;refine dq (uCl zwW rfl (zbD (l:=g.Games) (p:=fun x=>x.Played) zEr (fun _=>zjw) hb.ga)) ?_;refine gz1 ?_;refine uCo (fun h7=> ?_) fun h8=> ?_
 refine gz4 ?_;refine uRp ?_;exact congrArg _ (zDM (by assumption) hB (by assumption) (by unfold zc6;simp_all));refine gz3 ?_;refine uDr mixed ?_;refine gz2 ?_;refine uB 2 rfl (uCl zEs rfl (zkA (l:=g.Breaks) hb.br)) ?_;refine gz2 ?_;refine uB 5 rfl (uCl zEt rfl (zlc (l:=g.Trust) hb.tr ht)) ?_;refine gz2 ?_;refine uB 8 rfl (uCl ztx rfl zc0) ?_;refine uB 9 rfl (za (hs:=[_,_,_]) zd9 zgp rfl rfl (by decide) (by decide) rfl) ?_;refine uB 10 rfl (uCl zzD rfl (zf0 (l:=[_,_,_]) (by simp))) ?_;refine gz6 ?_;refine uCo (fun h9=> ?_) fun h10=> ?_
 refine gz5 ?_;refine uRp ?_;exact congrArg _ (zDN (by assumption) hB (by assumption) (by unfold zc6;simp_all) (by assumption));refine gz8 ?_;refine uCo (fun h11=> ?_) fun h12=> ?_
 refine gz4 ?_;refine uRp ?_
 (rw [zyL (by assumption) hB (by assumption) (by unfold zc6;simp_all) (by assumption),if_pos uO])
 refine gz6 ?_;refine uRp ?_
 (rw [zyL (by assumption) hB (by assumption) (by unfold zc6;simp_all) (by assumption),if_neg uO])
theorem zmq [Tracks] {a b:ChoiceS}:ConP prog 129 [zR a,zR b] (.int .i64 (zkM a b)):=by
 refine uOb func129 ntmps129 ?_;refine gz5 ?_;refine uDr mixed ?_;refine gz4 ?_;refine uB 4 rfl (uCl zcf rfl zM) ?_;refine gz4 ?_;refine uB 9 rfl (uCl zdb rfl zV) ?_;refine gz4 ?_;refine uB 14 rfl (uCl zdb rfl zV) ?_;refine uB 15 rfl (za (hs:=[_,_,_]) zac ty3 rfl rfl (by decide) (by decide) rfl) ?_;refine uB 16 rfl (uCl zfO rfl (zbe (l:=[_,_,_]) (by simp))) ?_;refine gz3 ?_;refine zw rfl ?_
 rfl
theorem zfp [Tracks] {s:Str} (hs:Sh s):ConP prog 127 [.str s] (.bool (!(zbS s))):=by
 refine uOb func127 ntmps127 ?_;refine gz8 ?_;refine uGr rfl (fun hc=>uCl zjy rfl (zbP hs)) ?_;refine gz5 ?_;refine zw rfl ?_
 show HVal.bool _=_
 rw [zyV]
 cases s with
 |nil=>rfl
 |cons x r=>simp
theorem zj5 [Tracks] {g:LeagueS} {l:List ChoiceS} (hb:LeaB g) (hl:l.length<=1000000) (hp: ∀x∈l,x.Players.length<=1000000) (hcs: ∀x∈l,(∀s∈x.Players,Sh s)/\Sh x.Captain):ConP prog 48 [zfz g,zkk l] (.int .i64 (zmK g.Teams g.Slots.length l)):=by
 refine uOb func48 ntmps48 ?_;refine zaw ?_;refine uCo (fun h1=> ?_) fun h2=> ?_
 refine gz4 ?_;refine uRp ?_
 (refine congrArg _ (zbK ?_)
  omega)
 refine zdl ?_;refine uT1 [4,1,6,2,13,56] (fun k=>[(13,.int .i64 k)]) (fun k=>[]) (fun k=>k<=l.length/\(zaV (zbV g.Teams g.Slots.length) zdP l 0 l=zaV (zbV g.Teams g.Slots.length) zdP l k (l.drop k))) (fun k=>l.length-k) (0) ?_ ?_;exact ⟨Ad _,rfl⟩;rintro k ⟨hk,hg⟩;refine gz4 ?_;refine uCo (fun h3=> ?_) fun h4=> ?_
 obtain ⟨x,hx⟩: ∃x,l[k]? =some x:=⟨_,Aa h3⟩
 have hdx:=zk hx;rw [hdx] at hg;refine gz6 ?_;refine dq (zA zeF zcm rfl rfl rfl (by assumption)) ?_;refine gz1 ?_;refine de rfl (zj zcm rfl fun b7=> ?_)
 refine gz1 ?_;refine de0 (zn zcm rfl rfl rfl rfl rfl ?_)
 refine gz1 ?_;refine ze (zm 7 rfl) ?_;refine gz1 ?_;have hwk: ∀n:Int,((if zaQ n then (0:Int) else 1)=0)↔zaQ n=true:=fun n=>by cases zaQ n<;>simp
 have hmo: ∀n:Int,((if zaa n then (0:Int) else 1)=0)↔zaa n=true:=fun n=>by cases zaa n<;>simp
 refine gz5 ?_;refine dq (uCl zhj rfl (zK (l:=g.Teams) (s:=x.Team) (by have:=hb.tm;omega))) ?_;refine gz3 ?_;refine uCo (fun h5=> ?_) fun h6=> ?_
 refine gz4 ?_;refine uRp ?_
 (refine congrArg _ (zy (e:=8) ?_ hg ?_ ?_)
  omega
  unfold zbV
  (try generalize ((x.Players++[x.Captain]).all zbS)=N at*)
  exact uT
  first|decide|assumption)
 refine gz3 ?_;refine dq (uCl zwX rfl zeQ) ?_;refine gz4 ?_;refine uGr rfl (fun hc=>uCl ztx rfl zc0) ?_;refine gz4 ?_;refine uCo (fun h7=> ?_) fun h8=> ?_
 refine gz4 ?_;refine uRp ?_
 (refine congrArg _ (zy (e:=1) ?_ hg ?_ ?_)
  omega
  unfold zbV
  (try generalize ((x.Players++[x.Captain]).all zbS)=N at*)
  exact uT
  first|decide|assumption)
 refine gz3 ?_;refine dq (zax (f:=HVal.str) (l:=x.Players) zq rfl) ?_;refine gz2 ?_;refine dq (zax (f:=zbA) (l:=g.Slots) zcl rfl) ?_;refine gz3 ?_;refine uCo (fun h9=> ?_) fun h10=> ?_
 refine gz4 ?_;refine uRp ?_
 (refine congrArg _ (zy (e:=3) ?_ hg ?_ ?_)
  omega
  unfold zbV
  (try generalize ((x.Players++[x.Captain]).all zbS)=N at*)
  exact uT
  first|decide|assumption)
 refine gz4 ?_;refine dq (uCl zBf rfl (zpN (l:=x.Players) (p:=fun s=> !(zbS s)) zBe (fun s hs=>zfp ((hcs x (Ab hx)).1 s hs)) (hp x (Ab hx)))) ?_;refine gz4 ?_;refine uGr rfl (fun hc=>zap zBe rfl rfl (WeakL.refl _) (zfp (hcs x (Ab hx)).2)) ?_;refine gz3 ?_;refine uCo (fun h11=> ?_) fun h12=> ?_
 have hbad:((x.Players++[x.Captain]).all zbS)=false:=zvO (by assumption);refine gz4 ?_;refine uRp ?_
 (refine congrArg _ (zy (e:=5) ?_ hg ?_ ?_)
  omega
  unfold zbV
  (try generalize ((x.Players++[x.Captain]).all zbS)=N at*)
  exact uT
  first|decide|assumption)
 have hgood:((x.Players++[x.Captain]).all zbS)=true:=by rw [zyW];simp_all
 have htu:=zzM (x:=x) (p:=l.getD (k-1) zdP);refine uDr mixed ?_;refine gz6 ?_;refine uGy 6 rfl rfl (fun hc=>by have hq:=hc;(try simp at hq);exact zA (j:=k-1) (a:=l.getD (k-1) zdP) zeF zcm rfl rfl uO (getD_some uO)) ?_;refine gz2 ?_;refine uGy 9 rfl rfl (fun hc=>uCl zEx rfl zmq) ?_;refine gz4 ?_;refine uCo (fun h13=> ?_) fun h14=> ?_
 refine gz4 ?_;refine uRp ?_
 (refine congrArg _ (zy (e:=7) ?_ hg ?_ ?_)
  omega
  unfold zbV
  (try generalize ((x.Players++[x.Captain]).all zbS)=N at*)
  exact uT
  first|decide|assumption)
 refine gz8 ?_;refine ⟨k+1,?_,?_,⟨rfl,trivial⟩,uK,Ac _⟩
 refine ⟨by omega,?_⟩
 rw [hg,zaT (by unfold zbV;(try generalize ((x.Players++[x.Captain]).all zbS)=N at*);(try clear hdx hg);(try simp only [Ae]);focus first|(simp_all;done)|((repeat' split)<;>focus first|rfl|(exfalso;omega)|(simp_all;done)|(exfalso;rcases ‹_\/_› with q|q<;>simp_all;done)|(exfalso;simp_all;omega)))]
 dsimp only;omega
 have hnk:l.length<=k:=by omega
 obtain rfl:k=l.length:=by omega
 rw [zH (Af _)] at hg;refine gz2 ?_;refine zv ?_;refine gz6 ?_;refine uRp ?_
 (refine congrArg _ (zbz ?_ hg)
  omega)
theorem zlT [Tracks] {b:BookS} (hT:Tracks.on=false) (hb:BookC b):ConP prog 15 [zcg b] (.int .i64 (zda b)):=by
 refine uOb func15 ntmps15 ?_;refine gz7 ?_;refine dq (zS (h':=zfz b.League) (za0 zbi rfl rfl (Ap rfl)) rfl) ?_;refine dq (uCl ca42 rfl (zky (g:=b.League) hT hb.bb.lea hb.gw hb.tr)) ?_;refine gz6 ?_;refine uCo (fun h1=> ?_) fun h2=> ?_
 refine gz5 ?_;refine uRp ?_;unfold zda
 (rw [if_pos (by assumption)])
 refine gz2 ?_;refine uDr mixed ?_;refine gz2 ?_;refine uB 2 rfl (uCl ca44 rfl (zle (l:=b.Moves) hb.bb.mv hb.mb)) ?_;refine gz2 ?_;refine uB 5 rfl (uCl ca45 rfl (zlb (l:=b.Plays) hb.bb.pl hb.pg)) ?_;refine gz2 ?_;refine uB 8 rfl (uCl ca46 rfl (zla (m:=b.Mends) hb.bb.me hb.mg)) ?_;refine gz5 ?_;refine uB 14 rfl (uCl ca47 rfl (zkB (L:=b.League.Players) (l:=b.Health) hb.bb.lea.pl hb.bb.he hb.hw)) ?_;refine gz1 ?_;refine uB 16 rfl (zS (h':=zfz b.League) (za0 zbi rfl rfl (Ap rfl)) rfl) ?_;refine gz2 ?_;refine uB 19 rfl (uCl ca48 rfl (zj5 (g:=b.League) (l:=b.Choices) hb.bb.lea hb.bb.ch hb.bb.cp hb.cs)) ?_;refine uB 20 rfl (za (hs:=[_,_,_,_,_]) zd9 zgp rfl rfl (by decide) (by decide) rfl) ?_;refine uB 21 rfl (uCl zzD rfl (zf0 (l:=[_,_,_,_,_]) (by simp))) ?_;refine gz3 ?_;refine uRp ?_;unfold zda
 (rw [if_neg (fun q=>q h2)])
end
end Go.Proofs.YtpgopgjleokciaaGreatDoor
namespace Go.HL
section
section
variable {κ:Type}
end
end
section

end
section
def zDo (x:LineS):Prop:=Sh x.Player/\∀s∈x.Stats,Sh s.Name
abbrev LnV:=LineS×Value
structure LG where
 u:Value
 out:List LnV
 a:Nat
def zx7 (p:LnV):Prop:=zDo p.1/\p.1.Stats.length<=3
structure LGok (n m:Nat) (q:LG):Prop where
 len:q.out.length<=n
 all: ∀p∈q.out,zx7 p
 a:q.a<=m
theorem LGok.mono {n n' m m':Nat} {q:LG} (h:LGok n m q) (hn:n<=n') (hm:m<=m'):LGok n' m' q:=⟨Aq h.len hn,h.all,Aq h.a hm⟩
theorem LGok.same {n m m':Nat} {u:Value} {out:List LnV} {a1 a2:Nat} (h:LGok n m ⟨u,out,a1⟩) (ha:a2<=m'):LGok (n+1) m' ⟨u,out,a2⟩:=⟨Nat.le_succ_of_le h.len,h.all,ha⟩
theorem LGok.add {n m m':Nat} {u u':Value} {out:List LnV} {a1 a2:Nat} {p:LnV} (h:LGok n m ⟨u,out,a1⟩) (hp:zx7 p) (ha:a2<=m'):LGok (n+1) m' ⟨u',out++[p],a2⟩:=
 ⟨by have:=h.len;simp only [Av,Ai,AC] at*;omega,fun y hy=>by
  rcases List.mem_append.1 hy with hy|hy
  exact h.all y hy;rw [List.mem_singleton.1 hy];exact hp,ha⟩
end
section
/-! sums-/
def zrj (p:Str) (c:List (Of2×Int)) (s:StatS):List (Of2×Int):=zC (p,s.Name) ((alk (p,s.Name) c).getD 0+s.Count) c
def zB3 (p:Str) (c:List (Of2×Int)) (l:List StatS):List (Of2×Int):=l.foldl (zrj p) c
theorem LnOk.le {q:LnS} {n m:Nat} (h:LnOk q n) (hn:n<=m):LnOk q m:=
 ⟨h.c,h.S,h.k,Aq h.cl hn,Aq h.Sl hn,fun e he=>by have:=h.bd e he;omega⟩
theorem LnOk.addC {q:LnS} {n:Nat} (h:LnOk q n) (p:Str) {s:StatS} (hb: -100000<=s.Count/\s.Count<=100000):LnOk ⟨q.S,zrj p q.c s⟩ (n+1):=by
 have hv:=h.val (p,s.Name);refine ⟨h.c.put,h.S,h.k,Aq (zlR _ _ _) (by have:=h.cl;omega),by have:=h.Sl;dsimp only;omega,fun e he=> ?_⟩
 rcases zc5 he with rfl|he
 dsimp only;omega
 have:=h.bd e he;omega
theorem LnOk.row (p:Str): ∀(l:List StatS) {q:LnS} {n:Nat},LnOk q n->(∀s∈l,-100000<=s.Count/\s.Count<=100000)->LnOk ⟨q.S,zB3 p q.c l⟩ (n+l.length)
 |[],q,n,h,_=>h
 |s::r,q,n,h,hb=>by
   have h1:=LnOk.row p r (h.addC p (hb s Aj)) fun y hy=>hb y (Am _ hy)
   rw [Ai,show n+(r.length+1)=n+1+r.length by omega];exact h1
theorem zuW {κ α:Type} [DecidableEq κ]: ∀{S D:List (κ×α)},ANodup (D++S)->zrW D S=D++S
 |[],D,_=>by simp [zrW]
 |p::r,D,h=>by
   have hn:alk p.1 D=none:=by
    rw [zez];intro hm;unfold ANodup at h;rw [Ay] at h;exact (List.nodup_append.1 h).2.2 _ hm _ Aj rfl
   have e:zC p.1 p.2 D=D++[p]:=zjZ hn
   show zrW (zC p.1 p.2 D) r=_
   rw [e,zuW (by simpa using h)]
   simp
end
section
def stP (l:List StatS):List (Str×Int):=l.foldl (fun c s=>zC s.Name s.Count c) []
theorem zwE (l:List StatS):stP l=zrW [] (stA l):=by
 unfold stP zrW stA;rw [List.foldl_map]
theorem zzj (l:List StatS):ANodup (stP l):=by rw [zwE];exact zqX ANodup.nil
theorem zEc {l:List StatS} (h:(l.map (·.Name)).Nodup):stP l=stA l:=by
 rw [zwE,zuW (by simpa using zs2 h)];rfl
def ztQ (l:List StatS) (s:Str) (n:Int):List StatS:=zrl (zC s n (stP l))
theorem zzt {κ:Type} [DecidableEq κ] {c:List (κ×Int)} (hn:ANodup c) (k:κ):(alk k (c.filter fun e=>e.2 !=0)).getD 0=(alk k c).getD 0:=by
 have hn2:ANodup (c.filter fun e=>e.2 !=0):=by
  unfold ANodup at*;exact hn.sublist (List.filter_sublist.map _)
 cases hq:alk k (c.filter fun e=>e.2 !=0) with
 |some v=>
   have h1:=(List.mem_filter.1 (zbO hq)).1;rw [(zek hn).1 h1]
 |none=>
   cases hr:alk k c with
   |none=>rfl
   |some v=>
     by_cases hv:v=0
     rw [hv];rfl;have h1:(k,v)∈c.filter fun e=>e.2 !=0:=List.mem_filter.2 ⟨zbO hr,by simpa using hv⟩
     rw [(zek hn2).1 h1] at hq
     cases hq
theorem zr6 {c:List (Str×Int)} (hn:ANodup c):StOk (zr5 c) where
 nd:=by
  unfold zr5;rw [AX];unfold ANodup at hn;exact hn.sublist (List.filter_sublist.map _)
 nz x hx:=by
  unfold zr5 at hx;obtain ⟨e,he,rfl⟩:=List.mem_map.1 hx;have:=(List.mem_filter.1 he).2
  simpa using this
theorem zzl {c:List (Str×Int)} (hn:ANodup c):StOk (zrl c):=(zr6 hn).sort
theorem zxT {c:List (Str×Int)} (hn:ANodup c) (s:Str):sv (zrl c) s=(alk s c).getD 0:=by
 have h1:sv (zrl c) s=sv (zr5 c) s:=zDl (zr6 hn).nd (zbp zbc _) s;have h2:stA (zr5 c)=c.filter fun e=>e.2 !=0:=by
  unfold stA zr5;rw [AX];exact List.map_id _
 rw [h1];unfold sv;rw [h2];exact zzt hn s
theorem zzk {l:List StatS} (h:(l.map (·.Name)).Nodup) (hw:l.Pairwise fun a b=> ¬zbc b a<0):zao zbc l=l:=
 (zfQ zdr (fun _ _ hx hy e=>zwm h hx hy (zbn.1 e)) (Ac _) hw).symm
theorem zvK {l:List StatS} (h:(l.map (·.Name)).Nodup):zao zbc (zao zbc l)=zao zbc l:=by
 have h1:=zgj zdr (l:=l) (fun _ _=>trivial);refine zzk (((zbp zbc l).map _).nodup_iff.2 h) (h1.imp fun {a b} hab=> ?_)
 have:=zdr.flip a b trivial trivial;have:=zdr.flip b a trivial trivial
 omega
structure RfSt (l:List StatS):Prop where
 ok:StOk l
 so:zao zbc l=l
theorem RfSt.nil:RfSt []:=⟨StOk.nil,rfl⟩
theorem RfSt.put {l:List StatS} (h:RfSt l) (s:Str) (n:Int):RfSt (ztQ l s n)/\∀t,sv (ztQ l s n) t=if t=s then n else sv l t:=by
 have hn:ANodup (zC s n (stP l)):=(zzj l).put;refine ⟨⟨zzl hn,zvK (zr6 hn).nd⟩,fun t=> ?_⟩
 unfold ztQ;rw [zxT hn,zdO,zEc h.ok.nd]
 by_cases e:t=s
 rw [if_pos e,if_pos e];rfl;rw [if_neg e,if_neg e];rfl
structure RfOk (G:GrS):Prop where
 nd:ANodup G
 st: ∀q∈G,RfSt q.2
theorem RfOk.get {G:GrS} (h:RfOk G) (p:Plc):RfSt ((alk p G).getD []):=by
 cases hq:alk p G with
 |none=>exact RfSt.nil
 |some l=>exact h.st _ (zbO hq)
theorem zGR {G:GrS} (h:RfOk G):GSOk G:=⟨h.nd,fun q hq=>(h.st q hq).ok⟩
theorem RfOk.put {G:GrS} (h:RfOk G) (p:Plc) (s:Str) (n:Int):RfOk (zC p (ztQ ((alk p G).getD []) s n) G):=
 ⟨h.nd.put,fun q hq=>by
  rcases zc5 hq with rfl|hq
  exact ((h.get p).put s n).1;exact h.st q hq⟩
end
section
theorem zsg {κ α:Type} [DecidableEq κ] (s:κ) (v v':α): ∀G:List (κ×α),zC s v' (zC s v G)=zC s v' G
 |[]=>by simp [zC]
 |p::r=>by
   have ih:=zsg s v v' r
   by_cases h:s=p.1
   simp [zC,h]
   simp [zC,h,ih]
theorem zsh {κ α:Type} [DecidableEq κ] {s:κ} {v:α}: ∀{G:List (κ×α)},alk s G=some v->zC s v G=G
 |[],h=>by simp [alk] at h
 |p::r,h=>by
   by_cases e:s=p.1
   simp only [alk,if_pos e] at h;have:=Aw h;subst this;unfold zC;rw [if_pos e,e];simp only [alk,if_neg e] at h;have ih:=zsh h;simp only [zC,if_neg e,ih]
def rowI (L:List (Str×Int)) (l:List StatS):List (Str×Int):=l.foldl (fun L s=>zC s.Name ((alk s.Name L).getD 0+s.Count) L) L
theorem GrOk.row {S:List Str} {p:Str} {b:Nat}: ∀(l:List StatS) {c:List (Of2×Int)} {G:GrM Str} {L:List (Str×Int)},GrOk S c G->alk p G=some (b,L)->GrOk S (zB3 p c l) (zC p (b,rowI L l) G)
 |[],c,G,L,h,hq=>by
   show GrOk S c (zC p (b,L) G)
   rw [zsh hq];exact h
 |s::r,c,G,L,h,hq=>by
   have hL:=h.get hq;have h1:=h.put hq s.Name ((alk s.Name L).getD 0+s.Count);have e:zC (p,s.Name) ((alk s.Name L).getD 0+s.Count) c=zrj p c s:=by unfold zrj;rw [hL,zsz]
   rw [e] at h1;have h2:=GrOk.row r h1 (L:=zC s.Name ((alk s.Name L).getD 0+s.Count) L) (by rw [zdO,if_pos rfl]);rw [zsg] at h2;exact h2
end
section
structure DisOk (q:DisS) (n:Nat):Prop where
 c:ANodup q.c
 S:q.S.Nodup
 k: ∀s∈q.S,s.length<=40
 cl:q.c.length<=n
 Sl:q.S.length<=n
 bd: ∀e∈q.c,-(100000*(n:Int))<=e.2/\e.2<=100000*(n:Int)
theorem DisOk.val {q:DisS} {n:Nat} (h:DisOk q n) (s:Str×Of2): -(100000*(n:Int))<=(alk s q.c).getD 0/\(alk s q.c).getD 0<=100000*(n:Int):=by
 cases hq:alk s q.c with
 |none=>simp;omega
 |some v=>exact h.bd _ (zbO hq)
theorem DisOk.sput {q:DisS} {n:Nat} (h:DisOk q n) {p:Play} (hp:playFault p=0):DisOk ⟨zb8 p.Source q.S,q.c⟩ (n+1):=by
 refine ⟨h.c,zjI h.S,fun s hs=> ?_,by have:=h.cl;dsimp only;omega,Aq (zwz _ _) (by have:=h.Sl;omega),fun e he=>by have:=h.bd e he;omega⟩
 rcases zkq.1 hs with rfl|hs
 exact zwf (zeY hp).1;exact h.k s hs
theorem DisOk.put {q:DisS} {n:Nat} (h:DisOk q n) {p:Play} (hp:playFault p=0):DisOk ⟨zb8 p.Source q.S,zDy q p⟩ (n+1):=by
 have hs:=h.sput hp;obtain ⟨_,_,_,_,_,hb,_⟩:=zeY hp;have hv:=h.val (zuu p);refine ⟨h.c.put,hs.S,hs.k,Aq (zlR _ _ _) (by have:=h.cl;omega),hs.Sl,fun e he=> ?_⟩
 rcases zc5 he with rfl|he
 dsimp only;omega
 have:=h.bd e he;omega
end
section

end
section
theorem zrr (x:Of2): ∀(A:List Of2) (p:Option Of2),zfo p (A++[x])=zfo p A++if (A.getLast?.or p)=some x then [] else [x]
 |[],p=>by
   by_cases h:p=some x<;>simp [zfo,h]
 |y::A,p=>by
   have ih:=zrr x A (some y);have e:((y::A).getLast?.or p)=(A.getLast?.or (some y)):=by
    cases A with
    |nil=>simp
    |cons z A=>simp [List.getLast?_cons_cons,List.getLast?_cons]
   simp only [AY,zfo];rw [e,ih]
   split<;>simp
theorem zx5 {l:List Of2} {k:Nat} {x y:Of2} (hx:l[k]? =some x) (hy:l[k-1]? =some y) (h0:0<k):zfo none (l.take (k+1))=zfo none (l.take k)++if x=y then [] else [x]:=by
 have hk:=zp hx;rw [zaf hx,zrr];have e:((l.take k).getLast?.or none)=some y:=by
  rw [List.getLast?_eq_getElem?,Az,Ci (by omega),AE (by omega),hy];rfl
 rw [e]
 by_cases h:x=y
 rw [if_pos h,if_pos (by rw [h])];rw [if_neg h,if_neg (by simpa using fun q:y=x=>h q.symm)]
structure CmpO (l:List Of2) (j:Nat) (D:List Of2):Prop where
 len:D.length=l.length
 lo:D.take (zfo none (l.take j)).length=zfo none (l.take j)
 lt:(zfo none (l.take j)).length<j
 hi: ∀i,j<=i+1->D[i]? =l[i]?
theorem CmpO.same {l D:List Of2} {j:Nat} (h:CmpO l j D) {x y:Of2} (hx:l[j]? =some x) (hy:l[j-1]? =some y) (e:x=y):CmpO l (j+1) D/\(zfo none (l.take (j+1))).length=(zfo none (l.take j)).length:=by
 have h0:=h.lt;have h1:zfo none (l.take (j+1))=zfo none (l.take j):=by rw [zx5 hx hy (by omega),if_pos e];simp
 exact ⟨⟨h.len,by rw [h1];exact h.lo,by rw [h1];omega,fun i hi=>h.hi i (by omega)⟩,by rw [h1]⟩
end
section
theorem zzZ {l:List Str} {i:Nat} (h:i<l.length):l.getD i []∈l:=by
 rw [Ae,Aa h];exact BP h
end
section

end
section
open Op
end
end Go.HL
section
namespace Go.HL
section
variable {P:Program} {e:Env} {dst:Option Tmp} {ty:TypeId} {pos:String} {af:Array Edge} {g:Option (Nat×Bool)}
theorem zfl {t el:TypeId} (hu:P.underlying t=some (.pointer el)) (a:Option Addr) (w:World):(Op.equal t (.pointer a) (.pointer none)).run P w= .ok a.isNone w:=by
 have h: ∀d,(Op.equalIn (d+1) t (.pointer a) (.pointer none)).run P w= .ok a.isNone w:=fun d=>by
  cases a<;>simp only [Op.equalIn,Sem.run_bind,run_underlying hu,Result.andThen_ok,Sem.run_pure,Option.isNone]
 exact h 9999
def zoF:Option (List HVal)->HVal
 |none=> .raw (.pointer none)
 |some cs=> .vptr cs 0
theorem zxL [Tracks] {x y:Operand} {t t' el:TypeId} {size bytes:Nat} {zero:Value} {o:Option (List HVal)} (hf:Fits P t (.ptr el) size bytes zero) (hx:zh e x=some (zoF o)) (hy:zh e y=some (.raw (.pointer none))):
 POp P e ⟨dst,.binOp .eql t x y t',ty,pos,af,g⟩ (.bool o.isNone):=
 zF fun I a w ho=>by
  have hv:=ho.one (x:=x) (by simp [Op.operands]) hx;have h2:=(ho.one (x:=y) (by simp [Op.operands]) hy).raw_inv
  cases o with
  |none=>
    have h1:=hv.raw_inv;refine ⟨_,?_,.bool _⟩
    simp [execOp,h1,h2,eqGuard,binOp,zfl hf.ptrD]
  |some cs=>
    obtain ⟨b,base,rc,el',fr,h1,h3,h4,h5⟩:=hv.vptr_inv;refine ⟨_,?_,.bool _⟩
    simp [execOp,h1,h2,eqGuard,binOp,zfl hf.ptrD]
end
end Go.HL
namespace Go.HL
theorem zfa [Tracks] {a b c d a' b' c' d':HVal} (h1:Weak a a') (h2:Weak b b') (h3:Weak c c') (h4:Weak d d'):Weak (.tup [a,b,c,d]) (.tup [a',b',c',d']):=
 zqa rfl fun j h h' x y=>by
  match j,x,y with
  |0,x,y=>simp at x y;subst x y;exact h1
  |1,x,y=>simp at x y;subst x y;exact h2
  |2,x,y=>simp at x y;subst x y;exact h3
  |3,x,y=>simp at x y;subst x y;exact h4
end Go.HL
end
namespace Go.HL
section
open Op
end
section
open Op
end
section
open Op
end
section
open Op
def sp4:List Str:=[[100,102],[102,119],[103,107],[109,102]]
def nm5:List Str:=[[97,110,110],[98,101,97],[99,105,100],[100,97,110],[101,118,101]]
def sl4:List Str:=[[115,98],[115,97],[115,99],[115,100]]
def ru5:List Str:=[[114,97],[114,98],[114,99],[114,100],[114,101]]
structure GoodPy (p:PlayerS):Prop where
 name:p.Name∈zdg
 pos:p.Positions.length<=4
structure GoodPys (l:List PlayerS):Prop where
 len:l.length<=5
 all: ∀p∈l,GoodPy p
def zoT (x:SlotS):Prop:=x.Positions.length<=10
structure GoodSlos (l:List SlotS):Prop where
 len:l.length<=4
 all: ∀x∈l,zoT x
def zlQ (x:SlotS):Prop:=x.Positions.length<=4
structure GoodS4s (l:List SlotS):Prop where
 len:l.length<=4
 all: ∀x∈l,zlQ x
theorem GoodS4s.up {l:List SlotS} (h:GoodS4s l):GoodSlos l:=⟨h.len,fun x hx=>by have:=h.all x hx;dsimp only [zlQ] at this;show x.Positions.length<=10;omega⟩
def zt0 (x:HealthS):Prop:= -1000000000000000<=x.To/\x.To<=1000000000000000
structure GoodHes (l:List HealthS):Prop where
 len:l.length<=10
 all: ∀x∈l,zt0 x
def ofB (L:List PlayerS) (s:Str):Bool:=decide (zW (fun x:PlayerS=>x.Key==s) L 0<0)&&(s !=[122,101,100])
theorem GoodHes.filter {l:List HealthS} {p:HealthS->Bool} (h1:l.length<=10) (h2: ∀x∈l,zt0 x):GoodHes (l.filter p):=
 ⟨Aq (AZ _ _) h1,fun x hx=>h2 x (List.mem_filter.1 hx).1⟩
def zzr (x:RuleS):Prop:=(-1000000000<=x.Num/\x.Num<=1000000000)/\ -1000000000<=x.Den/\x.Den<=1000000000
structure GoodRus (l:List RuleS):Prop where
 len:l.length<=5
 all: ∀x∈l,zzr x
theorem zv8 {n g:Int} (h: -1000<=n/\n<=1000): -1000000000<=n.tdiv g/\n.tdiv g<=1000000000:=by
 have h1:(n.tdiv g).natAbs<=n.natAbs:=by
  rw [Int.natAbs_tdiv];exact Nat.div_le_self _ _
 omega
def zh6 (n d:Int):Int:=((Nat.gcd n.natAbs d.natAbs:Nat):Int)
theorem zCI {n d:Int} (h:1<=d):1<=zh6 n d:=by
 unfold zh6;have:=Nat.gcd_pos_of_pos_right n.natAbs (show 0<d.natAbs by omega)
 omega
end
section
open Op
def onI (W p n:Int):Int:=if 0<p then 1+((p-1-(W-1)).tmod (n-1)+(n-1)).tmod (n-1) else p
def onS (T:List Str) (W p n:Int):Str:=if T.length<=onI W p n then [] else T.getD (onI W p n).toNat []
theorem zGt {W p n:Int} (hp:0<=p/\p<=10) (hn:2<=n/\n<=10):(-10<=(p-1-(W-1)).tmod (n-1)/\(p-1-(W-1)).tmod (n-1)<=10)/\(0<=((p-1-(W-1)).tmod (n-1)+(n-1)).tmod (n-1)/\((p-1-(W-1)).tmod (n-1)+(n-1)).tmod (n-1)<=10)/\0<=onI W p n:=by
 obtain ⟨m1,m2,_⟩:=zvr (a:=p-1-(W-1)) (b:=n-1) (by omega);have h0:0<=(p-1-(W-1)).tmod (n-1)+(n-1):=by omega
 have h1:=Cg (n-1) h0;have h2:=BC ((p-1-(W-1)).tmod (n-1)+(n-1)) (show 0<n-1 by omega);refine ⟨⟨by omega,by omega⟩,⟨h1,by omega⟩,?_⟩
 unfold onI
 split<;>omega
def zhk:List Str->List Str->Int
 |[],[]=>0
 |[],_::_=> -1
 |_::_,[]=>1
 |a::l,b::m=>if zY a b≠0 then zY a b else zhk l m
theorem zzO {l m:List Str} (h:m.length<=0\/m=[]) (hl:l≠[]):zhk l m=1:=by
 have hm:m=[]:=by
  rcases h with h|h
  cases m with
  |nil=>rfl
  |cons _ _=>simp at h
  exact h
 subst hm
 cases l with
 |nil=>exact absurd rfl hl
 |cons _ _=>rfl
theorem zyl {a b:Str} {l m:List Str} (h:zY a b=0):zhk (a::l) (b::m)=zhk l m:=by rw [zhk,if_neg (by simp [h])]
theorem zym {a b:Str} {l m:List Str} (h:zY a b≠0):zhk (a::l) (b::m)=zY a b:=by rw [zhk,if_pos h]
theorem zmL {m:List Str} {k:Nat} (h:k<m.length):m.drop k=m.getD k []::m.drop (k+1):=by
 rw [BL h,Ae,Aa h];rfl
theorem zun {m:List Str} (k:Nat):zhk [] (m.drop k)=if k<m.length then-1 else 0:=by
 split
 rename_i h;rw [zmL h];rfl
 rename_i h;rw [BB (by omega)];rfl
def zpK (x y:FixS):Int:=if zfH [x.Week,x.At] [y.Week,y.At]≠0 then zfH [x.Week,x.At] [y.Week,y.At] else zhk [x.Home] [y.Home]
theorem zzy:Cmp zpK fun _=>True:=by
 have h:=zdN (zfy FixS.Week) (zdN (zfy FixS.At) (zgw FixS.Home));have e:zpK=fun a b=>if zaj a.Week b.Week≠0 then zaj a.Week b.Week else if zaj a.At b.At≠0 then zaj a.At b.At else zY a.Home b.Home:=by
  funext a b
  unfold zpK;have e1:zfH [a.Week,a.At] [b.Week,b.At]=if zaj a.Week b.Week≠0 then zaj a.Week b.Week else zaj a.At b.At:=by
   rw [zfH,zfH,zfH]
   by_cases h2:zaj a.At b.At≠0
   rw [if_pos h2];rw [if_neg h2];simp at h2;rw [h2]
  have e2:zhk [a.Home] [b.Home]=zY a.Home b.Home:=by
   rw [zhk,zhk]
   by_cases h2:zY a.Home b.Home≠0
   rw [if_pos h2];rw [if_neg h2];simp at h2;rw [h2]
  rw [e1,e2]
  by_cases h1:zaj a.Week b.Week≠0
  rw [if_pos h1,if_pos h1,if_pos h1];rw [if_neg h1,if_neg h1]
 rw [e];exact h
def nOf (T:List Str):Int:=(T.length:Int)+(T.length:Int).tmod 2
def mOf (T:List Str):Int:=(nOf T).tdiv 2
theorem zDT {T:List Str} (h:2<=T.length/\T.length<=4):(0<=(T.length:Int).tmod 2/\(T.length:Int).tmod 2<=1)/\(2<=nOf T/\nOf T<=4)/\(1<=mOf T/\mOf T<=2)/\2*mOf T=nOf T:=by
 have h3:T.length=2\/T.length=3\/T.length=4:=by omega
 unfold mOf nOf
 rcases h3 with e|e|e<;>(rw [e];decide)
theorem zwa {w:Nat} {x y:Str} (h:w<=10):GamB ⟨(w:Int)+1,x,y,false,0,0,0,0⟩:=⟨by dsimp only;omega,by dsimp only;omega,by dsimp only;omega⟩
structure GoodGas (l:List GameS):Prop where
 len:l.length<=6
 all: ∀x∈l,GamB x
def tm4:List Str:=[[116,97],[116,98],[116,99],[116,100]]
theorem zfw {y:Int} (h:2<=y):HasAB (tm4.take y.toNat):=by
 obtain ⟨n,hn⟩: ∃n,y.toNat=n+2:=⟨y.toNat-2,by omega⟩
 rw [hn];unfold HasAB tm4
 constructor<;>simp
structure LeaC (g:LeagueS):Prop where
 lea:LeaB g
 gw: ∀x∈g.Games,GamB x
 tr: ∀s∈g.Trust,Sh s
 sl:g.Slots.length<=4
 tm:g.Teams.length<=5
 pl:g.Players.length<=5
 tt:HasAB g.Teams
theorem zjR {g:LeagueS} (h1:GoodPys g.Players) (h2:g.Stints.length<=10) (h3:g.Fixtures.length<=12) (h4:GoodRus g.Rules) (h5:GoodSlos g.Slots) (h6:g.Teams.length<=5) (h7:g.Games.length<=6/\∀x∈g.Games,GamB x)
 (h8:g.Breaks.length<=6) (h9:g.Trust.length<=100/\∀s∈g.Trust,Sh s) (h10: -1<=g.Start/\g.Start<=1000000000000) (h11:HasAB g.Teams):LeaC g:=by
 have l1:=h1.len;have l4:=h4.len;have l5:=h5.len;refine ⟨⟨by omega,fun p hp=>(h1.all p hp).name,fun p hp=>by have:=(h1.all p hp).pos;omega,by omega,by omega,by omega,fun x hx=>h4.all x hx,by omega,fun x hx=>by have:=h5.all x hx;dsimp only [zoT] at this;omega,by omega,by omega,
  fun x hx=>⟨(h7.2 x hx).fr,(h7.2 x hx).ot⟩,by omega,by omega,by omega⟩,h7.2,h9.2,l5,h6,l1,h11⟩
structure LeaD (g:LeagueS):Prop where
 pl:GoodPys g.Players
 fx:g.Fixtures.length<=12
 ru:GoodRus g.Rules
 sl:GoodS4s g.Slots
 tm:2<=g.Teams.length/\g.Teams.length<=4
 br:g.Breaks.length<=6
 tr:GoodTr g.Trust
 sta: -1<=g.Start/\g.Start<=1000000000000
 tt:HasAB g.Teams
end
section
open Op
structure HalfG {α:Type} (a b l:List α):Prop where
 sa:List.Sublist a l
 sb:List.Sublist b l
 all: ∀x∈l,x∈a\/x∈b
theorem HalfG.nil {α:Type}:HalfG ([]:List α) [] []:=⟨Bn _,Bn _,fun x h=>by cases h⟩
theorem HalfG.left {α:Type} {a b l:List α} (h:HalfG a b l) (x:α):HalfG (a++[x]) b (l++[x]):=
 ⟨h.sa.append (Bn _),h.sb.trans (BQ _ _),fun y hy=>by
  rcases List.mem_append.1 hy with q|q
  exact (h.all y q).imp (An _) id;exact .inl (A7 _ q)⟩
theorem HalfG.right {α:Type} {a b l:List α} (h:HalfG a b l) (x:α):HalfG a (b++[x]) (l++[x]):=
 ⟨h.sa.trans (BQ _ _),h.sb.append (Bn _),fun y hy=>by
  rcases List.mem_append.1 hy with q|q
  exact (h.all y q).imp id (An _);exact .inr (A7 _ q)⟩
abbrev MvS:={m:MoveS//MovB m}
abbrev zdt (x:MvS):HVal:=zdq x.1
def zBa (x y:MvS):Int:=zgZ x.1 y.1
theorem zyi:Cmp zBa fun _=>True:=zwR
end
section
theorem zuf: ∀a b:Str,Op.bytesLess a b=decide (a<b)
 |[],[]=>by simp [Op.bytesLess]
 |_::_,[]=>by simp [Op.bytesLess]
 |[],_::_=>by simp [Op.bytesLess]
 |a::x,b::y=>by
   have ih:=zuf x y;rw [AF,decide_eq_true_iff,List.cons_lt_cons_iff];unfold Op.bytesLess;rw [ih]
   simp
theorem zDg {a b:Str} (h:SLt a b):zY a b<0:=by
 have h1:zY a b<=0:=by
  rw [zjN,zuf,decide_eq_false_iff_not];exact List.not_lt.2 h.1
 have h2:zY a b≠0:=fun e=>h.2 (zbn.1 e)
 omega
/-! the lines of right plays are right-/
structure LnKey (q:LnS):Prop where
 S: ∀s∈q.S,key s=true
 c: ∀e∈q.c,key e.1.2=true
theorem zuQ {l:List Play} {t:List Str} {week n:Int}: ∀(m:List Play) (q:LnS),LnKey q->(∀x∈m,playFault x=0)->LnKey (m.foldl (zh4 l t week n) q)
 |[],_,h,_=>h
 |x::m,q,h,hm=>by
   rw [Bw];refine zuQ m _ ?_ fun y hy=>hm y (Am _ hy)
   obtain ⟨_,_,_,_,⟨_,k2,k3⟩,_,_⟩:=zeY (hm x Aj);unfold zh4
   split
   refine ⟨fun s hs=> ?_,fun e he=> ?_⟩
   rcases zkq.1 hs with rfl|hs
   exact k2;exact h.S s hs
   rcases zc5 he with rfl|he
   exact k3;exact h.c e he;exact h
theorem zlA {l:List Play} {t:List Str} {week n:Int} (hok: ∀x∈l,playFault x=0) (hl:l.length<=15) (hw:zaQ week=true) (h0:zh3 l t week n=0):zaz (zd1 l t week n)=0:=by
 have h:=ztM (l:=l) (m:=l) (trust:=t) (week:=week) (n:=n) hok;have hk:LnKey (zcJ l t week n l):=zuQ (l:=l) (t:=t) (week:=week) (n:=n) l ⟨[],[]⟩ ⟨(fun s h=>by cases h),(fun e h=>by cases h)⟩ hok;obtain ⟨hsl,hsn⟩:=zkp (t:=t) (week:=week) (n:=n) hok hl;have hf:zg5 (zcJ l t week n l).c (zcJ l t week n l).S=false:=by
  unfold zh3 zix at h0
  cases hq:zg5 (zcJ l t week n l).c (zcJ l t week n l).S with
  |false=>rfl
  |true=>rw [hq] at h0;simp at h0
 have e:zd1 l t week n=(zbh (zcJ l t week n l).S).map fun s=>⟨s,week,zdR (zcJ l t week n l).c s⟩:=by
  unfold zd1 zhF;rw [hf];rfl
 unfold zg5 at hf;rw [A9] at hf;obtain ⟨f1,f2⟩:=hf;refine zqS (by omega) (fun y hy=> ?_) ?_;obtain ⟨y1,y2,y3⟩:=hsn y hy;rw [e] at hy;obtain ⟨s,hs,rfl⟩:=List.mem_map.1 hy;have hsS:s∈(zcJ l t week n l).S:=(zih _).mem_iff.1 hs;have hnm:((zbl (zcJ l t week n l).c s).map (·.Name)).Nodup:=by
  have:=zns h.c s;unfold zdR at this;exact ((zbp zbc _).map _).nodup_iff.1 this
 refine zeX.2 ⟨hk.S s hsS,hw,zs3 (Aq y1 (by decide)) (fun z hz=> ?_) (zpF hnm)⟩
 have hz':z∈zbl (zcJ l t week n l).c s:=(zeu _).1 hz;obtain ⟨p,hp,rfl⟩:=List.mem_map.1 hz';obtain ⟨p1,p2⟩:=List.mem_filter.1 hp;have p3:p.2≠0:=by
  simp only [A2,bne_iff_ne,ne_eq] at p2;exact p2.2
 have p4:out p.2 (-100000) 100000=false:=by
  have:=List.any_eq_false.1 f1 p p1
  simpa using this
 refine ze0.2 ⟨hk.c p p1,?_,p3⟩
 unfold out at p4;simp only [A9,decide_eq_false_iff_not] at p4
 dsimp only
 omega
 rw [e];refine List.pairwise_map.2 ((zvm h.S).imp fun {a b} hab=> ?_)
 have h1:=zDg hab
 show orI [zY a b,zaj week week]<0
 rw [zef,if_pos (by omega)];exact h1
/-! parts that make the whole-/
structure Half (a b l:List Play):Prop where
 sa:a.Sublist l
 sb:b.Sublist l
 all: ∀x∈l,x∈a\/x∈b
theorem Half.nil:Half [] [] []:=⟨Bn _,Bn _,fun x h=>by cases h⟩
theorem Half.left {a b l:List Play} (h:Half a b l) (x:Play):Half (a++[x]) b (l++[x]):=
 ⟨h.sa.append (Bn _),h.sb.trans (BQ _ _),fun y hy=>by
  rcases List.mem_append.1 hy with hy|hy
  rcases h.all y hy with q|q
  exact .inl (An _ q);exact .inr q;exact .inl (A7 _ hy)⟩
theorem Half.right {a b l:List Play} (h:Half a b l) (x:Play):Half a (b++[x]) (l++[x]):=
 ⟨h.sa.trans (BQ _ _),h.sb.append (Bn _),fun y hy=>by
  rcases List.mem_append.1 hy with hy|hy
  rcases h.all y hy with q|q
  exact .inl q;exact .inr (An _ q);exact .inr (A7 _ hy)⟩
end
section

end
section
open Op
def ztZ (x:ChoiceS):Prop:=(∀s∈x.Players,Sh s)/\Sh x.Captain/\x.Players.length<=5
def GoodC4 (x:ChoiceS):Prop:=(∀s∈x.Players,Sh s)/\Sh x.Captain/\x.Players.length<=4
theorem GoodC4.up {x:ChoiceS} (h:GoodC4 x):ztZ x:=⟨h.1,h.2.1,Nat.le_succ_of_le h.2.2⟩
structure GoodChs (l:List ChoiceS):Prop where
 len:l.length<=20
 all: ∀x∈l,ztZ x
structure BookG (b:BookS):Prop where
 lea:LeaC b.League
 mv:b.Moves.length<=10
 mb: ∀x∈b.Moves,MovB x
 pl:GoodPl b.Plays
 me:GoodMds b.Mends
 he:GoodHes b.Health
 ch:GoodChs b.Choices
theorem BookG.c {b:BookS} (h:BookG b):BookC b:=by
 have a1:=h.mv;have a2:=h.pl.len;have a3:=h.me.len;have a4:=h.he.len;have a5:=h.ch.len;exact ⟨⟨h.lea.lea,by omega,by omega,by omega,by omega,by omega,fun x hx=>by have:=(h.ch.all x hx).2.2;omega⟩,h.lea.gw,h.mb,h.he.all,h.lea.tr,h.pl.all,h.me.all,fun x hx=>⟨(h.ch.all x hx).1,(h.ch.all x hx).2.1⟩,by omega,by omega,by omega,by omega,by omega,h.lea.tt,h.lea.tm⟩
def g0L:LeagueS:=⟨[],[],[],[],[⟨[115,97],[[103,107]]⟩],⟨3,0,5,0⟩,[[116,97],[116,98]],[],[],[],0⟩
theorem g0_b:LeaB g0L:=
 ⟨by decide,fun _ h=>(by cases h),fun _ h=>(by cases h),by decide,by decide,by decide,fun _ h=>(by cases h),by decide,fun x hx=>(by simp only [g0L,List.mem_singleton] at hx;subst hx;decide),by decide,by decide,fun _ h=>(by cases h),by decide,by decide,by decide⟩
theorem g0_E:zcu g0L=0:=by decide
end
section
open Go
theorem zg7: ∀{l:List Int},orI l=0->∀x∈l,x=0
 |[],_,x,h=>by cases h
 |y::r,h,x,hx=>by
   unfold orI at h
   by_cases e:y≠0
   rw [if_pos e] at h;exact absurd h e;rw [if_neg e] at h
   rcases List.mem_cons.1 hx with rfl|q
   exact Decidable.not_not.1 e;exact zg7 h x q
theorem ztL {g:LeagueS} (h:zcu g=0):zh2 g=0:=by
 unfold zcu at h
 by_cases e:zh2 g≠0
 rw [if_pos e] at h;exact h;exact Decidable.not_not.1 e
theorem zud {b:BookS} (h:zda b=0):zcu b.League=0/\orI [zfi b.Moves,zbT b.Plays,zbu b.Mends,zor b.League.Players b.Health,zmK b.League.Teams b.League.Slots.length b.Choices]=0:=by
 unfold zda at h
 by_cases e:zcu b.League≠0
 rw [if_pos e] at h;exact absurd h e;rw [if_neg e] at h;exact ⟨Decidable.not_not.1 e,h⟩
structure BookF (b:BookS):Prop where
 bo:zdU b.League.Bounds=0
 mo:zfi b.Moves=0
 ps:b.League.Players.length<=500
 ky: ∀p∈b.League.Players,key p.Key=true
theorem zyf {b:BookS} (h:zda b=0):BookF b:=by
 obtain ⟨h1,h2⟩:=zud h;have h3:=zg7 (ztL h1);have h4:zkw b.League.Players b.League.Stints=0:=h3 _ (by simp);have h5:zcN b.League.Players=0:=by
  unfold zkw at h4
  by_cases e:zcN b.League.Players≠0
  rw [if_pos e] at h4;exact h4;exact Decidable.not_not.1 e
 obtain ⟨h6,h7⟩:=zfD h5;refine ⟨h3 _ (by simp),zg7 h2 _ (by simp),h6,fun p hp=> ?_⟩
 obtain ⟨i,hi,rfl⟩:=AT hp;have:=h7 i _ (Aa hi);unfold zcR at this
 by_cases e:key b.League.Players[i].Key=false
 rw [if_pos e] at this;cases this
 simpa using e
abbrev zGq (b:BookS):List Str:=b.League.Players.map (·.Key)
theorem BookF.fr {b:BookS} (h:BookF b) {n:Int} (hn:zaa n=true):frE b.League.Bounds b.Moves (zGq b) n=0:=by
 refine zCp (by simp [orI,h.bo,h.mo]) (by simp;exact h.ps) ?_ hn
 rw [BJ]
 intro s hs
 obtain ⟨p,hp,rfl⟩:=List.mem_map.1 hs;rw [h.ky p hp];simp
def g0B:BookS:=⟨g0L,[],[],[],[],[]⟩
theorem zBP:BookC g0B:=
 ⟨⟨g0_b,by decide,by decide,by decide,by decide,by decide,fun _ h=>(by cases h)⟩,fun _ h=>(by cases h),fun _ h=>(by cases h),fun _ h=>(by cases h),fun _ h=>(by cases h),fun _ h=>(by cases h),fun _ h=>(by cases h),fun _ h=>(by cases h),by decide,by decide,by decide,by decide,by decide,⟨by decide,by decide⟩,by decide⟩
theorem zBO:zda g0B=0:=by
 unfold zda;rw [show zcu g0B.League=0 from g0_E,if_neg (by decide)]
 decide
end
end Go.HL
namespace Go.Proofs.YtpgopgjleokciaaGreatDoor
set_option maxRecDepth 100000
set_option linter.unusedVariables false
set_option linter.unusedSimpArgs false
section
open Go.HL
set_option linter.unusedSimpArgs false
end
end Go.Proofs.YtpgopgjleokciaaGreatDoor
namespace Go.HL
section
open Go
def zi8 (a b:List Str):Bool:=a.any fun s=>b.contains s
def zqO (team:Str) (w at' before:Int) (x:ChoiceS):Bool:=((x.Team==team&&x.Week==w)&&decide (x.At<=at'))&&decide (x.At<before)
def zkR (team:Str) (w at' before:Int) (o:Option ChoiceS):List ChoiceS->Option ChoiceS
 |[]=>o
 |x::r=>zkR team w at' before (if zqO team w at' before x=true then some x else o) r
def zxe (l:List ChoiceS) (team:Str) (w at' before:Int):Option ChoiceS:=zkR team w at' before none l
theorem zxd {team:Str} {w at' before:Int} {o:Option ChoiceS} {l:List ChoiceS} {c:ChoiceS} (h:zkR team w at' before o l=some c):o=some c\/c∈l/\zqO team w at' before c=true:=by
 induction l generalizing o with
 |nil=>exact .inl h
 |cons y r ih=>
   rcases ih h with q|⟨q1,q2⟩
   by_cases e:zqO team w at' before y=true
   rw [if_pos e] at q;cases q;exact .inr ⟨Aj,e⟩;rw [if_neg e] at q;exact .inl q;exact .inr ⟨Am _ q1,q2⟩
end
section
open Go
theorem zGI {L:List PlayerS} {s:Str} (hs:SortedS (L.map (·.Key))) (h:(L.map (·.Key)).contains s=true):
 ∃p,L[zbU (L.map (·.Key)) s]? =some p/\p.Key=s/\L.find? (fun p=>p.Key==s)=some p:=by
 obtain ⟨h1,h2⟩:=zr1 hs h;have hl:zbU (L.map (·.Key)) s<L.length:=by simpa using zp h1
 refine ⟨L[zbU (L.map (·.Key)) s],Aa hl,?_,?_⟩
 rw [Ag,Aa hl] at h1
 simpa using h1
 rw [BV];refine ⟨?_,_,hl,rfl,fun j hj=> ?_⟩
 rw [Ag,Aa hl] at h1
 simpa using h1
 have:=h2 j (L[j]'(by omega)).Key hj (by rw [Ag,Aa (by omega)];rfl)
 simpa using this
theorem zwq {L:List PlayerS} {s:Str} (h:(L.map (·.Key)).contains s=false):L.find? (fun p=>p.Key==s)=none:=by
 rw [Ck]
 intro p hp q
 have:(L.map (·.Key)).contains s=true:=by
  simp only [B5,decide_eq_true_eq];exact List.mem_map.2 ⟨p,hp,by simpa using q⟩
 rw [h] at this;cases this
abbrev plO (L:List PlayerS) (s:Str):Option PlayerS:=L.find? (fun p=>p.Key==s)
abbrev pPl (o:Option PlayerS):HVal:=zoF (o.map fun p=>zd (zeT p))
abbrev pCh (o:Option ChoiceS):HVal:=zoF (o.map fun c=>zd (zR c))
abbrev zxj (t:Str) (p h:List Str):HVal:= .agg [.str t,eSs p,eSs h]
abbrev zhW (b:BookS) (n:Int):HVal:= .agg [.vptr (zd (zcg b)) 0,.int .i64 n]
def zcr (b:BookS) (t:Str) (w n:Int):Int:=if zda b≠0 then zda b else if b.League.Teams.contains t=false then 8 else if zaQ w=false\/zaa n=false then 1 else 0
theorem zpc {b:BookS} {t:Str} {w n:Int} (h:zcr b t w n=0):zda b=0/\b.League.Teams.contains t=true/\zaQ w=true/\zaa n=true:=by
 unfold zcr at h
 by_cases h1:zda b≠0
 rw [if_pos h1] at h;exact absurd h h1;rw [if_neg h1] at h
 by_cases h2:b.League.Teams.contains t=false
 rw [if_pos h2] at h;cases h;rw [if_neg h2] at h
 by_cases h3:zaQ w=false\/zaa n=false
 rw [if_pos h3] at h;cases h;rw [not_or] at h3;exact ⟨Decidable.not_not.1 h1,by simpa using h2,by simpa using h3.1,by simpa using h3.2⟩
structure BookW (b:BookS):Prop where
 f:BookF b
 st:zkw b.League.Players b.League.Stints=0
 fx:zjj b.League.Fixtures=0
 he:zoq b.League.Players b.Health=0
 py:zcN b.League.Players=0
 so:SortedS (b.League.Players.map (·.Key))
 ch: ∀c∈b.Choices,c.Players.length=b.League.Slots.length/\zaQ c.Week=true/\zaa c.At=true
 tm: ∀t,b.League.Teams.contains t=true->key t=true
 sl:b.League.Slots.length<=12
theorem zCh {T:List Str} {n:Nat} {l:List ChoiceS} (h:zmK T n l=0) {c:ChoiceS} (hc:c∈l):c.Players.length=n/\zaQ c.Week=true/\zaa c.At=true:=by
 obtain ⟨_,h2⟩:=zfD h;obtain ⟨i,hi,rfl⟩:=AT hc;have:=h2 i _ (Aa hi);unfold zbV at this
 split at this
 omega
 split at this
 omega
 split at this
 omega
 rename_i h3 h4
 rw [not_or] at h3;exact ⟨Decidable.not_not.1 h4,by simpa using h3.1,by simpa using h3.2⟩
theorem zDq {b:BookS} (h:zda b=0):BookW b:=by
 obtain ⟨h1,h2⟩:=zud h;have h3:=zg7 (ztL h1);have h4:zkw b.League.Players b.League.Stints=0:=h3 _ (by simp);have h5:zcN b.League.Players=0:=by
  unfold zkw at h4
  by_cases e:zcN b.League.Players≠0
  rw [if_pos e] at h4;exact h4;exact Decidable.not_not.1 e
 have h6:zfJ b.League.Teams b.League.Games=0:=h3 _ (by simp);have h7:zdo b.League.Teams=0:=by
  unfold zfJ at h6
  by_cases e:zdo b.League.Teams≠0
  rw [if_pos e] at h6;exact h6;exact Decidable.not_not.1 e
 have h8:zdQ b.League.Teams=0:=by
  unfold zdo at h7
  split at h7
  cases h7
  split at h7
  cases h7
  exact h7
 have h9:zdn b.League.Slots=0:=h3 _ (by simp);have h10:zmK b.League.Teams b.League.Slots.length b.Choices=0:=zg7 h2 _ (by simp);refine ⟨zyf h,h4,h3 _ (by simp),?_,h5,zm0 h5,fun c hc=>zCh h10 hc,fun t ht=>zoJ _ 0 h8 t (by simpa using ht),?_⟩
 unfold zoq;rw [if_neg (fun q=>q h5)];exact zg7 h2 _ (by simp);unfold zdn at h9
 split at h9
 cases h9
 split at h9
 cases h9
 omega
end
end Go.HL
namespace Go.Proofs.YtpgopgjleokciaaGreatDoor
set_option maxRecDepth 100000
set_option linter.unusedVariables false
set_option linter.unusedSimpArgs false
section
open Go.Proofs.Tryz
open Go.HL
theorem zql [Tracks] {s:Str} {l:List Str} (hl:l.length<=1000000):ConP prog 227 [.str s,.vptr [eSs l] 0] (.bool (l.contains s)):=by
 refine uOb func227 ntmps227 ?_;refine gz4 ?_;refine dq (zO (h:=eSs l) zq rfl rfl rfl) ?_;refine gz1 ?_;refine dq (uCl zhj rfl (zK uS)) ?_;refine gz3 ?_;refine zw rfl ?_
 rfl
theorem zg0 [Tracks] {a b:List Str} (ha:a.length<=1000000) (hb:b.length<=1000000):ConP prog 148 [eSs a,eSs b] (.bool (zi8 a b)):=by
 refine uOb func148 ntmps148 ?_;refine gz7 ?_;refine dq (uCl zBf rfl (zgu (l:=a) (p:=fun s=>b.contains s) zFz (fun _=>zql hb) ha)) ?_;refine gz3 ?_;refine zw rfl ?_
 rfl
theorem zmC [Tracks] {kb pb hb ob db ab:Nat} {b:BoundS} {k:RosS} {t:Str} (hP: ∀t,(rPl k t).length<=1000000) (hH: ∀t,(rHu k t).length<=1000000):Con prog 140 [.raw (.pointer (some ⟨kb,0,none⟩)),.str t] (zdy kb pb hb ob db ab b k) (fun x1 M'=>x1=zxj t (rPl k t) (rHu k t)/\M'=[]):=by
 refine zaC func140 rfl ntmps140 rfl rfl ?_;refine gz1 ?_;refine de rfl (zj zii rfl fun b4=> ?_)
 refine gz1 ?_;refine zbW (fun M=>M=(.cells b4 [.str [],.raw (.slice none 0 0),.raw (.slice none 0 0)]::(zdy kb pb hb ob db ab b k))) [4,6,11,13] mixed ?_;refine gz2 ?_;refine uB 2 rfl ((by first|exact zu rfl|exact zl rfl)) ?_;refine gz1 ?_;refine uM 4 rfl rfl (fun M hM=>by subst hM;exact zar (i:=1) zdH rfl rfl (.inl ⟨rfl,rfl⟩) ⟨rfl,rfl⟩) ?_;refine gz1 ?_;refine uM 6 rfl rfl (fun M hM=>by subst hM;exact zfC (i:=2) (f:=eSs) (z0:=([]:List Str)) zdH ty9 zq rfl rfl rfl (z7 1) ⟨rfl,rfl⟩) ?_;refine uA 8 ?_;refine uB 9 rfl ((by first|exact zu rfl|exact zl rfl)) ?_;refine gz1 ?_;refine uM 11 rfl rfl (fun M hM=>by subst hM;exact zar (i:=1) zdH rfl rfl (.inl ⟨rfl,rfl⟩) ⟨rfl,rfl⟩) ?_;refine gz1 ?_;refine uM 13 rfl rfl (fun M hM=>by subst hM;exact zfC (i:=3) (f:=eSs) (z0:=([]:List Str)) zdH ty9 zq rfl rfl rfl (z7 1) ⟨rfl,rfl⟩) ?_;refine uF 7 ?_;refine zt rfl (zqc (uCa zkg rfl (zab (l:=rPl k t) (hP t)) fun v=>⟨v,rfl,rfl⟩) ?_)
 refine ⟨fun _=> .inl rfl,?_⟩
 refine uF 14 ?_;refine zt rfl (zqc (uCa zkg rfl (zab (l:=rHu k t) (hH t)) fun v=>⟨v,rfl,rfl⟩) ?_)
 refine ⟨fun _=> .inl rfl,?_⟩
 refine uB 15 rfl (zB (cs:=[_,_,_]) zii zGw rfl) ?_;refine uF 16 ?_;refine zz (zn (h:=zxj t (rPl k t) (rHu k t)) zii rfl rfl rfl rfl rfl ?_)
 refine ⟨uE,?_⟩
 refine gz2 ?_;exact ⟨_,_,(zbb 4 (i:=0) rfl rfl).trans Ghost.clear,[_],_,⟨⟨_,_,_,_,_,rfl,zii,.inr ⟨rfl,rfl,rfl⟩⟩,trivial⟩,Weak.refl _,rfl,rfl⟩
theorem zvB [Tracks] {b:BoundS} {l:List MoveS} {t:Str} {n:Int} (hl:l.length<=1000000) (hz:zk9 b l t n=0):ConP prog 55 [zgc b,zck l,.str t,.int .i64 n] (.tup [zxj t (rPl (zfU b l n) t) (rHu (zfU b l n) t),.int .i64 0]):=by
 obtain ⟨hm0,hk0,hn0⟩:=zDp hz;have hok:=zjT (b:=b) (n:=n) hm0;refine zaC func55 rfl ntmps55 rfl rfl ?_;refine gz2 ?_;refine de rfl (zj zii rfl fun b8=> ?_)
 refine gz8 ?_;refine dq (zS (h':= .int .i64 0) (uCl zEC rfl (znw (b:=b) (l:=l) (p:=t) (n:=n) hl)) (by rw [hz])) ?_;refine gz6 ?_;refine zZ rfl (fun h1=> ?_) (fun h1=> ?_)
 ·exfalso
  try simp at h1
  done
 ·try simp at h1
  refine gz6 ?_;refine de rfl (za8 (M1:=[]) (R:=[_]) zED rfl (WeakL.refl _) (Ac _) (zvC (b:=b) (l:=l) (n:=n) hm0) ?_)
  rintro _ _ ⟨kb,pb,hb,ob,db,ab,rfl,rfl⟩;refine gz1 ?_;refine de rfl (za8 (M1:=(zdy kb pb hb ob db ab b (zfU b l n))) (R:=[_]) zEE rfl (WeakL.refl _) (Ac _) (zmC (t:=t) (fun t=>by have:=(hok.p t).2;omega) (fun t=>by have:=(hok.h t).2;omega)) ?_)
  rintro _ _ ⟨rfl,rfl⟩;refine de0 (zn (h:=zxj t (rPl (zfU b l n) t) (rHu (zfU b l n) t)) zii rfl rfl rfl rfl rfl ?_)
  refine gz3 ?_;exact ⟨_,_,zm 8 rfl,[_,_],_,⟨⟨_,_,_,_,_,rfl,zii,.inr ⟨rfl,rfl,rfl⟩⟩,⟨rfl,trivial⟩⟩,Weak.refl _,rfl,rfl⟩
theorem zf1 [Tracks] {b:BookS} {t:Str} {w n:Int} (hT:Tracks.on=false) (hb:BookC b):ConP prog 17 [.vptr (zd (zcg b)) 0,.str t,.int .i64 w,.int .i64 n] (.int .i64 (zcr b t w n)):=by
 have htm:=hb.bb.lea.tm;refine uOb func17 ntmps17 ?_;refine gz6 ?_;refine dq ((by first|exact zu rfl|exact zl rfl)) ?_;refine dq (zaL (h:=zcg b) zbM rfl rfl rfl rfl) ?_;refine dq (uCl ca50 rfl (znV (b:=b) hT hb.bb hb.hw)) ?_;refine gz6 ?_;refine uCo (fun h1=> ?_) fun h2=> ?_
 refine gz5 ?_;refine uRp ?_;unfold zcr
 simp_all
 refine gz6 ?_;refine dq ((by first|exact zu rfl|exact zl rfl)) ?_;refine gz2 ?_;refine dq (zO (h:=eSs b.League.Teams) zq rfl rfl rfl) ?_;refine gz1 ?_;refine dq (uCl zhj rfl (zK uS)) ?_;refine gz3 ?_;refine uCo (fun h3=> ?_) fun h4=> ?_
 refine gz4 ?_;refine uRp ?_;unfold zcr
 simp_all
 refine gz2 ?_;refine dq (uCl zlq rfl zcG) ?_;refine gz3 ?_;refine uGr rfl (fun hc=>uCl zkh rfl zbC) ?_;refine gz4 ?_;refine uCo (fun h5=> ?_) fun h6=> ?_
 refine gz4 ?_;refine uRp ?_;unfold zcr
 simp_all
 refine gz7 ?_;refine uRp ?_;unfold zcr
 simp_all
theorem zmv [Tracks] {b:BookS} {n w f:Int} {t:Str} (hl:b.Choices.length<=1000000):ConP prog 62 [zhW b n,.str t,.int .i64 w,.int .i64 f] (pCh (zxe b.Choices t w n f)):=by
 refine uOb func62 ntmps62 ?_;refine zaw ?_;refine dq (zO (h:= .vptr (zd (zcg b)) 0) zcQ rfl rfl rfl) ?_;refine dq ((by first|exact zu rfl|exact zl rfl)) ?_;refine gz1 ?_;refine dq (zO (h:=zkk b.Choices) zeF rfl rfl rfl) ?_;refine dq (zax (f:=zR) (l:=b.Choices) zeF rfl) ?_;refine gz3 ?_;refine uU2 [9,3,18,43] (fun (k:Nat) (o:Option ChoiceS)=>[(18,.int .i64 k),(9,pCh o)]) (fun (k:Nat) (o:Option ChoiceS)=>[]) (fun (k:Nat) (o:Option ChoiceS)=>k<=b.Choices.length/\(zxe b.Choices t w n f=zkR t w n f o (b.Choices.drop k))) (fun (k:Nat) (o:Option ChoiceS)=>b.Choices.length-k) (0) (none) ?_ ?_;exact ⟨Ad _,rfl⟩;rintro k o ⟨hk,hg⟩;refine gz4 ?_;refine uCo (fun h1=> ?_) fun h2=> ?_
 obtain ⟨x,hx⟩: ∃x,b.Choices[k]? =some x:=⟨_,Aa h1⟩
 have hdx:=zk hx;rw [hdx] at hg;refine zaw ?_;refine dq (zO (h:= .vptr (zd (zcg b)) 0) zcQ rfl rfl rfl) ?_;refine dq ((by first|exact zu rfl|exact zl rfl)) ?_;refine gz1 ?_;refine dq (zO (h:=zkk b.Choices) zeF rfl rfl rfl) ?_;refine gz1 ?_;refine dq (zA (f:=zR) (l:=b.Choices) (j:=k) (a:=x) zeF zcm rfl rfl rfl hx) ?_;refine gz2 ?_;refine uDr mixed ?_;refine gz1 ?_;refine uB 1 rfl ((by first|exact zu rfl|exact zl rfl)) ?_;refine gz6 ?_;refine uGy 8 rfl rfl (fun hc=>(by first|exact zu rfl|exact zl rfl)) ?_;refine gz7 ?_;refine uGy 16 rfl rfl (fun hc=>(by first|exact zu rfl|exact zl rfl)) ?_;refine gz8 ?_;refine uGy 25 rfl rfl (fun hc=>(by first|exact zu rfl|exact zl rfl)) ?_;refine gz6 ?_;refine uCo (fun h3=> ?_) fun h4=> ?_
 refine zaw ?_;exact ⟨k+1,some x,⟨by omega,by rw [hg,zkR,if_pos (by simp_all [zqO])]⟩,uD,⟨rfl,rfl,trivial⟩,uK,Ac _⟩;refine gz7 ?_;exact ⟨k+1,o,⟨by omega,by rw [hg,zkR,if_neg (by simp_all [zqO])]⟩,uD,⟨rfl,rfl,trivial⟩,uK,Ac _⟩;have hnk:b.Choices.length<=k:=by omega
 obtain rfl:k=b.Choices.length:=by omega
 rw [zH (Af _)] at hg;refine gz2 ?_;refine zN ?_;refine gz7 ?_;refine zw rfl ?_;rw [hg];rfl
theorem zmw [Tracks] {x:PlayerS} {s:Str}:ConP prog 142 [zeT x,.str s] (.int .i64 (zY x.Key s)):=by
 refine uOb func142 ntmps142 ?_;refine gz8 ?_;refine dq (uCl zcf rfl zM) ?_;refine gz3 ?_;refine zw rfl ?_
 rfl
theorem znW [Tracks] {b:BookS} {n:Int} {s:Str} (hl:b.League.Players.length<=1000000) (hs:SortedS (b.League.Players.map (·.Key))):ConP prog 57 [zhW b n,.str s] (pPl (plO b.League.Players s)):=by
 refine uOb func57 ntmps57 ?_;refine gz6 ?_;refine dq (zO (h:= .vptr (zd (zcg b)) 0) zcQ rfl rfl rfl) ?_;refine dq ((by first|exact zu rfl|exact zl rfl)) ?_;refine gz2 ?_;refine dq (zO (h:=zbj b.League.Players) znb rfl rfl rfl) ?_;refine gz5 ?_;refine dq (uCl zBj rfl (zdW (l:=b.League.Players) zEF (fun _=>zmw) hl hs)) ?_;refine zct ?_;refine uCo (fun h1=> ?_) fun h2=> ?_
 refine gz4 ?_;refine zw rfl ?_
 focus first
 |(rw [plO,hp3];rfl)
 |(rw [plO,zwq uSa];rfl)
 refine gz2 ?_;obtain ⟨p,hp1,hp2,hp3⟩:=zGI hs (s:=s) uSa;refine gz3 ?_;refine dq (zA (f:=zeT) (l:=b.League.Players) (j:=zbU (b.League.Players.map (·.Key)) s) (a:=p) znb zeO rfl rfl rfl hp1) ?_;refine gz3 ?_;refine zw rfl ?_
 focus first
 |(rw [plO,hp3];rfl)
 |(rw [plO,zwq uSa];rfl)
end
end Go.Proofs.YtpgopgjleokciaaGreatDoor
namespace Go.HL
section
structure OutS where
 Points:Int
 Weight:Int
abbrev most:Int:=1000000000000
end
section
abbrev NW:=List (Int×Int)
def one (p:Int×Int) (O:List OutS):NW:=O.map fun o=>(p.1+o.Points,p.2*o.Weight)
def tot:NW->Int
 |[]=>0
 |p::r=>p.2+tot r
def PosW (L:NW):Prop:= ∀p∈L,1<=p.2
theorem PosW.tot {L:NW} (h:PosW L):0<=tot L:=by
 induction L with
 |nil=>simp [HL.tot]
 |cons p L ih=>
   have:=ih fun q hq=>h q (Am _ hq)
   have:=h p Aj;simp only [HL.tot];omega
theorem PosW.le {L:NW} (h:PosW L) {p:Int×Int} (hp:p∈L):p.2<=HL.tot L:=by
 induction L with
 |nil=>cases hp
 |cons q L ih=>
   have hL:PosW L:=fun q hq=>h q (Am _ hq)
   have h1:=hL.tot;have h2:=h q Aj
   rcases List.mem_cons.1 hp with rfl|hp
   simp only [HL.tot];omega;have:=ih hL hp;simp only [HL.tot];omega
theorem PosW.alk {L:NW} (h:PosW L) (k:Int):0<=(alk k L).getD 0/\(alk k L).getD 0<=HL.tot L:=by
 cases hq:HL.alk k L with
 |none=>have:=h.tot;simp;omega
 |some v=>
   have hm:=zbO hq;have h1:=h _ hm;have h2:=h.le hm;simp only [B8];simp only at h1 h2
   omega
theorem PosW.one {p:Int×Int} (hp:1<=p.2) {O:List OutS} (hO: ∀y∈O,1<=y.Weight):PosW (HL.one p O):=fun q hq=>by
 obtain ⟨o,ho,rfl⟩:=List.mem_map.1 hq;have:=hO o ho;have:1*1<=p.2*o.Weight:=Int.mul_le_mul hp this (by decide) (by omega)
 dsimp only;omega
end
section
structure FracS where
 Num:Int
 Den:Int
abbrev zdB (x:FracS):HVal:= .agg [.int .i64 x.Num,.int .i64 x.Den]
def zdC (a b:Int):Int:=(Nat.gcd a.toNat b.toNat:Nat)
def zh5 (n d:Int):FracS:=⟨n.tdiv (zdC (max n (-n)) d),d.tdiv (zdC (max n (-n)) d)⟩
theorem zuF {a b:Int} (ha:0<=a) (hb:0<b):zdC b (a.tmod b)=zdC a b:=by
 unfold zdC
 congr 1
 have e:(a.tmod b).toNat=a.toNat%b.toNat:=by
  rw [Int.tmod_eq_emod_of_nonneg ha];have h1:=Int.toNat_emod ha (by omega:0<=b);exact h1
 rw [e,Nat.gcd_comm b.toNat,<-Nat.gcd_rec,Nat.gcd_comm]
theorem zuE {a:Int} (ha:0<=a):zdC a 0=a:=by
 unfold zdC;simp;omega
theorem zrR {a b:Int} (hb:0<b):0<zdC a b:=by
 unfold zdC;have:=Nat.gcd_pos_of_pos_right a.toNat (n:=b.toNat) (by omega)
 omega
end
section
def PosO (Y:List OutS):Prop:= ∀q∈Y,1<=q.Weight
theorem PosO.take {Y:List OutS} (h:PosO Y) (k:Nat):PosO (Y.take k):=fun x hx=>h x (AL hx)
def IncO (Y:List OutS):Prop:=Y.Pairwise fun a b=>a.Points<b.Points
theorem IncO.drop {Y:List OutS} (h:IncO Y) {i:Nat} {n:Int} {q:OutS} (hq:Y[i]? =some q) (hn:n<=q.Points): ∀x∈Y.drop i,n<=x.Points:=by
 intro x hx
 have hi:i<Y.length:=(List.getElem?_eq_some_iff.1 hq).1;have he:Y[i]=q:=(List.getElem?_eq_some_iff.1 hq).2;rw [BL hi,he] at hx
 rcases List.mem_cons.1 hx with rfl|hx
 exact hn;have hp:(Y.drop i).Pairwise fun a b=>a.Points<b.Points:=Cw (List.drop_sublist i Y) h
 rw [BL hi,he] at hp;have:=(List.pairwise_cons.1 hp).1 x hx
 omega
end
section

end
section
theorem zxp {a b:Int} (hb:0<=b):zdC a b∣b:=by
 have h:((Nat.gcd a.toNat b.toNat:Nat):Int)∣(b.toNat:Int):=Int.ofNat_dvd.2 (Nat.gcd_dvd_right _ _);rw [Int.toNat_of_nonneg hb] at h;exact h
theorem zxo {a b:Int} (ha:0<=a):zdC a b∣a:=by
 have h:((Nat.gcd a.toNat b.toNat:Nat):Int)∣(a.toNat:Int):=Int.ofNat_dvd.2 (Nat.gcd_dvd_left _ _);rw [Int.toNat_of_nonneg ha] at h;exact h
theorem zAg {w T:Int} (hT:0<T): ∃g,0<g/\w=(zh5 w T).Num*g/\T=(zh5 w T).Den*g/\0<(zh5 w T).Den:=by
 have hg:=zrR (a:=max w (-w)) hT;have h1:zdC (max w (-w)) T∣T:=zxp (by omega);have h2:zdC (max w (-w)) T∣w:=by
  have h:=zxo (a:=max w (-w)) (b:=T) (by omega)
  by_cases c:0<=w
  have e:max w (-w)=w:=by omega
  rw [e] at h⊢;exact h;have e:max w (-w)= -w:=by omega
  rw [e] at h⊢;exact (Int.dvd_neg).1 h
 have e2:T=(zh5 w T).Den*zdC (max w (-w)) T:=(Int.tdiv_mul_cancel h1).symm;refine ⟨_,hg,(Int.tdiv_mul_cancel h2).symm,e2,?_⟩
 refine Decidable.not_not.1 fun hn=> ?_
 have:(zh5 w T).Den*zdC (max w (-w)) T<=0:=Int.mul_nonpos_of_nonpos_of_nonneg (by omega) (by omega)
 omega
end
section

end
section
theorem zpx {n:Int}:(if-n>n then-n else n)=max n (-n):=by split<;>omega
end
section

end
section

end
section

end
section

end
section

end
section

end
section

end
section

end
section

end
section
section
variable {α:Type} (rB:Str->Bool) (rP:Str->α) (F:List α->Int) (W:α->List Str) (enc:α->HVal) (sz:Nat)
end
end
section

end
section

end
section
theorem zoE {m:List MendS} {week:Int} (h:zbu m=0):zbu (zgm m week)=0:=by
 obtain ⟨h1,h2,h3⟩:=zsL h;have hl:=zkr m week;unfold zbu;rw [if_neg (by omega)];exact zqD zhv (fun x hx=>h2 x (List.mem_filter.1 hx).1) (h3.filter _) _ 0 rfl
theorem zp0 {l:List Play} {t:List Str} {m:List MendS} {week n:Int} (hok: ∀x∈l,playFault x=0) (hl:l.length<=15) (hm:m.length<=24) (hw:zaQ week=true) (hm0:zbu m=0):zaz (knL l t m week n)=0/\(knL l t m week n).length<=40/\∀y∈knL l t m week n,y.Stats.length<=40:=by
 unfold knL
 split
 exact ⟨rfl,by simp,fun y hy=>by cases hy⟩
 rename_i h0
 have h0':zh3 l t week n=0:=by simpa using h0
 have h40:=zp1 (t:=t) (week:=week) (n:=n) hok hl hm;have h1:=zqV (zd1 l t week n) m n;have h2:=(zkp (t:=t) (week:=week) (n:=n) hok hl).1;refine ⟨zyQ (zlA hok hl hw h0') hm0 h40 (by omega),by unfold mdL;rw [za9,Ah];omega,fun y hy=> ?_⟩
 unfold mdL at hy;rw [zeu] at hy;obtain ⟨q,hq,rfl⟩:=List.mem_map.1 hy;have:=h40 q hq
 show (zao zbc q.2).length<=40
 rw [za9];omega
end
section
open Go
structure WhS where
 team:Str
 hurt:Bool
 dropped:Int
structure OffS where
 W:List (Str×WhS)
 A:List (Str×List Int)
def wh0:WhS:=⟨[],false,-1⟩
def ofO (o:OffS) (p:Str):WhS:=(alk p o.W).getD wh0
def zA9 (o:OffS) (t:Str):List Int:=(alk t o.A).getD []
end
section
open Go
structure OffW (n:Nat) (o:OffS):Prop where
 dr: ∀p,-1<=(ofO o p).dropped/\(ofO o p).dropped<=345686399999
 al: ∀t,(zA9 o t).length<=n
 ab: ∀t,∀m∈zA9 o t,0<=m/\m<=345686399999
 wl:o.W.length<=n
 nd:ANodup o.W
 ad:ANodup o.A
theorem OffW.mono {n m:Nat} {o:OffS} (h:OffW n o) (hm:n<=m):OffW m o:=⟨h.dr,fun t=>Aq (h.al t) hm,h.ab,Aq h.wl hm,h.nd,h.ad⟩
section
variable {e:Env} {β:Type} {eb:β->HVal}
end
end
section
open Go
end
section
open Go
end
section
open Go
end
section
open Go
section
variable {b:BookS} {own:List Str} {s:Str} {x:SlotS} {w:Int} {p:PlayerS}
variable {c:ChoiceS} {i:Nat} {v:Str}
end
end
section
open Go Op
structure ScorerS where
 Player:Str
 Positions:List Str
 Num:Int
 Den:Int
 Played:Bool
structure FillS where
 Slot:Str
 Player:Str
abbrev zbs (x:ScorerS):HVal:= .agg [.str x.Player,eSs x.Positions,.int .i64 x.Num,.int .i64 x.Den,.bool x.Played]
abbrev zaS (l:List ScorerS):HVal:= .slice 5 (l.map zbs)
abbrev za4 (x:FillS):HVal:= .agg [.str x.Slot,.str x.Player]
abbrev zgV (l:List FillS):HVal:= .slice 2 (l.map za4)
def zT:ScorerS:=⟨[],[],0,0,false⟩
def zeC (n d:Int):Int:=n*(100:Int).tdiv d
abbrev ofH (n:Int):FracS:=zh5 n 100
theorem zrY (n:Int): ∃g,1<=g/\n=(ofH n).Num*g/\100=(ofH n).Den*g/\1<=(ofH n).Den/\(100:Int).tdiv (ofH n).Den=g:=by
 obtain ⟨g,hg,e1,e2,h0⟩:=zAg (w:=n) (T:=100) (by decide);refine ⟨g,hg,e1,e2,h0,?_⟩
 conv=>lhs;rw [e2]
 exact Int.mul_tdiv_cancel_left g (by omega)
theorem zB9 {a g B:Int} (hg:1<=g) (h: -B<=a*g/\a*g<=B): -B<=a/\a<=B:=by
 by_cases c:0<=a
 have:=A4 hg c
 omega
 have:=A4 hg (show 0<= -a by omega);rw [Bk,Bk] at this
 omega
theorem zoD {n B:Int} (h: -B<=n/\n<=B):(1<=(ofH n).Den/\(ofH n).Den<=100)/\ -B<=(ofH n).Num/\(ofH n).Num<=B:=by
 obtain ⟨g,hg,e1,e2,h0,_⟩:=zrY n;have h2:=zB9 (a:=(ofH n).Num) hg (B:=B) (by rw [<-e1];exact h);have h3:=A4 hg (show 0<=(ofH n).Den by omega);exact ⟨⟨h0,by omega⟩,h2⟩
theorem zoV {n d m:Int} (h:zbB n d m=0) (hm:0<=m):(1<=d/\d<=100)/\(0<=(100:Int).tdiv d/\(100:Int).tdiv d<=100)/\ -(m*100)<=zeC n d/\zeC n d<=m*100:=by
 unfold zbB at h
 split at h
 cases h
 rename_i h1
 rw [not_or] at h1
 split at h
 cases h
 rename_i h2
 rw [not_or] at h2;have hd:1<=d:=by omega
 have h3:(100:Int).tmod d=0:=Decidable.not_not.1 h2.1;have h4:out n (-m*d) (m*d)=false:=by simpa using h2.2
 have h5: -m*d<=n/\n<=m*d:=by
  have e0: -m*d= -(m*d):=Bk _ _;rw [e0] at h4⊢;unfold out at h4;simp at h4;omega
 have e:=Int.tdiv_mul_cancel_of_tmod_eq_zero h3;have hq:0<=(100:Int).tdiv d:=Cf (by decide) (by omega);have hq1:1<=(100:Int).tdiv d:=by
  refine Decidable.not_not.1 fun hn=> ?_
  have:(100:Int).tdiv d=0:=by omega
  rw [this] at e;simp at e
 have hq2:=A4 hd hq;have hd2:=Be hq1 (show 0<=d by omega);have h6:=Be h5.1 hq;have h7:=Be h5.2 hq;have e2:m*d*(100:Int).tdiv d=m*100:=by rw [Int.mul_assoc,Cy d,e]
 have e3: -m*d*(100:Int).tdiv d= -(m*100):=by rw [Bk,Bk,e2]
 rw [e2] at h7;rw [e3] at h6;refine ⟨⟨hd,by omega⟩,⟨hq,by omega⟩,?_⟩
 unfold zeC;exact ⟨h6,h7⟩
/-! what rules give-/
def zds (s:Str) (n:Int):List StatS->Int
 |[]=>n
 |y::r=>zds s (if y.Name=s then y.Count else n) r
def zhl (r:RuleS) (pos:List Str) (x:LineS):Int:=
 if r.Position≠[]/\zi8 [r.Position] pos=false then 0
 else if r.Kind=1 then zeC r.Num r.Den*zds r.Stat 0 x.Stats
 else if r.Kind=2 then zeC r.Num r.Den*(max (zds r.Stat 0 x.Stats) 0).tdiv r.Many
 else if (r.Kind=3/\r.Many<=zds r.Stat 0 x.Stats)\/(r.Kind=4/\zds r.Stat 0 x.Stats=0) then zeC r.Num r.Den else 0
def zhn (R:List RuleS) (pos:List Str) (x:LineS):Int:=(R.map fun r=>zhl r pos x).sum
structure RuleOk (r:RuleS):Prop where
 kd:1<=r.Kind/\r.Kind<=4
 mm:r.Kind=2->1<=r.Many/\r.Many<=100000
 dn:1<=r.Den/\r.Den<=100
 q:0<=(100:Int).tdiv r.Den/\(100:Int).tdiv r.Den<=100
 w: -1000000<=zeC r.Num r.Den/\zeC r.Num r.Den<=1000000
theorem zze {R:List RuleS} (h:zgM R=0):R.length<=100/\∀r∈R,RuleOk r:=by
 obtain ⟨h1,h2⟩:=zfD h;refine ⟨h1,fun r hr=> ?_⟩
 obtain ⟨i,hi,rfl⟩:=AT hr;have h3:=h2 i _ (Aa hi);unfold zd7 at h3
 split at h3
 cases h3
 split at h3
 cases h3
 split at h3
 cases h3
 rename_i h4
 split at h3
 cases h3
 rename_i h5
 rw [not_or] at h5;have h6:=zoV h3 (by decide);have h7:1<=R[i].Kind/\R[i].Kind<=4:=by unfold out at h4;simp at h4;omega
 refine ⟨h7,fun e=> ?_,h6.1,h6.2.1,h6.2.2⟩
 have h8:zqU R[i].Kind=true:=by rw [e];rfl
 have h9:out R[i].Many 1 100000=false:=by
  cases hq:out R[i].Many 1 100000 with
  |false=>rfl
  |true=>exact absurd ⟨h8,hq⟩ h5.1
 unfold out at h9;simp at h9;omega
theorem zv3 (s:Str): ∀(l:List StatS) (n:Int),(∀y∈l,-100000<=y.Count/\y.Count<=100000)->(-100000<=n/\n<=100000)-> -100000<=zds s n l/\zds s n l<=100000
 |[],n,_,h=>h
 |y::r,n,hl,h=>by
   refine zv3 s r _ (fun z hz=>hl z (Am _ hz)) ?_
   split
   exact hl y Aj;exact h
theorem zyn {s:Str} {l:List StatS} {k:Nat} {n:Int} {y:StatS} (h:l[k]? =some y):zds s n (l.drop k)=zds s (if y.Name=s then y.Count else n) (l.drop (k+1)):=by
 rw [zk h];rfl
theorem zwl {a b A B:Int} (ha: -A<=a/\a<=A) (hb: -B<=b/\b<=B) (hA:0<=A) (hB:0<=B): -(A*B)<=a*b/\a*b<=A*B:=by
 have key: ∀x y:Int,0<=x->x<=A->0<=y->y<=B->0<=x*y/\x*y<=A*B:=fun x y h1 h2 h3 h4=>⟨Int.mul_nonneg h1 h3,Int.mul_le_mul h2 h4 h3 hA⟩
 by_cases c:0<=a<;>by_cases d:0<=b
 have:=key a b c ha.2 d hb.2;omega;have:=key a (-b) c ha.2 (by omega) (by omega);rw [Int.mul_neg] at this;omega;have:=key (-a) b (by omega) (by omega) d hb.2;rw [Bk] at this;omega;have:=key (-a) (-b) (by omega) (by omega) (by omega) (by omega);rw [Int.neg_mul_neg] at this;omega
theorem zDm {a b:Int} (ha:0<=a) (hb:1<=b):0<=a.tdiv b/\a.tdiv b<=a:=by
 refine ⟨Cf ha (by omega),?_⟩
 have h:=Cf ha (show 0<=b by omega);have h1:=A4 hb h;have h2:=Int.mul_tdiv_add_tmod a b;have h3:=Cg b ha;rw [Cy b] at h2
 omega
def zkL (x:LineS):Prop:= ∀y∈x.Stats,-100000<=y.Count/\y.Count<=100000
theorem zst {r:RuleS} (hr:RuleOk r) {x:LineS} (hx:zkL x):(-100000<=zds r.Stat 0 x.Stats/\zds r.Stat 0 x.Stats<=100000)/\(-100000000000<=zeC r.Num r.Den*zds r.Stat 0 x.Stats/\zeC r.Num r.Den*zds r.Stat 0 x.Stats<=100000000000)/\
 (r.Kind=2->(0<=(max (zds r.Stat 0 x.Stats) 0).tdiv r.Many/\(max (zds r.Stat 0 x.Stats) 0).tdiv r.Many<=100000)/\ -100000000000<=zeC r.Num r.Den*(max (zds r.Stat 0 x.Stats) 0).tdiv r.Many/\zeC r.Num r.Den*(max (zds r.Stat 0 x.Stats) 0).tdiv r.Many<=100000000000):=by
 have h1:=zv3 r.Stat x.Stats 0 hx (by omega);have h2:=zwl hr.w h1 (by decide) (by decide);refine ⟨h1,by omega,fun e=> ?_⟩
 have h3:=zDm (a:=max (zds r.Stat 0 x.Stats) 0) (by omega) (hr.mm e).1;have h4:0<=(max (zds r.Stat 0 x.Stats) 0).tdiv r.Many/\(max (zds r.Stat 0 x.Stats) 0).tdiv r.Many<=100000:=by omega
 have h5:=zwl hr.w (b:=(max (zds r.Stat 0 x.Stats) 0).tdiv r.Many) (B:=100000) (by omega) (by decide) (by decide);exact ⟨h4,by omega⟩
theorem zDC {r:RuleS} (hr:RuleOk r) {x:LineS} (hx:zkL x) (pos:List Str): -100000000000<=zhl r pos x/\zhl r pos x<=100000000000:=by
 obtain ⟨h1,h2,h3⟩:=zst hr hx;have h4:=hr.w;unfold zhl
 split
 omega
 split
 exact h2
 split
 rename_i e;exact (h3 e).2
 split<;>omega
theorem zwF {l:List Int} {B:Int} (h: ∀x∈l,-B<=x/\x<=B) (hB:0<=B): -(B*l.length)<=l.sum/\l.sum<=B*l.length:=by
 induction l with
 |nil=>simp
 |cons x r ih=>
   have h1:=h x Aj;have h2:=ih fun y hy=>h y (Am _ hy)
   rw [List.sum_cons,Ai];have e:B*((r.length+1:Nat):Int)=B*r.length+B:=by rw [Int.natCast_add,Int.mul_add];simp
   rw [e];omega
theorem zvd {R:List RuleS} {pos:List Str} {x:LineS} {k:Nat} {r:RuleS} (h:R[k]? =some r):zhn (R.take (k+1)) pos x=zhn (R.take k) pos x+zhl r pos x:=by
 unfold zhn;rw [zaf h];simp
theorem zra {R:List RuleS} (hl:R.length<=100) (hR: ∀r∈R,RuleOk r) {x:LineS} (hx:zkL x) (pos:List Str) (k:Nat): -10000000000000<=zhn (R.take k) pos x/\zhn (R.take k) pos x<=10000000000000:=by
 have h:=zwF (l:=(R.take k).map fun r=>zhl r pos x) (B:=100000000000) (fun y hy=>by
  obtain ⟨r,hr,rfl⟩:=List.mem_map.1 hy;exact zDC (hR r (AL hr)) hx pos) (by decide)
 have h2:((R.take k).map fun r=>zhl r pos x).length<=100:=by rw [Ah,Az];omega
 unfold zhn
 omega
theorem zy2 {l:List Str} (h:zdm l=0):l.length<=10/\zdQ l=0:=by
 unfold zdm at h
 split at h
 cases h
 split at h
 cases h
 exact ⟨by omega,h⟩
/-! right lines-/
structure LineOk (x:LineS):Prop where
 ky:key x.Player=true
 wk:zaQ x.Week=true
 st:za7 x.Stats=0
theorem zwi {l:List LineS} (h:zaz l=0) {x:LineS} (hx:x∈l):LineOk x:=by
 obtain ⟨h1,h2,h3⟩:=zeX.1 ((zgD h).2.1 x hx);exact ⟨h1,h2,h3⟩
theorem LineOk.len {x:LineS} (h:LineOk x):x.Stats.length<=40:=by
 have:=h.st;unfold za7 at this;split at this
 cases this
 omega
theorem LineOk.go {x:LineS} (h:LineOk x):zaU zam zbc zd8 x.Stats 0 x.Stats=0:=by
 have:=h.st;unfold za7 at this;split at this
 cases this
 exact this
theorem LineOk.sb {x:LineS} (h:LineOk x):zkL x:=fun y hy=>(ze0.1 (zhE x.Stats 0 h.go y hy)).2.1
theorem zAd {a b:Str} (h:bytesLess a b=true):leB b a=false:=by
 unfold leB;rw [A9];refine ⟨?_,?_⟩
 cases e:bytesLess b a with
 |false=>rfl
 |true=>have:=zhG.2 h;have h2:=zhG.2 e;have h3:=ze5 a b;omega
 cases e:(b==a) with
 |false=>rfl
 |true=>
   have e2:b=a:=eq_of_beq e;rw [e2,zag] at h;cases h
theorem LineOk.at {x:LineS} (h:LineOk x) {k:Nat} {y:StatS} (hy:x.Stats[k]? =some y):key y.Name=true/\(-100000<=y.Count/\y.Count<=100000)/\(0<k->leB y.Name (x.Stats.getD (k-1) zd8).Name=false):=by
 have h1:=ze0.1 (zhE x.Stats 0 h.go y (Ab hy));refine ⟨h1.1,h1.2.1,fun hk=> ?_⟩
 have hlt:=zp hy;have h2:=(List.pairwise_iff_getElem.1 (zjz zdr h.go)) (k-1) k (by omega) hlt (by omega);rw [Aa hlt,AA] at hy;rw [hy] at h2;have e:x.Stats.getD (k-1) zd8=x.Stats[k-1]'(by omega):=by rw [Ae,Aa (by omega)];rfl
 rw [e];exact zAd (zhG.1 h2)
theorem zAk {n:Int}:(if 0>n then 0 else n)=max n 0:=by split<;>omega
end
section
open Go Op
def zbJ (k:Nat) (x p:ScorerS):Int:=if key x.Player=false then 5 else if 0<k/\leB x.Player p.Player=true then 7 else orI [zdm x.Positions,zbB x.Num x.Den 10000]
def zhq (l:List ScorerS):Int:=zd2 20 zbJ zT l
structure ScoOk (l:List ScorerS):Prop where
 len:l.length<=20
 so:SortedS (l.map (·.Player))
 ky: ∀x∈l,key x.Player=true
 dn: ∀x∈l,1<=x.Den/\x.Den<=100
 q: ∀x∈l,0<=(100:Int).tdiv x.Den/\(100:Int).tdiv x.Den<=100
 w: ∀x∈l,-1000000<=zeC x.Num x.Den/\zeC x.Num x.Den<=1000000
 po: ∀x∈l,x.Positions.length<=10
theorem zD6 {l:List ScorerS} (h:zhq l=0):SortedS (l.map (·.Player)):=by
 obtain ⟨_,h2⟩:=zfD h;have nx: ∀(j:Nat) (x y:Str),(l.map (·.Player))[j]? =some x->(l.map (·.Player))[j+1]? =some y->bytesLess x y=true:=by
  intro j x y hx hy
  rw [Ag] at hx hy;obtain ⟨a,ha,rfl⟩:=Option.map_eq_some_iff.1 hx;obtain ⟨b,hb,rfl⟩:=Option.map_eq_some_iff.1 hy;have:=h2 (j+1) b hb;have ed:l.getD (j+1-1) zT=a:=by rw [Nat.add_sub_cancel,Ae,ha];rfl
  rw [ed] at this;unfold zbJ at this
  split at this
  omega
  split at this
  omega
  rename_i h3
  have h4:leB b.Player a.Player=false:=by
   cases e:leB b.Player a.Player with
   |false=>rfl
   |true=>exact absurd ⟨by omega,e⟩ h3
  unfold leB at h4;rw [A9] at h4
  rcases zb6 a.Player b.Player with q|q|q
  exact q;rw [q] at h4;simp at h4;rw [q] at h4;cases h4.1
 exact zme nx
theorem zoO {l:List ScorerS} (h:zhq l=0):ScoOk l:=by
 obtain ⟨h1,h2⟩:=zfD h;have key1: ∀x∈l,key x.Player=true/\zdm x.Positions=0/\zbB x.Num x.Den 10000=0:=fun x hx=>by
  obtain ⟨i,hi,rfl⟩:=AT hx;have h3:=h2 i _ (Aa hi);unfold zbJ at h3
  split at h3
  cases h3
  rename_i h4
  split at h3
  cases h3
  have h5:=zg7 h3;exact ⟨by simpa using h4,h5 _ (by simp),h5 _ (by simp)⟩
 refine ⟨h1,zD6 h,fun x hx=>(key1 x hx).1,fun x hx=>(zoV (key1 x hx).2.2 (by decide)).1,fun x hx=>(zoV (key1 x hx).2.2 (by decide)).2.1,fun x hx=>(zoV (key1 x hx).2.2 (by decide)).2.2,fun x hx=> ?_⟩
 have h6:=(key1 x hx).2.1;unfold zdm at h6
 split at h6
 cases h6
 split at h6
 cases h6
 omega
theorem zyg {l:List ScorerS} {s:Str} {i:Nat}:(bif decide ((i:Int)<(l.length:Int)) then zY (l.getD i zT).Player s==0 else false)=((l.map (·.Player))[i]? ==some s):=by
 by_cases h:i<l.length
 have h':(i:Int)<(l.length:Int):=by omega
 rw [Ag,getD_some (d:=zT) h];simp only [h',decide_true,cond_true];rw [AF];simp [zbn];have h': ¬(i:Int)<(l.length:Int):=by omega
 rw [Ag,Ax (by omega:l.length<=i)]
 simp [h']
/-! the scorer of a name-/
abbrev scO (l:List ScorerS) (s:Str):Option ScorerS:=l.find? (fun y=>y.Player==s)
theorem zrh {l:List ScorerS} {s:Str} (hs:SortedS (l.map (·.Player))) {y:ScorerS} (h:scO l s=some y):
 (l.map (·.Player)).contains s=true/\l[zbU (l.map (·.Player)) s]? =some y:=by
 have hm:=Bg h;have he:y.Player=s:=by have:=List.find?_some h;simpa using this
 have hc:(l.map (·.Player)).contains s=true:=by
  simp only [B5,decide_eq_true_eq];exact List.mem_map.2 ⟨y,hm,he⟩
 refine ⟨hc,?_⟩
 obtain ⟨h1,h2⟩:=zr1 hs hc;have hl:zbU (l.map (·.Player)) s<l.length:=by simpa using zp h1
 have h3:l.find? (fun y=>y.Player==s)=some (l[zbU (l.map (·.Player)) s]):=by
  rw [BV];refine ⟨?_,_,hl,rfl,fun j hj=> ?_⟩
  rw [Ag,Aa hl] at h1
  simpa using h1
  have:=h2 j (l[j]'(by omega)).Player hj (by rw [Ag,Aa (by omega)];rfl)
  simpa using this
 rw [Aa hl];exact h3.symm.trans h
theorem zmb {l:List ScorerS} {s:Str} {y:ScorerS} (h:scO l s=some y):y∈l/\y.Player=s:=⟨Bg h,by have:=List.find?_some h;simpa using this⟩
/-! who is fielded-/
abbrev zgP (c:ChoiceS) (i:Nat):Str:=c.Players.getD i []
def okF (l:List ScorerS) (c:Option ChoiceS) (S:List SlotS) (seen:List Str) (i:Nat):Bool:=
 match c with
 |none=>false
 |some c=>match scO l (zgP c i) with
   |none=>false
   |some y=> !(seen.contains (zgP c i))&&zi8 y.Positions (S.getD i zbZ).Positions
def zne (c:Option ChoiceS) (i:Nat):Str:=match c with|none=>[]|some c=>zgP c i
def zb4 (l:List ScorerS) (c:Option ChoiceS) (S:List SlotS):Nat->List FillS×List Str
 |0=>([],[])
 |n+1=>if okF l c S (zb4 l c S n).2 n=true then ((zb4 l c S n).1++[⟨(S.getD n zbZ).Key,zne c n⟩],zb8 (zne c n) (zb4 l c S n).2) else ((zb4 l c S n).1++[⟨(S.getD n zbZ).Key,[]⟩],(zb4 l c S n).2)
abbrev zc4 (l:List ScorerS) (c:Option ChoiceS) (S:List SlotS) (n:Nat):List FillS:=(zb4 l c S n).1
theorem zrP {l:List ScorerS} {c:Option ChoiceS} {S:List SlotS} {n:Nat} (h:okF l c S (zb4 l c S n).2 n=true):zb4 l c S (n+1)=((zb4 l c S n).1++[⟨(S.getD n zbZ).Key,zne c n⟩],zb8 (zne c n) (zb4 l c S n).2):=by
 rw [zb4,if_pos h]
theorem zqJ {l:List ScorerS} {c:Option ChoiceS} {S:List SlotS} {n:Nat} (h:okF l c S (zb4 l c S n).2 n=false):zb4 l c S (n+1)=((zb4 l c S n).1++[⟨(S.getD n zbZ).Key,[]⟩],(zb4 l c S n).2):=by
 rw [zb4,if_neg (by rw [h];simp)]
theorem zfh (l:List ScorerS) (c:Option ChoiceS) (S:List SlotS): ∀n,(zc4 l c S n).length=n
 |0=>rfl
 |n+1=>by
   have ih:=zfh l c S n;unfold zc4 at ih⊢
   cases h:okF l c S (zb4 l c S n).2 n with
   |true=>rw [zrP h];simp [ih]
   |false=>rw [zqJ h];simp [ih]
theorem zAr {l:List ScorerS} {c:Option ChoiceS} {S:List SlotS} {seen:List Str} {i:Nat} (h:okF l c S seen i=true):
 ∃y,scO l (zne c i)=some y/\seen.contains (zne c i)=false/\zi8 y.Positions (S.getD i zbZ).Positions=true:=by
 unfold okF at h
 cases c with
 |none=>cases h
 |some c=>
   dsimp only at h
   cases hs:scO l (zgP c i) with
   |none=>rw [hs] at h;cases h
   |some y=>
     rw [hs] at h;simp only [A2,BY] at h;exact ⟨y,hs,h.1,h.2⟩
theorem zz5 (l:List ScorerS) (w:Str): ∃(z:Int) (i0:Nat),zW (fun x:ScorerS=>x.Player==w) l 0=z/\(0<=z->z=(i0:Int)/\l[i0]? =some (l.getD i0 zT)/\scO l w=some (l.getD i0 zT))/\(z<0->scO l w=none):=by
 by_cases h:0<=zW (fun x:ScorerS=>x.Player==w) l 0
 obtain ⟨i,x,e1,e2,e3⟩:=zsy h;have e4:l.getD i zT=x:=by rw [Ae,e2];rfl
 exact ⟨_,i,rfl,fun _=>⟨e1,by rw [e4];exact e2,by rw [e4];exact e3⟩,fun q=>by omega⟩;exact ⟨_,0,rfl,fun q=>absurd q h,fun _=>zot (by omega)⟩
theorem zwo {l:List ScorerS} {c:ChoiceS} {S:List SlotS} {seen:List Str} {i:Nat} {z:Int} {i0:Nat} (h2:0<=z->z=(i0:Int)/\l[i0]? =some (l.getD i0 zT)/\scO l (zgP c i)=some (l.getD i0 zT)) (h3:z<0->scO l (zgP c i)=none):
 okF l (some c) S seen i=(decide (0<=z)&&(!(seen.contains (zgP c i))&&zi8 (l.getD i0 zT).Positions (S.getD i zbZ).Positions)):=by
 unfold okF
 by_cases h:0<=z
 dsimp only
 rw [(h2 h).2.2,decide_eq_true h];rfl
 dsimp only
 rw [h3 (by omega),decide_eq_false h];rfl
structure FillOk (l:List ScorerS) (S:List SlotS) (n:Nat) (f:List FillS):Prop where
 len:f.length=n
 key: ∀(k:Nat) (x:FillS),f[k]? =some x->x.Slot=(S.getD k zbZ).Key
 who: ∀(k:Nat) (x:FillS),f[k]? =some x->x.Player≠[]->(f.take k).any (fun y=>y.Player==x.Player)=false/\∃y,scO l x.Player=some y/\zi8 y.Positions (S.getD k zbZ).Positions=true
theorem zCn {l:List ScorerS} (c:Option ChoiceS) (S:List SlotS): ∀n,(∀s,s∈(zb4 l c S n).2↔s≠[]/\∃x∈zc4 l c S n,x.Player=s)/\FillOk l S n (zc4 l c S n)\/∃y∈l,y.Player=[]:=by
 by_cases hne: ∃y∈l,y.Player=[]
 exact fun _=> .inr hne
 intro n
 left
 have hn: ∀y∈l,y.Player≠[]:=fun y hy e=>hne ⟨y,hy,e⟩
 induction n with
 |zero=>exact ⟨fun s=>by simp [zb4,zc4],⟨rfl,fun k x h=>by simp [zc4,zb4] at h,fun k x h=>by simp [zc4,zb4] at h⟩⟩
 |succ n ih=>
   obtain ⟨hs,hf⟩:=ih;have hlen:=hf.len
   cases h:okF l c S (zb4 l c S n).2 n with
   |true=>
     obtain ⟨y,hy1,hy2,hy3⟩:=zAr h;have hw:zne c n≠[]:=fun e=>hn y (zmb hy1).1 ((zmb hy1).2.trans e)
     have hno:(zc4 l c S n).any (fun z=>z.Player==zne c n)=false:=by
      rw [BJ]
      intro z hz e
      have:zne c n∈(zb4 l c S n).2:=(hs _).2 ⟨hw,z,hz,by simpa using e⟩;rw [B5,decide_eq_false_iff_not] at hy2;exact hy2 this
     unfold zc4 at hno hlen⊢;rw [zrP h];refine ⟨fun s=> ?_,?_,?_,?_⟩
     dsimp only
     rw [zAW,hs s]
     constructor
     rintro (rfl|⟨a,x,hx,e⟩);exact ⟨hw,_,A7 _ (List.mem_singleton.2 rfl),rfl⟩;exact ⟨a,x,An _ hx,e⟩;rintro ⟨a,x,hx,e⟩
     rcases List.mem_append.1 hx with hx|hx
     exact .inr ⟨a,x,hx,e⟩;rw [List.mem_singleton.1 hx] at e;exact .inl e.symm;rw [Av,hlen];rfl
     intro k x hx
     by_cases hk:k<n
     rw [Ao (by omega)] at hx;exact hf.key k x hx;have:k=n:=by have:=zp hx;rw [Av,hlen] at this;simp at this;omega
     subst this;rw [Al (by omega),hlen,BS] at hx
     cases hx;rfl
     intro k x hx hp
     by_cases hk:k<n
     rw [Ao (by omega)] at hx;rw [A5 (by omega)];exact hf.who k x hx hp;have:k=n:=by have:=zp hx;rw [Av,hlen] at this;simp at this;omega
     subst this;rw [Al (by omega),hlen,BS] at hx
     cases hx
     rw [A5 (by omega),A3 (by omega)];exact ⟨hno,y,hy1,hy3⟩
   |false=>
     unfold zc4 at hlen⊢;rw [zqJ h];refine ⟨fun s=> ?_,?_,?_,?_⟩
     dsimp only
     rw [hs s]
     constructor
     rintro ⟨a,x,hx,e⟩;exact ⟨a,x,An _ hx,e⟩;rintro ⟨a,x,hx,e⟩
     rcases List.mem_append.1 hx with hx|hx
     exact ⟨a,x,hx,e⟩;rw [List.mem_singleton.1 hx] at e;exact absurd e.symm a;rw [Av,hlen];rfl
     intro k x hx
     by_cases hk:k<n
     rw [Ao (by omega)] at hx;exact hf.key k x hx;have:k=n:=by have:=zp hx;rw [Av,hlen] at this;simp at this;omega
     subst this;rw [Al (by omega),hlen,BS] at hx
     cases hx;rfl
     intro k x hx hp
     by_cases hk:k<n
     rw [Ao (by omega)] at hx;rw [A5 (by omega)];exact hf.who k x hx hp;have:k=n:=by have:=zp hx;rw [Av,hlen] at this;simp at this;omega
     subst this;rw [Al (by omega),hlen,BS] at hx
     cases hx
     exact absurd rfl hp
theorem zuB {l:List ScorerS} (h:ScoOk l) (c:Option ChoiceS) (S:List SlotS) (n:Nat):FillOk l S n (zc4 l c S n):=by
 rcases zCn (l:=l) c S n with q|⟨y,hy,e⟩
 exact q.2;exact absurd e (zuK (h.ky y hy))
/-! captains and sums-/
def zmI (c:Option ChoiceS) (f:List FillS):Str:=
 match c with
 |none=>[]
 |some c=>if c.Captain≠[]/\f.any (fun x=>x.Player==c.Captain)=true then c.Captain else []
theorem zDr {c:Option ChoiceS} {f:List FillS} (h:zmI c f≠[]):f.any (fun x=>x.Player==zmI c f)=true:=by
 unfold zmI at h⊢
 cases c with
 |none=>exact absurd rfl h
 |some c=>
   dsimp only at h⊢
   split
   rename_i q;exact q.2
   rename_i q;rw [if_neg q] at h;exact absurd rfl h
def zmS (l:List ScorerS) (s:Str):Int:=((scO l s).map fun y=>zeC y.Num y.Den).getD 0
def zlJ (l:List ScorerS) (c:Str) (x:FillS):Int:=if x.Player=[] then 0 else if x.Player=c then zmS l x.Player*2 else zmS l x.Player
def sfL (l:List ScorerS) (f:List FillS) (c:Str):Int:=(f.map (zlJ l c)).sum
theorem zsa {l:List ScorerS} {f:List FillS} {c:Str} {k:Nat} {x:FillS} (h:f[k]? =some x):sfL l (f.take (k+1)) c=sfL l (f.take k) c+zlJ l c x:=by
 unfold sfL;rw [zaf h];simp
theorem zCr {l:List ScorerS} (h:ScoOk l) (s:Str): -1000000<=zmS l s/\zmS l s<=1000000:=by
 unfold zmS
 cases e:scO l s with
 |none=>simp
 |some y=>exact h.w y (zmb e).1
theorem zDi {l:List ScorerS} (h:ScoOk l) (c:Str) (x:FillS): -2000000<=zlJ l c x/\zlJ l c x<=2000000:=by
 have:=zCr h x.Player;unfold zlJ
 split
 omega
 split<;>omega
theorem zk1 {l:List ScorerS} (h:ScoOk l) {f:List FillS} (hf:f.length<=12) (c:Str) (k:Nat): -24000000<=sfL l (f.take k) c/\sfL l (f.take k) c<=24000000:=by
 have h1:=zwF (l:=(f.take k).map (zlJ l c)) (B:=2000000) (fun y hy=>by
  obtain ⟨x,_,rfl⟩:=List.mem_map.1 hy;exact zDi h c x) (by decide)
 have h2:((f.take k).map (zlJ l c)).length<=12:=by rw [Ah,Az];omega
 unfold sfL
 omega
end
section
section
variable {P:Program} {e:Env} {dst:Option Tmp} {ty:TypeId} {pos:String} {af:Array Edge} {g:Option (Nat×Bool)}
theorem zws [Tracks] {x y:Operand} {t t' el:TypeId} {size bytes:Nat} {zero:Value} {o:Option (List HVal)} (hf:Fits P t (.ptr el) size bytes zero) (hx:zh e x=some (zoF o)) (hy:zh e y=some (.raw (.pointer none))):
 POp P e ⟨dst,.binOp .neq t x y t',ty,pos,af,g⟩ (.bool (!o.isNone)):=
 zF fun I a w ho=>by
  have hv:=ho.one (x:=x) (by simp [Op.operands]) hx;have h2:=(ho.one (x:=y) (by simp [Op.operands]) hy).raw_inv
  cases o with
  |none=>
    have h1:=hv.raw_inv;refine ⟨_,?_,.bool _⟩
    simp [execOp,h1,h2,eqGuard,binOp,zfl hf.ptrD]
  |some cs=>
    obtain ⟨b,base,rc,el',fr,h1,h3,h4,h5⟩:=hv.vptr_inv;refine ⟨_,?_,.bool _⟩
    simp [execOp,h1,h2,eqGuard,binOp,zfl hf.ptrD]
end
theorem zxc (o:Option (List HVal)):zd (zoF o)=[zoF o]:=by cases o<;>rfl
theorem zyz (o:Option (List HVal)):zaq (zd (zoF o))=true:=by cases o<;>rfl
theorem zCS (o:Option (List HVal)):zd3 1 (zoF o)=true:=by cases o<;>rfl
end
end Go.HL
namespace Go.Proofs.YtpgopgjleokciaaGreatDoor
set_option maxRecDepth 100000
set_option linter.unusedVariables false
set_option linter.unusedSimpArgs false
section
open Go.Proofs.Tryz
open Go.HL
theorem zqn [Tracks] {n d:Int} (hn: -1000000000000000<=n/\n<=1000000000000000) (hd:1<=d/\d<=1000000000000):ConP prog 166 [.agg [.int .i64 n,.int .i64 d]] (.bool (zmX n d)):=by
 refine uOb func166 ntmps166 ?_;refine gz4 ?_;refine uDr mixed ?_;refine gz2 ?_;refine uB 2 rfl (zS (zcd ty3 zpe rfl) (congrArg (HVal.int .u64) (ztY uO uO))) ?_;refine gz2 ?_;refine uB 5 rfl (zS (zcd ty3 zpe rfl) (congrArg (HVal.int .u64) (show IntKind.wrap .u64 d=((d.natAbs:Nat):Int) by rw [ztY uO uO,if_neg uO];omega))) ?_;refine gz3 ?_;refine uVj [3,1,11,5] (fun (z0:Unit)=>[(3,.int .u64 ((n.natAbs:Nat):Int))]) (fun (z0:Unit)=>[]) (fun (z0:Unit)=>True) ?_ ?_
 skip
 refine gz5 ?_;refine uCo (fun h1=> ?_) fun h2=> ?_
 refine gz2 ?_;refine dq (zS (zu9 rfl) (congrArg (HVal.int .u64) (show IntKind.wrap .u64 (-(if n<0 then n+18446744073709551616 else n))=((n.natAbs:Nat):Int) by rw [if_pos (by assumption),zzq uO uO];omega))) ?_;refine gz2 ?_;exact ⟨(),trivial,⟨rfl,trivial⟩,uK,Ac _⟩;refine gz1 ?_;exact ⟨(),trivial,⟨congrArg (fun q=>some (HVal.int .u64 q)) (show (if n<0 then n+18446744073709551616 else n)=((n.natAbs:Nat):Int) by rw [if_neg uO];omega),trivial⟩,uK,Ac _⟩
 intro z0 _
 refine gz2 ?_;refine uT2 [3,2,16,6] (fun a b=>[(3,.int .u64 ((a:Nat):Int)),(4,.int .u64 ((b:Nat):Int))]) (fun a b=>[]) (fun a b=>Nat.gcd a b=Nat.gcd n.natAbs d.natAbs) (fun a b=>b) (n.natAbs) (d.natAbs) ?_ ?_
 rfl
 intro a b hg
 refine gz5 ?_;refine uCo (fun h3=> ?_) fun h4=> ?_
 have hb0:0<b:=by omega
 refine gz3 ?_;refine zhu mixed ?_;refine gz3 ?_;refine uB 3 rfl (zS (zcx rfl rfl uO) (congrArg (HVal.int .u64) (zp9 a b))) ?_;refine gz4 ?_;refine ⟨b,a%b,?_,?_,⟨rfl,rfl,trivial⟩,uK,Ac _⟩
 exact zom.trans hg
 dsimp only;exact BW _ hb0
 obtain rfl:b=0:=by omega
 rw [Nat.gcd_zero_right] at hg;refine gz2 ?_;refine zN ?_;refine gz8 ?_;refine zw rfl ?_
 show HVal.bool _=_
 unfold zmX;rw [<-hg]
 congr 1
 rw [AF]
 simp
 try omega
theorem zqk [Tracks] {n d most:Int} (hn: -1000000000000000<=n/\n<=1000000000000000) (hd: -1000000000<=d/\d<=1000000000) (hm:0<=most/\most<=1000000):ConP prog 79 [.agg [.int .i64 n,.int .i64 d],.int .i64 most] (.int .i64 (zbB n d most)):=by
 refine uOb func79 ntmps79 ?_;refine zdl ?_;refine dg rfl rfl (fun hc=>by
  have hd1:1<=d:=by (have q:=hc;simp at q;omega)
  exact ⟨_,OpenTo.upd (t:=10) rfl uC (OpenTo.refl _),uCl zBl rfl (zqn (n:=n) (d:=d) uO uO)⟩) ?_
 refine gz4 ?_;refine uCo (fun h1=> ?_) fun h2=> ?_
 refine gz4 ?_;refine uRp ?_;unfold zbB
 focus first
 |(rw [if_pos uSa];done)
 |(rw [if_neg uSa,if_pos uSa];done)
 |(rw [if_neg uSa,if_neg uSa];done)
 have hd1:1<=d:=by (first|omega|(simp_all;omega))
 have hmd:=zqZ (a:=most) (b:=d) (A:=1000000) (B:=1000000000) uO uO uO uO;have hmn: -most*d= -(most*d):=Bk _ _;refine gz3 ?_;refine dq (zcx rfl rfl uO) ?_;refine gz5 ?_;refine uGr rfl (fun hc=>by have hq:=hc;(try simp at hq);exact zhJ rfl uO uO) ?_;refine gz2 ?_;refine uGr rfl (fun hc=>by have hq:=hc;(try simp at hq);exact zby rfl rfl uO uO) ?_;refine gz3 ?_;refine uGr rfl (fun hc=>by have hq:=hc;(try simp at hq);exact zby rfl rfl uO uO) ?_;refine uGr rfl (fun hc=>uCl zbH rfl zal) ?_;refine gz3 ?_;refine uCo (fun h3=> ?_) fun h4=> ?_
 refine gz4 ?_;refine uRp ?_;unfold zbB
 focus first
 |(rw [if_pos uSa];done)
 |(rw [if_neg uSa,if_pos uSa];done)
 |(rw [if_neg uSa,if_neg uSa];done)
 refine gz7 ?_;refine uRp ?_;unfold zbB
 focus first
 |(rw [if_pos uSa];done)
 |(rw [if_neg uSa,if_pos uSa];done)
 |(rw [if_neg uSa,if_neg uSa];done)
theorem zwT [Tracks] {x y:Int} (hx:0<=x) (hy:0<=y):ConP prog 167 [.int .i64 x,.int .i64 y] (.int .i64 (zdC x y)):=by
 refine uOb func167 ntmps167 ?_;refine gz5 ?_;refine uU2 [0,2,5,6] (fun (a:Int) (b:Int)=>[(0,.int .i64 a),(1,.int .i64 b)]) (fun (a:Int) (b:Int)=>[]) (fun (a:Int) (b:Int)=>0<=a/\0<=b/\zdC a b=zdC x y) (fun (a:Int) (b:Int)=>b.toNat) (x) (y) ?_ ?_;exact ⟨hx,hy,rfl⟩;rintro a b ⟨ha,hb,hg⟩;refine gz5 ?_;refine uCo (fun h1=> ?_) fun h2=> ?_
 have hbn:b≠0:=by simpa using h1
 have hb0:0<b:=by omega
 have hm0:=Cg b ha;have hm1:=BC a hb0;refine gz3 ?_;refine zhu mixed ?_;refine gz3 ?_;refine uB 3 rfl (zcx rfl rfl uO) ?_;refine gz4 ?_;refine ⟨b,a.tmod b,?_,?_,⟨rfl,rfl,trivial⟩,uK,Ac _⟩
 exact ⟨hb,hm0,by rw [zuF ha hb0];exact hg⟩
 dsimp only;omega
 have hb0:b=0:=by simpa using h2
 subst hb0;rw [zuE ha] at hg;refine gz2 ?_;refine zN ?_;refine gz7 ?_;refine uRp ?_;rw [<-hg]
theorem zqm [Tracks] {n d:Int} (hn: -9000000000000000000<=n/\n<=9000000000000000000) (hd:0<d/\d<=9000000000000000000):ConP prog 83 [.int .i64 n,.int .i64 d] (zdB (zh5 n d)):=by
 refine zaC func83 rfl ntmps83 rfl rfl ?_;refine gz1 ?_;refine de rfl (zj zU rfl fun b4=> ?_)
 refine gz4 ?_;refine dq (zhJ rfl uO uO) ?_;refine dq (zS (h':= .int .i64 (max n (-n))) (zl5 rfl rfl) (congrArg (HVal.int .i64) zpx)) ?_;refine gz1 ?_;refine dq (uCl zEY rfl (zwT (x:=max n (-n)) (y:=d) uO uO)) ?_;refine gz2 ?_;have hgp:=zrR (a:=max n (-n)) hd.1;refine uDr mixed ?_;refine gz2 ?_;refine uB 2 rfl (zcW rfl rfl uO uO uO) ?_;refine gz2 ?_;refine uB 5 rfl (zcW rfl rfl uO uO uO) ?_;refine uB 6 rfl (zB (cs:=[_,_]) zU zid rfl) ?_;refine uF 7 ?_;refine zz (zn zU rfl rfl rfl rfl rfl ?_)
 refine ⟨uE,?_⟩
 refine gz2 ?_;refine ⟨_,_,zm 4 rfl,[_],_,⟨⟨_,_,_,_,_,rfl,zU,.inr ⟨rfl,rfl,rfl⟩⟩,trivial⟩,Weak.refl _,?_,rfl⟩
 rfl
theorem zgH [Tracks] {n d:Int} (hd:1<=d/\d<=100) (hw: -1000000000000<=zeC n d/\zeC n d<=1000000000000):ConP prog 84 [.agg [.int .i64 n,.int .i64 d]] (.int .i64 (zeC n d)):=by
 unfold zeC at hw;refine uOb func84 ntmps84 ?_;refine gz4 ?_;refine uDr mixed ?_;refine gz4 ?_;refine uB 4 rfl (zcW rfl rfl uO uO uO) ?_;refine uB 5 rfl (zby rfl rfl uO uO) ?_;refine gz3 ?_;refine zw rfl ?_
 rfl
theorem zd5 [Tracks] {n:Int} (hn: -1000000000000000<=n/\n<=1000000000000000):ConP prog 30 [.int .i64 n] (zdB (ofH n)):=by
 refine zaC func30 rfl ntmps30 rfl rfl ?_;refine gz1 ?_;refine de rfl (zj zU rfl fun b2=> ?_)
 refine gz3 ?_;refine dq (uCl ca83 rfl (zqm (n:=n) (d:=100) uO uO)) ?_
 focus first
 |refine de0 (uY 0 ?_)
 |refine de0 (uY 1 ?_)
 |refine de0 (uY 2 ?_)
 |refine de0 (uY 3 ?_)
 refine gz2 ?_;exact ⟨_,_,zm 2 rfl,[_],_,⟨⟨_,_,_,_,_,rfl,zU,.inr ⟨rfl,rfl,rfl⟩⟩,trivial⟩,Weak.refl _,rfl,rfl⟩
theorem zpq [Tracks] {x:LineS} (hx:LineOk x):ConP prog 224 [zbQ x] (.int .i64 0):=by
 have hln:=hx.len;have hky:=hx.ky;have hwk:=hx.wk;refine uOb func224 ntmps224 ?_;refine gz9 ?_;refine dq (uCl zcD rfl zak) ?_;refine gz3 ?_;refine zZ rfl (fun h1=> ?_) (fun h1=> ?_)
 exfalso
 try simp at h1
 simp_all
 try simp at h1
 refine gz3 ?_;refine dq (uCl zlq rfl zcG) ?_;refine gz3 ?_;refine zZ rfl (fun h2=> ?_) (fun h2=> ?_)
 exfalso
 try simp at h2
 simp_all
 try simp at h2
 refine gz7 ?_;refine zZ rfl (fun h3=> ?_) (fun h3=> ?_)
 exfalso
 try simp at h3
 omega
 try simp at h3
 refine zct ?_;refine uT1 [2,3,23,30] (fun k=>[(23,.int .i64 k)]) (fun k=>[]) (fun k=>k<=x.Stats.length/\(True)) (fun k=>x.Stats.length-k) (0) ?_ ?_;exact ⟨Ad _,trivial⟩;rintro k ⟨hk,-⟩;refine gz4 ?_;refine uCo (fun h4=> ?_) fun h5=> ?_
 obtain ⟨y,hy⟩: ∃y,x.Stats[k]? =some y:=⟨_,Aa h4⟩
 have hdy:=zk hy;have hat:=hx.at hy;refine gz8 ?_;refine de rfl (zj zci rfl fun b4=> ?_)
 refine gz1 ?_;refine de0 (zn zci rfl rfl rfl rfl rfl ?_)
 refine gz1 ?_;refine ze (zm 4 rfl) ?_;refine gz4 ?_;refine dq (uCl zcD rfl zak) ?_;refine gz3 ?_;refine zZ rfl (fun h6=> ?_) (fun h6=> ?_)
 exfalso
 try simp at h6
 have q:=hat.1;simp_all
 try simp at h6
 refine gz3 ?_;refine dq (uCl zbH rfl zal) ?_;refine gz2 ?_;refine zZ rfl (fun h7=> ?_) (fun h7=> ?_)
 exfalso
 try simp at h7
 have q:=hat.2.1;simp [out] at h7;omega
 try simp at h7
 refine uDr mixed ?_;refine gz9 ?_;refine uGy 9 rfl rfl (fun hc=>by have hq:=hc;(try simp at hq);exact zA (f:=zbf) (l:=x.Stats) (j:=k-1) (a:=x.Stats.getD (k-1) zd8) zc9 zci rfl rfl uO (getD_some uO)) ?_;refine gz6 ?_;refine zZ rfl (fun h8=> ?_) (fun h8=> ?_)
 exfalso
 try simp at h8
 obtain ⟨q1,q2⟩:=h8;have q3:=hat.2.2 uO
 simp_all
 try simp at h8
 refine gz8 ?_;refine ⟨k+1,?_,?_,⟨rfl,trivial⟩,uK,Ac _⟩
 exact ⟨by omega,trivial⟩
 dsimp only;omega
 have hnk:x.Stats.length<=k:=by omega
 obtain rfl:k=x.Stats.length:=by omega
 refine gz2 ?_;refine zv ?_;refine gz6 ?_;refine zw rfl ?_
 rfl
theorem zti [Tracks] {R:List RuleS} {pos:List Str} {l:List LineS} (hR:R.length<=1000000) (hb: ∀x∈R,((-1000000000<=x.Num/\x.Num<=1000000000)/\ -1000000000<=x.Den/\x.Den<=1000000000)) (hz:zgM R=0) (hp:zdm pos=0) (hl:l.length<=1000000) (hxl: ∀x∈l,LineOk x):ConP prog 143 [zgd R,eSs pos,zfs l] (.int .i64 0):=by
 obtain ⟨hp1,hp2⟩:=zy2 hp;refine uOb func143 ntmps143 ?_;refine gz6 ?_;refine dq (uCl zBy rfl (zi3 (l:=R) hR hb)) ?_;refine gz6 ?_;refine zZ rfl (fun h1=> ?_) (fun h1=> ?_)
 ·exfalso
  try simp at h1
  simp_all
 ·try simp at h1
  refine gz8 ?_;refine zZ rfl (fun h2=> ?_) (fun h2=> ?_)
  ·exfalso
   try simp at h2
   omega
  ·try simp at h2
   refine gz5 ?_;refine dq (uCl ztA rfl (zg1 (l:=pos) uO)) ?_;refine gz6 ?_;refine zZ rfl (fun h3=> ?_) (fun h3=> ?_)
   ·exfalso
    try simp at h3
    simp_all
   ·try simp at h3
    refine gz9 ?_;refine uT1 [6,1,10,2,27,10] (fun k=>[(27,.int .i64 k)]) (fun k=>[]) (fun k=>k<=l.length/\(True)) (fun k=>l.length-k) (0) ?_ ?_
    ·exact ⟨Ad _,trivial⟩
    ·rintro k ⟨hk,-⟩;refine gz4 ?_;refine uCo (fun h4=> ?_) fun h5=> ?_
     ·obtain ⟨x,hx⟩: ∃x,l[k]? =some x:=⟨_,Aa h4⟩
      have hdx:=zk hx;have hx1:=hx;refine gz7 ?_;refine de rfl (zj zcY rfl fun b10=> ?_)
      refine de0 (zn zcY rfl rfl rfl rfl rfl ?_)
      refine gz1 ?_;refine ze (zm 10 rfl) ?_;refine gz1 ?_;refine dq (zaL (h:=zbQ x) zcY rfl rfl rfl rfl) ?_;refine dq (uCl zFw rfl (zpq (x:=x) (hxl x (Ab hx)))) ?_;refine gz6 ?_;refine zZ rfl (fun h6=> ?_) (fun h6=> ?_)
      ·exfalso
       try simp at h6
       done
      ·try simp at h6
       refine gz7 ?_;refine ⟨k+1,?_,?_,⟨rfl,trivial⟩,uK,Ac _⟩
       ·exact ⟨by omega,trivial⟩
       ·dsimp only;omega
     ·have hnk:l.length<=k:=by omega
      obtain rfl:k=l.length:=by omega
      refine gz2 ?_;refine zv ?_;refine gz6 ?_;refine zw rfl ?_
      rfl
theorem ztj [Tracks] {r:RuleS} {pos:List Str} {x:LineS} (hr:RuleOk r) (hb:zkL x) (hpos:pos.length<=1000000) (hl:x.Stats.length<=1000000):ConP prog 225 [zoZ r,eSs pos,zbQ x] (.int .i64 (zhl r pos x)):=by
 obtain ⟨hc1,hc2,hc3⟩:=zst hr hb;have hrd:=hr.dn;have hrw:=hr.w;refine uOb func225 ntmps225 ?_;refine zee ?_;refine uGr rfl (fun hc=>za (hs:=[_]) zq ty9 rfl rfl (by decide) (by decide) rfl) ?_;refine gz1 ?_;refine uGr rfl (fun hc=>uCl ztz rfl (zg0 (a:=[r.Position]) (b:=pos) (by simp) hpos)) ?_;refine gz3 ?_;refine uCo (fun h1=> ?_) fun h2=> ?_
 refine gz4 ?_;refine uRp ?_;unfold zhl
 focus first|(simp_all;done)|((repeat' split)<;>focus first|rfl|(exfalso;simp_all;done)|(exfalso;omega)|(simp_all;done))
 refine zee ?_;refine uU2 [7,1,9,1,25,12] (fun (k:Nat) (n:Int)=>[(25,.int .i64 k),(7,.int .i64 n)]) (fun (k:Nat) (n:Int)=>[]) (fun (k:Nat) (n:Int)=>k<=x.Stats.length/\(zds r.Stat 0 x.Stats=zds r.Stat n (x.Stats.drop k))) (fun (k:Nat) (n:Int)=>x.Stats.length-k) (0) (0) ?_ ?_;exact ⟨Ad _,rfl⟩;rintro k n ⟨hk,hg⟩;refine gz4 ?_;refine uCo (fun h3=> ?_) fun h4=> ?_
 obtain ⟨y,hy⟩: ∃y,x.Stats[k]? =some y:=⟨_,Aa h3⟩
 have hdy:=zk hy;rw [zyn hy] at hg;refine gz7 ?_;refine de rfl (zj zci rfl fun b9=> ?_)
 refine de0 (zn zci rfl rfl rfl rfl rfl ?_)
 refine gz1 ?_;refine ze (zm 9 rfl) ?_;refine gz7 ?_;refine uCo (fun h5=> ?_) fun h6=> ?_
 refine zct ?_;exact ⟨k+1,y.Count,⟨by omega,by rw [hg,if_pos (by assumption)]⟩,uD,⟨rfl,rfl,trivial⟩,uK,Ac _⟩;refine gz7 ?_;exact ⟨k+1,n,⟨by omega,by rw [hg,if_neg (by assumption)]⟩,uD,⟨rfl,rfl,trivial⟩,uK,Ac _⟩;have hnk:x.Stats.length<=k:=by omega
 obtain rfl:k=x.Stats.length:=by omega
 rw [zH (Af _)] at hg
 replace hg:zds r.Stat 0 x.Stats=n:=hg
 subst hg;refine gz2 ?_;refine zN ?_;refine gz4 ?_;refine dq (zS (h':= .agg [.int .i64 r.Num,.int .i64 r.Den]) (za0 zU rfl rfl (Ap rfl)) rfl) ?_;refine dq (uCl zzH rfl (zgH (n:=r.Num) (d:=r.Den) hrd uO)) ?_;refine zaw ?_;refine uCo (fun h7=> ?_) fun h8=> ?_
 refine gz3 ?_;refine dq (zby rfl rfl uO uO) ?_;refine gz3 ?_;refine uRp ?_;unfold zhl
 focus first|(simp_all;done)|((repeat' split)<;>focus first|rfl|(exfalso;simp_all;done)|(exfalso;omega)|(simp_all;done))
 refine gz6 ?_;refine uCo (fun h9=> ?_) fun h10=> ?_
 have hmm:=hr.mm uSa;obtain ⟨hc4,hc5⟩:=hc3 uSa;refine gz3 ?_;refine dq (zS (h':= .int .i64 (max (zds r.Stat 0 x.Stats) 0)) (zl5 rfl rfl) (congrArg (HVal.int .i64) zAk)) ?_;refine gz2 ?_;refine dq (zcW rfl rfl uO uO uO) ?_;refine dq (zby rfl rfl uO uO) ?_;refine gz3 ?_;refine uRp ?_;unfold zhl
 focus first|(simp_all;done)|((repeat' split)<;>focus first|rfl|(exfalso;simp_all;done)|(exfalso;omega)|(simp_all;done))
 refine zee ?_;refine uCo (fun h11=> ?_) fun h12=> ?_
 refine gz2 ?_;refine uCo (fun h13=> ?_) fun h14=> ?_
 refine gz5 ?_;refine uRp ?_;unfold zhl
 focus first|(simp_all;done)|((repeat' split)<;>focus first|rfl|(exfalso;simp_all;done)|(exfalso;omega)|(simp_all;done))
 refine gz7 ?_;refine uRp ?_;unfold zhl
 focus first|(simp_all;done)|((repeat' split)<;>focus first|rfl|(exfalso;simp_all;done)|(exfalso;omega)|(simp_all;done))
 refine zct ?_;refine uCo (fun h15=> ?_) fun h16=> ?_
 refine gz5 ?_;refine uRp ?_;unfold zhl
 focus first|(simp_all;done)|((repeat' split)<;>focus first|rfl|(exfalso;simp_all;done)|(exfalso;omega)|(simp_all;done))
 refine gz7 ?_;refine uRp ?_;unfold zhl
 focus first|(simp_all;done)|((repeat' split)<;>focus first|rfl|(exfalso;simp_all;done)|(exfalso;omega)|(simp_all;done))
theorem zrE [Tracks] {R:List RuleS} {pos:List Str} {x:LineS} (hl:R.length<=100) (hrr: ∀r∈R,RuleOk r) (hb:zkL x) (hpos:pos.length<=1000000) (hs:x.Stats.length<=1000000):ConP prog 144 [zgd R,eSs pos,zbQ x] (.int .i64 (zhn R pos x)):=by
 refine uOb func144 ntmps144 ?_;refine zdu ?_;refine uT1 [7,1,9,1,12,11] (fun k=>[(12,.int .i64 k),(7,.int .i64 (zhn (R.take k) pos x))]) (fun k=>[]) (fun k=>k<=R.length/\(True)) (fun k=>R.length-k) (0) ?_ ?_;exact ⟨Ad _,trivial⟩;rintro k ⟨hk,-⟩;refine gz4 ?_;refine uCo (fun h1=> ?_) fun h2=> ?_
 obtain ⟨r,hr⟩: ∃r,R[k]? =some r:=⟨_,Aa h1⟩
 have hdr:=zk hr;have hp1:=zra hl hrr hb pos k;have hp2:=zra hl hrr hb pos (k+1);rw [zvd hr] at hp2;refine gz7 ?_;refine de rfl (zj zgG rfl fun b9=> ?_)
 refine de0 (zn zgG rfl rfl rfl rfl rfl ?_)
 refine gz1 ?_;refine ze (zm 9 rfl) ?_;refine gz2 ?_;refine dq (zaL (h:=zoZ r) zgG rfl rfl rfl rfl) ?_;refine gz1 ?_;refine dq (zaL (h:=zbQ x) zcY rfl rfl rfl rfl) ?_;refine dq (uCl zFx rfl (ztj (r:=r) (pos:=pos) (x:=x) (hrr r (Ab hr)) hb hpos hs)) ?_;refine gz9 ?_;exact ⟨k+1,⟨by omega,trivial⟩,uD,⟨rfl,by rw [zvd hr];rfl,trivial⟩,uK,Ac _⟩;have hnk:R.length<=k:=by omega
 obtain rfl:k=R.length:=by omega
 rw [Ak];refine gz2 ?_;refine zv ?_;refine gz7 ?_;refine zw rfl ?_
 rfl
theorem zrB [Tracks] {R:List RuleS} {pos:List Str} {x:LineS} (hR:R.length<=1000000) (hb: ∀x∈R,((-1000000000<=x.Num/\x.Num<=1000000000)/\ -1000000000<=x.Den/\x.Den<=1000000000)) (hz:zgM R=0) (hp:zdm pos=0) (hx:LineOk x):ConP prog 60 [zgd R,eSs pos,zbQ x] (.tup [zdB (ofH (zhn R pos x)),.int .i64 0]):=by
 obtain ⟨hp1,hp2⟩:=zy2 hp;obtain ⟨hr1,hr2⟩:=zze hz;have hbd:=zra hr1 hr2 hx.sb pos R.length;rw [Ak] at hbd;have hsl:=hx.len;refine zaC func60 rfl ntmps60 rfl rfl ?_;refine gz2 ?_;refine de rfl (zj zU rfl fun b6=> ?_)
 refine gz6 ?_;refine dq (zaL (h:=zbQ x) zcY rfl rfl rfl rfl) ?_;refine dq (za (hs:=[zbQ x]) znc zcY rfl rfl (by decide) (by decide) rfl) ?_;refine dq (uCl zEG rfl (zti (R:=R) (pos:=pos) (l:=[x]) hR hb hz hp (by simp) (fun y hy=>by rw [List.mem_singleton.1 hy];exact hx))) ?_;refine gz6 ?_;refine zZ rfl (fun h1=> ?_) (fun h1=> ?_)
 ·exfalso
  try simp at h1
  done
 ·try simp at h1
  refine gz5 ?_;refine dq (zaL (h:=zbQ x) zcY rfl rfl rfl rfl) ?_;refine dq (uCl zEH rfl (zrE (R:=R) (pos:=pos) (x:=x) hr1 hr2 hx.sb uO uO)) ?_;refine dq (uCl zw4 rfl (zd5 (n:=zhn R pos x) uO)) ?_;refine de0 (zn (h:=zdB (ofH (zhn R pos x))) zU rfl rfl rfl rfl rfl ?_)
  refine gz3 ?_;exact ⟨_,_,zm 6 rfl,[_,_],_,⟨⟨_,_,_,_,_,rfl,zU,.inr ⟨rfl,rfl,rfl⟩⟩,⟨rfl,trivial⟩⟩,Weak.refl _,rfl,rfl⟩
theorem zhg [Tracks] {l:List ScorerS} {s:Str} {fid:FuncId} (hca:Callable prog fid) (hp: ∀x:ScorerS,ConP prog fid [zbs x,.str s] (.int .i64 (zY x.Player s))) (hl:l.length<=1000000) (hs:SortedS (l.map (·.Player))):ConP prog 168 [zaS l,.str s,.fn (.func fid) [] []] (.tup [.int .i64 (zbU (l.map (·.Player)) s),.bool ((l.map (·.Player)).contains s)]):=by
 have hLl:(l.map (·.Player)).length=l.length:=Ah _;refine uOb func168 ntmps168 ?_;refine zpW ?_;refine uT2 [9,3,15,20] (fun i j=>[(9,.int .i64 i),(10,.int .i64 j)]) (fun i j=>[]) (fun i j=>i<=j/\j<=(l.map (·.Player)).length/\(∀(k:Nat) (x:Str),k<i->(l.map (·.Player))[k]? =some x->Op.bytesLess x s=true)/\(∀(k:Nat) (x:Str),j<=k->(l.map (·.Player))[k]? =some x->Op.bytesLess x s=false)) (fun i j=>j-i) (0) (l.length) ?_ ?_;exact ⟨Ad _,by rw [hLl];exact Af _,fun k x h=>by omega,fun k x h1 h2=>by have:=zp h2;omega⟩;rintro i j ⟨hij,hjl,ha,hb⟩;rw [hLl] at hjl;refine gz6 ?_;refine uCo (fun h1=> ?_) fun h2=> ?_
 obtain ⟨x,hx⟩: ∃x,l[(i+j)/2]? =some x:=⟨_,Aa uO⟩
 have hxL:(l.map (·.Player))[(i+j)/2]? =some x.Player:=by rw [Ag,hx];rfl
 have hm:(i+j)/2<j/\i<=(i+j)/2:=by omega
 refine gz7 ?_;refine dq (zcd ty3 zk4 rfl) ?_;refine dq (zo7 rfl rfl uO) ?_;refine dq (zS (zcd zk4 ty3 rfl) (zuX (i:=i) (j:=j) uO)) ?_;refine gz6 ?_;refine dq (zA (j:=(i+j)/2) (a:=x) zcn zch rfl rfl rfl hx) ?_;refine gz2 ?_;refine dq (zap hca rfl rfl (WeakL.refl _) (hp _)) ?_;refine gz2 ?_;refine uCo (fun h3=> ?_) fun h4=> ?_
 refine gz6 ?_;exact ⟨(i+j)/2+1,j,⟨by omega,by rw [hLl];exact hjl,zwO hs hxL (zhG.1 h3),hb⟩,uD,⟨rfl,rfl,trivial⟩,uK,Ac _⟩;refine gz5 ?_;exact ⟨i,(i+j)/2,⟨by omega,by omega,ha,ztw hs hxL (by have q:=fun e=>(show ¬zY x.Player s<0 by omega) (zhG.2 e);simpa using q)⟩,uD,⟨rfl,rfl,trivial⟩,uK,Ac _⟩;obtain rfl:i=j:=by omega
 have hjl2:i<=(l.map (·.Player)).length:=by rw [hLl];exact hjl
 refine gz2 ?_;refine zN ?_;refine zct ?_;refine uGr rfl (fun hc=>by have hq:=hc;(try simp at hq);exact zA (j:=i) (a:=l.getD i zT) zcn zch rfl rfl rfl (getD_some uO)) ?_;refine gz2 ?_;refine uGr rfl (fun hc=>zap hca rfl rfl (WeakL.refl _) (hp _)) ?_;refine gz6 ?_;refine zw rfl ?_;rw [zl6 hjl2 ha hb,<-zpV hs hjl2 ha hb,<-zyg]
theorem zrC [Tracks] {x:ScorerS} {s:Str}:ConP prog 169 [zbs x,.str s] (.int .i64 (zY x.Player s)):=by
 refine uOb func169 ntmps169 ?_;refine gz8 ?_;refine dq (uCl zcf rfl zM) ?_;refine gz3 ?_;refine zw rfl ?_
 rfl
theorem zn2 [Tracks] {l:List ScorerS} {s:Str} (hl:l.length<=1000000) (hs:SortedS (l.map (·.Player))):ConP prog 85 [zaS l,.str s] (.int .i64 (zfP (l.map (·.Player)) s)):=by
 refine uOb func85 ntmps85 ?_;refine gz6 ?_;refine dq (uCl zEZ rfl (zhg (l:=l) zE0 (fun _=>zrC) hl hs)) ?_;refine zct ?_;refine uCo (fun h1=> ?_) fun h2=> ?_
 refine gz4 ?_;refine uRp ?_;unfold zfP
 simp_all
 refine gz7 ?_;refine uRp ?_;unfold zfP
 simp_all
theorem zfc [Tracks] {l:List ScorerS} (hl:l.length<=1000000) (hp: ∀x∈l,x.Positions.length<=1000000) (hb: ∀x∈l,(-1000000000000000<=x.Num/\x.Num<=1000000000000000)/\ -1000000000<=x.Den/\x.Den<=1000000000):ConP prog 28 [zaS l] (.int .i64 (zhq l)):=by
 refine uOb func28 ntmps28 ?_;refine gz9 ?_;refine uCo (fun h1=> ?_) fun h2=> ?_
 refine gz4 ?_;refine uRp ?_
 focus first
 | (refine congrArg _ (zbK ?_)
    omega)
 | (refine congrArg _ (zbz ?_ hg)
    omega)
 | (refine congrArg _ (zy (e:=5) ?_ hg ?_ ?_)
    omega
    unfold zbJ;exact uT
    first|decide|assumption)
 | (refine congrArg _ (zy (e:=7) ?_ hg ?_ ?_)
    omega
    unfold zbJ;exact uT
    first|decide|assumption)
 | (refine congrArg _ (zy (e:=(orI [zdm x.Positions,zbB x.Num x.Den 10000])) ?_ hg ?_ ?_)
    omega
    unfold zbJ;exact uT
    first|decide|assumption)
 refine gz9 ?_;refine uT1 [2,4,11,36] (fun k=>[(11,.int .i64 k)]) (fun k=>[]) (fun k=>k<=l.length/\(zaV zbJ zT l 0 l=zaV zbJ zT l k (l.drop k))) (fun k=>l.length-k) (0) ?_ ?_;exact ⟨Ad _,rfl⟩;rintro k ⟨hk,hg⟩;refine gz4 ?_;refine uCo (fun h3=> ?_) fun h4=> ?_
 obtain ⟨x,hx⟩: ∃x,l[k]? =some x:=⟨_,Aa h3⟩
 have hdx:=zk hx;rw [hdx] at hg;refine gz8 ?_;refine de rfl (zj zch rfl fun b4=> ?_)
 refine gz1 ?_;refine de0 (zn zch rfl rfl rfl rfl rfl ?_)
 refine gz1 ?_;refine ze (zm 4 rfl) ?_;refine gz5 ?_;refine dq (uCl zcD rfl zak) ?_;refine gz3 ?_;refine uCo (fun h5=> ?_) fun h6=> ?_
 refine gz4 ?_;refine uRp ?_
 focus first
 | (refine congrArg _ (zbK ?_)
    omega)
 | (refine congrArg _ (zbz ?_ hg)
    omega)
 | (refine congrArg _ (zy (e:=5) ?_ hg ?_ ?_)
    omega
    unfold zbJ;exact uT
    first|decide|assumption)
 | (refine congrArg _ (zy (e:=7) ?_ hg ?_ ?_)
    omega
    unfold zbJ;exact uT
    first|decide|assumption)
 | (refine congrArg _ (zy (e:=(orI [zdm x.Positions,zbB x.Num x.Den 10000])) ?_ hg ?_ ?_)
    omega
    unfold zbJ;exact uT
    first|decide|assumption)
 refine uDr mixed ?_;refine gz8 ?_;refine uGy 8 rfl rfl (fun hc=>by have hq:=hc;(try simp at hq);exact zA (j:=k-1) (a:=l.getD (k-1) zT) zcn zch rfl rfl uO (getD_some uO)) ?_;refine gz6 ?_;refine uCo (fun h7=> ?_) fun h8=> ?_
 refine gz4 ?_;refine uRp ?_
 focus first
 | (refine congrArg _ (zbK ?_)
    omega)
 | (refine congrArg _ (zbz ?_ hg)
    omega)
 | (refine congrArg _ (zy (e:=5) ?_ hg ?_ ?_)
    omega
    unfold zbJ;exact uT
    first|decide|assumption)
 | (refine congrArg _ (zy (e:=7) ?_ hg ?_ ?_)
    omega
    unfold zbJ;exact uT
    first|decide|assumption)
 | (refine congrArg _ (zy (e:=(orI [zdm x.Positions,zbB x.Num x.Den 10000])) ?_ hg ?_ ?_)
    omega
    unfold zbJ;exact uT
    first|decide|assumption)
 refine gz3 ?_;refine uDr mixed ?_;refine gz2 ?_;refine uB 2 rfl (uCl zzF rfl (zhb (hp x (Ab hx)))) ?_;refine gz1 ?_;refine uB 4 rfl (zS (h':= .agg [.int .i64 x.Num,.int .i64 x.Den]) (za0 zU rfl rfl (Ap rfl)) rfl) ?_;refine uB 5 rfl (uCl zxa rfl (zqk (n:=x.Num) (d:=x.Den) (most:=10000) (hb x (Ab hx)).1 (hb x (Ab hx)).2 uO)) ?_;refine uB 6 rfl (za (hs:=[_,_]) zd9 zgp rfl rfl (by decide) (by decide) rfl) ?_;refine uB 7 rfl (uCl zkf rfl (zb0 (l:=[_,_]) (by simp))) ?_;refine gz6 ?_;refine uCo (fun h9=> ?_) fun h10=> ?_
 refine gz5 ?_;refine uRp ?_
 focus first
 | (refine congrArg _ (zbK ?_)
    omega)
 | (refine congrArg _ (zbz ?_ hg)
    omega)
 | (refine congrArg _ (zy (e:=5) ?_ hg ?_ ?_)
    omega
    unfold zbJ;exact uT
    first|decide|assumption)
 | (refine congrArg _ (zy (e:=7) ?_ hg ?_ ?_)
    omega
    unfold zbJ;exact uT
    first|decide|assumption)
 | (refine congrArg _ (zy (e:=(orI [zdm x.Positions,zbB x.Num x.Den 10000])) ?_ hg ?_ ?_)
    omega
    unfold zbJ;exact uT
    first|decide|assumption)
 refine gz7 ?_;refine ⟨k+1,?_,?_,⟨rfl,trivial⟩,uK,Ac _⟩
 refine ⟨by omega,?_⟩
 rw [hg,zaT (by unfold zbJ;(try clear hdx hg);(try simp only [Ae]);focus first|(simp_all;done)|((repeat' split)<;>focus first|rfl|(exfalso;omega)|(simp_all;done)|(exfalso;rcases ‹_\/_› with q|q<;>simp_all;done)|(exfalso;simp_all;omega)))]
 dsimp only;omega
 have hnk:l.length<=k:=by omega
 obtain rfl:k=l.length:=by omega
 rw [zH (Af _)] at hg;refine gz2 ?_;refine zv ?_;refine gz6 ?_;refine uRp ?_
 focus first
 | (refine congrArg _ (zbK ?_)
    omega)
 | (refine congrArg _ (zbz ?_ hg)
    omega)
 | (refine congrArg _ (zy (e:=5) ?_ hg ?_ ?_)
    omega
    unfold zbJ;exact uT
    first|decide|assumption)
 | (refine congrArg _ (zy (e:=7) ?_ hg ?_ ?_)
    omega
    unfold zbJ;exact uT
    first|decide|assumption)
 | (refine congrArg _ (zy (e:=(orI [zdm x.Positions,zbB x.Num x.Den 10000])) ?_ hg ?_ ?_)
    omega
    unfold zbJ;exact uT
    first|decide|assumption)
theorem zf5 [Tracks] {l:List FillS} {fid:FuncId} {caps:List HVal} {p:FillS->Bool} (hca:Callable prog fid) (hp: ∀x,ConP prog fid ([za4 x]++caps) (.bool (p x))) (hl:l.length<=1000000):ConP prog 149 [.slice 2 (l.map za4),.fn (.func fid) [] caps] (.int .i64 (zW p l 0)):=by
 refine uOb func149 ntmps149 ?_;refine zaw ?_;refine uT1 [4,2,8,11] (fun k=>[(8,.int .i64 k)]) (fun k=>[]) (fun k=>k<=l.length/\(zW p l 0=zW p (l.drop k) k)) (fun k=>l.length-k) (0) ?_ ?_;exact ⟨Ad _,rfl⟩;rintro k ⟨hk,hg⟩;refine gz4 ?_;refine uCo (fun h1=> ?_) fun h2=> ?_
 obtain ⟨x,hx⟩: ∃x,l[k]? =some x:=⟨_,Aa h1⟩
 have hdx:=zk hx;rw [hdx] at hg;refine zdu ?_;refine dq (zap hca rfl rfl (WeakL.refl _) (hp _)) ?_;refine gz1 ?_;refine uCo (fun h3=> ?_) fun h4=> ?_
 refine gz5 ?_;refine uRp ?_
 first|(rw [hg];rfl)|(rw [hg];simp_all [zW])
 refine gz7 ?_;refine ⟨k+1,?_,?_,⟨rfl,trivial⟩,uK,Ac _⟩
 refine ⟨by omega,?_⟩
 rw [hg,zW,if_neg uSa];rfl
 dsimp only;omega
 have hnk:l.length<=k:=by omega
 obtain rfl:k=l.length:=by omega
 rw [zH (Af _)] at hg;refine gz2 ?_;refine zv ?_;refine gz6 ?_;refine uRp ?_
 first|(rw [hg];rfl)|(rw [hg];simp_all [zW])
theorem zcT [Tracks] {l:List FillS} {fid:FuncId} {caps:List HVal} {p:FillS->Bool} (hca:Callable prog fid) (hp: ∀x,ConP prog fid ([za4 x]++caps) (.bool (p x))) (hl:l.length<=1000000):ConP prog 64 [.slice 2 (l.map za4),.fn (.func fid) [] caps] (.bool (l.any p)):=by
 refine uOb func64 ntmps64 ?_;refine gz6 ?_;refine dq (uCl zEK rfl (zf5 hca hp hl)) ?_;refine gz4 ?_;refine zw rfl ?_
 congr 1;exact zdd p l 0 uO
theorem zff [Tracks] {l:List ScorerS} {fid:FuncId} {caps:List HVal} {p:ScorerS->Bool} (hca:Callable prog fid) (hp: ∀x,ConP prog fid ([zbs x]++caps) (.bool (p x))) (hl:l.length<=1000000):ConP prog 146 [.slice 5 (l.map zbs),.fn (.func fid) [] caps] (.int .i64 (zW p l 0)):=by
 refine uOb func146 ntmps146 ?_;refine zaw ?_;refine uT1 [4,2,8,11] (fun k=>[(8,.int .i64 k)]) (fun k=>[]) (fun k=>k<=l.length/\(zW p l 0=zW p (l.drop k) k)) (fun k=>l.length-k) (0) ?_ ?_;exact ⟨Ad _,rfl⟩;rintro k ⟨hk,hg⟩;refine gz4 ?_;refine uCo (fun h1=> ?_) fun h2=> ?_
 obtain ⟨x,hx⟩: ∃x,l[k]? =some x:=⟨_,Aa h1⟩
 have hdx:=zk hx;rw [hdx] at hg;refine zdu ?_;refine dq (zap hca rfl rfl (WeakL.refl _) (hp _)) ?_;refine gz1 ?_;refine uCo (fun h3=> ?_) fun h4=> ?_
 refine gz5 ?_;refine uRp ?_
 first|(rw [hg];rfl)|(rw [hg];simp_all [zW])
 refine gz7 ?_;refine ⟨k+1,?_,?_,⟨rfl,trivial⟩,uK,Ac _⟩
 refine ⟨by omega,?_⟩
 rw [hg,zW,if_neg uSa];rfl
 dsimp only;omega
 have hnk:l.length<=k:=by omega
 obtain rfl:k=l.length:=by omega
 rw [zH (Af _)] at hg;refine gz2 ?_;refine zv ?_;refine gz6 ?_;refine uRp ?_
 first|(rw [hg];rfl)|(rw [hg];simp_all [zW])
theorem zf7 [Tracks] {l:List LineS} {fid:FuncId} {caps:List HVal} {p:LineS->Bool} (hca:Callable prog fid) (hp: ∀x,ConP prog fid ([zbQ x]++caps) (.bool (p x))) (hl:l.length<=1000000):ConP prog 58 [.slice 3 (l.map zbQ),.fn (.func fid) [] caps] (.int .i64 (zW p l 0)):=by
 refine uOb func58 ntmps58 ?_;refine zaw ?_;refine uT1 [4,2,8,11] (fun k=>[(8,.int .i64 k)]) (fun k=>[]) (fun k=>k<=l.length/\(zW p l 0=zW p (l.drop k) k)) (fun k=>l.length-k) (0) ?_ ?_;exact ⟨Ad _,rfl⟩;rintro k ⟨hk,hg⟩;refine gz4 ?_;refine uCo (fun h1=> ?_) fun h2=> ?_
 obtain ⟨x,hx⟩: ∃x,l[k]? =some x:=⟨_,Aa h1⟩
 have hdx:=zk hx;rw [hdx] at hg;refine zdu ?_;refine dq (zap hca rfl rfl (WeakL.refl _) (hp _)) ?_;refine gz1 ?_;refine uCo (fun h3=> ?_) fun h4=> ?_
 refine gz5 ?_;refine uRp ?_
 first|(rw [hg];rfl)|(rw [hg];simp_all [zW])
 refine gz7 ?_;refine ⟨k+1,?_,?_,⟨rfl,trivial⟩,uK,Ac _⟩
 refine ⟨by omega,?_⟩
 rw [hg,zW,if_neg uSa];rfl
 dsimp only;omega
 have hnk:l.length<=k:=by omega
 obtain rfl:k=l.length:=by omega
 rw [zH (Af _)] at hg;refine gz2 ?_;refine zv ?_;refine gz6 ?_;refine uRp ?_
 first|(rw [hg];rfl)|(rw [hg];simp_all [zW])
theorem zrD [Tracks] {x:FillS} {s:Str}:ConP prog 226 [za4 x,.vptr [.str s] 0] (.bool (x.Player==s)):=by
 refine uOb func226 ntmps226 ?_;refine zdl ?_;refine zw rfl ?_
 rfl
theorem zn3 [Tracks] {f:List FillS} {s:Str} (hf:f.length<=1000000):ConP prog 145 [zgV f,.str s] (.bool (f.any fun x=>x.Player==s)):=by
 refine uOb func145 ntmps145 ?_;refine gz7 ?_;refine dq (uCl ca64 rfl (zcT (l:=f) (p:=fun x=>x.Player==s) zFy (fun _=>zrD) hf)) ?_;refine gz3 ?_;refine zw rfl ?_
 rfl
end
end Go.Proofs.YtpgopgjleokciaaGreatDoor
namespace Go.HL
section
open Go Op
structure BookX (b:BookS):Prop where
 w:BookW b
 gm: ∀x∈b.League.Games,zaQ x.Week=true/\b.League.Teams.contains x.Home=true/\b.League.Teams.contains x.Away=true/\x.Played=false
 st:0<=b.League.Start/\b.League.Start+36288000000<=345686400000
 ru:zgM b.League.Rules=0
 sl:zdn b.League.Slots=0
 pl:zbT b.Plays=0
 tr:zcb b.League.Trust=0
 me:zbu b.Mends=0
 po: ∀p∈b.League.Players,zdm p.Positions=0
theorem zqj {b:BookS} (h:zda b=0):BookX b:=by
 obtain ⟨h1,h2⟩:=zud h;have h3:=zg7 (ztL h1);have hW:=zDq h;unfold zcu at h1;rw [if_neg (fun q=>q (ztL h1))] at h1
 split at h1
 cases h1
 rename_i hp
 split at h1
 rename_i q;exact absurd h1 q
 rename_i h4
 split at h1
 cases h1
 rename_i h5
 rw [not_or] at h5;have h6:zfJ b.League.Teams b.League.Games=0:=h3 _ (by simp);have h7:zd2 1000 (zcp b.League.Teams) zes b.League.Games=0:=by
  unfold zfJ at h6
  split at h6
  rename_i q;exact absurd h6 q
  unfold zed at h6
  split at h6
  rename_i q;exact absurd h6 q
  rename_i q
  exact Decidable.not_not.1 q
 obtain ⟨_,h8⟩:=zfD h7;have h9:=zg7 (l:=[zit b.League.Breaks,zcb b.League.Trust]) (Decidable.not_not.1 h4);refine ⟨hW,fun x hx=> ?_,?_,h3 _ (by simp),h3 _ (by simp),zg7 h2 _ (by simp),h9 _ (by simp),zg7 h2 _ (by simp),fun p hp=> ?_⟩
 obtain ⟨i,hi,rfl⟩:=AT hx;have h10:=h8 i _ (Aa hi);unfold zcp at h10
 split at h10
 cases h10
 rename_i a1
 split at h10
 cases h10
 rename_i a2
 rw [not_or] at a2;refine ⟨by simpa using a1,by simpa using a2.1,by simpa using a2.2,?_⟩
 have:zc6 b.League.Games=false:=by simpa using hp
 unfold zc6 at this;have:=List.any_eq_false.1 this _ hx
 simpa using this
 have:zaa b.League.Start=true:=by simpa using h5.1
 unfold zaa out at this
 simp at this
 omega
 obtain ⟨i,hi,rfl⟩:=AT hp;have h10:=(zfD hW.py).2 i _ (Aa hi);unfold zcR at h10
 split at h10
 cases h10
 split at h10
 cases h10
 exact h10
theorem zyc {b:BookS} (h:BookX b) {w:Int} (hw:zaQ w=true):zaa (zbr b.League w)=true/\0<=zbr b.League w/\zbr b.League w<=345686400000/\zbr b.League (w+1)<=345686400000/\zbr b.League (w+1)=zbr b.League w+604800000:=by
 have h1:=h.st;have h2:1<=w/\w<=60:=by unfold zaQ out at hw;simp at hw;omega
 have h3:0<=zbr b.League w/\zbr b.League w+604800000<=345686400000:=by unfold zbr;omega
 refine ⟨?_,by omega,by omega,?_,?_⟩
 unfold zaa out;simp;omega;unfold zbr;omega;unfold zbr;omega
/-! the lines of a week,and scorers-/
abbrev wlL (b:BookS) (w n:Int):List LineS:=knL b.Plays b.League.Trust (zgm b.Mends w) w n
abbrev wlE (b:BookS) (w n:Int):Int:=zh3 b.Plays b.League.Trust w n
def zlH (g:LeagueS) (L:List LineS) (s:Str):Option ScorerS:=
 match plO g.Players s with
 |none=>none
 |some p=>match L.find? (fun x=>x.Player==s) with
   |none=>some ⟨s,p.Positions,0,1,false⟩
   |some x=>some ⟨s,p.Positions,(ofH (zhn g.Rules p.Positions x)).Num,(ofH (zhn g.Rules p.Positions x)).Den,true⟩
def zkv (g:LeagueS) (L:List LineS) (own:List Str):List ScorerS:=own.filterMap (zlH g L)
theorem zp6 {g:LeagueS} {L:List LineS} {own:List Str} {k:Nat} {s:Str} (h:own[k]? =some s):zkv g L (own.take (k+1))=zkv g L (own.take k)++(zlH g L s).toList:=by
 unfold zkv;rw [zaf h,List.filterMap_append]
 cases e:zlH g L s<;>simp [e]
theorem zjU (g:LeagueS) (L:List LineS) (own:List Str):(zkv g L own).length<=own.length:=List.length_filterMap_le _ _
theorem zD3 {L:List PlayerS} {s:Str} (h: ∃x,x∈L/\x.Key=s): ∃p,plO L s=some p:=by
 obtain ⟨x,hx,e⟩:=h
 cases hq:plO L s with
 |none=>have:=List.find?_eq_none.1 hq x hx;simp [e] at this
 |some p=>exact ⟨p,rfl⟩
theorem zvi {g:LeagueS} {L:List LineS} {s:Str} (h:plO g.Players s=none):zlH g L s=none:=by unfold zlH;rw [h]
theorem zmc {g:LeagueS} {L:List LineS} {s:Str} {p:PlayerS} (h:plO g.Players s=some p) (h2:L.find? (fun x=>x.Player==s)=none):zlH g L s=some ⟨s,p.Positions,0,1,false⟩:=by
 unfold zlH;rw [h];dsimp only;rw [h2]
theorem zmd {g:LeagueS} {L:List LineS} {s:Str} {p:PlayerS} {x:LineS} (h:plO g.Players s=some p) (h2:L.find? (fun x=>x.Player==s)=some x):
 zlH g L s=some ⟨s,p.Positions,(ofH (zhn g.Rules p.Positions x)).Num,(ofH (zhn g.Rules p.Positions x)).Den,true⟩:=by
 unfold zlH;rw [h];dsimp only;rw [h2]
theorem zuO {l:List Play} {t:List Str} {w n:Int} (h1:zbT l=0) (h2:zcb t=0) (h3:zaQ w=true) (h4:zaa n=true):ziU l t w n=zd1 l t w n/\ziT l t w n=zh3 l t w n:=by
 have e:orI [zbT l,zcb t]=0:=by rw [zef,h1,h2];rfl
 unfold ziU ziT;rw [e,h3,h4];exact ⟨rfl,rfl⟩
theorem zsK {l:List LineS} {m:List MendS} {n:Int} (h1:zaz l=0) (h2:zbu m=0) (h3:zaa n=true):zej l m n=mdL l m n/\zei l m n=0:=by
 have e:orI [zaz l,zbu m]=0:=by rw [zef,h1,h2];rfl
 unfold zej zei;rw [e,h3];exact ⟨rfl,rfl⟩
theorem zD7 {g:LeagueS} {L:List LineS} {s:Str} {p:PlayerS} (h:plO g.Players s=some p): ∃sc,zlH g L s=some sc:=by
 cases hq:L.find? (fun x=>x.Player==s) with
 |none=>exact ⟨_,zmc h hq⟩
 |some x=>exact ⟨_,zmd h hq⟩
theorem zri {g:LeagueS} {L:List LineS} {own:List Str} (hr:zgM g.Rules=0) (hL: ∀x∈L,zkL x): ∀y∈zkv g L own,(-1000000000000000<=y.Num/\y.Num<=1000000000000000)/\ -1000000000<=y.Den/\y.Den<=1000000000:=by
 intro y hy
 obtain ⟨s,_,he⟩:=List.mem_filterMap.1 hy;obtain ⟨r1,r2⟩:=zze hr
 cases hp:plO g.Players s with
 |none=>rw [zvi hp] at he;cases he
 |some p=>
   cases hq:L.find? (fun x=>x.Player==s) with
   |none=>rw [zmc hp hq] at he;cases he;dsimp only;omega
   |some x=>
     rw [zmd hp hq] at he
     cases he
     have h1:=zra r1 r2 (hL x (Bg hq)) p.Positions g.Rules.length;rw [Ak] at h1;have h2:=zoD h1
     dsimp only
     omega
theorem zo8 {g:LeagueS} {L:List LineS} {own:List Str} (hp: ∀p∈g.Players,p.Positions.length<=1000000): ∀y∈zkv g L own,y.Positions.length<=1000000:=by
 intro y hy
 obtain ⟨s,_,he⟩:=List.mem_filterMap.1 hy
 cases hq:plO g.Players s with
 |none=>rw [zvi hq] at he;cases he
 |some p=>
   have hm:=hp p (Bg hq)
   cases hl:L.find? (fun x=>x.Player==s) with
   |none=>rw [zmc hq hl] at he;cases he;exact hm
   |some x=>rw [zmd hq hl] at he;cases he;exact hm
abbrev zeg (b:BookS) (t:Str) (w:Int):List Str:=rPl (zfU b.League.Bounds b.Moves (zbr b.League w)) t
abbrev dsL (b:BookS) (t:Str) (w n:Int):List ScorerS:=zkv b.League (wlL b w n) (zeg b t w)
def znF (b:BookS) (t:Str) (w n:Int):List ScorerS:=if wlE b w n≠0 then [] else dsL b t w n
def fdE (b:BookS) (t:Str) (w n:Int):Int:=if wlE b w n≠0 then wlE b w n else zhq (dsL b t w n)
abbrev fdC (b:BookS) (t:Str) (w n:Int):Option ChoiceS:=zxe b.Choices t w n (zbr b.League w)
abbrev fdF (b:BookS) (t:Str) (w n:Int):List FillS:=zc4 (dsL b t w n) (fdC b t w n) b.League.Slots b.League.Slots.length
abbrev fdP (b:BookS) (t:Str) (w n:Int):Str:=zmI (fdC b t w n) (fdF b t w n)
def ptV (b:BookS) (t:Str) (w n:Int):Int:=sfL (dsL b t w n) (fdF b t w n) (fdP b t w n)
def FdL (b:BookS) (t:Str) (w n:Int):List ScorerS:=if fdE b t w n≠0 then [] else dsL b t w n
def FdF (b:BookS) (t:Str) (w n:Int):List FillS:=if fdE b t w n≠0 then [] else fdF b t w n
def FdP (b:BookS) (t:Str) (w n:Int):Str:=if fdE b t w n≠0 then [] else fdP b t w n
def PtF (b:BookS) (t:Str) (w n:Int):FracS:=if fdE b t w n≠0 then ⟨0,0⟩ else ofH (ptV b t w n)
abbrev zeS (o:Option ChoiceS):ChoiceS:=o.getD zdP
theorem zp4 {o:Option ChoiceS} (h:o.isSome=true):pCh o= .vptr (zd (zR (zeS o))) 0:=by
 cases o with
 |none=>cases h
 |some c=>rfl
theorem zCd {o:Option ChoiceS} {f:List FillS} (h1:o.isSome=true) (h2:(zeS o).Captain≠[]) (h3:f.any (fun x=>x.Player==(zeS o).Captain)=true):zmI o f=(zeS o).Captain:=by
 cases o with
 |none=>cases h1
 |some c=>exact if_pos ⟨h2,h3⟩
theorem zmJ {o:Option ChoiceS} {f:List FillS} (h:(o.isSome=true/\¬(zeS o).Captain=[])/\∃x,x∈f/\x.Player=(zeS o).Captain):zmI o f=(zeS o).Captain:=by
 obtain ⟨⟨h1,h2⟩,x,h3,h4⟩:=h;exact zCd h1 h2 (List.any_eq_true.2 ⟨x,h3,by simpa using h4⟩)
theorem zDs {o:Option ChoiceS} {f:List FillS} (h: ¬((o.isSome=true/\(zeS o).Captain≠[])/\f.any (fun x=>x.Player==(zeS o).Captain)=true)):zmI o f=[]:=by
 cases o with
 |none=>rfl
 |some c=>exact if_neg fun q=>h ⟨⟨rfl,q.1⟩,q.2⟩
theorem zoX {o:Option ChoiceS} {f:List FillS} (h:o.isSome=true->¬(zeS o).Captain=[]->∀x,x∈f->¬x.Player=(zeS o).Captain):zmI o f=[]:=by
 refine zDs fun q=> ?_
 obtain ⟨x,h3,h4⟩:=List.any_eq_true.1 q.2;exact h q.1.1 q.1.2 x h3 (by simpa using h4)
theorem zo0 {b:BookS} {t:Str} {w n:Int} (h:fdE b t w n=0):wlE b w n=0/\zhq (dsL b t w n)=0/\ScoOk (dsL b t w n):=by
 unfold fdE at h
 split at h
 rename_i q;exact absurd h q
 rename_i q
 exact ⟨Decidable.not_not.1 q,h,zoO h⟩
theorem zqI {b:BookS} {t:Str} {w n:Int} (h:wlE b w n≠0):fdE b t w n=wlE b w n:=by unfold fdE;rw [if_pos h]
theorem zoj {b:BookS} {t:Str} {w n:Int} (h:wlE b w n=0):fdE b t w n=zhq (dsL b t w n):=by unfold fdE;rw [if_neg (fun q=>q h)]
theorem zCm {b:BookS} (hb:BookW b) {t:Str} {w n f:Int} {c:ChoiceS} (h:zxe b.Choices t w n f=some c):c.Players.length=b.League.Slots.length:=by
 rcases zxd h with q|q
 cases q
 exact (hb.ch c q.1).1
theorem zB0 {b:BookS} (hb:BookW b) {t:Str} {w n:Int} (h:fdE b t w n=0): -24000000<=ptV b t w n/\ptV b t w n<=24000000:=by
 obtain ⟨_,_,h3⟩:=zo0 h;have h4:(fdF b t w n).length=b.League.Slots.length:=zfh (dsL b t w n) (fdC b t w n) b.League.Slots b.League.Slots.length;have h5:=zk1 h3 (f:=fdF b t w n) (by have:=hb.sl;omega) (fdP b t w n) (fdF b t w n).length;rw [Ak] at h5;exact h5
/-! results-/
theorem ztJ {b:BookS} (hX:BookX b) (hb:BookC b) {w:Int} (hwk:zaQ w=true) (n:Int): ∀x∈wlL b w n,zkL x:=by
 have h1:=zkr b.Mends w;have h2:=hb.l2;have h3:=hb.l3;have h:=(zp0 (t:=b.League.Trust) (m:=zgm b.Mends w) (week:=w) (n:=n) (ziO hX.pl) h2 (by omega) hwk (zoE (week:=w) hX.me)).1;exact fun x hx=>(zwi h hx).sb
end
end Go.HL
