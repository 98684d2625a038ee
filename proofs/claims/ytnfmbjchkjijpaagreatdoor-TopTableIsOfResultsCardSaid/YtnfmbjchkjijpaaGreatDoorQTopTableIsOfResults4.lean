/- Part 4 of the proof: a program logic, contracts of functions and plain facts; no conditions. -/
import Derived.Test.YtnfmbjchkjijpaaGreatDoorQTopTableIsOfResults3
import Derived.Lib.AtoiBound
import Derived.Lib.ItoaMem
import Derived.Lib.Strings
import Derived.Shelf.SlMaps.Clone
import Derived.Shelf.Slices.CompactI
import Derived.Shelf.Slices.In.SortNone
import Derived.Shelf.Sort.Plain
set_option linter.unusedVariables false
set_option linter.unusedSimpArgs false
set_option maxHeartbeats 16000000
namespace Go.Proofs.YtnfmbjchkjijpaaGreatDoor
set_option maxRecDepth 100000
set_option linter.unusedVariables false
set_option linter.unusedSimpArgs false
section
open Go.Proofs.Tryz
open Go.HL
theorem zpO [Tracks]:ConP prog 233 [.int .u64 0] (.int .i64 0):=by
 refine uOb func233 ntmps233 ?_;refine gz8 ?_;refine zdQ rfl ?_;refine gz7 ?_;refine zdQ rfl ?_;refine gz7 ?_;refine zdQ rfl ?_;refine gz5 ?_;refine dq (zbO zpI ty5 rfl) ?_;refine dq (zaU (j:=0) (b:=0) ty9 rfl rfl rfl rfl) ?_;refine dq (zbO ty5 ty3 rfl) ?_;refine dq (zbi rfl rfl (by decide) (by decide)) ?_;refine gz3 ?_;refine zt rfl ?_
 rfl
theorem zq0 [Tracks]:ConP prog 158 [.int .u64 0] (.int .i64 0):=by
 refine uOb func158 ntmps158 ?_;refine gz4 ?_;refine zdQ rfl ?_;refine gz4 ?_;refine dq (uCl zB4 rfl zpO) ?_;refine gz3 ?_;refine zt rfl ?_
 rfl
theorem zgm [Tracks]:ConP prog 271 [eSs [],.int .i64 0,.int .i64 0] (.tup []):=by
 refine uOb func271 ntmps271 ?_;refine gz6 ?_;refine uU1 [6,2,10,39] (fun (u:Unit)=>[(6,.int .i64 1)]) (fun (u:Unit)=>[]) (fun (u:Unit)=>True) (fun (u:Unit)=>0) (()) ?_ ?_
 trivial
 intro u hu
 refine gz6 ?_;refine zdQ rfl ?_;refine gz2 ?_;refine zu ?_;refine gz1 ?_;refine zyr rfl ?_
 rfl
theorem zh7 [Tracks]:ConP prog 209 [eSs [],.int .i64 0,.int .i64 0,.int .i64 0] (.tup []):=by
 refine uOb func209 ntmps209 ?_;refine gz7 ?_;refine uU1 [1,3,8,126] (fun (u:Unit)=>[(1,.int .i64 0),(2,.int .i64 0)]) (fun (u:Unit)=>[]) (fun (u:Unit)=>True) (fun (u:Unit)=>0) (()) ?_ ?_
 trivial
 intro u hu
 refine zc9 ?_;refine zs8 rfl ?_;refine gz4 ?_;refine dq (uCl zGi rfl zgm) ?_;refine gz2 ?_;refine zt rfl ?_
 rfl
theorem zpV [Tracks]:ConP prog 134 [eSs []] (.tup []):=by
 refine uOb func134 ntmps134 ?_;refine gz9 ?_;refine dq (zbO ty3 zi1 rfl) ?_;refine dq (uCl zuf rfl zq0) ?_;refine dq (uCl zFK rfl zh7) ?_;refine gz1 ?_;refine zyr rfl ?_
 rfl
theorem zt1 [Tracks] {l:List Str} {v:Value} (hl:l.length<=1000000):Con prog 134 [.raw v] [.arr v 1 (l.map .str)] fun x M'=>x= .tup []/\M'=[.arr v 1 ((zbk l).map .str)]:=
 zCI (zlD l) (fun b off cap w h1 h2 _=>Any.slices_Sort_string zuK b off cap l w h1 h2 uO) (fun _=>zpV)
end
section
open Go.Proofs.Tryz
open Go.HL
theorem zgY [Tracks] {x n:Int} (hn:n<=4000000000):ConP prog 47 [.int .i64 x,.int .i64 n] (.int .i64 (below x n)):=by
 refine uOb func47 ntmps47 ?_;refine gz8 ?_;refine uCo (fun h1=> ?_) fun h2=> ?_
 refine gz4 ?_;refine uRp ?_
 simp_all [below]
 try omega
 refine gz5 ?_;refine dq (zcT rfl rfl uO) ?_;refine gz7 ?_;refine uCo (fun h3=> ?_) fun h4=> ?_
 refine gz3 ?_;have hm:=BV x (show 0<n by omega);obtain ⟨y,hy1,hy2⟩:=zoe x n;have hb:below x n=x.tmod n+n:=by unfold below;rw [if_neg uO,if_pos uO]
 refine gz9 ?_;refine uRp ?_
 simp_all [below]
 try omega
 refine gz7 ?_;refine uRp ?_
 simp_all [below]
 try omega
theorem zap [Tracks] {b:Nat} {l:List Int} {a:Nat} {n:Int} (ha:a<=1000000) (hn:n<=4000000000):Con prog 14 [pAt b,.int .i64 n] [St b l a] (fun x M'=> ∃y:Nat,x= .int .i64 (y:Int)/\(y:Int)<max n 1/\M'=[St b l (a+1)]):=by
 refine uOb func14 ntmps14 ?_;refine gz7 ?_;refine de rfl (uZ 0 ?_)
 refine gz3 ?_;refine de0 (uY 0 ?_)
 refine gz6 ?_;refine de rfl (uZ 0 ?_)
 refine gz3 ?_;refine uCo (fun h1=> ?_) fun h2=> ?_
 refine gz4 ?_;refine de rfl (uZ 0 ?_)
 refine dq (zsE rfl rfl) ?_;refine gz1 ?_;refine dq (uCl zAb rfl (zgY (by assumption))) ?_;refine gz3 ?_;refine zah rfl ?_;obtain ⟨y,h1,h2⟩:=zoe _ n;exact ⟨y,congrArg _ h1,h2,rfl⟩;refine gz2 ?_;have hl0:0<l.length:=List.length_pos_iff.2 (by simpa using h2);refine zbb (fun M=> ∃i:Nat,M[i]? =some (St b l (a+1))) [3,8] mixed ?_;refine gz3 ?_;refine uM 3 rfl (⟨0,rfl⟩) (fun M hM=>by obtain ⟨i,hi⟩:=hM;exact zar (i:=i) ty3 rfl hi (.inl ⟨rfl,rfl⟩) ⟨rfl,rfl⟩) ?_;refine gz4 ?_;refine uM 8 rfl (⟨0,rfl⟩) (fun M hM=>by obtain ⟨i,hi⟩:=hM;exact zar (i:=i) zX rfl hi (.inl ⟨rfl,rfl⟩) ⟨rfl,rfl⟩) ?_;refine gz1 ?_;refine uB 10 rfl (zY (h':= .int .i64 ((a%l.length:Nat):Int)) (zcT rfl rfl uO) (by show HVal.int .i64 (((a:Int)+1-1).tmod _)=_;rw [show ((a:Int)+1-1)=(a:Int) by omega];exact congrArg _ (zqH _ _))) ?_;refine gz2 ?_;refine zbb (fun M=> ∃i:Nat,M[i]? =some (St b l (a+1))) [3,8] mixed ?_;refine gz3 ?_;refine uM 3 rfl (⟨0,rfl⟩) (fun M hM=>by obtain ⟨i,hi⟩:=hM;exact zar (i:=i) ty3 rfl hi (.inl ⟨rfl,rfl⟩) ⟨rfl,rfl⟩) ?_;refine gz4 ?_;refine uM 8 rfl (⟨0,rfl⟩) (fun M hM=>by obtain ⟨i,hi⟩:=hM;exact zar (i:=i) zX rfl hi (.inl ⟨rfl,rfl⟩) ⟨rfl,rfl⟩) ?_;refine gz1 ?_;refine uB 10 rfl (zw5 rfl rfl uO) ?_;refine gz6 ?_;refine de rfl (uZ 0 ?_)
 refine gz1 ?_;refine dq (zB (j:=a%l.length) (a:=l[a%l.length]'(BW _ uO)) zX ty3 rfl rfl rfl (Aa _)) ?_;refine gz1 ?_;refine dq (uCl zAb rfl (zgY uO)) ?_;refine gz2 ?_;refine dq (zpA rfl rfl) ?_;refine dq (zsE rfl rfl) ?_;refine dq (zpA rfl rfl) ?_;refine gz1 ?_;refine dq (uCl zAb rfl (zgY (by assumption))) ?_;refine gz3 ?_;refine zah rfl ?_;obtain ⟨y,h1,h2⟩:=zoe _ n;exact ⟨y,congrArg _ h1,h2,rfl⟩
theorem zT [Tracks] {b:Nat} {l:List Int} {a:Nat} {lo hi:Int} (ha:a<=1000000) (hlh:lo<=hi) (h0: -1000000000<=lo) (h1:hi<=1000000000):Con prog 32 [pAt b,.int .i64 lo,.int .i64 hi] [St b l a] (fun x M'=> ∃y:Int,x= .int .i64 y/\(lo<=y/\y<=hi)/\M'=[St b l (a+1)]):=by
 refine uOb func32 ntmps32 ?_;refine gz9 ?_;refine z7 rfl (fun h1=> ?_) (fun h1=> ?_)
 exfalso
 try simp at h1
 omega
 try simp at h1
 refine gz9 ?_;refine de rfl (uCx 0 zjr rfl rfl (zap (by assumption) uO) ?_)
 rintro _ _ ⟨y17,rfl,hy17,rfl⟩;refine gz4 ?_;exact zah rfl ⟨_,rfl,by omega,rfl⟩
theorem zH [Tracks] {b:Nat} {l:List Int} {a:Nat} {n:Int} (ha:a<=1000000) (hn:n<=4000000000):Con prog 38 [pAt b,.int .i64 n] [St b l a] (fun x M'=> ∃y:Bool,x= .bool y/\M'=[St b l (a+1)]):=by
 refine uOb func38 ntmps38 ?_;refine gz6 ?_;refine de rfl (uCx 0 zjr rfl rfl (zap (by assumption) (by assumption)) ?_)
 rintro _ _ ⟨y7,rfl,hy7,rfl⟩;refine gz4 ?_;exact zah rfl ⟨_,rfl,rfl⟩
theorem zf [Tracks] {b:Nat} {l:List Int} {a:Nat} {L:List Int} (ha:a<=1000000) (h0:0<L.length) (h1:L.length<=1000000):Con prog 5 [pAt b,.slice 1 (L.map (.int .i64))] [St b l a] (fun x M'=> ∃y:Int,x= .int .i64 y/\y∈L/\M'=[St b l (a+1)]):=by
 refine uOb func5 ntmps5 ?_;refine gz8 ?_;refine de rfl (uCx 0 zjr rfl rfl (zap (by assumption) uO) ?_)
 rintro _ _ ⟨y9,rfl,hy9,rfl⟩;obtain ⟨z,hz,hm⟩:=getI hy9 h0;refine dq (zB (j:=y9) (a:=z) zX ty3 rfl rfl rfl hz) ?_;refine gz4 ?_;exact zah rfl ⟨_,rfl,hm,rfl⟩
theorem zq [Tracks] {b:Nat} {l:List Int} {a:Nat} {L:List Str} (ha:a<=1000000) (h0:0<L.length) (h1:L.length<=1000000):Con prog 33 [pAt b,eSs L] [St b l a] (fun x M'=> ∃y:Str,x= .str y/\y∈L/\M'=[St b l (a+1)]):=by
 refine uOb func33 ntmps33 ?_;refine gz8 ?_;refine de rfl (uCx 0 zjr rfl rfl (zap (by assumption) uO) ?_)
 rintro _ _ ⟨y9,rfl,hy9,rfl⟩;obtain ⟨z,hz,hm⟩:=getS hy9 h0;refine dq (zB (j:=y9) (a:=z) zp ty9 rfl rfl rfl hz) ?_;refine gz4 ?_;exact zah rfl ⟨_,rfl,hm,rfl⟩
end
section
open Go.HL
set_option linter.unusedSimpArgs false
end
section
open Go.HL
set_option linter.unusedSimpArgs false
end
section
open Go.HL
set_option linter.unusedSimpArgs false
end
section
open Go.HL
set_option linter.unusedSimpArgs false
end
end Go.Proofs.YtnfmbjchkjijpaaGreatDoor
namespace Go.HL
section
open Op (bytesLess)
theorem zzI {α:Type} {R:α->α->Prop}: ∀{l:List α},l.Pairwise R->∀x∈l,∀y∈l,x=y\/R x y\/R y x
 |[],_,x,hx,_,_=>by simp at hx
 |a::l,h,x,hx,y,hy=>by
   obtain ⟨h1,h2⟩:=List.pairwise_cons.1 h
   rcases List.mem_cons.1 hx with e|hx'<;>rcases List.mem_cons.1 hy with e'|hy'
   exact .inl (e.trans e'.symm);exact .inr (.inl (e▸h1 y hy'));exact .inr (.inr (e'▸h1 x hx'));exact zzI h2 x hx' y hy'
/-! keeps that are right-/
def kLt (a b:Keep):Prop:=bytesLess a.Team b.Team=true\/(a.Team=b.Team/\a.Round<b.Round)
theorem zD8 {a b:Keep} (h: ¬orI [zZ b.Team a.Team,zab b.Round a.Round]<=0):kLt a b:=by
 rw [zgL] at h
 rcases zcf a.Team b.Team with h1|h1|h1
 exact .inl h1;refine .inr ⟨h1,?_⟩
 rw [h1] at h
 simp [zaz,orI,zab] at h
 split at h
 omega
 split at h<;>omega
 rw [h1] at h;simp [orI] at h
structure KeepsOk (r:Room) (k:List Keep):Prop where
 all: ∀x∈k,x.Team∈r.Teams/\x.Player∈r.Players/\1<=x.Round/\x.Round<=r.Rounds
 lt:k.Pairwise kLt
theorem zx3 {r:Room} {l:List Keep}: ∀(t:List Keep) (k:Nat) (kept:List Str) (tw:Bool),l.drop k=t->zsA r l k kept tw t=0->
 (∀x∈t,x.Team∈r.Teams/\x.Player∈r.Players/\1<=x.Round/\x.Round<=r.Rounds)/\∀(i:Nat) (a b:Keep),k<=i+1->l[i]? =some a->l[i+1]? =some b->kLt a b
 |[],k,kept,tw,hd,h=>⟨by simp,fun i a b hi ha hb=>by
    have:=zm hb;have h2:l.length<=k:=by rw [<-List.drop_eq_nil_iff];exact hd
    omega⟩
 |x::t,k,kept,tw,hd,h=>by
   have hk:l[k]? =some x:=by
    have:=congrArg (fun q=>q[0]?) hd
    simpa using this
   have hd':l.drop (k+1)=t:=by
    have:=zg hk;rw [hd] at this;simp at this;exact this.symm
   simp only [zsA] at h
   split at h
   omega
   rename_i h1
   split at h
   omega
   rename_i h2
   split at h
   omega
   rename_i h3
   obtain ⟨h4,h5⟩:=zx3 t (k+1) _ _ hd' h;have h2':=zfy (by simpa using h2);refine ⟨fun y hy=> ?_,fun i a b hi ha hb=> ?_⟩
   rcases List.mem_cons.1 hy with rfl|hy
   simp at h1;exact ⟨h1.1,h1.2,h2'⟩
   exact h4 y hy
   by_cases e:k=i+1
   subst e;rw [hk] at hb;cases hb;refine zD8 fun hc=>h3 ?_
   simp [List.getD,ha];exact hc
   exact h5 i a b (by omega) ha hb
theorem zpf {l:List Str}: ∀(r:List Str) (k:Nat),zbP l k r=0->∀s∈r,key s=true
 |[],_,_,s,hs=>by simp at hs
 |x::r,k,h,s,hs=>by
   simp only [zbP] at h
   split at h
   omega
   rename_i h1
   split at h
   omega
   rcases List.mem_cons.1 hs with rfl|hs
   simpa using h1
   exact zpf r (k+1) h s hs
def zxW (t:Turn) (x:Keep):Bool:=decide (x.Team=t.of/\x.Round=t.round)
theorem KeepsOk.one {r:Room} {k:List Keep} (h:KeepsOk r k) {t:Turn} {x y:Keep} (hx:x∈k) (hy:y∈k) (fx:zxW t x=true) (fy:zxW t y=true):y=x:=by
 simp [zxW] at fx fy
 rcases zzI h.lt x hx y hy with e|e|e
 exact e.symm
 exfalso
 rcases e with e|⟨e1,e2⟩
 rw [fx.1,fy.1,zaz] at e;cases e
 omega
 exfalso
 rcases e with e|⟨e1,e2⟩
 rw [fx.1,fy.1,zaz] at e;cases e
 omega
def zum (k:List Keep) (l:List Pick) (s:Str):Bool:=k.any (fun x=>x.Player==s)||l.any (fun p=>p.Player==s)
end
section
section
variable {r:Room} {k:List Keep} {fr l:List Pick} {p:Pick}
end
structure Wish where
 Team:Str
 Players:List Str
theorem zx1 (k:List Keep) (l:List Pick) (p:Pick) (s:Str):zum k (l++[p]) s=(zum k l s||p.Player==s):=by
 simp [zum,Cq]
/-! what a run holds-/
structure RunOk (r:Room) (k:List Keep) (s:List Swap) (l:List Pick) (S:List Str):Prop where
 gone: ∀x∈r.Players,S.contains x=zum k l x
theorem RunOk.add {r:Room} {k:List Keep} {s:List Swap} {l:List Pick} {S:List Str} (ok:RunOk r k s l S) (p:Pick):RunOk r k s (l++[p]) (zci p.Player S):=
 ⟨fun x hx=>by rw [zx1,znW,ok.gone x hx]⟩
end
section
theorem ztb {α:Type} {p:α->Bool} {l:List α} (h:0<=zW p l 0): ∃(i:Nat) (x:α),zW p l 0=(i:Int)/\l[i]? =some x/\l.find? p=some x:=by
 obtain ⟨i,h1,h2,⟨x,hx,hp⟩,hb⟩:=zgQ p l 0 (by omega) (by omega);refine ⟨i,x,by omega,hx,?_⟩
 have e:l=l.take i++x::l.drop (i+1):=by rw [<-zg hx,A0]
 rw [e,List.find?_append,List.find?_eq_none.2 (by simpa using hb)]
 simp [hp]
theorem zoZ {α:Type} {p:α->Bool} {l:List α} (h:zW p l 0<0):l.find? p=none:=by
 have:=zcH p l 0 (by omega);rw [List.find?_eq_none]
 intro x hx hp
 have h1:l.any p=true:=List.any_eq_true.2 ⟨x,hx,hp⟩;rw [<-this] at h1
 simp at h1;omega
section
variable {r:Room} {w:List Wish} {k:Nat} {x:Wish} {t:List Wish}
end
end
end Go.HL
namespace Go.Proofs.YtnfmbjchkjijpaaGreatDoor
set_option maxRecDepth 100000
set_option linter.unusedVariables false
set_option linter.unusedSimpArgs false
section
open Go.HL
set_option linter.unusedSimpArgs false
end
section
open Go.HL
set_option linter.unusedSimpArgs false
end
section
open Go.HL
set_option linter.unusedSimpArgs false
end
section
open Go.HL
set_option linter.unusedSimpArgs false
end
section
open Go.HL
set_option linter.unusedSimpArgs false
end
section
open Go.HL
set_option linter.unusedSimpArgs false
end
section
open Go.Proofs.Tryz
open Go.HL
theorem zgd [Tracks] {b:Nat} {l:List Int} {a:Nat} {n:Nat} (ha:a<=800000) (hn1:1<=n) (hn2:n<=1000):Con prog 152 [pAt b,.int .i64 (n:Int)] [St b l a] (fun x M'=> ∃(L:List Int) (a':Nat),x= .slice 1 (L.map (.int .i64))/\(L.length=n/\∀i∈L,(0:Int)<=i/\i<n)/\a'<=a+n/\M'=[St b l a']):=by
 refine uOb func152 ntmps152 ?_;refine gz6 ?_;refine ze (zK 1) ?_;refine gz6 ?_;refine uV3 [5,2,10,8] (fun (k:Nat) (u:Value) (L:List Int)=>[(10,.int .i64 (k:Int)),(5,.raw u)]) (fun (k:Nat) (u:Value) (L:List Int)=>[.arr u 1 (L.map (HVal.int .i64)),St b l a]) (fun (k:Nat) (u:Value) (L:List Int)=>k<=n/\L.length=k/\∀i∈L,(0:Int)<=i/\i<n) (fun (k:Nat) (u:Value) (L:List Int)=>n-k) (0) (.slice none 0 0) ([]) ?_ ?_ ?_ ?_;exact ⟨by omega,rfl,by simp⟩;exact ⟨rfl,rfl,trivial⟩;exact zk rfl
 intro k u L hinv
 obtain ⟨hk,hL,hLb⟩:=hinv;refine gz4 ?_;refine uCo (fun h1=> ?_) fun h2=> ?_
 have hkn:k<n:=by omega
 refine zco ?_;refine dq (za (hs:=[_]) zX ty3 rfl rfl (by decide) (by decide) rfl) ?_;refine de rfl (zL (i:=0) zX ty3 rfl rfl rfl rfl rfl (by simp [zat,zb]) uSo fun v16=> ?_)
 refine gz8 ?_;exact ⟨k+1,v16,L++[(k:Int)],⟨by omega,by simp [hL],fun i hi=>by rcases List.mem_append.1 hi with h|h;exact hLb i h;(simp at h;omega)⟩,uD,⟨rfl,rfl,trivial⟩,uK,zk (by simp)⟩;obtain rfl:n=k:=by omega
 refine gz2 ?_;refine zcN ?_;refine gz3 ?_;refine ze (Ghost.perm (M':=[St b l a,.arr u 1 (L.map (.int .i64))]) uP) ?_;refine zbV (i:=1) rfl (fun h0 he=> ?_) (fun ob off cap hv hcap=> ?_)
 exfalso;have:=congrArg List.length he;simp at this;subst this;simp at hL;omega
 rw [Af,hL] at hv hcap;subst hv;refine gz6 ?_;refine uV3 [7,2,20,22] (fun (m:Nat) (L:List Int) (a2:Nat)=>[(7,.int .i64 (m:Int))]) (fun (m:Nat) (L:List Int) (a2:Nat)=>[St b l a2,.arr (.slice (some ⟨ob,off,none⟩) n cap) 1 (L.map (HVal.int .i64))]) (fun (m:Nat) (L:List Int) (a2:Nat)=>m<n/\(L.length=n/\∀i∈L,(0:Int)<=i/\i<n)/\a2+m<=a+n) (fun (m:Nat) (L:List Int) (a2:Nat)=>m) (n-1) (L) (a) ?_ ?_ ?_ ?_;exact ⟨by omega,⟨hL,hLb⟩,by omega⟩;exact ⟨zP uO,trivial⟩;exact Ac _
 intro m L a2 hinv
 obtain ⟨hm,⟨hL,hLb⟩,ha2⟩:=hinv;refine gz5 ?_;refine uCo (fun h3=> ?_) fun h4=> ?_
 have hm0:0<m:=by omega
 refine gz8 ?_;refine de rfl (uCx 0 zjr rfl rfl (zap uO uO) ?_)
 rintro _ _ ⟨y27,rfl,hy27,rfl⟩;refine gz2 ?_;obtain ⟨z1,hz1⟩: ∃z,L[y27]? =some z:=⟨_,Aa uO⟩
 obtain ⟨z2,hz2⟩: ∃z,L[m]? =some z:=⟨_,Aa uO⟩
 obtain ⟨z3,hz3⟩: ∃z,(L.set m z1)[y27]? =some z:=⟨_,Aa uSo⟩
 refine zba (fun M=> ∃i:Nat,M[i]? =some (.arr (.slice (some ⟨ob,off,none⟩) n cap) 1 (L.map (HVal.int .i64)))) [7,11] mixed ?_;refine gz6 ?_;refine uB 6 rfl (zv (j:=y27) zX ty3 rfl rfl rfl uO) ?_;refine uM 7 rfl (⟨1,rfl⟩) (fun M hM=>by obtain ⟨i,hi⟩:=hM;exact zae (i:=i) (j:=y27) 0 ty3 rfl uO hi hz1 rfl rfl ⟨rfl,rfl⟩) ?_;refine gz2 ?_;refine uB 10 rfl (zv (j:=m) zX ty3 rfl rfl rfl uO) ?_;refine uM 11 rfl (⟨1,rfl⟩) (fun M hM=>by obtain ⟨i,hi⟩:=hM;exact zae (i:=i) (j:=m) 0 ty3 rfl uO hi hz2 rfl rfl ⟨rfl,rfl⟩) ?_;refine uB 12 rfl (zv (j:=m) zX ty3 rfl rfl rfl uO) ?_;refine uF 13 ?_;refine zy (zaH (i:=1) (f:=HVal.int .i64) (es:=L) (j:=m) (y:=z2) (y':=z1) ty3 rfl rfl rfl rfl hz2 rfl rfl rfl ?_)
 refine ⟨uE,?_⟩
 refine uB 14 rfl (zv (j:=y27) zX ty3 rfl rfl rfl uO) ?_;refine uF 15 ?_;refine zy (zaH (i:=1) (f:=HVal.int .i64) (es:=L.set m z1) (j:=y27) (y:=z3) (y':=z2) ty3 rfl rfl rfl rfl hz3 rfl rfl rfl ?_)
 refine ⟨uE,?_⟩
 refine gz8 ?_;exact ⟨m-1,(L.set m z1).set y27 z2,a2+1,⟨by omega,⟨by simp [hL],zfL (P:=fun i:Int=>0<=i/\i<n) (zfL (P:=fun i:Int=>0<=i/\i<n) hLb (hLb z1 (Ab hz1))) (hLb z2 (Ab hz2))⟩,by omega⟩,uD,⟨zP uO,trivial⟩,uK,zk (by simp [List.map_set])⟩;refine gz2 ?_;refine zcN ?_;refine gz7 ?_;refine zao (zaD 4 (i:=1) rfl rfl) rfl ⟨L,a2,rfl,⟨hL,hLb⟩,by omega,rfl⟩
end
section
open Go.HL
set_option linter.unusedSimpArgs false
end
end Go.Proofs.YtnfmbjchkjijpaaGreatDoor
namespace Go.HL
section
variable {P:Program}
open Go.Sort Go.Proofs
end
end Go.HL
namespace Go.Proofs.YtnfmbjchkjijpaaGreatDoor
set_option maxRecDepth 100000
set_option linter.unusedVariables false
set_option linter.unusedSimpArgs false
section
open Go.Proofs.Tryz
open Go.HL
theorem zgl [Tracks] {l:List StatS} {fid:FuncId} {caps:List HVal} {p:StatS->Bool} (hca:Callable prog fid) (hp: ∀x,ConP prog fid ([zbg x]++caps) (.bool (p x))) (hl:l.length<=1000000):ConP prog 398 [.slice 2 (l.map zbg),.fn (.func fid) [] caps] (.int .i64 (zW p l 0)):=by
 refine uOb func398 ntmps398 ?_;refine zay ?_;refine uT1 [4,2,8,11] (fun k=>[(8,.int .i64 k)]) (fun k=>[]) (fun k=>k<=l.length/\(zW p l 0=zW p (l.drop k) k)) (fun k=>l.length-k) (0) ?_ ?_;exact ⟨Ad _,rfl⟩;rintro k ⟨hk,hg⟩;refine gz4 ?_;refine uCo (fun h1=> ?_) fun h2=> ?_
 obtain ⟨x,hx⟩: ∃x,l[k]? =some x:=⟨_,Aa h1⟩
 have hdx:=zg hx;rw [hdx] at hg;refine zda ?_;refine dq (zag hca rfl rfl (WeakL.refl _) (hp _)) ?_;refine gz1 ?_;refine uCo (fun h3=> ?_) fun h4=> ?_
 refine gz5 ?_;refine uRp ?_
 (rw [hg];simp_all [zW])
 refine gz7 ?_;refine ⟨k+1,?_,?_,⟨rfl,trivial⟩,uK,Ac _⟩
 refine ⟨by omega,?_⟩
 rw [hg,zW,if_neg uSa];rfl
 dsimp only;omega
 have hnk:l.length<=k:=by omega
 obtain rfl:k=l.length:=by omega
 rw [zC (Ae _)] at hg;refine gz2 ?_;refine zu ?_;refine gz6 ?_;refine uRp ?_
 (rw [hg];rfl)
theorem zlU [Tracks] {l:List Int} {z:Int} (hl:l.length<=1000000):ConP prog 138 [.slice 1 (l.map (.int .i64)),.int .i64 z] (.int .i64 (zW (· ==z) l 0)):=by
 refine uOb func138 ntmps138 ?_;refine zay ?_;refine uT1 [4,2,8,11] (fun k=>[(8,.int .i64 k)]) (fun k=>[]) (fun k=>k<=l.length/\(zW (· ==z) l 0=zW (· ==z) (l.drop k) k)) (fun k=>l.length-k) (0) ?_ ?_;exact ⟨Ad _,rfl⟩;rintro k ⟨hk,hg⟩;refine gz4 ?_;refine uCo (fun h1=> ?_) fun h2=> ?_
 obtain ⟨x,hx⟩: ∃x,l[k]? =some x:=⟨_,Aa h1⟩
 have hdx:=zg hx;rw [hdx] at hg;refine zoW ?_;refine uCo (fun h3=> ?_) fun h4=> ?_
 refine gz5 ?_;refine uRp ?_
 (rw [hg];simp_all [zW])
 refine gz7 ?_;refine ⟨k+1,?_,?_,⟨rfl,trivial⟩,uK,Ac _⟩
 refine ⟨by omega,?_⟩
 rw [hg,zW,if_neg (by simp_all;try omega)];rfl
 dsimp only;omega
 have hnk:l.length<=k:=by omega
 obtain rfl:k=l.length:=by omega
 rw [zC (Ae _)] at hg;refine gz2 ?_;refine zu ?_;refine gz6 ?_;refine uRp ?_
 (rw [hg];rfl)
theorem zdG [Tracks] {l:List Int} {z:Int} (hl:l.length<=1000000):ConP prog 68 [.slice 1 (l.map (.int .i64)),.int .i64 z] (.bool (l.contains z)):=by
 refine uOb func68 ntmps68 ?_;refine gz6 ?_;refine dq (uCl zE6 rfl (zlU (by assumption))) ?_;refine gz4 ?_;refine zt rfl ?_
 show HVal.bool _=_
 rw [zt5,<-zcH _ l 0 uO]
theorem ze3 [Tracks] {n:Int}:ConP prog 108 [.int .i64 n] (.int .i64 (if za4 n then 0 else 1)):=by
 refine uOb func108 ntmps108 ?_;refine gz5 ?_;refine dq (uCl zBO rfl zhJ) ?_;refine gz3 ?_;refine uRp ?_;unfold za4
 cases out n 1 60<;>rfl
theorem zmj [Tracks] {p:Play} (hgp:zds p):ConP prog 105 [zaA p] (.int .i64 (playFault p)):=by
 refine uOb func105 ntmps105 ?_;refine gz9 ?_;refine dq (uCl zjL rfl (zbS hgp.1)) ?_;refine gz3 ?_;refine uCo (fun h1=> ?_) fun h2=> ?_
 refine gz4 ?_;refine uRp ?_
 simp_all [playFault]
 refine gz3 ?_;refine dq (uCl zm6 rfl zc2) ?_;refine gz4 ?_;refine uGr rfl (fun hc=>uCl zuc rfl zc0) ?_;refine gz5 ?_;refine uGr rfl (fun hc=>uCl zxz rfl ze3) ?_;refine gz4 ?_;refine uCo (fun h3=> ?_) fun h4=> ?_
 refine gz4 ?_;refine uRp ?_
 simp_all [playFault]
 refine gz3 ?_;refine dq (uCl zjL rfl (zbS hgp.2.1)) ?_;refine gz4 ?_;refine uGr rfl (fun hc=>uCl zjL rfl (zbS hgp.2.2.1)) ?_;refine gz5 ?_;refine uGr rfl (fun hc=>uCl zjL rfl (zbS hgp.2.2.2)) ?_;refine gz4 ?_;refine uCo (fun h5=> ?_) fun h6=> ?_
 refine gz4 ?_;refine uRp ?_
 simp_all [playFault]
 refine gz3 ?_;refine dq (uCl zm6 rfl zc2) ?_;refine gz6 ?_;have hN:=zfy (n:=p.No) (lo:=1) (hi:=3000) uSa;refine gz1 ?_;refine uGr rfl (fun hc=>uCl zm6 rfl zc2) ?_;refine gz4 ?_;refine uCo (fun h7=> ?_) fun h8=> ?_
 refine gz4 ?_;refine uRp ?_
 simp_all [playFault]
 refine zco ?_;refine uCo (fun h9=> ?_) fun h10=> ?_
 refine gz4 ?_;refine uRp ?_
 simp_all [playFault]
 refine gz7 ?_;refine uRp ?_
 simp_all [playFault]
theorem zoi [Tracks] {a b:Play}:ConP prog 106 [zaA a,zaA b] (.int .i64 (byNo a b)):=by
 refine uOb func106 ntmps106 ?_;refine gz5 ?_;refine uDr mixed ?_;refine gz4 ?_;refine uB 4 rfl (uCl zc3 rfl zN) ?_;refine gz4 ?_;refine uB 9 rfl (uCl zd4 rfl zU) ?_;refine uB 10 rfl (za (hs:=[_,_]) zX ty3 rfl rfl (by decide) (by decide) rfl) ?_;refine uB 11 rfl (uCl zia rfl (zbe (l:=[_,_]) (by simp))) ?_;refine gz3 ?_;refine zt rfl ?_
 rfl
theorem zlK [Tracks] {l:List Play} (hl:l.length<=1000000) (hgl: ∀x∈l,zds x):ConP prog 43 [zb4 l] (.int .i64 (zcj l)):=by
 refine uOb func43 ntmps43 ?_;refine gz9 ?_;refine uCo (fun h1=> ?_) fun h2=> ?_
 refine gz4 ?_;refine zao Ghost.clear rfl ⟨?_,rfl⟩
 show HVal.int .i64 _=_
 (rw [zcj,if_pos uO])
 refine gz3 ?_;refine de rfl (zaN fun m12=> ?_)
 refine de rfl (zaN fun m13=> ?_)
 refine zdy ?_;refine uT1 [2,1,5,4,16,48] (fun k=>[(16,.int .i64 k),(5,.bool (zby (l.take k)).c)]) (fun k=>[.map m13 (sk (em (.int .i64) (zby (l.take k)).W)),.map m12 (sk (zaY (zby (l.take k)).S))]) (fun k=>k<=l.length/\(zch l 0 l=zch l k (l.drop k)/\∀y∈l.take k,playFault y=0)) (fun k=>l.length-k) (0) ?_ ?_;exact ⟨Ad _,rfl,by simp⟩;rintro k ⟨hk,hg,hok⟩;refine gz4 ?_;refine uCo (fun h3=> ?_) fun h4=> ?_
 obtain ⟨x,hx⟩: ∃x,l[k]? =some x:=⟨_,Aa h3⟩
 have hdx:=zg hx;rw [hdx] at hg;refine gz8 ?_;refine de rfl (zj zb7 rfl fun b7=> ?_)
 refine gz1 ?_;refine de0 (zn zb7 rfl rfl rfl rfl rfl ?_)
 refine gz1 ?_;refine ze (zo 7 rfl) ?_;refine gz3 ?_;refine dq (uCl zEK rfl (zmj (hgl x (Ab hx)))) ?_;refine gz6 ?_;refine uCo (fun h5=> ?_) fun h6=> ?_
 refine gz5 ?_;refine zao Ghost.clear rfl ⟨?_,rfl⟩
 show HVal.int .i64 _=_
 (rw [zlB uO (by rw [hg,zch,if_pos (by simpa using h5)]) (by simpa using h5)])
 refine gz3 ?_;refine uDr mixed ?_;refine gz6 ?_;refine uGy 6 rfl rfl (fun hc=>by have hq:=hc;(try simp at hq);exact zB (j:=k-1) (a:=l.getD (k-1) znn) zhH zb7 rfl rfl uO (getD_some uO)) ?_;refine gz2 ?_;refine uGy 9 rfl rfl (fun hc=>uCl zEL rfl zoi) ?_;refine gz3 ?_;refine uCo (fun h7=> ?_) fun h8=> ?_
 refine gz4 ?_;refine zao Ghost.clear rfl ⟨?_,rfl⟩
 show HVal.int .i64 _=_
 (rw [zlB (c:=7) uO (by rw [hg,zch,if_neg (by simpa using h6),if_pos (by obtain ⟨qa,qb⟩:=h7;have qb':0<=byNo (l.getD (k-1) znn) x:=(by simpa using qb);rw [zsZ];exact ⟨by omega,by omega⟩)]) (by decide)])
 refine gz6 ?_;refine de0 (zc5 (i:=1) ziY ty9 rfl rfl rfl rfl ?_)
 refine gz7 ?_;refine dgl rfl rfl (fun hc=>⟨_,OpenTo.upd (t:=45) rfl (hc) (OpenTo.upd (t:=43) rfl (hc) (OpenTo.refl _)),zfQ (i:=0) (z0:=(0:Int)) ze1 ty9 ty3 rfl rfl rfl rfl ⟨rfl,rfl⟩⟩) ?_;refine gz5 ?_;refine dgl rfl rfl (fun hc=>⟨_,OpenTo.upd (t:=51) rfl (hc) (OpenTo.upd (t:=49) rfl (hc) (OpenTo.refl _)),zfQ (i:=0) (z0:=(0:Int)) ze1 ty9 ty3 rfl rfl rfl rfl ⟨rfl,rfl⟩⟩) ?_;refine zdy ?_;refine de0 (zdP (i:=0) ze1 ty9 rfl rfl rfl rfl ?_)
 refine gz7 ?_;refine ⟨k+1,⟨by omega,?_,?_⟩,uD,⟨rfl,?_,trivial⟩,uK,?_⟩
 rw [hg,zno (by simpa using h6) (fun hk0=>by have hz:=h8;rw [zsZ] at hz;simp_all;try omega)]
 intro y hy
 rw [zR hx] at hy
 rcases List.mem_append.1 hy with hy|hy
 exact hok y hy;rw [List.mem_singleton.1 hy];simpa using h6;rw [zfu hx,<-zCF hok];exact congrArg (fun b=>some (HVal.bool b)) (by cases (zby (l.take k)).c<;>simp);exact zk (by dsimp only;rw [zfu hx];rfl);have hnk:l.length<=k:=by omega
 obtain rfl:k=l.length:=by omega
 rw [zC (Ae _)] at hg;rw [Ai];refine gz2 ?_;refine zu ?_;refine gz4 ?_;have e1:(sk (zaY (zby l).S)).length=(zby l).S.length:=by simp [sk,zaY]
 have e2:(sk (em (HVal.int .i64) (zby l).W)).length=(zby l).W.length:=by simp [sk]
 refine gz2 ?_;refine de rfl (zeC (i:=1) ziY rfl rfl ?_)
 refine gz3 ?_;refine dgl rfl rfl (fun hc=>⟨_,OpenTo.upd (t:=69) rfl (hc) (OpenTo.refl _),zeC (i:=0) ze1 rfl rfl ⟨rfl,rfl⟩⟩) ?_;refine gz4 ?_;refine uCo (fun h9=> ?_) fun h10=> ?_
 refine gz4 ?_;refine zao Ghost.clear rfl ⟨?_,rfl⟩
 show HVal.int .i64 _=_
 (rw [zfT uO hg,zfm,if_pos uO])
 refine gz4 ?_;refine uCo (fun h11=> ?_) fun h12=> ?_
 refine gz4 ?_;refine zao Ghost.clear rfl ⟨?_,rfl⟩
 show HVal.int .i64 _=_
 (rw [zfT uO hg,zfm,if_neg uO,if_pos (by assumption)])
 refine gz7 ?_;refine zao Ghost.clear rfl ⟨?_,rfl⟩
 show HVal.int .i64 _=_
 (rw [zfT uO hg,zfm,if_neg uO,if_neg uSa])
theorem zlL [Tracks] {l:List Str} (hl:l.length<=1000000) (hs: ∀s∈l,Sh s):ConP prog 100 [eSs l] (.int .i64 (zb5 l)):=by
 refine uOb func100 ntmps100 ?_;refine gz9 ?_;refine uCo (fun h1=> ?_) fun h2=> ?_
 refine gz4 ?_;refine uRp ?_
 (rw [zb5,if_pos uO])
 refine gz9 ?_;refine uT1 [2,3,10,16] (fun k=>[(10,.int .i64 k)]) (fun k=>[]) (fun k=>k<=l.length/\(zb5 l=zey l k (l.drop k))) (fun k=>l.length-k) (0) ?_ ?_;refine ⟨Ad _,?_⟩
 rw [zb5,if_neg uO];rfl;rintro k ⟨hk,hg⟩;refine gz4 ?_;refine uCo (fun h3=> ?_) fun h4=> ?_
 obtain ⟨x,hx⟩: ∃x,l[k]? =some x:=⟨_,Aa h3⟩
 have hdx:=zg hx;rw [hdx] at hg;refine zda ?_;refine dq (uCl zjL rfl (zbS (hs x (Ab hx)))) ?_;refine gz3 ?_;refine uCo (fun h5=> ?_) fun h6=> ?_
 refine gz4 ?_;refine uRp ?_
 (rw [hg];simp_all [zey])
 refine gz3 ?_;refine dq (zaK zp ty9 rfl rfl ⟨_,_,rfl,rfl⟩ uO uO) ?_;refine gz1 ?_;refine dq (uCl zh9 rfl (zO uSo)) ?_;refine gz2 ?_;refine uCo (fun h7=> ?_) fun h8=> ?_
 refine gz4 ?_;refine uRp ?_
 (rw [hg];simp_all [zey])
 refine gz8 ?_;refine ⟨k+1,?_,?_,⟨rfl,trivial⟩,uK,Ac _⟩
 refine ⟨by omega,?_⟩
 rw [hg];simp_all [zey]
 dsimp only;omega
 have hnk:l.length<=k:=by omega
 obtain rfl:k=l.length:=by omega
 rw [zC (Ae _)] at hg;refine gz2 ?_;refine zu ?_;refine gz6 ?_;refine uRp ?_
 (rw [hg];simp_all [zey])
end
end Go.Proofs.YtnfmbjchkjijpaaGreatDoor
namespace Go.HL
section
open Go.Proofs Go.Shelf
variable {P:Program}
end
section

end
section
section
variable {P:Program}
theorem VL.takeL {I:Imm} {cs:List HVal} {vs:List Value} (h:VL I cs vs) (n:Nat):VL I (cs.take n) (vs.take n):=by
 refine ⟨by rw [Am,Am,h.1],fun j c v h1 h2=> ?_⟩
 have hj:=zm h1;rw [Am] at hj;rw [AD (by omega)] at h1 h2;exact h.2 j c v h1 h2
theorem VL.dropL {I:Imm} {cs:List HVal} {vs:List Value} (h:VL I cs vs) (n:Nat):VL I (cs.drop n) (vs.drop n):=by
 refine ⟨by rw [A5,A5,h.1],fun j c v h1 h2=> ?_⟩
 rw [AG] at h1 h2;exact h.2 _ c v h1 h2
theorem zp1: ∀{a b c d:List HVal},a.length=b.length->zca (a++c) (b++d)=(zca a b&&zca c d)
 |[],[],_,_,_=>by simp [zca]
 |[],_::_,_,_,h=>by simp at h
 |_::_,[],_,_,h=>by simp at h
 |x::a,y::b,c,d,h=>by
   rw [AX,AX,zca,zca,zp1 (a:=a) (b:=b) (by simpa using h),Bool.and_assoc]
theorem zsO [Tracks] {t:TypeId} {fs:List (Nat×Nat)} {s by':Nat} {z:Value} (hf:Fits P t (.struct fs) s by' z) (hq:EqOk P t) {I:Imm} {xs ys:Array Value} {cs ds:List HVal} (hx:VL I cs xs.toList) (hy:VL I ds ys.toList)
 (hk:zjQ P fs 0 cs ds) (n:Nat) (w:World):(Op.equalIn (n+2) t (.agg xs) (.agg ys)).run P w= .ok (zca cs ds) w:=by
 obtain ⟨gs,h1,h2⟩:=hf.structD;have h3:P.fieldsOf t=gs:=by simp [Program.fieldsOf,h1]
 have hn:=hq.names;rw [h3] at hn;rw [run_equalIn_struct w (n+1) t xs ys (by rw [h3];exact h1) hq.held,h3];have:=zkU (P:=P) hx hy n w gs.toList 0 (fun f hf=>by have:=List.all_eq_true.1 hn f hf;simpa using this) (by rw [h2];exact hk)
 simpa using this
theorem zwx [Tracks] {t:TypeId} {gs:List (Nat×Nat)} {s by':Nat} {z:Value} (hf:Fits P t (.struct gs) s by' z) {cs:Array Value} {o:Nat} (w:World):(part t cs o).run P w= .ok (.agg (cs.extract o (o+s))) w:=by
 simp [part,hf.run_isAgg,hf.run_sizeOf,TD.isAgg]
theorem zoO (xs:Array Value) (o s:Nat):(xs.extract o (o+s)).toList=(xs.toList.drop o).take s:=by
 rw [Array.toList_extract,List.extract_eq_take_drop,BR]
end
section
variable {P:Program} {e:Env} {dst:Option Tmp} {ty:TypeId} {pos:String} {af:Array Edge} {g:Option (Nat×Bool)}
end
end
section
section
variable {P:Program}
def zo3 (P:Program):List (Nat×Nat)->Nat->List HVal->List HVal->Prop
 |[],_,cs,ds=>cs=[]/\ds=[]
 |f::fs,k,cs,ds=>f.1=k/\((∃gs s by' z,Fits P f.2 (.struct gs) s by' z/\EqOk P f.2/\s<=cs.length/\s<=ds.length/\zjQ P gs 0 (cs.take s) (ds.take s)/\zo3 P fs (k+s) (cs.drop s) (ds.drop s))\/
    ∃d s by' z a b r r',cs=a::r/\ds=b::r'/\Fits P f.2 d s by' z/\zdD d a b=true/\zo3 P fs (k+1) r r')
theorem zjw [Tracks] {I:Imm} {xs ys:Array Value} {cs ds:List HVal} (hx:VL I cs xs.toList) (hy:VL I ds ys.toList) (n:Nat) (w:World):
 ∀(fs:List Field) (k:Nat),(∀f∈fs,f.name≠ "_")->zo3 P (fs.map fun f=>(f.offset,f.type)) k (cs.drop k) (ds.drop k)->(Op.eqFields (n+2) xs ys fs).run P w= .ok (zca (cs.drop k) (ds.drop k)) w
 |[],k,_,hk=>by
   obtain ⟨h1,h2⟩:=hk;rw [h1,h2]
   simp [Op.eqFields,zca]
 |f::fs,k,hn,hk=>by
   obtain ⟨h1,hk⟩:=hk;simp only at h1
   rcases hk with ⟨gs,s,by',z,h2,hq,l1,l2,h3,h4⟩|⟨d,s,by',z,a,b,r,r',hc,hd,h2,h3,h4⟩
   simp only at h2 hq;rw [AZ,AZ] at h4;have ih:=zjw hx hy n w fs (k+s) (fun f hf=>hn f (by simp [hf])) h4;subst h1;have e1:VL I ((cs.drop f.offset).take s) (xs.extract f.offset (f.offset+s)).toList:=by rw [zoO];exact (hx.dropL _).takeL _
   have e2:VL I ((ds.drop f.offset).take s) (ys.extract f.offset (f.offset+s)).toList:=by rw [zoO];exact (hy.dropL _).takeL _
   have he:=zsO h2 hq e1 e2 h3 n w;have hs:zca (cs.drop f.offset) (ds.drop f.offset)=(zca ((cs.drop f.offset).take s) ((ds.drop f.offset).take s)&&zca (cs.drop (f.offset+s)) (ds.drop (f.offset+s))):=by
    rw [<-AZ (l:=cs),<-AZ (l:=ds),<-zp1 (by rw [Am,Am];omega),A0,A0]
   simp only [Op.eqFields];rw [if_pos (hn f (by simp))];simp only [Sem.run_bind,zwx h2,Result.andThen_ok,he];rw [hs]
   cases hq:zca ((cs.drop f.offset).take s) ((ds.drop f.offset).take s) with
   |true=>simp only [Bool.not_true,AM,if_false,ih,Cr]
   |false=>simp only [B3,if_true,Sem.run_pure,Bool.false_and]
   simp only at h2;have ha:cs[k]? =some a:=by have:=congrArg (fun l:List HVal=>l[0]?) hc;simpa using this
   have hb:ds[k]? =some b:=by have:=congrArg (fun l:List HVal=>l[0]?) hd;simpa using this
   obtain ⟨u,hu,hu'⟩:=hx.get ha;obtain ⟨v,hv,hv'⟩:=hy.get hb;have hr:cs.drop (k+1)=r:=by rw [<-AZ (i:=1),hc];rfl
   have hr':ds.drop (k+1)=r':=by rw [<-AZ (i:=1),hd];rfl
   have ih:=zjw hx hy n w fs (k+1) (fun f hf=>hn f (by simp [hf])) (by rw [hr,hr'];exact h4);subst h1;have p1:=zkV h2 (zin h3) (cs:=xs) (o:=f.offset) (by simpa using hu) w;have p2:=zkV h2 (zin h3) (cs:=ys) (o:=f.offset) (by simpa using hv) w;have he:=zdd h2 h3 hu' hv' (n+1) w;simp only [Op.eqFields];rw [if_pos (hn f (by simp))];simp only [Sem.run_bind,p1,p2,Result.andThen_ok,he];rw [hc,hd,zca,<-hr,<-hr']
   cases hq:eqH a b with
   |true=>simp only [Bool.not_true,AM,if_false,ih,Cr]
   |false=>simp only [B3,if_true,Sem.run_pure,Bool.false_and]
theorem zpX [Tracks] {t:TypeId} {fs:List (Nat×Nat)} {s by':Nat} {z:Value} (hf:Fits P t (.struct fs) s by' z) (hq:EqOk P t) {I:Imm} {xs ys:Array Value} {cs ds:List HVal} (hx:VL I cs xs.toList) (hy:VL I ds ys.toList)
 (hk:zo3 P fs 0 cs ds) (w:World):(Op.equal t (.agg xs) (.agg ys)).run P w= .ok (zca cs ds) w:=by
 obtain ⟨gs,h1,h2⟩:=hf.structD;have h3:P.fieldsOf t=gs:=by simp [Program.fieldsOf,h1]
 have hn:=hq.names;rw [h3] at hn;have h: ∀n,(Op.equalIn (n+3) t (.agg xs) (.agg ys)).run P w= .ok (zca cs ds) w:=fun n=>by
  rw [run_equalIn_struct w (n+2) t xs ys (by rw [h3];exact h1) hq.held,h3];have:=zjw (P:=P) hx hy n w gs.toList 0 (fun f hf=>by have:=List.all_eq_true.1 hn f hf;simpa using this) (by rw [h2];exact hk)
  simpa using this
 exact h 9997
end
end
end Go.HL
namespace Go.Proofs.YtnfmbjchkjijpaaGreatDoor
set_option maxRecDepth 100000
set_option linter.unusedVariables false
set_option linter.unusedSimpArgs false
section
open Go.Proofs.Tryz
open Go.HL
theorem zsa [Tracks] {x:Nat} (hx:x<16):Con prog 233 [.int .u64 (x:Int)] [] (fun y M'=> ∃n:Int,y= .int .i64 n/\M'=[]):=by
 refine uOb func233 ntmps233 ?_;refine gz8 ?_;refine z7 rfl (fun h1=> ?_) (fun h1=> ?_)
 exfalso
 try simp at h1
 omega
 try simp at h1
 refine gz7 ?_;refine z7 rfl (fun h2=> ?_) (fun h2=> ?_)
 exfalso
 try simp at h2
 omega
 try simp at h2
 refine gz7 ?_;refine z7 rfl (fun h3=> ?_) (fun h3=> ?_)
 exfalso
 try simp at h3
 omega
 try simp at h3
 refine gz5 ?_;refine dq (zbO zpI ty5 rfl) ?_;refine dq (zaU (j:=x) ty9 rfl rfl (zHw hx) (Aa (Nat.lt_of_lt_of_le hx (Ak (by kernel_rfl))))) ?_;refine dq (zbO ty5 ty3 rfl) ?_;refine dq (zpA rfl rfl) ?_;refine gz3 ?_;exact zah rfl ⟨_,rfl,rfl⟩
theorem zkx [Tracks] {x:Nat} (hx:x<16):Con prog 158 [.int .u64 (x:Int)] [] (fun y M'=> ∃n:Int,y= .int .i64 n/\M'=[]):=by
 refine uOb func158 ntmps158 ?_;refine gz4 ?_;refine zdQ rfl ?_;refine gz4 ?_;refine de rfl (zaV (M1:=[]) (R:=[]) zB4 rfl (WeakL.refl _) (Ac _) (zsa hx) ?_)
 rintro _ _ ⟨n7,rfl,rfl⟩;refine gz3 ?_;exact zah rfl ⟨_,rfl,rfl⟩
theorem zfF [Tracks] {l:List Asset} {v:Value} {fid:FuncId} {caps:List HVal} {c:Asset->Asset->Int} {n:Int} (hca:Callable prog fid) (hp: ∀x y,ConP prog fid ([zb2 x,zb2 y]++caps) (.int .i64 (c x y))) (hn:n=l.length) (hl:l.length<=1000000):Con prog 331 [.raw v,.int .i64 0,.int .i64 n,.fn (.func fid) [] caps] [.arr v 3 (l.map zb2)] (fun x M'=>x= .tup []/\M'=[.arr v 3 ((zQ c l).map zb2)]):=by
 subst hn;refine uOb func331 ntmps331 ?_;refine gz6 ?_;refine uV1 [8,2,12,41] (fun (k:Nat)=>[(8,.int .i64 (k:Int))]) (fun (k:Nat)=>[.arr v 3 ((zQ c (l.take k)++l.drop k).map zb2)]) (fun (k:Nat)=>1<=k) (fun (k:Nat)=>l.length-k) (1) ?_ ?_ ?_ ?_;exact Ae _;exact ⟨rfl,trivial⟩;exact zk (by rw [zhe])
 intro k hk
 refine gz6 ?_;refine uCo (fun h1=> ?_) fun h2=> ?_
 obtain ⟨x,hx⟩: ∃x,l[k]? =some x:=⟨_,Aa uO⟩
 refine zbV (i:=0) rfl (fun h0 he=> ?_) (fun b off cap hv hcap=> ?_)
 exfalso;have:=congrArg List.length he;simp [zaw] at this;omega
 rw [show ((zQ c (l.take k)++l.drop k).map zb2).length=l.length by simp [zaw];omega] at hv;subst hv;refine gz9 ?_;refine uV2 [9,1,18,35] (fun (A:List Asset) (B:List Asset)=>[(9,.int .i64 (A.length:Int))]) (fun (A:List Asset) (B:List Asset)=>[.arr (.slice (some ⟨b,off,none⟩) l.length cap) 3 ((A++x::(B++l.drop (k+1))).map zb2)]) (fun (A:List Asset) (B:List Asset)=>A.length+B.length=k/\zcY c x (zQ c (l.take k))=zcY c x A++B) (fun (A:List Asset) (B:List Asset)=>A.length) (zQ c (l.take k)) ([]) ?_ ?_ ?_ ?_;exact ⟨by simp [zaw];omega,by simp⟩;exact ⟨zP (by simp [zaw];omega),trivial⟩;exact zk (by rw [zg hx];rfl)
 intro A B hinv
 obtain ⟨hA,hB⟩:=hinv;have hlA:A.length<l.length:=by omega
 have hll:((A++x::(B++l.drop (k+1)))).length=l.length:=by simp;omega
 refine gz1 ?_;refine zbb (fun M=>M=[.arr (.slice (some ⟨b,off,none⟩) l.length cap) 3 ((A++x::(B++l.drop (k+1))).map zb2)]) [8,13] mixed ?_;refine gz7 ?_;refine ahg 7 rfl rfl (by kernel_rfl) (by kernel_rfl) rfl (fun hc=>by
  have hq:0<A.length:=by simpa using hc
  exact ⟨_,OpenTo.upd (t:=24) rfl (hc) (OpenTo.upd (t:=23) rfl (hc) (OpenTo.refl _)),zv (j:=A.length) ziR zdE rfl rfl (by rfl) uO⟩) ?_
 refine zkj 8 rfl rfl (by kernel_rfl) (by kernel_rfl) (by simp) rfl rfl (fun hc=>⟨_,OpenTo.upd (t:=25) rfl (hc) (OpenTo.refl _),fun M hM=>by
  subst hM;exact z6 (i:=0) (j:=A.length) zdE rfl rfl rfl zc8 rfl rfl rfl ⟨rfl,rfl⟩
  ⟩) ?_
 refine gz2 ?_;refine ahg 11 rfl rfl (by kernel_rfl) (by kernel_rfl) rfl (fun hc=>by
  have hq:0<A.length:=by simpa using hc
  exact ⟨_,OpenTo.upd (t:=28) rfl (hc) (OpenTo.refl _),zeH rfl rfl uO uO⟩) ?_
 refine ahg 12 rfl rfl (by kernel_rfl) (by kernel_rfl) rfl (fun hc=>by
  have hq:0<A.length:=by simpa using hc
  exact ⟨_,OpenTo.upd (t:=29) rfl (hc) (OpenTo.upd (t:=27) rfl (hc) (OpenTo.refl _)),zv (j:=A.length-1) ziR zdE rfl rfl uO uO⟩) ?_
 refine zkj 13 rfl rfl (by kernel_rfl) (by kernel_rfl) (by simp) rfl rfl (fun hc=>⟨_,OpenTo.upd (t:=30) rfl (hc) (OpenTo.refl _),fun M hM=>by
  have hq:0<A.length:=by simpa using hc
  subst hM;exact z6 (i:=0) (j:=A.length-1) zdE rfl rfl rfl (zcL hq) rfl rfl rfl ⟨rfl,rfl⟩
  ⟩) ?_
 refine uGy 14 rfl rfl (fun hc=>zag hca rfl rfl (WeakL.refl _) (hp _ _)) ?_;refine gz3 ?_;refine uCo (fun h3=> ?_) fun h4=> ?_
 obtain ⟨hA0,hcx⟩:=h3;obtain ⟨A1,y,rfl⟩:=zkd hA0;rw [zdp] at hcx;refine gz4 ?_;refine zba (fun M=>M=[.arr (.slice (some ⟨b,off,none⟩) l.length cap) 3 (((A1++[y])++x::(B++l.drop (k+1))).map zb2)]) [9,13] mixed ?_;refine gz8 ?_;refine uB 8 rfl (zv (j:=(A1++[y]).length-1) ziR zdE rfl rfl uO uO) ?_;refine uM 9 rfl rfl (uW (z6 (i:=0) (j:=(A1++[y]).length-1) zdE rfl rfl rfl ((zcL hA0).trans (by rw [zdp])) rfl rfl rfl ⟨rfl,rfl⟩)) ?_;refine gz2 ?_;refine uB 12 rfl (zv (j:=(A1++[y]).length) ziR zdE rfl rfl rfl uO) ?_;refine uM 13 rfl rfl (uW (z6 (i:=0) (j:=(A1++[y]).length) zdE rfl rfl rfl zc8 rfl rfl rfl ⟨rfl,rfl⟩)) ?_;refine uB 14 rfl (zv (j:=(A1++[y]).length) ziR zdE rfl rfl rfl uO) ?_;refine uF 15 ?_;refine zy (zaH (i:=0) (j:=(A1++[y]).length) (y:=x) (y':=y) zdE rfl rfl rfl rfl zc8 rfl rfl rfl ?_)
 refine ⟨uE,?_⟩
 refine uB 16 rfl (zv (j:=(A1++[y]).length-1) ziR zdE rfl rfl uO uO) ?_;refine uF 17 ?_;refine zy (zaH (i:=0) (j:=(A1++[y]).length-1) (y:=y) (y':=x) zdE rfl rfl rfl rfl (by rw [A3 (by simp)];exact (zcL hA0).trans (by rw [zdp])) rfl rfl rfl ?_)
 refine ⟨uE,?_⟩
 refine gz8 ?_;exact ⟨A1,y::B,⟨by simp at hA⊢;omega,zkP hB hcx⟩,by dsimp only;simp,⟨zP (by simp),trivial⟩,uK,zk (by rw [zkY];rfl)⟩;have hins:=zkO (l:=l) (k:=k) hx hB (by intro h0;have:=h4 h0;omega);refine gz2 ?_;refine zI ?_;refine gz8 ?_;refine ⟨k+1,?_,?_,⟨rfl,trivial⟩,uK,zk (by rw [hins])⟩
 omega
 dsimp only;omega
 have hend:zQ c (l.take k)++l.drop k=zQ c l:=by rw [A4 uO,zC uO];simp
 refine gz2 ?_;refine zu ?_;refine gz1 ?_;exact ⟨_,_,Ghost.sub (Sub.refl _),_,_,rfl,Weak.refl _,rfl,by rw [hend]⟩
theorem zhc [Tracks] {l:List Asset} {v:Value} {fid:FuncId} {caps:List HVal} {c:Asset->Asset->Int} {lim:Int} (hca:Callable prog fid) (hp: ∀x y,ConP prog fid ([zb2 x,zb2 y]++caps) (.int .i64 (c x y))) (hl:l.length<=12):Con prog 270 [.raw v,.int .i64 0,.int .i64 (l.length:Int),.int .i64 lim,.fn (.func fid) [] caps] [.arr v 3 (l.map zb2)] (fun x M'=>x= .tup []/\M'=[.arr v 3 ((zQ c l).map zb2)]):=by
 refine uOb func270 ntmps270 ?_;refine gz7 ?_;refine uU1 [1,3,10,138] (fun (u:Unit)=>[(1,.int .i64 0),(2,.int .i64 (l.length:Int))]) (fun (u:Unit)=>[.arr v 3 (l.map zb2)]) (fun (u:Unit)=>True) (fun (u:Unit)=>0) (()) ?_ ?_
 trivial
 intro u hu
 refine zc9 ?_;refine z7 rfl (fun h1=> ?_) (fun h1=> ?_)
 try simp at h1
 refine gz5 ?_;refine de rfl (uCx 0 zGA rfl rfl (zfF (l:=l) hca hp uO uO) ?_)
 rintro _ _ ⟨rfl,rfl⟩;refine gz2 ?_;exact zah rfl ⟨rfl,rfl⟩
 exfalso
 try simp at h1
 omega
theorem zgc [Tracks] {l:List Asset} {v:Value} {fid:FuncId} {caps:List HVal} {c:Asset->Asset->Int} (hca:Callable prog fid) (hp: ∀x y,ConP prog fid ([zb2 x,zb2 y]++caps) (.int .i64 (c x y))) (hl:l.length<=12):Con prog 207 [.raw v,.fn (.func fid) [] caps] [.arr v 3 (l.map zb2)] (fun x M'=>x= .tup []/\M'=[.arr v 3 ((zQ c l).map zb2)]):=by
 refine uOb func207 ntmps207 ?_;refine gz2 ?_;refine de rfl (zau (i:=0) ziR rfl rfl ?_)
 refine gz6 ?_;refine dq (zY (zbO ty3 zi1 rfl) (congrArg _ (zsT uO))) ?_;refine de rfl (zaV (M1:=[]) (R:=[_]) zuf rfl (WeakL.refl _) (Ac _) (zkx (x:=l.length) uO) ?_)
 rintro _ _ ⟨n11,rfl,rfl⟩;refine gz1 ?_;refine de rfl (uCx 0 zGh rfl rfl (zhc hca hp hl) ?_)
 rintro _ _ ⟨rfl,rfl⟩;refine gz1 ?_;exact ⟨_,_,Ghost.sub (Sub.refl _),_,_,rfl,Weak.refl _,rfl,rfl⟩
end
section
open Go.HL
set_option linter.unusedSimpArgs false
end
section
open Go.Proofs.Tryz
open Go.HL
theorem zoA [Tracks] {x:Asset}:ConP prog 132 [zb2 x] (.int .i64 (assetFault x)):=by
 refine uOb func132 ntmps132 ?_;refine gz9 ?_;refine dq (uCl zbK rfl zak) ?_;refine gz4 ?_;refine uGr rfl (fun hc=>uCl zbK rfl zak) ?_;refine gz4 ?_;refine uCo (fun h1=> ?_) fun h2=> ?_
 refine gz4 ?_;refine uRp ?_
 simp_all [assetFault]
 refine gz3 ?_;refine dq (uCl zct rfl zai) ?_;refine gz2 ?_;refine uCo (fun h3=> ?_) fun h4=> ?_
 refine gz4 ?_;refine uRp ?_
 simp_all [assetFault]
 refine gz7 ?_;refine uRp ?_
 simp_all [assetFault]
theorem zn5 [Tracks] {l:List Asset} (hl:l.length<=1000000):ConP prog 58 [zj8 l] (.int .i64 (zdN l)):=by
 refine uOb func58 ntmps58 ?_;refine gz9 ?_;refine uCo (fun h1=> ?_) fun h2=> ?_
 refine gz4 ?_;refine uRp ?_
 (rw [zdN,if_pos uO])
 refine gz9 ?_;refine uT1 [2,4,11,24] (fun k=>[(11,.int .i64 k)]) (fun k=>[]) (fun k=>k<=l.length/\(zdN l=zfp l k (l.drop k))) (fun k=>l.length-k) (0) ?_ ?_;refine ⟨Ad _,?_⟩
 rw [zdN,if_neg uO];rfl;rintro k ⟨hk,hg⟩;refine gz4 ?_;refine uCo (fun h3=> ?_) fun h4=> ?_
 obtain ⟨x,hx⟩: ∃x,l[k]? =some x:=⟨_,Aa h3⟩
 have hdx:=zg hx;rw [hdx] at hg;refine gz8 ?_;refine de rfl (zj zdE rfl fun b4=> ?_)
 refine gz1 ?_;refine de0 (zn zdE rfl rfl rfl rfl rfl ?_)
 refine gz1 ?_;refine ze (zo 4 rfl) ?_;refine gz3 ?_;refine dq (uCl zE2 rfl zoA) ?_;refine gz6 ?_;refine uCo (fun h5=> ?_) fun h6=> ?_
 refine gz5 ?_;refine uRp ?_
 (rw [hg];simp_all [zfp,leS])
 refine gz2 ?_;refine uDr mixed ?_;refine gz8 ?_;refine uGy 8 rfl rfl (fun hc=>by have hq:=hc;(try simp at hq);exact zB (j:=k-1) (a:=l.getD (k-1) zkm) ziR zdE rfl rfl uO (getD_some uO)) ?_;refine gz5 ?_;refine uCo (fun h7=> ?_) fun h8=> ?_
 refine gz4 ?_;refine uRp ?_
 (rw [hg];simp_all [zfp,leS])
 refine gz7 ?_;refine ⟨k+1,?_,?_,⟨rfl,trivial⟩,uK,Ac _⟩
 refine ⟨by omega,?_⟩
 rw [hg];simp_all [zfp,leS]
 dsimp only;omega
 have hnk:l.length<=k:=by omega
 obtain rfl:k=l.length:=by omega
 rw [zC (Ae _)] at hg;refine gz2 ?_;refine zu ?_;refine gz6 ?_;refine uRp ?_
 (rw [hg];simp_all [zfp,leS])
theorem zn6 [Tracks] {l:List HL.Place} (hl:l.length<=1000000):ConP prog 59 [zpt l] (.int .i64 (zdO l)):=by
 refine uOb func59 ntmps59 ?_;refine gz9 ?_;refine uCo (fun h1=> ?_) fun h2=> ?_
 refine gz4 ?_;refine uRp ?_
 (rw [zdO,if_pos uO])
 refine gz9 ?_;refine uT1 [2,3,10,29] (fun k=>[(10,.int .i64 k)]) (fun k=>[]) (fun k=>k<=l.length/\(zdO l=zeP l k (l.drop k))) (fun k=>l.length-k) (0) ?_ ?_;refine ⟨Ad _,?_⟩
 rw [zdO,if_neg uO];rfl;rintro k ⟨hk,hg⟩;refine gz4 ?_;refine uCo (fun h3=> ?_) fun h4=> ?_
 obtain ⟨x,hx⟩: ∃x,l[k]? =some x:=⟨_,Aa h3⟩
 have hdx:=zg hx;rw [hdx] at hg;refine gz8 ?_;refine de rfl (zj zpm rfl fun b4=> ?_)
 refine gz1 ?_;refine de0 (zn zpm rfl rfl rfl rfl rfl ?_)
 refine gz1 ?_;refine ze (zo 4 rfl) ?_;refine gz4 ?_;refine dq (uCl zbK rfl zak) ?_;refine gz3 ?_;refine uCo (fun h5=> ?_) fun h6=> ?_
 refine gz4 ?_;refine uRp ?_
 (rw [hg];simp_all [zeP,leS])
 refine gz3 ?_;refine dq (uCl zct rfl zai) ?_;refine gz2 ?_;refine uCo (fun h7=> ?_) fun h8=> ?_
 refine gz4 ?_;refine uRp ?_
 (rw [hg];simp_all [zeP,leS])
 refine uDr mixed ?_;refine gz8 ?_;refine uGy 8 rfl rfl (fun hc=>by have hq:=hc;(try simp at hq);exact zB (j:=k-1) (a:=l.getD (k-1) zvD) zBt zpm rfl rfl uO (getD_some uO)) ?_;refine gz6 ?_;refine uCo (fun h9=> ?_) fun h10=> ?_
 refine gz4 ?_;refine uRp ?_
 (rw [hg];simp_all [zeP,leS])
 refine gz8 ?_;refine ⟨k+1,?_,?_,⟨rfl,trivial⟩,uK,Ac _⟩
 refine ⟨by omega,?_⟩
 rw [hg];simp_all [zeP,leS]
 dsimp only;omega
 have hnk:l.length<=k:=by omega
 obtain rfl:k=l.length:=by omega
 rw [zC (Ae _)] at hg;refine gz2 ?_;refine zu ?_;refine gz6 ?_;refine uRp ?_
 (rw [hg];simp_all [zeP,leS])
theorem zra [Tracks] {x y:Asset}:ConP prog 208 [zb2 x,zb2 y] (.int .i64 (byValue x y)):=by
 refine uOb func208 ntmps208 ?_;refine gz5 ?_;refine uDr mixed ?_;refine gz4 ?_;refine uB 4 rfl (uCl zd4 rfl zU) ?_;refine gz4 ?_;refine uB 9 rfl (uCl zc3 rfl zN) ?_;refine uB 10 rfl (za (hs:=[_,_]) zX ty3 rfl rfl (by decide) (by decide) rfl) ?_;refine uB 11 rfl (uCl zia rfl (zbe (l:=[_,_]) (by simp))) ?_;refine gz3 ?_;refine zt rfl ?_
 rfl
theorem zxy [Tracks] {l:List Asset} {pos:Str} (hl:l.length<=12):ConP prog 133 [zj8 l,.str pos] (zj8 (ofP l pos)):=by
 refine uOb func133 ntmps133 ?_;refine gz6 ?_;refine ze (zK 3) ?_;refine gz7 ?_;refine uV2 [5,1,7,1,10,13] (fun (k:Nat) (u:Value)=>[(10,.int .i64 k),(5,.raw u)]) (fun (k:Nat) (u:Value)=>[.arr u 3 ((zh0 (l.take k) pos).map zb2)]) (fun (k:Nat) (u:Value)=>k<=l.length/\(True)) (fun (k:Nat) (u:Value)=>l.length-k) (0) (.slice none 0 0) ?_ ?_ ?_ ?_;exact ⟨Ad _,by simp_all⟩;exact ⟨rfl,rfl,trivial⟩;exact zk (by simp [zh0])
 intro k u hinv
 obtain ⟨hk,-⟩:=hinv;refine gz4 ?_;refine uCo (fun h1=> ?_) fun h2=> ?_
 obtain ⟨x,hx⟩: ∃x,l[k]? =some x:=⟨_,Aa h1⟩
 have hdx:=zg hx;refine gz7 ?_;refine de rfl (zj zdE rfl fun b7=> ?_)
 refine de0 (zn zdE rfl rfl rfl rfl rfl ?_)
 refine gz1 ?_;refine ze (zo 7 rfl) ?_;refine gz6 ?_;refine uCo (fun h3=> ?_) fun h4=> ?_
 refine gz3 ?_;refine dq (za (hs:=[_]) ziR zdE rfl rfl (by decide) (by decide) rfl) ?_;have hal:(zh0 (l.take k) pos).length<=12:=Ar (zqg _ _) uSo;refine de rfl (zL (i:=0) ziR zdE rfl rfl rfl rfl rfl (by simp [zat,zb]) uSo fun v21=> ?_)
 refine gz8 ?_;exact ⟨k+1,_,⟨by omega,trivial⟩,uD,⟨rfl,rfl,trivial⟩,uK,zk (by dsimp only;rw [zqQ hx,if_pos uSa];simp)⟩;refine gz7 ?_;exact ⟨k+1,_,⟨by omega,trivial⟩,uD,⟨rfl,rfl,trivial⟩,uK,zk (by dsimp only;rw [zqQ hx,if_neg uSa];simp)⟩;have hnk:l.length<=k:=by omega
 obtain rfl:k=l.length:=by omega
 rw [Ai];refine gz2 ?_;refine zI ?_;refine gz2 ?_;have hal:=zqg l pos;refine gz2 ?_;refine de rfl (uCx 0 zFI rfl rfl (zgc (l:=zh0 l pos) (c:=byValue) (caps:=[]) zFJ (fun x y=>zra) uO) ?_)
 rintro _ _ ⟨rfl,rfl⟩;refine gz6 ?_;exact zmz (M:=[]) 4 rfl rfl rfl
theorem zrb [Tracks] {l:List Asset} {p:List HL.Place} (hl:l.length<=12) (hp:p.length<=10) (hm: ∀x∈p,0<=x.Many) (hv: ∀x∈l,-1000000<=x.Value/\x.Value<=1000000):ConP prog 60 [zj8 l,zpt p] (.tup [.int .i64 (zfg (zaI (ofP l) p)),eSs (zrC (zaI (ofP l) p))]):=by
 have hon: ∀s,(ofP l s).length<=12:=fun s=>Ar (zDg l s) hl
 refine uOb func60 ntmps60 ?_;refine zay ?_;refine ze (zK 1) ?_;refine gz7 ?_;refine uV2 [6,2,9,2,12,1,15,34] (fun (i:Nat) (u:Value)=>[(15,.int .i64 i),(6,.int .i64 (zfg (zaI (ofP l) (p.take i)))),(7,.raw u)]) (fun (i:Nat) (u:Value)=>[.arr u 1 (((zaI (ofP l) (p.take i)).map (·.Player)).map .str)]) (fun (i:Nat) (u:Value)=>i<=p.length/\(True)) (fun (i:Nat) (u:Value)=>p.length-i) (0) (.slice none 0 0) ?_ ?_ ?_ ?_;exact ⟨Ad _,by simp_all⟩;exact ⟨rfl,zP (by simp [zaI,zfg]),rfl,trivial⟩;exact zk (by simp [zaI])
 intro i u hinv
 obtain ⟨hi,-⟩:=hinv;refine gz4 ?_;refine uCo (fun h1=> ?_) fun h2=> ?_
 obtain ⟨x,hx⟩: ∃x,p[i]? =some x:=⟨_,Aa h1⟩
 have hdx:=zg hx;refine gz7 ?_;refine de rfl (zj zpm rfl fun b9=> ?_)
 refine de0 (zn zpm rfl rfl rfl rfl rfl ?_)
 refine gz1 ?_;refine ze (zo 9 rfl) ?_;refine gz4 ?_;refine dq (uCl zE3 rfl (zxy (by assumption))) ?_;refine gz2 ?_;have hx0:=hm x (Ab hx);have hon1:=hon x.Position;obtain ⟨N,hN⟩: ∃N:Nat,(if ((ofP l x.Position).length:Int)<x.Many then ((ofP l x.Position).length:Int) else x.Many)=(N:Int):=⟨_,(Int.toNat_of_nonneg (by split<;>omega)).symm⟩
 have hNle:N<=(ofP l x.Position).length:=by split at hN<;>omega
 refine gz6 ?_;refine dq (zY (zDv rfl rfl) (congrArg _ hN)) ?_;refine dq (zaK (h:=N) ziR zdE rfl rfl ⟨_,_,rfl,rfl⟩ uO hNle) ?_;refine gz3 ?_;have hCl:((List.drop 0 (List.take N (ofP l x.Position)))).length<=12:=by simp;omega
 have hCm: ∀y∈(List.drop 0 (List.take N (ofP l x.Position))),y∈l:=fun y hy=>by
  have:=AJ (Cw hy);unfold ofP zh0 at this;exact (List.mem_filter.1 ((zeE _).1 this)).1
 generalize hCd:List.drop 0 (List.take N (ofP l x.Position))=C at*
 refine gz1 ?_;refine uV2 [6,2,12,1,31,17] (fun (k:Nat) (w:Value)=>[(31,.int .i64 k),(6,.int .i64 (zfg ((zaI (ofP l) (p.take i))++((C.take k).filter (fun y=>decide (0<y.Value)))))),(7,.raw w)]) (fun (k:Nat) (w:Value)=>[.arr w 1 ((((zaI (ofP l) (p.take i))++((C.take k).filter (fun y=>decide (0<y.Value)))).map (·.Player)).map .str)]) (fun (k:Nat) (w:Value)=>k<=C.length/\(True)) (fun (k:Nat) (w:Value)=>C.length-k) (0) (u) ?_ ?_ ?_ ?_;exact ⟨Ad _,by simp_all⟩;exact ⟨rfl,zP (by simp),rfl,trivial⟩;exact zk (by simp)
 intro k w hinv
 obtain ⟨hk,-⟩:=hinv;refine gz4 ?_;refine uCo (fun h3=> ?_) fun h4=> ?_
 obtain ⟨y,hy⟩: ∃y,C[k]? =some y:=⟨_,Aa h3⟩
 have hdy:=zg hy;refine gz7 ?_;refine de rfl (zj zdE rfl fun b12=> ?_)
 refine de0 (zn zdE rfl rfl rfl rfl rfl ?_)
 refine gz1 ?_;refine ze (zo 12 rfl) ?_;refine gz5 ?_;refine uCo (fun h5=> ?_) fun h6=> ?_
 refine gz4 ?_;have hb1:=zu8 (f:=ofP l) (p:=p) (i:=i) (fun s m y=>zrx) hon hp hv;have hb2:=zEr (k:=k) hCm hCl hv;have hb3:=hv y (hCm y (Ab hy));have hb4:=zvY (zaI (ofP l) (p.take i)) ((C.take k).filter (fun y=>decide (0<y.Value)));refine gz7 ?_;refine dq (za (hs:=[_]) zp ty9 rfl rfl (by decide) (by decide) rfl) ?_;refine de rfl (zL (i:=0) zp ty9 rfl rfl rfl rfl rfl (by simp [zat,zb]) (by simp only [Af,Ax,Aj,AA];omega) fun v46=> ?_)
 refine gz8 ?_;exact ⟨k+1,_,⟨by omega,trivial⟩,uD,⟨rfl,zP (by rw [znr hy,if_pos uSa,<-AY,zvY _ [y]];simp [zfg]),rfl,trivial⟩,uK,zk (by dsimp only;rw [znr hy,if_pos uSa];simp)⟩;refine gz7 ?_;exact ⟨k+1,_,⟨by omega,trivial⟩,uD,⟨rfl,zP (by rw [znr hy,if_neg uO];simp),rfl,trivial⟩,uK,zk (by dsimp only;rw [znr hy,if_neg uO];simp)⟩;have hnk:C.length<=k:=by omega
 obtain rfl:k=C.length:=by omega
 refine gz2 ?_;refine zI ?_;refine gz7 ?_;exact ⟨i+1,_,⟨by omega,trivial⟩,uD,⟨rfl,zP (by rw [znS _ hx,zs1 hN,hCd,Ai]),rfl,trivial⟩,uK,zk (by dsimp only;rw [znS _ hx,zs1 hN,hCd,Ai])⟩;have hni:p.length<=i:=by omega
 obtain rfl:i=p.length:=by omega
 refine gz2 ?_;refine zI ?_;refine gz2 ?_;rw [Ai];refine gz2 ?_;refine de rfl (uCx 0 zE4 rfl rfl (zt1 (l:=(zaI (ofP l) p).map (·.Player)) (by have hb1:=zu8 (f:=ofP l) (p:=p) (i:=p.length) (fun s m y=>zrx) hon hp hv;rw [Ai] at hb1;simp;omega)) ?_)
 rintro _ _ ⟨rfl,rfl⟩;refine gz8 ?_;exact zmz (M:=[]) 5 rfl rfl rfl
end
section
open Go.Proofs.Tryz
open Go.HL
theorem zq9 [Tracks] {l:List Asset} {p:List HL.Place} (hl:l.length<=11) (hp:p.length<=1000000):ConP prog 19 [zj8 l,zpt p] (.tup [.int .i64 (if zl6 l p !=0 then 0 else zvX l p),eSs (if zl6 l p !=0 then [] else zrC (zaI (ofP l) p)),.int .i64 (zl6 l p)]):=by
 refine uOb func19 ntmps19 ?_;refine gz8 ?_;refine dq (uCl ca58 rfl (zn5 uO)) ?_;refine gz1 ?_;refine dq (uCl ca59 rfl (zn6 (by assumption))) ?_;refine dq (za (hs:=[_,_]) zej zgB rfl rfl (by decide) (by decide) rfl) ?_;refine dq (uCl zkC rfl (zb0 (l:=[_,_]) (by simp))) ?_;refine gz6 ?_;refine uCo (fun h1=> ?_) fun h2=> ?_
 refine gz7 ?_
 (refine zbz rfl (zz0 ?_ ?_ (Weak.refl _))
  rw [if_pos (by simpa [zl6] using h1)];exact Weak.refl _;rw [if_pos (by simpa [zl6] using h1)];exact zM 1)
 refine gz2 ?_;obtain ⟨hca0,hcp0⟩:=zDh (l:=l) (p:=p) (by simpa [zl6] using h2);obtain ⟨hsr,haf⟩:=zsp hca0;obtain ⟨hmm,hp10⟩:=zsq hcp0;have hvv: ∀x∈l,-1000000<=x.Value/\x.Value<=1000000:=fun x hx=>(znI (haf x hx)).2.2
 refine gz3 ?_;refine dq (uCl ca60 rfl (zrb uO (by assumption) uSa (by assumption))) ?_;refine zda ?_
 (refine zt rfl ?_
  have h0:zl6 l p=0:=by simpa [zl6] using h2
  simp [h0,zvX,zaM,za6])
end
section
open Go.Proofs.Tryz
open Go.HL
theorem zyi [Tracks]:KeyOk prog 446 zg3:=zgu (cs:=fun x:Plc=>zb (zg3 x)) zhp zG0 (fun x y=>⟨rfl,⟨_,_,_,_,ty9,rfl⟩,rfl,⟨_,_,_,_,ty3,rfl⟩,trivial⟩)
 (fun x y=>by obtain ⟨a,b⟩:=x;obtain ⟨c,d⟩:=y;show (_&&(_&&true))=_;rw [AF];simp [eqH,Prod.mk.injEq]) (fun x=>rfl)
theorem zwf [Tracks] {c:LineS->LineS->Int} (hO:Go.Sort.SWO (Go.Proofs.ltOf c)) {g:FuncId} (hg:Callable prog g) {cap:List HVal} (hc: ∀x y, @ConP zhW prog g (zbT x::zbT y::cap) (.int .i64 (c x y))) {l:List LineS} (hl:l.length<=1000000) {v:Value}:
 Con prog 392 [.raw v,.fn (.func g) [] cap] [.arr v 3 (l.map zbT)] fun x M'=> ∃l':List LineS,x= .tup []/\l'.Perm l/\l'.Pairwise (fun a b=> ¬c b a<0)/\M'=[.arr v 3 (l'.map zbT)]:=
 zoG (e:=zbT) zyL (Tryz.isAgg89) (Tryz.sizeOf89) (fun _=>rfl) (fun _=>rfl) (fun _=>rfl) hO hg hc hl
theorem zhy [Tracks] {l:List StatS} (hl:l.length<=1000000):zuB prog 389 [.slice 2 (l.map zbg)] 2 (l.map zbg):=by
 refine uOb func389 ntmps389 ?_;refine gz6 ?_;refine de rfl (zoI zdf rfl rfl fun b4 hb4=> ?_)
 refine gz1 ?_;refine uCo (fun h1=> ?_) fun h2=> ?_
 refine gz4 ?_
 first|exact zuu rfl rfl|exact zao (zK 2) rfl ⟨_,rfl,by simp_all⟩
 refine gz3 ?_;refine de rfl (zsu zdf zcl fun v5=> ?_)
 refine gz1 ?_;refine de rfl (zL (i:=0) zdf zcl rfl rfl rfl rfl rfl (by simp [zat,zb]) (by first|omega|(simp;omega)) fun v7=> ?_)
 refine gz3 ?_
 first|exact zuu rfl rfl|exact zao (zK 2) rfl ⟨_,rfl,by simp_all⟩
theorem zgb [Tracks] {l:List StatS} {fid:FuncId} {caps:List HVal} {p:StatS->Bool} {v:Value} (hca:Callable prog fid) (hp: ∀x,ConP prog fid ([zbg x]++caps) (.bool (p x))) (hl:l.length<=1000000):Con prog 390 [.raw v,.fn (.func fid) [] caps] [.arr v 2 (l.map zbg)] (fun x M'=> ∃u,x= .raw u/\M'=[.arr u 2 ((l.filter (fun x=> !p x)).map zbg)]):=by
 refine uOb func390 ntmps390 ?_;refine gz6 ?_;refine de rfl (zls (hs':=[.slice 2 (l.map zbg),.fn (.func fid) [] caps]) zGQ rfl ⟨.arr (i:=0) rfl,.weak (Weak.refl _),trivial⟩ (zgl (p:=p) hca hp hl) rfl ?_)
 refine gz7 ?_;refine uCo (fun h1=> ?_) fun h2=> ?_
 ·refine gz5 ?_
  first
  | (refine zah rfl ⟨_,rfl,?_⟩
     rw [zhT p l 0 uO h1]
     done)
  | (refine zah rfl ⟨_,rfl,?_⟩
     rw [Ai,<-BH,hend];rfl)
 ·refine gz3 ?_;obtain ⟨i0,hi0,hil,⟨x0,hx0,hp0⟩,hb0⟩:=zgQ p l 0 uO h2;rw [Int.zero_add] at hi0;obtain ⟨hD0,hn0⟩:=DelInv.start (p:=p) hil hx0 hp0 hb0;refine zbV (i:=0) rfl (fun h0 he=> ?_) (fun b off cap hv hcap=> ?_)
  ·exfalso;have:=congrArg List.length he;simp at this;subst this;simp at hil
  rw [Af] at hv hcap;subst hv;refine gz2 ?_;refine dq (zY (zbi rfl rfl (by rw [hi0];omega) (by rw [hi0];omega)) (congrArg _ (by rw [hi0]))) ?_;refine gz3 ?_;refine uV2 [5,3,16,20] (fun (j:Nat) (D:List StatS)=>[(6,.int .i64 (j:Int)),(5,.int .i64 (((l.take j).filter (fun x=> !p x)).length:Int))]) (fun (j:Nat) (D:List StatS)=>[.arr (.slice (some ⟨b,off,none⟩) l.length cap) 2 (D.map zbg)]) (fun (j:Nat) (D:List StatS)=>DelInv p l j D) (fun (j:Nat) (D:List StatS)=>l.length-j) (i0+1) (l) ?_ ?_ ?_ ?_
  ·exact hD0
  ·exact ⟨rfl,zP (by rw [hn0,hi0]),trivial⟩
  ·exact Ac _
  ·intro j D hD
   have hlt0:=hD.lt;have hle0:=hD.len;refine gz4 ?_
   first
   |refine de rfl (zau (i:=0) zdf rfl rfl ?_)
   |refine de rfl (zau (i:=1) zdf rfl rfl ?_)
   |refine de rfl (zau (i:=2) zdf rfl rfl ?_)
   |refine de rfl (zau (i:=3) zdf rfl rfl ?_)
   refine gz2 ?_;refine uCo (fun h3=> ?_) fun h4=> ?_
   ·obtain ⟨x,hx⟩: ∃x,l[j]? =some x:=⟨_,Aa uO⟩
    refine gz7 ?_;refine dq (zv (j:=j) zdf zcl rfl rfl rfl uO) ?_;refine de rfl (z6 (i:=0) (j:=j) zcl rfl rfl rfl (hD.get hx) rfl rfl rfl ?_)
    refine de rfl (zj zcl rfl fun b7=> ?_)
    refine de0 (zn zcl rfl rfl rfl rfl rfl ?_)
    refine gz1 ?_;refine ze (zo 7 rfl) ?_;refine gz3 ?_;refine dq (zag hca rfl rfl (WeakL.refl _) (hp _)) ?_;refine gz2 ?_;refine uCo (fun h5=> ?_) fun h6=> ?_
    ·refine gz4 ?_;refine dq (zv (j:=((l.take j).filter (fun x=> !p x)).length) zdf zcl rfl rfl rfl (by have:=hD.lt;omega)) ?_;refine de0 (zaH (i:=0) (j:=((l.take j).filter (fun x=> !p x)).length) (y:=D[((l.take j).filter (fun x=> !p x)).length]'(by have:=hD.lt;have:=hD.len;omega)) (y':=x) zcl rfl rfl rfl rfl (Aa _) rfl rfl rfl ?_)
     refine gz3 ?_;refine dq (zbi rfl rfl uO (by have:=hD.lt;omega)) ?_;refine gz9 ?_
     first
     |exact ⟨j+1,_,(hD.keep hx uSa).1,uD,⟨rfl,zP (by rw [(hD.keep hx uSa).2];rfl),trivial⟩,uK,Ac _⟩
     |exact ⟨j+1,_,(hD.skip hx uSa).1,uD,⟨rfl,zP (by rw [(hD.skip hx uSa).2]),trivial⟩,uK,Ac _⟩
    ·refine gz8 ?_
     first
     |exact ⟨j+1,_,(hD.keep hx uSa).1,uD,⟨rfl,zP (by rw [(hD.keep hx uSa).2];rfl),trivial⟩,uK,Ac _⟩
     |exact ⟨j+1,_,(hD.skip hx uSa).1,uD,⟨rfl,zP (by rw [(hD.skip hx uSa).2]),trivial⟩,uK,Ac _⟩
   ·obtain rfl:j=l.length:=by have:=hD.jle;omega
    have hend:=hD.done;refine gz2 ?_;refine zI ?_;refine gz5 ?_;refine dq (zfn (l:=((l.take l.length).filter (fun x=> !p x)).length) zdf zcl rfl ⟨_,_,rfl,rfl⟩ rfl uO uO hcap) ?_;refine de0 (ze9 (i:=0) (m:=((l.take l.length).filter (fun x=> !p x)).length) (((l.take l.length).filter (fun x=> !p x)).length) zdf zcl rfl rfl rfl (ziN uO hcap) rfl uO (Ae _) (by rw [Af,hD.len];omega) ?_)
    refine gz4 ?_;refine dq (zgS (h:=((l.take l.length).filter (fun x=> !p x)).length) zdf zcl rfl ⟨_,_,rfl,rfl⟩ uO) ?_;refine gz3 ?_
    first
    | (refine zah rfl ⟨_,rfl,?_⟩
       rw [zhT p l 0 uO h1]
       done)
    | (refine zah rfl ⟨_,rfl,?_⟩
       rw [Ai,<-BH,hend];rfl)
theorem zqp [Tracks] {a b:MendS}:ConP prog 188 [zbY a,zbY b] (.int .i64 (zeV a b)):=by
 refine uOb func188 ntmps188 ?_;refine gz5 ?_;refine uDr mixed ?_;refine gz4 ?_;refine uB 4 rfl (uCl zc3 rfl zN) ?_;refine gz4 ?_;refine uB 9 rfl (uCl zd4 rfl zU) ?_;refine gz4 ?_;refine uB 14 rfl (uCl zc3 rfl zN) ?_;refine gz4 ?_;refine uB 19 rfl (uCl zd4 rfl zU) ?_;refine uB 20 rfl (za (hs:=[_,_,_,_]) zX ty3 rfl rfl (by decide) (by decide) rfl) ?_;refine uB 21 rfl (uCl zia rfl (zbe (l:=[_,_,_,_]) (by simp))) ?_;refine gz3 ?_;refine zt rfl ?_
 rfl
theorem znM [Tracks] {a b:LineS}:ConP prog 388 [zbT a,zbT b] (.int .i64 (zdm a b)):=by
 refine uOb func388 ntmps388 ?_;refine gz5 ?_;refine uDr mixed ?_;refine gz4 ?_;refine uB 4 rfl (uCl zc3 rfl zN) ?_;refine gz4 ?_;refine uB 9 rfl (uCl zd4 rfl zU) ?_;refine uB 10 rfl (za (hs:=[_,_]) zX ty3 rfl rfl (by decide) (by decide) rfl) ?_;refine uB 11 rfl (uCl zia rfl (zbe (l:=[_,_]) (by simp))) ?_;refine gz3 ?_;refine zt rfl ?_
 rfl
theorem zjE [Tracks] {m:List MendS} (hl:m.length<=1000000):ConP prog 117 [zcy m] (.int .i64 (zbH m)):=by
 refine uOb func117 ntmps117 ?_;refine gz9 ?_;refine uCo (fun h1=> ?_) fun h2=> ?_
 ·refine gz4 ?_;refine uRp ?_
  (rw [zbH,if_pos uO];done)
 ·refine gz9 ?_;refine uT1 [2,3,10,57] (fun k=>[(10,.int .i64 k)]) (fun k=>[]) (fun k=>k<=m.length/\(zaW zaP zeV zeZ m 0 m=zaW zaP zeV zeZ m k (m.drop k))) (fun k=>m.length-k) (0) ?_ ?_
  ·exact ⟨Ad _,rfl⟩
  ·rintro k ⟨hk,hg⟩;refine gz4 ?_;refine uCo (fun h3=> ?_) fun h4=> ?_
   ·obtain ⟨x,hx⟩: ∃x,m[k]? =some x:=⟨_,Aa h3⟩
    have hdx:=zg hx;rw [hdx] at hg;refine gz8 ?_;refine de rfl (zj zbv rfl fun b4=> ?_)
    refine gz1 ?_;refine de0 (zn zbv rfl rfl rfl rfl rfl ?_)
    refine gz1 ?_;refine ze (zo 4 rfl) ?_;refine gz4 ?_;refine dq (uCl zbK rfl zak) ?_;refine gz4 ?_;refine uGr rfl (fun hc=>uCl zbK rfl zak) ?_;refine gz5 ?_;refine uGr rfl (fun hc=>uCl zbK rfl zak) ?_;refine gz4 ?_;refine uCo (fun h5=> ?_) fun h6=> ?_
    ·refine gz4 ?_;refine uRp ?_
     (refine congrArg _ (zlz (c:=5) uO hg (by decide) ?_)
      rw [zaP,if_pos]
      simp_all
      done)
    ·refine gz3 ?_;refine dq (uCl zm7 rfl zdg) ?_;refine gz4 ?_;refine uGr rfl (fun hc=>uCl zct rfl zai) ?_;refine gz4 ?_;refine uGr rfl (fun hc=>uCl zkE rfl zbD) ?_;refine gz5 ?_;refine uGr rfl (fun hc=>uCl zct rfl zai) ?_;refine gz3 ?_;refine uCo (fun h7=> ?_) fun h8=> ?_
     ·refine gz4 ?_;refine uRp ?_
      (refine congrArg _ (zlz (c:=1) uO hg (by decide) ?_)
       rw [zaP,if_neg,if_pos]
       all_goals simp_all
       done)
     ·refine uDr mixed ?_;refine gz7 ?_;refine uGy 7 rfl rfl (fun hc=>by have hq:=hc;(try simp at hq);exact zB (j:=k-1) (a:=m.getD (k-1) zeZ) zg7 zbv rfl rfl uO (getD_some uO)) ?_;refine gz1 ?_;refine uGy 9 rfl rfl (fun hc=>uCl zFw rfl zqp) ?_;refine gz4 ?_;refine uCo (fun h9=> ?_) fun h10=> ?_
      ·refine gz4 ?_;refine uRp ?_
       (refine congrArg _ (ztp uO hg ?_ ?_ ?_)
        ·rw [zaP,if_neg,if_neg]<;>simp_all
        ·simp_all
        ·simp_all)
      ·refine gz8 ?_;refine ⟨k+1,?_,?_,⟨rfl,trivial⟩,uK,Ac _⟩
       ·refine ⟨by omega,?_⟩
        rw [hg,zkH (by rw [zaP,if_neg uSa,if_neg uSa]) (by intro hk0;simp_all;try omega)]
       ·dsimp only;omega
   ·have hnk:m.length<=k:=by omega
    obtain rfl:k=m.length:=by omega
    rw [zC (Ae _)] at hg;refine gz2 ?_;refine zu ?_;refine gz6 ?_;refine uRp ?_
    (rw [zbH,if_neg uO,hg];rfl)
theorem zpR [Tracks] {l:List StatS} (hl:l.length<=1000000):ConP prog 387 [zy3 l] (.int .i64 (za7 l)):=by
 refine uOb func387 ntmps387 ?_;refine gz9 ?_;refine uCo (fun h1=> ?_) fun h2=> ?_
 ·refine gz4 ?_;refine uRp ?_
  first
  |(rw [za7,if_pos uO];done)
  |(rw [za7,if_neg uO,hg];rfl)
  | (refine congrArg _ (zdT (c:=5) uO hg (by decide) ?_)
     rw [zal,if_pos]
     simp_all
     done)
  | (refine congrArg _ (zdT (c:=1) uO hg (by decide) ?_)
     rw [zal,if_neg,if_pos]
     all_goals simp_all
     done)
  | (refine congrArg _ (zjn uO hg ?_ ?_ ?_)
     ·rw [zal,if_neg,if_neg]<;>simp_all
     ·simp_all
     ·simp_all)
 ·refine gz9 ?_;refine uT1 [2,3,10,34] (fun k=>[(10,.int .i64 k)]) (fun k=>[]) (fun k=>k<=l.length/\(zaW zal zbc zei l 0 l=zaW zal zbc zei l k (l.drop k))) (fun k=>l.length-k) (0) ?_ ?_
  ·exact ⟨Ad _,rfl⟩
  ·rintro k ⟨hk,hg⟩;refine gz4 ?_;refine uCo (fun h3=> ?_) fun h4=> ?_
   ·obtain ⟨x,hx⟩: ∃x,l[k]? =some x:=⟨_,Aa h3⟩
    have hdx:=zg hx;rw [hdx] at hg;refine gz8 ?_;refine de rfl (zj zcl rfl fun b4=> ?_)
    refine gz1 ?_;refine de0 (zn zcl rfl rfl rfl rfl rfl ?_)
    refine gz1 ?_;refine ze (zo 4 rfl) ?_;refine gz4 ?_;refine dq (uCl zbK rfl zak) ?_;refine gz3 ?_;refine uCo (fun h5=> ?_) fun h6=> ?_
    ·refine gz4 ?_;refine uRp ?_
     first
     |(rw [za7,if_pos uO];done)
     |(rw [za7,if_neg uO,hg];rfl)
     | (refine congrArg _ (zdT (c:=5) uO hg (by decide) ?_)
        rw [zal,if_pos]
        simp_all
        done)
     | (refine congrArg _ (zdT (c:=1) uO hg (by decide) ?_)
        rw [zal,if_neg,if_pos]
        all_goals simp_all
        done)
     | (refine congrArg _ (zjn uO hg ?_ ?_ ?_)
        ·rw [zal,if_neg,if_neg]<;>simp_all
        ·simp_all
        ·simp_all)
    ·refine gz3 ?_;refine dq (uCl zct rfl zai) ?_;refine gz7 ?_;refine uCo (fun h7=> ?_) fun h8=> ?_
     ·refine gz4 ?_;refine uRp ?_
      first
      |(rw [za7,if_pos uO];done)
      |(rw [za7,if_neg uO,hg];rfl)
      | (refine congrArg _ (zdT (c:=5) uO hg (by decide) ?_)
         rw [zal,if_pos]
         simp_all
         done)
      | (refine congrArg _ (zdT (c:=1) uO hg (by decide) ?_)
         rw [zal,if_neg,if_pos]
         all_goals simp_all
         done)
      | (refine congrArg _ (zjn uO hg ?_ ?_ ?_)
         ·rw [zal,if_neg,if_neg]<;>simp_all
         ·simp_all
         ·simp_all)
     ·refine uDr mixed ?_;refine gz8 ?_;refine uGy 8 rfl rfl (fun hc=>by have hq:=hc;(try simp at hq);exact zB (j:=k-1) (a:=l.getD (k-1) zei) zdf zcl rfl rfl uO (getD_some uO)) ?_;refine gz6 ?_;refine uCo (fun h9=> ?_) fun h10=> ?_
      ·refine gz4 ?_;refine uRp ?_
       first
       |(rw [za7,if_pos uO];done)
       |(rw [za7,if_neg uO,hg];rfl)
       | (refine congrArg _ (zdT (c:=5) uO hg (by decide) ?_)
          rw [zal,if_pos]
          simp_all
          done)
       | (refine congrArg _ (zdT (c:=1) uO hg (by decide) ?_)
          rw [zal,if_neg,if_pos]
          all_goals simp_all
          done)
       | (refine congrArg _ (zjn uO hg ?_ ?_ ?_)
          ·rw [zal,if_neg,if_neg]<;>simp_all
          ·simp_all
          ·simp_all)
      ·refine gz8 ?_;refine ⟨k+1,?_,?_,⟨rfl,trivial⟩,uK,Ac _⟩
       ·refine ⟨by omega,?_⟩
        rw [hg,zyv (by rw [zal,if_neg uSa,if_neg uSa]) (by intro hk0;simp_all)]
       ·dsimp only;omega
   ·have hnk:l.length<=k:=by omega
    obtain rfl:k=l.length:=by omega
    rw [zC (Ae _)] at hg;refine gz2 ?_;refine zu ?_;refine gz6 ?_;refine uRp ?_
    first
    |(rw [za7,if_pos uO];done)
    |(rw [za7,if_neg uO,hg];rfl)
    | (refine congrArg _ (zdT (c:=5) uO hg (by decide) ?_)
       rw [zal,if_pos]
       simp_all
       done)
    | (refine congrArg _ (zdT (c:=1) uO hg (by decide) ?_)
       rw [zal,if_neg,if_pos]
       all_goals simp_all
       done)
    | (refine congrArg _ (zjn uO hg ?_ ?_ ?_)
       ·rw [zal,if_neg,if_neg]<;>simp_all
       ·simp_all
       ·simp_all)
theorem zpQ [Tracks] {l:List LineS} (hl:l.length<=1000000) (hL: ∀x∈l,x.Stats.length<=1000000):ConP prog 362 [zfG l] (.int .i64 (zaC l)):=by
 refine uOb func362 ntmps362 ?_;refine gz9 ?_;refine uCo (fun h1=> ?_) fun h2=> ?_
 ·refine gz4 ?_;refine uRp ?_
  first
  |(rw [zaC,if_pos uO];done)
  |(rw [zaC,if_neg uO,hg];rfl)
  | (refine congrArg _ (zbt (c:=5) uO hg (by decide) ?_)
     rw [zaa,if_pos]
     simp_all
     done)
  | (refine congrArg _ (zbt (c:=1) uO hg (by decide) ?_)
     rw [zaa,if_neg,if_pos]
     all_goals simp_all
     done)
  | (refine congrArg _ (zbt (c:=za7 x.Stats) uO hg ?_ ?_)
     ·simp_all
     ·rw [zaa,if_neg,if_neg]<;>simp_all)
  | (refine congrArg _ (zhU uO hg ?_ ?_ ?_)
     ·rw [zaa,if_neg,if_neg]<;>simp_all
     ·simp_all
     ·simp_all)
 ·refine gz9 ?_;refine uT1 [2,4,11,34] (fun k=>[(11,.int .i64 k)]) (fun k=>[]) (fun k=>k<=l.length/\(zaW zaa zdm zjS l 0 l=zaW zaa zdm zjS l k (l.drop k))) (fun k=>l.length-k) (0) ?_ ?_
  ·exact ⟨Ad _,rfl⟩
  ·rintro k ⟨hk,hg⟩;refine gz4 ?_;refine uCo (fun h3=> ?_) fun h4=> ?_
   ·obtain ⟨x,hx⟩: ∃x,l[k]? =some x:=⟨_,Aa h3⟩
    have hdx:=zg hx;rw [hdx] at hg;refine gz8 ?_;refine de rfl (zj zcZ rfl fun b4=> ?_)
    refine gz1 ?_;refine de0 (zn zcZ rfl rfl rfl rfl rfl ?_)
    refine gz1 ?_;refine ze (zo 4 rfl) ?_;refine gz5 ?_;refine dq (uCl zbK rfl zak) ?_;refine gz3 ?_;refine uCo (fun h5=> ?_) fun h6=> ?_
    ·refine gz4 ?_;refine uRp ?_
     first
     |(rw [zaC,if_pos uO];done)
     |(rw [zaC,if_neg uO,hg];rfl)
     | (refine congrArg _ (zbt (c:=5) uO hg (by decide) ?_)
        rw [zaa,if_pos]
        simp_all
        done)
     | (refine congrArg _ (zbt (c:=1) uO hg (by decide) ?_)
        rw [zaa,if_neg,if_pos]
        all_goals simp_all
        done)
     | (refine congrArg _ (zbt (c:=za7 x.Stats) uO hg ?_ ?_)
        ·simp_all
        ·rw [zaa,if_neg,if_neg]<;>simp_all)
     | (refine congrArg _ (zhU uO hg ?_ ?_ ?_)
        ·rw [zaa,if_neg,if_neg]<;>simp_all
        ·simp_all
        ·simp_all)
    ·refine gz3 ?_;refine dq (uCl zm7 rfl zdg) ?_;refine gz3 ?_;refine uCo (fun h7=> ?_) fun h8=> ?_
     ·refine gz4 ?_;refine uRp ?_
      first
      |(rw [zaC,if_pos uO];done)
      |(rw [zaC,if_neg uO,hg];rfl)
      | (refine congrArg _ (zbt (c:=5) uO hg (by decide) ?_)
         rw [zaa,if_pos]
         simp_all
         done)
      | (refine congrArg _ (zbt (c:=1) uO hg (by decide) ?_)
         rw [zaa,if_neg,if_pos]
         all_goals simp_all
         done)
      | (refine congrArg _ (zbt (c:=za7 x.Stats) uO hg ?_ ?_)
         ·simp_all
         ·rw [zaa,if_neg,if_neg]<;>simp_all)
      | (refine congrArg _ (zhU uO hg ?_ ?_ ?_)
         ·rw [zaa,if_neg,if_neg]<;>simp_all
         ·simp_all
         ·simp_all)
     ·refine gz7 ?_;refine dq (uCl zGK rfl (zpR (l:=x.Stats) (hL x (Ab hx)))) ?_;refine gz6 ?_;refine uCo (fun h9=> ?_) fun h10=> ?_
      ·refine gz5 ?_;refine uRp ?_
       first
       |(rw [zaC,if_pos uO];done)
       |(rw [zaC,if_neg uO,hg];rfl)
       | (refine congrArg _ (zbt (c:=5) uO hg (by decide) ?_)
          rw [zaa,if_pos]
          simp_all
          done)
       | (refine congrArg _ (zbt (c:=1) uO hg (by decide) ?_)
          rw [zaa,if_neg,if_pos]
          all_goals simp_all
          done)
       | (refine congrArg _ (zbt (c:=za7 x.Stats) uO hg ?_ ?_)
          ·simp_all
          ·rw [zaa,if_neg,if_neg]<;>simp_all)
       | (refine congrArg _ (zhU uO hg ?_ ?_ ?_)
          ·rw [zaa,if_neg,if_neg]<;>simp_all
          ·simp_all
          ·simp_all)
      ·refine gz2 ?_;refine uDr mixed ?_;refine gz7 ?_;refine uGy 7 rfl rfl (fun hc=>by have hq:=hc;(try simp at hq);exact zB (j:=k-1) (a:=l.getD (k-1) zjS) znE zcZ rfl rfl uO (getD_some uO)) ?_;refine gz1 ?_;refine uGy 9 rfl rfl (fun hc=>uCl zCa rfl znM) ?_;refine gz3 ?_;refine uCo (fun h11=> ?_) fun h12=> ?_
       ·refine gz4 ?_;refine uRp ?_
        first
        |(rw [zaC,if_pos uO];done)
        |(rw [zaC,if_neg uO,hg];rfl)
        | (refine congrArg _ (zbt (c:=5) uO hg (by decide) ?_)
           rw [zaa,if_pos]
           simp_all
           done)
        | (refine congrArg _ (zbt (c:=1) uO hg (by decide) ?_)
           rw [zaa,if_neg,if_pos]
           all_goals simp_all
           done)
        | (refine congrArg _ (zbt (c:=za7 x.Stats) uO hg ?_ ?_)
           ·simp_all
           ·rw [zaa,if_neg,if_neg]<;>simp_all)
        | (refine congrArg _ (zhU uO hg ?_ ?_ ?_)
           ·rw [zaa,if_neg,if_neg]<;>simp_all
           ·simp_all
           ·simp_all)
       ·refine gz7 ?_;refine ⟨k+1,?_,?_,⟨rfl,trivial⟩,uK,Ac _⟩
        ·refine ⟨by omega,?_⟩
         rw [hg,zkH (by rw [zaa,if_neg uSa,if_neg uSa];simp_all) (by intro hk0;simp_all;try omega)]
        ·dsimp only;omega
   ·have hnk:l.length<=k:=by omega
    obtain rfl:k=l.length:=by omega
    rw [zC (Ae _)] at hg;refine gz2 ?_;refine zu ?_;refine gz6 ?_;refine uRp ?_
    first
    |(rw [zaC,if_pos uO];done)
    |(rw [zaC,if_neg uO,hg];rfl)
    | (refine congrArg _ (zbt (c:=5) uO hg (by decide) ?_)
       rw [zaa,if_pos]
       simp_all
       done)
    | (refine congrArg _ (zbt (c:=1) uO hg (by decide) ?_)
       rw [zaa,if_neg,if_pos]
       all_goals simp_all
       done)
    | (refine congrArg _ (zbt (c:=za7 x.Stats) uO hg ?_ ?_)
       ·simp_all
       ·rw [zaa,if_neg,if_neg]<;>simp_all)
    | (refine congrArg _ (zhU uO hg ?_ ?_ ?_)
       ·rw [zaa,if_neg,if_neg]<;>simp_all
       ·simp_all
       ·simp_all)
theorem zq2 [Tracks] {s:StatS} {x:MendS}:ConP prog 391 [zbg s,.vptr (zb (zbY x)) 0] (.bool (s.Name==x.Stat)):=by
 refine uOb func391 ntmps391 ?_;refine zdy ?_;refine zt rfl ?_
 rfl
theorem ztW [Tracks] {l:List LineS} {m:List MendS} {n:Int} (hl:l.length<=1000) (hm:m.length<=100) (hL: ∀x∈l,x.Stats.length<=1000) (hs: ∀x∈l,(x.Stats.map (·.Name)).Nodup) (h40:GLen 40 (zeX l m n)):ConP prog 363 [zfG l,zcy m,.int .i64 n] (.tup [zfG (mdL l m n),.int .i64 0]):=by
 refine uOb func363 ntmps363 ?_;refine gz5 ?_;refine de rfl (zaN fun m18=> ?_)
 refine gz2 ?_;refine ze (zbl (M':=[.map m18 (kk zg3 (em fG ([]:GrV)))]++zd8 2 zbg ([]:GrV)) rfl) ?_;refine gz7 ?_;refine uV2 [10,1,21,14] (fun (k:Nat) (G:GrV)=>[(21,.int .i64 k)]) (fun (k:Nat) (G:GrV)=>[.map m18 (kk zg3 (em fG G))]++zd8 2 zbg G) (fun (k:Nat) (G:GrV)=>k<=l.length/\(ANodup G/\zfX G=zdj (l.take k))) (fun (k:Nat) (G:GrV)=>l.length-k) (0) ([]) ?_ ?_ ?_ ?_;exact ⟨Ad _,ANodup.nil,rfl⟩;exact ⟨rfl,trivial⟩;exact zk rfl
 intro k G hinv
 obtain ⟨hk,⟨hn,hc⟩⟩:=hinv;refine gz4 ?_;refine uCo (fun h1=> ?_) fun h2=> ?_
 obtain ⟨x,hx⟩: ∃x,l[k]? =some x:=⟨_,Aa h1⟩
 have hdx:=zg hx;refine gz7 ?_;refine de rfl (zj zcZ rfl fun b10=> ?_)
 refine de0 (zn zcZ rfl rfl rfl rfl rfl ?_)
 refine gz1 ?_;refine ze (zo 10 rfl) ?_;refine zgC mixed ?_;refine gz1 ?_;refine uB 1 rfl ((by first|exact zh zcZ rfl ty9 (by decide) rfl|exact zd zcZ rfl ty9 (by decide) rfl)) ?_;refine gz1 ?_;refine uB 3 rfl ((by first|exact zh zcZ rfl ty3 (by decide) rfl|exact zd zcZ rfl ty3 (by decide) rfl)) ?_;refine gz1 ?_;refine uB 5 rfl (zF (cs:=[_,_]) zhp zCo rfl) ?_;refine uB 6 rfl ((by first|exact zh zcZ rfl zdf (by decide) rfl|exact zd zcZ rfl zdf (by decide) rfl)) ?_;refine gz1 ?_;refine uF 8 ?_;refine zx rfl (uCa zGL rfl (zhy (l:=x.Stats) (Ar (hL x (Ab hx)) (by decide))) fun v33=> ?_)
 refine ⟨uE,?_⟩
 refine uF 9 ?_;refine zy (zr3 (zfa (i:=1) (s:=(x.Player,x.Week)) (f:=fG) (L:=G) (v:=(v33,x.Stats)) zlH zyi rfl rfl rfl rfl ⟨_,zzd (A:=[.map m18 (kk zg3 (em fG (zz (x.Player,x.Week) (v33,x.Stats) G)))]) (s:=(x.Player,x.Week)) (v:=v33) (l:=x.Stats) hn,?_⟩))
 refine ⟨uE,?_⟩
 refine gz7 ?_;exact ⟨k+1,zz (x.Player,x.Week) (v33,x.Stats) G,⟨by omega,hn.put,by rw [zqs,hc,zx8 hx]⟩,uD,⟨rfl,trivial⟩,uK,zk rfl⟩;have hnk:l.length<=k:=by omega
 obtain rfl:k=l.length:=by omega
 rw [Ai] at hc;refine gz2 ?_;refine zI ?_;refine gz9 ?_;refine uV2 [12,3,37,33] (fun (k:Nat) (G:GrV)=>[(37,.int .i64 k)]) (fun (k:Nat) (G:GrV)=>[.map m18 (kk zg3 (em fG G))]++zd8 2 zbg G) (fun (k:Nat) (G:GrV)=>k<=m.length/\(ANodup G/\zfX G=zg4 (zdj l) (m.take k) n)) (fun (k:Nat) (G:GrV)=>m.length-k) (0) (G) ?_ ?_ ?_ ?_;exact ⟨Ad _,hn,hc⟩;exact ⟨rfl,trivial⟩;exact zk rfl
 intro k G hinv
 obtain ⟨hk,⟨hn,hc⟩⟩:=hinv;refine gz4 ?_;refine uCo (fun h3=> ?_) fun h4=> ?_
 obtain ⟨x,hx⟩: ∃x,m[k]? =some x:=⟨_,Aa h3⟩
 have hdx:=zg hx;refine gz7 ?_;refine de rfl (zj zbv rfl fun b12=> ?_)
 refine de0 (zn zbv rfl rfl rfl rfl rfl ?_)
 refine gz1 ?_;refine ze (zo 12 rfl) ?_;refine gz2 ?_;refine dq ((by first|exact zh zbv rfl ty3 (by decide) rfl|exact zd zbv rfl ty3 (by decide) rfl)) ?_;refine gz4 ?_;refine uCo (fun h5=> ?_) fun h6=> ?_
 refine gz8 ?_;exact ⟨k+1,G,⟨by omega,hn,by rw [ztl hx,zcO,if_pos uO];exact hc⟩,uD,⟨rfl,trivial⟩,uK,zk rfl⟩;refine gz3 ?_;refine dq ((by first|exact zh zbv rfl ty9 (by decide) rfl|exact zd zbv rfl ty9 (by decide) rfl)) ?_;refine gz1 ?_;refine dq ((by first|exact zh zbv rfl ty3 (by decide) rfl|exact zd zbv rfl ty3 (by decide) rfl)) ?_;refine gz1 ?_;refine dq (zF (cs:=[_,_]) zhp zCo rfl) ?_;refine de rfl (zj zhp rfl fun b13=> ?_)
 refine de0 (zn zhp rfl rfl rfl rfl rfl ?_)
 refine gz1 ?_;refine ze (zo 13 rfl) ?_;have hgl:=zDc (n:=n) hL hm hc (x.Player,x.Week);refine ze (zf1 (A:=[.map m18 (kk zg3 (em fG G))]) (G:=G) (G':=G) (s:=(x.Player,x.Week)) hn rfl) ?_;refine gz3 ?_;refine de rfl (zcK (i:=1) (s:=(x.Player,x.Week)) (z0:=gZ StatS) zlH zyi zdf rfl rfl rfl rfl ?_)
 refine gz1 ?_;refine de rfl (uCx 0 zGM rfl rfl (zgb (l:=gLK (x.Player,x.Week) G) (p:=fun s=>s.Name==x.Stat) zGN (fun _=>zq2) uO) ?_)
 rintro _ _ ⟨u54,rfl,rfl⟩;refine gz2 ?_;refine uVj [14,1,55,11] (fun (w:Value)=>[(14,.raw w)]) (fun (w:Value)=> .arr w 2 ((zeY x (gLK (x.Player,x.Week) G)).map zbg)::([.map m18 (kk zg3 (em fG G))]++zd8 2 zbg (G.filter fun q=>decide (q.1≠(x.Player,x.Week))))) (fun (w:Value)=>True) ?_ ?_
 skip
 refine gz1 ?_;refine dq ((by first|exact zh zbv rfl ty3 (by decide) rfl|exact zd zbv rfl ty3 (by decide) rfl)) ?_;refine gz3 ?_;refine uCo (fun h7=> ?_) fun h8=> ?_
 refine gz2 ?_;refine dq ((by first|exact zh zbv rfl ty9 (by decide) rfl|exact zd zbv rfl ty9 (by decide) rfl)) ?_;refine gz1 ?_;refine dq ((by first|exact zh zbv rfl ty3 (by decide) rfl|exact zd zbv rfl ty3 (by decide) rfl)) ?_;refine gz1 ?_;refine dq (zF (cs:=[_,_]) zcl zCm rfl) ?_;refine dq (za (hs:=[_]) zdf zcl rfl rfl (by decide) (by decide) rfl) ?_;refine de rfl (zL (i:=0) zdf zcl rfl rfl rfl rfl rfl (by simp [zat,zb]) (by have:=ztk x (gLK (x.Player,x.Week) G);unfold zuq at this;simp only [Af,Aj,AA];omega) fun v65=> ?_)
 refine gz2 ?_;exact ⟨v65,trivial,⟨rfl,trivial⟩,uK,zk (by rw [zeY,if_pos (by assumption),Aq];rfl)⟩;refine gz1 ?_;exact ⟨u54,trivial,⟨rfl,trivial⟩,uK,zk (by rw [zeY,if_neg uSa,A9];rfl)⟩
 intro w _
 refine gz4 ?_;refine de0 (zjo (zfa (i:=1) (s:=(x.Player,x.Week)) (f:=fG) (L:=G) (v:=(w,zeY x (gLK (x.Player,x.Week) G))) zlH zyi rfl rfl rfl rfl ⟨_,zqw (A:=[.map m18 (kk zg3 (em fG (zz (x.Player,x.Week) (w,zeY x (gLK (x.Player,x.Week) G)) G)))]) (s:=(x.Player,x.Week)) (v:=w) (l:=zeY x (gLK (x.Player,x.Week) G)) hn,?_⟩))
 refine gz7 ?_;exact ⟨k+1,zz (x.Player,x.Week) (w,zeY x (gLK (x.Player,x.Week) G)) G,⟨by omega,hn.put,by rw [ztl hx,<-hc,zzw (n:=n) uO]⟩,uD,⟨rfl,trivial⟩,uK,zk rfl⟩;have hnk:m.length<=k:=by omega
 obtain rfl:k=m.length:=by omega
 rw [Ai] at hc;refine gz2 ?_;refine zI ?_;refine gz3 ?_;have hGl:=zDd hl hm hc;have hkl:(kk zg3 (em fG G)).length=G.length:=by simp [kk]
 refine gz2 ?_
 focus first
 |refine de rfl (zeC (i:=0) zlH rfl rfl ?_)
 |refine de rfl (zeC (i:=1) zlH rfl rfl ?_)
 |refine de rfl (zeC (i:=2) zlH rfl rfl ?_)
 |refine de rfl (zeC (i:=3) zlH rfl rfl ?_)
 refine gz2 ?_;refine z7 rfl (fun h9=> ?_) (fun h9=> ?_)
 exfalso
 try simp at h9
 omega
 try simp at h9
 refine gz5 ?_;refine ze (zK 3) ?_;refine gz3 ?_;refine de rfl (zoM (i:=1) zlH rfl rfl fun r=> ?_)
 refine gz2 ?_;refine uV3 [6,2,15,3,75,19] (fun (vis:List Nat) (E:List (Plc×(Value×List StatS))) (u:Value)=>[(15,.raw u)]) (fun (vis:List Nat) (E:List (Plc×(Value×List StatS))) (u:Value)=>[.arr u 3 ((E.map zng).map zbT),.iter r m18 (kk zg3 (em fG G)) vis]++zd8 2 zbg (ze0 G (E.map (·.1)))) (fun (vis:List Nat) (E:List (Plc×(Value×List StatS))) (u:Value)=>VisOk (G) vis E/\(True)) (fun (vis:List Nat) (E:List (Plc×(Value×List StatS))) (u:Value)=>(G).length-vis.length) ([]) ([]) (.slice none 0 0) ?_ ?_ ?_ ?_;exact ⟨VisOk.nil _,trivial⟩;exact ⟨rfl,trivial⟩;exact zk (by simp only [Be,ztx];rfl)
 intro vis E u hinv
 obtain ⟨hvis,-⟩:=hinv;refine gz1 ?_;refine de rfl (zoL (i:=1) (L:=G) (enc:=(fun p:Plc×(Value×List StatS)=>(zg3 p.1,fG p.2))) rfl rfl (zun _ _ _) hvis.nd hvis.lt fun cb R vis' hnx=> ?_)
 refine gz3 ?_;refine uCo (fun h10=> ?_) fun h11=> ?_
 obtain ⟨j,q,hq,hj,rfl⟩:=hnx.t h10;have hroom:=hvis.room hq hj;have hstep:=hvis.step hq hj;have hqm:=Ab hq;refine gz4 ?_;refine de rfl (znd (i:=1) (L:=G) (enc:=(fun p:Plc×(Value×List StatS)=>(zg3 p.1,fG p.2))) rfl rfl (zun _ _ _) hq ?_)
 refine gz2 ?_;refine de rfl (zj zhp rfl fun b16=> ?_)
 refine de0 (zn zhp rfl rfl rfl rfl rfl ?_)
 refine gz2 ?_;refine ze (zo 16 rfl) ?_;have hqa:alk q.1 G=some q.2:=(zet hn).1 hqm;have hqx:q.1∉E.map (·.1):=zeL.1 (hvis.fresh hn hq hj);obtain ⟨gv1,gl1⟩:=zG3 hqa;have hq40:=zEi h40 hc hqm;have hqn:=zG8 hs hc hqm;refine ze (zf1 (A:=[.arr u 3 ((E.map zng).map zbT),.iter r m18 (kk zg3 (em fG G)) (vis++[j])]) (G:=ze0 G (E.map (·.1))) (G':=G) (s:=q.1) (zp7 hn) (ztw hqx)) ?_;rw [zrO,gv1,gl1];refine gz3 ?_;refine de rfl (zau (i:=0) (es:=q.2.2) zdf rfl rfl ?_)
 refine gz2 ?_;refine z7 rfl (fun h12=> ?_) (fun h12=> ?_)
 exfalso
 try simp at h12
 omega
 try simp at h12
 refine gz4 ?_;refine de rfl (zaV (M1:=[.arr q.2.1 2 (q.2.2.map zbg)]) (R:=_) zB0 rfl (WeakL.refl _) (Ac _) (zp0 (c:=zbc) (zpG zdv) zB1 (fun _ _=> @znL zhW _ _) (l:=q.2.2) uO) ?_)
 rintro _ _ ⟨l',rfl,hp',hw',rfl⟩;obtain rfl:=zwy hqn hp' hw';refine gz1 ?_;refine ze (zaD 17 (i:=0) rfl rfl) ?_;refine gz2 ?_;refine dq ((by first|exact zh zhp rfl ty9 (by decide) rfl|exact zd zhp rfl ty9 (by decide) rfl)) ?_;refine gz1 ?_;refine dq ((by first|exact zh zhp rfl ty3 (by decide) rfl|exact zd zhp rfl ty3 (by decide) rfl)) ?_;refine gz2 ?_;refine dq (zF (cs:=[_,_,_]) zcZ pl89 rfl) ?_;refine dq (za (hs:=[_]) znE zcZ rfl rfl (by decide) (by decide) rfl) ?_;refine de rfl (zL (i:=0) znE zcZ rfl rfl rfl rfl rfl (by simp [zat,zb]) (by have:=hvis.len;simp only [Af,Aj,AA];omega) fun v93=> ?_)
 refine gz3 ?_;exact ⟨_,E++[q],v93,⟨hstep,trivial⟩,by dsimp only;rw [Ax];simp only [Aj,AA];omega,⟨rfl,trivial⟩,uK,zk (by dsimp only;simp only [Aq,Aw,Be];rfl)⟩;obtain ⟨rfl,hlen⟩:=hnx.f h11;have hEp:=hvis.done hlen;refine gz2 ?_;refine zcN ?_;refine gz2 ?_;have hr0:ze0 G (E.map (·.1))=[]:=zzJ (fun q hq=>Bl (hEp.mem_iff.2 hq));rw [hr0];refine ze (zmf (i:=1) rfl) ?_;refine ze (zbl (M':=[.arr u 3 ((E.map zng).map zbT),.map m18 (kk zg3 (em fG G))]) rfl) ?_;refine gz2 ?_;refine de rfl (zaV (M1:=[.arr u 3 ((E.map zng).map zbT)]) (R:=[.map m18 (kk zg3 (em fG G))]) zGO rfl (WeakL.refl _) (Ac _) (zwf (c:=zdm) (zpG zkn) zCa (fun _ _=> @znM zhW _ _) (l:=E.map zng) (by have:=hEp.length_eq;simp only [Af];omega)) ?_)
 rintro _ _ ⟨l',rfl,hp',hw',rfl⟩;obtain rfl:=zEh hc hEp hp' hw';refine gz1 ?_;refine ze (Ghost.only (i:=0) rfl) ?_;refine gz6 ?_;exact zmz (M:=[]) 6 rfl rfl rfl
theorem ztV [Tracks] {l:List LineS} {m:List MendS} {n:Int} (hl:l.length<=1000) (hm:m.length<=100) (hL: ∀x∈l,x.Stats.length<=1000) (h40:zaC l=0->GLen 40 (zeX l m n)):ConP prog 312 [zfG l,zcy m,.int .i64 n] (.tup [zfG (zes l m n),.int .i64 (zer l m n)]):=by
 refine uOb func312 ntmps312 ?_;refine gz7 ?_;refine dq (uCl zGD rfl (zpQ (l:=l) uO (fun x hx=>Ar (hL x hx) (by decide)))) ?_;refine gz1 ?_;refine dq (uCl zBD rfl (zjE (m:=m) uO)) ?_;refine dq (za (hs:=[_,_]) zej zgB rfl rfl (by decide) (by decide) rfl) ?_;refine dq (uCl zkC rfl (zb0 (l:=[_,_]) (by simp))) ?_;refine gz6 ?_;refine uCo (fun h1=> ?_) fun h2=> ?_
 refine gz6 ?_
 focus first
 |exact zbz rfl (zad (by rw [zes,if_pos (by simpa using h1)];exact zM 3) (by rw [zer,if_pos (by simpa using h1)];exact Weak.refl _))
 |exact zbz rfl (zad (by rw [zes,if_neg (by simpa using h2),if_neg uSa];exact zM 3) (by rw [zer,if_neg (by simpa using h2),if_neg uSa];exact Weak.refl _))
 | (refine zt rfl ?_
    rw [zes,zer,if_neg (by simpa using h2),if_pos uSa,if_neg (by simpa using h2),if_pos uSa])
 refine gz5 ?_;refine dq (uCl zkE rfl zbD) ?_;refine gz2 ?_;refine uCo (fun h3=> ?_) fun h4=> ?_
 refine gz5 ?_
 focus first
 |exact zbz rfl (zad (by rw [zes,if_pos (by simpa using h1)];exact zM 3) (by rw [zer,if_pos (by simpa using h1)];exact Weak.refl _))
 |exact zbz rfl (zad (by rw [zes,if_neg (by simpa using h2),if_neg uSa];exact zM 3) (by rw [zer,if_neg (by simpa using h2),if_neg uSa];exact Weak.refl _))
 | (refine zt rfl ?_
    rw [zes,zer,if_neg (by simpa using h2),if_pos uSa,if_neg (by simpa using h2),if_pos uSa])
 refine gz6 ?_;refine dq (uCl zGE rfl (ztW (l:=l) (m:=m) (n:=n) hl hm hL (zx6 (zvv h2).1) (h40 (zvv h2).1))) ?_;refine gz6 ?_
 focus first
 |exact zbz rfl (zad (by rw [zes,if_pos (by simpa using h1)];exact zM 3) (by rw [zer,if_pos (by simpa using h1)];exact Weak.refl _))
 |exact zbz rfl (zad (by rw [zes,if_neg (by simpa using h2),if_neg uSa];exact zM 3) (by rw [zer,if_neg (by simpa using h2),if_neg uSa];exact Weak.refl _))
 | (refine zt rfl ?_
    rw [zes,zer,if_neg (by simpa using h2),if_pos uSa,if_neg (by simpa using h2),if_pos uSa])
end
section
open Go.Proofs.Tryz
open Go.HL
theorem zCk [Tracks]:KeyOk prog 100 ziF:=zgu (cs:=fun x:Num=>zb (ziF x)) zrZ zGX (fun x y=>⟨rfl,⟨_,_,_,_,ty9,rfl⟩,⟨rfl,⟨_,_,_,_,ty3,rfl⟩,trivial⟩⟩)
 (fun x y=>by obtain ⟨a,b⟩:=x;obtain ⟨c,d⟩:=y;show (_&&(_&&true))=_;rw [AF];simp [eqH,Prod.mk.injEq]) (fun x=>rfl)
theorem zeB [Tracks] {T:List Str} {l:List GameS} (hT:T.length<=1000000) (hl:l.length<=1000000) (hb:(∀x∈l,((-1000000000<=x.FNum/\x.FNum<=1000000000)/\ -1000000000<=x.FDen/\x.FDen<=1000000000)/\((-1000000000<=x.ONum/\x.ONum<=1000000000)/\ -1000000000<=x.ODen/\x.ODen<=1000000000))):ConP prog 9 [eSs T,zb3 l] (.int .i64 (zc7 T l)):=by
 refine uOb func9 ntmps9 ?_;refine gz6 ?_;refine dq (uCl ca21 rfl (zop hT)) ?_;refine gz6 ?_;refine uCo (fun h1=> ?_) fun h2=> ?_
 ·refine gz5 ?_;refine zao Ghost.clear rfl ⟨?_,rfl⟩
  show HVal.int .i64 _=_
  try rw [hE]
  (rw [zc7,if_pos (by assumption)];done)
 ·refine gz3 ?_;have hz:zdr T=0:=by first|assumption|simp_all
  have hE:zc7 T l=zd7 T l:=by rw [zc7,if_neg (by simp [hz])]
  refine gz5 ?_;refine uCo (fun h3=> ?_) fun h4=> ?_
  ·refine gz4 ?_;refine zao Ghost.clear rfl ⟨?_,rfl⟩
   show HVal.int .i64 _=_
   try rw [hE]
   (refine congrArg _ (zev (zbN ?_) (by decide))
    omega)
  ·refine gz3 ?_;refine de rfl (zaN fun m22=> ?_)
   refine zay ?_;refine uV1 [4,1,7,4,12,2,25,70] (fun (k:Nat)=>[(25,.int .i64 k),(7,.bool (zkI l k))]) (fun (k:Nat)=>[.map m22 (kk ziF (em HVal.bool (zj1 (l.take k))))]) (fun (k:Nat)=>k<=l.length/\(za1 (zcd T) zeg l 0 l=za1 (zcd T) zeg l k (l.drop k))) (fun (k:Nat)=>l.length-k) (0) ?_ ?_ ?_ ?_
   ·exact ⟨Ad _,rfl⟩
   ·exact ⟨rfl,rfl,trivial⟩
   ·exact zk rfl
   ·intro k hinv
    obtain ⟨hk,hg⟩:=hinv;refine gz4 ?_;refine uCo (fun h5=> ?_) fun h6=> ?_
    ·obtain ⟨x,hx⟩: ∃x,l[k]? =some x:=⟨_,Aa h5⟩
     have hdx:=zg hx;rw [hdx] at hg;refine gz6 ?_;refine dq (zB zcG za8 rfl rfl rfl (by assumption)) ?_;refine gz1 ?_;refine de rfl (zj za8 rfl fun b9=> ?_)
     refine gz1 ?_;refine de0 (zn za8 rfl rfl rfl rfl rfl ?_)
     refine gz1 ?_;refine ze (zo 9 rfl) ?_;refine gz5 ?_;refine dq (uCl zm7 rfl zdg) ?_;refine gz3 ?_;refine uCo (fun h7=> ?_) fun h8=> ?_
     ·refine gz4 ?_;refine zao Ghost.clear rfl ⟨?_,rfl⟩
      show HVal.int .i64 _=_
      try rw [hE]
      (refine congrArg _ (zev (e:=1) (zA ?_ hg ?_ ?_) ?_)
       ·omega
       ·unfold zcd
        simp_all
        done
       ·first|decide|assumption
       ·first|decide|assumption)
     ·refine gz4 ?_;refine dq (uCl zh9 rfl (zO (l:=T) (s:=x.Home) uO)) ?_;refine gz5 ?_;refine uGr rfl (fun hc=>by have hq:=hc;(try simp at hq);exact uCl zh9 rfl (zO (l:=T) (s:=x.Away) uO)) ?_;refine gz4 ?_;refine uCo (fun h9=> ?_) fun h10=> ?_
      ·refine gz4 ?_;refine zao Ghost.clear rfl ⟨?_,rfl⟩
       show HVal.int .i64 _=_
       try rw [hE]
       (refine congrArg _ (zev (e:=8) (zA ?_ hg ?_ ?_) ?_)
        ·omega
        ·unfold zcd
         simp_all
         done
        ·first|decide|assumption
        ·first|decide|assumption)
      ·refine gz8 ?_;refine uCo (fun h11=> ?_) fun h12=> ?_
       ·refine gz4 ?_;refine zao Ghost.clear rfl ⟨?_,rfl⟩
        show HVal.int .i64 _=_
        try rw [hE]
        (refine congrArg _ (zev (e:=6) (zA ?_ hg ?_ ?_) ?_)
         ·omega
         ·unfold zcd
          simp_all
          done
         ·first|decide|assumption
         ·first|decide|assumption)
       ·refine gz5 ?_;refine dq (zax (h:=zam x) za8 rfl rfl rfl rfl) ?_;refine dq (uCl ca24 rfl (zn0 (x:=x) (hb x (Ab hx)))) ?_;refine gz6 ?_;refine uCo (fun h13=> ?_) fun h14=> ?_
        ·refine gz5 ?_;refine zao Ghost.clear rfl ⟨?_,rfl⟩
         show HVal.int .i64 _=_
         try rw [hE]
         (refine congrArg _ (zev (e:=(zgr x)) (zA ?_ hg ?_ ?_) ?_)
          ·omega
          ·unfold zcd
           simp_all
           done
          ·first|decide|assumption
          ·first|decide|assumption)
        ·refine gz3 ?_;refine uDr mixed ?_;refine gz7 ?_;refine uGy 7 rfl rfl (fun hc=>by have hq:=hc;(try simp at hq);exact zB (j:=k-1) (a:=l.getD (k-1) zeg) zcG za8 rfl rfl uO (getD_some uO)) ?_;refine gz1 ?_;refine uGy 9 rfl rfl (fun hc=>uCl ca25 rfl zsd) ?_;refine gz3 ?_;refine uCo (fun h15=> ?_) fun h16=> ?_
         ·refine gz4 ?_;refine zao Ghost.clear rfl ⟨?_,rfl⟩
          show HVal.int .i64 _=_
          try rw [hE]
          (refine congrArg _ (zev (e:=7) (zA ?_ hg ?_ ?_) ?_)
           ·omega
           ·unfold zcd
            simp_all
            done
           ·first|decide|assumption
           ·first|decide|assumption)
         ·refine gz2 ?_;have hne:x.Home≠x.Away:=by first|assumption|simp_all
          have hg0:zcd T k x (l.getD (k-1) zeg)=0:=by unfold zcd;simp_all
          refine gz5 ?_;refine dq (za (hs:=[_,_]) zp ty9 rfl rfl (by decide) (by decide) rfl) ?_;refine dq (zav (f:=HVal.str) (l:=[x.Home,x.Away]) zp rfl) ?_;refine gz3 ?_;refine uV1 [7,1,12,2,77,17] (fun (j:Nat)=>[(77,.int .i64 j),(7,.bool (inC l x k j))]) (fun (j:Nat)=>[.map m22 (kk ziF (em HVal.bool (inM l x k j)))]) (fun (j:Nat)=>j<=[x.Home,x.Away].length/\(True)) (fun (j:Nat)=>[x.Home,x.Away].length-j) (0) ?_ ?_ ?_ ?_
          ·exact ⟨Ad _,trivial⟩
          ·exact ⟨rfl,congrArg (fun q=>some (HVal.bool q)) zwP.1.symm,trivial⟩
          ·exact zk (by rw [zwP.2])
          ·intro j hinv
           obtain ⟨hj,-⟩:=hinv;refine gz4 ?_;refine uCo (fun h17=> ?_) fun h18=> ?_
           ·obtain ⟨s,hs⟩: ∃s,[x.Home,x.Away][j]? =some s:=⟨_,Aa (by show j<2;omega)⟩
            have hds:=zg hs;refine gz5 ?_;refine dq (zB zp ty9 rfl rfl rfl (by assumption)) ?_;refine gz3 ?_;obtain ⟨st1,st2⟩:=zC0 (l:=l) (k:=k) hne hs;refine gz4 ?_;refine dq (zF (cs:=[_,_]) zrZ zHc rfl) ?_;refine de rfl (zj zrZ rfl fun b13=> ?_)
            refine de0 (zn zrZ rfl rfl rfl rfl rfl ?_)
            refine gz1 ?_;refine ze (zo 13 rfl) ?_;refine gz5 ?_;refine dgl rfl rfl (fun hc=>⟨_,OpenTo.upd (t:=88) rfl (hc) (OpenTo.upd (t:=87) rfl (hc) (OpenTo.refl _)),zcK (i:=0) (f:=HVal.bool) (L:=inM l x k j) (s:=(s,x.Week)) (z0:=false) ty92 zCk ty4 rfl rfl rfl rfl ⟨rfl,rfl⟩⟩) ?_;refine gz6 ?_;refine de0 (zfa (i:=0) (f:=HVal.bool) (v:=true) (s:=(s,x.Week)) (L:=inM l x k j) ty92 zCk rfl rfl rfl rfl ?_)
            refine gz7 ?_;exact ⟨j+1,⟨by show j+1<=2;omega,trivial⟩,by show 2-(j+1)<2-j;omega,⟨rfl,congrArg (fun q=>some (HVal.bool q)) (by rw [<-st1];cases inC l x k j<;>rfl),trivial⟩,uK,zk (by dsimp only;rw [<-st2];rfl)⟩
           ·refine gz2 ?_;refine zu ?_;refine gz7 ?_;have e2:j=2:=by (have q:[x.Home,x.Away].length=2:=rfl;omega)
            subst e2;obtain ⟨t1,t2⟩:=zD7 hx;exact ⟨k+1,⟨by omega,by rw [hg,zaZ hg0]⟩,uD,⟨rfl,congrArg (fun q=>some (HVal.bool q)) t1,trivial⟩,uK,zk (by dsimp only;rw [t2])⟩
    ·have hnk:l.length<=k:=by omega
     obtain rfl:k=l.length:=by omega
     rw [zC (Ae _)] at hg;refine gz2 ?_;refine zu ?_;refine gz6 ?_;refine uCo (fun h19=> ?_) fun h20=> ?_
     ·refine gz4 ?_;refine zao Ghost.clear rfl ⟨?_,rfl⟩
      show HVal.int .i64 _=_
      try rw [hE]
      (rw [zwJ ?_ hg,if_pos (by assumption)]
       omega)
     ·refine gz6 ?_;refine zao Ghost.clear rfl ⟨?_,rfl⟩
      show HVal.int .i64 _=_
      try rw [hE]
      (rw [zwJ ?_ hg,if_neg uSa]
       omega)
theorem zmV [Tracks] {l:List Int} (hl:l.length<=1000000):ConP prog 186 [.slice 1 (l.map (HVal.int .i64))] (.int .i64 (zd0 l)):=by
 refine uOb func186 ntmps186 ?_;refine gz9 ?_;refine uCo (fun h1=> ?_) fun h2=> ?_
 ·refine gz4 ?_;refine uRp ?_
  (rw [zd0,if_pos uO];done)
 ·refine gz9 ?_;refine uT1 [2,3,10,13] (fun k=>[(10,.int .i64 k)]) (fun k=>[]) (fun k=>k<=l.length/\(zbW l 0 l=zbW l k (l.drop k))) (fun k=>l.length-k) (0) ?_ ?_
  ·exact ⟨Ad _,rfl⟩
  ·rintro k ⟨hk,hg⟩;refine gz4 ?_;refine uCo (fun h3=> ?_) fun h4=> ?_
   ·obtain ⟨x,hx⟩: ∃x,l[k]? =some x:=⟨_,Aa h3⟩
    have hdx:=zg hx;rw [hdx] at hg;refine zda ?_;refine dq (uCl zct rfl zai) ?_;refine gz1 ?_;refine uCo (fun h5=> ?_) fun h6=> ?_
    ·refine gz4 ?_;refine uRp ?_
     (refine congrArg _ (zeu (e:=4) ?_ hg ?_)
      ·omega
      ·rw [zbW]
       simp_all
       done)
    ·refine gz5 ?_;refine dq (zaK zX ty3 rfl rfl ⟨_,_,rfl,rfl⟩ uO uO) ?_;refine gz1 ?_;refine dq (uCl zAd rfl (zdG (l:=l.take k) (z:=x) (by rw [Am];omega))) ?_;refine gz1 ?_;refine uCo (fun h7=> ?_) fun h8=> ?_
     ·refine gz4 ?_;refine uRp ?_
      (refine congrArg _ (zeu (e:=6) ?_ hg ?_)
       ·omega
       ·rw [zbW]
        simp_all
        done)
     ·refine gz7 ?_;refine ⟨k+1,?_,?_,⟨rfl,trivial⟩,uK,Ac _⟩
      ·refine ⟨by omega,?_⟩
       rw [hg,zbW,if_neg uSa,if_neg uSa]
      ·dsimp only;omega
   ·have hnk:l.length<=k:=by omega
    obtain rfl:k=l.length:=by omega
    rw [zC (Ae _)] at hg;refine gz2 ?_;refine zu ?_;refine gz6 ?_;refine uRp ?_
    (refine congrArg _ (zj6 ?_ hg)
     omega)
theorem zgi [Tracks] {l:List GameS} {fid:FuncId} {caps:List HVal} {p:GameS->Bool} (hca:Callable prog fid) (hp: ∀x,ConP prog fid ([zam x]++caps) (.bool (p x))) (hl:l.length<=1000000):ConP prog 172 [.slice 8 (l.map zam),.fn (.func fid) [] caps] (.int .i64 (zW p l 0)):=by
 refine uOb func172 ntmps172 ?_;refine zay ?_;refine uT1 [4,2,8,11] (fun k=>[(8,.int .i64 k)]) (fun k=>[]) (fun k=>k<=l.length/\(zW p l 0=zW p (l.drop k) k)) (fun k=>l.length-k) (0) ?_ ?_;exact ⟨Ad _,rfl⟩;rintro k ⟨hk,hg⟩;refine gz4 ?_;refine uCo (fun h1=> ?_) fun h2=> ?_
 obtain ⟨x,hx⟩: ∃x,l[k]? =some x:=⟨_,Aa h1⟩
 have hdx:=zg hx;rw [hdx] at hg;refine zda ?_;refine dq (zag hca rfl rfl (WeakL.refl _) (hp _)) ?_;refine gz1 ?_;refine uCo (fun h3=> ?_) fun h4=> ?_
 refine gz5 ?_;refine uRp ?_
 (rw [hg];simp_all [zW])
 refine gz7 ?_;refine ⟨k+1,?_,?_,⟨rfl,trivial⟩,uK,Ac _⟩
 refine ⟨by omega,?_⟩
 rw [hg,zW,if_neg uSa];rfl
 dsimp only;omega
 have hnk:l.length<=k:=by omega
 obtain rfl:k=l.length:=by omega
 rw [zC (Ae _)] at hg;refine gz2 ?_;refine zu ?_;refine gz6 ?_;refine uRp ?_
 (rw [hg];rfl)
theorem zbE [Tracks] {l:List GameS} {fid:FuncId} {caps:List HVal} {p:GameS->Bool} (hca:Callable prog fid) (hp: ∀x,ConP prog fid ([zam x]++caps) (.bool (p x))) (hl:l.length<=1000000):ConP prog 97 [.slice 8 (l.map zam),.fn (.func fid) [] caps] (.bool (l.any p)):=by
 refine uOb func97 ntmps97 ?_;refine gz6 ?_;refine dq (uCl zFo rfl (zgi hca hp hl)) ?_;refine gz4 ?_;refine zt rfl ?_
 congr 1;exact zcH p l 0 uO
theorem zlS [Tracks] {x:GameS}:ConP prog 185 [zam x] (.bool x.Played):=by
 refine uOb func185 ntmps185 ?_;refine zay ?_;refine zt rfl ?_
 rfl
theorem zmU [Tracks] {g:LeagueS} (hT:Tracks.on=false) (hb:LeaB g):ConP prog 115 [zfO g] (.int .i64 (zcu g)):=by
 have hst:=hb.sta;refine uOb func115 ntmps115 ?_;refine gz5 ?_;refine uDr mixed ?_;refine gz4 ?_;refine uB 4 rfl (uCl zFr rfl (zm1 (L:=g.Players) (l:=g.Stints) hT hb.pl hb.nm hb.po hb.st)) ?_;refine gz2 ?_;refine uB 7 rfl (uCl zFs rfl (zlT (l:=g.Fixtures) hb.fx)) ?_;refine gz2 ?_;refine uB 10 rfl (uCl zBS rfl (zjd (l:=g.Rules) hb.ru hb.rw')) ?_;refine gz2 ?_;refine uB 13 rfl (uCl zBT rfl (zje (l:=g.Slots) hb.sl hb.sp)) ?_;refine gz1 ?_;refine uB 15 rfl (zY (h':=zgo g.Bounds) (zaF zjB rfl rfl (Ak rfl)) rfl) ?_;refine uB 16 rfl (uCl zBU rfl (zh3 (b:=g.Bounds))) ?_;refine gz4 ?_;refine uB 21 rfl (uCl ca9 rfl (zeB (T:=g.Teams) (l:=g.Games) hb.tm hb.ga hb.gb)) ?_;refine uB 22 rfl (za (hs:=[_,_,_,_,_,_]) zej zgB rfl rfl (by decide) (by decide) rfl) ?_;refine uB 23 rfl (uCl zkC rfl (zb0 (l:=[_,_,_,_,_,_]) (by simp))) ?_;refine gz6 ?_;refine uCo (fun h1=> ?_) fun h2=> ?_
 refine gz5 ?_;refine uRp ?_;unfold zcu zic zl4 zdc
 (rw [if_pos (by assumption)])
 refine gz6 ?_;refine dq (uCl zAg rfl (zbE (l:=g.Games) (p:=fun x=>x.Played) zFt (fun _=>zlS) hb.ga)) ?_;refine gz1 ?_;refine uCo (fun h3=> ?_) fun h4=> ?_
 refine gz4 ?_;refine uRp ?_;unfold zcu zic zl4 zdc
 (rw [if_neg (fun q=>q h2),if_pos uSa])
 refine gz3 ?_;refine uDr mixed ?_;refine gz2 ?_;refine uB 2 rfl (uCl zFu rfl (zmV (l:=g.Breaks) hb.br)) ?_;refine gz2 ?_;refine uB 5 rfl (uCl ca54 rfl (zjG (l:=g.Trust) hb.tr)) ?_;refine uB 6 rfl (za (hs:=[_,_]) zej zgB rfl rfl (by decide) (by decide) rfl) ?_;refine uB 7 rfl (uCl zkC rfl (zb0 (l:=[_,_]) (by simp))) ?_;refine gz6 ?_;refine uCo (fun h5=> ?_) fun h6=> ?_
 refine gz5 ?_;refine uRp ?_;unfold zcu zic zl4 zdc
 (rw [if_neg (fun q=>q h2),if_neg uSa,if_pos (by assumption)])
 refine gz6 ?_;refine dq (uCl zkE rfl zbD) ?_;refine gz8 ?_;refine uCo (fun h7=> ?_) fun h8=> ?_
 refine gz4 ?_;refine uRp ?_;unfold zcu zic zl4 zdc
 (rw [if_neg (fun q=>q h2),if_neg uSa,if_neg (fun q=>q h6),if_pos uSa])
 refine gz6 ?_;refine uRp ?_;unfold zcu zic zl4 zdc
 (rw [if_neg (fun q=>q h2),if_neg uSa,if_neg (fun q=>q h6),if_neg uSa])
theorem zpN [Tracks] {a b:ChoiceS}:ConP prog 191 [zaq a,zaq b] (.int .i64 (zll a b)):=by
 refine uOb func191 ntmps191 ?_;refine gz5 ?_;refine uDr mixed ?_;refine gz4 ?_;refine uB 4 rfl (uCl zc3 rfl zN) ?_;refine gz4 ?_;refine uB 9 rfl (uCl zd4 rfl zU) ?_;refine gz4 ?_;refine uB 14 rfl (uCl zd4 rfl zU) ?_;refine uB 15 rfl (za (hs:=[_,_,_]) zX ty3 rfl rfl (by decide) (by decide) rfl) ?_;refine uB 16 rfl (uCl zia rfl (zbe (l:=[_,_,_]) (by simp))) ?_;refine gz3 ?_;refine zt rfl ?_
 rfl
theorem zmk [Tracks] {b:BookS} {l:List ChoiceS} (hb:BookB b) (hl:l.length<=1000000) (hc: ∀x∈l,x.Players.length<=1000000):ConP prog 119 [.vptr (zxv b) 0,zkJ l] (.int .i64 (zsr b.League.Teams b.League.Slots.length l)):=by
 have hsl:=hb.lea.sl;have htm:=hb.lea.tm;refine uOb func119 ntmps119 ?_;refine gz9 ?_;refine uCo (fun h1=> ?_) fun h2=> ?_
 refine gz4 ?_;refine uRp ?_
 (refine congrArg _ (zbN ?_)
  omega)
 refine gz9 ?_;refine uT1 [4,3,8,1,14,68] (fun k=>[(14,.int .i64 k)]) (fun k=>[]) (fun k=>k<=l.length/\(za1 (zcc b.League.Teams b.League.Slots.length) zfM l 0 l=za1 (zcc b.League.Teams b.League.Slots.length) zfM l k (l.drop k))) (fun k=>l.length-k) (0) ?_ ?_;exact ⟨Ad _,rfl⟩;rintro k ⟨hk,hg⟩;refine gz4 ?_;refine uCo (fun h3=> ?_) fun h4=> ?_
 obtain ⟨x,hx⟩: ∃x,l[k]? =some x:=⟨_,Aa h3⟩
 have hdx:=zg hx;rw [hdx] at hg;refine gz6 ?_;refine dq (zB zgA zeJ rfl rfl rfl (by assumption)) ?_;refine gz1 ?_;refine de rfl (zj zeJ rfl fun b6=> ?_)
 refine gz1 ?_;refine de0 (zn zeJ rfl rfl rfl rfl rfl ?_)
 refine gz1 ?_;refine ze (zo 6 rfl) ?_;refine gz2 ?_;refine uDr mixed ?_;refine gz6 ?_;refine uB 6 rfl (uCl zh9 rfl (zO (l:=b.League.Teams) (s:=x.Team) uO)) ?_;refine gz3 ?_;refine uCo (fun h5=> ?_) fun h6=> ?_
 refine gz4 ?_;refine uRp ?_
 (refine congrArg _ (zA (e:=8) ?_ hg ?_ ?_)
  omega
  unfold zcc;exact uT
  first|decide|assumption)
 refine gz3 ?_;refine dq (uCl zm7 rfl zdg) ?_;refine gz4 ?_;refine uGr rfl (fun hc=>uCl zkE rfl zbD) ?_;refine gz4 ?_;refine uCo (fun h7=> ?_) fun h8=> ?_
 refine gz4 ?_;refine uRp ?_
 (refine congrArg _ (zA (e:=1) ?_ hg ?_ ?_)
  omega
  unfold zcc;exact uT
  first|decide|assumption)
 refine uDr mixed ?_;refine gz2 ?_;refine uB 2 rfl (zav (f:=HVal.str) (l:=x.Players) zp rfl) ?_;refine gz4 ?_;refine uB 7 rfl (zav (f:=zbZ) (l:=b.League.Slots) zf0 rfl) ?_;refine gz3 ?_;refine uCo (fun h9=> ?_) fun h10=> ?_
 refine gz4 ?_;refine uRp ?_
 (refine congrArg _ (zA (e:=3) ?_ hg ?_ ?_)
  omega
  unfold zcc;exact uT
  first|decide|assumption)
 refine gz4 ?_;have hcx:=hc x (Ab hx);refine uDr mixed ?_;refine gz2 ?_;refine uA 3 ?_;refine gz1 ?_;refine uB 5 rfl (za (hs:=[_]) zp ty9 rfl rfl (by decide) (by decide) rfl) ?_;refine uA 8 ?_;refine uF 2 ?_;refine zx rfl (uCa zkD rfl (zaf (l:=x.Players) hcx) fun v51=> ?_)
 refine ⟨uE,?_⟩
 refine uF 6 ?_;refine zx rfl (zme (N:=[]) (sz:=1) (es:=(x.Players++[x.Captain]).map .str) 0 (zL (i:=0) (v:=v51) (es:=x.Players.map .str) (ys:=[.str x.Captain]) zp ty9 rfl rfl rfl rfl rfl (by simp [zat,zb]) uSo fun v55=>⟨v55,rfl,by rw [Aq];rfl,rfl⟩) ?_)
 refine ⟨uE,?_⟩
 refine uB 7 rfl (zav (f:=HVal.str) (l:=x.Players++[x.Captain]) zp rfl) ?_;refine uAz ?_;refine gz1 ?_;refine uT1 [4,1,8,1,57,12] (fun j=>[(57,.int .i64 j)]) (fun j=>[]) (fun j=>j<=(x.Players++[x.Captain]).length/\(∀s∈(x.Players++[x.Captain]).take j,zcg s=true)) (fun j=>(x.Players++[x.Captain]).length-j) (0) ?_ ?_;exact ⟨Ad _,by simp⟩;rintro j ⟨hj,hnm⟩;have hlen:(x.Players++[x.Captain]).length=x.Players.length+1:=by simp
 refine gz4 ?_;refine uCo (fun h11=> ?_) fun h12=> ?_
 obtain ⟨s,hs⟩: ∃s,(x.Players++[x.Captain])[j]? =some s:=⟨_,Aa (by rw [Ax];simp;omega)⟩
 have hds:=zg hs;refine gz5 ?_;refine dq (zB zp ty9 rfl rfl rfl (by assumption)) ?_;refine gz8 ?_;refine uGr rfl (fun hc=>uCl zbK rfl zak) ?_;refine gz3 ?_;refine uCo (fun h13=> ?_) fun h14=> ?_
 refine gz4 ?_;refine uRp ?_
 (obtain ⟨q1,q2⟩: ¬s=[]/\key s=false:=by first|assumption|simp_all
  have g1:zcc b.League.Teams b.League.Slots.length k x (l.getD (k-1) zfM)=5:=by
   unfold zcc;rw [if_neg uSa,if_neg uSa,if_neg (fun q=>q uO),if_pos (zzA (Ab hs) (zDe q1 q2))]
  exact congrArg _ (zA (e:=5) uO hg g1 (by decide)))
 refine gz7 ?_;refine ⟨j+1,?_,?_,⟨rfl,trivial⟩,uK,Ac _⟩
 refine ⟨by omega,fun s' hs'=> ?_⟩
 rw [zR hs] at hs'
 rcases List.mem_append.1 hs' with q|q
 exact hnm s' q;rw [List.mem_singleton.1 q];exact zDf (by intro q2;simp_all)
 dsimp only;omega
 have hnj:(x.Players++[x.Captain]).length<=j:=by omega
 obtain rfl:j=(x.Players++[x.Captain]).length:=by omega
 rw [Ai] at hnm;refine gz2 ?_;refine zu ?_;refine gz2 ?_;have hall:((x.Players++[x.Captain]).all zcg)=true:=by
  rw [List.all_eq_true]
  intro s hs
  exact hnm s hs
 refine uDr mixed ?_;refine gz7 ?_;refine uGy 7 rfl rfl (fun hc=>by have hq:=hc;(try simp at hq);exact zB (j:=k-1) (a:=l.getD (k-1) zfM) zgA zeJ rfl rfl uO (getD_some uO)) ?_;refine gz1 ?_;refine uGy 9 rfl rfl (fun hc=>uCl zFx rfl zpN) ?_;refine gz3 ?_;refine uCo (fun h15=> ?_) fun h16=> ?_
 refine gz4 ?_;refine uRp ?_
 (refine congrArg _ (zA (e:=7) ?_ hg ?_ ?_)
  omega
  unfold zcc;exact uT
  first|decide|assumption)
 refine gz7 ?_;refine ⟨k+1,?_,?_,⟨rfl,trivial⟩,uK,Ac _⟩
 refine ⟨by omega,?_⟩
 rw [hg,zaZ (by unfold zcc;(try clear hdx hg);(try simp only [Ag]);focus first|(simp_all;done)|((repeat' split)<;>focus first|rfl|(exfalso;omega)|(simp_all;done)|(exfalso;rcases ‹_\/_› with q|q<;>simp_all;done)|(exfalso;simp_all;omega)))]
 dsimp only;omega
 have hnk:l.length<=k:=by omega
 obtain rfl:k=l.length:=by omega
 rw [zC (Ae _)] at hg;refine gz2 ?_;refine zu ?_;refine gz6 ?_;refine uRp ?_
 (refine congrArg _ (zbB ?_ hg)
  omega)
theorem zon [Tracks] {b:BookS} (hT:Tracks.on=false) (hb:BookB b) (hw: ∀x∈b.Health,-1000000000000000<=x.To/\x.To<=1000000000000000):ConP prog 48 [zbp b] (.int .i64 (zdt b)):=by
 refine uOb func48 ntmps48 ?_;refine gz7 ?_;refine dq (zY (h':=zfO b.League) (zaF zaS rfl rfl (Ak rfl)) rfl) ?_;refine dq (uCl zEO rfl (zmU (g:=b.League) hT hb.lea)) ?_;refine gz6 ?_;refine uCo (fun h1=> ?_) fun h2=> ?_
 refine gz5 ?_;refine uRp ?_;unfold zdt
 (rw [if_pos (by assumption)])
 refine gz2 ?_;refine uDr mixed ?_;refine gz2 ?_;refine uB 2 rfl (uCl zBC rfl (zix (l:=b.Moves) hb.mv)) ?_;refine gz2 ?_;refine uB 5 rfl (uCl ca53 rfl (zjF (l:=b.Plays) hb.pl)) ?_;refine gz2 ?_;refine uB 8 rfl (uCl zBD rfl (zjE (m:=b.Mends) hb.me)) ?_;refine gz5 ?_;refine uB 14 rfl (uCl zEP rfl (zm0 (L:=b.League.Players) (l:=b.Health) hT hb.lea.pl hb.lea.nm hb.lea.po hb.he hw)) ?_;refine gz3 ?_;refine uB 18 rfl (uCl zEQ rfl (zmk (b:=b) (l:=b.Choices) hb hb.ch hb.cp)) ?_;refine uB 19 rfl (za (hs:=[_,_,_,_,_]) zej zgB rfl rfl (by decide) (by decide) rfl) ?_;refine uB 20 rfl (uCl zkC rfl (zb0 (l:=[_,_,_,_,_]) (by simp))) ?_;refine gz3 ?_;refine uRp ?_;unfold zdt
 (rw [if_neg (fun q=>q h2),<-zD4 (fun q=>q h2)])
end
section
open Go.Proofs.Tryz
open Go.HL
theorem za0 [Tracks] {n lo hi:Int}:ConP prog 103 [.int .i64 n,.int .i64 lo,.int .i64 hi] (.bool (!(out n lo hi))):=by
 refine uOb func103 ntmps103 ?_;refine ziG ?_;refine zt rfl ?_
 show HVal.bool _=_
 congr 1;simp [out];rw [AF];simp;try omega
theorem zhs [Tracks] {n:Int}:ConP prog 85 [.int .i64 n] (.int .i64 (zny n)):=by
 refine uOb func85 ntmps85 ?_;refine zay ?_;refine uCo (fun h1=> ?_) fun h2=> ?_
 refine gz4 ?_;refine uRp ?_;unfold zny
 (rw [if_pos uO])
 refine gz5 ?_;refine uCo (fun h3=> ?_) fun h4=> ?_
 refine gz4 ?_;refine uRp ?_;unfold zny
 (rw [if_neg uO,if_pos uO])
 refine gz7 ?_;refine uRp ?_;unfold zny
 (rw [if_neg uO,if_neg uO])
theorem zkv [Tracks] {s l:Str} (hs:s.length<=1000000):ConP prog 174 [.str s,.str l] (.bool (zij s l)):=by
 refine uOb func174 ntmps174 ?_;refine zay ?_;refine uT1 [4,2,8,10] (fun k=>[(8,.int .i64 (k:Int))]) (fun k=>[]) (fun k=>k<=s.length/\zij s l=zij (s.drop k) l) (fun k=>s.length-k) (0) ?_ ?_;exact ⟨Ad _,rfl⟩;rintro k ⟨hk,hg⟩;refine gz4 ?_;refine uCo (fun h1=> ?_) fun h2=> ?_
 obtain ⟨x,hx⟩: ∃x,s[k]? =some x:=⟨_,Aa uO⟩
 have hd:=zg hx;rw [hd] at hg;refine zc9 ?_;refine dq (zaU (j:=k) (b:=x) ty9 rfl rfl rfl hx) ?_;refine dq (uCl zBR rfl (ziy (s:=l) (c:=x.toNat))) ?_;refine gz2 ?_;refine uCo (fun h3=> ?_) fun h4=> ?_
 refine gz4 ?_;refine zt rfl ?_
 show HVal.bool _=_
 rw [hg]
 (rw [zEo (by assumption)])
 refine gz7 ?_;refine ⟨k+1,?_,?_,⟨rfl,trivial⟩,uK,Ac _⟩
 refine ⟨by omega,?_⟩
 rw [hg,zEp (by assumption)]
 dsimp only;omega
 rw [zC uO] at hg;refine gz2 ?_;refine zu ?_;refine gz6 ?_;refine zt rfl ?_
 show HVal.bool _=_
 rw [hg]
 rfl
theorem zbd [Tracks] {s:Str}:ConP prog 104 [.str s] (.bool (key s)):=by
 refine uOb func104 ntmps104 ?_;refine gz6 ?_;refine dq (uCl zgJ rfl za0) ?_;refine gz2 ?_;refine dg rfl rfl (fun hc=>by
  have hb:=zfy (n:=(s.length:Int)) (lo:=1) (hi:=40) (by simpa using hc);exact ⟨_,OpenTo.upd (t:=7) rfl (hc) (OpenTo.refl _),zik (l:=0) (h:=1) ty9 rfl rfl ⟨_,_,rfl,by omega⟩ uO uO⟩) ?_
 refine uGr rfl (fun hc=>by have hq:=hc;(try simp at hq);exact uCl zBP rfl (zkv (s:=s.take 1) (l:=zkc) (by rw [Am];omega))) ?_;refine gz3 ?_;refine dg rfl rfl (fun hc=>by
  have hb:=zfy (n:=(s.length:Int)) (lo:=1) (hi:=40) (by (have q:=hc;simp at q;exact q.1));exact ⟨_,OpenTo.upd (t:=12) rfl (hc) (OpenTo.refl _),uCl zBP rfl (zkv (s:=s) (l:=zhk) uO)⟩) ?_
 refine gz4 ?_;refine zt rfl ?_
 show HVal.bool _=_
 rw [zAH]
 simp
theorem zja [Tracks] {n:Int}:ConP prog 102 [.int .i64 n] (.bool (zac n)):=by
 refine uOb func102 ntmps102 ?_;refine gz5 ?_;refine dq (uCl zgJ rfl za0) ?_;refine gz3 ?_;refine zt rfl ?_
 show HVal.bool _=_
 rfl
theorem zhr [Tracks] {n:Int}:ConP prog 165 [.int .i64 n] (.bool (za4 n)):=by
 refine uOb func165 ntmps165 ?_;refine gz5 ?_;refine dq (uCl zgJ rfl za0) ?_;refine gz3 ?_;refine zt rfl ?_
 show HVal.bool _=_
 rfl
theorem zjb [Tracks] {l:List Str} (hl:l.length<=1000000):ConP prog 169 [eSs l] (.int .i64 (zdV l)):=by
 refine uOb func169 ntmps169 ?_;refine zay ?_;refine uT1 [2,3,7,20] (fun k=>[(7,.int .i64 k)]) (fun k=>[]) (fun k=>k<=l.length/\(zdV l=zbP l k (l.drop k))) (fun k=>l.length-k) (0) ?_ ?_;exact ⟨Ad _,rfl⟩;rintro k ⟨hk,hg⟩;refine gz4 ?_;refine uCo (fun h1=> ?_) fun h2=> ?_
 obtain ⟨x,hx⟩: ∃x,l[k]? =some x:=⟨_,Aa h1⟩
 have hdx:=zg hx;rw [hdx] at hg;refine zda ?_;refine dq (uCl zh8 rfl zbd) ?_;refine gz2 ?_;refine uCo (fun h3=> ?_) fun h4=> ?_
 refine gz4 ?_;refine uRp ?_;rw [hg];simp_all [zbP,leS];refine zay ?_;refine uGr rfl (fun hc=>by have hq:=hc;(try simp at hq);exact zB (j:=k-1) (a:=l.getD (k-1) []) zp ty9 rfl rfl uO (getD_some uO)) ?_;refine gz4 ?_;refine uCo (fun h5=> ?_) fun h6=> ?_
 refine gz4 ?_;refine uRp ?_;rw [hg];simp_all [zbP,leS];refine gz7 ?_;refine ⟨k+1,?_,?_,⟨rfl,trivial⟩,uK,Ac _⟩
 refine ⟨by omega,?_⟩
 rw [hg];simp_all [zbP,leS]
 dsimp only;omega
 have hnk:l.length<=k:=by omega
 obtain rfl:k=l.length:=by omega
 rw [zC (Ae _)] at hg;refine gz2 ?_;refine zu ?_;refine gz6 ?_;refine uRp ?_;rw [hg];simp_all [zbP,leS]
theorem zhL [Tracks] {l:List Str} (hl:l.length<=1000000):ConP prog 164 [eSs l,.bool true] (.int .i64 (zdq l)):=by
 refine uOb func164 ntmps164 ?_;refine zda ?_;refine uCo (fun h1=> ?_) fun h2=> ?_
 refine gz4 ?_;refine uRp ?_;rw [zsG]
 (rw [if_pos uSa])
 refine gz6 ?_;refine uCo (fun h3=> ?_) fun h4=> ?_
 refine gz4 ?_;refine uRp ?_;rw [zsG]
 (rw [if_neg uO,if_pos uO])
 refine gz5 ?_;refine dq (uCl zBN rfl (zjb (by assumption))) ?_;refine gz3 ?_;refine uRp ?_;rw [zsG]
 (rw [if_neg uSa,if_neg uO])
theorem zkt [Tracks] {l:List PlayerS} (hT:Tracks.on=false) (hl:l.length<=1000000) (hn: ∀p∈l,p.Name∈zdk) (hp: ∀p∈l,p.Positions.length<=1000000):ConP prog 89 [zbm l] (.int .i64 (zcP l)):=by
 refine uOb func89 ntmps89 ?_;refine gz9 ?_;refine uCo (fun h1=> ?_) fun h2=> ?_
 refine gz4 ?_;refine uRp ?_
 (refine congrArg _ (zbN ?_)
  omega)
 refine zc9 ?_;refine uT1 [2,2,5,2,12,35] (fun k=>[(12,.int .i64 k),(3,.str (zpx PlayerS.Key zex l k))]) (fun k=>[]) (fun k=>k<=l.length/\(za1 zcS zex l 0 l=za1 zcS zex l k (l.drop k))) (fun k=>l.length-k) (0) ?_ ?_;exact ⟨Ad _,rfl⟩;rintro k ⟨hk,hg⟩;refine gz4 ?_;refine uCo (fun h3=> ?_) fun h4=> ?_
 obtain ⟨x,hx⟩: ∃x,l[k]? =some x:=⟨_,Aa h3⟩
 have hdx:=zg hx;rw [hdx] at hg;refine gz7 ?_;refine de rfl (zj ze2 rfl fun b5=> ?_)
 refine de0 (zn ze2 rfl rfl rfl rfl rfl ?_)
 refine gz1 ?_;refine ze (zo 5 rfl) ?_;refine gz5 ?_;refine dq (uCl zh8 rfl zbd) ?_;refine gz3 ?_;refine uCo (fun h5=> ?_) fun h6=> ?_
 refine gz4 ?_;refine uRp ?_
 (refine congrArg _ (zA (e:=5) ?_ hg ?_ ?_)
  omega
  unfold zcS;exact uT
  first|decide|assumption)
 have hkx:key x.Key=true:=by first|assumption|simp_all
 have hll:=zwS (f:=PlayerS.Key) (d:=zex) (l:=l) (k:=k) (x:=x) hkx;refine gz7 ?_;refine uCo (fun h7=> ?_) fun h8=> ?_
 refine gz4 ?_;refine uRp ?_
 (refine congrArg _ (zA (e:=7) ?_ hg ?_ ?_)
  omega
  unfold zcS;exact uT
  first|decide|assumption)
 have hn6:=zo8 (hn x (Ab hx));refine gz3 ?_;refine dq (uCl zFk rfl (zpJ hT (hn x (Ab hx)))) ?_;refine gz5 ?_;refine uGr rfl (fun hc=>uCl zgJ rfl za0) ?_;refine gz4 ?_;refine z7 rfl (fun h9=> ?_) (fun h9=> ?_)
 exfalso
 try simp at h9
 simp_all
 try simp at h9
 refine gz7 ?_;refine dq (uCl zBL rfl (zhL (hp x (Ab hx)))) ?_;refine gz6 ?_;refine uCo (fun h10=> ?_) fun h11=> ?_
 refine gz5 ?_;refine uRp ?_
 (refine congrArg _ (zA (e:=(zdq x.Positions)) ?_ hg ?_ ?_)
  omega
  unfold zcS;exact uT
  first|decide|assumption)
 refine zdy ?_;exact ⟨k+1,⟨by omega,by rw [hg,zaZ (by unfold zcS;(try clear hdx hg);(try simp only [Ag]);focus first|(simp_all;done)|((repeat' split)<;>focus first|rfl|(exfalso;omega)|(simp_all;done)|(exfalso;rcases ‹_\/_› with q|q<;>simp_all;done)|(exfalso;simp_all;omega)))]⟩,uD,⟨rfl,congrArg (fun q=>some (HVal.str q)) (zth hx).symm,trivial⟩,uK,Ac _⟩;have hnk:l.length<=k:=by omega
 obtain rfl:k=l.length:=by omega
 rw [zC (Ae _)] at hg;refine gz2 ?_;refine zu ?_;refine gz6 ?_;refine uRp ?_
 (refine congrArg _ (zbB ?_ hg)
  omega)
theorem zlO [Tracks] {x:PlayerS} {s:Str}:ConP prog 178 [ze7 x,.vptr [.str s] 0] (.bool (x.Key==s)):=by
 refine uOb func178 ntmps178 ?_;refine zc9 ?_;refine zt rfl ?_
 rfl
theorem zfs [Tracks] {l:List PlayerS} {fid:FuncId} {caps:List HVal} {p:PlayerS->Bool} (hca:Callable prog fid) (hp: ∀x,ConP prog fid ([ze7 x]++caps) (.bool (p x))) (hl:l.length<=1000000):ConP prog 177 [.slice 3 (l.map ze7),.fn (.func fid) [] caps] (.int .i64 (zW p l 0)):=by
 refine uOb func177 ntmps177 ?_;refine zay ?_;refine uT1 [4,2,8,11] (fun k=>[(8,.int .i64 k)]) (fun k=>[]) (fun k=>k<=l.length/\(zW p l 0=zW p (l.drop k) k)) (fun k=>l.length-k) (0) ?_ ?_;exact ⟨Ad _,rfl⟩;rintro k ⟨hk,hg⟩;refine gz4 ?_;refine uCo (fun h1=> ?_) fun h2=> ?_
 obtain ⟨x,hx⟩: ∃x,l[k]? =some x:=⟨_,Aa h1⟩
 have hdx:=zg hx;rw [hdx] at hg;refine zda ?_;refine dq (zag hca rfl rfl (WeakL.refl _) (hp _)) ?_;refine gz1 ?_;refine uCo (fun h3=> ?_) fun h4=> ?_
 refine gz5 ?_;refine uRp ?_
 (rw [hg];simp_all [zW])
 refine gz7 ?_;refine ⟨k+1,?_,?_,⟨rfl,trivial⟩,uK,Ac _⟩
 refine ⟨by omega,?_⟩
 rw [hg,zW,if_neg uSa];rfl
 dsimp only;omega
 have hnk:l.length<=k:=by omega
 obtain rfl:k=l.length:=by omega
 rw [zC (Ae _)] at hg;refine gz2 ?_;refine zu ?_;refine gz6 ?_;refine uRp ?_
 (rw [hg];rfl)
theorem zdF [Tracks] {l:List PlayerS} {s:Str} (hl:l.length<=1000000):ConP prog 111 [zbm l,.str s] (.int .i64 (zW (fun x:PlayerS=>x.Key==s) l 0)):=by
 refine uOb func111 ntmps111 ?_;refine gz7 ?_;refine dq (uCl zFp rfl (zfs (l:=l) (p:=fun x=>x.Key==s) zFq (fun _=>zlO) hl)) ?_;refine gz3 ?_;refine zt rfl ?_
 rfl
theorem zk4 [Tracks] {L:List PlayerS} {l:List StintS} (hL:L.length<=1000000) (hl:l.length<=1000000):ConP prog 90 [zbm L,zfP l] (.int .i64 (zjz L l)):=by
 refine uOb func90 ntmps90 ?_;refine gz9 ?_;refine uCo (fun h1=> ?_) fun h2=> ?_
 refine gz4 ?_;refine uRp ?_
 (refine congrArg _ (zbN ?_)
  omega)
 refine gz9 ?_;refine uT1 [4,3,12,63] (fun k=>[(12,.int .i64 k)]) (fun k=>[]) (fun k=>k<=l.length/\(za1 (zd6 L) zfJ l 0 l=za1 (zd6 L) zfJ l k (l.drop k))) (fun k=>l.length-k) (0) ?_ ?_;exact ⟨Ad _,rfl⟩;rintro k ⟨hk,hg⟩;refine gz4 ?_;refine uCo (fun h3=> ?_) fun h4=> ?_
 obtain ⟨x,hx⟩: ∃x,l[k]? =some x:=⟨_,Aa h3⟩
 have hdx:=zg hx;rw [hdx] at hg;refine gz8 ?_;refine de rfl (zj zcR rfl fun b6=> ?_)
 refine gz1 ?_;refine de0 (zn zcR rfl rfl rfl rfl rfl ?_)
 refine gz1 ?_;refine ze (zo 6 rfl) ?_;refine gz5 ?_;refine dq (uCl zud rfl (zdF (l:=L) (s:=x.Player) hL)) ?_;refine gz3 ?_;refine uCo (fun h5=> ?_) fun h6=> ?_
 have hph:=zrH (L:=L) (s:=x.Player);refine gz4 ?_;refine uRp ?_
 (refine congrArg _ (zA (e:=8) ?_ hg ?_ ?_)
  omega
  unfold zd6;exact uT
  first|decide|assumption)
 have hph:=zrH (L:=L) (s:=x.Player);have hpl:zgO L x.Player=true:=by
  cases hq:zgO L x.Player with
  |true=>rfl
  |false=>have:=hph.2 hq;omega
 refine gz7 ?_;refine uGr rfl (fun hc=>uCl zh8 rfl zbd) ?_;refine gz4 ?_;refine uCo (fun h7=> ?_) fun h8=> ?_
 refine gz4 ?_;refine uRp ?_
 (refine congrArg _ (zA (e:=5) ?_ hg ?_ ?_)
  omega
  unfold zd6;exact uT
  first|decide|assumption)
 refine gz3 ?_;refine dq (uCl zxC rfl zhr) ?_;refine gz3 ?_;refine uCo (fun h9=> ?_) fun h10=> ?_
 refine gz4 ?_;refine uRp ?_
 (refine congrArg _ (zA (e:=1) ?_ hg ?_ ?_)
  omega
  unfold zd6;exact uT
  first|decide|assumption)
 have hord:=ord2 (a:=x.Player) (b:=(l.getD (k-1) zfJ).Player) (m:=x.Week) (n:=(l.getD (k-1) zfJ).Week);refine uDr mixed ?_;refine gz8 ?_;refine uGy 8 rfl rfl (fun hc=>by have hq:=hc;(try simp at hq);exact zB (j:=k-1) (a:=l.getD (k-1) zfJ) zhG zcR rfl rfl uO (getD_some uO)) ?_;refine gz9 ?_;refine uGy 18 rfl rfl (fun hc=>by have hq:=hc;(try simp at hq);exact zB (j:=k-1) (a:=l.getD (k-1) zfJ) zhG zcR rfl rfl uO (getD_some uO)) ?_;refine gz9 ?_;refine uGy 28 rfl rfl (fun hc=>by have hq:=hc;(try simp at hq);exact zB (j:=k-1) (a:=l.getD (k-1) zfJ) zhG zcR rfl rfl uO (getD_some uO)) ?_;refine gz8 ?_;refine uCo (fun h11=> ?_) fun h12=> ?_
 refine gz4 ?_;refine uRp ?_
 (refine congrArg _ (zA (e:=7) ?_ hg ?_ ?_)
  omega
  unfold zd6;exact uT
  first|decide|assumption)
 refine gz8 ?_;refine ⟨k+1,?_,?_,⟨rfl,trivial⟩,uK,Ac _⟩
 refine ⟨by omega,?_⟩
 rw [hg,zaZ (by unfold zd6;(try clear hdx hg);(try simp only [Ag]);focus first|(simp_all;done)|((repeat' split)<;>focus first|rfl|(exfalso;omega)|(simp_all;done)|(exfalso;rcases ‹_\/_› with q|q<;>simp_all;done)|(exfalso;simp_all;omega)))]
 dsimp only;omega
 have hnk:l.length<=k:=by omega
 obtain rfl:k=l.length:=by omega
 rw [zC (Ae _)] at hg;refine gz2 ?_;refine zu ?_;refine gz6 ?_;refine uRp ?_
 (refine congrArg _ (zbB ?_ hg)
  omega)
theorem zk3 [Tracks] {L:List PlayerS} {l:List HealthS} (hL:L.length<=1000000) (hl:l.length<=1000000) (hw: ∀x∈l,-1000000000000000<=x.To/\x.To<=1000000000000000):ConP prog 45 [zbm L,zcI l] (.int .i64 (zsy L l)):=by
 refine uOb func45 ntmps45 ?_;refine gz9 ?_;refine uCo (fun h1=> ?_) fun h2=> ?_
 refine gz4 ?_;refine uRp ?_
 (refine congrArg _ (zbN ?_)
  omega)
 refine gz9 ?_;refine uT1 [4,4,13,74] (fun k=>[(13,.int .i64 k)]) (fun k=>[]) (fun k=>k<=l.length/\(za1 (zce L) zgP l 0 l=za1 (zce L) zgP l k (l.drop k))) (fun k=>l.length-k) (0) ?_ ?_;exact ⟨Ad _,rfl⟩;rintro k ⟨hk,hg⟩;refine gz4 ?_;refine uCo (fun h3=> ?_) fun h4=> ?_
 obtain ⟨x,hx⟩: ∃x,l[k]? =some x:=⟨_,Aa h3⟩
 have hdx:=zg hx;rw [hdx] at hg;refine gz8 ?_;refine de rfl (zj zcE rfl fun b6=> ?_)
 refine gz1 ?_;refine de0 (zn zcE rfl rfl rfl rfl rfl ?_)
 refine gz1 ?_;refine ze (zo 6 rfl) ?_;refine gz2 ?_;have hwx:=hw x (Ab hx);refine gz4 ?_;refine dq (uCl zud rfl (zdF (l:=L) (s:=x.Player) hL)) ?_;refine gz3 ?_;refine uCo (fun h5=> ?_) fun h6=> ?_
 have hph:=zrH (L:=L) (s:=x.Player);refine gz4 ?_;refine uRp ?_
 (refine congrArg _ (zA (e:=8) ?_ hg ?_ ?_)
  omega
  unfold zce;exact uT
  first|decide|assumption)
 have hph:=zrH (L:=L) (s:=x.Player);have hpl:zgO L x.Player=true:=by
  cases hq:zgO L x.Player with
  |true=>rfl
  |false=>have:=hph.2 hq;omega
 refine gz6 ?_;refine dq (uCl zgJ rfl za0) ?_;refine gz8 ?_;refine uCo (fun h7=> ?_) fun h8=> ?_
 have hag:=zAB (f:=x.From) (t:=x.To) (by assumption);refine gz4 ?_;refine uRp ?_
 (refine congrArg _ (zA (e:=1) ?_ hg ?_ ?_)
  omega
  unfold zce;exact uT
  first|decide|assumption)
 have hag:=zAA (f:=x.From) (t:=x.To) (by assumption);refine zco ?_;refine uCo (fun h9=> ?_) fun h10=> ?_
 have hkd:=zEb (k:=x.Kind) (by assumption);refine gz4 ?_;refine uRp ?_
 (refine congrArg _ (zA (e:=4) ?_ hg ?_ ?_)
  omega
  unfold zce;exact uT
  first|decide|assumption)
 refine gz4 ?_;have hkd:=zEa (k:=x.Kind) (by assumption);refine gz4 ?_;refine uCo (fun h11=> ?_) fun h12=> ?_
 refine gz8 ?_;refine ⟨k+1,?_,?_,⟨rfl,trivial⟩,uK,Ac _⟩
 refine ⟨by omega,?_⟩
 rw [hg,zaZ (by unfold zce;(try clear hdx hg);(try simp only [Ag]);focus first|(simp_all;done)|((repeat' split)<;>focus first|rfl|(exfalso;omega)|(simp_all;done)|(exfalso;rcases ‹_\/_› with q|q<;>simp_all;done)|(exfalso;simp_all;omega)))]
 dsimp only;omega
 refine gz2 ?_;have hk0:0<k:=by omega
 refine gz4 ?_;refine dq (zB (j:=k-1) (a:=l.getD (k-1) zgP) zjC zcE rfl rfl uO (getD_some uO)) ?_;refine gz1 ?_;refine de rfl (zj zcE rfl fun b7=> ?_)
 refine de0 (zn zcE rfl rfl rfl rfl rfl ?_)
 refine gz1 ?_;refine ze (zo 7 rfl) ?_;refine gz1 ?_;have hord:=ord2 (a:=x.Player) (b:=(l.getD (k-1) zgP).Player) (m:=x.From) (n:=(l.getD (k-1) zgP).From);refine gz22 ?_;refine uCo (fun h13=> ?_) fun h14=> ?_
 refine gz4 ?_;refine uRp ?_
 (refine congrArg _ (zA (e:=7) ?_ hg ?_ ?_)
  omega
  unfold zce;exact uT
  first|decide|assumption)
 refine ziG ?_;refine uCo (fun h15=> ?_) fun h16=> ?_
 refine gz4 ?_;refine uRp ?_
 (refine congrArg _ (zA (e:=13) ?_ hg ?_ ?_)
  omega
  unfold zce;exact uT
  first|decide|assumption)
 refine gz8 ?_;refine ⟨k+1,?_,?_,⟨rfl,trivial⟩,uK,Ac _⟩
 refine ⟨by omega,?_⟩
 rw [hg,zaZ (by unfold zce;(try clear hdx hg);(try simp only [Ag]);focus first|(simp_all;done)|((repeat' split)<;>focus first|rfl|(exfalso;omega)|(simp_all;done)|(exfalso;rcases ‹_\/_› with q|q<;>simp_all;done)|(exfalso;simp_all;omega)))]
 dsimp only;omega
 have hnk:l.length<=k:=by omega
 obtain rfl:k=l.length:=by omega
 rw [zC (Ae _)] at hg;refine gz2 ?_;refine zu ?_;refine gz6 ?_;refine uRp ?_
 (refine congrArg _ (zbB ?_ hg)
  omega)
theorem zgg [Tracks] {a b:List Int} (ha:a.length<=1000) (hb:b.length<=1000):ConP prog 147 [.slice 1 (a.map (HVal.int .i64)),.slice 1 (b.map (HVal.int .i64))] (.int .i64 (zfW a b)):=by
 refine uOb func147 ntmps147 ?_;refine zay ?_;refine uT1 [4,5,11,20] (fun k=>[(11,.int .i64 k)]) (fun k=>[]) (fun k=>k<=a.length/\(zfW a b=zfW (a.drop k) (b.drop k))) (fun k=>a.length-k) (0) ?_ ?_;exact ⟨Ad _,rfl⟩;rintro k ⟨hk,hg⟩;refine gz4 ?_;refine uCo (fun h1=> ?_) fun h2=> ?_
 obtain ⟨x,hx⟩: ∃x,a[k]? =some x:=⟨_,Aa h1⟩
 have hdx:=zg hx;rw [hdx] at hg;refine gz18 ?_;refine uCo (fun h3=> ?_) fun h4=> ?_
 refine gz4 ?_;refine uRp ?_
 (rw [hg,Bm (show b.length<=k by omega)];rfl)
 refine gz2 ?_;obtain ⟨y,hy⟩: ∃y,b[k]? =some y:=⟨_,Aa uO⟩
 refine zay ?_;refine dq (uCl zd4 rfl (zU (a:=x) (b:=y))) ?_;refine gz6 ?_;refine uCo (fun h5=> ?_) fun h6=> ?_
 refine gz5 ?_;refine uRp ?_
 (rw [hg,zg hy,zfW,if_pos (by assumption)])
 refine gz7 ?_;exact ⟨k+1,⟨by omega,by rw [hg,zg hy,zfW,if_neg uSa]⟩,uD,⟨rfl,trivial⟩,uK,Ac _⟩;have hnk:a.length<=k:=by omega
 obtain rfl:k=a.length:=by omega
 rw [zC (Ae _)] at hg;refine gz2 ?_;refine zu ?_;refine zay ?_;refine uCo (fun h7=> ?_) fun h8=> ?_
 refine gz4 ?_;refine uRp ?_
 (obtain ⟨y,hy⟩: ∃y,b[a.length]? =some y:=⟨_,Aa uO⟩
  rw [hg,zg hy];rfl)
 refine gz6 ?_;refine uRp ?_
 (rw [hg,Bm (show b.length<=a.length by omega)];rfl)
theorem zjK [Tracks] {l:List FixS} (hl:l.length<=1000000):ConP prog 91 [znb l] (.int .i64 (zjs l)):=by
 refine uOb func91 ntmps91 ?_;refine gz9 ?_;refine uCo (fun h1=> ?_) fun h2=> ?_
 refine gz4 ?_;refine uRp ?_
 (refine congrArg _ (zbN ?_)
  omega)
 refine gz9 ?_;refine uT1 [2,5,12,65] (fun k=>[(12,.int .i64 k)]) (fun k=>[]) (fun k=>k<=l.length/\(za1 zgq zl1 l 0 l=za1 zgq zl1 l k (l.drop k))) (fun k=>l.length-k) (0) ?_ ?_;exact ⟨Ad _,rfl⟩;rintro k ⟨hk,hg⟩;refine gz4 ?_;refine uCo (fun h3=> ?_) fun h4=> ?_
 obtain ⟨x,hx⟩: ∃x,l[k]? =some x:=⟨_,Aa h3⟩
 have hdx:=zg hx;rw [hdx] at hg;refine gz8 ?_;refine de rfl (zj zaR rfl fun b4=> ?_)
 refine gz1 ?_;refine de0 (zn zaR rfl rfl rfl rfl rfl ?_)
 refine gz1 ?_;refine ze (zo 4 rfl) ?_;refine gz5 ?_;refine dq (uCl zxC rfl zhr) ?_;refine gz4 ?_;refine uGr rfl (fun hc=>uCl zBz rfl zja) ?_;refine gz4 ?_;refine uCo (fun h5=> ?_) fun h6=> ?_
 refine gz4 ?_;refine uRp ?_
 (refine congrArg _ (zA (e:=1) ?_ hg ?_ ?_)
  omega
  unfold zgq;exact uT
  first|decide|assumption)
 refine gz3 ?_;refine dq (uCl zh8 rfl zbd) ?_;refine gz4 ?_;refine uGr rfl (fun hc=>uCl zh8 rfl zbd) ?_;refine gz4 ?_;refine uCo (fun h7=> ?_) fun h8=> ?_
 refine gz4 ?_;refine uRp ?_
 (refine congrArg _ (zA (e:=5) ?_ hg ?_ ?_)
  omega
  unfold zgq;exact uT
  first|decide|assumption)
 refine gz8 ?_;refine uCo (fun h9=> ?_) fun h10=> ?_
 refine gz4 ?_;refine uRp ?_
 (refine congrArg _ (zA (e:=6) ?_ hg ?_ ?_)
  omega
  unfold zgq;exact uT
  first|decide|assumption)
 refine gz7 ?_;refine uCo (fun h11=> ?_) fun h12=> ?_
 refine gz4 ?_;refine dq (zB (j:=k-1) (a:=l.getD (k-1) zl1) zde zaR rfl rfl uO (getD_some uO)) ?_;refine gz1 ?_;refine de rfl (zj zaR rfl fun b5=> ?_)
 refine de0 (zn zaR rfl rfl rfl rfl rfl ?_)
 refine gz1 ?_;refine ze (zo 5 rfl) ?_;refine gz5 ?_;refine dq (za (hs:=[_,_]) zX ty3 rfl rfl (by decide) (by decide) rfl) ?_;refine gz4 ?_;refine dq (za (hs:=[_,_]) zX ty3 rfl rfl (by decide) (by decide) rfl) ?_;refine dq (uCl zBH rfl (zgg (a:=[(l.getD (k-1) zl1).Week,(l.getD (k-1) zl1).At]) (b:=[x.Week,x.At]) (by simp) (by simp))) ?_;refine gz2 ?_;have hord:=zCN (x:=x) (p:=l.getD (k-1) zl1);refine ziG ?_;refine uCo (fun h13=> ?_) fun h14=> ?_
 refine gz4 ?_;refine uRp ?_
 (refine congrArg _ (zA (e:=7) ?_ hg ?_ ?_)
  omega
  unfold zgq;exact uT
  first|decide|assumption)
 refine gz7 ?_;refine ⟨k+1,?_,?_,⟨rfl,trivial⟩,uK,Ac _⟩
 refine ⟨by omega,?_⟩
 rw [hg,zaZ (by unfold zgq;(try clear hdx hg);(try simp only [Ag]);focus first|(simp_all;done)|((repeat' split)<;>focus first|rfl|(exfalso;omega)|(simp_all;done)|(exfalso;rcases ‹_\/_› with q|q<;>simp_all;done)|(exfalso;simp_all;omega)))]
 dsimp only;omega
 refine gz7 ?_;refine ⟨k+1,?_,?_,⟨rfl,trivial⟩,uK,Ac _⟩
 refine ⟨by omega,?_⟩
 rw [hg,zaZ (by unfold zgq;(try clear hdx hg);(try simp only [Ag]);focus first|(simp_all;done)|((repeat' split)<;>focus first|rfl|(exfalso;omega)|(simp_all;done)|(exfalso;rcases ‹_\/_› with q|q<;>simp_all;done)|(exfalso;simp_all;omega)))]
 dsimp only;omega
 have hnk:l.length<=k:=by omega
 obtain rfl:k=l.length:=by omega
 rw [zC (Ae _)] at hg;refine gz2 ?_;refine zu ?_;refine gz6 ?_;refine uRp ?_
 (refine congrArg _ (zbB ?_ hg)
  omega)
theorem ziv [Tracks] {n d:Int} (hn: -1000000000000<=n/\n<=1000000000000) (hd:0<=d/\d<=1000000000000):ConP prog 240 [.int .i64 n,.int .i64 d] (.int .i64 ((Nat.gcd n.natAbs d.natAbs:Nat):Int)):=by
 refine uOb func240 ntmps240 ?_;refine gz5 ?_;refine uU2 [0,2,5,6] (fun (a:Int) (b:Int)=>[(0,.int .i64 a),(1,.int .i64 b)]) (fun (a:Int) (b:Int)=>[]) (fun (a:Int) (b:Int)=>(-1000000000000<=a/\a<=1000000000000)/\(-1000000000000<=b/\b<=1000000000000)/\Nat.gcd a.natAbs b.natAbs=Nat.gcd n.natAbs d.natAbs) (fun (a:Int) (b:Int)=>b.natAbs) (n) (d) ?_ ?_;exact ⟨hn,by omega,rfl⟩;rintro a b ⟨ha,hb,hg⟩;refine gz5 ?_;refine uCo (fun h1=> ?_) fun h2=> ?_
 have hb0:b≠0:=by simpa using h1
 obtain ⟨m1,m2,m3⟩:=zv1 (a:=a) hb0;refine gz3 ?_;refine zgC mixed ?_;refine gz3 ?_;refine uB 3 rfl (zcT rfl rfl uO) ?_;refine gz4 ?_;refine ⟨b,a.tmod b,?_,?_,⟨rfl,rfl,trivial⟩,uK,Ac _⟩
 exact ⟨hb,by omega,by rw [zBp];exact hg⟩
 dsimp only;exact m3
 obtain rfl:b=0:=by simpa using h2
 rw [show (0:Int).natAbs=0 from rfl,Nat.gcd_zero_right] at hg;refine gz2 ?_;refine zI ?_;refine gz5 ?_;refine dq (zjj rfl uO uO) ?_;refine dq (zpB rfl rfl) ?_;refine gz3 ?_;refine uRp ?_;rw [<-hg]
 congr 1
 omega
theorem zem [Tracks] {n d most:Int} (hn: -1000000000<=n/\n<=1000000000) (hd: -1000000000<=d/\d<=1000000000) (hm:0<=most/\most<=1000000):ConP prog 166 [.agg [.int .i64 n,.int .i64 d],.int .i64 most] (.int .i64 (zbA n d most)):=by
 refine uOb func166 ntmps166 ?_;refine ziG ?_;refine dg rfl rfl (fun hc=>by
  have hd1:1<=d:=by (have q:=hc;simp at q;omega)
  exact ⟨_,OpenTo.upd (t:=13) rfl (hc) (OpenTo.upd (t:=11) rfl (hc) (OpenTo.refl _)),uCl zB6 rfl (ziv (n:=n) (d:=d) uO uO)⟩) ?_
 refine gz4 ?_;refine uCo (fun h1=> ?_) fun h2=> ?_
 have hp3:=pts3 (n:=n) (d:=d) (by assumption);refine gz4 ?_;refine uRp ?_;unfold zbA
 (rw [if_pos hp3])
 have hp0:=pts0 (n:=n) (d:=d) uSa;have hd1:1<=d:=by (focus first|omega|(simp_all;done)|(simp_all;omega))
 have hmd:=zrz (a:=most) (b:=d) (A:=1000000) (B:=1000000000) uO uO uO uO;have hmn: -most*d= -(most*d):=Bs _ _;refine gz3 ?_;refine dq (zcT rfl rfl uO) ?_;refine gz5 ?_;refine uGr rfl (fun hc=>by have hq:=hc;(try simp at hq);exact zjj rfl uO uO) ?_;refine gz2 ?_;refine uGr rfl (fun hc=>by have hq:=hc;(try simp at hq);exact zcA rfl rfl uO uO) ?_;refine gz8 ?_;refine uGr rfl (fun hc=>by have hq:=hc;(try simp at hq);exact zcA rfl rfl uO uO) ?_;refine gz4 ?_;refine uCo (fun h3=> ?_) fun h4=> ?_
 have hp1:=pts1 (n:=n) (d:=d) (m:=most) (by assumption);refine gz4 ?_;refine uRp ?_;unfold zbA
 (rw [if_neg (by rw [hp0];simp;omega),if_pos hp1])
 refine gz3 ?_;have hp2:=pts2 (n:=n) (d:=d) (m:=most) (by assumption);refine gz4 ?_;refine uRp ?_;unfold zbA
 (rw [if_neg (by rw [hp0];simp;omega),if_neg hp2])
theorem zlP [Tracks] {l:List RuleS} (hl:l.length<=1000000) (hb: ∀x∈l,((-1000000000<=x.Num/\x.Num<=1000000000)/\ -1000000000<=x.Den/\x.Den<=1000000000)):ConP prog 92 [zgp l] (.int .i64 (zg5 l)):=by
 refine uOb func92 ntmps92 ?_;refine gz9 ?_;refine uCo (fun h1=> ?_) fun h2=> ?_
 refine gz4 ?_;refine uRp ?_
 (refine congrArg _ (zbN ?_)
  omega)
 refine zc9 ?_;refine uT1 [2,2,5,3,13,70] (fun k=>[(13,.int .i64 k),(3,.str (zpx RuleS.Key zlC l k))]) (fun k=>[]) (fun k=>k<=l.length/\(za1 zef zlC l 0 l=za1 zef zlC l k (l.drop k))) (fun k=>l.length-k) (0) ?_ ?_;exact ⟨Ad _,rfl⟩;rintro k ⟨hk,hg⟩;refine gz4 ?_;refine uCo (fun h3=> ?_) fun h4=> ?_
 obtain ⟨x,hx⟩: ∃x,l[k]? =some x:=⟨_,Aa h3⟩
 have hdx:=zg hx;rw [hdx] at hg;refine gz7 ?_;refine de rfl (zj zgV rfl fun b5=> ?_)
 refine de0 (zn zgV rfl rfl rfl rfl rfl ?_)
 refine gz1 ?_;refine ze (zo 5 rfl) ?_;refine gz9 ?_;refine dq (zY (h':= .bool (zrv x.Kind)) (zjX rfl) rfl) ?_;refine gz6 ?_;refine dq (uCl zh8 rfl zbd) ?_;refine gz4 ?_;refine uGr rfl (fun hc=>uCl zh8 rfl zbd) ?_;refine gz9 ?_;refine uGr rfl (fun hc=>uCl zh8 rfl zbd) ?_;refine gz5 ?_;refine uCo (fun h5=> ?_) fun h6=> ?_
 refine gz4 ?_;refine uRp ?_
 (refine congrArg _ (zA (e:=5) ?_ hg ?_ ?_)
  omega
  unfold zef;exact uT
  first|decide|assumption)
 have hkx:key x.Key=true:=by simp_all
 have hll:=zwS (f:=RuleS.Key) (d:=zlC) (l:=l) (k:=k) (x:=x) hkx;refine gz7 ?_;refine uCo (fun h7=> ?_) fun h8=> ?_
 refine gz4 ?_;refine uRp ?_
 (refine congrArg _ (zA (e:=7) ?_ hg ?_ ?_)
  omega
  unfold zef;exact uT
  first|decide|assumption)
 refine gz3 ?_;refine dq (uCl zgJ rfl za0) ?_;refine gz3 ?_;refine uCo (fun h9=> ?_) fun h10=> ?_
 refine gz4 ?_;refine uRp ?_
 (refine congrArg _ (zA (e:=4) ?_ hg ?_ ?_)
  omega
  unfold zef;exact uT
  first|decide|assumption)
 refine gz5 ?_;refine uGr rfl (fun hc=>uCl zgJ rfl za0) ?_;refine zdy ?_;refine uCo (fun h11=> ?_) fun h12=> ?_
 refine gz4 ?_;refine uRp ?_
 (refine congrArg _ (zA (e:=1) ?_ hg ?_ ?_)
  omega
  unfold zef;exact uT
  first|decide|assumption)
 refine gz6 ?_;refine dq (zY (h':= .agg [.int .i64 x.Num,.int .i64 x.Den]) (zaF zaj rfl rfl (Ak rfl)) rfl) ?_;refine dq (uCl zxD rfl (zem (n:=x.Num) (d:=x.Den) (most:=10000) (hb x (Ab hx)).1 (hb x (Ab hx)).2 uO)) ?_;refine gz6 ?_;refine uCo (fun h13=> ?_) fun h14=> ?_
 refine gz5 ?_;refine uRp ?_
 (refine congrArg _ (zA (e:=(zbA x.Num x.Den 10000)) ?_ hg ?_ ?_)
  omega
  unfold zef;exact uT
  first|decide|assumption)
 refine zdy ?_;exact ⟨k+1,⟨by omega,by rw [hg,zaZ (by unfold zef;(try clear hdx hg);(try simp only [Ag]);focus first|(simp_all;done)|((repeat' split)<;>focus first|rfl|(exfalso;omega)|(simp_all;done)|(exfalso;rcases ‹_\/_› with q|q<;>simp_all;done)|(exfalso;simp_all;omega)))]⟩,uD,⟨rfl,congrArg (fun q=>some (HVal.str q)) (zth hx).symm,trivial⟩,uK,Ac _⟩;have hnk:l.length<=k:=by omega
 obtain rfl:k=l.length:=by omega
 rw [zC (Ae _)] at hg;refine gz2 ?_;refine zu ?_;refine gz6 ?_;refine uRp ?_
 (refine congrArg _ (zbB ?_ hg)
  omega)
theorem zku [Tracks] {y x:SlotS}:ConP prog 168 [zbZ y,.vptr (zb (zbZ x)) 0] (.bool (y.Key==x.Key)):=by
 refine uOb func168 ntmps168 ?_;refine zdy ?_;refine zt rfl ?_
 rfl
theorem zlR [Tracks] {l:List SlotS} (hl:l.length<=1000000) (hp: ∀x∈l,x.Positions.length<=1000000):ConP prog 93 [ze8 l] (.int .i64 (zdK l)):=by
 refine uOb func93 ntmps93 ?_;refine zco ?_;refine uCo (fun h1=> ?_) fun h2=> ?_
 ·refine gz4 ?_;refine uRp ?_
  (unfold zdK;simp_all;done)
 ·refine gz6 ?_;refine uCo (fun h3=> ?_) fun h4=> ?_
  ·refine gz4 ?_;refine uRp ?_
   (rw [zdK,if_neg (by first|omega|simp_all),if_pos uO];done)
  ·refine zay ?_;refine uT1 [2,4,16,21] (fun k=>[(16,.int .i64 k)]) (fun k=>[]) (fun k=>k<=l.length/\(zcQ l 0 l=zcQ l k (l.drop k))) (fun k=>l.length-k) (0) ?_ ?_
   ·exact ⟨Ad _,rfl⟩
   ·rintro k ⟨hk,hg⟩;refine gz4 ?_;refine uCo (fun h5=> ?_) fun h6=> ?_
    ·obtain ⟨x,hx⟩: ∃x,l[k]? =some x:=⟨_,Aa h5⟩
     have hdx:=zg hx;rw [hdx] at hg;refine gz8 ?_;refine de rfl (zj zdM rfl fun b4=> ?_)
     refine gz1 ?_;refine de0 (zn zdM rfl rfl rfl rfl rfl ?_)
     refine gz1 ?_;refine ze (zo 4 rfl) ?_;refine gz4 ?_;refine dq (uCl zh8 rfl zbd) ?_;refine gz2 ?_;refine uCo (fun h7=> ?_) fun h8=> ?_
     ·refine gz4 ?_;refine uRp ?_
      (refine congrArg _ (ziO (e:=5) ?_ ?_ hg ?_)
       ·first|omega|simp_all
       ·omega
       ·rw [zcQ]
        simp_all
        done)
     ·refine gz6 ?_;refine dq (zaK zf0 zdM rfl rfl ⟨_,_,rfl,rfl⟩ uO uO) ?_;refine gz1 ?_;refine dq (uCl zBM rfl (zcV (l:=l.take k) (p:=fun y=>y.Key==x.Key) zFl (fun _=>zku) (by rw [Am];omega))) ?_;refine gz1 ?_;refine uCo (fun h9=> ?_) fun h10=> ?_
      ·refine gz4 ?_;refine uRp ?_
       (refine congrArg _ (ziO (e:=6) ?_ ?_ hg ?_)
        ·first|omega|simp_all
        ·omega
        ·rw [zcQ]
         simp_all
         done)
      ·refine gz5 ?_;refine dq (uCl zBL rfl (zhL (hp x (Ab hx)))) ?_;refine gz6 ?_;refine uCo (fun h11=> ?_) fun h12=> ?_
       ·refine gz5 ?_;refine uRp ?_
        (refine congrArg _ (ziO (e:=(zdq x.Positions)) ?_ ?_ hg ?_)
         ·first|omega|simp_all
         ·omega
         ·rw [zcQ]
          simp_all
          done)
       ·refine gz7 ?_;refine ⟨k+1,?_,?_,⟨rfl,trivial⟩,uK,Ac _⟩
        ·refine ⟨by omega,?_⟩
         rw [hg,zcQ,if_neg uSa,if_neg uSa,if_neg uSa]
        ·dsimp only;omega
    ·have hnk:l.length<=k:=by omega
     obtain rfl:k=l.length:=by omega
     rw [zC (Ae _)] at hg;refine gz2 ?_;refine zu ?_;refine gz6 ?_;refine uRp ?_
     (refine congrArg _ (zvT ?_ ?_ hg)<;>first|omega|simp_all)
theorem zk1 [Tracks] {b:BoundS}:ConP prog 94 [zgo b] (.int .i64 (zdZ b)):=by
 refine uOb func94 ntmps94 ?_;refine gz8 ?_;refine dq (uCl zgJ rfl za0) ?_;refine gz4 ?_;refine uGr rfl (fun hc=>uCl zgJ rfl za0) ?_;refine gz5 ?_;refine uGr rfl (fun hc=>uCl zgJ rfl za0) ?_;refine gz5 ?_;refine uGr rfl (fun hc=>uCl zgJ rfl za0) ?_;refine gz3 ?_;refine uCo (fun h1=> ?_) fun h2=> ?_
 refine gz4 ?_;refine uRp ?_;unfold zdZ
 (rw [if_pos uSa])
 refine gz6 ?_;refine uRp ?_;unfold zdZ
 (rw [if_neg uSa])
theorem zhM [Tracks] {a b:MoveS} (ha:MovB a) (hb:MovB b):ConP prog 35 [zdu a,zdu b] (.int .i64 (zhh a b)):=by
 obtain ⟨a1,a2⟩:=ha;obtain ⟨b1,b2⟩:=hb;refine uOb func35 ntmps35 ?_;refine ziG ?_;refine uCo (fun h1=> ?_) fun h2=> ?_
 refine gz6 ?_;refine dq (uCl zAf rfl zhs) ?_;refine gz3 ?_;refine uRp ?_;rw [zmP]
 try rw [zhF]
 simp_all
 refine gz8 ?_;refine uCo (fun h3=> ?_) fun h4=> ?_
 refine gz5 ?_;refine dq (uCl zc3 rfl zN) ?_;refine gz3 ?_;refine uRp ?_;rw [zmP]
 try rw [zhF]
 simp_all
 refine gz8 ?_;refine uCo (fun h5=> ?_) fun h6=> ?_
 refine gz5 ?_;refine dq (uCl zc3 rfl zN) ?_;refine gz3 ?_;refine uRp ?_;rw [zmP]
 try rw [zhF]
 simp_all
 refine gz9 ?_;refine dq (uCl zAf rfl zhs) ?_;refine gz3 ?_;refine uRp ?_;rw [zmP]
 try rw [zhF]
 simp_all
theorem zlN [Tracks] {l:List MoveS} (hl:l.length<=1000000) (hb: ∀x∈l,MovB x):ConP prog 42 [zcJ l] (.int .i64 (zgv l)):=by
 refine uOb func42 ntmps42 ?_;refine gz9 ?_;refine uCo (fun h1=> ?_) fun h2=> ?_
 refine gz4 ?_;refine uRp ?_
 (refine congrArg _ (zbN ?_)
  omega)
 refine gz9 ?_;refine uT1 [2,3,10,40] (fun k=>[(10,.int .i64 k)]) (fun k=>[]) (fun k=>k<=l.length/\(za1 zeW zjT l 0 l=za1 zeW zjT l k (l.drop k))) (fun k=>l.length-k) (0) ?_ ?_;exact ⟨Ad _,rfl⟩;rintro k ⟨hk,hg⟩;refine gz4 ?_;refine uCo (fun h3=> ?_) fun h4=> ?_
 obtain ⟨x,hx⟩: ∃x,l[k]? =some x:=⟨_,Aa h3⟩
 have hdx:=zg hx;rw [hdx] at hg;refine gz8 ?_;refine de rfl (zj zG rfl fun b4=> ?_)
 refine gz1 ?_;refine de0 (zn zG rfl rfl rfl rfl rfl ?_)
 refine gz1 ?_;refine ze (zo 4 rfl) ?_;refine gz4 ?_;refine dq (uCl zBz rfl zja) ?_;refine gz3 ?_;refine uCo (fun h5=> ?_) fun h6=> ?_
 refine gz4 ?_;refine uRp ?_
 (refine congrArg _ (zA (e:=1) ?_ hg ?_ ?_)
  omega
  unfold zeW;exact uT
  first|decide|assumption)
 refine gz3 ?_;refine dq (uCl zgJ rfl za0) ?_;refine gz3 ?_;refine uCo (fun h7=> ?_) fun h8=> ?_
 refine gz4 ?_;refine uRp ?_
 (refine congrArg _ (zA (e:=4) ?_ hg ?_ ?_)
  omega
  unfold zeW;exact uT
  first|decide|assumption)
 refine gz3 ?_;refine dq (uCl zh8 rfl zbd) ?_;refine gz4 ?_;refine uGr rfl (fun hc=>uCl zh8 rfl zbd) ?_;refine gz4 ?_;refine uCo (fun h9=> ?_) fun h10=> ?_
 refine gz4 ?_;refine uRp ?_
 (refine congrArg _ (zA (e:=5) ?_ hg ?_ ?_)
  omega
  unfold zeW;exact uT
  first|decide|assumption)
 have htu:=zAT (x:=x) (p:=l.getD (k-1) zjT);refine uDr mixed ?_;refine gz6 ?_;refine uGy 6 rfl rfl (fun hc=>by have hq:=hc;(try simp at hq);exact zB (j:=k-1) (a:=l.getD (k-1) zjT) zcv zG rfl rfl uO (getD_some uO)) ?_;refine gz2 ?_;refine uGy 9 rfl rfl (fun hc=>by have hq:=hc;(try simp at hq);exact uCl ca35 rfl (zhM (a:=l.getD (k-1) zjT) (b:=x) (hb _ (Ab (getD_some uO))) (hb _ (Ab hx)))) ?_;refine gz4 ?_;refine uCo (fun h11=> ?_) fun h12=> ?_
 refine gz4 ?_;refine uRp ?_
 (refine congrArg _ (zA (e:=7) ?_ hg ?_ ?_)
  omega
  unfold zeW;exact uT
  first|decide|assumption)
 refine gz8 ?_;refine ⟨k+1,?_,?_,⟨rfl,trivial⟩,uK,Ac _⟩
 refine ⟨by omega,?_⟩
 rw [hg,zaZ (by unfold zeW;(try clear hdx hg);(try simp only [Ag]);focus first|(simp_all;done)|((repeat' split)<;>focus first|rfl|(exfalso;omega)|(simp_all;done)|(exfalso;rcases ‹_\/_› with q|q<;>simp_all;done)|(exfalso;simp_all;omega)))]
 dsimp only;omega
 have hnk:l.length<=k:=by omega
 obtain rfl:k=l.length:=by omega
 rw [zC (Ae _)] at hg;refine gz2 ?_;refine zu ?_;refine gz6 ?_;refine uRp ?_
 (refine congrArg _ (zbB ?_ hg)
  omega)
theorem zhb [Tracks] {l:List Str} (hl:l.length<=1000000):ConP prog 95 [eSs l] (.int .i64 (zdr l)):=by
 refine uOb func95 ntmps95 ?_;refine zco ?_;refine uCo (fun h1=> ?_) fun h2=> ?_
 refine gz4 ?_;refine uRp ?_
 (rw [zdr,if_pos uO])
 refine gz6 ?_;refine uCo (fun h3=> ?_) fun h4=> ?_
 refine gz4 ?_;refine uRp ?_
 (rw [zdr,if_neg uO,if_pos uO])
 refine gz5 ?_;refine dq (uCl zBN rfl (zjb (by assumption))) ?_;refine gz3 ?_;refine uRp ?_
 (rw [zdr,if_neg uO,if_neg uO])
theorem zhK [Tracks] {a b:GameS} (ha: -1000000000000000<=a.Week/\a.Week<=1000000000000000) (hb: -1000000000000000<=b.Week/\b.Week<=1000000000000000):ConP prog 82 [zam a,zam b] (.int .i64 (zgG a b)):=by
 refine uOb func82 ntmps82 ?_;refine ziG ?_;refine uCo (fun h1=> ?_) fun h2=> ?_
 refine gz6 ?_;refine dq (uCl zAf rfl zhs) ?_;refine gz3 ?_;refine uRp ?_;rw [zqi]
 try rw [zhF]
 simp_all
 refine gz8 ?_;refine uCo (fun h3=> ?_) fun h4=> ?_
 refine gz5 ?_;refine dq (uCl zc3 rfl zN) ?_;refine gz3 ?_;refine uRp ?_;rw [zqi]
 try rw [zhF]
 simp_all
 refine gz8 ?_;refine dq (uCl zc3 rfl zN) ?_;refine gz3 ?_;refine uRp ?_;rw [zqi]
 try rw [zhF]
 simp_all
theorem zkw [Tracks] {x:GameS} (hb:((-1000000000<=x.FNum/\x.FNum<=1000000000)/\ -1000000000<=x.FDen/\x.FDen<=1000000000)/\((-1000000000<=x.ONum/\x.ONum<=1000000000)/\ -1000000000<=x.ODen/\x.ODen<=1000000000)):ConP prog 170 [zam x] (.int .i64 (zgr x)):=by
 refine uOb func170 ntmps170 ?_;refine zay ?_;refine uCo (fun h1=> ?_) fun h2=> ?_
 refine gz3 ?_;refine dq (zY (h':= .agg [.int .i64 x.FNum,.int .i64 x.FDen]) (zaF zaj rfl rfl (Ak rfl)) rfl) ?_;refine dq (zF (cs:=[_,_]) zaj zl8 rfl) ?_;refine dq (zjk zaj zsv rfl rfl ⟨rfl,⟨_,_,_,_,ty3,rfl⟩,⟨rfl,⟨_,_,_,_,ty3,rfl⟩,trivial⟩⟩) ?_;refine gz2 ?_;refine uGr rfl (fun hc=>zY (h':= .agg [.int .i64 x.ONum,.int .i64 x.ODen]) (zaF zaj rfl rfl (Ak rfl)) rfl) ?_;refine uGr rfl (fun hc=>zF (cs:=[_,_]) zaj zl8 rfl) ?_;refine uGr rfl (fun hc=>zjk zaj zsv rfl rfl ⟨rfl,⟨_,_,_,_,ty3,rfl⟩,⟨rfl,⟨_,_,_,_,ty3,rfl⟩,trivial⟩⟩) ?_;refine gz2 ?_;refine uCo (fun h3=> ?_) fun h4=> ?_
 simp [za6,zca,eqH] at h3
 refine gz4 ?_;refine uRp ?_
 (unfold zgr;simp_all)
 refine gz2 ?_
 simp [za6,zca,eqH] at h4
 refine gz4 ?_;refine uRp ?_
 (unfold zgr;simp_all)
 refine gz2 ?_;have hpl:x.Played=true:=by simpa using h2
 have hgf:=zAs hpl;refine uDr mixed ?_;refine gz1 ?_;refine uB 1 rfl (zY (h':= .agg [.int .i64 x.FNum,.int .i64 x.FDen]) (zaF zaj rfl rfl (Ak rfl)) rfl) ?_;refine uB 2 rfl (uCl zxD rfl (zem (n:=x.FNum) (d:=x.FDen) (most:=1000000) hb.1.1 hb.1.2 uO)) ?_;refine gz1 ?_;refine uB 4 rfl (zY (h':= .agg [.int .i64 x.ONum,.int .i64 x.ODen]) (zaF zaj rfl rfl (Ak rfl)) rfl) ?_;refine uB 5 rfl (uCl zxD rfl (zem (n:=x.ONum) (d:=x.ODen) (most:=1000000) hb.2.1 hb.2.2 uO)) ?_;refine gz5 ?_;refine dq (za (hs:=[_,_]) zej zgB rfl rfl (by decide) (by decide) rfl) ?_;refine dq (zav (f:=HVal.int .i64) (l:=([3,1]:List Int)) zej rfl) ?_;refine gz3 ?_;refine uT1 [2,1,6,1,28,14] (fun k=>[(28,.int .i64 k)]) (fun k=>[]) (fun k=>k<=([3,1]:List Int).length/\(zBs (zbA x.FNum x.FDen 1000000) (zbA x.ONum x.ODen 1000000)=zpk (zbA x.FNum x.FDen 1000000) (zbA x.ONum x.ODen 1000000) (([3,1]:List Int).drop k))) (fun k=>([3,1]:List Int).length-k) (0) ?_ ?_;exact ⟨Ad _,rfl⟩;rintro k ⟨hk,hg⟩;refine gz4 ?_;refine uCo (fun h5=> ?_) fun h6=> ?_
 obtain ⟨z,hz⟩: ∃z,([3,1]:List Int)[k]? =some z:=⟨_,Aa (by show k<2;omega)⟩
 have hdz:=zg hz;rw [hdz] at hg;refine gz5 ?_;refine dq (zB zej zgB rfl rfl rfl (by assumption)) ?_;refine zdy ?_;refine uCo (fun h7=> ?_) fun h8=> ?_
 refine gz5 ?_;refine uRp ?_
 (rw [hgf,hg,zpk,if_pos uSa])
 refine gz7 ?_;refine ⟨k+1,?_,?_,⟨rfl,trivial⟩,uK,Ac _⟩
 refine ⟨by show k+1<=2;omega,?_⟩
 rw [hg,zpk,if_neg uSa]
 show 2-(k+1)<2-k
 omega
 refine gz2 ?_;refine zu ?_;refine gz6 ?_;refine uRp ?_
 (have e2:k=2:=by (have q:([3,1]:List Int).length=2:=rfl;omega)
  subst e2;rw [hgf,hg];rfl)
theorem zkr [Tracks] {y x:GameS}:ConP prog 171 [zam y,.vptr (zb (zam x)) 0] (.bool (zjg x y)):=by
 refine uOb func171 ntmps171 ?_;refine gz40 ?_;refine gz1 ?_;refine zt rfl ?_
 show HVal.bool _=_
 unfold zjg
 simp [Cq]
theorem zlM [Tracks] {T:List Str} {l:List GameS} (hT:T.length<=1000000) (hl:l.length<=1000000) (hb: ∀x∈l,GamB x):ConP prog 96 [eSs T,zb3 l] (.int .i64 (zc7 T l)):=by
 refine uOb func96 ntmps96 ?_;refine gz6 ?_;refine dq (uCl ca95 rfl (zhb (by assumption))) ?_;refine gz6 ?_;refine uCo (fun h1=> ?_) fun h2=> ?_
 ·refine gz5 ?_;refine uRp ?_
  try rw [hE]
  (rw [zc7,if_pos (by assumption)];done)
 ·refine gz3 ?_;have hz:zdr T=0:=by first|assumption|simp_all
  have hE:zc7 T l=zd7 T l:=by rw [zc7,if_neg (by simp [hz])]
  refine gz5 ?_;refine uCo (fun h3=> ?_) fun h4=> ?_
  ·refine gz4 ?_;refine uRp ?_
   try rw [hE]
   (refine congrArg _ (zev (zbN ?_) (by decide))
    omega)
  ·refine gz9 ?_;refine uT1 [4,1,6,3,21,47] (fun k=>[(21,.int .i64 k)]) (fun k=>[]) (fun k=>k<=l.length/\(za1 (zcd T) zeg l 0 l=za1 (zcd T) zeg l k (l.drop k))) (fun k=>l.length-k) (0) ?_ ?_
   ·exact ⟨Ad _,rfl⟩
   ·rintro k ⟨hk,hg⟩;refine gz4 ?_;refine uCo (fun h5=> ?_) fun h6=> ?_
    ·obtain ⟨x,hx⟩: ∃x,l[k]? =some x:=⟨_,Aa h5⟩
     have hdx:=zg hx;rw [hdx] at hg;refine gz8 ?_;refine de rfl (zj za8 rfl fun b7=> ?_)
     refine gz1 ?_;refine de0 (zn za8 rfl rfl rfl rfl rfl ?_)
     refine gz1 ?_;refine ze (zo 7 rfl) ?_;refine gz5 ?_;refine dq (uCl zxC rfl zhr) ?_;refine gz3 ?_;refine uCo (fun h7=> ?_) fun h8=> ?_
     ·refine gz4 ?_;refine uRp ?_
      try rw [hE]
      (refine congrArg _ (zev (e:=1) (zA ?_ hg ?_ ?_) ?_)
       ·omega
       ·unfold zcd
        simp_all
        done
       ·first|decide|assumption
       ·first|decide|assumption)
     ·refine gz4 ?_;refine dq (uCl zh9 rfl (zO (l:=T) (s:=x.Home) uO)) ?_;refine gz5 ?_;refine uGr rfl (fun hc=>by have hq:=hc;(try simp at hq);exact uCl zh9 rfl (zO (l:=T) (s:=x.Away) uO)) ?_;refine gz4 ?_;refine uCo (fun h9=> ?_) fun h10=> ?_
      ·refine gz4 ?_;refine uRp ?_
       try rw [hE]
       (refine congrArg _ (zev (e:=8) (zA ?_ hg ?_ ?_) ?_)
        ·omega
        ·unfold zcd
         simp_all
         done
        ·first|decide|assumption
        ·first|decide|assumption)
      ·refine gz8 ?_;refine uCo (fun h11=> ?_) fun h12=> ?_
       ·refine gz4 ?_;refine uRp ?_
        try rw [hE]
        (refine congrArg _ (zev (e:=6) (zA ?_ hg ?_ ?_) ?_)
         ·omega
         ·unfold zcd
          simp_all
          done
         ·first|decide|assumption
         ·first|decide|assumption)
       ·refine gz5 ?_;refine dq (zax (h:=zam x) za8 rfl rfl rfl rfl) ?_;refine dq (uCl zFm rfl (zkw (x:=x) ⟨(hb x (Ab hx)).fr,(hb x (Ab hx)).ot⟩)) ?_;refine gz6 ?_;refine uCo (fun h13=> ?_) fun h14=> ?_
        ·refine gz5 ?_;refine uRp ?_
         try rw [hE]
         (refine congrArg _ (zev (e:=(zgr x)) (zA ?_ hg ?_ ?_) ?_)
          ·omega
          ·unfold zcd
           simp_all
           done
          ·first|decide|assumption
          ·first|decide|assumption)
        ·refine gz2 ?_;have htu:=zAu (x:=x) (p:=l.getD (k-1) zeg);refine uDr mixed ?_;refine gz6 ?_;refine uGy 6 rfl rfl (fun hc=>by have hq:=hc;(try simp at hq);exact zB (j:=k-1) (a:=l.getD (k-1) zeg) zcG za8 rfl rfl uO (getD_some uO)) ?_;refine gz2 ?_;refine uGy 9 rfl rfl (fun hc=>by have hq:=hc;(try simp at hq);exact uCl ca82 rfl (zhK (a:=l.getD (k-1) zeg) (b:=x) (hb _ (Ab (getD_some uO))).week (hb _ (Ab hx)).week)) ?_;refine gz3 ?_;refine uCo (fun h15=> ?_) fun h16=> ?_
         ·refine gz4 ?_;refine uRp ?_
          try rw [hE]
          (refine congrArg _ (zev (e:=7) (zA ?_ hg ?_ ?_) ?_)
           ·omega
           ·unfold zcd
            simp_all
            done
           ·first|decide|assumption
           ·first|decide|assumption)
         ·refine gz7 ?_;refine ⟨k+1,?_,?_,⟨rfl,trivial⟩,uK,Ac _⟩
          ·refine ⟨by omega,?_⟩
           rw [hg,zaZ (by unfold zcd;(try clear hdx hg);(try simp only [Ag]);first|(simp_all;done)|((repeat' split)<;>first|rfl|(exfalso;omega)|(simp_all;done)|(exfalso;rcases ‹_\/_› with q|q<;>simp_all;done)|(exfalso;simp_all;omega)))]
          ·dsimp only;omega
    ·have hnk:l.length<=k:=by omega
     obtain rfl:k=l.length:=by omega
     rw [zC (Ae _)] at hg;refine gz2 ?_;refine zu ?_;refine gz9 ?_;refine uT1 [4,1,9,2,70,11] (fun k=>[(70,.int .i64 k)]) (fun k=>[]) (fun k=>k<=l.length/\(zd5 l 0 l=zd5 l k (l.drop k))) (fun k=>l.length-k) (0) ?_ ?_
     ·exact ⟨Ad _,rfl⟩
     ·rintro k ⟨hk,hg2⟩;refine gz4 ?_;refine uCo (fun h17=> ?_) fun h18=> ?_
      ·obtain ⟨x,hx⟩: ∃x,l[k]? =some x:=⟨_,Aa h17⟩
       have hdx:=zg hx;rw [hdx] at hg2;refine gz8 ?_;refine de rfl (zj za8 rfl fun b10=> ?_)
       refine gz1 ?_;refine de0 (zn za8 rfl rfl rfl rfl rfl ?_)
       refine gz1 ?_;refine ze (zo 10 rfl) ?_;refine gz3 ?_;refine dq (zaK zcG za8 rfl rfl ⟨_,_,rfl,rfl⟩ uO uO) ?_;refine gz1 ?_;refine dq (uCl zAg rfl (zbE (l:=l.take k) (p:=zjg x) zFn (fun _=>zkr) (by rw [Am];omega))) ?_;refine gz1 ?_;refine uCo (fun h19=> ?_) fun h20=> ?_
       ·refine gz4 ?_;refine uRp ?_
        try rw [hE]
        (rw [zd7,if_neg (by rw [<-zbB uO hg];simp),if_pos (by rw [hg2,zd5];simp_all)];done)
       ·refine gz7 ?_;refine ⟨k+1,?_,?_,⟨rfl,trivial⟩,uK,Ac _⟩
        ·refine ⟨by omega,?_⟩
         rw [hg2,zd5];simp_all
        ·dsimp only;omega
      ·have hnk:l.length<=k:=by omega
       obtain rfl:k=l.length:=by omega
       rw [zC (Ae _)] at hg2;refine gz2 ?_;refine zu ?_;refine gz6 ?_;refine uRp ?_
       try rw [hE]
       (rw [zd7,if_neg (by rw [<-zbB uO hg];simp),if_neg (by rw [hg2];simp [zd5])];done)
theorem zk2 [Tracks] {l:List Int} (hl:l.length<=1000000):ConP prog 99 [.slice 1 (l.map (HVal.int .i64))] (.int .i64 (zd0 l)):=by
 refine uOb func99 ntmps99 ?_;refine gz9 ?_;refine uCo (fun h1=> ?_) fun h2=> ?_
 ·refine gz4 ?_;refine uRp ?_
  (rw [zd0,if_pos uO];done)
 ·refine gz9 ?_;refine uT1 [2,3,10,14] (fun k=>[(10,.int .i64 k)]) (fun k=>[]) (fun k=>k<=l.length/\(zbW l 0 l=zbW l k (l.drop k))) (fun k=>l.length-k) (0) ?_ ?_
  ·exact ⟨Ad _,rfl⟩
  ·rintro k ⟨hk,hg⟩;refine gz4 ?_;refine uCo (fun h3=> ?_) fun h4=> ?_
   ·obtain ⟨x,hx⟩: ∃x,l[k]? =some x:=⟨_,Aa h3⟩
    have hdx:=zg hx;rw [hdx] at hg;refine zda ?_;refine dq (uCl zgJ rfl za0) ?_;refine gz2 ?_;refine uCo (fun h5=> ?_) fun h6=> ?_
    ·refine gz4 ?_;refine uRp ?_
     (refine congrArg _ (zeu (e:=4) ?_ hg ?_)
      ·omega
      ·rw [zbW]
       simp_all
       done)
    ·refine gz5 ?_;refine dq (zaK zX ty3 rfl rfl ⟨_,_,rfl,rfl⟩ uO uO) ?_;refine gz1 ?_;refine dq (uCl zAd rfl (zdG (l:=l.take k) (z:=x) (by rw [Am];omega))) ?_;refine gz1 ?_;refine uCo (fun h7=> ?_) fun h8=> ?_
     ·refine gz4 ?_;refine uRp ?_
      (refine congrArg _ (zeu (e:=6) ?_ hg ?_)
       ·omega
       ·rw [zbW]
        simp_all
        done)
     ·refine gz7 ?_;refine ⟨k+1,?_,?_,⟨rfl,trivial⟩,uK,Ac _⟩
      ·refine ⟨by omega,?_⟩
       rw [hg,zbW,if_neg uSa,if_neg uSa]
      ·dsimp only;omega
   ·have hnk:l.length<=k:=by omega
    obtain rfl:k=l.length:=by omega
    rw [zC (Ae _)] at hg;refine gz2 ?_;refine zu ?_;refine gz6 ?_;refine uRp ?_
    (refine congrArg _ (zj6 ?_ hg)
     omega)
end
section
open Go.Proofs.Tryz
open Go.HL
theorem zoh [Tracks] {a b:MendS}:ConP prog 110 [zbY a,zbY b] (.int .i64 (zeV a b)):=by
 refine uOb func110 ntmps110 ?_;refine gz5 ?_;refine uDr mixed ?_;refine gz4 ?_;refine uB 4 rfl (uCl zc3 rfl zN) ?_;refine gz4 ?_;refine uB 9 rfl (uCl zd4 rfl zU) ?_;refine gz4 ?_;refine uB 14 rfl (uCl zc3 rfl zN) ?_;refine gz4 ?_;refine uB 19 rfl (uCl zd4 rfl zU) ?_;refine uB 20 rfl (za (hs:=[_,_,_,_]) zX ty3 rfl rfl (by decide) (by decide) rfl) ?_;refine uB 21 rfl (uCl zia rfl (zbe (l:=[_,_,_,_]) (by simp))) ?_;refine gz3 ?_;refine zt rfl ?_
 rfl
theorem zlJ [Tracks] {m:List MendS} (hl:m.length<=1000000) (hgm: ∀x∈m,zhX x):ConP prog 44 [zcy m] (.int .i64 (zbH m)):=by
 refine uOb func44 ntmps44 ?_;refine gz9 ?_;refine uCo (fun h1=> ?_) fun h2=> ?_
 ·refine gz4 ?_;refine uRp ?_
  (rw [zbH,if_pos uO];done)
 ·refine gz9 ?_;refine uT1 [2,3,10,59] (fun k=>[(10,.int .i64 k)]) (fun k=>[]) (fun k=>k<=m.length/\(zaW zaP zeV zeZ m 0 m=zaW zaP zeV zeZ m k (m.drop k))) (fun k=>m.length-k) (0) ?_ ?_
  ·exact ⟨Ad _,rfl⟩
  ·rintro k ⟨hk,hg⟩;refine gz4 ?_;refine uCo (fun h3=> ?_) fun h4=> ?_
   ·obtain ⟨x,hx⟩: ∃x,m[k]? =some x:=⟨_,Aa h3⟩
    have hdx:=zg hx;rw [hdx] at hg;refine gz8 ?_;refine de rfl (zj zbv rfl fun b4=> ?_)
    refine gz1 ?_;refine de0 (zn zbv rfl rfl rfl rfl rfl ?_)
    refine gz1 ?_;refine ze (zo 4 rfl) ?_;refine gz4 ?_;refine dq (uCl zjL rfl (zbS (hgm x (Ab hx)).1)) ?_;refine gz4 ?_;refine uGr rfl (fun hc=>uCl zjL rfl (zbS (hgm x (Ab hx)).2.1)) ?_;refine gz5 ?_;refine uGr rfl (fun hc=>uCl zjL rfl (zbS (hgm x (Ab hx)).2.2)) ?_;refine gz4 ?_;refine uCo (fun h5=> ?_) fun h6=> ?_
    ·refine gz4 ?_;refine uRp ?_
     (refine congrArg _ (zlz (c:=5) uO hg (by decide) ?_)
      rw [zaP,if_pos]
      simp_all
      done)
    ·refine gz3 ?_;refine dq (uCl zxz rfl ze3) ?_;refine gz4 ?_;refine uGr rfl (fun hc=>uCl zm6 rfl zc2) ?_;refine gz5 ?_;refine uGr rfl (fun hc=>uCl zuc rfl zc0) ?_;refine gz5 ?_;refine uGr rfl (fun hc=>uCl zm6 rfl zc2) ?_;refine gz4 ?_;refine uCo (fun h7=> ?_) fun h8=> ?_
     ·refine gz4 ?_;refine uRp ?_
      (refine congrArg _ (zlz (c:=1) uO hg (by decide) ?_)
       rw [zaP,if_neg,if_pos]
       all_goals simp_all
       done)
     ·refine uDr mixed ?_;refine gz6 ?_;refine uGy 6 rfl rfl (fun hc=>by have hq:=hc;(try simp at hq);exact zB (j:=k-1) (a:=m.getD (k-1) zeZ) zg7 zbv rfl rfl uO (getD_some uO)) ?_;refine gz2 ?_;refine uGy 9 rfl rfl (fun hc=>uCl zEM rfl zoh) ?_;refine gz4 ?_;refine uCo (fun h9=> ?_) fun h10=> ?_
      ·refine gz4 ?_;refine uRp ?_
       (have f1:=zhI.flip x (m.getD (k-1) zeZ) trivial trivial
        have f2:=zhI.flip (m.getD (k-1) zeZ) x trivial trivial;refine congrArg _ (ztp uO hg ?_ ?_ ?_)
        ·rw [zaP,if_neg,if_neg]<;>simp_all
        ·simp_all
        ·simp_all;omega)
      ·refine gz8 ?_;refine ⟨k+1,?_,?_,⟨rfl,trivial⟩,uK,Ac _⟩
       ·refine ⟨by omega,?_⟩
        rw [hg,zkH (by rw [zaP,if_neg uSa,if_neg uSa]) (by intro hk0;have:=zhI.flip x (m.getD (k-1) zeZ) trivial trivial;have:=zhI.flip (m.getD (k-1) zeZ) x trivial trivial;simp_all;try omega)]
       ·dsimp only;omega
   ·have hnk:m.length<=k:=by omega
    obtain rfl:k=m.length:=by omega
    rw [zC (Ae _)] at hg;refine gz2 ?_;refine zu ?_;refine gz6 ?_;refine uRp ?_
    (rw [zbH,if_neg uO,hg];rfl)
end
section
open Go.Proofs.Tryz
open Go.HL
theorem ztO [Tracks] {l:List Str} {fid:FuncId} {caps:List HVal} {p:Str->Bool} (hca:Callable prog fid) (hp: ∀x∈l,ConP prog fid ([HVal.str x]++caps) (.bool (p x))) (hl:l.length<=1000000):ConP prog 179 [.slice 1 (l.map HVal.str),.fn (.func fid) [] caps] (.int .i64 (zW p l 0)):=by
 refine uOb func179 ntmps179 ?_;refine zay ?_;refine uT1 [4,2,8,11] (fun k=>[(8,.int .i64 k)]) (fun k=>[]) (fun k=>k<=l.length/\(zW p l 0=zW p (l.drop k) k)) (fun k=>l.length-k) (0) ?_ ?_;exact ⟨Ad _,rfl⟩;rintro k ⟨hk,hg⟩;refine gz4 ?_;refine uCo (fun h1=> ?_) fun h2=> ?_
 obtain ⟨x,hx⟩: ∃x,l[k]? =some x:=⟨_,Aa h1⟩
 have hdx:=zg hx;rw [hdx] at hg;refine zda ?_;refine dq (zag hca rfl rfl (WeakL.refl _) (hp _ (Ab hx))) ?_;refine gz1 ?_;refine uCo (fun h3=> ?_) fun h4=> ?_
 refine gz5 ?_;refine uRp ?_
 (rw [hg];simp_all [zW])
 refine gz7 ?_;refine ⟨k+1,?_,?_,⟨rfl,trivial⟩,uK,Ac _⟩
 refine ⟨by omega,?_⟩
 rw [hg,zW,if_neg uSa];rfl
 dsimp only;omega
 have hnk:l.length<=k:=by omega
 obtain rfl:k=l.length:=by omega
 rw [zC (Ae _)] at hg;refine gz2 ?_;refine zu ?_;refine gz6 ?_;refine uRp ?_
 (rw [hg];rfl)
theorem zqk [Tracks] {l:List Str} {fid:FuncId} {caps:List HVal} {p:Str->Bool} (hca:Callable prog fid) (hp: ∀x∈l,ConP prog fid ([HVal.str x]++caps) (.bool (p x))) (hl:l.length<=1000000):ConP prog 113 [.slice 1 (l.map HVal.str),.fn (.func fid) [] caps] (.bool (l.any p)):=by
 refine uOb func113 ntmps113 ?_;refine gz6 ?_;refine dq (uCl zxE rfl (ztO hca hp hl)) ?_;refine gz4 ?_;refine zt rfl ?_
 congr 1;exact zcH p l 0 uO
theorem zjJ [Tracks] {x:GameS}:ConP prog 98 [zam x] (.bool x.Played):=by
 refine uOb func98 ntmps98 ?_;refine zay ?_;refine zt rfl ?_
 rfl
theorem zk0 [Tracks] {g:LeagueS} (hT:Tracks.on=false) (hb:LeaB g) (hg: ∀x∈g.Games,GamB x) (ht: ∀s∈g.Trust,Sh s):ConP prog 40 [zfO g] (.int .i64 (zcu g)):=by
 have hst:=hb.sta;refine uOb func40 ntmps40 ?_;refine gz8 ?_;refine dq (uCl ca89 rfl (zkt (l:=g.Players) hT hb.pl hb.nm hb.po)) ?_;refine gz6 ?_;refine uCo (fun h1=> ?_) fun h2=> ?_
 refine gz5 ?_;refine uRp ?_;exact congrArg _ (zzn (by assumption));refine gz3 ?_;refine uDr mixed ?_;refine gz4 ?_;refine uB 4 rfl (uCl ca90 rfl (zk4 (L:=g.Players) (l:=g.Stints) hb.pl hb.st)) ?_;refine gz2 ?_;refine uB 7 rfl (uCl ca91 rfl (zjK (l:=g.Fixtures) hb.fx)) ?_;refine gz2 ?_;refine uB 10 rfl (uCl ca92 rfl (zlP (l:=g.Rules) hb.ru hb.rw')) ?_;refine gz2 ?_;refine uB 13 rfl (uCl ca93 rfl (zlR (l:=g.Slots) hb.sl hb.sp)) ?_;refine gz1 ?_;refine uB 15 rfl (zY (h':=zgo g.Bounds) (zaF zjB rfl rfl (Ak rfl)) rfl) ?_;refine uB 16 rfl (uCl ca94 rfl (zk1 (b:=g.Bounds))) ?_;refine gz2 ?_;refine uB 19 rfl (uCl ca95 rfl (zhb (l:=g.Teams) hb.tm)) ?_;refine uB 20 rfl (za (hs:=[_,_,_,_,_,_]) zej zgB rfl rfl (by decide) (by decide) rfl) ?_;refine uB 21 rfl (uCl zAa rfl (zgf (l:=[_,_,_,_,_,_]) (by simp))) ?_;refine gz6 ?_;refine uCo (fun h3=> ?_) fun h4=> ?_
 refine gz5 ?_;refine uRp ?_;exact congrArg _ (zEd (by assumption) (by assumption));refine gz3 ?_;have hB:zjt g=0:=by assumption
 have hgt:=zCQ (l:=g.Games) (zAL hB);refine gz5 ?_;refine dq (zY (uCl ca96 rfl (zlM (T:=g.Teams) (l:=g.Games) hb.tm hb.ga hg)) (congrArg (HVal.int .i64) hgt)) ?_;refine gz6 ?_;refine uCo (fun h5=> ?_) fun h6=> ?_
 refine gz5 ?_;refine uRp ?_;exact congrArg _ (zEe (by assumption) hB (by assumption));refine gz6 ?_;refine dq (uCl zAg rfl (zbE (l:=g.Games) (p:=fun x=>x.Played) ca98 (fun _=>zjJ) hb.ga)) ?_;refine gz1 ?_;refine uCo (fun h7=> ?_) fun h8=> ?_
 refine gz4 ?_;refine uRp ?_;exact congrArg _ (zEf (by assumption) hB (by assumption) (by unfold zdc;simp_all));refine gz3 ?_;refine uDr mixed ?_;refine gz2 ?_;refine uB 2 rfl (uCl ca99 rfl (zk2 (l:=g.Breaks) hb.br)) ?_;refine gz2 ?_;refine uB 5 rfl (uCl zEJ rfl (zlL (l:=g.Trust) hb.tr ht)) ?_;refine gz2 ?_;refine uB 8 rfl (uCl zuc rfl zc0) ?_;refine uB 9 rfl (za (hs:=[_,_,_]) zej zgB rfl rfl (by decide) (by decide) rfl) ?_;refine uB 10 rfl (uCl zAa rfl (zgf (l:=[_,_,_]) (by simp))) ?_;refine gz6 ?_;refine uCo (fun h9=> ?_) fun h10=> ?_
 refine gz5 ?_;refine uRp ?_;exact congrArg _ (zEg (by assumption) hB (by assumption) (by unfold zdc;simp_all) (by assumption));refine gz8 ?_;refine uCo (fun h11=> ?_) fun h12=> ?_
 refine gz4 ?_;refine uRp ?_
 (rw [zzo (by assumption) hB (by assumption) (by unfold zdc;simp_all) (by assumption),if_pos uO])
 refine gz6 ?_;refine uRp ?_
 (rw [zzo (by assumption) hB (by assumption) (by unfold zdc;simp_all) (by assumption),if_neg uO])
theorem zmR [Tracks] {a b:ChoiceS}:ConP prog 114 [zaq a,zaq b] (.int .i64 (zll a b)):=by
 refine uOb func114 ntmps114 ?_;refine gz5 ?_;refine uDr mixed ?_;refine gz4 ?_;refine uB 4 rfl (uCl zc3 rfl zN) ?_;refine gz4 ?_;refine uB 9 rfl (uCl zd4 rfl zU) ?_;refine gz4 ?_;refine uB 14 rfl (uCl zd4 rfl zU) ?_;refine uB 15 rfl (za (hs:=[_,_,_]) zX ty3 rfl rfl (by decide) (by decide) rfl) ?_;refine uB 16 rfl (uCl zia rfl (zbe (l:=[_,_,_]) (by simp))) ?_;refine gz3 ?_;refine zt rfl ?_
 rfl
theorem zfD [Tracks] {s:Str} (hs:Sh s):ConP prog 112 [.str s] (.bool (!(zcg s))):=by
 refine uOb func112 ntmps112 ?_;refine gz8 ?_;refine uGr rfl (fun hc=>uCl zjL rfl (zbS hs)) ?_;refine gz5 ?_;refine zt rfl ?_
 show HVal.bool _=_
 rw [zzy]
 cases s with
 |nil=>rfl
 |cons x r=>simp
theorem zkq [Tracks] {g:LeagueS} {l:List ChoiceS} (hb:LeaB g) (hl:l.length<=1000000) (hp: ∀x∈l,x.Players.length<=1000000) (hcs: ∀x∈l,(∀s∈x.Players,Sh s)/\Sh x.Captain):ConP prog 46 [zfO g,zkJ l] (.int .i64 (zsr g.Teams g.Slots.length l)):=by
 refine uOb func46 ntmps46 ?_;refine zay ?_;refine uCo (fun h1=> ?_) fun h2=> ?_
 refine gz4 ?_;refine uRp ?_
 (refine congrArg _ (zbN ?_)
  omega)
 refine zc9 ?_;refine uT1 [4,1,6,2,13,56] (fun k=>[(13,.int .i64 k)]) (fun k=>[]) (fun k=>k<=l.length/\(za1 (zcc g.Teams g.Slots.length) zfM l 0 l=za1 (zcc g.Teams g.Slots.length) zfM l k (l.drop k))) (fun k=>l.length-k) (0) ?_ ?_;exact ⟨Ad _,rfl⟩;rintro k ⟨hk,hg⟩;refine gz4 ?_;refine uCo (fun h3=> ?_) fun h4=> ?_
 obtain ⟨x,hx⟩: ∃x,l[k]? =some x:=⟨_,Aa h3⟩
 have hdx:=zg hx;rw [hdx] at hg;refine gz6 ?_;refine dq (zB zgA zeJ rfl rfl rfl (by assumption)) ?_;refine gz1 ?_;refine de rfl (zj zeJ rfl fun b7=> ?_)
 refine gz1 ?_;refine de0 (zn zeJ rfl rfl rfl rfl rfl ?_)
 refine gz1 ?_;refine ze (zo 7 rfl) ?_;refine gz1 ?_;have hwk: ∀n:Int,((if za4 n then (0:Int) else 1)=0)↔za4 n=true:=fun n=>by cases za4 n<;>simp
 have hmo: ∀n:Int,((if zac n then (0:Int) else 1)=0)↔zac n=true:=fun n=>by cases zac n<;>simp
 refine gz5 ?_;refine dq (uCl zh9 rfl (zO (l:=g.Teams) (s:=x.Team) (by have:=hb.tm;omega))) ?_;refine gz3 ?_;refine uCo (fun h5=> ?_) fun h6=> ?_
 refine gz4 ?_;refine uRp ?_
 (refine congrArg _ (zA (e:=8) ?_ hg ?_ ?_)
  omega
  unfold zcc
  (try generalize ((x.Players++[x.Captain]).all zcg)=N at*)
  exact uT
  first|decide|assumption)
 refine gz3 ?_;refine dq (uCl zxz rfl ze3) ?_;refine gz4 ?_;refine uGr rfl (fun hc=>uCl zuc rfl zc0) ?_;refine gz4 ?_;refine uCo (fun h7=> ?_) fun h8=> ?_
 refine gz4 ?_;refine uRp ?_
 (refine congrArg _ (zA (e:=1) ?_ hg ?_ ?_)
  omega
  unfold zcc
  (try generalize ((x.Players++[x.Captain]).all zcg)=N at*)
  exact uT
  first|decide|assumption)
 refine gz3 ?_;refine dq (zav (f:=HVal.str) (l:=x.Players) zp rfl) ?_;refine gz2 ?_;refine dq (zav (f:=zbZ) (l:=g.Slots) zf0 rfl) ?_;refine gz3 ?_;refine uCo (fun h9=> ?_) fun h10=> ?_
 refine gz4 ?_;refine uRp ?_
 (refine congrArg _ (zA (e:=3) ?_ hg ?_ ?_)
  omega
  unfold zcc
  (try generalize ((x.Players++[x.Captain]).all zcg)=N at*)
  exact uT
  first|decide|assumption)
 refine gz4 ?_;refine dq (uCl zBB rfl (zqk (l:=x.Players) (p:=fun s=> !(zcg s)) zBA (fun s hs=>zfD ((hcs x (Ab hx)).1 s hs)) (hp x (Ab hx)))) ?_;refine gz4 ?_;refine uGr rfl (fun hc=>zag zBA rfl rfl (WeakL.refl _) (zfD (hcs x (Ab hx)).2)) ?_;refine gz3 ?_;refine uCo (fun h11=> ?_) fun h12=> ?_
 have hbad:((x.Players++[x.Captain]).all zcg)=false:=zwq (by assumption);refine gz4 ?_;refine uRp ?_
 (refine congrArg _ (zA (e:=5) ?_ hg ?_ ?_)
  omega
  unfold zcc
  (try generalize ((x.Players++[x.Captain]).all zcg)=N at*)
  exact uT
  first|decide|assumption)
 have hgood:((x.Players++[x.Captain]).all zcg)=true:=by rw [zzz];simp_all
 have htu:=zAh (x:=x) (p:=l.getD (k-1) zfM);refine uDr mixed ?_;refine gz6 ?_;refine uGy 6 rfl rfl (fun hc=>by have hq:=hc;(try simp at hq);exact zB (j:=k-1) (a:=l.getD (k-1) zfM) zgA zeJ rfl rfl uO (getD_some uO)) ?_;refine gz2 ?_;refine uGy 9 rfl rfl (fun hc=>uCl zEN rfl zmR) ?_;refine gz4 ?_;refine uCo (fun h13=> ?_) fun h14=> ?_
 refine gz4 ?_;refine uRp ?_
 (refine congrArg _ (zA (e:=7) ?_ hg ?_ ?_)
  omega
  unfold zcc
  (try generalize ((x.Players++[x.Captain]).all zcg)=N at*)
  exact uT
  first|decide|assumption)
 refine gz8 ?_;refine ⟨k+1,?_,?_,⟨rfl,trivial⟩,uK,Ac _⟩
 refine ⟨by omega,?_⟩
 rw [hg,zaZ (by unfold zcc;(try generalize ((x.Players++[x.Captain]).all zcg)=N at*);(try clear hdx hg);(try simp only [Ag]);focus first|(simp_all;done)|((repeat' split)<;>focus first|rfl|(exfalso;omega)|(simp_all;done)|(exfalso;rcases ‹_\/_› with q|q<;>simp_all;done)|(exfalso;simp_all;omega)))]
 dsimp only;omega
 have hnk:l.length<=k:=by omega
 obtain rfl:k=l.length:=by omega
 rw [zC (Ae _)] at hg;refine gz2 ?_;refine zu ?_;refine gz6 ?_;refine uRp ?_
 (refine congrArg _ (zbB ?_ hg)
  omega)
theorem zmi [Tracks] {b:BookS} (hT:Tracks.on=false) (hb:BookC b):ConP prog 13 [zbp b] (.int .i64 (zdt b)):=by
 refine uOb func13 ntmps13 ?_;refine gz7 ?_;refine dq (zY (h':=zfO b.League) (zaF zaS rfl rfl (Ak rfl)) rfl) ?_;refine dq (uCl ca40 rfl (zk0 (g:=b.League) hT hb.bb.lea hb.gw hb.tr)) ?_;refine gz6 ?_;refine uCo (fun h1=> ?_) fun h2=> ?_
 refine gz5 ?_;refine uRp ?_;unfold zdt
 (rw [if_pos (by assumption)])
 refine gz2 ?_;refine uDr mixed ?_;refine gz2 ?_;refine uB 2 rfl (uCl ca42 rfl (zlN (l:=b.Moves) hb.bb.mv hb.mb)) ?_;refine gz2 ?_;refine uB 5 rfl (uCl ca43 rfl (zlK (l:=b.Plays) hb.bb.pl hb.pg)) ?_;refine gz2 ?_;refine uB 8 rfl (uCl ca44 rfl (zlJ (m:=b.Mends) hb.bb.me hb.mg)) ?_;refine gz5 ?_;refine uB 14 rfl (uCl ca45 rfl (zk3 (L:=b.League.Players) (l:=b.Health) hb.bb.lea.pl hb.bb.he hb.hw)) ?_;refine gz1 ?_;refine uB 16 rfl (zY (h':=zfO b.League) (zaF zaS rfl rfl (Ak rfl)) rfl) ?_;refine gz2 ?_;refine uB 19 rfl (uCl ca46 rfl (zkq (g:=b.League) (l:=b.Choices) hb.bb.lea hb.bb.ch hb.bb.cp hb.cs)) ?_;refine uB 20 rfl (za (hs:=[_,_,_,_,_]) zej zgB rfl rfl (by decide) (by decide) rfl) ?_;refine uB 21 rfl (uCl zAa rfl (zgf (l:=[_,_,_,_,_]) (by simp))) ?_;refine gz3 ?_;refine uRp ?_;unfold zdt
 (rw [if_neg (fun q=>q h2)])
end
end Go.Proofs.YtnfmbjchkjijpaaGreatDoor
namespace Go.HL
section
section
variable {κ:Type}
end
end
section

end
section
def zDP (x:LineS):Prop:=Sh x.Player/\∀s∈x.Stats,Sh s.Name
abbrev LnV:=LineS×Value
structure LG where
 u:Value
 out:List LnV
 a:Nat
def zyH (p:LnV):Prop:=zDP p.1/\p.1.Stats.length<=3
structure LGok (n m:Nat) (q:LG):Prop where
 len:q.out.length<=n
 all: ∀p∈q.out,zyH p
 a:q.a<=m
theorem LGok.mono {n n' m m':Nat} {q:LG} (h:LGok n m q) (hn:n<=n') (hm:m<=m'):LGok n' m' q:=⟨Ar h.len hn,h.all,Ar h.a hm⟩
theorem LGok.same {n m m':Nat} {u:Value} {out:List LnV} {a1 a2:Nat} (h:LGok n m ⟨u,out,a1⟩) (ha:a2<=m'):LGok (n+1) m' ⟨u,out,a2⟩:=⟨Nat.le_succ_of_le h.len,h.all,ha⟩
theorem LGok.add {n m m':Nat} {u u':Value} {out:List LnV} {a1 a2:Nat} {p:LnV} (h:LGok n m ⟨u,out,a1⟩) (hp:zyH p) (ha:a2<=m'):LGok (n+1) m' ⟨u',out++[p],a2⟩:=
 ⟨by have:=h.len;simp only [Ax,Aj,AA] at*;omega,fun y hy=>by
  rcases List.mem_append.1 hy with hy|hy
  exact h.all y hy;rw [List.mem_singleton.1 hy];exact hp,ha⟩
end
section
/-! sums-/
def zrT (p:Str) (c:List (Of2×Int)) (s:StatS):List (Of2×Int):=zz (p,s.Name) ((alk (p,s.Name) c).getD 0+s.Count) c
def zCu (p:Str) (c:List (Of2×Int)) (l:List StatS):List (Of2×Int):=l.foldl (zrT p) c
theorem LnOk.le {q:LnS} {n m:Nat} (h:LnOk q n) (hn:n<=m):LnOk q m:=
 ⟨h.c,h.S,h.k,Ar h.cl hn,Ar h.Sl hn,fun e he=>by have:=h.bd e he;omega⟩
theorem LnOk.addC {q:LnS} {n:Nat} (h:LnOk q n) (p:Str) {s:StatS} (hb: -100000<=s.Count/\s.Count<=100000):LnOk ⟨q.S,zrT p q.c s⟩ (n+1):=by
 have hv:=h.val (p,s.Name);refine ⟨h.c.put,h.S,h.k,Ar (zmh _ _ _) (by have:=h.cl;omega),by have:=h.Sl;dsimp only;omega,fun e he=> ?_⟩
 rcases zdb he with rfl|he
 dsimp only;omega
 have:=h.bd e he;omega
theorem LnOk.row (p:Str): ∀(l:List StatS) {q:LnS} {n:Nat},LnOk q n->(∀s∈l,-100000<=s.Count/\s.Count<=100000)->LnOk ⟨q.S,zCu p q.c l⟩ (n+l.length)
 |[],q,n,h,_=>h
 |s::r,q,n,h,hb=>by
   have h1:=LnOk.row p r (h.addC p (hb s Al)) fun y hy=>hb y (Ao _ hy)
   rw [Aj,show n+(r.length+1)=n+1+r.length by omega];exact h1
theorem zvq {κ α:Type} [DecidableEq κ]: ∀{S D:List (κ×α)},ANodup (D++S)->zsD D S=D++S
 |[],D,_=>by simp [zsD]
 |p::r,D,h=>by
   have hn:alk p.1 D=none:=by
    rw [zeL];intro hm;unfold ANodup at h;rw [Aq] at h;exact (List.nodup_append.1 h).2.2 _ hm _ Al rfl
   have e:zz p.1 p.2 D=D++[p]:=zkk hn
   show zsD (zz p.1 p.2 D) r=_
   rw [e,zvq (by simpa using h)]
   simp
end
section
def stP (l:List StatS):List (Str×Int):=l.foldl (fun c s=>zz s.Name s.Count c) []
theorem zxj (l:List StatS):stP l=zsD [] (stA l):=by
 unfold stP zsD stA;rw [List.foldl_map]
theorem zzV (l:List StatS):ANodup (stP l):=by rw [zxj];exact zry ANodup.nil
theorem zEB {l:List StatS} (h:(l.map (·.Name)).Nodup):stP l=stA l:=by
 rw [zxj,zvq (by simpa using ztH h)];rfl
def zut (l:List StatS) (s:Str) (n:Int):List StatS:=zrW (zz s n (stP l))
theorem zz4 {κ:Type} [DecidableEq κ] {c:List (κ×Int)} (hn:ANodup c) (k:κ):(alk k (c.filter fun e=>e.2 !=0)).getD 0=(alk k c).getD 0:=by
 have hn2:ANodup (c.filter fun e=>e.2 !=0):=by
  unfold ANodup at*;exact hn.sublist (List.filter_sublist.map _)
 cases hq:alk k (c.filter fun e=>e.2 !=0) with
 |some v=>
   have h1:=(List.mem_filter.1 (zbR hq)).1;rw [(zet hn).1 h1]
 |none=>
   cases hr:alk k c with
   |none=>rfl
   |some v=>
     by_cases hv:v=0
     rw [hv];rfl;have h1:(k,v)∈c.filter fun e=>e.2 !=0:=List.mem_filter.2 ⟨zbR hr,by simpa using hv⟩
     rw [(zet hn2).1 h1] at hq
     cases hq
theorem zsL {c:List (Str×Int)} (hn:ANodup c):StOk (zsK c) where
 nd:=by
  unfold zsK;rw [A6];unfold ANodup at hn;exact hn.sublist (List.filter_sublist.map _)
 nz x hx:=by
  unfold zsK at hx;obtain ⟨e,he,rfl⟩:=List.mem_map.1 hx;have:=(List.mem_filter.1 he).2
  simpa using this
theorem zzX {c:List (Str×Int)} (hn:ANodup c):StOk (zrW c):=(zsL hn).sort
theorem zyu {c:List (Str×Int)} (hn:ANodup c) (s:Str):sv (zrW c) s=(alk s c).getD 0:=by
 have h1:sv (zrW c) s=sv (zsK c) s:=zDM (zsL hn).nd (zbh zbc _) s;have h2:stA (zsK c)=c.filter fun e=>e.2 !=0:=by
  unfold stA zsK;rw [A6];exact List.map_id _
 rw [h1];unfold sv;rw [h2];exact zz4 hn s
theorem zzW {l:List StatS} (h:(l.map (·.Name)).Nodup) (hw:l.Pairwise fun a b=> ¬zbc b a<0):zQ zbc l=l:=
 (zf6 zdv (fun _ _ hx hy e=>zwY h hx hy (zbs.1 e)) (Ac _) hw).symm
theorem zwl {l:List StatS} (h:(l.map (·.Name)).Nodup):zQ zbc (zQ zbc l)=zQ zbc l:=by
 have h1:=zgt zdv (l:=l) (fun _ _=>trivial);refine zzW (((zbh zbc l).map _).nodup_iff.2 h) (h1.imp fun {a b} hab=> ?_)
 have:=zdv.flip a b trivial trivial;have:=zdv.flip b a trivial trivial
 omega
structure RfSt (l:List StatS):Prop where
 ok:StOk l
 so:zQ zbc l=l
theorem RfSt.nil:RfSt []:=⟨StOk.nil,rfl⟩
theorem RfSt.put {l:List StatS} (h:RfSt l) (s:Str) (n:Int):RfSt (zut l s n)/\∀t,sv (zut l s n) t=if t=s then n else sv l t:=by
 have hn:ANodup (zz s n (stP l)):=(zzV l).put;refine ⟨⟨zzX hn,zwl (zsL hn).nd⟩,fun t=> ?_⟩
 unfold zut;rw [zyu hn,zc1,zEB h.ok.nd]
 by_cases e:t=s
 rw [if_pos e,if_pos e];rfl;rw [if_neg e,if_neg e];rfl
structure RfOk (G:GrS):Prop where
 nd:ANodup G
 st: ∀q∈G,RfSt q.2
theorem RfOk.get {G:GrS} (h:RfOk G) (p:Plc):RfSt ((alk p G).getD []):=by
 cases hq:alk p G with
 |none=>exact RfSt.nil
 |some l=>exact h.st _ (zbR hq)
theorem zHx {G:GrS} (h:RfOk G):GSOk G:=⟨h.nd,fun q hq=>(h.st q hq).ok⟩
theorem RfOk.put {G:GrS} (h:RfOk G) (p:Plc) (s:Str) (n:Int):RfOk (zz p (zut ((alk p G).getD []) s n) G):=
 ⟨h.nd.put,fun q hq=>by
  rcases zdb hq with rfl|hq
  exact ((h.get p).put s n).1;exact h.st q hq⟩
end
section
theorem zsW {κ α:Type} [DecidableEq κ] (s:κ) (v v':α): ∀G:List (κ×α),zz s v' (zz s v G)=zz s v' G
 |[]=>by simp [zz]
 |p::r=>by
   have ih:=zsW s v v' r
   by_cases h:s=p.1
   simp [zz,h]
   simp [zz,h,ih]
theorem zsX {κ α:Type} [DecidableEq κ] {s:κ} {v:α}: ∀{G:List (κ×α)},alk s G=some v->zz s v G=G
 |[],h=>by simp [alk] at h
 |p::r,h=>by
   by_cases e:s=p.1
   simp only [alk,if_pos e] at h;have:=Ay h;subst this;unfold zz;rw [if_pos e,e];simp only [alk,if_neg e] at h;have ih:=zsX h;simp only [zz,if_neg e,ih]
def rowI (L:List (Str×Int)) (l:List StatS):List (Str×Int):=l.foldl (fun L s=>zz s.Name ((alk s.Name L).getD 0+s.Count) L) L
theorem GrOk.row {S:List Str} {p:Str} {b:Nat}: ∀(l:List StatS) {c:List (Of2×Int)} {G:GrM Str} {L:List (Str×Int)},GrOk S c G->alk p G=some (b,L)->GrOk S (zCu p c l) (zz p (b,rowI L l) G)
 |[],c,G,L,h,hq=>by
   show GrOk S c (zz p (b,L) G)
   rw [zsX hq];exact h
 |s::r,c,G,L,h,hq=>by
   have hL:=h.get hq;have h1:=h.put hq s.Name ((alk s.Name L).getD 0+s.Count);have e:zz (p,s.Name) ((alk s.Name L).getD 0+s.Count) c=zrT p c s:=by unfold zrT;rw [hL,ztc]
   rw [e] at h1;have h2:=GrOk.row r h1 (L:=zz s.Name ((alk s.Name L).getD 0+s.Count) L) (by rw [zc1,if_pos rfl]);rw [zsW] at h2;exact h2
end
section
structure DisOk (q:DisS) (n:Nat):Prop where
 c:ANodup q.c
 S:q.S.Nodup
 k: ∀s∈q.S,s.length<=40
 cl:q.c.length<=n
 Sl:q.S.length<=n
 bd: ∀e∈q.c,-(100000*(n:Int))<=e.2/\e.2<=100000*(n:Int)
theorem DisOk.val {q:DisS} {n:Nat} (h:DisOk q n) (s:Str×Of2): -(100000*(n:Int))<=(alk s q.c).getD 0/\(alk s q.c).getD 0<=100000*(n:Int):=by
 cases hq:alk s q.c with
 |none=>simp;omega
 |some v=>exact h.bd _ (zbR hq)
theorem DisOk.sput {q:DisS} {n:Nat} (h:DisOk q n) {p:Play} (hp:playFault p=0):DisOk ⟨zci p.Source q.S,q.c⟩ (n+1):=by
 refine ⟨h.c,zj0 h.S,fun s hs=> ?_,by have:=h.cl;dsimp only;omega,Ar (zxe _ _) (by have:=h.Sl;omega),fun e he=>by have:=h.bd e he;omega⟩
 rcases zkR.1 hs with rfl|hs
 exact zwR (zfd hp).1;exact h.k s hs
theorem DisOk.put {q:DisS} {n:Nat} (h:DisOk q n) {p:Play} (hp:playFault p=0):DisOk ⟨zci p.Source q.S,zDW q p⟩ (n+1):=by
 have hs:=h.sput hp;obtain ⟨_,_,_,_,_,hb,_⟩:=zfd hp;have hv:=h.val (zu6 p);refine ⟨h.c.put,hs.S,hs.k,Ar (zmh _ _ _) (by have:=h.cl;omega),hs.Sl,fun e he=> ?_⟩
 rcases zdb he with rfl|he
 dsimp only;omega
 have:=h.bd e he;omega
end
section

end
section
theorem zr2 (x:Of2): ∀(A:List Of2) (p:Option Of2),zfC p (A++[x])=zfC p A++if (A.getLast?.or p)=some x then [] else [x]
 |[],p=>by
   by_cases h:p=some x<;>simp [zfC,h]
 |y::A,p=>by
   have ih:=zr2 x A (some y);have e:((y::A).getLast?.or p)=(A.getLast?.or (some y)):=by
    cases A with
    |nil=>simp
    |cons z A=>simp [List.getLast?_cons_cons,List.getLast?_cons]
   simp only [AX,zfC];rw [e,ih]
   split<;>simp
theorem zyF {l:List Of2} {k:Nat} {x y:Of2} (hx:l[k]? =some x) (hy:l[k-1]? =some y) (h0:0<k):zfC none (l.take (k+1))=zfC none (l.take k)++if x=y then [] else [x]:=by
 have hk:=zm hx;rw [zR hx,zr2];have e:((l.take k).getLast?.or none)=some y:=by
  rw [List.getLast?_eq_getElem?,Am,BF (by omega),AD (by omega),hy];rfl
 rw [e]
 by_cases h:x=y
 rw [if_pos h,if_pos (by rw [h])];rw [if_neg h,if_neg (by simpa using fun q:y=x=>h q.symm)]
structure CmpO (l:List Of2) (j:Nat) (D:List Of2):Prop where
 len:D.length=l.length
 lo:D.take (zfC none (l.take j)).length=zfC none (l.take j)
 lt:(zfC none (l.take j)).length<j
 hi: ∀i,j<=i+1->D[i]? =l[i]?
theorem CmpO.same {l D:List Of2} {j:Nat} (h:CmpO l j D) {x y:Of2} (hx:l[j]? =some x) (hy:l[j-1]? =some y) (e:x=y):CmpO l (j+1) D/\(zfC none (l.take (j+1))).length=(zfC none (l.take j)).length:=by
 have h0:=h.lt;have h1:zfC none (l.take (j+1))=zfC none (l.take j):=by rw [zyF hx hy (by omega),if_pos e];simp
 exact ⟨⟨h.len,by rw [h1];exact h.lo,by rw [h1];omega,fun i hi=>h.hi i (by omega)⟩,by rw [h1]⟩
end
section
theorem zAx {l:List Str} {i:Nat} (h:i<l.length):l.getD i []∈l:=by
 rw [Ag,Aa h];exact BM h
end
section

end
section
open Op
def zAp {α:Type} (p:α->α->Bool):List α->List α->Bool
 |[],[]=>true
 |a::l,b::m=>p a b&&zAp p l m
 |_,_=>false
theorem zy8 {α:Type} {p:α->α->Bool} (h: ∀x,p x x=true): ∀l:List α,zAp p l l=true
 |[]=>rfl
 |a::r=>by rw [zAp,h,zy8 h r];rfl
theorem zri {α:Type} {e:α->HVal} (h: ∀x,zqu e x x=true): ∀l:List α,zgM e l l=true
 |[]=>rfl
 |a::r=>by rw [zgM,h,zri h r];rfl
end
end Go.HL
section
namespace Go.HL
section
variable {P:Program} {e:Env} {dst:Option Tmp} {ty:TypeId} {pos:String} {af:Array Edge} {g:Option (Nat×Bool)}
theorem zfz {t el:TypeId} (hu:P.underlying t=some (.pointer el)) (a:Option Addr) (w:World):(Op.equal t (.pointer a) (.pointer none)).run P w= .ok a.isNone w:=by
 have h: ∀d,(Op.equalIn (d+1) t (.pointer a) (.pointer none)).run P w= .ok a.isNone w:=fun d=>by
  cases a<;>simp only [Op.equalIn,Sem.run_bind,run_underlying hu,Result.andThen_ok,Sem.run_pure,Option.isNone]
 exact h 9999
def zpb:Option (List HVal)->HVal
 |none=> .raw (.pointer none)
 |some cs=> .vptr cs 0
theorem zyl [Tracks] {x y:Operand} {t t' el:TypeId} {size bytes:Nat} {zero:Value} {o:Option (List HVal)} (hf:Fits P t (.ptr el) size bytes zero) (hx:zi e x=some (zpb o)) (hy:zi e y=some (.raw (.pointer none))):
 POp P e ⟨dst,.binOp .eql t x y t',ty,pos,af,g⟩ (.bool o.isNone):=
 zD fun I a w ho=>by
  have hv:=ho.one (x:=x) (by simp [Op.operands]) hx;have h2:=(ho.one (x:=y) (by simp [Op.operands]) hy).raw_inv
  cases o with
  |none=>
    have h1:=hv.raw_inv;refine ⟨_,?_,.bool _⟩
    simp [execOp,h1,h2,eqGuard,binOp,zfz hf.ptrD]
  |some cs=>
    obtain ⟨b,base,rc,el',fr,h1,h3,h4,h5⟩:=hv.vptr_inv;refine ⟨_,?_,.bool _⟩
    simp [execOp,h1,h2,eqGuard,binOp,zfz hf.ptrD]
end
end Go.HL
namespace Go.HL
theorem zfo [Tracks] {a b c d a' b' c' d':HVal} (h1:Weak a a') (h2:Weak b b') (h3:Weak c c') (h4:Weak d d'):Weak (.tup [a,b,c,d]) (.tup [a',b',c',d']):=
 zqI rfl fun j h h' x y=>by
  match j,x,y with
  |0,x,y=>simp at x y;subst x y;exact h1
  |1,x,y=>simp at x y;subst x y;exact h2
  |2,x,y=>simp at x y;subst x y;exact h3
  |3,x,y=>simp at x y;subst x y;exact h4
end Go.HL
end
namespace Go.HL
section
open Op
end
section
open Op
end
section
open Op
end
section
open Op
def sp4:List Str:=[[100,102],[102,119],[103,107],[109,102]]
def nm5:List Str:=[[97,110,110],[98,101,97],[99,105,100],[100,97,110],[101,118,101]]
def sl4:List Str:=[[115,98],[115,97],[115,99],[115,100]]
def ru5:List Str:=[[114,97],[114,98],[114,99],[114,100],[114,101]]
structure GoodPy (p:PlayerS):Prop where
 name:p.Name∈zdk
 pos:p.Positions.length<=4
structure GoodPys (l:List PlayerS):Prop where
 len:l.length<=5
 all: ∀p∈l,GoodPy p
def zpo (x:SlotS):Prop:=x.Positions.length<=10
structure GoodSlos (l:List SlotS):Prop where
 len:l.length<=4
 all: ∀x∈l,zpo x
def zmg (x:SlotS):Prop:=x.Positions.length<=4
structure GoodS4s (l:List SlotS):Prop where
 len:l.length<=4
 all: ∀x∈l,zmg x
theorem GoodS4s.up {l:List SlotS} (h:GoodS4s l):GoodSlos l:=⟨h.len,fun x hx=>by have:=h.all x hx;dsimp only [zmg] at this;show x.Positions.length<=10;omega⟩
def zuD (x:HealthS):Prop:= -1000000000000000<=x.To/\x.To<=1000000000000000
structure GoodHes (l:List HealthS):Prop where
 len:l.length<=10
 all: ∀x∈l,zuD x
def ofB (L:List PlayerS) (s:Str):Bool:=decide (zW (fun x:PlayerS=>x.Key==s) L 0<0)&&(s !=[122,101,100])
theorem GoodHes.filter {l:List HealthS} {p:HealthS->Bool} (h1:l.length<=10) (h2: ∀x∈l,zuD x):GoodHes (l.filter p):=
 ⟨Ar (AV _ _) h1,fun x hx=>h2 x (List.mem_filter.1 hx).1⟩
def zz2 (x:RuleS):Prop:=(-1000000000<=x.Num/\x.Num<=1000000000)/\ -1000000000<=x.Den/\x.Den<=1000000000
structure GoodRus (l:List RuleS):Prop where
 len:l.length<=5
 all: ∀x∈l,zz2 x
theorem zwI {n g:Int} (h: -1000<=n/\n<=1000): -1000000000<=n.tdiv g/\n.tdiv g<=1000000000:=by
 have h1:(n.tdiv g).natAbs<=n.natAbs:=by
  rw [Int.natAbs_tdiv];exact Nat.div_le_self _ _
 omega
def zif (n d:Int):Int:=((Nat.gcd n.natAbs d.natAbs:Nat):Int)
theorem zDa {n d:Int} (h:1<=d):1<=zif n d:=by
 unfold zif;have:=Nat.gcd_pos_of_pos_right n.natAbs (show 0<d.natAbs by omega)
 omega
end
section
open Op
def onI (W p n:Int):Int:=if 0<p then 1+((p-1-(W-1)).tmod (n-1)+(n-1)).tmod (n-1) else p
def onS (T:List Str) (W p n:Int):Str:=if T.length<=onI W p n then [] else T.getD (onI W p n).toNat []
theorem zHa {W p n:Int} (hp:0<=p/\p<=10) (hn:2<=n/\n<=10):(-10<=(p-1-(W-1)).tmod (n-1)/\(p-1-(W-1)).tmod (n-1)<=10)/\(0<=((p-1-(W-1)).tmod (n-1)+(n-1)).tmod (n-1)/\((p-1-(W-1)).tmod (n-1)+(n-1)).tmod (n-1)<=10)/\0<=onI W p n:=by
 obtain ⟨m1,m2,_⟩:=zv1 (a:=p-1-(W-1)) (b:=n-1) (by omega);have h0:0<=(p-1-(W-1)).tmod (n-1)+(n-1):=by omega
 have h1:=Cv (n-1) h0;have h2:=BV ((p-1-(W-1)).tmod (n-1)+(n-1)) (show 0<n-1 by omega);refine ⟨⟨by omega,by omega⟩,⟨h1,by omega⟩,?_⟩
 unfold onI
 split<;>omega
def zhz:List Str->List Str->Int
 |[],[]=>0
 |[],_::_=> -1
 |_::_,[]=>1
 |a::l,b::m=>if zZ a b≠0 then zZ a b else zhz l m
theorem zAj {l m:List Str} (h:m.length<=0\/m=[]) (hl:l≠[]):zhz l m=1:=by
 have hm:m=[]:=by
  rcases h with h|h
  cases m with
  |nil=>rfl
  |cons _ _=>simp at h
  exact h
 subst hm
 cases l with
 |nil=>exact absurd rfl hl
 |cons _ _=>rfl
theorem zyV {a b:Str} {l m:List Str} (h:zZ a b=0):zhz (a::l) (b::m)=zhz l m:=by rw [zhz,if_neg (by simp [h])]
theorem zyW {a b:Str} {l m:List Str} (h:zZ a b≠0):zhz (a::l) (b::m)=zZ a b:=by rw [zhz,if_pos h]
theorem zna {m:List Str} {k:Nat} (h:k<m.length):m.drop k=m.getD k []::m.drop (k+1):=by
 rw [BK h,Ag,Aa h];rfl
theorem zuZ {m:List Str} (k:Nat):zhz [] (m.drop k)=if k<m.length then-1 else 0:=by
 split
 rename_i h;rw [zna h];rfl
 rename_i h;rw [Bm (by omega)];rfl
def zqh (x y:FixS):Int:=if zfW [x.Week,x.At] [y.Week,y.At]≠0 then zfW [x.Week,x.At] [y.Week,y.At] else zhz [x.Home] [y.Home]
theorem zz8:Cmp zqh fun _=>True:=by
 have h:=zdU (zfN FixS.Week) (zdU (zfN FixS.At) (zgK FixS.Home));have e:zqh=fun a b=>if zab a.Week b.Week≠0 then zab a.Week b.Week else if zab a.At b.At≠0 then zab a.At b.At else zZ a.Home b.Home:=by
  funext a b
  unfold zqh;have e1:zfW [a.Week,a.At] [b.Week,b.At]=if zab a.Week b.Week≠0 then zab a.Week b.Week else zab a.At b.At:=by
   rw [zfW,zfW,zfW]
   by_cases h2:zab a.At b.At≠0
   rw [if_pos h2];rw [if_neg h2];simp at h2;rw [h2]
  have e2:zhz [a.Home] [b.Home]=zZ a.Home b.Home:=by
   rw [zhz,zhz]
   by_cases h2:zZ a.Home b.Home≠0
   rw [if_pos h2];rw [if_neg h2];simp at h2;rw [h2]
  rw [e1,e2]
  by_cases h1:zab a.Week b.Week≠0
  rw [if_pos h1,if_pos h1,if_pos h1];rw [if_neg h1,if_neg h1]
 rw [e];exact h
def nOf (T:List Str):Int:=(T.length:Int)+(T.length:Int).tmod 2
def mOf (T:List Str):Int:=(nOf T).tdiv 2
theorem zEl {T:List Str} (h:2<=T.length/\T.length<=4):(0<=(T.length:Int).tmod 2/\(T.length:Int).tmod 2<=1)/\(2<=nOf T/\nOf T<=4)/\(1<=mOf T/\mOf T<=2)/\2*mOf T=nOf T:=by
 have h3:T.length=2\/T.length=3\/T.length=4:=by omega
 unfold mOf nOf
 rcases h3 with e|e|e<;>(rw [e];decide)
theorem zwK {w:Nat} {x y:Str} (h:w<=10):GamB ⟨(w:Int)+1,x,y,false,0,0,0,0⟩:=⟨by dsimp only;omega,by dsimp only;omega,by dsimp only;omega⟩
structure GoodGas (l:List GameS):Prop where
 len:l.length<=6
 all: ∀x∈l,GamB x
def tm4:List Str:=[[116,97],[116,98],[116,99],[116,100]]
theorem zfK {y:Int} (h:2<=y):HasAB (tm4.take y.toNat):=by
 obtain ⟨n,hn⟩: ∃n,y.toNat=n+2:=⟨y.toNat-2,by omega⟩
 rw [hn];unfold HasAB tm4
 constructor<;>simp
structure LeaC (g:LeagueS):Prop where
 lea:LeaB g
 gw: ∀x∈g.Games,GamB x
 tr: ∀s∈g.Trust,Sh s
 sl:g.Slots.length<=4
 tm:g.Teams.length<=5
 pl:g.Players.length<=5
 tt:HasAB g.Teams
theorem zkb {g:LeagueS} (h1:GoodPys g.Players) (h2:g.Stints.length<=10) (h3:g.Fixtures.length<=12) (h4:GoodRus g.Rules) (h5:GoodSlos g.Slots) (h6:g.Teams.length<=5) (h7:g.Games.length<=6/\∀x∈g.Games,GamB x)
 (h8:g.Breaks.length<=6) (h9:g.Trust.length<=100/\∀s∈g.Trust,Sh s) (h10: -1<=g.Start/\g.Start<=1000000000000) (h11:HasAB g.Teams):LeaC g:=by
 have l1:=h1.len;have l4:=h4.len;have l5:=h5.len;refine ⟨⟨by omega,fun p hp=>(h1.all p hp).name,fun p hp=>by have:=(h1.all p hp).pos;omega,by omega,by omega,by omega,fun x hx=>h4.all x hx,by omega,fun x hx=>by have:=h5.all x hx;dsimp only [zpo] at this;omega,by omega,by omega,
  fun x hx=>⟨(h7.2 x hx).fr,(h7.2 x hx).ot⟩,by omega,by omega,by omega⟩,h7.2,h9.2,l5,h6,l1,h11⟩
structure LeaD (g:LeagueS):Prop where
 pl:GoodPys g.Players
 fx:g.Fixtures.length<=12
 ru:GoodRus g.Rules
 sl:GoodS4s g.Slots
 tm:2<=g.Teams.length/\g.Teams.length<=4
 br:g.Breaks.length<=6
 tr:GoodTr g.Trust
 sta: -1<=g.Start/\g.Start<=1000000000000
 tt:HasAB g.Teams
end
section
open Op
structure HalfG {α:Type} (a b l:List α):Prop where
 sa:List.Sublist a l
 sb:List.Sublist b l
 all: ∀x∈l,x∈a\/x∈b
theorem HalfG.nil {α:Type}:HalfG ([]:List α) [] []:=⟨Bj _,Bj _,fun x h=>by cases h⟩
theorem HalfG.left {α:Type} {a b l:List α} (h:HalfG a b l) (x:α):HalfG (a++[x]) b (l++[x]):=
 ⟨h.sa.append (Bj _),h.sb.trans (BN _ _),fun y hy=>by
  rcases List.mem_append.1 hy with q|q
  exact (h.all y q).imp (An _) id;exact .inl (A8 _ q)⟩
theorem HalfG.right {α:Type} {a b l:List α} (h:HalfG a b l) (x:α):HalfG a (b++[x]) (l++[x]):=
 ⟨h.sa.trans (BN _ _),h.sb.append (Bj _),fun y hy=>by
  rcases List.mem_append.1 hy with q|q
  exact (h.all y q).imp id (An _);exact .inr (A8 _ q)⟩
abbrev MvS:={m:MoveS//MovB m}
abbrev zdx (x:MvS):HVal:=zdu x.1
def zBy (x y:MvS):Int:=zhh x.1 y.1
theorem zyS:Cmp zBy fun _=>True:=zxu
end
section
theorem zuV: ∀a b:Str,Op.bytesLess a b=decide (a<b)
 |[],[]=>by simp [Op.bytesLess]
 |_::_,[]=>by simp [Op.bytesLess]
 |[],_::_=>by simp [Op.bytesLess]
 |a::x,b::y=>by
   have ih:=zuV x y;rw [AF,decide_eq_true_iff,List.cons_lt_cons_iff];unfold Op.bytesLess;rw [ih]
   simp
theorem zDI {a b:Str} (h:SLt a b):zZ a b<0:=by
 have h1:zZ a b<=0:=by
  rw [zj7,zuV,decide_eq_false_iff_not];exact List.not_lt.2 h.1
 have h2:zZ a b≠0:=fun e=>h.2 (zbs.1 e)
 omega
/-! the lines of right plays are right-/
structure LnKey (q:LnS):Prop where
 S: ∀s∈q.S,key s=true
 c: ∀e∈q.c,key e.1.2=true
theorem zvk {l:List Play} {t:List Str} {week n:Int}: ∀(m:List Play) (q:LnS),LnKey q->(∀x∈m,playFault x=0)->LnKey (m.foldl (zie l t week n) q)
 |[],_,h,_=>h
 |x::m,q,h,hm=>by
   rw [Bt];refine zvk m _ ?_ fun y hy=>hm y (Ao _ hy)
   obtain ⟨_,_,_,_,⟨_,k2,k3⟩,_,_⟩:=zfd (hm x Al);unfold zie
   split
   refine ⟨fun s hs=> ?_,fun e he=> ?_⟩
   rcases zkR.1 hs with rfl|hs
   exact k2;exact h.S s hs
   rcases zdb he with rfl|he
   exact k3;exact h.c e he;exact h
theorem zl5 {l:List Play} {t:List Str} {week n:Int} (hok: ∀x∈l,playFault x=0) (hl:l.length<=15) (hw:za4 week=true) (h0:zid l t week n=0):zaC (zea l t week n)=0:=by
 have h:=zup (l:=l) (m:=l) (trust:=t) (week:=week) (n:=n) hok;have hk:LnKey (zcM l t week n l):=zvk (l:=l) (t:=t) (week:=week) (n:=n) l ⟨[],[]⟩ ⟨(fun s h=>by cases h),(fun e h=>by cases h)⟩ hok;obtain ⟨hsl,hsn⟩:=zkQ (t:=t) (week:=week) (n:=n) hok hl;have hf:zhm (zcM l t week n l).c (zcM l t week n l).S=false:=by
  unfold zid ziD at h0
  cases hq:zhm (zcM l t week n l).c (zcM l t week n l).S with
  |false=>rfl
  |true=>rw [hq] at h0;simp at h0
 have e:zea l t week n=(zbk (zcM l t week n l).S).map fun s=>⟨s,week,zdW (zcM l t week n l).c s⟩:=by
  unfold zea zhQ;rw [hf];rfl
 unfold zhm at hf;rw [Bc] at hf;obtain ⟨f1,f2⟩:=hf;refine zru (by omega) (fun y hy=> ?_) ?_;obtain ⟨y1,y2,y3⟩:=hsn y hy;rw [e] at hy;obtain ⟨s,hs,rfl⟩:=List.mem_map.1 hy;have hsS:s∈(zcM l t week n l).S:=(zio _).mem_iff.1 hs;have hnm:((zbn (zcM l t week n l).c s).map (·.Name)).Nodup:=by
  have:=znX h.c s;unfold zdW at this;exact ((zbh zbc _).map _).nodup_iff.1 this
 refine zfc.2 ⟨hk.S s hsS,hw,ztI (Ar y1 (by decide)) (fun z hz=> ?_) (zqc hnm)⟩
 have hz':z∈zbn (zcM l t week n l).c s:=(zeE _).1 hz;obtain ⟨p,hp,rfl⟩:=List.mem_map.1 hz';obtain ⟨p1,p2⟩:=List.mem_filter.1 hp;have p3:p.2≠0:=by
  simp only [Bi,bne_iff_ne,ne_eq] at p2;exact p2.2
 have p4:out p.2 (-100000) 100000=false:=by
  have:=List.any_eq_false.1 f1 p p1
  simpa using this
 refine zff.2 ⟨hk.c p p1,?_,p3⟩
 unfold out at p4;simp only [Bc,decide_eq_false_iff_not] at p4
 dsimp only
 omega
 rw [e];refine List.pairwise_map.2 ((zvV h.S).imp fun {a b} hab=> ?_)
 have h1:=zDI hab
 show orI [zZ a b,zab week week]<0
 rw [zeo,if_pos (by omega)];exact h1
/-! parts that make the whole-/
structure Half (a b l:List Play):Prop where
 sa:a.Sublist l
 sb:b.Sublist l
 all: ∀x∈l,x∈a\/x∈b
theorem Half.nil:Half [] [] []:=⟨Bj _,Bj _,fun x h=>by cases h⟩
theorem Half.left {a b l:List Play} (h:Half a b l) (x:Play):Half (a++[x]) b (l++[x]):=
 ⟨h.sa.append (Bj _),h.sb.trans (BN _ _),fun y hy=>by
  rcases List.mem_append.1 hy with hy|hy
  rcases h.all y hy with q|q
  exact .inl (An _ q);exact .inr q;exact .inl (A8 _ hy)⟩
theorem Half.right {a b l:List Play} (h:Half a b l) (x:Play):Half a (b++[x]) (l++[x]):=
 ⟨h.sa.trans (BN _ _),h.sb.append (Bj _),fun y hy=>by
  rcases List.mem_append.1 hy with hy|hy
  rcases h.all y hy with q|q
  exact .inl q;exact .inr (An _ q);exact .inr (A8 _ hy)⟩
end
section

end
section
open Op
def zuC (x:ChoiceS):Prop:=(∀s∈x.Players,Sh s)/\Sh x.Captain/\x.Players.length<=5
def GoodC4 (x:ChoiceS):Prop:=(∀s∈x.Players,Sh s)/\Sh x.Captain/\x.Players.length<=4
theorem GoodC4.up {x:ChoiceS} (h:GoodC4 x):zuC x:=⟨h.1,h.2.1,Nat.le_succ_of_le h.2.2⟩
structure GoodChs (l:List ChoiceS):Prop where
 len:l.length<=20
 all: ∀x∈l,zuC x
structure BookG (b:BookS):Prop where
 lea:LeaC b.League
 mv:b.Moves.length<=10
 mb: ∀x∈b.Moves,MovB x
 pl:GoodPl b.Plays
 me:GoodMds b.Mends
 he:GoodHes b.Health
 ch:GoodChs b.Choices
theorem BookG.c {b:BookS} (h:BookG b):BookC b:=by
 have a1:=h.mv;have a2:=h.pl.len;have a3:=h.me.len;have a4:=h.he.len;have a5:=h.ch.len;exact ⟨⟨h.lea.lea,by omega,by omega,by omega,by omega,by omega,fun x hx=>by have:=(h.ch.all x hx).2.2;omega⟩,h.lea.gw,h.mb,h.he.all,h.lea.tr,h.pl.all,h.me.all,fun x hx=>⟨(h.ch.all x hx).1,(h.ch.all x hx).2.1⟩,by omega,by omega,by omega,by omega,by omega,h.lea.tt,h.lea.tm⟩
def g0L:LeagueS:=⟨[],[],[],[],[⟨[115,97],[[103,107]]⟩],⟨3,0,5,0⟩,[[116,97],[116,98]],[],[],[],0⟩
theorem g0_b:LeaB g0L:=
 ⟨by decide,fun _ h=>(by cases h),fun _ h=>(by cases h),by decide,by decide,by decide,fun _ h=>(by cases h),by decide,fun x hx=>(by simp only [g0L,List.mem_singleton] at hx;subst hx;decide),by decide,by decide,fun _ h=>(by cases h),by decide,by decide,by decide⟩
theorem g0_E:zcu g0L=0:=by decide
end
section
open Go
theorem zf7: ∀{l:List Int},orI l=0->∀x∈l,x=0
 |[],_,x,h=>by cases h
 |y::r,h,x,hx=>by
   unfold orI at h
   by_cases e:y≠0
   rw [if_pos e] at h;exact absurd h e;rw [if_neg e] at h
   rcases List.mem_cons.1 hx with rfl|q
   exact Decidable.not_not.1 e;exact zf7 h x q
theorem zrs {g:LeagueS} (h:zcu g=0):zic g=0:=by
 unfold zcu at h
 by_cases e:zic g≠0
 rw [if_pos e] at h;exact h;exact Decidable.not_not.1 e
theorem zqS {b:BookS} (h:zdt b=0):zcu b.League=0/\orI [zgv b.Moves,zcj b.Plays,zbH b.Mends,zsy b.League.Players b.Health,zsr b.League.Teams b.League.Slots.length b.Choices]=0:=by
 unfold zdt at h
 by_cases e:zcu b.League≠0
 rw [if_pos e] at h;exact absurd h e;rw [if_neg e] at h;exact ⟨Decidable.not_not.1 e,h⟩
structure BookF (b:BookS):Prop where
 bo:zdZ b.League.Bounds=0
 mo:zgv b.Moves=0
 ps:b.League.Players.length<=500
 ky: ∀p∈b.League.Players,key p.Key=true
theorem zyP {b:BookS} (h:zdt b=0):BookF b:=by
 obtain ⟨h1,h2⟩:=zqS h;have h3:=zf7 (zrs h1);have h4:zkX b.League.Players b.League.Stints=0:=h3 _ (by simp);have h5:zcP b.League.Players=0:=by
  unfold zkX at h4
  by_cases e:zcP b.League.Players≠0
  rw [if_pos e] at h4;exact h4;exact Decidable.not_not.1 e
 obtain ⟨h6,h7⟩:=zfS h5;refine ⟨h3 _ (by simp),zf7 h2 _ (by simp),h6,fun p hp=> ?_⟩
 obtain ⟨i,hi,rfl⟩:=AS hp;have:=h7 i _ (Aa hi);unfold zcS at this
 by_cases e:key b.League.Players[i].Key=false
 rw [if_pos e] at this;cases this
 simpa using e
abbrev zG7 (b:BookS):List Str:=b.League.Players.map (·.Key)
def mfE (b:BookS) (n:Int):Int:=if zdt b≠0 then zdt b else if zac n=false then 1 else 0
theorem BookF.fr {b:BookS} (h:BookF b) {n:Int} (hn:zac n=true):frE b.League.Bounds b.Moves (zG7 b) n=0:=by
 refine zCO (by simp [orI,h.bo,h.mo]) (by simp;exact h.ps) ?_ hn
 rw [BZ]
 intro s hs
 obtain ⟨p,hp,rfl⟩:=List.mem_map.1 hs;rw [h.ky p hp];simp
def g0B:BookS:=⟨g0L,[],[],[],[],[]⟩
theorem zCf:BookC g0B:=
 ⟨⟨g0_b,by decide,by decide,by decide,by decide,by decide,fun _ h=>(by cases h)⟩,fun _ h=>(by cases h),fun _ h=>(by cases h),fun _ h=>(by cases h),fun _ h=>(by cases h),fun _ h=>(by cases h),fun _ h=>(by cases h),fun _ h=>(by cases h),by decide,by decide,by decide,by decide,by decide,⟨by decide,by decide⟩,by decide⟩
theorem zCe:zdt g0B=0:=by
 unfold zdt;rw [show zcu g0B.League=0 from g0_E,if_neg (by decide)]
 decide
end
end Go.HL
namespace Go.Proofs.YtnfmbjchkjijpaaGreatDoor
set_option maxRecDepth 100000
set_option linter.unusedVariables false
set_option linter.unusedSimpArgs false
section
open Go.Proofs.Tryz
open Go.HL
theorem zmY [Tracks] {b:BookS} {n:Int} (hT:Tracks.on=false) (hb:BookC b):ConP prog 15 [.vptr (zb (zbp b)) 0,.int .i64 n] (.int .i64 (mfE b n)):=by
 refine uOb func15 ntmps15 ?_;refine gz5 ?_;refine dq ((by first|exact zw rfl|exact zl rfl)) ?_;refine dq (zax (h:=zbp b) zbo rfl rfl rfl rfl) ?_;refine dq (uCl ca48 rfl (zon (b:=b) hT hb.bb hb.hw)) ?_;refine gz8 ?_;refine uGr rfl (fun hc=>uCl zkE rfl zbD) ?_;refine gz3 ?_;refine uCo (fun h1=> ?_) fun h2=> ?_
 refine gz9 ?_;refine uRp ?_;unfold mfE
 simp_all
 refine gz7 ?_;refine uRp ?_;unfold mfE
 simp_all
end
end Go.Proofs.YtnfmbjchkjijpaaGreatDoor
namespace Go.HL
section
open Go
def zms (a b:List Str):Bool:=a.any fun s=>b.contains s
def zrp (team:Str) (w at' before:Int) (x:ChoiceS):Bool:=((x.Team==team&&x.Week==w)&&decide (x.At<=at'))&&decide (x.At<before)
def zpr (team:Str) (w at' before:Int) (o:Option ChoiceS):List ChoiceS->Option ChoiceS
 |[]=>o
 |x::r=>zpr team w at' before (if zrp team w at' before x=true then some x else o) r
def zxO (l:List ChoiceS) (team:Str) (w at' before:Int):Option ChoiceS:=zpr team w at' before none l
theorem zxN {team:Str} {w at' before:Int} {o:Option ChoiceS} {l:List ChoiceS} {c:ChoiceS} (h:zpr team w at' before o l=some c):o=some c\/c∈l/\zrp team w at' before c=true:=by
 induction l generalizing o with
 |nil=>exact .inl h
 |cons y r ih=>
   rcases ih h with q|⟨q1,q2⟩
   by_cases e:zrp team w at' before y=true
   rw [if_pos e] at q;cases q;exact .inr ⟨Al,e⟩;rw [if_neg e] at q;exact .inl q;exact .inr ⟨Ao _ q1,q2⟩
end
section
open Go
theorem zHq {L:List PlayerS} {s:Str} (hs:SortedS (L.map (·.Key))) (h:(L.map (·.Key)).contains s=true):
 ∃p,L[zck (L.map (·.Key)) s]? =some p/\p.Key=s/\L.find? (fun p=>p.Key==s)=some p:=by
 obtain ⟨h1,h2⟩:=zw6 hs h;have hl:zck (L.map (·.Key)) s<L.length:=by simpa using zm h1
 refine ⟨L[zck (L.map (·.Key)) s],Aa hl,?_,?_⟩
 rw [Ah,Aa hl] at h1
 simpa using h1
 rw [List.find?_eq_some_iff_getElem];refine ⟨?_,_,hl,rfl,fun j hj=> ?_⟩
 rw [Ah,Aa hl] at h1
 simpa using h1
 have:=h2 j (L[j]'(by omega)).Key hj (by rw [Ah,Aa (by omega)];rfl)
 simpa using this
theorem zw3 {L:List PlayerS} {s:Str} (h:(L.map (·.Key)).contains s=false):L.find? (fun p=>p.Key==s)=none:=by
 rw [List.find?_eq_none]
 intro p hp q
 have:(L.map (·.Key)).contains s=true:=by
  simp only [BJ,decide_eq_true_eq];exact List.mem_map.2 ⟨p,hp,by simpa using q⟩
 rw [h] at this;cases this
abbrev plO (L:List PlayerS) (s:Str):Option PlayerS:=L.find? (fun p=>p.Key==s)
abbrev pPl (o:Option PlayerS):HVal:=zpb (o.map fun p=>zb (ze7 p))
abbrev pCh (o:Option ChoiceS):HVal:=zpb (o.map fun c=>zb (zaq c))
abbrev zxT (t:Str) (p h:List Str):HVal:= .agg [.str t,eSs p,eSs h]
abbrev zf4 (b:BookS) (n:Int):HVal:= .agg [.vptr (zb (zbp b)) 0,.int .i64 n]
structure BookW (b:BookS):Prop where
 f:BookF b
 st:zkX b.League.Players b.League.Stints=0
 fx:zjs b.League.Fixtures=0
 he:zoX b.League.Players b.Health=0
 py:zcP b.League.Players=0
 so:SortedS (b.League.Players.map (·.Key))
 ch: ∀c∈b.Choices,c.Players.length=b.League.Slots.length/\za4 c.Week=true/\zac c.At=true
 tm: ∀t,b.League.Teams.contains t=true->key t=true
 sl:b.League.Slots.length<=12
theorem zCG {T:List Str} {n:Nat} {l:List ChoiceS} (h:zsr T n l=0) {c:ChoiceS} (hc:c∈l):c.Players.length=n/\za4 c.Week=true/\zac c.At=true:=by
 obtain ⟨_,h2⟩:=zfS h;obtain ⟨i,hi,rfl⟩:=AS hc;have:=h2 i _ (Aa hi);unfold zcc at this
 split at this
 omega
 split at this
 omega
 split at this
 omega
 rename_i h3 h4
 rw [not_or] at h3;exact ⟨Decidable.not_not.1 h4,by simpa using h3.1,by simpa using h3.2⟩
theorem zDR {b:BookS} (h:zdt b=0):BookW b:=by
 obtain ⟨h1,h2⟩:=zqS h;have h3:=zf7 (zrs h1);have h4:zkX b.League.Players b.League.Stints=0:=h3 _ (by simp);have h5:zcP b.League.Players=0:=by
  unfold zkX at h4
  by_cases e:zcP b.League.Players≠0
  rw [if_pos e] at h4;exact h4;exact Decidable.not_not.1 e
 have h6:zc7 b.League.Teams b.League.Games=0:=h3 _ (by simp);have h7:zdr b.League.Teams=0:=by
  unfold zc7 at h6
  by_cases e:zdr b.League.Teams≠0
  rw [if_pos e] at h6;exact h6;exact Decidable.not_not.1 e
 have h8:zdV b.League.Teams=0:=by
  unfold zdr at h7
  split at h7
  cases h7
  split at h7
  cases h7
  exact h7
 have h9:zdK b.League.Slots=0:=h3 _ (by simp);have h10:zsr b.League.Teams b.League.Slots.length b.Choices=0:=zf7 h2 _ (by simp);refine ⟨zyP h,h4,h3 _ (by simp),?_,h5,znp h5,fun c hc=>zCG h10 hc,fun t ht=>zpf _ 0 h8 t (by simpa using ht),?_⟩
 unfold zoX;rw [if_neg (fun q=>q h5)];exact zf7 h2 _ (by simp);unfold zdK at h9
 split at h9
 cases h9
 split at h9
 cases h9
 omega
end
end Go.HL
namespace Go.Proofs.YtnfmbjchkjijpaaGreatDoor
set_option maxRecDepth 100000
set_option linter.unusedVariables false
set_option linter.unusedSimpArgs false
section
open Go.Proofs.Tryz
open Go.HL
theorem zqU [Tracks] {s:Str} {l:List Str} (hl:l.length<=1000000):ConP prog 319 [.str s,.vptr [eSs l] 0] (.bool (l.contains s)):=by
 refine uOb func319 ntmps319 ?_;refine gz4 ?_;refine dq (zJ (h:=eSs l) zp rfl rfl rfl) ?_;refine gz1 ?_;refine dq (uCl zh9 rfl (zO uS)) ?_;refine gz3 ?_;refine zt rfl ?_
 rfl
theorem zjq [Tracks] {a b:List Str} (ha:a.length<=1000000) (hb:b.length<=1000000):ConP prog 263 [eSs a,eSs b] (.bool (zms a b)):=by
 refine uOb func263 ntmps263 ?_;refine gz7 ?_;refine dq (uCl zBB rfl (zgI (l:=a) (p:=fun s=>b.contains s) zGx (fun _=>zqU hb) ha)) ?_;refine gz3 ?_;refine zt rfl ?_
 rfl
theorem zm3 [Tracks] {kb pb hb ob db ab:Nat} {b:BoundS} {k:RosS} {t:Str} (hP: ∀t,(rPl k t).length<=1000000) (hH: ∀t,(rHu k t).length<=1000000):Con prog 315 [.raw (.pointer (some ⟨kb,0,none⟩)),.str t] (zdC kb pb hb ob db ab b k) (fun x1 M'=>x1=zxT t (rPl k t) (rHu k t)/\M'=[]):=by
 refine za5 func315 rfl ntmps315 rfl rfl ?_;refine gz1 ?_;refine de rfl (zj zir rfl fun b4=> ?_)
 refine gz1 ?_;refine zbb (fun M=>M=(.cells b4 [.str [],.raw (.slice none 0 0),.raw (.slice none 0 0)]::(zdC kb pb hb ob db ab b k))) [4,6,11,13] mixed ?_;refine gz2 ?_;refine uB 2 rfl ((by first|exact zw rfl|exact zl rfl)) ?_;refine gz1 ?_;refine uM 4 rfl rfl (fun M hM=>by subst hM;exact zar (i:=1) zdL rfl rfl (.inl ⟨rfl,rfl⟩) ⟨rfl,rfl⟩) ?_;refine gz1 ?_;refine uM 6 rfl rfl (fun M hM=>by subst hM;exact zfR (i:=2) (f:=eSs) (z0:=([]:List Str)) zdL ty9 zp rfl rfl rfl (zM 1) ⟨rfl,rfl⟩) ?_;refine uA 8 ?_;refine uB 9 rfl ((by first|exact zw rfl|exact zl rfl)) ?_;refine gz1 ?_;refine uM 11 rfl rfl (fun M hM=>by subst hM;exact zar (i:=1) zdL rfl rfl (.inl ⟨rfl,rfl⟩) ⟨rfl,rfl⟩) ?_;refine gz1 ?_;refine uM 13 rfl rfl (fun M hM=>by subst hM;exact zfR (i:=3) (f:=eSs) (z0:=([]:List Str)) zdL ty9 zp rfl rfl rfl (zM 1) ⟨rfl,rfl⟩) ?_;refine uF 7 ?_;refine zx rfl (zqL (uCa zkD rfl (zaf (l:=rPl k t) (hP t)) fun v=>⟨v,rfl,rfl⟩) ?_)
 refine ⟨fun _=> .inl rfl,?_⟩
 refine uF 14 ?_;refine zx rfl (zqL (uCa zkD rfl (zaf (l:=rHu k t) (hH t)) fun v=>⟨v,rfl,rfl⟩) ?_)
 refine ⟨fun _=> .inl rfl,?_⟩
 refine uB 15 rfl (zF (cs:=[_,_,_]) zir zHo rfl) ?_;refine uF 16 ?_;refine zy (zn (h:=zxT t (rPl k t) (rHu k t)) zir rfl rfl rfl rfl rfl ?_)
 refine ⟨uE,?_⟩
 refine gz2 ?_;exact ⟨_,_,(zbC 4 (i:=0) rfl rfl).trans Ghost.clear,[_],_,⟨⟨_,_,_,_,_,rfl,zir,.inr ⟨rfl,rfl,rfl⟩⟩,trivial⟩,Weak.refl _,rfl,rfl⟩
theorem zwb [Tracks] {b:BoundS} {l:List MoveS} {t:Str} {n:Int} (hl:l.length<=1000000) (hz:zlI b l t n=0):ConP prog 256 [zgo b,zcJ l,.str t,.int .i64 n] (.tup [zxT t (rPl (zho b l n) t) (rHu (zho b l n) t),.int .i64 0]):=by
 obtain ⟨hm0,hk0,hn0⟩:=zDQ hz;have hok:=zpC (b:=b) (n:=n) hm0;refine za5 func256 rfl ntmps256 rfl rfl ?_;refine gz2 ?_;refine de rfl (zj zir rfl fun b8=> ?_)
 refine gz8 ?_;refine dq (zY (h':= .int .i64 0) (uCl zGr rfl (zn1 (b:=b) (l:=l) (p:=t) (n:=n) hl)) (by rw [hz])) ?_;refine gz6 ?_;refine z7 rfl (fun h1=> ?_) (fun h1=> ?_)
 ·exfalso
  try simp at h1
  done
 ·try simp at h1
  refine gz6 ?_;refine de rfl (zaV (M1:=[]) (R:=[_]) zGs rfl (WeakL.refl _) (Ac _) (zwc (b:=b) (l:=l) (n:=n) hm0) ?_)
  rintro _ _ ⟨kb,pb,hb,ob,db,ab,rfl,rfl⟩;refine gz1 ?_;refine de rfl (zaV (M1:=(zdC kb pb hb ob db ab b (zho b l n))) (R:=[_]) zGt rfl (WeakL.refl _) (Ac _) (zm3 (t:=t) (fun t=>by have:=(hok.p t).2;omega) (fun t=>by have:=(hok.h t).2;omega)) ?_)
  rintro _ _ ⟨rfl,rfl⟩;refine de0 (zn (h:=zxT t (rPl (zho b l n) t) (rHu (zho b l n) t)) zir rfl rfl rfl rfl rfl ?_)
  refine gz3 ?_;exact ⟨_,_,zo 8 rfl,[_,_],_,⟨⟨_,_,_,_,_,rfl,zir,.inr ⟨rfl,rfl,rfl⟩⟩,⟨rfl,trivial⟩⟩,Weak.refl _,rfl,rfl⟩
theorem zmW [Tracks] {b:BookS} {n w f:Int} {t:Str} (hl:b.Choices.length<=1000000):ConP prog 194 [zf4 b n,.str t,.int .i64 w,.int .i64 f] (pCh (zxO b.Choices t w n f)):=by
 refine uOb func194 ntmps194 ?_;refine zay ?_;refine dq (zJ (h:= .vptr (zb (zbp b)) 0) zbJ rfl rfl rfl) ?_;refine dq ((by first|exact zw rfl|exact zl rfl)) ?_;refine gz1 ?_;refine dq (zJ (h:=zkJ b.Choices) zgA rfl rfl rfl) ?_;refine dq (zav (f:=zaq) (l:=b.Choices) zgA rfl) ?_;refine gz3 ?_;refine uU2 [9,3,18,43] (fun (k:Nat) (o:Option ChoiceS)=>[(18,.int .i64 k),(9,pCh o)]) (fun (k:Nat) (o:Option ChoiceS)=>[]) (fun (k:Nat) (o:Option ChoiceS)=>k<=b.Choices.length/\(zxO b.Choices t w n f=zpr t w n f o (b.Choices.drop k))) (fun (k:Nat) (o:Option ChoiceS)=>b.Choices.length-k) (0) (none) ?_ ?_;exact ⟨Ad _,rfl⟩;rintro k o ⟨hk,hg⟩;refine gz4 ?_;refine uCo (fun h1=> ?_) fun h2=> ?_
 obtain ⟨x,hx⟩: ∃x,b.Choices[k]? =some x:=⟨_,Aa h1⟩
 have hdx:=zg hx;rw [hdx] at hg;refine zay ?_;refine dq (zJ (h:= .vptr (zb (zbp b)) 0) zbJ rfl rfl rfl) ?_;refine dq ((by first|exact zw rfl|exact zl rfl)) ?_;refine gz1 ?_;refine dq (zJ (h:=zkJ b.Choices) zgA rfl rfl rfl) ?_;refine gz1 ?_;refine dq (zB (f:=zaq) (l:=b.Choices) (j:=k) (a:=x) zgA zeJ rfl rfl rfl hx) ?_;refine gz2 ?_;refine uDr mixed ?_;refine gz1 ?_;refine uB 1 rfl ((by first|exact zw rfl|exact zl rfl)) ?_;refine gz6 ?_;refine uGy 8 rfl rfl (fun hc=>(by first|exact zw rfl|exact zl rfl)) ?_;refine gz7 ?_;refine uGy 16 rfl rfl (fun hc=>(by first|exact zw rfl|exact zl rfl)) ?_;refine gz8 ?_;refine uGy 25 rfl rfl (fun hc=>(by first|exact zw rfl|exact zl rfl)) ?_;refine gz6 ?_;refine uCo (fun h3=> ?_) fun h4=> ?_
 refine zay ?_;exact ⟨k+1,some x,⟨by omega,by rw [hg,zpr,if_pos (by simp_all [zrp])]⟩,uD,⟨rfl,rfl,trivial⟩,uK,Ac _⟩;refine gz7 ?_;exact ⟨k+1,o,⟨by omega,by rw [hg,zpr,if_neg (by simp_all [zrp])]⟩,uD,⟨rfl,rfl,trivial⟩,uK,Ac _⟩;have hnk:b.Choices.length<=k:=by omega
 obtain rfl:k=b.Choices.length:=by omega
 rw [zC (Ae _)] at hg;refine gz2 ?_;refine zI ?_;refine gz7 ?_;refine zt rfl ?_;rw [hg];rfl
theorem zmX [Tracks] {x:PlayerS} {s:Str}:ConP prog 316 [ze7 x,.str s] (.int .i64 (zZ x.Key s)):=by
 refine uOb func316 ntmps316 ?_;refine gz8 ?_;refine dq (uCl zc3 rfl zN) ?_;refine gz3 ?_;refine zt rfl ?_
 rfl
theorem zoo [Tracks] {b:BookS} {n:Int} {s:Str} (hl:b.League.Players.length<=1000000) (hs:SortedS (b.League.Players.map (·.Key))):ConP prog 257 [zf4 b n,.str s] (pPl (plO b.League.Players s)):=by
 refine uOb func257 ntmps257 ?_;refine gz6 ?_;refine dq (zJ (h:= .vptr (zb (zbp b)) 0) zbJ rfl rfl rfl) ?_;refine dq ((by first|exact zw rfl|exact zl rfl)) ?_;refine gz2 ?_;refine dq (zJ (h:=zbm b.League.Players) znD rfl rfl rfl) ?_;refine gz5 ?_;refine dq (uCl zB7 rfl (zd2 (l:=b.League.Players) zGu (fun _=>zmX) hl hs)) ?_;refine zco ?_;refine uCo (fun h1=> ?_) fun h2=> ?_
 refine gz4 ?_;refine zt rfl ?_
 focus first
 |(rw [plO,hp3];rfl)
 |(rw [plO,zw3 uSa];rfl)
 refine gz2 ?_;obtain ⟨p,hp1,hp2,hp3⟩:=zHq hs (s:=s) uSa;refine gz3 ?_;refine dq (zB (f:=ze7) (l:=b.League.Players) (j:=zck (b.League.Players.map (·.Key)) s) (a:=p) znD ze2 rfl rfl rfl hp1) ?_;refine gz3 ?_;refine zt rfl ?_
 focus first
 |(rw [plO,hp3];rfl)
 |(rw [plO,zw3 uSa];rfl)
end
end Go.Proofs.YtnfmbjchkjijpaaGreatDoor
namespace Go.HL
section
structure OutS where
 Points:Int
 Weight:Int
abbrev most:Int:=1000000000000
end
section
abbrev NW:=List (Int×Int)
def one (p:Int×Int) (O:List OutS):NW:=O.map fun o=>(p.1+o.Points,p.2*o.Weight)
def tot:NW->Int
 |[]=>0
 |p::r=>p.2+tot r
def PosW (L:NW):Prop:= ∀p∈L,1<=p.2
theorem PosW.tot {L:NW} (h:PosW L):0<=tot L:=by
 induction L with
 |nil=>simp [HL.tot]
 |cons p L ih=>
   have:=ih fun q hq=>h q (Ao _ hq)
   have:=h p Al;simp only [HL.tot];omega
theorem PosW.le {L:NW} (h:PosW L) {p:Int×Int} (hp:p∈L):p.2<=HL.tot L:=by
 induction L with
 |nil=>cases hp
 |cons q L ih=>
   have hL:PosW L:=fun q hq=>h q (Ao _ hq)
   have h1:=hL.tot;have h2:=h q Al
   rcases List.mem_cons.1 hp with rfl|hp
   simp only [HL.tot];omega;have:=ih hL hp;simp only [HL.tot];omega
theorem PosW.alk {L:NW} (h:PosW L) (k:Int):0<=(alk k L).getD 0/\(alk k L).getD 0<=HL.tot L:=by
 cases hq:HL.alk k L with
 |none=>have:=h.tot;simp;omega
 |some v=>
   have hm:=zbR hq;have h1:=h _ hm;have h2:=h.le hm;simp only [B9];simp only at h1 h2
   omega
theorem PosW.one {p:Int×Int} (hp:1<=p.2) {O:List OutS} (hO: ∀y∈O,1<=y.Weight):PosW (HL.one p O):=fun q hq=>by
 obtain ⟨o,ho,rfl⟩:=List.mem_map.1 hq;have:=hO o ho;have:1*1<=p.2*o.Weight:=Int.mul_le_mul hp this (by decide) (by omega)
 dsimp only;omega
end
section
structure FracS where
 Num:Int
 Den:Int
abbrev ziT (x:FracS):HVal:= .agg [.int .i64 x.Num,.int .i64 x.Den]
def zfY (a b:Int):Int:=(Nat.gcd a.toNat b.toNat:Nat)
def zqB (n d:Int):FracS:=⟨n.tdiv (zfY (max n (-n)) d),d.tdiv (zfY (max n (-n)) d)⟩
theorem zAw {a b:Int} (ha:0<=a) (hb:0<b):zfY b (a.tmod b)=zfY a b:=by
 unfold zfY
 congr 1
 have e:(a.tmod b).toNat=a.toNat%b.toNat:=by
  rw [Int.tmod_eq_emod_of_nonneg ha];have h1:=Int.toNat_emod ha (by omega:0<=b);exact h1
 rw [e,Nat.gcd_comm b.toNat,<-Nat.gcd_rec,Nat.gcd_comm]
theorem zAv {a:Int} (ha:0<=a):zfY a 0=a:=by
 unfold zfY;simp;omega
theorem zwM {a b:Int} (hb:0<b):0<zfY a b:=by
 unfold zfY;have:=Nat.gcd_pos_of_pos_right a.toNat (n:=b.toNat) (by omega)
 omega
end
section
def PosO (Y:List OutS):Prop:= ∀q∈Y,1<=q.Weight
theorem PosO.take {Y:List OutS} (h:PosO Y) (k:Nat):PosO (Y.take k):=fun x hx=>h x (AJ hx)
def IncO (Y:List OutS):Prop:=Y.Pairwise fun a b=>a.Points<b.Points
theorem IncO.drop {Y:List OutS} (h:IncO Y) {i:Nat} {n:Int} {q:OutS} (hq:Y[i]? =some q) (hn:n<=q.Points): ∀x∈Y.drop i,n<=x.Points:=by
 intro x hx
 have hi:i<Y.length:=(List.getElem?_eq_some_iff.1 hq).1;have he:Y[i]=q:=(List.getElem?_eq_some_iff.1 hq).2;rw [BK hi,he] at hx
 rcases List.mem_cons.1 hx with rfl|hx
 exact hn;have hp:(Y.drop i).Pairwise fun a b=>a.Points<b.Points:=Cu (List.drop_sublist i Y) h
 rw [BK hi,he] at hp;have:=(List.pairwise_cons.1 hp).1 x hx
 omega
end
section

end
section
theorem zx0 {a b:Int} (hb:0<=b):zfY a b∣b:=by
 have h:((Nat.gcd a.toNat b.toNat:Nat):Int)∣(b.toNat:Int):=Int.ofNat_dvd.2 (Nat.gcd_dvd_right _ _);rw [Int.toNat_of_nonneg hb] at h;exact h
theorem zxZ {a b:Int} (ha:0<=a):zfY a b∣a:=by
 have h:((Nat.gcd a.toNat b.toNat:Nat):Int)∣(a.toNat:Int):=Int.ofNat_dvd.2 (Nat.gcd_dvd_left _ _);rw [Int.toNat_of_nonneg ha] at h;exact h
theorem zAP {w T:Int} (hT:0<T): ∃g,0<g/\w=(zqB w T).Num*g/\T=(zqB w T).Den*g/\0<(zqB w T).Den:=by
 have hg:=zwM (a:=max w (-w)) hT;have h1:zfY (max w (-w)) T∣T:=zx0 (by omega);have h2:zfY (max w (-w)) T∣w:=by
  have h:=zxZ (a:=max w (-w)) (b:=T) (by omega)
  by_cases c:0<=w
  have e:max w (-w)=w:=by omega
  rw [e] at h⊢;exact h;have e:max w (-w)= -w:=by omega
  rw [e] at h⊢;exact (Int.dvd_neg).1 h
 have e2:T=(zqB w T).Den*zfY (max w (-w)) T:=(Int.tdiv_mul_cancel h1).symm;refine ⟨_,hg,(Int.tdiv_mul_cancel h2).symm,e2,?_⟩
 refine Decidable.not_not.1 fun hn=> ?_
 have:(zqB w T).Den*zfY (max w (-w)) T<=0:=Int.mul_nonpos_of_nonpos_of_nonneg (by omega) (by omega)
 omega
end
section

end
section
theorem zwn {n:Int}:(if-n>n then-n else n)=max n (-n):=by split<;>omega
end
section

end
section

end
section

end
section

end
section

end
section

end
section

end
section
theorem zjm [Tracks] {rs:List ResultVar} {e e':Env} {M M':List MObj} {h h':HVal} {Q:HVal->List MObj->Prop} (hg:Ghost e M e' M') (hr:zjv e' rs=some h) (hw:Weak h h') (hh:Q h' M'):zkh rs Q .ret e M:=
 ⟨e',M',hg,h,h',hr,hw,hh⟩
end
section

end
section
section
variable {α:Type} (rB:Str->Bool) (rP:Str->α) (F:List α->Int) (W:α->List Str) (enc:α->HVal) (sz:Nat)
end
end
section

end
section

end
section
theorem zpa {m:List MendS} {week:Int} (h:zbH m=0):zbH (zgx m week)=0:=by
 obtain ⟨h1,h2,h3⟩:=zto h;have hl:=zkS m week;unfold zbH;rw [if_neg (by omega)];exact zrc zhI (fun x hx=>h2 x (List.mem_filter.1 hx).1) (h3.filter _) _ 0 rfl
theorem zqz {l:List Play} {t:List Str} {m:List MendS} {week n:Int} (hok: ∀x∈l,playFault x=0) (hl:l.length<=15) (hm:m.length<=24) (hw:za4 week=true) (hm0:zbH m=0):zaC (knL l t m week n)=0/\(knL l t m week n).length<=40/\∀y∈knL l t m week n,y.Stats.length<=40:=by
 unfold knL
 split
 exact ⟨rfl,by simp,fun y hy=>by cases hy⟩
 rename_i h0
 have h0':zid l t week n=0:=by simpa using h0
 have h40:=zqA (t:=t) (week:=week) (n:=n) hok hl hm;have h1:=zrw (zea l t week n) m n;have h2:=(zkQ (t:=t) (week:=week) (n:=n) hok hl).1;refine ⟨zzt (zl5 hok hl hw h0') hm0 h40 (by omega),by unfold mdL;rw [zaw,Af];omega,fun y hy=> ?_⟩
 unfold mdL at hy;rw [zeE] at hy;obtain ⟨q,hq,rfl⟩:=List.mem_map.1 hy;have:=h40 q hq
 show (zQ zbc q.2).length<=40
 rw [zaw];omega
end
section
open Go
structure WhS where
 team:Str
 hurt:Bool
 dropped:Int
structure OffS where
 W:List (Str×WhS)
 A:List (Str×List Int)
def wh0:WhS:=⟨[],false,-1⟩
def ofO (o:OffS) (p:Str):WhS:=(alk p o.W).getD wh0
def zBx (o:OffS) (t:Str):List Int:=(alk t o.A).getD []
end
section
open Go
structure OffW (n:Nat) (o:OffS):Prop where
 dr: ∀p,-1<=(ofO o p).dropped/\(ofO o p).dropped<=345686399999
 al: ∀t,(zBx o t).length<=n
 ab: ∀t,∀m∈zBx o t,0<=m/\m<=345686399999
 wl:o.W.length<=n
 nd:ANodup o.W
 ad:ANodup o.A
theorem OffW.mono {n m:Nat} {o:OffS} (h:OffW n o) (hm:n<=m):OffW m o:=⟨h.dr,fun t=>Ar (h.al t) hm,h.ab,Ar h.wl hm,h.nd,h.ad⟩
section
variable {e:Env} {β:Type} {eb:β->HVal}
end
end
section
open Go
end
section
open Go
end
section
open Go
end
section
open Go
section
variable {b:BookS} {own:List Str} {s:Str} {x:SlotS} {w:Int} {p:PlayerS}
variable {c:ChoiceS} {i:Nat} {v:Str}
end
end
section
open Go Op
structure ScorerS where
 Player:Str
 Positions:List Str
 Num:Int
 Den:Int
 Played:Bool
structure FillS where
 Slot:Str
 Player:Str
abbrev zcz (x:ScorerS):HVal:= .agg [.str x.Player,eSs x.Positions,.int .i64 x.Num,.int .i64 x.Den,.bool x.Played]
abbrev zfv (l:List ScorerS):HVal:= .slice 5 (l.map zcz)
abbrev zb9 (x:FillS):HVal:= .agg [.str x.Slot,.str x.Player]
abbrev zmt (l:List FillS):HVal:= .slice 2 (l.map zb9)
def zcD:ScorerS:=⟨[],[],0,0,false⟩
def zaJ (n d:Int):Int:=n*(100:Int).tdiv d
abbrev ofH (n:Int):FracS:=zqB n 100
theorem zw0 (n:Int): ∃g,1<=g/\n=(ofH n).Num*g/\100=(ofH n).Den*g/\1<=(ofH n).Den/\(100:Int).tdiv (ofH n).Den=g:=by
 obtain ⟨g,hg,e1,e2,h0⟩:=zAP (w:=n) (T:=100) (by decide);refine ⟨g,hg,e1,e2,h0,?_⟩
 conv=>lhs;rw [e2]
 exact Int.mul_tdiv_cancel_left g (by omega)
theorem zwZ (n:Int):zaJ (ofH n).Num (ofH n).Den=n:=by
 obtain ⟨g,_,e1,_,_,e2⟩:=zw0 n;unfold zaJ;rw [e2,<-e1]
theorem zCz {a g B:Int} (hg:1<=g) (h: -B<=a*g/\a*g<=B): -B<=a/\a<=B:=by
 by_cases c:0<=a
 have:=Bh hg c
 omega
 have:=Bh hg (show 0<= -a by omega);rw [Bs,Bs] at this
 omega
theorem zrF {n B:Int} (h: -B<=n/\n<=B):(1<=(ofH n).Den/\(ofH n).Den<=100)/\ -B<=(ofH n).Num/\(ofH n).Num<=B:=by
 obtain ⟨g,hg,e1,e2,h0,_⟩:=zw0 n;have h2:=zCz (a:=(ofH n).Num) hg (B:=B) (by rw [<-e1];exact h);have h3:=Bh hg (show 0<=(ofH n).Den by omega);exact ⟨⟨h0,by omega⟩,h2⟩
theorem zj5 {n d m:Int} (h:zbA n d m=0) (hm:0<=m):(1<=d/\d<=100)/\(0<=(100:Int).tdiv d/\(100:Int).tdiv d<=100)/\ -(m*100)<=zaJ n d/\zaJ n d<=m*100:=by
 unfold zbA at h
 split at h
 cases h
 rename_i h1
 rw [not_or] at h1
 split at h
 cases h
 rename_i h2
 rw [not_or] at h2;have hd:1<=d:=by omega
 have h3:(100:Int).tmod d=0:=Decidable.not_not.1 h2.1;have h4:out n (-m*d) (m*d)=false:=by simpa using h2.2
 have h5: -m*d<=n/\n<=m*d:=by
  have e0: -m*d= -(m*d):=Bs _ _;rw [e0] at h4⊢;unfold out at h4;simp at h4;omega
 have e:=Int.tdiv_mul_cancel_of_tmod_eq_zero h3;have hq:0<=(100:Int).tdiv d:=Cf (by decide) (by omega);have hq1:1<=(100:Int).tdiv d:=by
  refine Decidable.not_not.1 fun hn=> ?_
  have:(100:Int).tdiv d=0:=by omega
  rw [this] at e;simp at e
 have hq2:=Bh hd hq;have hd2:=BU hq1 (show 0<=d by omega);have h6:=BU h5.1 hq;have h7:=BU h5.2 hq;have e2:m*d*(100:Int).tdiv d=m*100:=by rw [Int.mul_assoc,Int.mul_comm d,e]
 have e3: -m*d*(100:Int).tdiv d= -(m*100):=by rw [Bs,Bs,e2]
 rw [e2] at h7;rw [e3] at h6;refine ⟨⟨hd,by omega⟩,⟨hq,by omega⟩,?_⟩
 unfold zaJ;exact ⟨h6,h7⟩
/-! what rules give-/
def zdw (s:Str) (n:Int):List StatS->Int
 |[]=>n
 |y::r=>zdw s (if y.Name=s then y.Count else n) r
def zhA (r:RuleS) (pos:List Str) (x:LineS):Int:=
 if r.Position≠[]/\zms [r.Position] pos=false then 0
 else if r.Kind=1 then zaJ r.Num r.Den*zdw r.Stat 0 x.Stats
 else if r.Kind=2 then zaJ r.Num r.Den*(max (zdw r.Stat 0 x.Stats) 0).tdiv r.Many
 else if (r.Kind=3/\r.Many<=zdw r.Stat 0 x.Stats)\/(r.Kind=4/\zdw r.Stat 0 x.Stats=0) then zaJ r.Num r.Den else 0
def zhC (R:List RuleS) (pos:List Str) (x:LineS):Int:=(R.map fun r=>zhA r pos x).sum
structure RuleOk (r:RuleS):Prop where
 kd:1<=r.Kind/\r.Kind<=4
 mm:r.Kind=2->1<=r.Many/\r.Many<=100000
 dn:1<=r.Den/\r.Den<=100
 q:0<=(100:Int).tdiv r.Den/\(100:Int).tdiv r.Den<=100
 w: -1000000<=zaJ r.Num r.Den/\zaJ r.Num r.Den<=1000000
theorem zzO {R:List RuleS} (h:zg5 R=0):R.length<=100/\∀r∈R,RuleOk r:=by
 obtain ⟨h1,h2⟩:=zfS h;refine ⟨h1,fun r hr=> ?_⟩
 obtain ⟨i,hi,rfl⟩:=AS hr;have h3:=h2 i _ (Aa hi);unfold zef at h3
 split at h3
 cases h3
 split at h3
 cases h3
 split at h3
 cases h3
 rename_i h4
 split at h3
 cases h3
 rename_i h5
 rw [not_or] at h5;have h6:=zj5 h3 (by decide);have h7:1<=R[i].Kind/\R[i].Kind<=4:=by unfold out at h4;simp at h4;omega
 refine ⟨h7,fun e=> ?_,h6.1,h6.2.1,h6.2.2⟩
 have h8:zrv R[i].Kind=true:=by rw [e];rfl
 have h9:out R[i].Many 1 100000=false:=by
  cases hq:out R[i].Many 1 100000 with
  |false=>rfl
  |true=>exact absurd ⟨h8,hq⟩ h5.1
 unfold out at h9;simp at h9;omega
theorem zwE (s:Str): ∀(l:List StatS) (n:Int),(∀y∈l,-100000<=y.Count/\y.Count<=100000)->(-100000<=n/\n<=100000)-> -100000<=zdw s n l/\zdw s n l<=100000
 |[],n,_,h=>h
 |y::r,n,hl,h=>by
   refine zwE s r _ (fun z hz=>hl z (Ao _ hz)) ?_
   split
   exact hl y Al;exact h
theorem zyX {s:Str} {l:List StatS} {k:Nat} {n:Int} {y:StatS} (h:l[k]? =some y):zdw s n (l.drop k)=zdw s (if y.Name=s then y.Count else n) (l.drop (k+1)):=by
 rw [zg h];rfl
theorem zwX {a b A B:Int} (ha: -A<=a/\a<=A) (hb: -B<=b/\b<=B) (hA:0<=A) (hB:0<=B): -(A*B)<=a*b/\a*b<=A*B:=by
 have key: ∀x y:Int,0<=x->x<=A->0<=y->y<=B->0<=x*y/\x*y<=A*B:=fun x y h1 h2 h3 h4=>⟨Int.mul_nonneg h1 h3,Int.mul_le_mul h2 h4 h3 hA⟩
 by_cases c:0<=a<;>by_cases d:0<=b
 have:=key a b c ha.2 d hb.2;omega;have:=key a (-b) c ha.2 (by omega) (by omega);rw [Int.mul_neg] at this;omega;have:=key (-a) b (by omega) (by omega) d hb.2;rw [Bs] at this;omega;have:=key (-a) (-b) (by omega) (by omega) (by omega) (by omega);rw [Int.neg_mul_neg] at this;omega
theorem zDN {a b:Int} (ha:0<=a) (hb:1<=b):0<=a.tdiv b/\a.tdiv b<=a:=by
 refine ⟨Cf ha (by omega),?_⟩
 have h:=Cf ha (show 0<=b by omega);have h1:=Bh hb h;have h2:=Int.mul_tdiv_add_tmod a b;have h3:=Cv b ha;rw [Int.mul_comm b] at h2
 omega
def zlk (x:LineS):Prop:= ∀y∈x.Stats,-100000<=y.Count/\y.Count<=100000
theorem zs6 {r:RuleS} (hr:RuleOk r) {x:LineS} (hx:zlk x):(-100000<=zdw r.Stat 0 x.Stats/\zdw r.Stat 0 x.Stats<=100000)/\(-100000000000<=zaJ r.Num r.Den*zdw r.Stat 0 x.Stats/\zaJ r.Num r.Den*zdw r.Stat 0 x.Stats<=100000000000)/\
 (r.Kind=2->(0<=(max (zdw r.Stat 0 x.Stats) 0).tdiv r.Many/\(max (zdw r.Stat 0 x.Stats) 0).tdiv r.Many<=100000)/\ -100000000000<=zaJ r.Num r.Den*(max (zdw r.Stat 0 x.Stats) 0).tdiv r.Many/\zaJ r.Num r.Den*(max (zdw r.Stat 0 x.Stats) 0).tdiv r.Many<=100000000000):=by
 have h1:=zwE r.Stat x.Stats 0 hx (by omega);have h2:=zwX hr.w h1 (by decide) (by decide);refine ⟨h1,by omega,fun e=> ?_⟩
 have h3:=zDN (a:=max (zdw r.Stat 0 x.Stats) 0) (by omega) (hr.mm e).1;have h4:0<=(max (zdw r.Stat 0 x.Stats) 0).tdiv r.Many/\(max (zdw r.Stat 0 x.Stats) 0).tdiv r.Many<=100000:=by omega
 have h5:=zwX hr.w (b:=(max (zdw r.Stat 0 x.Stats) 0).tdiv r.Many) (B:=100000) (by omega) (by decide) (by decide);exact ⟨h4,by omega⟩
theorem zD2 {r:RuleS} (hr:RuleOk r) {x:LineS} (hx:zlk x) (pos:List Str): -100000000000<=zhA r pos x/\zhA r pos x<=100000000000:=by
 obtain ⟨h1,h2,h3⟩:=zs6 hr hx;have h4:=hr.w;unfold zhA
 split
 omega
 split
 exact h2
 split
 rename_i e;exact (h3 e).2
 split<;>omega
theorem zxk {l:List Int} {B:Int} (h: ∀x∈l,-B<=x/\x<=B) (hB:0<=B): -(B*l.length)<=l.sum/\l.sum<=B*l.length:=by
 induction l with
 |nil=>simp
 |cons x r ih=>
   have h1:=h x Al;have h2:=ih fun y hy=>h y (Ao _ hy)
   rw [List.sum_cons,Aj];have e:B*((r.length+1:Nat):Int)=B*r.length+B:=by rw [Int.natCast_add,Int.mul_add];simp
   rw [e];omega
theorem zvI {R:List RuleS} {pos:List Str} {x:LineS} {k:Nat} {r:RuleS} (h:R[k]? =some r):zhC (R.take (k+1)) pos x=zhC (R.take k) pos x+zhA r pos x:=by
 unfold zhC;rw [zR h];simp
theorem zrL {R:List RuleS} (hl:R.length<=100) (hR: ∀r∈R,RuleOk r) {x:LineS} (hx:zlk x) (pos:List Str) (k:Nat): -10000000000000<=zhC (R.take k) pos x/\zhC (R.take k) pos x<=10000000000000:=by
 have h:=zxk (l:=(R.take k).map fun r=>zhA r pos x) (B:=100000000000) (fun y hy=>by
  obtain ⟨r,hr,rfl⟩:=List.mem_map.1 hy;exact zD2 (hR r (AJ hr)) hx pos) (by decide)
 have h2:((R.take k).map fun r=>zhA r pos x).length<=100:=by rw [Af,Am];omega
 unfold zhC
 omega
theorem zzG {l:List Str} (h:zdq l=0):l.length<=10/\zdV l=0:=by
 unfold zdq at h
 split at h
 cases h
 split at h
 cases h
 exact ⟨by omega,h⟩
/-! right lines-/
structure LineOk (x:LineS):Prop where
 ky:key x.Player=true
 wk:za4 x.Week=true
 st:za7 x.Stats=0
theorem zwU {l:List LineS} (h:zaC l=0) {x:LineS} (hx:x∈l):LineOk x:=by
 obtain ⟨h1,h2,h3⟩:=zfc.1 ((zgR h).2.1 x hx);exact ⟨h1,h2,h3⟩
theorem LineOk.len {x:LineS} (h:LineOk x):x.Stats.length<=40:=by
 have:=h.st;unfold za7 at this;split at this
 cases this
 omega
theorem LineOk.go {x:LineS} (h:LineOk x):zaW zal zbc zei x.Stats 0 x.Stats=0:=by
 have:=h.st;unfold za7 at this;split at this
 cases this
 exact this
theorem LineOk.sb {x:LineS} (h:LineOk x):zlk x:=fun y hy=>(zff.1 (zhP x.Stats 0 h.go y hy)).2.1
theorem zAM {a b:Str} (h:bytesLess a b=true):leB b a=false:=by
 unfold leB;rw [Bc];refine ⟨?_,?_⟩
 cases e:bytesLess b a with
 |false=>rfl
 |true=>have:=zhR.2 h;have h2:=zhR.2 e;have h3:=zfk a b;omega
 cases e:(b==a) with
 |false=>rfl
 |true=>
   have e2:b=a:=eq_of_beq e;rw [e2,zaz] at h;cases h
theorem LineOk.at {x:LineS} (h:LineOk x) {k:Nat} {y:StatS} (hy:x.Stats[k]? =some y):key y.Name=true/\(-100000<=y.Count/\y.Count<=100000)/\(0<k->leB y.Name (x.Stats.getD (k-1) zei).Name=false):=by
 have h1:=zff.1 (zhP x.Stats 0 h.go y (Ab hy));refine ⟨h1.1,h1.2.1,fun hk=> ?_⟩
 have hlt:=zm hy;have h2:=(List.pairwise_iff_getElem.1 (zjN zdv h.go)) (k-1) k (by omega) hlt (by omega);rw [Aa hlt,Az] at hy;rw [hy] at h2;have e:x.Stats.getD (k-1) zei=x.Stats[k-1]'(by omega):=by rw [Ag,Aa (by omega)];rfl
 rw [e];exact zAM (zhR.1 h2)
theorem zAS {n:Int}:(if 0>n then 0 else n)=max n 0:=by split<;>omega
end
section
open Go Op
def zbM (k:Nat) (x p:ScorerS):Int:=if key x.Player=false then 5 else if 0<k/\leB x.Player p.Player=true then 7 else orI [zdq x.Positions,zbA x.Num x.Den 10000]
def ziM (l:List ScorerS):Int:=zen 20 zbM zcD l
structure ScoOk (l:List ScorerS):Prop where
 len:l.length<=20
 so:SortedS (l.map (·.Player))
 ky: ∀x∈l,key x.Player=true
 dn: ∀x∈l,1<=x.Den/\x.Den<=100
 q: ∀x∈l,0<=(100:Int).tdiv x.Den/\(100:Int).tdiv x.Den<=100
 w: ∀x∈l,-1000000<=zaJ x.Num x.Den/\zaJ x.Num x.Den<=1000000
 po: ∀x∈l,x.Positions.length<=10
theorem zEv {l:List ScorerS} (h:ziM l=0):SortedS (l.map (·.Player)):=by
 obtain ⟨_,h2⟩:=zfS h;have nx: ∀(j:Nat) (x y:Str),(l.map (·.Player))[j]? =some x->(l.map (·.Player))[j+1]? =some y->bytesLess x y=true:=by
  intro j x y hx hy
  rw [Ah] at hx hy;obtain ⟨a,ha,rfl⟩:=Option.map_eq_some_iff.1 hx;obtain ⟨b,hb,rfl⟩:=Option.map_eq_some_iff.1 hy;have:=h2 (j+1) b hb;have ed:l.getD (j+1-1) zcD=a:=by rw [Nat.add_sub_cancel,Ag,ha];rfl
  rw [ed] at this;unfold zbM at this
  split at this
  omega
  split at this
  omega
  rename_i h3
  have h4:leB b.Player a.Player=false:=by
   cases e:leB b.Player a.Player with
   |false=>rfl
   |true=>exact absurd ⟨by omega,e⟩ h3
  unfold leB at h4;rw [Bc] at h4
  rcases zcf a.Player b.Player with q|q|q
  exact q;rw [q] at h4;simp at h4;rw [q] at h4;cases h4.1
 exact zmF nx
theorem zvQ {l:List ScorerS} (h:ziM l=0):ScoOk l:=by
 obtain ⟨h1,h2⟩:=zfS h;have key1: ∀x∈l,key x.Player=true/\zdq x.Positions=0/\zbA x.Num x.Den 10000=0:=fun x hx=>by
  obtain ⟨i,hi,rfl⟩:=AS hx;have h3:=h2 i _ (Aa hi);unfold zbM at h3
  split at h3
  cases h3
  rename_i h4
  split at h3
  cases h3
  have h5:=zf7 h3;exact ⟨by simpa using h4,h5 _ (by simp),h5 _ (by simp)⟩
 refine ⟨h1,zEv h,fun x hx=>(key1 x hx).1,fun x hx=>(zj5 (key1 x hx).2.2 (by decide)).1,fun x hx=>(zj5 (key1 x hx).2.2 (by decide)).2.1,fun x hx=>(zj5 (key1 x hx).2.2 (by decide)).2.2,fun x hx=> ?_⟩
 have h6:=(key1 x hx).2.1;unfold zdq at h6
 split at h6
 cases h6
 split at h6
 cases h6
 omega
theorem zyQ {l:List ScorerS} {s:Str} {i:Nat}:(bif decide ((i:Int)<(l.length:Int)) then zZ (l.getD i zcD).Player s==0 else false)=((l.map (·.Player))[i]? ==some s):=by
 by_cases h:i<l.length
 have h':(i:Int)<(l.length:Int):=by omega
 rw [Ah,getD_some (d:=zcD) h];simp only [h',decide_true,cond_true];rw [AF];simp [zbs];have h': ¬(i:Int)<(l.length:Int):=by omega
 rw [Ah,AC (by omega:l.length<=i)]
 simp [h']
/-! the scorer of a name-/
abbrev scO (l:List ScorerS) (s:Str):Option ScorerS:=l.find? (fun y=>y.Player==s)
theorem zCr {l:List ScorerS} {s:Str} (hs:SortedS (l.map (·.Player))) {y:ScorerS} (h:scO l s=some y):
 (l.map (·.Player)).contains s=true/\l[zck (l.map (·.Player)) s]? =some y:=by
 have hm:=Br h;have he:y.Player=s:=by have:=List.find?_some h;simpa using this
 have hc:(l.map (·.Player)).contains s=true:=by
  simp only [BJ,decide_eq_true_eq];exact List.mem_map.2 ⟨y,hm,he⟩
 refine ⟨hc,?_⟩
 obtain ⟨h1,h2⟩:=zw6 hs hc;have hl:zck (l.map (·.Player)) s<l.length:=by simpa using zm h1
 have h3:l.find? (fun y=>y.Player==s)=some (l[zck (l.map (·.Player)) s]):=by
  rw [List.find?_eq_some_iff_getElem];refine ⟨?_,_,hl,rfl,fun j hj=> ?_⟩
  rw [Ah,Aa hl] at h1
  simpa using h1
  have:=h2 j (l[j]'(by omega)).Player hj (by rw [Ah,Aa (by omega)];rfl)
  simpa using this
 rw [Aa hl];exact h3.symm.trans h
theorem zmC {l:List ScorerS} {s:Str} {y:ScorerS} (h:scO l s=some y):y∈l/\y.Player=s:=⟨Br h,by have:=List.find?_some h;simpa using this⟩
/-! who is fielded-/
abbrev zg8 (c:ChoiceS) (i:Nat):Str:=c.Players.getD i []
def okF (l:List ScorerS) (c:Option ChoiceS) (S:List SlotS) (seen:List Str) (i:Nat):Bool:=
 match c with
 |none=>false
 |some c=>match scO l (zg8 c i) with
   |none=>false
   |some y=> !(seen.contains (zg8 c i))&&zms y.Positions (S.getD i zfA).Positions
def znG (c:Option ChoiceS) (i:Nat):Str:=match c with|none=>[]|some c=>zg8 c i
def zcb (l:List ScorerS) (c:Option ChoiceS) (S:List SlotS):Nat->List FillS×List Str
 |0=>([],[])
 |n+1=>if okF l c S (zcb l c S n).2 n=true then ((zcb l c S n).1++[⟨(S.getD n zfA).Key,znG c n⟩],zci (znG c n) (zcb l c S n).2) else ((zcb l c S n).1++[⟨(S.getD n zfA).Key,[]⟩],(zcb l c S n).2)
abbrev zc6 (l:List ScorerS) (c:Option ChoiceS) (S:List SlotS) (n:Nat):List FillS:=(zcb l c S n).1
theorem zsw {l:List ScorerS} {c:Option ChoiceS} {S:List SlotS} {n:Nat} (h:okF l c S (zcb l c S n).2 n=true):zcb l c S (n+1)=((zcb l c S n).1++[⟨(S.getD n zfA).Key,znG c n⟩],zci (znG c n) (zcb l c S n).2):=by
 rw [zcb,if_pos h]
theorem zrk {l:List ScorerS} {c:Option ChoiceS} {S:List SlotS} {n:Nat} (h:okF l c S (zcb l c S n).2 n=false):zcb l c S (n+1)=((zcb l c S n).1++[⟨(S.getD n zfA).Key,[]⟩],(zcb l c S n).2):=by
 rw [zcb,if_neg (by rw [h];simp)]
theorem zfw (l:List ScorerS) (c:Option ChoiceS) (S:List SlotS): ∀n,(zc6 l c S n).length=n
 |0=>rfl
 |n+1=>by
   have ih:=zfw l c S n;unfold zc6 at ih⊢
   cases h:okF l c S (zcb l c S n).2 n with
   |true=>rw [zsw h];simp [ih]
   |false=>rw [zrk h];simp [ih]
theorem zAW {l:List ScorerS} {c:Option ChoiceS} {S:List SlotS} {seen:List Str} {i:Nat} (h:okF l c S seen i=true):
 ∃y,scO l (znG c i)=some y/\seen.contains (znG c i)=false/\zms y.Positions (S.getD i zfA).Positions=true:=by
 unfold okF at h
 cases c with
 |none=>cases h
 |some c=>
   dsimp only at h
   cases hs:scO l (zg8 c i) with
   |none=>rw [hs] at h;cases h
   |some y=>
     rw [hs] at h;simp only [Bi,BY] at h;exact ⟨y,hs,h.1,h.2⟩
theorem zAD (l:List ScorerS) (w:Str): ∃(z:Int) (i0:Nat),zW (fun x:ScorerS=>x.Player==w) l 0=z/\(0<=z->z=(i0:Int)/\l[i0]? =some (l.getD i0 zcD)/\scO l w=some (l.getD i0 zcD))/\(z<0->scO l w=none):=by
 by_cases h:0<=zW (fun x:ScorerS=>x.Player==w) l 0
 obtain ⟨i,x,e1,e2,e3⟩:=ztb h;have e4:l.getD i zcD=x:=by rw [Ag,e2];rfl
 exact ⟨_,i,rfl,fun _=>⟨e1,by rw [e4];exact e2,by rw [e4];exact e3⟩,fun q=>by omega⟩;exact ⟨_,0,rfl,fun q=>absurd q h,fun _=>zoZ (by omega)⟩
theorem zw1 {l:List ScorerS} {c:ChoiceS} {S:List SlotS} {seen:List Str} {i:Nat} {z:Int} {i0:Nat} (h2:0<=z->z=(i0:Int)/\l[i0]? =some (l.getD i0 zcD)/\scO l (zg8 c i)=some (l.getD i0 zcD)) (h3:z<0->scO l (zg8 c i)=none):
 okF l (some c) S seen i=(decide (0<=z)&&(!(seen.contains (zg8 c i))&&zms (l.getD i0 zcD).Positions (S.getD i zfA).Positions)):=by
 unfold okF
 by_cases h:0<=z
 dsimp only
 rw [(h2 h).2.2,decide_eq_true h];rfl
 dsimp only
 rw [h3 (by omega),decide_eq_false h];rfl
structure FillOk (l:List ScorerS) (S:List SlotS) (n:Nat) (f:List FillS):Prop where
 len:f.length=n
 key: ∀(k:Nat) (x:FillS),f[k]? =some x->x.Slot=(S.getD k zfA).Key
 who: ∀(k:Nat) (x:FillS),f[k]? =some x->x.Player≠[]->(f.take k).any (fun y=>y.Player==x.Player)=false/\∃y,scO l x.Player=some y/\zms y.Positions (S.getD k zfA).Positions=true
theorem zCL {l:List ScorerS} (c:Option ChoiceS) (S:List SlotS): ∀n,(∀s,s∈(zcb l c S n).2↔s≠[]/\∃x∈zc6 l c S n,x.Player=s)/\FillOk l S n (zc6 l c S n)\/∃y∈l,y.Player=[]:=by
 by_cases hne: ∃y∈l,y.Player=[]
 exact fun _=> .inr hne
 intro n
 left
 have hn: ∀y∈l,y.Player≠[]:=fun y hy e=>hne ⟨y,hy,e⟩
 induction n with
 |zero=>exact ⟨fun s=>by simp [zcb,zc6],⟨rfl,fun k x h=>by simp [zc6,zcb] at h,fun k x h=>by simp [zc6,zcb] at h⟩⟩
 |succ n ih=>
   obtain ⟨hs,hf⟩:=ih;have hlen:=hf.len
   cases h:okF l c S (zcb l c S n).2 n with
   |true=>
     obtain ⟨y,hy1,hy2,hy3⟩:=zAW h;have hw:znG c n≠[]:=fun e=>hn y (zmC hy1).1 ((zmC hy1).2.trans e)
     have hno:(zc6 l c S n).any (fun z=>z.Player==znG c n)=false:=by
      rw [BZ]
      intro z hz e
      have:znG c n∈(zcb l c S n).2:=(hs _).2 ⟨hw,z,hz,by simpa using e⟩;rw [BJ,decide_eq_false_iff_not] at hy2;exact hy2 this
     unfold zc6 at hno hlen⊢;rw [zsw h];refine ⟨fun s=> ?_,?_,?_,?_⟩
     dsimp only
     rw [zBm,hs s]
     constructor
     rintro (rfl|⟨a,x,hx,e⟩);exact ⟨hw,_,A8 _ (List.mem_singleton.2 rfl),rfl⟩;exact ⟨a,x,An _ hx,e⟩;rintro ⟨a,x,hx,e⟩
     rcases List.mem_append.1 hx with hx|hx
     exact .inr ⟨a,x,hx,e⟩;rw [List.mem_singleton.1 hx] at e;exact .inl e.symm;rw [Ax,hlen];rfl
     intro k x hx
     by_cases hk:k<n
     rw [Au (by omega)] at hx;exact hf.key k x hx;have:k=n:=by have:=zm hx;rw [Ax,hlen] at this;simp at this;omega
     subst this;rw [Ap (by omega),hlen,BB] at hx
     cases hx;rfl
     intro k x hx hp
     by_cases hk:k<n
     rw [Au (by omega)] at hx;rw [Bw (by omega)];exact hf.who k x hx hp;have:k=n:=by have:=zm hx;rw [Ax,hlen] at this;simp at this;omega
     subst this;rw [Ap (by omega),hlen,BB] at hx
     cases hx
     rw [Bw (by omega),A4 (by omega)];exact ⟨hno,y,hy1,hy3⟩
   |false=>
     unfold zc6 at hlen⊢;rw [zrk h];refine ⟨fun s=> ?_,?_,?_,?_⟩
     dsimp only
     rw [hs s]
     constructor
     rintro ⟨a,x,hx,e⟩;exact ⟨a,x,An _ hx,e⟩;rintro ⟨a,x,hx,e⟩
     rcases List.mem_append.1 hx with hx|hx
     exact ⟨a,x,hx,e⟩;rw [List.mem_singleton.1 hx] at e;exact absurd e.symm a;rw [Ax,hlen];rfl
     intro k x hx
     by_cases hk:k<n
     rw [Au (by omega)] at hx;exact hf.key k x hx;have:k=n:=by have:=zm hx;rw [Ax,hlen] at this;simp at this;omega
     subst this;rw [Ap (by omega),hlen,BB] at hx
     cases hx;rfl
     intro k x hx hp
     by_cases hk:k<n
     rw [Au (by omega)] at hx;rw [Bw (by omega)];exact hf.who k x hx hp;have:k=n:=by have:=zm hx;rw [Ax,hlen] at this;simp at this;omega
     subst this;rw [Ap (by omega),hlen,BB] at hx
     cases hx
     exact absurd rfl hp
theorem zDZ {l:List ScorerS} (h:ScoOk l) (c:Option ChoiceS) (S:List SlotS) (n:Nat):FillOk l S n (zc6 l c S n):=by
 rcases zCL (l:=l) c S n with q|⟨y,hy,e⟩
 exact q.2;exact absurd e (zD9 (h.ky y hy))
/-! captains and sums-/
def zoC (c:Option ChoiceS) (f:List FillS):Str:=
 match c with
 |none=>[]
 |some c=>if c.Captain≠[]/\f.any (fun x=>x.Player==c.Captain)=true then c.Captain else []
theorem zDS {c:Option ChoiceS} {f:List FillS} (h:zoC c f≠[]):f.any (fun x=>x.Player==zoC c f)=true:=by
 unfold zoC at h⊢
 cases c with
 |none=>exact absurd rfl h
 |some c=>
   dsimp only at h⊢
   split
   rename_i q;exact q.2
   rename_i q;rw [if_neg q] at h;exact absurd rfl h
def zqx (l:List ScorerS) (s:Str):Int:=((scO l s).map fun y=>zaJ y.Num y.Den).getD 0
def zmb (l:List ScorerS) (c:Str) (x:FillS):Int:=if x.Player=[] then 0 else if x.Player=c then zqx l x.Player*2 else zqx l x.Player
def sfL (l:List ScorerS) (f:List FillS) (c:Str):Int:=(f.map (zmb l c)).sum
theorem zsQ {l:List ScorerS} {f:List FillS} {c:Str} {k:Nat} {x:FillS} (h:f[k]? =some x):sfL l (f.take (k+1)) c=sfL l (f.take k) c+zmb l c x:=by
 unfold sfL;rw [zR h];simp
theorem zCS {l:List ScorerS} (h:ScoOk l) (s:Str): -1000000<=zqx l s/\zqx l s<=1000000:=by
 unfold zqx
 cases e:scO l s with
 |none=>simp
 |some y=>exact h.w y (zmC e).1
theorem zDL {l:List ScorerS} (h:ScoOk l) (c:Str) (x:FillS): -2000000<=zmb l c x/\zmb l c x<=2000000:=by
 have:=zCS h x.Player;unfold zmb
 split
 omega
 split<;>omega
theorem zys {l:List ScorerS} (h:ScoOk l) {f:List FillS} (hf:f.length<=12) (c:Str) (k:Nat): -24000000<=sfL l (f.take k) c/\sfL l (f.take k) c<=24000000:=by
 have h1:=zxk (l:=(f.take k).map (zmb l c)) (B:=2000000) (fun y hy=>by
  obtain ⟨x,_,rfl⟩:=List.mem_map.1 hy;exact zDL h c x) (by decide)
 have h2:((f.take k).map (zmb l c)).length<=12:=by rw [Af,Am];omega
 unfold sfL
 omega
end
section
section
variable {P:Program} {e:Env} {dst:Option Tmp} {ty:TypeId} {pos:String} {af:Array Edge} {g:Option (Nat×Bool)}
theorem zw4 [Tracks] {x y:Operand} {t t' el:TypeId} {size bytes:Nat} {zero:Value} {o:Option (List HVal)} (hf:Fits P t (.ptr el) size bytes zero) (hx:zi e x=some (zpb o)) (hy:zi e y=some (.raw (.pointer none))):
 POp P e ⟨dst,.binOp .neq t x y t',ty,pos,af,g⟩ (.bool (!o.isNone)):=
 zD fun I a w ho=>by
  have hv:=ho.one (x:=x) (by simp [Op.operands]) hx;have h2:=(ho.one (x:=y) (by simp [Op.operands]) hy).raw_inv
  cases o with
  |none=>
    have h1:=hv.raw_inv;refine ⟨_,?_,.bool _⟩
    simp [execOp,h1,h2,eqGuard,binOp,zfz hf.ptrD]
  |some cs=>
    obtain ⟨b,base,rc,el',fr,h1,h3,h4,h5⟩:=hv.vptr_inv;refine ⟨_,?_,.bool _⟩
    simp [execOp,h1,h2,eqGuard,binOp,zfz hf.ptrD]
end
theorem zxM (o:Option (List HVal)):zb (zpb o)=[zpb o]:=by cases o<;>rfl
theorem zy9 (o:Option (List HVal)):zat (zb (zpb o))=true:=by cases o<;>rfl
theorem zDi (o:Option (List HVal)):zeb 1 (zpb o)=true:=by cases o<;>rfl
end
end Go.HL
namespace Go.Proofs.YtnfmbjchkjijpaaGreatDoor
set_option maxRecDepth 100000
set_option linter.unusedVariables false
set_option linter.unusedSimpArgs false
section
open Go.Proofs.Tryz
open Go.HL
theorem zqW [Tracks] {n d:Int} (hn: -1000000000000000<=n/\n<=1000000000000000) (hd:1<=d/\d<=1000000000000):ConP prog 135 [.agg [.int .i64 n,.int .i64 d]] (.bool (znm n d)):=by
 refine uOb func135 ntmps135 ?_;refine gz4 ?_;refine uDr mixed ?_;refine gz2 ?_;refine uB 2 rfl (zY (zbO ty3 zpI rfl) (congrArg (HVal.int .u64) (zuA uO uO))) ?_;refine gz2 ?_;refine uB 5 rfl (zY (zbO ty3 zpI rfl) (congrArg (HVal.int .u64) (show IntKind.wrap .u64 d=((d.natAbs:Nat):Int) by rw [zuA uO uO,if_neg uO];omega))) ?_;refine gz3 ?_;refine uVj [3,1,11,5] (fun (z0:Unit)=>[(3,.int .u64 ((n.natAbs:Nat):Int))]) (fun (z0:Unit)=>[]) (fun (z0:Unit)=>True) ?_ ?_
 skip
 refine gz5 ?_;refine uCo (fun h1=> ?_) fun h2=> ?_
 refine gz2 ?_;refine dq (zY (zvH rfl) (congrArg (HVal.int .u64) (show IntKind.wrap .u64 (-(if n<0 then n+18446744073709551616 else n))=((n.natAbs:Nat):Int) by rw [if_pos (by assumption),zz1 uO uO];omega))) ?_;refine gz2 ?_;exact ⟨(),trivial,⟨rfl,trivial⟩,uK,Ac _⟩;refine gz1 ?_;exact ⟨(),trivial,⟨congrArg (fun q=>some (HVal.int .u64 q)) (show (if n<0 then n+18446744073709551616 else n)=((n.natAbs:Nat):Int) by rw [if_neg uO];omega),trivial⟩,uK,Ac _⟩
 intro z0 _
 refine gz2 ?_;refine uT2 [3,2,16,6] (fun a b=>[(3,.int .u64 ((a:Nat):Int)),(4,.int .u64 ((b:Nat):Int))]) (fun a b=>[]) (fun a b=>Nat.gcd a b=Nat.gcd n.natAbs d.natAbs) (fun a b=>b) (n.natAbs) (d.natAbs) ?_ ?_
 rfl
 intro a b hg
 refine gz5 ?_;refine uCo (fun h3=> ?_) fun h4=> ?_
 have hb0:0<b:=by omega
 refine gz3 ?_;refine zgC mixed ?_;refine gz3 ?_;refine uB 3 rfl (zY (zcT rfl rfl uO) (congrArg (HVal.int .u64) (zqH a b))) ?_;refine gz4 ?_;refine ⟨b,a%b,?_,?_,⟨rfl,rfl,trivial⟩,uK,Ac _⟩
 exact zoS.trans hg
 dsimp only;exact BW _ hb0
 obtain rfl:b=0:=by omega
 rw [Nat.gcd_zero_right] at hg;refine gz2 ?_;refine zI ?_;refine gz8 ?_;refine zt rfl ?_
 show HVal.bool _=_
 unfold znm;rw [<-hg]
 congr 1
 rw [AF]
 simp
 try omega
theorem zqT [Tracks] {n d most:Int} (hn: -1000000000000000<=n/\n<=1000000000000000) (hd: -1000000000<=d/\d<=1000000000) (hm:0<=most/\most<=1000000):ConP prog 64 [.agg [.int .i64 n,.int .i64 d],.int .i64 most] (.int .i64 (zbA n d most)):=by
 refine uOb func64 ntmps64 ?_;refine zc9 ?_;refine dg rfl rfl (fun hc=>by
  have hd1:1<=d:=by (have q:=hc;simp at q;omega)
  exact ⟨_,OpenTo.upd (t:=10) rfl uC (OpenTo.refl _),uCl zBE rfl (zqW (n:=n) (d:=d) uO uO)⟩) ?_
 refine gz4 ?_;refine uCo (fun h1=> ?_) fun h2=> ?_
 refine gz4 ?_;refine uRp ?_;unfold zbA
 focus first
 |(rw [if_pos uSa];done)
 |(rw [if_neg uSa,if_pos uSa];done)
 |(rw [if_neg uSa,if_neg uSa];done)
 have hd1:1<=d:=by (first|omega|(simp_all;omega))
 have hmd:=zrz (a:=most) (b:=d) (A:=1000000) (B:=1000000000) uO uO uO uO;have hmn: -most*d= -(most*d):=Bs _ _;refine gz3 ?_;refine dq (zcT rfl rfl uO) ?_;refine gz5 ?_;refine uGr rfl (fun hc=>by have hq:=hc;(try simp at hq);exact zjj rfl uO uO) ?_;refine gz2 ?_;refine uGr rfl (fun hc=>by have hq:=hc;(try simp at hq);exact zcA rfl rfl uO uO) ?_;refine gz3 ?_;refine uGr rfl (fun hc=>by have hq:=hc;(try simp at hq);exact zcA rfl rfl uO uO) ?_;refine uGr rfl (fun hc=>uCl zct rfl zai) ?_;refine gz3 ?_;refine uCo (fun h3=> ?_) fun h4=> ?_
 refine gz4 ?_;refine uRp ?_;unfold zbA
 focus first
 |(rw [if_pos uSa];done)
 |(rw [if_neg uSa,if_pos uSa];done)
 |(rw [if_neg uSa,if_neg uSa];done)
 refine gz7 ?_;refine uRp ?_;unfold zbA
 focus first
 |(rw [if_pos uSa];done)
 |(rw [if_neg uSa,if_pos uSa];done)
 |(rw [if_neg uSa,if_neg uSa];done)
theorem zxw [Tracks] {x y:Int} (hx:0<=x) (hy:0<=y):ConP prog 280 [.int .i64 x,.int .i64 y] (.int .i64 (zfY x y)):=by
 refine uOb func280 ntmps280 ?_;refine gz5 ?_;refine uU2 [0,2,5,6] (fun (a:Int) (b:Int)=>[(0,.int .i64 a),(1,.int .i64 b)]) (fun (a:Int) (b:Int)=>[]) (fun (a:Int) (b:Int)=>0<=a/\0<=b/\zfY a b=zfY x y) (fun (a:Int) (b:Int)=>b.toNat) (x) (y) ?_ ?_;exact ⟨hx,hy,rfl⟩;rintro a b ⟨ha,hb,hg⟩;refine gz5 ?_;refine uCo (fun h1=> ?_) fun h2=> ?_
 have hbn:b≠0:=by simpa using h1
 have hb0:0<b:=by omega
 have hm0:=Cv b ha;have hm1:=BV a hb0;refine gz3 ?_;refine zgC mixed ?_;refine gz3 ?_;refine uB 3 rfl (zcT rfl rfl uO) ?_;refine gz4 ?_;refine ⟨b,a.tmod b,?_,?_,⟨rfl,rfl,trivial⟩,uK,Ac _⟩
 exact ⟨hb,hm0,by rw [zAw ha hb0];exact hg⟩
 dsimp only;omega
 have hb0:b=0:=by simpa using h2
 subst hb0;rw [zAv ha] at hg;refine gz2 ?_;refine zI ?_;refine gz7 ?_;refine uRp ?_;rw [<-hg]
theorem zqV [Tracks] {n d:Int} (hn: -9000000000000000000<=n/\n<=9000000000000000000) (hd:0<d/\d<=9000000000000000000):ConP prog 213 [.int .i64 n,.int .i64 d] (ziT (zqB n d)):=by
 refine za5 func213 rfl ntmps213 rfl rfl ?_;refine gz1 ?_;refine de rfl (zj zaj rfl fun b4=> ?_)
 refine gz4 ?_;refine dq (zjj rfl uO uO) ?_;refine dq (zY (h':= .int .i64 (max n (-n))) (zpB rfl rfl) (congrArg (HVal.int .i64) zwn)) ?_;refine gz1 ?_;refine dq (uCl zGk rfl (zxw (x:=max n (-n)) (y:=d) uO uO)) ?_;refine gz2 ?_;have hgp:=zwM (a:=max n (-n)) hd.1;refine uDr mixed ?_;refine gz2 ?_;refine uB 2 rfl (zdS rfl rfl uO uO uO) ?_;refine gz2 ?_;refine uB 5 rfl (zdS rfl rfl uO uO uO) ?_;refine uB 6 rfl (zF (cs:=[_,_]) zaj zl8 rfl) ?_;refine uF 7 ?_;refine zy (zn zaj rfl rfl rfl rfl rfl ?_)
 refine ⟨uE,?_⟩
 refine gz2 ?_;refine ⟨_,_,zo 4 rfl,[_],_,⟨⟨_,_,_,_,_,rfl,zaj,.inr ⟨rfl,rfl,rfl⟩⟩,trivial⟩,Weak.refl _,?_,rfl⟩
 rfl
theorem zbu [Tracks] {n d:Int} (hd:1<=d/\d<=100) (hw: -1000000000000<=zaJ n d/\zaJ n d<=1000000000000):ConP prog 211 [.agg [.int .i64 n,.int .i64 d]] (.int .i64 (zaJ n d)):=by
 unfold zaJ at hw;refine uOb func211 ntmps211 ?_;refine gz4 ?_;refine uDr mixed ?_;refine gz4 ?_;refine uB 4 rfl (zdS rfl rfl uO uO uO) ?_;refine uB 5 rfl (zcA rfl rfl uO uO) ?_;refine gz3 ?_;refine zt rfl ?_
 rfl
theorem zed [Tracks] {n:Int} (hn: -1000000000000000<=n/\n<=1000000000000000):ConP prog 140 [.int .i64 n] (ziT (ofH n)):=by
 refine za5 func140 rfl ntmps140 rfl rfl ?_;refine gz1 ?_;refine de rfl (zj zaj rfl fun b2=> ?_)
 refine gz3 ?_;refine dq (uCl zFL rfl (zqV (n:=n) (d:=100) uO uO)) ?_
 focus first
 |refine de0 (uY 0 ?_)
 |refine de0 (uY 1 ?_)
 |refine de0 (uY 2 ?_)
 |refine de0 (uY 3 ?_)
 refine gz2 ?_;exact ⟨_,_,zo 2 rfl,[_],_,⟨⟨_,_,_,_,_,rfl,zaj,.inr ⟨rfl,rfl,rfl⟩⟩,trivial⟩,Weak.refl _,rfl,rfl⟩
theorem zpU [Tracks] {x:LineS} (hx:LineOk x):ConP prog 367 [zbT x] (.int .i64 0):=by
 have hln:=hx.len;have hky:=hx.ky;have hwk:=hx.wk;refine uOb func367 ntmps367 ?_;refine gz9 ?_;refine dq (uCl zbK rfl zak) ?_;refine gz3 ?_;refine z7 rfl (fun h1=> ?_) (fun h1=> ?_)
 exfalso
 try simp at h1
 simp_all
 try simp at h1
 refine gz3 ?_;refine dq (uCl zm7 rfl zdg) ?_;refine gz3 ?_;refine z7 rfl (fun h2=> ?_) (fun h2=> ?_)
 exfalso
 try simp at h2
 simp_all
 try simp at h2
 refine gz7 ?_;refine z7 rfl (fun h3=> ?_) (fun h3=> ?_)
 exfalso
 try simp at h3
 omega
 try simp at h3
 refine zco ?_;refine uT1 [2,3,23,30] (fun k=>[(23,.int .i64 k)]) (fun k=>[]) (fun k=>k<=x.Stats.length/\(True)) (fun k=>x.Stats.length-k) (0) ?_ ?_;exact ⟨Ad _,trivial⟩;rintro k ⟨hk,-⟩;refine gz4 ?_;refine uCo (fun h4=> ?_) fun h5=> ?_
 obtain ⟨y,hy⟩: ∃y,x.Stats[k]? =some y:=⟨_,Aa h4⟩
 have hdy:=zg hy;have hat:=hx.at hy;refine gz8 ?_;refine de rfl (zj zcl rfl fun b4=> ?_)
 refine gz1 ?_;refine de0 (zn zcl rfl rfl rfl rfl rfl ?_)
 refine gz1 ?_;refine ze (zo 4 rfl) ?_;refine gz4 ?_;refine dq (uCl zbK rfl zak) ?_;refine gz3 ?_;refine z7 rfl (fun h6=> ?_) (fun h6=> ?_)
 exfalso
 try simp at h6
 have q:=hat.1;simp_all
 try simp at h6
 refine gz3 ?_;refine dq (uCl zct rfl zai) ?_;refine gz2 ?_;refine z7 rfl (fun h7=> ?_) (fun h7=> ?_)
 exfalso
 try simp at h7
 have q:=hat.2.1;simp [out] at h7;omega
 try simp at h7
 refine uDr mixed ?_;refine gz9 ?_;refine uGy 9 rfl rfl (fun hc=>by have hq:=hc;(try simp at hq);exact zB (f:=zbg) (l:=x.Stats) (j:=k-1) (a:=x.Stats.getD (k-1) zei) zdf zcl rfl rfl uO (getD_some uO)) ?_;refine gz6 ?_;refine z7 rfl (fun h8=> ?_) (fun h8=> ?_)
 exfalso
 try simp at h8
 obtain ⟨q1,q2⟩:=h8;have q3:=hat.2.2 uO
 simp_all
 try simp at h8
 refine gz8 ?_;refine ⟨k+1,?_,?_,⟨rfl,trivial⟩,uK,Ac _⟩
 exact ⟨by omega,trivial⟩
 dsimp only;omega
 have hnk:x.Stats.length<=k:=by omega
 obtain rfl:k=x.Stats.length:=by omega
 refine gz2 ?_;refine zu ?_;refine gz6 ?_;refine zt rfl ?_
 rfl
theorem ztZ [Tracks] {R:List RuleS} {pos:List Str} {l:List LineS} (hR:R.length<=1000000) (hb: ∀x∈R,((-1000000000<=x.Num/\x.Num<=1000000000)/\ -1000000000<=x.Den/\x.Den<=1000000000)) (hz:zg5 R=0) (hp:zdq pos=0) (hl:l.length<=1000000) (hxl: ∀x∈l,LineOk x):ConP prog 317 [zgp R,eSs pos,zfG l] (.int .i64 0):=by
 obtain ⟨hp1,hp2⟩:=zzG hp;refine uOb func317 ntmps317 ?_;refine gz6 ?_;refine dq (uCl zBS rfl (zjd (l:=R) hR hb)) ?_;refine gz6 ?_;refine z7 rfl (fun h1=> ?_) (fun h1=> ?_)
 ·exfalso
  try simp at h1
  simp_all
 ·try simp at h1
  refine gz8 ?_;refine z7 rfl (fun h2=> ?_) (fun h2=> ?_)
  ·exfalso
   try simp at h2
   omega
  ·try simp at h2
   refine gz5 ?_;refine dq (uCl zxJ rfl (zhi (l:=pos) uO)) ?_;refine gz6 ?_;refine z7 rfl (fun h3=> ?_) (fun h3=> ?_)
   ·exfalso
    try simp at h3
    simp_all
   ·try simp at h3
    refine gz9 ?_;refine uT1 [6,1,10,2,27,10] (fun k=>[(27,.int .i64 k)]) (fun k=>[]) (fun k=>k<=l.length/\(True)) (fun k=>l.length-k) (0) ?_ ?_
    ·exact ⟨Ad _,trivial⟩
    ·rintro k ⟨hk,-⟩;refine gz4 ?_;refine uCo (fun h4=> ?_) fun h5=> ?_
     ·obtain ⟨x,hx⟩: ∃x,l[k]? =some x:=⟨_,Aa h4⟩
      have hdx:=zg hx;have hx1:=hx;refine gz7 ?_;refine de rfl (zj zcZ rfl fun b10=> ?_)
      refine de0 (zn zcZ rfl rfl rfl rfl rfl ?_)
      refine gz1 ?_;refine ze (zo 10 rfl) ?_;refine gz1 ?_;refine dq (zax (h:=zbT x) zcZ rfl rfl rfl rfl) ?_;refine dq (uCl zGI rfl (zpU (x:=x) (hxl x (Ab hx)))) ?_;refine gz6 ?_;refine z7 rfl (fun h6=> ?_) (fun h6=> ?_)
      ·exfalso
       try simp at h6
       done
      ·try simp at h6
       refine gz7 ?_;refine ⟨k+1,?_,?_,⟨rfl,trivial⟩,uK,Ac _⟩
       ·exact ⟨by omega,trivial⟩
       ·dsimp only;omega
     ·have hnk:l.length<=k:=by omega
      obtain rfl:k=l.length:=by omega
      refine gz2 ?_;refine zu ?_;refine gz6 ?_;refine zt rfl ?_
      rfl
theorem zt0 [Tracks] {r:RuleS} {pos:List Str} {x:LineS} (hr:RuleOk r) (hb:zlk x) (hpos:pos.length<=1000000) (hl:x.Stats.length<=1000000):ConP prog 368 [zpu r,eSs pos,zbT x] (.int .i64 (zhA r pos x)):=by
 obtain ⟨hc1,hc2,hc3⟩:=zs6 hr hb;have hrd:=hr.dn;have hrw:=hr.w;refine uOb func368 ntmps368 ?_;refine zdy ?_;refine uGr rfl (fun hc=>za (hs:=[_]) zp ty9 rfl rfl (by decide) (by decide) rfl) ?_;refine gz1 ?_;refine uGr rfl (fun hc=>uCl zxG rfl (zjq (a:=[r.Position]) (b:=pos) (by simp) hpos)) ?_;refine gz3 ?_;refine uCo (fun h1=> ?_) fun h2=> ?_
 refine gz4 ?_;refine uRp ?_;unfold zhA
 focus first|(simp_all;done)|((repeat' split)<;>focus first|rfl|(exfalso;simp_all;done)|(exfalso;omega)|(simp_all;done))
 refine zdy ?_;refine uU2 [7,1,9,1,25,12] (fun (k:Nat) (n:Int)=>[(25,.int .i64 k),(7,.int .i64 n)]) (fun (k:Nat) (n:Int)=>[]) (fun (k:Nat) (n:Int)=>k<=x.Stats.length/\(zdw r.Stat 0 x.Stats=zdw r.Stat n (x.Stats.drop k))) (fun (k:Nat) (n:Int)=>x.Stats.length-k) (0) (0) ?_ ?_;exact ⟨Ad _,rfl⟩;rintro k n ⟨hk,hg⟩;refine gz4 ?_;refine uCo (fun h3=> ?_) fun h4=> ?_
 obtain ⟨y,hy⟩: ∃y,x.Stats[k]? =some y:=⟨_,Aa h3⟩
 have hdy:=zg hy;rw [zyX hy] at hg;refine gz7 ?_;refine de rfl (zj zcl rfl fun b9=> ?_)
 refine de0 (zn zcl rfl rfl rfl rfl rfl ?_)
 refine gz1 ?_;refine ze (zo 9 rfl) ?_;refine gz7 ?_;refine uCo (fun h5=> ?_) fun h6=> ?_
 refine zco ?_;exact ⟨k+1,y.Count,⟨by omega,by rw [hg,if_pos (by assumption)]⟩,uD,⟨rfl,rfl,trivial⟩,uK,Ac _⟩;refine gz7 ?_;exact ⟨k+1,n,⟨by omega,by rw [hg,if_neg (by assumption)]⟩,uD,⟨rfl,rfl,trivial⟩,uK,Ac _⟩;have hnk:x.Stats.length<=k:=by omega
 obtain rfl:k=x.Stats.length:=by omega
 rw [zC (Ae _)] at hg
 replace hg:zdw r.Stat 0 x.Stats=n:=hg
 subst hg;refine gz2 ?_;refine zI ?_;refine gz4 ?_;refine dq (zY (h':= .agg [.int .i64 r.Num,.int .i64 r.Den]) (zaF zaj rfl rfl (Ak rfl)) rfl) ?_;refine dq (uCl zjM rfl (zbu (n:=r.Num) (d:=r.Den) hrd uO)) ?_;refine zay ?_;refine uCo (fun h7=> ?_) fun h8=> ?_
 refine gz3 ?_;refine dq (zcA rfl rfl uO uO) ?_;refine gz3 ?_;refine uRp ?_;unfold zhA
 focus first|(simp_all;done)|((repeat' split)<;>focus first|rfl|(exfalso;simp_all;done)|(exfalso;omega)|(simp_all;done))
 refine gz6 ?_;refine uCo (fun h9=> ?_) fun h10=> ?_
 have hmm:=hr.mm uSa;obtain ⟨hc4,hc5⟩:=hc3 uSa;refine gz3 ?_;refine dq (zY (h':= .int .i64 (max (zdw r.Stat 0 x.Stats) 0)) (zpB rfl rfl) (congrArg (HVal.int .i64) zAS)) ?_;refine gz2 ?_;refine dq (zdS rfl rfl uO uO uO) ?_;refine dq (zcA rfl rfl uO uO) ?_;refine gz3 ?_;refine uRp ?_;unfold zhA
 focus first|(simp_all;done)|((repeat' split)<;>focus first|rfl|(exfalso;simp_all;done)|(exfalso;omega)|(simp_all;done))
 refine zdy ?_;refine uCo (fun h11=> ?_) fun h12=> ?_
 refine gz2 ?_;refine uCo (fun h13=> ?_) fun h14=> ?_
 refine gz5 ?_;refine uRp ?_;unfold zhA
 focus first|(simp_all;done)|((repeat' split)<;>focus first|rfl|(exfalso;simp_all;done)|(exfalso;omega)|(simp_all;done))
 refine gz7 ?_;refine uRp ?_;unfold zhA
 focus first|(simp_all;done)|((repeat' split)<;>focus first|rfl|(exfalso;simp_all;done)|(exfalso;omega)|(simp_all;done))
 refine zco ?_;refine uCo (fun h15=> ?_) fun h16=> ?_
 refine gz5 ?_;refine uRp ?_;unfold zhA
 focus first|(simp_all;done)|((repeat' split)<;>focus first|rfl|(exfalso;simp_all;done)|(exfalso;omega)|(simp_all;done))
 refine gz7 ?_;refine uRp ?_;unfold zhA
 focus first|(simp_all;done)|((repeat' split)<;>focus first|rfl|(exfalso;simp_all;done)|(exfalso;omega)|(simp_all;done))
theorem zsk [Tracks] {R:List RuleS} {pos:List Str} {x:LineS} (hl:R.length<=100) (hrr: ∀r∈R,RuleOk r) (hb:zlk x) (hpos:pos.length<=1000000) (hs:x.Stats.length<=1000000):ConP prog 318 [zgp R,eSs pos,zbT x] (.int .i64 (zhC R pos x)):=by
 refine uOb func318 ntmps318 ?_;refine zda ?_;refine uT1 [7,1,9,1,12,11] (fun k=>[(12,.int .i64 k),(7,.int .i64 (zhC (R.take k) pos x))]) (fun k=>[]) (fun k=>k<=R.length/\(True)) (fun k=>R.length-k) (0) ?_ ?_;exact ⟨Ad _,trivial⟩;rintro k ⟨hk,-⟩;refine gz4 ?_;refine uCo (fun h1=> ?_) fun h2=> ?_
 obtain ⟨r,hr⟩: ∃r,R[k]? =some r:=⟨_,Aa h1⟩
 have hdr:=zg hr;have hp1:=zrL hl hrr hb pos k;have hp2:=zrL hl hrr hb pos (k+1);rw [zvI hr] at hp2;refine gz7 ?_;refine de rfl (zj zgV rfl fun b9=> ?_)
 refine de0 (zn zgV rfl rfl rfl rfl rfl ?_)
 refine gz1 ?_;refine ze (zo 9 rfl) ?_;refine gz2 ?_;refine dq (zax (h:=zpu r) zgV rfl rfl rfl rfl) ?_;refine gz1 ?_;refine dq (zax (h:=zbT x) zcZ rfl rfl rfl rfl) ?_;refine dq (uCl zGJ rfl (zt0 (r:=r) (pos:=pos) (x:=x) (hrr r (Ab hr)) hb hpos hs)) ?_;refine gz9 ?_;exact ⟨k+1,⟨by omega,trivial⟩,uD,⟨rfl,by rw [zvI hr];rfl,trivial⟩,uK,Ac _⟩;have hnk:R.length<=k:=by omega
 obtain rfl:k=R.length:=by omega
 rw [Ai];refine gz2 ?_;refine zu ?_;refine gz7 ?_;refine zt rfl ?_
 rfl
theorem zsh [Tracks] {R:List RuleS} {pos:List Str} {x:LineS} (hR:R.length<=1000000) (hb: ∀x∈R,((-1000000000<=x.Num/\x.Num<=1000000000)/\ -1000000000<=x.Den/\x.Den<=1000000000)) (hz:zg5 R=0) (hp:zdq pos=0) (hx:LineOk x):ConP prog 260 [zgp R,eSs pos,zbT x] (.tup [ziT (ofH (zhC R pos x)),.int .i64 0]):=by
 obtain ⟨hp1,hp2⟩:=zzG hp;obtain ⟨hr1,hr2⟩:=zzO hz;have hbd:=zrL hr1 hr2 hx.sb pos R.length;rw [Ai] at hbd;have hsl:=hx.len;refine za5 func260 rfl ntmps260 rfl rfl ?_;refine gz2 ?_;refine de rfl (zj zaj rfl fun b6=> ?_)
 refine gz6 ?_;refine dq (zax (h:=zbT x) zcZ rfl rfl rfl rfl) ?_;refine dq (za (hs:=[zbT x]) znE zcZ rfl rfl (by decide) (by decide) rfl) ?_;refine dq (uCl zGv rfl (ztZ (R:=R) (pos:=pos) (l:=[x]) hR hb hz hp (by simp) (fun y hy=>by rw [List.mem_singleton.1 hy];exact hx))) ?_;refine gz6 ?_;refine z7 rfl (fun h1=> ?_) (fun h1=> ?_)
 ·exfalso
  try simp at h1
  done
 ·try simp at h1
  refine gz5 ?_;refine dq (zax (h:=zbT x) zcZ rfl rfl rfl rfl) ?_;refine dq (uCl zGw rfl (zsk (R:=R) (pos:=pos) (x:=x) hr1 hr2 hx.sb uO uO)) ?_;refine dq (uCl zue rfl (zed (n:=zhC R pos x) uO)) ?_;refine de0 (zn (h:=ziT (ofH (zhC R pos x))) zaj rfl rfl rfl rfl rfl ?_)
  refine gz3 ?_;exact ⟨_,_,zo 6 rfl,[_,_],_,⟨⟨_,_,_,_,_,rfl,zaj,.inr ⟨rfl,rfl,rfl⟩⟩,⟨rfl,trivial⟩⟩,Weak.refl _,rfl,rfl⟩
theorem zhw [Tracks] {l:List ScorerS} {s:Str} {fid:FuncId} (hca:Callable prog fid) (hp: ∀x:ScorerS,ConP prog fid [zcz x,.str s] (.int .i64 (zZ x.Player s))) (hl:l.length<=1000000) (hs:SortedS (l.map (·.Player))):ConP prog 320 [zfv l,.str s,.fn (.func fid) [] []] (.tup [.int .i64 (zck (l.map (·.Player)) s),.bool ((l.map (·.Player)).contains s)]):=by
 have hLl:(l.map (·.Player)).length=l.length:=Af _;refine uOb func320 ntmps320 ?_;refine zoW ?_;refine uT2 [9,3,15,20] (fun i j=>[(9,.int .i64 i),(10,.int .i64 j)]) (fun i j=>[]) (fun i j=>i<=j/\j<=(l.map (·.Player)).length/\(∀(k:Nat) (x:Str),k<i->(l.map (·.Player))[k]? =some x->Op.bytesLess x s=true)/\(∀(k:Nat) (x:Str),j<=k->(l.map (·.Player))[k]? =some x->Op.bytesLess x s=false)) (fun i j=>j-i) (0) (l.length) ?_ ?_;exact ⟨Ad _,by rw [hLl];exact Ae _,fun k x h=>by omega,fun k x h1 h2=>by have:=zm h2;omega⟩;rintro i j ⟨hij,hjl,ha,hb⟩;rw [hLl] at hjl;refine gz6 ?_;refine uCo (fun h1=> ?_) fun h2=> ?_
 obtain ⟨x,hx⟩: ∃x,l[(i+j)/2]? =some x:=⟨_,Aa uO⟩
 have hxL:(l.map (·.Player))[(i+j)/2]? =some x.Player:=by rw [Ah,hx];rfl
 have hm:(i+j)/2<j/\i<=(i+j)/2:=by omega
 refine gz7 ?_;refine dq (zbO ty3 zi1 rfl) ?_;refine dq (zsF rfl rfl uO) ?_;refine dq (zY (zbO zi1 ty3 rfl) (zvr (i:=i) (j:=j) uO)) ?_;refine gz6 ?_;refine dq (zB (j:=(i+j)/2) (a:=x) ziq zdl rfl rfl rfl hx) ?_;refine gz2 ?_;refine dq (zag hca rfl rfl (WeakL.refl _) (hp _)) ?_;refine gz2 ?_;refine uCo (fun h3=> ?_) fun h4=> ?_
 refine gz6 ?_;exact ⟨(i+j)/2+1,j,⟨by omega,by rw [hLl];exact hjl,zxr hs hxL (zhR.1 h3),hb⟩,uD,⟨rfl,rfl,trivial⟩,uK,Ac _⟩;refine gz5 ?_;exact ⟨i,(i+j)/2,⟨by omega,by omega,ha,zub hs hxL (by have q:=fun e=>(show ¬zZ x.Player s<0 by omega) (zhR.2 e);simpa using q)⟩,uD,⟨rfl,rfl,trivial⟩,uK,Ac _⟩;obtain rfl:i=j:=by omega
 have hjl2:i<=(l.map (·.Player)).length:=by rw [hLl];exact hjl
 refine gz2 ?_;refine zI ?_;refine zco ?_;refine uGr rfl (fun hc=>by have hq:=hc;(try simp at hq);exact zB (j:=i) (a:=l.getD i zcD) ziq zdl rfl rfl rfl (getD_some uO)) ?_;refine gz2 ?_;refine uGr rfl (fun hc=>zag hca rfl rfl (WeakL.refl _) (hp _)) ?_;refine gz6 ?_;refine zt rfl ?_;rw [zmy hjl2 ha hb,<-zqv hs hjl2 ha hb,<-zyQ]
theorem zsi [Tracks] {x:ScorerS} {s:Str}:ConP prog 321 [zcz x,.str s] (.int .i64 (zZ x.Player s)):=by
 refine uOb func321 ntmps321 ?_;refine gz8 ?_;refine dq (uCl zc3 rfl zN) ?_;refine gz3 ?_;refine zt rfl ?_
 rfl
theorem zov [Tracks] {l:List ScorerS} {s:Str} (hl:l.length<=1000000) (hs:SortedS (l.map (·.Player))):ConP prog 265 [zfv l,.str s] (.int .i64 (zf5 (l.map (·.Player)) s)):=by
 refine uOb func265 ntmps265 ?_;refine gz6 ?_;refine dq (uCl zGy rfl (zhw (l:=l) zGz (fun _=>zsi) hl hs)) ?_;refine zco ?_;refine uCo (fun h1=> ?_) fun h2=> ?_
 refine gz4 ?_;refine uRp ?_;unfold zf5
 simp_all
 refine gz7 ?_;refine uRp ?_;unfold zf5
 simp_all
theorem zh4 [Tracks] {l:List ScorerS} (hl:l.length<=1000000) (hp: ∀x∈l,x.Positions.length<=1000000) (hb: ∀x∈l,(-1000000000000000<=x.Num/\x.Num<=1000000000000000)/\ -1000000000<=x.Den/\x.Den<=1000000000):ConP prog 193 [zfv l] (.int .i64 (ziM l)):=by
 refine uOb func193 ntmps193 ?_;refine gz9 ?_;refine uCo (fun h1=> ?_) fun h2=> ?_
 refine gz4 ?_;refine uRp ?_
 focus first
 | (refine congrArg _ (zbN ?_)
    omega)
 | (refine congrArg _ (zbB ?_ hg)
    omega)
 | (refine congrArg _ (zA (e:=5) ?_ hg ?_ ?_)
    omega
    unfold zbM;exact uT
    first|decide|assumption)
 | (refine congrArg _ (zA (e:=7) ?_ hg ?_ ?_)
    omega
    unfold zbM;exact uT
    first|decide|assumption)
 | (refine congrArg _ (zA (e:=(orI [zdq x.Positions,zbA x.Num x.Den 10000])) ?_ hg ?_ ?_)
    omega
    unfold zbM;exact uT
    first|decide|assumption)
 refine gz9 ?_;refine uT1 [2,4,11,36] (fun k=>[(11,.int .i64 k)]) (fun k=>[]) (fun k=>k<=l.length/\(za1 zbM zcD l 0 l=za1 zbM zcD l k (l.drop k))) (fun k=>l.length-k) (0) ?_ ?_;exact ⟨Ad _,rfl⟩;rintro k ⟨hk,hg⟩;refine gz4 ?_;refine uCo (fun h3=> ?_) fun h4=> ?_
 obtain ⟨x,hx⟩: ∃x,l[k]? =some x:=⟨_,Aa h3⟩
 have hdx:=zg hx;rw [hdx] at hg;refine gz8 ?_;refine de rfl (zj zdl rfl fun b4=> ?_)
 refine gz1 ?_;refine de0 (zn zdl rfl rfl rfl rfl rfl ?_)
 refine gz1 ?_;refine ze (zo 4 rfl) ?_;refine gz5 ?_;refine dq (uCl zbK rfl zak) ?_;refine gz3 ?_;refine uCo (fun h5=> ?_) fun h6=> ?_
 refine gz4 ?_;refine uRp ?_
 focus first
 | (refine congrArg _ (zbN ?_)
    omega)
 | (refine congrArg _ (zbB ?_ hg)
    omega)
 | (refine congrArg _ (zA (e:=5) ?_ hg ?_ ?_)
    omega
    unfold zbM;exact uT
    first|decide|assumption)
 | (refine congrArg _ (zA (e:=7) ?_ hg ?_ ?_)
    omega
    unfold zbM;exact uT
    first|decide|assumption)
 | (refine congrArg _ (zA (e:=(orI [zdq x.Positions,zbA x.Num x.Den 10000])) ?_ hg ?_ ?_)
    omega
    unfold zbM;exact uT
    first|decide|assumption)
 refine uDr mixed ?_;refine gz8 ?_;refine uGy 8 rfl rfl (fun hc=>by have hq:=hc;(try simp at hq);exact zB (j:=k-1) (a:=l.getD (k-1) zcD) ziq zdl rfl rfl uO (getD_some uO)) ?_;refine gz6 ?_;refine uCo (fun h7=> ?_) fun h8=> ?_
 refine gz4 ?_;refine uRp ?_
 focus first
 | (refine congrArg _ (zbN ?_)
    omega)
 | (refine congrArg _ (zbB ?_ hg)
    omega)
 | (refine congrArg _ (zA (e:=5) ?_ hg ?_ ?_)
    omega
    unfold zbM;exact uT
    first|decide|assumption)
 | (refine congrArg _ (zA (e:=7) ?_ hg ?_ ?_)
    omega
    unfold zbM;exact uT
    first|decide|assumption)
 | (refine congrArg _ (zA (e:=(orI [zdq x.Positions,zbA x.Num x.Den 10000])) ?_ hg ?_ ?_)
    omega
    unfold zbM;exact uT
    first|decide|assumption)
 refine gz3 ?_;refine uDr mixed ?_;refine gz2 ?_;refine uB 2 rfl (uCl zxF rfl (zhq (hp x (Ab hx)))) ?_;refine gz1 ?_;refine uB 4 rfl (zY (h':= .agg [.int .i64 x.Num,.int .i64 x.Den]) (zaF zaj rfl rfl (Ak rfl)) rfl) ?_;refine uB 5 rfl (uCl zxK rfl (zqT (n:=x.Num) (d:=x.Den) (most:=10000) (hb x (Ab hx)).1 (hb x (Ab hx)).2 uO)) ?_;refine uB 6 rfl (za (hs:=[_,_]) zej zgB rfl rfl (by decide) (by decide) rfl) ?_;refine uB 7 rfl (uCl zkC rfl (zb0 (l:=[_,_]) (by simp))) ?_;refine gz6 ?_;refine uCo (fun h9=> ?_) fun h10=> ?_
 refine gz5 ?_;refine uRp ?_
 focus first
 | (refine congrArg _ (zbN ?_)
    omega)
 | (refine congrArg _ (zbB ?_ hg)
    omega)
 | (refine congrArg _ (zA (e:=5) ?_ hg ?_ ?_)
    omega
    unfold zbM;exact uT
    first|decide|assumption)
 | (refine congrArg _ (zA (e:=7) ?_ hg ?_ ?_)
    omega
    unfold zbM;exact uT
    first|decide|assumption)
 | (refine congrArg _ (zA (e:=(orI [zdq x.Positions,zbA x.Num x.Den 10000])) ?_ hg ?_ ?_)
    omega
    unfold zbM;exact uT
    first|decide|assumption)
 refine gz7 ?_;refine ⟨k+1,?_,?_,⟨rfl,trivial⟩,uK,Ac _⟩
 refine ⟨by omega,?_⟩
 rw [hg,zaZ (by unfold zbM;(try clear hdx hg);(try simp only [Ag]);focus first|(simp_all;done)|((repeat' split)<;>focus first|rfl|(exfalso;omega)|(simp_all;done)|(exfalso;rcases ‹_\/_› with q|q<;>simp_all;done)|(exfalso;simp_all;omega)))]
 dsimp only;omega
 have hnk:l.length<=k:=by omega
 obtain rfl:k=l.length:=by omega
 rw [zC (Ae _)] at hg;refine gz2 ?_;refine zu ?_;refine gz6 ?_;refine uRp ?_
 focus first
 | (refine congrArg _ (zbN ?_)
    omega)
 | (refine congrArg _ (zbB ?_ hg)
    omega)
 | (refine congrArg _ (zA (e:=5) ?_ hg ?_ ?_)
    omega
    unfold zbM;exact uT
    first|decide|assumption)
 | (refine congrArg _ (zA (e:=7) ?_ hg ?_ ?_)
    omega
    unfold zbM;exact uT
    first|decide|assumption)
 | (refine congrArg _ (zA (e:=(orI [zdq x.Positions,zbA x.Num x.Den 10000])) ?_ hg ?_ ?_)
    omega
    unfold zbM;exact uT
    first|decide|assumption)
theorem zgh [Tracks] {l:List FillS} {fid:FuncId} {caps:List HVal} {p:FillS->Bool} (hca:Callable prog fid) (hp: ∀x,ConP prog fid ([zb9 x]++caps) (.bool (p x))) (hl:l.length<=1000000):ConP prog 264 [.slice 2 (l.map zb9),.fn (.func fid) [] caps] (.int .i64 (zW p l 0)):=by
 refine uOb func264 ntmps264 ?_;refine zay ?_;refine uT1 [4,2,8,11] (fun k=>[(8,.int .i64 k)]) (fun k=>[]) (fun k=>k<=l.length/\(zW p l 0=zW p (l.drop k) k)) (fun k=>l.length-k) (0) ?_ ?_;exact ⟨Ad _,rfl⟩;rintro k ⟨hk,hg⟩;refine gz4 ?_;refine uCo (fun h1=> ?_) fun h2=> ?_
 obtain ⟨x,hx⟩: ∃x,l[k]? =some x:=⟨_,Aa h1⟩
 have hdx:=zg hx;rw [hdx] at hg;refine zda ?_;refine dq (zag hca rfl rfl (WeakL.refl _) (hp _)) ?_;refine gz1 ?_;refine uCo (fun h3=> ?_) fun h4=> ?_
 refine gz5 ?_;refine uRp ?_
 first|(rw [hg];rfl)|(rw [hg];simp_all [zW])
 refine gz7 ?_;refine ⟨k+1,?_,?_,⟨rfl,trivial⟩,uK,Ac _⟩
 refine ⟨by omega,?_⟩
 rw [hg,zW,if_neg uSa];rfl
 dsimp only;omega
 have hnk:l.length<=k:=by omega
 obtain rfl:k=l.length:=by omega
 rw [zC (Ae _)] at hg;refine gz2 ?_;refine zu ?_;refine gz6 ?_;refine uRp ?_
 first|(rw [hg];rfl)|(rw [hg];simp_all [zW])
theorem zcU [Tracks] {l:List FillS} {fid:FuncId} {caps:List HVal} {p:FillS->Bool} (hca:Callable prog fid) (hp: ∀x,ConP prog fid ([zb9 x]++caps) (.bool (p x))) (hl:l.length<=1000000):ConP prog 196 [.slice 2 (l.map zb9),.fn (.func fid) [] caps] (.bool (l.any p)):=by
 refine uOb func196 ntmps196 ?_;refine gz6 ?_;refine dq (uCl zGf rfl (zgh hca hp hl)) ?_;refine gz4 ?_;refine zt rfl ?_
 congr 1;exact zcH p l 0 uO
theorem zft [Tracks] {l:List ScorerS} {fid:FuncId} {caps:List HVal} {p:ScorerS->Bool} (hca:Callable prog fid) (hp: ∀x,ConP prog fid ([zcz x]++caps) (.bool (p x))) (hl:l.length<=1000000):ConP prog 261 [.slice 5 (l.map zcz),.fn (.func fid) [] caps] (.int .i64 (zW p l 0)):=by
 refine uOb func261 ntmps261 ?_;refine zay ?_;refine uT1 [4,2,8,11] (fun k=>[(8,.int .i64 k)]) (fun k=>[]) (fun k=>k<=l.length/\(zW p l 0=zW p (l.drop k) k)) (fun k=>l.length-k) (0) ?_ ?_;exact ⟨Ad _,rfl⟩;rintro k ⟨hk,hg⟩;refine gz4 ?_;refine uCo (fun h1=> ?_) fun h2=> ?_
 obtain ⟨x,hx⟩: ∃x,l[k]? =some x:=⟨_,Aa h1⟩
 have hdx:=zg hx;rw [hdx] at hg;refine zda ?_;refine dq (zag hca rfl rfl (WeakL.refl _) (hp _)) ?_;refine gz1 ?_;refine uCo (fun h3=> ?_) fun h4=> ?_
 refine gz5 ?_;refine uRp ?_
 first|(rw [hg];rfl)|(rw [hg];simp_all [zW])
 refine gz7 ?_;refine ⟨k+1,?_,?_,⟨rfl,trivial⟩,uK,Ac _⟩
 refine ⟨by omega,?_⟩
 rw [hg,zW,if_neg uSa];rfl
 dsimp only;omega
 have hnk:l.length<=k:=by omega
 obtain rfl:k=l.length:=by omega
 rw [zC (Ae _)] at hg;refine gz2 ?_;refine zu ?_;refine gz6 ?_;refine uRp ?_
 first|(rw [hg];rfl)|(rw [hg];simp_all [zW])
theorem zgj [Tracks] {l:List LineS} {fid:FuncId} {caps:List HVal} {p:LineS->Bool} (hca:Callable prog fid) (hp: ∀x,ConP prog fid ([zbT x]++caps) (.bool (p x))) (hl:l.length<=1000000):ConP prog 258 [.slice 3 (l.map zbT),.fn (.func fid) [] caps] (.int .i64 (zW p l 0)):=by
 refine uOb func258 ntmps258 ?_;refine zay ?_;refine uT1 [4,2,8,11] (fun k=>[(8,.int .i64 k)]) (fun k=>[]) (fun k=>k<=l.length/\(zW p l 0=zW p (l.drop k) k)) (fun k=>l.length-k) (0) ?_ ?_;exact ⟨Ad _,rfl⟩;rintro k ⟨hk,hg⟩;refine gz4 ?_;refine uCo (fun h1=> ?_) fun h2=> ?_
 obtain ⟨x,hx⟩: ∃x,l[k]? =some x:=⟨_,Aa h1⟩
 have hdx:=zg hx;rw [hdx] at hg;refine zda ?_;refine dq (zag hca rfl rfl (WeakL.refl _) (hp _)) ?_;refine gz1 ?_;refine uCo (fun h3=> ?_) fun h4=> ?_
 refine gz5 ?_;refine uRp ?_
 first|(rw [hg];rfl)|(rw [hg];simp_all [zW])
 refine gz7 ?_;refine ⟨k+1,?_,?_,⟨rfl,trivial⟩,uK,Ac _⟩
 refine ⟨by omega,?_⟩
 rw [hg,zW,if_neg uSa];rfl
 dsimp only;omega
 have hnk:l.length<=k:=by omega
 obtain rfl:k=l.length:=by omega
 rw [zC (Ae _)] at hg;refine gz2 ?_;refine zu ?_;refine gz6 ?_;refine uRp ?_
 first|(rw [hg];rfl)|(rw [hg];simp_all [zW])
theorem zsj [Tracks] {x:FillS} {s:Str}:ConP prog 266 [zb9 x,.vptr [.str s] 0] (.bool (x.Player==s)):=by
 refine uOb func266 ntmps266 ?_;refine zc9 ?_;refine zt rfl ?_
 rfl
theorem zow [Tracks] {f:List FillS} {s:Str} (hf:f.length<=1000000):ConP prog 199 [zmt f,.str s] (.bool (f.any fun x=>x.Player==s)):=by
 refine uOb func199 ntmps199 ?_;refine gz7 ?_;refine dq (uCl zBY rfl (zcU (l:=f) (p:=fun x=>x.Player==s) zGg (fun _=>zsj) hf)) ?_;refine gz3 ?_;refine zt rfl ?_
 rfl
end
end Go.Proofs.YtnfmbjchkjijpaaGreatDoor
namespace Go.HL
section
section
variable {P:Program} {e:Env} {dst:Option Tmp} {ty:TypeId} {pos:String} {af:Array Edge} {g:Option (Nat×Bool)}
def NilV (v:Value) (c:Bool):Prop:= ∃p n cap,v= .slice p n cap/\p.isNone=c
theorem zym [Tracks] {x y:Operand} {t t' el:TypeId} {size bytes:Nat} {zero:Value} {v:Value} {c:Bool} (hv:NilV v c) (hf:Fits P t (.slice el) size bytes zero) (hx:zi e x=some (.raw v)) (hy:zi e y=some (.raw (.slice none 0 0))):
 POp P e ⟨dst,.binOp .eql t x y t',ty,pos,af,g⟩ (.bool c):=
 zD fun I a w ho=>by
  have h1:=(ho.one (x:=x) (by simp [Op.operands]) hx).raw_inv;have h2:=(ho.one (x:=y) (by simp [Op.operands]) hy).raw_inv;obtain ⟨p,n,cap,rfl,h3⟩:=hv;refine ⟨.bool c,?_,.bool _⟩
  rw [<-h3]
  simp [execOp,h1,h2,eqGuard,binOp,znV hf.slice]
theorem zCX [Tracks] {n:Nat} {M:List MObj} {c:Code} {Q:Exit->Env->List MObj->Prop} {i:Nat} {v:Value} {sz:Nat} {es:List HVal} (hm:M[i]? =some (.arr v sz es))
 (hz:es=[]->v= .slice none 0 0) (k:NilV v es.isEmpty->HWp P n c e M Q):HWp P n c e M Q:=
 zbV hm (fun h0 he=>k ⟨none,0,0,h0,by rw [he];rfl⟩) fun b off cap hv _=>k (by
  cases es with
  |nil=>have:=hz rfl;rw [hv] at this;cases this
  |cons x r=>exact ⟨_,_,_,hv,rfl⟩)
end
end
end Go.HL
