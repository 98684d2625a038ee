/- Part 4 of the proof: a program logic, contracts of functions and plain facts; no conditions. -/
import Derived.Test.YtabpobhnedkkeaaGreatDoorQWeeksScored3
import Derived.Lib.AtoiBound
import Derived.Lib.ItoaMem
import Derived.Lib.Strings
import Derived.Shelf.SlMaps.Clone
import Derived.Shelf.Slices.CompactI
import Derived.Shelf.Slices.In.SortNone
import Derived.Shelf.Sort.Plain
set_option linter.unusedVariables false
set_option linter.unusedSimpArgs false
set_option maxHeartbeats 16000000
namespace Go.Proofs.YtabpobhnedkkeaaGreatDoor
set_option maxRecDepth 100000
set_option linter.unusedVariables false
set_option linter.unusedSimpArgs false
section
open Go.Proofs.Tryz
open Go.HL
theorem zqO [Tracks]:ConP prog 290 [.int .u64 0] (.int .i64 0):=by
 refine uOb func290 ntmps290 ?_;refine gz8 ?_;refine ze5 rfl ?_;refine gz7 ?_;refine ze5 rfl ?_;refine gz7 ?_;refine ze5 rfl ?_;refine gz5 ?_;refine dq (zeE zs7 ty5 rfl) ?_;refine dq (zbe (j:=0) (b:=0) ty9 rfl rfl rfl rfl) ?_;refine dq (zeE ty5 ty3 rfl) ?_;refine dq (zbt rfl rfl (by decide) (by decide)) ?_;refine gz3 ?_;refine zu rfl ?_
 rfl
theorem zr7 [Tracks]:ConP prog 220 [.int .u64 0] (.int .i64 0):=by
 refine uOb func220 ntmps220 ?_;refine gz4 ?_;refine ze5 rfl ?_;refine gz4 ?_;refine dq (uCl zIo rfl zqO) ?_;refine gz3 ?_;refine zu rfl ?_
 rfl
theorem zgF [Tracks]:ConP prog 325 [eSs [],.int .i64 0,.int .i64 0] (.tup []):=by
 refine uOb func325 ntmps325 ?_;refine gz6 ?_;refine uU1 [6,2,10,39] (fun (u:Unit)=>[(6,.int .i64 1)]) (fun (u:Unit)=>[]) (fun (u:Unit)=>True) (fun (u:Unit)=>0) (()) ?_ ?_
 trivial
 intro u hu
 refine gz6 ?_;refine ze5 rfl ?_;refine gz2 ?_;refine zv ?_;refine gz1 ?_;refine zz9 rfl ?_
 rfl
theorem ziE [Tracks]:ConP prog 275 [eSs [],.int .i64 0,.int .i64 0,.int .i64 0] (.tup []):=by
 refine uOb func275 ntmps275 ?_;refine gz7 ?_;refine uU1 [1,3,8,126] (fun (u:Unit)=>[(1,.int .i64 0),(2,.int .i64 0)]) (fun (u:Unit)=>[]) (fun (u:Unit)=>True) (fun (u:Unit)=>0) (()) ?_ ?_
 trivial
 intro u hu
 refine zdf ?_;refine zut rfl ?_;refine gz4 ?_;refine dq (uCl zIG rfl zgF) ?_;refine gz2 ?_;refine zu rfl ?_
 rfl
theorem zqW [Tracks]:ConP prog 197 [eSs []] (.tup []):=by
 refine uOb func197 ntmps197 ?_;refine gz9 ?_;refine dq (zeE ty3 zs4 rfl) ?_;refine dq (uCl zHF rfl zr7) ?_;refine dq (uCl zIk rfl ziE) ?_;refine gz1 ?_;refine zz9 rfl ?_
 rfl
theorem zj5 [Tracks] {l:List Str} {v:Value} (hl:l.length<=1000000):Con prog 197 [.raw v] [.arr v 1 (l.map .str)] fun x M'=>x= .tup []/\M'=[.arr v 1 ((zaB l).map .str)]:=
 zEu (ziw l) (fun b off cap w h1 h2 _=>Any.slices_Sort_string zv0 b off cap l w h1 h2 uO) (fun _=>zqW)
theorem zrv [Tracks] {l:List Str} {v:Value} (hl:l.length<=1000000):Con prog 265 [.raw v] [.arr v 1 (l.map .str)] fun x M'=> ∃u,x= .raw u/\M'=[.arr u 1 ((Lib.compact l).map .str)]:=
 zB6 (zzr l) (fun b off cap w h1 h2 h3=>Any.slices_Compact_string zo4 b off cap l w h1 uO h3) (fun _ w=>Any.slices_Compact_string_empty zo4 none 0 w)
theorem zro [Tracks] {l:List Str} (hl:l.length<=1000000):zrf prog 187 [eSs l] 1 ((Lib.compact (zaB l)).map .str):=by
 refine uOb func187 ntmps187 ?_;refine gz5 ?_;refine de rfl (uCa zlj rfl (zad (by assumption)) fun v4=> ?_)
 refine gz4 ?_;refine de rfl (zaA (M1:=[_]) (R:=[]) zzf rfl (WeakL.refl _) (Ac _) (zj5 hl) ?_)
 rintro _ _ ⟨rfl,rfl⟩;refine gz3 ?_;refine de rfl (zaA (M1:=[_]) (R:=[]) zId rfl (WeakL.refl _) (Ac _) (zrv (l:=zaB l) (by rw [ziw];exact hl)) ?_)
 rintro _ _ ⟨u8,rfl,rfl⟩;refine gz3 ?_;refine zsU rfl ?_
 rfl
end
section
open Go.Proofs.Tryz
open Go.HL
theorem zhm [Tracks] {x n:Int} (hn:n<=4000000000):ConP prog 130 [.int .i64 x,.int .i64 n] (.int .i64 (below x n)):=by
 refine uOb func130 ntmps130 ?_;refine gz8 ?_;refine uCo (fun h1=> ?_) fun h2=> ?_
 refine gz4 ?_;refine uRp ?_
 simp_all [below]
 try omega
 refine gz5 ?_;refine dq (zdp rfl rfl uO) ?_;refine gz7 ?_;refine uCo (fun h3=> ?_) fun h4=> ?_
 refine gz3 ?_;have hm:=B3 x (show 0<n by omega);obtain ⟨y,hy1,hy2⟩:=zo9 x n;have hb:below x n=x.tmod n+n:=by unfold below;rw [if_neg uO,if_pos uO]
 refine gz9 ?_;refine uRp ?_
 simp_all [below]
 try omega
 refine gz7 ?_;refine uRp ?_
 simp_all [below]
 try omega
theorem zao [Tracks] {b:Nat} {l:List Int} {a:Nat} {n:Int} (ha:a<=1000000) (hn:n<=4000000000):Con prog 62 [pAt b,.int .i64 n] [St b l a] (fun x M'=> ∃y:Nat,x= .int .i64 (y:Int)/\(y:Int)<max n 1/\M'=[St b l (a+1)]):=by
 refine uOb func62 ntmps62 ?_;refine gz7 ?_;refine de rfl (uZ 0 ?_)
 refine gz3 ?_;refine de0 (uY 0 ?_)
 refine gz6 ?_;refine de rfl (uZ 0 ?_)
 refine gz3 ?_;refine uCo (fun h1=> ?_) fun h2=> ?_
 refine gz4 ?_;refine de rfl (uZ 0 ?_)
 refine dq (ztW rfl rfl) ?_;refine gz1 ?_;refine dq (uCl zzb rfl (zhm (by assumption))) ?_;refine gz3 ?_;refine zaf rfl ?_;obtain ⟨y,h1,h2⟩:=zo9 _ n;exact ⟨y,congrArg _ h1,h2,rfl⟩;refine gz2 ?_;have hl0:0<l.length:=List.length_pos_iff.2 (by simpa using h2);refine zbF (fun M=> ∃i:Nat,M[i]? =some (St b l (a+1))) [3,8] mixed ?_;refine gz3 ?_;refine uM 3 rfl (⟨0,rfl⟩) (fun M hM=>by obtain ⟨i,hi⟩:=hM;exact zV (i:=i) ty3 rfl hi (.inl ⟨rfl,rfl⟩) ⟨rfl,rfl⟩) ?_;refine gz4 ?_;refine uM 8 rfl (⟨0,rfl⟩) (fun M hM=>by obtain ⟨i,hi⟩:=hM;exact zV (i:=i) zab rfl hi (.inl ⟨rfl,rfl⟩) ⟨rfl,rfl⟩) ?_;refine gz1 ?_;refine uB 10 rfl (zP (h':= .int .i64 ((a%l.length:Nat):Int)) (zdp rfl rfl uO) (by show HVal.int .i64 (((a:Int)+1-1).tmod _)=_;rw [show ((a:Int)+1-1)=(a:Int) by omega];exact congrArg _ (zrO _ _))) ?_;refine gz2 ?_;refine zbF (fun M=> ∃i:Nat,M[i]? =some (St b l (a+1))) [3,8] mixed ?_;refine gz3 ?_;refine uM 3 rfl (⟨0,rfl⟩) (fun M hM=>by obtain ⟨i,hi⟩:=hM;exact zV (i:=i) ty3 rfl hi (.inl ⟨rfl,rfl⟩) ⟨rfl,rfl⟩) ?_;refine gz4 ?_;refine uM 8 rfl (⟨0,rfl⟩) (fun M hM=>by obtain ⟨i,hi⟩:=hM;exact zV (i:=i) zab rfl hi (.inl ⟨rfl,rfl⟩) ⟨rfl,rfl⟩) ?_;refine gz1 ?_;refine uB 10 rfl (zyE rfl rfl uO) ?_;refine gz6 ?_;refine de rfl (uZ 0 ?_)
 refine gz1 ?_;refine dq (zB (j:=a%l.length) (a:=l[a%l.length]'(B4 _ uO)) zab ty3 rfl rfl rfl (Aa _)) ?_;refine gz1 ?_;refine dq (uCl zzb rfl (zhm uO)) ?_;refine gz2 ?_;refine dq (ztV rfl rfl) ?_;refine dq (ztW rfl rfl) ?_;refine dq (ztV rfl rfl) ?_;refine gz1 ?_;refine dq (uCl zzb rfl (zhm (by assumption))) ?_;refine gz3 ?_;refine zaf rfl ?_;obtain ⟨y,h1,h2⟩:=zo9 _ n;exact ⟨y,congrArg _ h1,h2,rfl⟩
theorem zT [Tracks] {b:Nat} {l:List Int} {a:Nat} {lo hi:Int} (ha:a<=1000000) (hlh:lo<=hi) (h0: -1000000000<=lo) (h1:hi<=1000000000):Con prog 56 [pAt b,.int .i64 lo,.int .i64 hi] [St b l a] (fun x M'=> ∃y:Int,x= .int .i64 y/\(lo<=y/\y<=hi)/\M'=[St b l (a+1)]):=by
 refine uOb func56 ntmps56 ?_;refine gz9 ?_;refine zam rfl (fun h1=> ?_) (fun h1=> ?_)
 exfalso
 try simp at h1
 omega
 try simp at h1
 refine gz9 ?_;refine de rfl (uCx 0 zj7 rfl rfl (zao (by assumption) uO) ?_)
 rintro _ _ ⟨y17,rfl,hy17,rfl⟩;refine gz4 ?_;exact zaf rfl ⟨_,rfl,by omega,rfl⟩
theorem zK [Tracks] {b:Nat} {l:List Int} {a:Nat} {n:Int} (ha:a<=1000000) (hn:n<=4000000000):Con prog 61 [pAt b,.int .i64 n] [St b l a] (fun x M'=> ∃y:Bool,x= .bool y/\M'=[St b l (a+1)]):=by
 refine uOb func61 ntmps61 ?_;refine gz6 ?_;refine de rfl (uCx 0 zj7 rfl rfl (zao (by assumption) (by assumption)) ?_)
 rintro _ _ ⟨y7,rfl,hy7,rfl⟩;refine gz4 ?_;exact zaf rfl ⟨_,rfl,rfl⟩
theorem ze [Tracks] {b:Nat} {l:List Int} {a:Nat} {L:List Int} (ha:a<=1000000) (h0:0<L.length) (h1:L.length<=1000000):Con prog 23 [pAt b,.slice 1 (L.map (.int .i64))] [St b l a] (fun x M'=> ∃y:Int,x= .int .i64 y/\y∈L/\M'=[St b l (a+1)]):=by
 refine uOb func23 ntmps23 ?_;refine gz8 ?_;refine de rfl (uCx 0 zj7 rfl rfl (zao (by assumption) uO) ?_)
 rintro _ _ ⟨y9,rfl,hy9,rfl⟩;obtain ⟨z,hz,hm⟩:=getI hy9 h0;refine dq (zB (j:=y9) (a:=z) zab ty3 rfl rfl rfl hz) ?_;refine gz4 ?_;exact zaf rfl ⟨_,rfl,hm,rfl⟩
theorem zq [Tracks] {b:Nat} {l:List Int} {a:Nat} {L:List Str} (ha:a<=1000000) (h0:0<L.length) (h1:L.length<=1000000):Con prog 22 [pAt b,eSs L] [St b l a] (fun x M'=> ∃y:Str,x= .str y/\y∈L/\M'=[St b l (a+1)]):=by
 refine uOb func22 ntmps22 ?_;refine gz8 ?_;refine de rfl (uCx 0 zj7 rfl rfl (zao (by assumption) uO) ?_)
 rintro _ _ ⟨y9,rfl,hy9,rfl⟩;obtain ⟨z,hz,hm⟩:=getS hy9 h0;refine dq (zB (j:=y9) (a:=z) zo ty9 rfl rfl rfl hz) ?_;refine gz4 ?_;exact zaf rfl ⟨_,rfl,hm,rfl⟩
end
section
open Go.HL
set_option linter.unusedSimpArgs false
end
section
open Go.HL
set_option linter.unusedSimpArgs false
end
section
open Go.HL
set_option linter.unusedSimpArgs false
end
section
open Go.HL
set_option linter.unusedSimpArgs false
end
end Go.Proofs.YtabpobhnedkkeaaGreatDoor
namespace Go.HL
section
open Op (bytesLess)
theorem zBt {α:Type} {R:α->α->Prop}: ∀{l:List α},l.Pairwise R->∀x∈l,∀y∈l,x=y\/R x y\/R y x
 |[],_,x,hx,_,_=>by simp at hx
 |a::l,h,x,hx,y,hy=>by
   obtain ⟨h1,h2⟩:=List.pairwise_cons.1 h
   rcases List.mem_cons.1 hx with e|hx'<;>rcases List.mem_cons.1 hy with e'|hy'
   exact .inl (e.trans e'.symm);exact .inr (.inl (e▸h1 y hy'));exact .inr (.inr (e'▸h1 x hx'));exact zBt h2 x hx' y hy'
/-! keeps that are right-/
def kLt (a b:Keep):Prop:=bytesLess a.Team b.Team=true\/(a.Team=b.Team/\a.Round<b.Round)
theorem zFZ {a b:Keep} (h: ¬orI [zY b.Team a.Team,zai b.Round a.Round]<=0):kLt a b:=by
 rw [zha] at h
 rcases zcR a.Team b.Team with h1|h1|h1
 exact .inl h1;refine .inr ⟨h1,?_⟩
 rw [h1] at h
 simp [zaJ,orI,zai] at h
 split at h
 omega
 split at h<;>omega
 rw [h1] at h;simp [orI] at h
structure KeepsOk (r:Room) (k:List Keep):Prop where
 all: ∀x∈k,x.Team∈r.Teams/\x.Player∈r.Players/\1<=x.Round/\x.Round<=r.Rounds
 lt:k.Pairwise kLt
theorem zzD {r:Room} {l:List Keep}: ∀(t:List Keep) (k:Nat) (kept:List Str) (tw:Bool),l.drop k=t->ztL r l k kept tw t=0->
 (∀x∈t,x.Team∈r.Teams/\x.Player∈r.Players/\1<=x.Round/\x.Round<=r.Rounds)/\∀(i:Nat) (a b:Keep),k<=i+1->l[i]? =some a->l[i+1]? =some b->kLt a b
 |[],k,kept,tw,hd,h=>⟨by simp,fun i a b hi ha hb=>by
    have:=zn hb;have h2:l.length<=k:=by rw [<-List.drop_eq_nil_iff];exact hd
    omega⟩
 |x::t,k,kept,tw,hd,h=>by
   have hk:l[k]? =some x:=by
    have:=congrArg (fun q=>q[0]?) hd
    simpa using this
   have hd':l.drop (k+1)=t:=by
    have:=zi hk;rw [hd] at this;simp at this;exact this.symm
   simp only [ztL] at h
   split at h
   omega
   rename_i h1
   split at h
   omega
   rename_i h2
   split at h
   omega
   rename_i h3
   obtain ⟨h4,h5⟩:=zzD t (k+1) _ _ hd' h;have h2':=zhK (by simpa using h2);refine ⟨fun y hy=> ?_,fun i a b hi ha hb=> ?_⟩
   rcases List.mem_cons.1 hy with rfl|hy
   simp at h1;exact ⟨h1.1,h1.2,h2'⟩
   exact h4 y hy
   by_cases e:k=i+1
   subst e;rw [hk] at hb;cases hb;refine zFZ fun hc=>h3 ?_
   simp [List.getD,ha];exact hc
   exact h5 i a b (by omega) ha hb
theorem zp9 {l:List Str}: ∀(r:List Str) (k:Nat),zdl l k r=0->∀s∈r,key s=true
 |[],_,_,s,hs=>by simp at hs
 |x::r,k,h,s,hs=>by
   simp only [zdl] at h
   split at h
   omega
   rename_i h1
   split at h
   omega
   rcases List.mem_cons.1 hs with rfl|hs
   simpa using h1
   exact zp9 r (k+1) h s hs
def zzx (t:Turn) (x:Keep):Bool:=decide (x.Team=t.of/\x.Round=t.round)
theorem KeepsOk.one {r:Room} {k:List Keep} (h:KeepsOk r k) {t:Turn} {x y:Keep} (hx:x∈k) (hy:y∈k) (fx:zzx t x=true) (fy:zzx t y=true):y=x:=by
 simp [zzx] at fx fy
 rcases zBt h.lt x hx y hy with e|e|e
 exact e.symm
 exfalso
 rcases e with e|⟨e1,e2⟩
 rw [fx.1,fy.1,zaJ] at e;cases e
 omega
 exfalso
 rcases e with e|⟨e1,e2⟩
 rw [fx.1,fy.1,zaJ] at e;cases e
 omega
def zvI (k:List Keep) (l:List Pick) (s:Str):Bool:=k.any (fun x=>x.Player==s)||l.any (fun p=>p.Player==s)
end
section
section
variable {r:Room} {k:List Keep} {fr l:List Pick} {p:Pick}
end
structure Wish where
 Team:Str
 Players:List Str
theorem zzC (k:List Keep) (l:List Pick) (p:Pick) (s:Str):zvI k (l++[p]) s=(zvI k l s||p.Player==s):=by
 simp [zvI,Cy]
/-! what a run holds-/
structure RunOk (r:Room) (k:List Keep) (s:List Swap) (l:List Pick) (S:List Str):Prop where
 gone: ∀x∈r.Players,S.contains x=zvI k l x
theorem RunOk.add {r:Room} {k:List Keep} {s:List Swap} {l:List Pick} {S:List Str} (ok:RunOk r k s l S) (p:Pick):RunOk r k s (l++[p]) (zbW p.Player S):=
 ⟨fun x hx=>by rw [zzC,zoO,ok.gone x hx]⟩
end
section
theorem zpM {α:Type} {p:α->Bool} {l:List α} (h:0<=zS p l 0): ∃(i:Nat) (x:α),zS p l 0=(i:Int)/\l[i]? =some x/\l.find? p=some x:=by
 obtain ⟨i,h1,h2,⟨x,hx,hp⟩,hb⟩:=ze6 p l 0 (by omega) (by omega);refine ⟨i,x,by omega,hx,?_⟩
 have e:l=l.take i++x::l.drop (i+1):=by rw [<-zi hx,Bo]
 rw [e,List.find?_append,List.find?_eq_none.2 (by simpa using hb)]
 simp [hp]
theorem zpN {α:Type} {p:α->Bool} {l:List α} (h:zS p l 0<0):l.find? p=none:=by
 have:=zb9 p l 0 (by omega);rw [List.find?_eq_none]
 intro x hx hp
 have h1:l.any p=true:=List.any_eq_true.2 ⟨x,hx,hp⟩;rw [<-this] at h1
 simp at h1;omega
section
variable {r:Room} {w:List Wish} {k:Nat} {x:Wish} {t:List Wish}
end
end
end Go.HL
namespace Go.Proofs.YtabpobhnedkkeaaGreatDoor
set_option maxRecDepth 100000
set_option linter.unusedVariables false
set_option linter.unusedSimpArgs false
section
open Go.HL
set_option linter.unusedSimpArgs false
end
section
open Go.HL
set_option linter.unusedSimpArgs false
end
section
open Go.HL
set_option linter.unusedSimpArgs false
end
section
open Go.HL
set_option linter.unusedSimpArgs false
end
section
open Go.HL
set_option linter.unusedSimpArgs false
end
section
open Go.HL
set_option linter.unusedSimpArgs false
end
section
open Go.Proofs.Tryz
open Go.HL
theorem zgy [Tracks] {b:Nat} {l:List Int} {a:Nat} {n:Nat} (ha:a<=800000) (hn1:1<=n) (hn2:n<=1000):Con prog 214 [pAt b,.int .i64 (n:Int)] [St b l a] (fun x M'=> ∃(L:List Int) (a':Nat),x= .slice 1 (L.map (.int .i64))/\(L.length=n/\∀i∈L,(0:Int)<=i/\i<n)/\a'<=a+n/\M'=[St b l a']):=by
 refine uOb func214 ntmps214 ?_;refine gz6 ?_;refine zd (zJ 1) ?_;refine gz6 ?_;refine uV3 [5,2,10,8] (fun (k:Nat) (u:Value) (L:List Int)=>[(10,.int .i64 (k:Int)),(5,.raw u)]) (fun (k:Nat) (u:Value) (L:List Int)=>[.arr u 1 (L.map (HVal.int .i64)),St b l a]) (fun (k:Nat) (u:Value) (L:List Int)=>k<=n/\L.length=k/\∀i∈L,(0:Int)<=i/\i<n) (fun (k:Nat) (u:Value) (L:List Int)=>n-k) (0) (.slice none 0 0) ([]) ?_ ?_ ?_ ?_;exact ⟨by omega,rfl,by simp⟩;exact ⟨rfl,rfl,trivial⟩;exact zl rfl
 intro k u L hinv
 obtain ⟨hk,hL,hLb⟩:=hinv;refine gz4 ?_;refine uCo (fun h1=> ?_) fun h2=> ?_
 have hkn:k<n:=by omega
 refine zcg ?_;refine dq (za (hs:=[_]) zab ty3 rfl rfl (by decide) (by decide) rfl) ?_;refine de rfl (zH (i:=0) zab ty3 rfl rfl rfl rfl rfl (by simp [zan,zb]) uSo fun v16=> ?_)
 refine gz8 ?_;exact ⟨k+1,v16,L++[(k:Int)],⟨by omega,by simp [hL],fun i hi=>by rcases List.mem_append.1 hi with h|h;exact hLb i h;(simp at h;omega)⟩,uD,⟨rfl,rfl,trivial⟩,uK,zl (by simp)⟩;obtain rfl:n=k:=by omega
 refine gz2 ?_;refine zcE ?_;refine gz3 ?_;refine zd (Ghost.perm (M':=[St b l a,.arr u 1 (L.map (.int .i64))]) uP) ?_;refine zc3 (i:=1) rfl (fun h0 he=> ?_) (fun ob off cap hv hcap=> ?_)
 exfalso;have:=congrArg List.length he;simp at this;subst this;simp at hL;omega
 rw [Af,hL] at hv hcap;subst hv;refine gz6 ?_;refine uV3 [7,2,20,22] (fun (m:Nat) (L:List Int) (a2:Nat)=>[(7,.int .i64 (m:Int))]) (fun (m:Nat) (L:List Int) (a2:Nat)=>[St b l a2,.arr (.slice (some ⟨ob,off,none⟩) n cap) 1 (L.map (HVal.int .i64))]) (fun (m:Nat) (L:List Int) (a2:Nat)=>m<n/\(L.length=n/\∀i∈L,(0:Int)<=i/\i<n)/\a2+m<=a+n) (fun (m:Nat) (L:List Int) (a2:Nat)=>m) (n-1) (L) (a) ?_ ?_ ?_ ?_;exact ⟨by omega,⟨hL,hLb⟩,by omega⟩;exact ⟨zU uO,trivial⟩;exact Ac _
 intro m L a2 hinv
 obtain ⟨hm,⟨hL,hLb⟩,ha2⟩:=hinv;refine gz5 ?_;refine uCo (fun h3=> ?_) fun h4=> ?_
 have hm0:0<m:=by omega
 refine gz8 ?_;refine de rfl (uCx 0 zj7 rfl rfl (zao uO uO) ?_)
 rintro _ _ ⟨y27,rfl,hy27,rfl⟩;refine gz2 ?_;obtain ⟨z1,hz1⟩: ∃z,L[y27]? =some z:=⟨_,Aa uO⟩
 obtain ⟨z2,hz2⟩: ∃z,L[m]? =some z:=⟨_,Aa uO⟩
 obtain ⟨z3,hz3⟩: ∃z,(L.set m z1)[y27]? =some z:=⟨_,Aa uSo⟩
 refine zbx (fun M=> ∃i:Nat,M[i]? =some (.arr (.slice (some ⟨ob,off,none⟩) n cap) 1 (L.map (HVal.int .i64)))) [7,11] mixed ?_;refine gz6 ?_;refine uB 6 rfl (zM (j:=y27) zab ty3 rfl rfl rfl uO) ?_;refine uM 7 rfl (⟨1,rfl⟩) (fun M hM=>by obtain ⟨i,hi⟩:=hM;exact zaC (i:=i) (j:=y27) 0 ty3 rfl uO hi hz1 rfl rfl ⟨rfl,rfl⟩) ?_;refine gz2 ?_;refine uB 10 rfl (zM (j:=m) zab ty3 rfl rfl rfl uO) ?_;refine uM 11 rfl (⟨1,rfl⟩) (fun M hM=>by obtain ⟨i,hi⟩:=hM;exact zaC (i:=i) (j:=m) 0 ty3 rfl uO hi hz2 rfl rfl ⟨rfl,rfl⟩) ?_;refine uB 12 rfl (zM (j:=m) zab ty3 rfl rfl rfl uO) ?_;refine uF 13 ?_;refine zI (zby (i:=1) (f:=HVal.int .i64) (es:=L) (j:=m) (y:=z2) (y':=z1) ty3 rfl rfl rfl rfl hz2 rfl rfl rfl ?_)
 refine ⟨uE,?_⟩
 refine uB 14 rfl (zM (j:=y27) zab ty3 rfl rfl rfl uO) ?_;refine uF 15 ?_;refine zI (zby (i:=1) (f:=HVal.int .i64) (es:=L.set m z1) (j:=y27) (y:=z3) (y':=z2) ty3 rfl rfl rfl rfl hz3 rfl rfl rfl ?_)
 refine ⟨uE,?_⟩
 refine gz8 ?_;exact ⟨m-1,(L.set m z1).set y27 z2,a2+1,⟨by omega,⟨by simp [hL],zgd (P:=fun i:Int=>0<=i/\i<n) (zgd (P:=fun i:Int=>0<=i/\i<n) hLb (hLb z1 (Ab hz1))) (hLb z2 (Ab hz2))⟩,by omega⟩,uD,⟨zU uO,trivial⟩,uK,zl (by simp [List.map_set])⟩;refine gz2 ?_;refine zcE ?_;refine gz7 ?_;refine zA (zay 4 (i:=1) rfl rfl) rfl ⟨L,a2,rfl,⟨hL,hLb⟩,by omega,rfl⟩
end
section
open Go.HL
set_option linter.unusedSimpArgs false
end
end Go.Proofs.YtabpobhnedkkeaaGreatDoor
namespace Go.HL
section
variable {P:Program}
open Go.Sort Go.Proofs
theorem zsq [Tracks] {I:Imm} {F:List MObj} {w:World} {b off n cap:Nat} {l:List Int} (h:Sat P I (.arr (.slice (some ⟨b,off,none⟩) n cap) 1 (l.map (.int .i64))::F) w):
 Holds (Value.int .i64) w b off l.toArray/\b<w.heap.size/\l.length<=cap/\n=l.length:=by
 obtain ⟨h0,rc,el,fr,h2,h3,h4,h5,h6,h7⟩:=zhN h;simp only [Af] at h0 h5;refine ⟨fun j hj=> ?_,?_,h5.1,h0⟩
 have hj':j<l.length:=by simpa using hj
 have hlt:off+j<rc.size:=by omega
 constructor
 rw [zcu h2,Aq hlt];have hv:=h7 j 0 (.int .i64 l[j]) (.int .i64 l[j]) rc[off+j] (by simp [hj']) (by simp [zb]) (by simp [Aq hlt]);rw [hv.int_inv]
 simp [hj']
 simp only [World.frozen?,h2];have:=h3 (off+j) hlt
 simpa using this
 rcases AC b w.heap.size with h'|h'
 exact h'
 simp [Av h'] at h2
theorem zxl [Tracks] {I:Imm} {F:List MObj} {w:World} {b off n cap n' k:Nat} {os:Array Obj} {l zs:List Int} (h:Sat P I (.arr (.slice (some ⟨b,off,none⟩) n cap) 1 (l.map (.int .i64))::F) w) (hz:zs.length=l.length) (hn:n'<=l.length):
 Sat P I (.arr (.slice (some ⟨b,off,none⟩) n' cap) 1 ((zs.take n').map (.int .i64))::F) (grow (putRow (Value.int .i64) (Sort.ahead w k) b off zs.toArray) os):=by
 obtain ⟨h0,rc,el,fr,h2,h3,h4,h5,h6,h7⟩:=zhN h;simp only [Af] at h0 h5;have hlt:b<w.heap.size:=by
  rcases AC b w.heap.size with h'|h'
  exact h'
  simp [Av h'] at h2
 have hheap: ∀c,c<w.heap.size->(grow (putRow (Value.int .i64) (Sort.ahead w k) b off zs.toArray) os).heap[c]? =(w.heap.modify b (onCells (putCells (Value.int .i64) off zs.toArray)))[c]?:=fun c hc=>by
  simp only [grow,putRow,mapBlock,Sort.ahead];rw [AF (by simpa using hc)]
 refine h.change (m':= .arr (.slice (some ⟨b,off,none⟩) n' cap) 1 ((zs.take n').map (.int .i64))) (fun c hc hnc=> ?_) (fun c hc=> .inl hc) (by simp [MObj.blocks]) ?_ rfl rfl rfl
 rw [hheap c hc,AG];have:b≠c:=fun hh=>hnc (by subst hh;simp [MObj.blocks])
 rw [if_neg this];refine .inr ⟨b,off,cap,putCells (Value.int .i64) off zs.toArray rc,el,fr,?_,?_,?_,?_,?_,?_,?_⟩
 simp [hz,Ci hn]
 rw [hheap b hlt,AG,if_pos rfl,h2];rfl
 simpa [putCells] using h3
 intro e he;obtain ⟨a,_,rfl⟩:=List.mem_map.1 he;simp [zb]
 simp;omega
 simpa [putCells] using h6
 intro i j e c v a1 a2 a3
 have hi:i<n':=by
  have:=zn a1;simp at this;omega
 rw [Aj,AD hi] at a1
 cases hq:zs[i]? with
 |none=>rw [hq] at a1;simp at a1
 |some s=>
   rw [hq] at a1;simp at a1;subst a1;have hj:j=0:=by have:=zn a2;simp [zb] at this;omega
   subst hj
   simp [zb] at a2;subst a2
   have hil:i<zs.length:=zn hq;have hr:off+i*1+0<rc.size:=by omega
   rw [putCells,CB,Aq hr,AI,if_pos ⟨by omega,by simp;omega⟩] at a3;have e1:off+i*1+0-off=i:=by omega
   rw [e1] at a3;have e2:zs.toArray[i]! =s:=by
    rw [getElem!_pos zs.toArray i (by simpa using hil)];have:=Aa hil;rw [hq] at this;simpa using (As this).symm
   rw [e2] at a3
   cases a3
   exact .int _ s
theorem zB5 [Tracks] {P:Program} {f:FuncId} {l zs:List Int} {v:Value} (hz:zs.length=l.length)
 (h1: ∀(b off cap:Nat) (w:World),Holds (Value.int .i64) w b off l.toArray->b<w.heap.size->l.length<=cap->Calls P f #[.slice (some ⟨b,off,none⟩) l.length cap] w fun e w'=>e= .returned (.tuple #[])/\∃n os,w'=grow (putRow (Value.int .i64) (Sort.ahead w n) b off zs.toArray) os)
 (h0:l=[]->ConP P f [.slice 1 []] (.tup [])):Con P f [.raw v] [.arr v 1 (l.map (.int .i64))] fun x M'=>x= .tup []/\M'=[.arr v 1 (zs.map (.int .i64))]:=by
 intro I F w args ha hs
 obtain ⟨u,rfl,hu⟩:=ha.one;obtain rfl:u=v:=hu.raw_inv
 rcases hs.obj (.arr u 1 (l.map (.int .i64))) (by simp) with ⟨rfl,hn⟩|⟨b,off,cap,rc,el,fr,rfl,_⟩
 have hl:l=[]:=by simpa using hn
 subst hl;have hz0:zs=[]:=List.length_eq_zero_iff.1 hz;subst hz0;refine (h0 rfl I (.arr (.slice none 0 0) 1 []::F) w [.slice none 0 0] (VL.cons (.slice0 _ _ _) VL.nil) (by simpa using hs)).mono ?_;rintro _ w' ⟨v,h,M',J,rfl,hle,⟨rfl,rfl⟩,hv,hsat⟩;exact ⟨v,_,[.arr (.slice none 0 0) 1 []],J,rfl,hle,⟨rfl,rfl⟩,hv,by simpa using hsat⟩;rw [Af] at hs⊢;obtain ⟨g1,g2,g3,g4⟩:=zsq hs;refine (h1 b off cap w g1 g2 g3).mono ?_;rintro _ w' ⟨rfl,n,os,rfl⟩;refine ⟨_,.tup [],_,I,rfl,.refl I,⟨rfl,rfl⟩,.tup (by simp) (fun j c v h _=>by simp at h),?_⟩
 have:=zxl (n':=l.length) (k:=n) (os:=os) hs hz (Ae _);rw [<-hz,Am,hz] at this;exact this
theorem zAG [Tracks] {P:Program} {f:FuncId} {l zs:List Int} {v:Value} (hz:zs.length<=l.length)
 (h1: ∀(b off cap:Nat) (w:World),Holds (Value.int .i64) w b off l.toArray->b<w.heap.size->l.length<=cap->Calls P f #[.slice (some ⟨b,off,none⟩) l.length cap] w fun e w'=>e= .returned (.slice (some ⟨b,off,none⟩) zs.length cap)/\∃n,w'=putRow (Value.int .i64) (Sort.ahead w n) b off (zs++List.replicate (l.length-zs.length) 0).toArray)
 (h0:l=[]->∀w,Calls P f #[.slice none 0 0] w fun e w'=>e= .returned (.slice none 0 0)/\w'=w):Con P f [.raw v] [.arr v 1 (l.map (.int .i64))] fun x M'=> ∃u,x= .raw u/\M'=[.arr u 1 (zs.map (.int .i64))]:=by
 intro I F w args ha hs
 obtain ⟨u,rfl,hu⟩:=ha.one;obtain rfl:u=v:=hu.raw_inv
 rcases hs.obj (.arr u 1 (l.map (.int .i64))) (by simp) with ⟨rfl,hn⟩|⟨b,off,cap,rc,el,fr,rfl,_⟩
 have hl:l=[]:=by simpa using hn
 subst hl;have hz0:zs=[]:=List.length_eq_zero_iff.1 (by simpa using hz);subst hz0;refine (h0 rfl w).mono ?_;rintro _ w' ⟨rfl,rfl⟩;exact ⟨_,.raw (.slice none 0 0),_,I,rfl,.refl I,⟨_,rfl,rfl⟩,.raw _ rfl,hs⟩;rw [Af] at hs⊢;obtain ⟨g1,g2,g3,g4⟩:=zsq hs;refine (h1 b off cap w g1 g2 g3).mono ?_;rintro _ w' ⟨rfl,n,rfl⟩;refine ⟨_,.raw (.slice (some ⟨b,off,none⟩) zs.length cap),_,I,rfl,.refl I,⟨_,rfl,rfl⟩,.raw _ rfl,?_⟩
 have:=zxl (zs:=zs++List.replicate (l.length-zs.length) 0) (n':=zs.length) (k:=n) (os:= #[]) hs (by simp;omega) hz;rw [List.take_left' rfl,grow_empty] at this;exact this
theorem zwQ {l:List Int} {z:Int}:z∈Lib.compact l↔z∈l:=by
 unfold Lib.compact Lib.compactUpTo;rw [B8];have hget: ∀j,(hj:j<l.length)->l.toArray[j]! =l[j]:=fun j hj=>by rw [getElem!_pos l.toArray j (by simpa using hj)];simp
 constructor
 rintro ⟨j,hj,rfl⟩;have hlt:=List.mem_range.1 (List.mem_filter.1 hj).1;rw [hget j hlt];exact Bg _
 intro hz
 obtain ⟨j,hj⟩:=A5 hz
 induction j with
 |zero=>
   have h0:=zn hj;refine ⟨0,List.mem_filter.2 ⟨List.mem_range.2 h0,by simp [Lib.keeps]⟩,?_⟩
   rw [hget 0 h0];rw [Aa h0] at hj;exact As hj
 |succ j ih=>
   have h1:=zn hj;have e1:l[j+1]=z:=by
    rw [Aa h1] at hj;exact As hj
   by_cases h:l[j]? =some z
   exact ih h;refine ⟨j+1,List.mem_filter.2 ⟨List.mem_range.2 h1,?_⟩,?_⟩
   unfold Lib.keeps;rw [decide_eq_true_eq]
   right
   rw [hget _ h1,BE,hget j (by omega),e1]
   intro e
   apply h
   rw [Aa (by omega),<-e];rw [hget _ h1,e1]
def zox (l:List Int):List Int:=l.mergeSort fun x y=>decide (x<=y)
theorem zqe (l:List Int):(zox l).length=l.length:=by simp [zox]
theorem zBg {l:List Int} {z:Int}:z∈zox l↔z∈l:=(A2 _ _).mem_iff
theorem zq1 (l:List Int):(Lib.compact l).length<=l.length:=by
 unfold Lib.compact Lib.compactUpTo;rw [Af];exact An (AK _ _) (by simp)
end
end Go.HL
namespace Go.Proofs.YtabpobhnedkkeaaGreatDoor
set_option maxRecDepth 100000
set_option linter.unusedVariables false
set_option linter.unusedSimpArgs false
section
open Go.Proofs.Tryz
open Go.HL
theorem zdK [Tracks] {l:List Play} {fid:FuncId} {caps:List HVal} {p:Play->Bool} (hca:Callable prog fid) (hp: ∀x,ConP prog fid ([zak x]++caps) (.bool (p x))) (hl:l.length<=1000000):ConP prog 314 [.slice 9 (l.map zak),.fn (.func fid) [] caps] (.int .i64 (zS p l 0)):=by
 refine uOb func314 ntmps314 ?_;refine zau ?_;refine uT1 [4,2,8,11] (fun k=>[(8,.int .i64 k)]) (fun k=>[]) (fun k=>k<=l.length/\(zS p l 0=zS p (l.drop k) k)) (fun k=>l.length-k) (0) ?_ ?_;exact ⟨Ad _,rfl⟩;rintro k ⟨hk,hg⟩;refine gz4 ?_;refine uCo (fun h1=> ?_) fun h2=> ?_
 obtain ⟨x,hx⟩: ∃x,l[k]? =some x:=⟨_,Aa h1⟩
 have hdx:=zi hx;rw [hdx] at hg;refine zdw ?_;refine dq (zag hca rfl rfl (WeakL.refl _) (hp _)) ?_;refine gz1 ?_;refine uCo (fun h3=> ?_) fun h4=> ?_
 refine gz5 ?_;refine uRp ?_
 (rw [hg];simp_all [zS])
 refine gz7 ?_;refine ⟨k+1,?_,?_,⟨rfl,trivial⟩,uK,Ac _⟩
 refine ⟨by omega,?_⟩
 rw [hg,zS,if_neg uSa];rfl
 dsimp only;omega
 have hnk:l.length<=k:=by omega
 obtain rfl:k=l.length:=by omega
 rw [zz (Ae _)] at hg;refine gz2 ?_;refine zv ?_;refine gz6 ?_;refine uRp ?_
 (rw [hg];rfl)
theorem zf3 [Tracks] {l:List Play} {fid:FuncId} {caps:List HVal} {p:Play->Bool} (hca:Callable prog fid) (hp: ∀x,ConP prog fid ([zak x]++caps) (.bool (p x))) (hl:l.length<=1000000):ConP prog 262 [.slice 9 (l.map zak),.fn (.func fid) [] caps] (.bool (l.any p)):=by
 refine uOb func262 ntmps262 ?_;refine gz6 ?_;refine dq (uCl zD0 rfl (zdK hca hp hl)) ?_;refine gz4 ?_;refine zu rfl ?_
 congr 1;exact zb9 p l 0 uO
theorem zdL [Tracks] {l:List StatS} {fid:FuncId} {caps:List HVal} {p:StatS->Bool} (hca:Callable prog fid) (hp: ∀x,ConP prog fid ([zaG x]++caps) (.bool (p x))) (hl:l.length<=1000000):ConP prog 309 [.slice 2 (l.map zaG),.fn (.func fid) [] caps] (.int .i64 (zS p l 0)):=by
 refine uOb func309 ntmps309 ?_;refine zau ?_;refine uT1 [4,2,8,11] (fun k=>[(8,.int .i64 k)]) (fun k=>[]) (fun k=>k<=l.length/\(zS p l 0=zS p (l.drop k) k)) (fun k=>l.length-k) (0) ?_ ?_;exact ⟨Ad _,rfl⟩;rintro k ⟨hk,hg⟩;refine gz4 ?_;refine uCo (fun h1=> ?_) fun h2=> ?_
 obtain ⟨x,hx⟩: ∃x,l[k]? =some x:=⟨_,Aa h1⟩
 have hdx:=zi hx;rw [hdx] at hg;refine zdw ?_;refine dq (zag hca rfl rfl (WeakL.refl _) (hp _)) ?_;refine gz1 ?_;refine uCo (fun h3=> ?_) fun h4=> ?_
 refine gz5 ?_;refine uRp ?_
 (rw [hg];simp_all [zS])
 refine gz7 ?_;refine ⟨k+1,?_,?_,⟨rfl,trivial⟩,uK,Ac _⟩
 refine ⟨by omega,?_⟩
 rw [hg,zS,if_neg uSa];rfl
 dsimp only;omega
 have hnk:l.length<=k:=by omega
 obtain rfl:k=l.length:=by omega
 rw [zz (Ae _)] at hg;refine gz2 ?_;refine zv ?_;refine gz6 ?_;refine uRp ?_
 (rw [hg];rfl)
theorem zf4 [Tracks] {l:List StatS} {fid:FuncId} {caps:List HVal} {p:StatS->Bool} (hca:Callable prog fid) (hp: ∀x,ConP prog fid ([zaG x]++caps) (.bool (p x))) (hl:l.length<=1000000):ConP prog 267 [.slice 2 (l.map zaG),.fn (.func fid) [] caps] (.bool (l.any p)):=by
 refine uOb func267 ntmps267 ?_;refine gz6 ?_;refine dq (uCl zDZ rfl (zdL hca hp hl)) ?_;refine gz4 ?_;refine zu rfl ?_
 congr 1;exact zb9 p l 0 uO
theorem ztu [Tracks] {l:List Int} {v:Value} (hl:l.length<=1000000):Con prog 260 [.raw v] [.arr v 1 (l.map (.int .i64))] fun x M'=>x= .tup []/\M'=[.arr v 1 ((zox l).map (.int .i64))]:=
 zB5 (zqe l) (fun b off cap w h1 h2 _=>Any.slices_Sort_int zo3 b off cap l w h1 h2 uO) (fun _=>zvp fun I w args ha=>by
  obtain ⟨u,rfl,hu⟩:=ha.one;obtain ⟨p,cap,rfl⟩:=hu.slice_len;exact ⟨.tuple #[],.tup (by simp) (fun j c v h _=>by simp at h),Any.slices_Sort_int_none zo3 p cap w⟩)
theorem zqV [Tracks] {l:List Int} {v:Value} (hl:l.length<=1000000):Con prog 261 [.raw v] [.arr v 1 (l.map (.int .i64))] fun x M'=> ∃u,x= .raw u/\M'=[.arr u 1 ((Lib.compact l).map (.int .i64))]:=
 zAG (zq1 l) (fun b off cap w h1 _ h3=>Any.slices_Compact_int zo5 b off cap l w h1 uO h3) (fun _ w=>Any.slices_Compact_int_empty zo5 none 0 w)
theorem zmA [Tracks] {l:List Int} {z:Int} (hl:l.length<=1000000):ConP prog 264 [.slice 1 (l.map (.int .i64)),.int .i64 z] (.int .i64 (zS (· ==z) l 0)):=by
 refine uOb func264 ntmps264 ?_;refine zau ?_;refine uT1 [4,2,8,11] (fun k=>[(8,.int .i64 k)]) (fun k=>[]) (fun k=>k<=l.length/\(zS (· ==z) l 0=zS (· ==z) (l.drop k) k)) (fun k=>l.length-k) (0) ?_ ?_;exact ⟨Ad _,rfl⟩;rintro k ⟨hk,hg⟩;refine gz4 ?_;refine uCo (fun h1=> ?_) fun h2=> ?_
 obtain ⟨x,hx⟩: ∃x,l[k]? =some x:=⟨_,Aa h1⟩
 have hdx:=zi hx;rw [hdx] at hg;refine zrB ?_;refine uCo (fun h3=> ?_) fun h4=> ?_
 refine gz5 ?_;refine uRp ?_
 (rw [hg];simp_all [zS])
 refine gz7 ?_;refine ⟨k+1,?_,?_,⟨rfl,trivial⟩,uK,Ac _⟩
 refine ⟨by omega,?_⟩
 rw [hg,zS,if_neg (by simp_all;try omega)];rfl
 dsimp only;omega
 have hnk:l.length<=k:=by omega
 obtain rfl:k=l.length:=by omega
 rw [zz (Ae _)] at hg;refine gz2 ?_;refine zv ?_;refine gz6 ?_;refine uRp ?_
 (rw [hg];rfl)
theorem zd8 [Tracks] {l:List Int} {z:Int} (hl:l.length<=1000000):ConP prog 186 [.slice 1 (l.map (.int .i64)),.int .i64 z] (.bool (l.contains z)):=by
 refine uOb func186 ntmps186 ?_;refine gz6 ?_;refine dq (uCl zIc rfl (zmA (by assumption))) ?_;refine gz4 ?_;refine zu rfl ?_
 show HVal.bool _=_
 rw [zvq,<-zb9 _ l 0 uO]
theorem zcZ [Tracks] {n:Int}:ConP prog 6 [.int .i64 n] (.int .i64 (if zar n then 0 else 1)):=by
 refine uOb func6 ntmps6 ?_;refine gz5 ?_;refine dq (uCl ca26 rfl zid) ?_;refine gz3 ?_;refine uRp ?_;unfold zar
 cases out n 1 60<;>rfl
theorem zmZ [Tracks] {p:Play} (hgp:zdR p):ConP prog 145 [zak p] (.int .i64 (playFault p)):=by
 refine uOb func145 ntmps145 ?_;refine gz9 ?_;refine dq (uCl zkx rfl (zcd hgp.1)) ?_;refine gz3 ?_;refine uCo (fun h1=> ?_) fun h2=> ?_
 refine gz4 ?_;refine uRp ?_
 simp_all [playFault]
 refine gz3 ?_;refine dq (uCl zps rfl zc0) ?_;refine gz4 ?_;refine uGr rfl (fun hc=>uCl ca7 rfl zb0) ?_;refine gz5 ?_;refine uGr rfl (fun hc=>uCl ca6 rfl zcZ) ?_;refine gz4 ?_;refine uCo (fun h3=> ?_) fun h4=> ?_
 refine gz4 ?_;refine uRp ?_
 simp_all [playFault]
 refine gz3 ?_;refine dq (uCl zkx rfl (zcd hgp.2.1)) ?_;refine gz4 ?_;refine uGr rfl (fun hc=>uCl zkx rfl (zcd hgp.2.2.1)) ?_;refine gz5 ?_;refine uGr rfl (fun hc=>uCl zkx rfl (zcd hgp.2.2.2)) ?_;refine gz4 ?_;refine uCo (fun h5=> ?_) fun h6=> ?_
 refine gz4 ?_;refine uRp ?_
 simp_all [playFault]
 refine gz3 ?_;refine dq (uCl zps rfl zc0) ?_;refine gz6 ?_;have hN:=zhK (n:=p.No) (lo:=1) (hi:=3000) uSa;refine gz1 ?_;refine uGr rfl (fun hc=>uCl zps rfl zc0) ?_;refine gz4 ?_;refine uCo (fun h7=> ?_) fun h8=> ?_
 refine gz4 ?_;refine uRp ?_
 simp_all [playFault]
 refine zcg ?_;refine uCo (fun h9=> ?_) fun h10=> ?_
 refine gz4 ?_;refine uRp ?_
 simp_all [playFault]
 refine gz7 ?_;refine uRp ?_
 simp_all [playFault]
theorem zpd [Tracks] {a b:Play}:ConP prog 146 [zak a,zak b] (.int .i64 (byNo a b)):=by
 refine uOb func146 ntmps146 ?_;refine gz5 ?_;refine uDr mixed ?_;refine gz4 ?_;refine uB 4 rfl (uCl zcO rfl zR) ?_;refine gz4 ?_;refine uB 9 rfl (uCl zdT rfl z6) ?_;refine uB 10 rfl (za (hs:=[_,_]) zab ty3 rfl rfl (by decide) (by decide) rfl) ?_;refine uB 11 rfl (uCl zg7 rfl (zbP (l:=[_,_]) (by simp))) ?_;refine gz3 ?_;refine zu rfl ?_
 rfl
theorem zmo [Tracks] {l:List Play} (hl:l.length<=1000000) (hgl: ∀x∈l,zdR x):ConP prog 66 [zbK l] (.int .i64 (zb7 l)):=by
 refine uOb func66 ntmps66 ?_;refine gz9 ?_;refine uCo (fun h1=> ?_) fun h2=> ?_
 refine gz4 ?_;refine zA Ghost.clear rfl ⟨?_,rfl⟩
 show HVal.int .i64 _=_
 (rw [zb7,if_pos uO])
 refine gz3 ?_;refine de rfl (zax fun m12=> ?_)
 refine de rfl (zax fun m13=> ?_)
 refine zfe ?_;refine uT1 [2,1,5,4,16,48] (fun k=>[(16,.int .i64 k),(5,.bool (zbU (l.take k)).c)]) (fun k=>[.map m13 (sk (em (.int .i64) (zbU (l.take k)).W)),.map m12 (sk (zbd (zbU (l.take k)).S))]) (fun k=>k<=l.length/\(zca l 0 l=zca l k (l.drop k)/\∀y∈l.take k,playFault y=0)) (fun k=>l.length-k) (0) ?_ ?_;exact ⟨Ad _,rfl,by simp⟩;rintro k ⟨hk,hg,hok⟩;refine gz4 ?_;refine uCo (fun h3=> ?_) fun h4=> ?_
 obtain ⟨x,hx⟩: ∃x,l[k]? =some x:=⟨_,Aa h3⟩
 have hdx:=zi hx;rw [hdx] at hg;refine gz8 ?_;refine de rfl (zg zbf rfl fun b7=> ?_)
 refine gz1 ?_;refine de0 (zj zbf rfl rfl rfl rfl rfl ?_)
 refine gz1 ?_;refine zd (zm 7 rfl) ?_;refine gz3 ?_;refine dq (uCl zGV rfl (zmZ (hgl x (Ab hx)))) ?_;refine gz6 ?_;refine uCo (fun h5=> ?_) fun h6=> ?_
 refine gz5 ?_;refine zA Ghost.clear rfl ⟨?_,rfl⟩
 show HVal.int .i64 _=_
 (rw [zmd uO (by rw [hg,zca,if_pos (by simpa using h5)]) (by simpa using h5)])
 refine gz3 ?_;refine uDr mixed ?_;refine gz6 ?_;refine uGy 6 rfl rfl (fun hc=>by have hq:=hc;(try simp at hq);exact zB (j:=k-1) (a:=l.getD (k-1) zkG) zh7 zbf rfl rfl uO (getD_some uO)) ?_;refine gz2 ?_;refine uGy 9 rfl rfl (fun hc=>uCl zGW rfl zpd) ?_;refine gz3 ?_;refine uCo (fun h7=> ?_) fun h8=> ?_
 refine gz4 ?_;refine zA Ghost.clear rfl ⟨?_,rfl⟩
 show HVal.int .i64 _=_
 (rw [zmd (c:=7) uO (by rw [hg,zca,if_neg (by simpa using h6),if_pos (by obtain ⟨qa,qb⟩:=h7;have qb':0<=byNo (l.getD (k-1) zkG) x:=(by simpa using qb);rw [zjB];exact ⟨by omega,by omega⟩)]) (by decide)])
 refine gz6 ?_;refine de0 (zdv (i:=1) zjy ty9 rfl rfl rfl rfl ?_)
 refine gz7 ?_;refine dgl rfl rfl (fun hc=>⟨_,OpenTo.upd (t:=45) rfl (hc) (OpenTo.upd (t:=43) rfl (hc) (OpenTo.refl _)),zct (i:=0) (z0:=(0:Int)) zcT ty9 ty3 rfl rfl rfl rfl ⟨rfl,rfl⟩⟩) ?_;refine gz5 ?_;refine dgl rfl rfl (fun hc=>⟨_,OpenTo.upd (t:=51) rfl (hc) (OpenTo.upd (t:=49) rfl (hc) (OpenTo.refl _)),zct (i:=0) (z0:=(0:Int)) zcT ty9 ty3 rfl rfl rfl rfl ⟨rfl,rfl⟩⟩) ?_;refine zfe ?_;refine de0 (zbj (i:=0) zcT ty9 rfl rfl rfl rfl ?_)
 refine gz7 ?_;refine ⟨k+1,⟨by omega,?_,?_⟩,uD,⟨rfl,?_,trivial⟩,uK,?_⟩
 rw [hg,zol (by simpa using h6) (fun hk0=>by have hz:=h8;rw [zjB] at hz;simp_all;try omega)]
 intro y hy
 rw [zW hx] at hy
 rcases List.mem_append.1 hy with hy|hy
 exact hok y hy;rw [List.mem_singleton.1 hy];simpa using h6;rw [zfP hx,<-zEr hok];exact congrArg (fun b=>some (HVal.bool b)) (by cases (zbU (l.take k)).c<;>simp);exact zl (by dsimp only;rw [zfP hx];rfl);have hnk:l.length<=k:=by omega
 obtain rfl:k=l.length:=by omega
 rw [zz (Ae _)] at hg;rw [Am];refine gz2 ?_;refine zv ?_;refine gz4 ?_;have e1:(sk (zbd (zbU l).S)).length=(zbU l).S.length:=by simp [sk,zbd]
 have e2:(sk (em (HVal.int .i64) (zbU l).W)).length=(zbU l).W.length:=by simp [sk]
 refine gz2 ?_;refine de rfl (ze2 (i:=1) zjy rfl rfl ?_)
 refine gz3 ?_;refine dgl rfl rfl (fun hc=>⟨_,OpenTo.upd (t:=69) rfl (hc) (OpenTo.refl _),ze2 (i:=0) zcT rfl rfl ⟨rfl,rfl⟩⟩) ?_;refine gz4 ?_;refine uCo (fun h9=> ?_) fun h10=> ?_
 refine gz4 ?_;refine zA Ghost.clear rfl ⟨?_,rfl⟩
 show HVal.int .i64 _=_
 (rw [zgh uO hg,zfL,if_pos uO])
 refine gz4 ?_;refine uCo (fun h11=> ?_) fun h12=> ?_
 refine gz4 ?_;refine zA Ghost.clear rfl ⟨?_,rfl⟩
 show HVal.int .i64 _=_
 (rw [zgh uO hg,zfL,if_neg uO,if_pos (by assumption)])
 refine gz7 ?_;refine zA Ghost.clear rfl ⟨?_,rfl⟩
 show HVal.int .i64 _=_
 (rw [zgh uO hg,zfL,if_neg uO,if_neg uSa])
theorem zmp [Tracks] {l:List Str} (hl:l.length<=1000000) (hs: ∀s∈l,Sh s):ConP prog 142 [eSs l] (.int .i64 (zcB l)):=by
 refine uOb func142 ntmps142 ?_;refine gz9 ?_;refine uCo (fun h1=> ?_) fun h2=> ?_
 refine gz4 ?_;refine uRp ?_
 (rw [zcB,if_pos uO])
 refine gz9 ?_;refine uT1 [2,3,10,16] (fun k=>[(10,.int .i64 k)]) (fun k=>[]) (fun k=>k<=l.length/\(zcB l=zeY l k (l.drop k))) (fun k=>l.length-k) (0) ?_ ?_;refine ⟨Ad _,?_⟩
 rw [zcB,if_neg uO];rfl;rintro k ⟨hk,hg⟩;refine gz4 ?_;refine uCo (fun h3=> ?_) fun h4=> ?_
 obtain ⟨x,hx⟩: ∃x,l[k]? =some x:=⟨_,Aa h3⟩
 have hdx:=zi hx;rw [hdx] at hg;refine zdw ?_;refine dq (uCl zkx rfl (zcd (hs x (Ab hx)))) ?_;refine gz3 ?_;refine uCo (fun h5=> ?_) fun h6=> ?_
 refine gz4 ?_;refine uRp ?_
 (rw [hg];simp_all [zeY])
 refine gz3 ?_;refine dq (zbC zo ty9 rfl rfl ⟨_,_,rfl,rfl⟩ uO uO) ?_;refine gz1 ?_;refine dq (uCl zgG rfl (zG uSo)) ?_;refine gz2 ?_;refine uCo (fun h7=> ?_) fun h8=> ?_
 refine gz4 ?_;refine uRp ?_
 (rw [hg];simp_all [zeY])
 refine gz8 ?_;refine ⟨k+1,?_,?_,⟨rfl,trivial⟩,uK,Ac _⟩
 refine ⟨by omega,?_⟩
 rw [hg];simp_all [zeY]
 dsimp only;omega
 have hnk:l.length<=k:=by omega
 obtain rfl:k=l.length:=by omega
 rw [zz (Ae _)] at hg;refine gz2 ?_;refine zv ?_;refine gz6 ?_;refine uRp ?_
 (rw [hg];simp_all [zeY])
theorem zmq [Tracks] {x:Play} {s m:Str} {n:Int}:ConP prog 263 [zak x,.vptr [.str s] 0,.vptr [.str m] 0,.vptr [.int .i64 n] 0] (.bool (x.Source==s&&x.Match==m&&decide (x.At<=n))):=by
 refine uOb func263 ntmps263 ?_;refine gz24 ?_;refine zu rfl ?_
 show HVal.bool _=_
 (simp_all)
theorem znz [Tracks] {l:List Play} {trust:List Str} {m:Str} {n:Int} (hl:l.length<=1000000) (ht:trust.length<=1000000):ConP prog 185 [zbK l,eSs trust,.str m,.int .i64 n] (.str (zfH l trust m n)):=by
 refine uOb func185 ntmps185 ?_;refine zdf ?_;refine uT1 [8,1,10,1,13,9] (fun k=>[(13,.int .i64 k)]) (fun k=>[]) (fun k=>k<=trust.length/\(zfH l trust m n=((trust.drop k).find? (zjU l m n)).getD [])) (fun k=>trust.length-k) (0) ?_ ?_;exact ⟨Ad _,rfl⟩;rintro k ⟨hk,hg⟩;refine gz4 ?_;refine uCo (fun h1=> ?_) fun h2=> ?_
 obtain ⟨x,hx⟩: ∃x,trust[k]? =some x:=⟨_,Aa h1⟩
 have hdx:=zi hx;rw [hdx] at hg;refine gz7 ?_;refine de rfl (zg ty9 rfl fun b10=> ?_)
 refine de0 (zj ty9 rfl rfl rfl rfl rfl ?_)
 refine gz1 ?_;refine zd (zm 10 rfl) ?_;refine gz3 ?_;refine dq (zP (h':= .bool (zjU l m n x)) (uCl zIa rfl (zf3 (l:=l) (p:=fun y=>y.Source==x&&y.Match==m&&decide (y.At<=n)) zIb (fun _=>zmq) hl)) rfl) ?_;refine gz1 ?_;refine uCo (fun h3=> ?_) fun h4=> ?_
 refine gz5 ?_;refine zu rfl ?_
 show HVal.str _=_
 (rw [hg,Cw uSa];rfl)
 refine gz7 ?_;refine ⟨k+1,?_,?_,⟨rfl,trivial⟩,uK,Ac _⟩
 refine ⟨by omega,?_⟩
 rw [hg,Cv uSa]
 dsimp only;omega
 have hnk:trust.length<=k:=by omega
 obtain rfl:k=trust.length:=by omega
 rw [zz (Ae _)] at hg;refine gz2 ?_;refine zv ?_;refine gz6 ?_;refine zu rfl ?_
 show HVal.str _=_
 (rw [hg];rfl)
theorem zoT [Tracks] {y x:Play} {n:Int}:ConP prog 315 [zak y,.vptr (zb (zak x)) 0,.vptr [.int .i64 n] 0] (.bool (zj0 [] n x y)):=by
 refine uOb func315 ntmps315 ?_;refine gz40 ?_;refine zdf ?_;refine zu rfl ?_
 show HVal.bool _=_
 unfold zj0
 cases y.Source==x.Source<;>cases y.No==x.Undo<;>cases y.Undo==0<;>cases y.Match==x.Match<;>cases y.Player==x.Player<;>cases y.Stat==x.Stat<;>simp_all
theorem zqK [Tracks] {l:List Play} {i:Nat} {x:Play} {n:Int} (hl:l.length<=1000000) (hx:l[i]? =some x):ConP prog 259 [zbK l,.int .i64 (i:Int),.int .i64 n] (.int .i64 (zhE l x n)):=by
 refine uOb func259 ntmps259 ?_;refine gz7 ?_;refine dq (zB (j:=i) (a:=x) zh7 zbf rfl rfl rfl hx) ?_;refine gz1 ?_;refine de rfl (zg zbf rfl fun b7=> ?_)
 refine de0 (zj zbf rfl rfl rfl rfl rfl ?_)
 refine gz1 ?_;refine zd (zm 7 rfl) ?_;refine zdf ?_;refine uCo (fun h1=> ?_) fun h2=> ?_
 refine gz4 ?_;refine uRp ?_
 (rw [zhE,if_pos (by simpa using h1)])
 refine gz5 ?_;refine dq (uCl zD0 rfl (zdK (l:=l) (p:=zj0 l n x) zIF (fun _=>zoT) hl)) ?_;refine gz3 ?_;refine uRp ?_
 (rw [zhE,if_neg (by simpa using h2)])
theorem znB [Tracks] {l:List Play} {n:Int} (hl:l.length<=1000000):Con prog 184 [zbK l,.int .i64 n] [] (fun x M'=> ∃U:List Int,x= .slice 1 (U.map (.int .i64))/\(U.length<=1000000/\∀z,z∈U↔z∈zfX l n l)/\M'=[]):=by
 refine uOb func184 ntmps184 ?_;refine gz6 ?_;refine zd (zJ 1) ?_;refine gz7 ?_;refine uU2 [5,3,10,14] (fun (k:Nat) (u:Value)=>[(10,.int .i64 k),(5,.raw u)]) (fun (k:Nat) (u:Value)=>[.arr u 1 ((zfX l n (l.take k)).map (.int .i64))]) (fun (k:Nat) (u:Value)=>k<=l.length/\(True)) (fun (k:Nat) (u:Value)=>l.length-k) (0) (.slice none 0 0) ?_ ?_;exact ⟨Ad _,trivial⟩;rintro k u ⟨hk,-⟩;refine gz4 ?_;refine uCo (fun h1=> ?_) fun h2=> ?_
 obtain ⟨x,hx⟩: ∃x,l[k]? =some x:=⟨_,Aa h1⟩
 have hdx:=zi hx;have hul:(zfX l n (l.take k)).length<=k:=An (zxx _ _ _) uSo;refine zdf ?_;refine dq (uCl zH7 rfl (zqK hl hx)) ?_;refine gz6 ?_;refine uCo (fun h3=> ?_) fun h4=> ?_
 refine gz3 ?_;refine dq (za (hs:=[_]) zab ty3 rfl rfl (by decide) (by decide) rfl) ?_;refine de rfl (zH (i:=0) zab ty3 rfl rfl rfl rfl rfl (by simp [zan,zb]) (by first|omega|(simp;omega)) fun v22=> ?_)
 refine gz8 ?_;exact ⟨k+1,v22,⟨by omega,trivial⟩,uD,⟨rfl,rfl,trivial⟩,uK,zl (by dsimp only;rw [zDj hx (by simpa using h3)];simp)⟩;refine gz7 ?_;exact ⟨k+1,u,⟨by omega,trivial⟩,uD,⟨rfl,rfl,trivial⟩,uK,zl (by dsimp only;rw [zFF hx (by simpa using h4)])⟩;have hnk:l.length<=k:=by omega
 obtain rfl:k=l.length:=by omega
 refine gz2 ?_;refine zQ ?_;refine gz2 ?_;rw [Am];have hul:=zxx l l n;refine gz2 ?_;refine de rfl (uCx 0 zH8 rfl rfl (ztu (l:=zfX l n l) uO) ?_)
 rintro _ _ ⟨rfl,rfl⟩;refine gz3 ?_;refine de rfl (uCx 0 zH9 rfl rfl (zqV (l:=zox (zfX l n l)) (by rw [zqe];omega)) ?_)
 rintro _ _ ⟨u27,rfl,rfl⟩;refine gz3 ?_;refine zA (zay 4 (i:=0) rfl rfl) rfl ⟨Lib.compact (zox (zfX l n l)),rfl,⟨by have:=zq1 (zox (zfX l n l));rw [zqe] at this;omega,fun z=>by rw [zwQ,zBg]⟩,rfl⟩
theorem zoS [Tracks] {a b:StatS}:ConP prog 266 [zaG a,zaG b] (.int .i64 (zaU a b)):=by
 refine uOb func266 ntmps266 ?_;refine zau ?_;refine dq (uCl zcO rfl zR) ?_;refine gz3 ?_;refine zu rfl ?_
 rfl
theorem zkj [Tracks] {b:Nat} {c:List (Str×Int)} (hn:ANodup c) (hc:c.length<=1000000):Con prog 188 [.raw (.map (some b))] [.map b (sk (em (HVal.int .i64) c))] (fun x M'=>x=zpz (zgX c)/\M'=[.map b (sk (em (HVal.int .i64) c))]):=by
 refine uOb func188 ntmps188 ?_;refine gz6 ?_;refine zd (zJ 2) ?_;refine gz3 ?_;refine de rfl (ziq (i:=1) zcT rfl rfl fun r=> ?_)
 refine gz2 ?_;refine uV3 [3,3,8,13] (fun (vis:List Nat) (E:List (Str×Int)) (u:Value)=>[(3,.raw u)]) (fun (vis:List Nat) (E:List (Str×Int)) (u:Value)=>[.arr u 2 ((zdA E).map zaG),.iter r b (sk (em (HVal.int .i64) c)) vis]) (fun (vis:List Nat) (E:List (Str×Int)) (u:Value)=>VisOk (c) vis E/\(True)) (fun (vis:List Nat) (E:List (Str×Int)) (u:Value)=>(c).length-vis.length) ([]) ([]) (.slice none 0 0) ?_ ?_ ?_ ?_;exact ⟨VisOk.nil _,trivial⟩;exact ⟨rfl,trivial⟩;exact zl rfl
 intro vis E u hinv
 obtain ⟨hvis,-⟩:=hinv;refine gz1 ?_;refine de rfl (zio (i:=1) (L:=c) (enc:=(fun p:Str×Int=>(HVal.str p.1,HVal.int .i64 p.2))) rfl rfl (zmg _ _) hvis.nd hvis.lt fun cb R vis' hnx=> ?_)
 refine gz3 ?_;refine uCo (fun h1=> ?_) fun h2=> ?_
 obtain ⟨j,q,hq,hj,rfl⟩:=hnx.t h1;have hroom:=hvis.room hq hj;have hstep:=hvis.step hq hj;have hqm:=Ab hq;refine gz4 ?_;refine de rfl (zhb (i:=1) (L:=c) (enc:=(fun p:Str×Int=>(HVal.str p.1,HVal.int .i64 p.2))) rfl rfl (zmg _ _) hq ?_)
 refine gz9 ?_;refine uCo (fun h3=> ?_) fun h4=> ?_
 refine gz4 ?_;refine dq (zC (cs:=[_,_]) zbD zzW rfl) ?_;refine dq (za (hs:=[_]) zdb zbD rfl rfl (by decide) (by decide) rfl) ?_;refine de rfl (zH (i:=0) zdb zbD rfl rfl rfl rfl rfl (by simp [zan,zb]) (by have:=zt3 E;have:=hvis.len;simp only [Af,Ah,Ar];omega) fun v20=> ?_)
 refine gz3 ?_;exact ⟨_,E++[q],v20,⟨hstep,trivial⟩,by dsimp only;rw [Ax];simp only [Ah,Ar];omega,⟨rfl,trivial⟩,uK,zl (by dsimp only;rw [zCX (by simpa using h3)];try simp)⟩;refine gz2 ?_;exact ⟨_,E++[q],u,⟨hstep,trivial⟩,by dsimp only;rw [Ax];simp only [Ah,Ar];omega,⟨rfl,trivial⟩,uK,zl (by dsimp only;rw [zFo (by simpa using h4)];try simp)⟩;obtain ⟨rfl,hlen⟩:=hnx.f h2;have hEp:=hvis.done hlen;refine gz2 ?_;refine zcE ?_;refine gz2 ?_;refine zd (zg2 (i:=1) rfl) ?_;refine zd (zbv (M':=[.arr u 2 ((zdA E).map zaG),.map b (sk (em (HVal.int .i64) c))]) rfl) ?_;have hEl:=hEp.length_eq;have hrl:=zt3 E;refine gz2 ?_;refine de rfl (zaA (M1:=[.arr u 2 ((zdA E).map zaG)]) (R:=[.map b (sk (em (HVal.int .i64) c))]) zzk rfl (WeakL.refl _) (Ac _) (zmB (c:=zaU) (zkZ zcn) zIe (fun _ _=> @zoS zgj _ _) (l:=zdA E) uO) ?_)
 rintro _ _ ⟨l',rfl,hp',hw',rfl⟩;obtain rfl:=zBI hEp hn hp' hw';refine gz6 ?_;refine zA (zay 2 (i:=0) rfl rfl) rfl ⟨rfl,rfl⟩
theorem zpf [Tracks] {x:StatS}:ConP prog 268 [zaG x] (.bool (out x.Count (-100000) 100000)):=by
 refine uOb func268 ntmps268 ?_;refine gz7 ?_;refine dq (uCl zps rfl zc0) ?_;refine gz4 ?_;refine zu rfl ?_
 show HVal.bool _=_
 simp
theorem zrn [Tracks] {l:List LineS} (hl:l.length<=1000000) (hs: ∀y∈l,y.Stats.length<=1000000):ConP prog 189 [zbJ l] (.int .i64 (if zjr l then 12 else 0)):=by
 refine uOb func189 ntmps189 ?_;refine zau ?_;refine uT1 [2,1,4,1,7,14] (fun k=>[(7,.int .i64 k)]) (fun k=>[]) (fun k=>k<=l.length/\(zjr l=zjr (l.drop k))) (fun k=>l.length-k) (0) ?_ ?_;exact ⟨Ad _,rfl⟩;rintro k ⟨hk,hg⟩;refine gz4 ?_;refine uCo (fun h1=> ?_) fun h2=> ?_
 obtain ⟨x,hx⟩: ∃x,l[k]? =some x:=⟨_,Aa h1⟩
 have hdx:=zi hx;rw [hdx] at hg;refine gz7 ?_;refine de rfl (zg zbg rfl fun b4=> ?_)
 refine de0 (zj zbg rfl rfl rfl rfl rfl ?_)
 refine gz1 ?_;refine zd (zm 4 rfl) ?_;refine gz8 ?_;refine uGr rfl (fun hc=>uCl zIf rfl (zf4 (p:=fun y=>out y.Count (-100000) 100000) zIg (fun _=>zpf) (hs x (Ab hx)))) ?_;refine gz2 ?_;refine uCo (fun h3=> ?_) fun h4=> ?_
 refine gz4 ?_;refine uRp ?_;rw [hg]
 (have hx3:(decide (40<x.Stats.length)||x.Stats.any fun s=>out s.Count (-100000) 100000)=true:=by
   rw [A1]
   rcases h3 with q|⟨y,hy,q⟩
   exact .inl (decide_eq_true uO);exact .inr (List.any_eq_true.2 ⟨y,hy,q⟩)
  rw [zjr,Bs,hx3,Bool.true_or];rfl)
 refine gz7 ?_;refine ⟨k+1,?_,?_,⟨rfl,trivial⟩,uK,Ac _⟩
 refine ⟨by omega,?_⟩
 have hx4:(decide (40<x.Stats.length)||x.Stats.any fun s=>out s.Count (-100000) 100000)=false:=by
  rw [A4];exact ⟨decide_eq_false uO,List.any_eq_false.2 fun y hy=>by rw [h4.2 y hy];simp⟩
 rw [hg,zjr,Bs,hx4,Bool.false_or];rfl
 dsimp only;omega
 have hnk:l.length<=k:=by omega
 obtain rfl:k=l.length:=by omega
 rw [zz (Ae _)] at hg;refine gz2 ?_;refine zv ?_;refine gz6 ?_;refine uRp ?_;rw [hg]
 rfl
end
end Go.Proofs.YtabpobhnedkkeaaGreatDoor
namespace Go.HL
section
open Go.Proofs Go.Shelf
variable {P:Program}
end
section

end
section
section
variable {P:Program}
end
section
variable {P:Program} {e:Env} {dst:Option Tmp} {ty:TypeId} {pos:String} {af:Array Edge} {g:Option (Nat×Bool)}
end
end
section
section
variable {P:Program}
end
end
end Go.HL
namespace Go.Proofs.YtabpobhnedkkeaaGreatDoor
set_option maxRecDepth 100000
set_option linter.unusedVariables false
set_option linter.unusedSimpArgs false
section
open Go.HL
set_option linter.unusedSimpArgs false
end
section
open Go.HL
set_option linter.unusedSimpArgs false
end
section
open Go.HL
set_option linter.unusedSimpArgs false
end
section
open Go.HL
set_option linter.unusedSimpArgs false
end
section
open Go.Proofs.Tryz
open Go.HL
theorem zzR [Tracks]:KeyOk prog 301 zhp:=zgO (cs:=fun x:Plc=>zb (zhp x)) zhL zIS (fun x y=>⟨rfl,⟨_,_,_,_,ty9,rfl⟩,rfl,⟨_,_,_,_,ty3,rfl⟩,trivial⟩)
 (fun x y=>by obtain ⟨a,b⟩:=x;obtain ⟨c,d⟩:=y;show (_&&(_&&true))=_;rw [AE];simp [eqH,Prod.mk.injEq]) (fun x=>rfl)
theorem zq0 [Tracks] {c:LineS->LineS->Int} (hO:Go.Sort.SWO (Go.Proofs.ltOf c)) {g:FuncId} (hg:Callable prog g) {cap:List HVal} (hc: ∀x y, @ConP zgj prog g (zaq x::zaq y::cap) (.int .i64 (c x y))) {l:List LineS} (hl:l.length<=1000000) {v:Value}:
 Con prog 194 [.raw v,.fn (.func g) [] cap] [.arr v 3 (l.map zaq)] fun x M'=> ∃l':List LineS,x= .tup []/\l'.Perm l/\l'.Pairwise (fun a b=> ¬c b a<0)/\M'=[.arr v 3 (l'.map zaq)]:=
 zpy (e:=zaq) zAr (Tryz.isAgg64) (Tryz.sizeOf64) (fun _=>rfl) (fun _=>rfl) (fun _=>rfl) hO hg hc hl
theorem zhW [Tracks] {l:List StatS} (hl:l.length<=1000000):zrf prog 245 [.slice 2 (l.map zaG)] 2 (l.map zaG):=by
 refine uOb func245 ntmps245 ?_;refine gz6 ?_;refine de rfl (zl4 zdb rfl rfl fun b4 hb4=> ?_)
 refine gz1 ?_;refine uCo (fun h1=> ?_) fun h2=> ?_
 refine gz4 ?_;exact zA (zJ 2) rfl ⟨_,rfl,by simp_all⟩;refine gz3 ?_;refine de rfl (zqv zdb zbD fun v5=> ?_)
 refine gz1 ?_;refine de rfl (zH (i:=0) zdb zbD rfl rfl rfl rfl rfl (by simp [zan,zb]) uSo fun v7=> ?_)
 refine gz3 ?_;exact zsU rfl rfl
theorem zgw [Tracks] {l:List StatS} {fid:FuncId} {caps:List HVal} {p:StatS->Bool} {v:Value} (hca:Callable prog fid) (hp: ∀x,ConP prog fid ([zaG x]++caps) (.bool (p x))) (hl:l.length<=1000000):Con prog 246 [.raw v,.fn (.func fid) [] caps] [.arr v 2 (l.map zaG)] (fun x M'=> ∃u,x= .raw u/\M'=[.arr u 2 ((l.filter (fun x=> !p x)).map zaG)]):=by
 refine uOb func246 ntmps246 ?_;refine gz6 ?_;refine de rfl (ze1 (hs':=[.slice 2 (l.map zaG),.fn (.func fid) [] caps]) zDZ rfl ⟨.arr (i:=0) rfl,.weak (Weak.refl _),trivial⟩ (zdL (p:=p) hca hp hl) rfl ?_)
 refine gz7 ?_;refine uCo (fun h1=> ?_) fun h2=> ?_
 ·refine gz5 ?_
  (refine zaf rfl ⟨_,rfl,?_⟩
   rw [zir p l 0 uO h1]
   done)
 ·refine gz3 ?_;obtain ⟨i0,hi0,hil,⟨x0,hx0,hp0⟩,hb0⟩:=ze6 p l 0 uO h2;rw [Ck] at hi0;obtain ⟨hD0,hn0⟩:=DelInv.start (p:=p) hil hx0 hp0 hb0;refine zc3 (i:=0) rfl (fun h0 he=> ?_) (fun b off cap hv hcap=> ?_)
  ·exfalso;have:=congrArg List.length he;simp at this;subst this;simp at hil
  rw [Af] at hv hcap;subst hv;refine gz2 ?_;refine dq (zP (zbt rfl rfl (by rw [hi0];omega) (by rw [hi0];omega)) (congrArg _ (by rw [hi0]))) ?_;refine gz3 ?_;refine uV2 [5,3,16,20] (fun (j:Nat) (D:List StatS)=>[(6,.int .i64 (j:Int)),(5,.int .i64 (((l.take j).filter (fun x=> !p x)).length:Int))]) (fun (j:Nat) (D:List StatS)=>[.arr (.slice (some ⟨b,off,none⟩) l.length cap) 2 (D.map zaG)]) (fun (j:Nat) (D:List StatS)=>DelInv p l j D) (fun (j:Nat) (D:List StatS)=>l.length-j) (i0+1) (l) ?_ ?_ ?_ ?_
  ·exact hD0
  ·exact ⟨rfl,zU (by rw [hn0,hi0]),trivial⟩
  ·exact Ac _
  ·intro j D hD
   have hlt0:=hD.lt;have hle0:=hD.len;refine gz4 ?_;refine de rfl (zbq (i:=0) zdb rfl rfl ?_)
   refine gz2 ?_;refine uCo (fun h3=> ?_) fun h4=> ?_
   ·obtain ⟨x,hx⟩: ∃x,l[j]? =some x:=⟨_,Aa uO⟩
    refine gz7 ?_;refine dq (zM (j:=j) zdb zbD rfl rfl rfl uO) ?_;refine de rfl (zas (i:=0) (j:=j) zbD rfl rfl rfl (hD.get hx) rfl rfl rfl ?_)
    refine de rfl (zg zbD rfl fun b7=> ?_)
    refine de0 (zj zbD rfl rfl rfl rfl rfl ?_)
    refine gz1 ?_;refine zd (zm 7 rfl) ?_;refine gz3 ?_;refine dq (zag hca rfl rfl (WeakL.refl _) (hp _)) ?_;refine gz2 ?_;refine uCo (fun h5=> ?_) fun h6=> ?_
    ·refine gz4 ?_;refine dq (zM (j:=((l.take j).filter (fun x=> !p x)).length) zdb zbD rfl rfl rfl (by have:=hD.lt;omega)) ?_;refine de0 (zby (i:=0) (j:=((l.take j).filter (fun x=> !p x)).length) (y:=D[((l.take j).filter (fun x=> !p x)).length]'(by have:=hD.lt;have:=hD.len;omega)) (y':=x) zbD rfl rfl rfl rfl (Aa _) rfl rfl rfl ?_)
     refine gz3 ?_;refine dq (zbt rfl rfl uO (by have:=hD.lt;omega)) ?_;refine gz9 ?_;exact ⟨j+1,_,(hD.keep hx uSa).1,uD,⟨rfl,zU (by rw [(hD.keep hx uSa).2];rfl),trivial⟩,uK,Ac _⟩
    ·refine gz8 ?_;exact ⟨j+1,_,(hD.skip hx uSa).1,uD,⟨rfl,zU (by rw [(hD.skip hx uSa).2]),trivial⟩,uK,Ac _⟩
   ·obtain rfl:j=l.length:=by have:=hD.jle;omega
    have hend:=hD.done;refine gz2 ?_;refine zQ ?_;refine gz5 ?_;refine dq (zfa (l:=((l.take l.length).filter (fun x=> !p x)).length) zdb zbD rfl ⟨_,_,rfl,rfl⟩ rfl uO uO hcap) ?_;refine de0 (zeu (i:=0) (m:=((l.take l.length).filter (fun x=> !p x)).length) (((l.take l.length).filter (fun x=> !p x)).length) zdb zbD rfl rfl rfl (zh5 uO hcap) rfl uO (Ae _) (by rw [Af,hD.len];omega) ?_)
    refine gz4 ?_;refine dq (zfU (h:=((l.take l.length).filter (fun x=> !p x)).length) zdb zbD rfl ⟨_,_,rfl,rfl⟩ uO) ?_;refine gz3 ?_
    (refine zaf rfl ⟨_,rfl,?_⟩
     rw [Am,<-BR,hend];rfl)
theorem zrt [Tracks] {a b:MendS}:ConP prog 164 [zbc a,zbc b] (.int .i64 (zfn a b)):=by
 refine uOb func164 ntmps164 ?_;refine gz5 ?_;refine uDr mixed ?_;refine gz4 ?_;refine uB 4 rfl (uCl zcO rfl zR) ?_;refine gz4 ?_;refine uB 9 rfl (uCl zdT rfl z6) ?_;refine gz4 ?_;refine uB 14 rfl (uCl zcO rfl zR) ?_;refine gz4 ?_;refine uB 19 rfl (uCl zdT rfl z6) ?_;refine uB 20 rfl (za (hs:=[_,_,_,_]) zab ty3 rfl rfl (by decide) (by decide) rfl) ?_;refine uB 21 rfl (uCl zg7 rfl (zbP (l:=[_,_,_,_]) (by simp))) ?_;refine gz3 ?_;refine zu rfl ?_
 rfl
theorem zoG [Tracks] {a b:LineS}:ConP prog 244 [zaq a,zaq b] (.int .i64 (zco a b)):=by
 refine uOb func244 ntmps244 ?_;refine gz5 ?_;refine uDr mixed ?_;refine gz4 ?_;refine uB 4 rfl (uCl zcO rfl zR) ?_;refine gz4 ?_;refine uB 9 rfl (uCl zdT rfl z6) ?_;refine uB 10 rfl (za (hs:=[_,_]) zab ty3 rfl rfl (by decide) (by decide) rfl) ?_;refine uB 11 rfl (uCl zg7 rfl (zbP (l:=[_,_]) (by simp))) ?_;refine gz3 ?_;refine zu rfl ?_
 rfl
theorem zkk [Tracks] {m:List MendS} (hl:m.length<=1000000):ConP prog 76 [zcq m] (.int .i64 (zbY m)):=by
 refine uOb func76 ntmps76 ?_;refine gz9 ?_;refine uCo (fun h1=> ?_) fun h2=> ?_
 ·refine gz4 ?_;refine uRp ?_
  (rw [zbY,if_pos uO];done)
 ·refine gz9 ?_;refine uT1 [2,3,10,57] (fun k=>[(10,.int .i64 k)]) (fun k=>[]) (fun k=>k<=m.length/\(za7 zaS zfn zfq m 0 m=za7 zaS zfn zfq m k (m.drop k))) (fun k=>m.length-k) (0) ?_ ?_
  ·exact ⟨Ad _,rfl⟩
  ·rintro k ⟨hk,hg⟩;refine gz4 ?_;refine uCo (fun h3=> ?_) fun h4=> ?_
   ·obtain ⟨x,hx⟩: ∃x,m[k]? =some x:=⟨_,Aa h3⟩
    have hdx:=zi hx;rw [hdx] at hg;refine gz8 ?_;refine de rfl (zg zaY rfl fun b4=> ?_)
    refine gz1 ?_;refine de0 (zj zaY rfl rfl rfl rfl rfl ?_)
    refine gz1 ?_;refine zd (zm 4 rfl) ?_;refine gz4 ?_;refine dq (uCl zcG rfl zaz) ?_;refine gz4 ?_;refine uGr rfl (fun hc=>uCl zcG rfl zaz) ?_;refine gz5 ?_;refine uGr rfl (fun hc=>uCl zcG rfl zaz) ?_;refine gz4 ?_;refine uCo (fun h5=> ?_) fun h6=> ?_
    ·refine gz4 ?_;refine uRp ?_
     (refine congrArg _ (zmc (c:=5) uO hg (by decide) ?_)
      rw [zaS,if_pos]
      simp_all
      done)
    ·refine gz3 ?_;refine dq (uCl zli rfl zcL) ?_;refine gz4 ?_;refine uGr rfl (fun hc=>uCl zd9 rfl zaL) ?_;refine gz4 ?_;refine uGr rfl (fun hc=>uCl zj6 rfl zbO) ?_;refine gz5 ?_;refine uGr rfl (fun hc=>uCl zd9 rfl zaL) ?_;refine gz3 ?_;refine uCo (fun h7=> ?_) fun h8=> ?_
     ·refine gz4 ?_;refine uRp ?_
      (refine congrArg _ (zmc (c:=1) uO hg (by decide) ?_)
       rw [zaS,if_neg,if_pos]
       all_goals simp_all
       done)
     ·refine uDr mixed ?_;refine gz7 ?_;refine uGy 7 rfl rfl (fun hc=>by have hq:=hc;(try simp at hq);exact zB (j:=k-1) (a:=m.getD (k-1) zfq) zeg zaY rfl rfl uO (getD_some uO)) ?_;refine gz1 ?_;refine uGy 9 rfl rfl (fun hc=>uCl zG8 rfl zrt) ?_;refine gz4 ?_;refine uCo (fun h9=> ?_) fun h10=> ?_
      ·refine gz4 ?_;refine uRp ?_
       (refine congrArg _ (zuM uO hg ?_ ?_ ?_)
        ·rw [zaS,if_neg,if_neg]<;>simp_all
        ·simp_all
        ·simp_all)
      ·refine gz8 ?_;refine ⟨k+1,?_,?_,⟨rfl,trivial⟩,uK,Ac _⟩
       ·refine ⟨by omega,?_⟩
        rw [hg,zlk (by rw [zaS,if_neg uSa,if_neg uSa]) (by intro hk0;simp_all;try omega)]
       ·dsimp only;omega
   ·have hnk:m.length<=k:=by omega
    obtain rfl:k=m.length:=by omega
    rw [zz (Ae _)] at hg;refine gz2 ?_;refine zv ?_;refine gz6 ?_;refine uRp ?_
    (rw [zbY,if_neg uO,hg];rfl)
theorem zqR [Tracks] {l:List StatS} (hl:l.length<=1000000):ConP prog 243 [zpz l] (.int .i64 (zbr l)):=by
 refine uOb func243 ntmps243 ?_;refine gz9 ?_;refine uCo (fun h1=> ?_) fun h2=> ?_
 ·refine gz4 ?_;refine uRp ?_
  first
  |(rw [zbr,if_pos uO];done)
  |(rw [zbr,if_neg uO,hg];rfl)
  | (refine congrArg _ (zej (c:=5) uO hg (by decide) ?_)
     rw [zaj,if_pos]
     simp_all
     done)
  | (refine congrArg _ (zej (c:=1) uO hg (by decide) ?_)
     rw [zaj,if_neg,if_pos]
     all_goals simp_all
     done)
  | (refine congrArg _ (zjZ uO hg ?_ ?_ ?_)
     ·rw [zaj,if_neg,if_neg]<;>simp_all
     ·simp_all
     ·simp_all)
 ·refine gz9 ?_;refine uT1 [2,3,10,34] (fun k=>[(10,.int .i64 k)]) (fun k=>[]) (fun k=>k<=l.length/\(za7 zaj zaU zeK l 0 l=za7 zaj zaU zeK l k (l.drop k))) (fun k=>l.length-k) (0) ?_ ?_
  ·exact ⟨Ad _,rfl⟩
  ·rintro k ⟨hk,hg⟩;refine gz4 ?_;refine uCo (fun h3=> ?_) fun h4=> ?_
   ·obtain ⟨x,hx⟩: ∃x,l[k]? =some x:=⟨_,Aa h3⟩
    have hdx:=zi hx;rw [hdx] at hg;refine gz8 ?_;refine de rfl (zg zbD rfl fun b4=> ?_)
    refine gz1 ?_;refine de0 (zj zbD rfl rfl rfl rfl rfl ?_)
    refine gz1 ?_;refine zd (zm 4 rfl) ?_;refine gz4 ?_;refine dq (uCl zcG rfl zaz) ?_;refine gz3 ?_;refine uCo (fun h5=> ?_) fun h6=> ?_
    ·refine gz4 ?_;refine uRp ?_
     first
     |(rw [zbr,if_pos uO];done)
     |(rw [zbr,if_neg uO,hg];rfl)
     | (refine congrArg _ (zej (c:=5) uO hg (by decide) ?_)
        rw [zaj,if_pos]
        simp_all
        done)
     | (refine congrArg _ (zej (c:=1) uO hg (by decide) ?_)
        rw [zaj,if_neg,if_pos]
        all_goals simp_all
        done)
     | (refine congrArg _ (zjZ uO hg ?_ ?_ ?_)
        ·rw [zaj,if_neg,if_neg]<;>simp_all
        ·simp_all
        ·simp_all)
    ·refine gz3 ?_;refine dq (uCl zd9 rfl zaL) ?_;refine gz7 ?_;refine uCo (fun h7=> ?_) fun h8=> ?_
     ·refine gz4 ?_;refine uRp ?_
      first
      |(rw [zbr,if_pos uO];done)
      |(rw [zbr,if_neg uO,hg];rfl)
      | (refine congrArg _ (zej (c:=5) uO hg (by decide) ?_)
         rw [zaj,if_pos]
         simp_all
         done)
      | (refine congrArg _ (zej (c:=1) uO hg (by decide) ?_)
         rw [zaj,if_neg,if_pos]
         all_goals simp_all
         done)
      | (refine congrArg _ (zjZ uO hg ?_ ?_ ?_)
         ·rw [zaj,if_neg,if_neg]<;>simp_all
         ·simp_all
         ·simp_all)
     ·refine uDr mixed ?_;refine gz8 ?_;refine uGy 8 rfl rfl (fun hc=>by have hq:=hc;(try simp at hq);exact zB (j:=k-1) (a:=l.getD (k-1) zeK) zdb zbD rfl rfl uO (getD_some uO)) ?_;refine gz6 ?_;refine uCo (fun h9=> ?_) fun h10=> ?_
      ·refine gz4 ?_;refine uRp ?_
       first
       |(rw [zbr,if_pos uO];done)
       |(rw [zbr,if_neg uO,hg];rfl)
       | (refine congrArg _ (zej (c:=5) uO hg (by decide) ?_)
          rw [zaj,if_pos]
          simp_all
          done)
       | (refine congrArg _ (zej (c:=1) uO hg (by decide) ?_)
          rw [zaj,if_neg,if_pos]
          all_goals simp_all
          done)
       | (refine congrArg _ (zjZ uO hg ?_ ?_ ?_)
          ·rw [zaj,if_neg,if_neg]<;>simp_all
          ·simp_all
          ·simp_all)
      ·refine gz8 ?_;refine ⟨k+1,?_,?_,⟨rfl,trivial⟩,uK,Ac _⟩
       ·refine ⟨by omega,?_⟩
        rw [hg,zAd (by rw [zaj,if_neg uSa,if_neg uSa]) (by intro hk0;simp_all)]
       ·dsimp only;omega
   ·have hnk:l.length<=k:=by omega
    obtain rfl:k=l.length:=by omega
    rw [zz (Ae _)] at hg;refine gz2 ?_;refine zv ?_;refine gz6 ?_;refine uRp ?_
    first
    |(rw [zbr,if_pos uO];done)
    |(rw [zbr,if_neg uO,hg];rfl)
    | (refine congrArg _ (zej (c:=5) uO hg (by decide) ?_)
       rw [zaj,if_pos]
       simp_all
       done)
    | (refine congrArg _ (zej (c:=1) uO hg (by decide) ?_)
       rw [zaj,if_neg,if_pos]
       all_goals simp_all
       done)
    | (refine congrArg _ (zjZ uO hg ?_ ?_ ?_)
       ·rw [zaj,if_neg,if_neg]<;>simp_all
       ·simp_all
       ·simp_all)
theorem zqQ [Tracks] {l:List LineS} (hl:l.length<=1000000) (hL: ∀x∈l,x.Stats.length<=1000000):ConP prog 169 [zbJ l] (.int .i64 (zap l)):=by
 refine uOb func169 ntmps169 ?_;refine gz9 ?_;refine uCo (fun h1=> ?_) fun h2=> ?_
 ·refine gz4 ?_;refine uRp ?_
  first
  |(rw [zap,if_pos uO];done)
  |(rw [zap,if_neg uO,hg];rfl)
  | (refine congrArg _ (zbL (c:=5) uO hg (by decide) ?_)
     rw [z8,if_pos]
     simp_all
     done)
  | (refine congrArg _ (zbL (c:=1) uO hg (by decide) ?_)
     rw [z8,if_neg,if_pos]
     all_goals simp_all
     done)
  | (refine congrArg _ (zbL (c:=zbr x.Stats) uO hg ?_ ?_)
     ·simp_all
     ·rw [z8,if_neg,if_neg]<;>simp_all)
  | (refine congrArg _ (zis uO hg ?_ ?_ ?_)
     ·rw [z8,if_neg,if_neg]<;>simp_all
     ·simp_all
     ·simp_all)
 ·refine gz9 ?_;refine uT1 [2,4,11,34] (fun k=>[(11,.int .i64 k)]) (fun k=>[]) (fun k=>k<=l.length/\(za7 z8 zco zkC l 0 l=za7 z8 zco zkC l k (l.drop k))) (fun k=>l.length-k) (0) ?_ ?_
  ·exact ⟨Ad _,rfl⟩
  ·rintro k ⟨hk,hg⟩;refine gz4 ?_;refine uCo (fun h3=> ?_) fun h4=> ?_
   ·obtain ⟨x,hx⟩: ∃x,l[k]? =some x:=⟨_,Aa h3⟩
    have hdx:=zi hx;rw [hdx] at hg;refine gz8 ?_;refine de rfl (zg zbg rfl fun b4=> ?_)
    refine gz1 ?_;refine de0 (zj zbg rfl rfl rfl rfl rfl ?_)
    refine gz1 ?_;refine zd (zm 4 rfl) ?_;refine gz5 ?_;refine dq (uCl zcG rfl zaz) ?_;refine gz3 ?_;refine uCo (fun h5=> ?_) fun h6=> ?_
    ·refine gz4 ?_;refine uRp ?_
     first
     |(rw [zap,if_pos uO];done)
     |(rw [zap,if_neg uO,hg];rfl)
     | (refine congrArg _ (zbL (c:=5) uO hg (by decide) ?_)
        rw [z8,if_pos]
        simp_all
        done)
     | (refine congrArg _ (zbL (c:=1) uO hg (by decide) ?_)
        rw [z8,if_neg,if_pos]
        all_goals simp_all
        done)
     | (refine congrArg _ (zbL (c:=zbr x.Stats) uO hg ?_ ?_)
        ·simp_all
        ·rw [z8,if_neg,if_neg]<;>simp_all)
     | (refine congrArg _ (zis uO hg ?_ ?_ ?_)
        ·rw [z8,if_neg,if_neg]<;>simp_all
        ·simp_all
        ·simp_all)
    ·refine gz3 ?_;refine dq (uCl zli rfl zcL) ?_;refine gz3 ?_;refine uCo (fun h7=> ?_) fun h8=> ?_
     ·refine gz4 ?_;refine uRp ?_
      first
      |(rw [zap,if_pos uO];done)
      |(rw [zap,if_neg uO,hg];rfl)
      | (refine congrArg _ (zbL (c:=5) uO hg (by decide) ?_)
         rw [z8,if_pos]
         simp_all
         done)
      | (refine congrArg _ (zbL (c:=1) uO hg (by decide) ?_)
         rw [z8,if_neg,if_pos]
         all_goals simp_all
         done)
      | (refine congrArg _ (zbL (c:=zbr x.Stats) uO hg ?_ ?_)
         ·simp_all
         ·rw [z8,if_neg,if_neg]<;>simp_all)
      | (refine congrArg _ (zis uO hg ?_ ?_ ?_)
         ·rw [z8,if_neg,if_neg]<;>simp_all
         ·simp_all
         ·simp_all)
     ·refine gz7 ?_;refine dq (uCl zHW rfl (zqR (l:=x.Stats) (hL x (Ab hx)))) ?_;refine gz6 ?_;refine uCo (fun h9=> ?_) fun h10=> ?_
      ·refine gz5 ?_;refine uRp ?_
       first
       |(rw [zap,if_pos uO];done)
       |(rw [zap,if_neg uO,hg];rfl)
       | (refine congrArg _ (zbL (c:=5) uO hg (by decide) ?_)
          rw [z8,if_pos]
          simp_all
          done)
       | (refine congrArg _ (zbL (c:=1) uO hg (by decide) ?_)
          rw [z8,if_neg,if_pos]
          all_goals simp_all
          done)
       | (refine congrArg _ (zbL (c:=zbr x.Stats) uO hg ?_ ?_)
          ·simp_all
          ·rw [z8,if_neg,if_neg]<;>simp_all)
       | (refine congrArg _ (zis uO hg ?_ ?_ ?_)
          ·rw [z8,if_neg,if_neg]<;>simp_all
          ·simp_all
          ·simp_all)
      ·refine gz2 ?_;refine uDr mixed ?_;refine gz7 ?_;refine uGy 7 rfl rfl (fun hc=>by have hq:=hc;(try simp at hq);exact zB (j:=k-1) (a:=l.getD (k-1) zkC) zeT zbg rfl rfl uO (getD_some uO)) ?_;refine gz1 ?_;refine uGy 9 rfl rfl (fun hc=>uCl zDT rfl zoG) ?_;refine gz3 ?_;refine uCo (fun h11=> ?_) fun h12=> ?_
       ·refine gz4 ?_;refine uRp ?_
        first
        |(rw [zap,if_pos uO];done)
        |(rw [zap,if_neg uO,hg];rfl)
        | (refine congrArg _ (zbL (c:=5) uO hg (by decide) ?_)
           rw [z8,if_pos]
           simp_all
           done)
        | (refine congrArg _ (zbL (c:=1) uO hg (by decide) ?_)
           rw [z8,if_neg,if_pos]
           all_goals simp_all
           done)
        | (refine congrArg _ (zbL (c:=zbr x.Stats) uO hg ?_ ?_)
           ·simp_all
           ·rw [z8,if_neg,if_neg]<;>simp_all)
        | (refine congrArg _ (zis uO hg ?_ ?_ ?_)
           ·rw [z8,if_neg,if_neg]<;>simp_all
           ·simp_all
           ·simp_all)
       ·refine gz7 ?_;refine ⟨k+1,?_,?_,⟨rfl,trivial⟩,uK,Ac _⟩
        ·refine ⟨by omega,?_⟩
         rw [hg,zlk (by rw [z8,if_neg uSa,if_neg uSa];simp_all) (by intro hk0;simp_all;try omega)]
        ·dsimp only;omega
   ·have hnk:l.length<=k:=by omega
    obtain rfl:k=l.length:=by omega
    rw [zz (Ae _)] at hg;refine gz2 ?_;refine zv ?_;refine gz6 ?_;refine uRp ?_
    first
    |(rw [zap,if_pos uO];done)
    |(rw [zap,if_neg uO,hg];rfl)
    | (refine congrArg _ (zbL (c:=5) uO hg (by decide) ?_)
       rw [z8,if_pos]
       simp_all
       done)
    | (refine congrArg _ (zbL (c:=1) uO hg (by decide) ?_)
       rw [z8,if_neg,if_pos]
       all_goals simp_all
       done)
    | (refine congrArg _ (zbL (c:=zbr x.Stats) uO hg ?_ ?_)
       ·simp_all
       ·rw [z8,if_neg,if_neg]<;>simp_all)
    | (refine congrArg _ (zis uO hg ?_ ?_ ?_)
       ·rw [z8,if_neg,if_neg]<;>simp_all
       ·simp_all
       ·simp_all)
theorem zr9 [Tracks] {s:StatS} {x:MendS}:ConP prog 247 [zaG s,.vptr (zb (zbc x)) 0] (.bool (s.Name==x.Stat)):=by
 refine uOb func247 ntmps247 ?_;refine zfe ?_;refine zu rfl ?_
 rfl
theorem zvi [Tracks] {l:List LineS} {m:List MendS} {n:Int} (hl:l.length<=1000) (hm:m.length<=100) (hL: ∀x∈l,x.Stats.length<=1000) (hs: ∀x∈l,(x.Stats.map (·.Name)).Nodup) (h40:GLen 40 (zfp l m n)):ConP prog 170 [zbJ l,zcq m,.int .i64 n] (.tup [zbJ (mdL l m n),.int .i64 0]):=by
 refine uOb func170 ntmps170 ?_;refine gz5 ?_;refine de rfl (zax fun m18=> ?_)
 refine gz2 ?_;refine zd (zbv (M':=[.map m18 (kk zhp (em fG ([]:GrV)))]++zgL 2 zaG ([]:GrV)) rfl) ?_;refine gz7 ?_;refine uV2 [10,1,21,14] (fun (k:Nat) (G:GrV)=>[(21,.int .i64 k)]) (fun (k:Nat) (G:GrV)=>[.map m18 (kk zhp (em fG G))]++zgL 2 zaG G) (fun (k:Nat) (G:GrV)=>k<=l.length/\(ANodup G/\zgn G=zc6 (l.take k))) (fun (k:Nat) (G:GrV)=>l.length-k) (0) ([]) ?_ ?_ ?_ ?_;exact ⟨Ad _,ANodup.nil,rfl⟩;exact ⟨rfl,trivial⟩;exact zl rfl
 intro k G hinv
 obtain ⟨hk,⟨hn,hc⟩⟩:=hinv;refine gz4 ?_;refine uCo (fun h1=> ?_) fun h2=> ?_
 obtain ⟨x,hx⟩: ∃x,l[k]? =some x:=⟨_,Aa h1⟩
 have hdx:=zi hx;refine gz7 ?_;refine de rfl (zg zbg rfl fun b10=> ?_)
 refine de0 (zj zbg rfl rfl rfl rfl rfl ?_)
 refine gz1 ?_;refine zd (zm 10 rfl) ?_;refine zh8 mixed ?_;refine gz1 ?_;refine uB 1 rfl ((by first|exact zk zbg rfl ty9 (by decide) rfl|exact zf zbg rfl ty9 (by decide) rfl)) ?_;refine gz1 ?_;refine uB 3 rfl ((by first|exact zk zbg rfl ty3 (by decide) rfl|exact zf zbg rfl ty3 (by decide) rfl)) ?_;refine gz1 ?_;refine uB 5 rfl (zC (cs:=[_,_]) zhL zEc rfl) ?_;refine uB 6 rfl ((by first|exact zk zbg rfl zdb (by decide) rfl|exact zf zbg rfl zdb (by decide) rfl)) ?_;refine gz1 ?_;refine uF 8 ?_;refine zw rfl (uCa zHX rfl (zhW (l:=x.Stats) (An (hL x (Ab hx)) (by decide))) fun v33=> ?_)
 refine ⟨uE,?_⟩
 refine uF 9 ?_;refine zI (zte (zgJ (i:=1) (s:=(x.Player,x.Week)) (f:=fG) (L:=G) (v:=(v33,x.Stats)) zmh zzR rfl rfl rfl rfl ⟨_,zAU (A:=[.map m18 (kk zhp (em fG (zp (x.Player,x.Week) (v33,x.Stats) G)))]) (s:=(x.Player,x.Week)) (v:=v33) (l:=x.Stats) hn,?_⟩))
 refine ⟨uE,?_⟩
 refine gz7 ?_;exact ⟨k+1,zp (x.Player,x.Week) (v33,x.Stats) G,⟨by omega,hn.put,by rw [zry,hc,zzI hx]⟩,uD,⟨rfl,trivial⟩,uK,zl rfl⟩;have hnk:l.length<=k:=by omega
 obtain rfl:k=l.length:=by omega
 rw [Am] at hc;refine gz2 ?_;refine zQ ?_;refine gz9 ?_;refine uV2 [12,3,37,33] (fun (k:Nat) (G:GrV)=>[(37,.int .i64 k)]) (fun (k:Nat) (G:GrV)=>[.map m18 (kk zhp (em fG G))]++zgL 2 zaG G) (fun (k:Nat) (G:GrV)=>k<=m.length/\(ANodup G/\zgn G=zfS (zc6 l) (m.take k) n)) (fun (k:Nat) (G:GrV)=>m.length-k) (0) (G) ?_ ?_ ?_ ?_;exact ⟨Ad _,hn,hc⟩;exact ⟨rfl,trivial⟩;exact zl rfl
 intro k G hinv
 obtain ⟨hk,⟨hn,hc⟩⟩:=hinv;refine gz4 ?_;refine uCo (fun h3=> ?_) fun h4=> ?_
 obtain ⟨x,hx⟩: ∃x,m[k]? =some x:=⟨_,Aa h3⟩
 have hdx:=zi hx;refine gz7 ?_;refine de rfl (zg zaY rfl fun b12=> ?_)
 refine de0 (zj zaY rfl rfl rfl rfl rfl ?_)
 refine gz1 ?_;refine zd (zm 12 rfl) ?_;refine gz2 ?_;refine dq ((by first|exact zk zaY rfl ty3 (by decide) rfl|exact zf zaY rfl ty3 (by decide) rfl)) ?_;refine gz4 ?_;refine uCo (fun h5=> ?_) fun h6=> ?_
 refine gz8 ?_;exact ⟨k+1,G,⟨by omega,hn,by rw [zuG hx,zbA,if_pos uO];exact hc⟩,uD,⟨rfl,trivial⟩,uK,zl rfl⟩;refine gz3 ?_;refine dq ((by first|exact zk zaY rfl ty9 (by decide) rfl|exact zf zaY rfl ty9 (by decide) rfl)) ?_;refine gz1 ?_;refine dq ((by first|exact zk zaY rfl ty3 (by decide) rfl|exact zf zaY rfl ty3 (by decide) rfl)) ?_;refine gz1 ?_;refine dq (zC (cs:=[_,_]) zhL zEc rfl) ?_;refine de rfl (zg zhL rfl fun b13=> ?_)
 refine de0 (zj zhL rfl rfl rfl rfl rfl ?_)
 refine gz1 ?_;refine zd (zm 13 rfl) ?_;have hgl:=zEZ (n:=n) hL hm hc (x.Player,x.Week);refine zd (zlP (A:=[.map m18 (kk zhp (em fG G))]) (G:=G) (G':=G) (s:=(x.Player,x.Week)) hn rfl) ?_;refine gz3 ?_;refine de rfl (zfw (i:=1) (s:=(x.Player,x.Week)) (z0:=gZ StatS) zmh zzR zdb rfl rfl rfl rfl ?_)
 refine gz1 ?_;refine de rfl (uCx 0 zHY rfl rfl (zgw (l:=gLK (x.Player,x.Week) G) (p:=fun s=>s.Name==x.Stat) zHZ (fun _=>zr9) uO) ?_)
 rintro _ _ ⟨u54,rfl,rfl⟩;refine gz2 ?_;refine uVj [14,1,55,11] (fun (w:Value)=>[(14,.raw w)]) (fun (w:Value)=> .arr w 2 ((zdW x (gLK (x.Player,x.Week) G)).map zaG)::([.map m18 (kk zhp (em fG G))]++zgL 2 zaG (G.filter fun q=>decide (q.1≠(x.Player,x.Week))))) (fun (w:Value)=>True) ?_ ?_
 skip
 refine gz1 ?_;refine dq ((by first|exact zk zaY rfl ty3 (by decide) rfl|exact zf zaY rfl ty3 (by decide) rfl)) ?_;refine gz3 ?_;refine uCo (fun h7=> ?_) fun h8=> ?_
 refine gz2 ?_;refine dq ((by first|exact zk zaY rfl ty9 (by decide) rfl|exact zf zaY rfl ty9 (by decide) rfl)) ?_;refine gz1 ?_;refine dq ((by first|exact zk zaY rfl ty3 (by decide) rfl|exact zf zaY rfl ty3 (by decide) rfl)) ?_;refine gz1 ?_;refine dq (zC (cs:=[_,_]) zbD zzW rfl) ?_;refine dq (za (hs:=[_]) zdb zbD rfl rfl (by decide) (by decide) rfl) ?_;refine de rfl (zH (i:=0) zdb zbD rfl rfl rfl rfl rfl (by simp [zan,zb]) (by have:=zuF x (gLK (x.Player,x.Week) G);unfold zmb at this;simp only [Af,Ah,Ar];omega) fun v65=> ?_)
 refine gz2 ?_;exact ⟨v65,trivial,⟨rfl,trivial⟩,uK,zl (by rw [zdW,if_pos (by assumption),Ay];rfl)⟩;refine gz1 ?_;exact ⟨u54,trivial,⟨rfl,trivial⟩,uK,zl (by rw [zdW,if_neg uSa,AV];rfl)⟩
 intro w _
 refine gz4 ?_;refine de0 (zj1 (zgJ (i:=1) (s:=(x.Player,x.Week)) (f:=fG) (L:=G) (v:=(w,zdW x (gLK (x.Player,x.Week) G))) zmh zzR rfl rfl rfl rfl ⟨_,zwy (A:=[.map m18 (kk zhp (em fG (zp (x.Player,x.Week) (w,zdW x (gLK (x.Player,x.Week) G)) G)))]) (s:=(x.Player,x.Week)) (v:=w) (l:=zdW x (gLK (x.Player,x.Week) G)) hn,?_⟩))
 refine gz7 ?_;exact ⟨k+1,zp (x.Player,x.Week) (w,zdW x (gLK (x.Player,x.Week) G)) G,⟨by omega,hn.put,by rw [zuG hx,<-hc,zBf (n:=n) uO]⟩,uD,⟨rfl,trivial⟩,uK,zl rfl⟩;have hnk:m.length<=k:=by omega
 obtain rfl:k=m.length:=by omega
 rw [Am] at hc;refine gz2 ?_;refine zQ ?_;refine gz3 ?_;have hGl:=zE0 hl hm hc;have hkl:(kk zhp (em fG G)).length=G.length:=by simp [kk]
 refine gz2 ?_
 focus first
 |refine de rfl (ze2 (i:=0) zmh rfl rfl ?_)
 |refine de rfl (ze2 (i:=1) zmh rfl rfl ?_)
 |refine de rfl (ze2 (i:=2) zmh rfl rfl ?_)
 |refine de rfl (ze2 (i:=3) zmh rfl rfl ?_)
 refine gz2 ?_;refine zam rfl (fun h9=> ?_) (fun h9=> ?_)
 exfalso
 try simp at h9
 omega
 try simp at h9
 refine gz5 ?_;refine zd (zJ 3) ?_;refine gz3 ?_;refine de rfl (ziq (i:=1) zmh rfl rfl fun r=> ?_)
 refine gz2 ?_;refine uV3 [6,2,15,3,75,19] (fun (vis:List Nat) (E:List (Plc×(Value×List StatS))) (u:Value)=>[(15,.raw u)]) (fun (vis:List Nat) (E:List (Plc×(Value×List StatS))) (u:Value)=>[.arr u 3 ((E.map zn4).map zaq),.iter r m18 (kk zhp (em fG G)) vis]++zgL 2 zaG (zgu G (E.map (·.1)))) (fun (vis:List Nat) (E:List (Plc×(Value×List StatS))) (u:Value)=>VisOk (G) vis E/\(True)) (fun (vis:List Nat) (E:List (Plc×(Value×List StatS))) (u:Value)=>(G).length-vis.length) ([]) ([]) (.slice none 0 0) ?_ ?_ ?_ ?_;exact ⟨VisOk.nil _,trivial⟩;exact ⟨rfl,trivial⟩;exact zl (by simp only [A7,zBy];rfl)
 intro vis E u hinv
 obtain ⟨hvis,-⟩:=hinv;refine gz1 ?_;refine de rfl (zio (i:=1) (L:=G) (enc:=(fun p:Plc×(Value×List StatS)=>(zhp p.1,fG p.2))) rfl rfl (zvJ _ _ _) hvis.nd hvis.lt fun cb R vis' hnx=> ?_)
 refine gz3 ?_;refine uCo (fun h10=> ?_) fun h11=> ?_
 obtain ⟨j,q,hq,hj,rfl⟩:=hnx.t h10;have hroom:=hvis.room hq hj;have hstep:=hvis.step hq hj;have hqm:=Ab hq;refine gz4 ?_;refine de rfl (zhb (i:=1) (L:=G) (enc:=(fun p:Plc×(Value×List StatS)=>(zhp p.1,fG p.2))) rfl rfl (zvJ _ _ _) hq ?_)
 refine gz2 ?_;refine de rfl (zg zhL rfl fun b16=> ?_)
 refine de0 (zj zhL rfl rfl rfl rfl rfl ?_)
 refine gz2 ?_;refine zd (zm 16 rfl) ?_;have hqa:alk q.1 G=some q.2:=(zcX hn).1 hqm;have hqx:q.1∉E.map (·.1):=zdt.1 (hvis.fresh hn hq hj);obtain ⟨gv1,gl1⟩:=zIU hqa;have hq40:=zF7 h40 hc hqm;have hqn:=zIX hs hc hqm;refine zd (zlP (A:=[.arr u 3 ((E.map zn4).map zaq),.iter r m18 (kk zhp (em fG G)) (vis++[j])]) (G:=zgu G (E.map (·.1))) (G':=G) (s:=q.1) (zxZ hn) (zBw hqx)) ?_;rw [zz6,gv1,gl1];refine gz3 ?_;refine de rfl (zbq (i:=0) (es:=q.2.2) zdb rfl rfl ?_)
 refine gz2 ?_;refine zam rfl (fun h12=> ?_) (fun h12=> ?_)
 exfalso
 try simp at h12
 omega
 try simp at h12
 refine gz4 ?_;refine de rfl (zaA (M1:=[.arr q.2.1 2 (q.2.2.map zaG)]) (R:=_) zzk rfl (WeakL.refl _) (Ac _) (zmB (c:=zaU) (zkZ zcn) zDU (fun _ _=> @zoF zgj _ _) (l:=q.2.2) uO) ?_)
 rintro _ _ ⟨l',rfl,hp',hw',rfl⟩;obtain rfl:=zx2 hqn hp' hw';refine gz1 ?_;refine zd (zay 17 (i:=0) rfl rfl) ?_;refine gz2 ?_;refine dq ((by first|exact zk zhL rfl ty9 (by decide) rfl|exact zf zhL rfl ty9 (by decide) rfl)) ?_;refine gz1 ?_;refine dq ((by first|exact zk zhL rfl ty3 (by decide) rfl|exact zf zhL rfl ty3 (by decide) rfl)) ?_;refine gz2 ?_;refine dq (zC (cs:=[_,_,_]) zbg zzZ rfl) ?_;refine dq (za (hs:=[_]) zeT zbg rfl rfl (by decide) (by decide) rfl) ?_;refine de rfl (zH (i:=0) zeT zbg rfl rfl rfl rfl rfl (by simp [zan,zb]) (by have:=hvis.len;simp only [Af,Ah,Ar];omega) fun v93=> ?_)
 refine gz3 ?_;exact ⟨_,E++[q],v93,⟨hstep,trivial⟩,by dsimp only;rw [Ax];simp only [Ah,Ar];omega,⟨rfl,trivial⟩,uK,zl (by dsimp only;simp only [Ay,Ao,A7];rfl)⟩;obtain ⟨rfl,hlen⟩:=hnx.f h11;have hEp:=hvis.done hlen;refine gz2 ?_;refine zcE ?_;refine gz2 ?_;have hr0:zgu G (E.map (·.1))=[]:=zBx (fun q hq=>Bw (hEp.mem_iff.2 hq));rw [hr0];refine zd (zg2 (i:=1) rfl) ?_;refine zd (zbv (M':=[.arr u 3 ((E.map zn4).map zaq),.map m18 (kk zhp (em fG G))]) rfl) ?_;refine gz2 ?_;refine de rfl (zaA (M1:=[.arr u 3 ((E.map zn4).map zaq)]) (R:=[.map m18 (kk zhp (em fG G))]) zDH rfl (WeakL.refl _) (Ac _) (zq0 (c:=zco) (zkZ zfM) zDT (fun _ _=> @zoG zgj _ _) (l:=E.map zn4) (by have:=hEp.length_eq;simp only [Af];omega)) ?_)
 rintro _ _ ⟨l',rfl,hp',hw',rfl⟩;obtain rfl:=zF6 hc hEp hp' hw';refine gz1 ?_;refine zd (Ghost.only (i:=0) rfl) ?_;refine gz6 ?_;exact zxh (M:=[]) 6 rfl rfl rfl
theorem zvh [Tracks] {l:List LineS} {m:List MendS} {n:Int} (hl:l.length<=1000) (hm:m.length<=100) (hL: ∀x∈l,x.Stats.length<=1000) (h40:zap l=0->GLen 40 (zfp l m n)):ConP prog 81 [zbJ l,zcq m,.int .i64 n] (.tup [zbJ (zkP l m n),.int .i64 (zkO l m n)]):=by
 refine uOb func81 ntmps81 ?_;refine gz7 ?_;refine dq (uCl zHb rfl (zqQ (l:=l) uO (fun x hx=>An (hL x hx) (by decide)))) ?_;refine gz1 ?_;refine dq (uCl ca76 rfl (zkk (m:=m) uO)) ?_;refine dq (za (hs:=[_,_]) zg0 zhv rfl rfl (by decide) (by decide) rfl) ?_;refine dq (uCl zpt rfl (zdH (l:=[_,_]) (by simp))) ?_;refine gz6 ?_;refine uCo (fun h1=> ?_) fun h2=> ?_
 refine gz6 ?_;exact zbV rfl (zbM (by rw [zkP,if_pos (by simpa using h1)];exact zD 3) (by rw [zkO,if_pos (by simpa using h1)];exact Weak.refl _));refine gz5 ?_;refine dq (uCl zj6 rfl zbO) ?_;refine gz2 ?_;refine uCo (fun h3=> ?_) fun h4=> ?_
 refine gz5 ?_;exact zbV rfl (zbM (by rw [zkP,if_neg (by simpa using h2),if_neg uSa];exact zD 3) (by rw [zkO,if_neg (by simpa using h2),if_neg uSa];exact Weak.refl _));refine gz6 ?_;refine dq (uCl zHc rfl (zvi (l:=l) (m:=m) (n:=n) hl hm hL (zzG (zCF h2).1) (h40 (zCF h2).1))) ?_;refine gz6 ?_
 (refine zu rfl ?_
  rw [zkP,zkO,if_neg (by simpa using h2),if_pos uSa,if_neg (by simpa using h2),if_pos uSa])
end
section
open Go.Proofs.Tryz
open Go.HL
theorem zD9 [Tracks]:KeyOk prog 285 zjc:=zgO (cs:=fun x:Num=>zb (zjc x)) zs5 zIP (fun x y=>⟨rfl,⟨_,_,_,_,ty9,rfl⟩,⟨rfl,⟨_,_,_,_,ty3,rfl⟩,trivial⟩⟩)
 (fun x y=>by obtain ⟨a,b⟩:=x;obtain ⟨c,d⟩:=y;show (_&&(_&&true))=_;rw [AE];simp [eqH,Prod.mk.injEq]) (fun x=>rfl)
theorem zpk [Tracks] {T:List Str} {l:List GameS} (hT:T.length<=1000000) (hl:l.length<=1000000) (hb:(∀x∈l,((-1000000000<=x.FNum/\x.FNum<=1000000000)/\ -1000000000<=x.FDen/\x.FDen<=1000000000)/\((-1000000000<=x.ONum/\x.ONum<=1000000000)/\ -1000000000<=x.ODen/\x.ODen<=1000000000))):ConP prog 156 [eSs T,zm8 l] (.int .i64 (zgo T l)):=by
 refine uOb func156 ntmps156 ?_;refine gz6 ?_;refine dq (uCl zHO rfl (zpl hT)) ?_;refine gz6 ?_;refine uCo (fun h1=> ?_) fun h2=> ?_
 ·refine gz5 ?_;refine zA Ghost.clear rfl ⟨?_,rfl⟩
  show HVal.int .i64 _=_
  try rw [hE]
  (rw [zgo,if_pos (by assumption)];done)
 ·refine gz3 ?_;have hz:zdQ T=0:=by first|assumption|simp_all
  have hE:zgo T l=zeP T l:=by rw [zgo,if_neg (by simp [hz])]
  refine gz5 ?_;refine uCo (fun h3=> ?_) fun h4=> ?_
  ·refine gz4 ?_;refine zA Ghost.clear rfl ⟨?_,rfl⟩
   show HVal.int .i64 _=_
   try rw [hE]
   (refine congrArg _ (zeV (zbn ?_) (by decide))
    omega)
  ·refine gz3 ?_;refine de rfl (zax fun m22=> ?_)
   refine zau ?_;refine uV1 [4,1,7,4,12,2,25,70] (fun (k:Nat)=>[(25,.int .i64 k),(7,.bool (zlm l k))]) (fun (k:Nat)=>[.map m22 (kk zjc (em HVal.bool (zkK (l.take k))))]) (fun (k:Nat)=>k<=l.length/\(za9 (zcP T) ze3 l 0 l=za9 (zcP T) ze3 l k (l.drop k))) (fun (k:Nat)=>l.length-k) (0) ?_ ?_ ?_ ?_
   ·exact ⟨Ad _,rfl⟩
   ·exact ⟨rfl,rfl,trivial⟩
   ·exact zl rfl
   ·intro k hinv
    obtain ⟨hk,hg⟩:=hinv;refine gz4 ?_;refine uCo (fun h5=> ?_) fun h6=> ?_
    ·obtain ⟨x,hx⟩: ∃x,l[k]? =some x:=⟨_,Aa h5⟩
     have hdx:=zi hx;rw [hdx] at hg;refine gz6 ?_;refine dq (zB zgZ zcS rfl rfl rfl (by assumption)) ?_;refine gz1 ?_;refine de rfl (zg zcS rfl fun b9=> ?_)
     refine gz1 ?_;refine de0 (zj zcS rfl rfl rfl rfl rfl ?_)
     refine gz1 ?_;refine zd (zm 9 rfl) ?_;refine gz5 ?_;refine dq (uCl zli rfl zcL) ?_;refine gz3 ?_;refine uCo (fun h7=> ?_) fun h8=> ?_
     ·refine gz4 ?_;refine zA Ghost.clear rfl ⟨?_,rfl⟩
      show HVal.int .i64 _=_
      try rw [hE]
      (refine congrArg _ (zeV (e:=1) (zt ?_ hg ?_ ?_) ?_)
       ·omega
       ·unfold zcP
        simp_all
        done
       ·first|decide|assumption
       ·first|decide|assumption)
     ·refine gz4 ?_;refine dq (uCl zgG rfl (zG (l:=T) (s:=x.Home) uO)) ?_;refine gz5 ?_;refine uGr rfl (fun hc=>by have hq:=hc;(try simp at hq);exact uCl zgG rfl (zG (l:=T) (s:=x.Away) uO)) ?_;refine gz4 ?_;refine uCo (fun h9=> ?_) fun h10=> ?_
      ·refine gz4 ?_;refine zA Ghost.clear rfl ⟨?_,rfl⟩
       show HVal.int .i64 _=_
       try rw [hE]
       (refine congrArg _ (zeV (e:=8) (zt ?_ hg ?_ ?_) ?_)
        ·omega
        ·unfold zcP
         simp_all
         done
        ·first|decide|assumption
        ·first|decide|assumption)
      ·refine gz8 ?_;refine uCo (fun h11=> ?_) fun h12=> ?_
       ·refine gz4 ?_;refine zA Ghost.clear rfl ⟨?_,rfl⟩
        show HVal.int .i64 _=_
        try rw [hE]
        (refine congrArg _ (zeV (e:=6) (zt ?_ hg ?_ ?_) ?_)
         ·omega
         ·unfold zcP
          simp_all
          done
         ·first|decide|assumption
         ·first|decide|assumption)
       ·refine gz5 ?_;refine dq (zZ (h:=zbb x) zcS rfl rfl rfl rfl) ?_;refine dq (uCl zHP rfl (zoV (x:=x) (hb x (Ab hx)))) ?_;refine gz6 ?_;refine uCo (fun h13=> ?_) fun h14=> ?_
        ·refine gz5 ?_;refine zA Ghost.clear rfl ⟨?_,rfl⟩
         show HVal.int .i64 _=_
         try rw [hE]
         (refine congrArg _ (zeV (e:=(ziI x)) (zt ?_ hg ?_ ?_) ?_)
          ·omega
          ·unfold zcP
           simp_all
           done
          ·first|decide|assumption
          ·first|decide|assumption)
        ·refine gz3 ?_;refine uDr mixed ?_;refine gz7 ?_;refine uGy 7 rfl rfl (fun hc=>by have hq:=hc;(try simp at hq);exact zB (j:=k-1) (a:=l.getD (k-1) ze3) zgZ zcS rfl rfl uO (getD_some uO)) ?_;refine gz1 ?_;refine uGy 9 rfl rfl (fun hc=>uCl zHQ rfl ztp) ?_;refine gz3 ?_;refine uCo (fun h15=> ?_) fun h16=> ?_
         ·refine gz4 ?_;refine zA Ghost.clear rfl ⟨?_,rfl⟩
          show HVal.int .i64 _=_
          try rw [hE]
          (refine congrArg _ (zeV (e:=7) (zt ?_ hg ?_ ?_) ?_)
           ·omega
           ·unfold zcP
            simp_all
            done
           ·first|decide|assumption
           ·first|decide|assumption)
         ·refine gz2 ?_;have hne:x.Home≠x.Away:=by first|assumption|simp_all
          have hg0:zcP T k x (l.getD (k-1) ze3)=0:=by unfold zcP;simp_all
          refine gz5 ?_;refine dq (za (hs:=[_,_]) zo ty9 rfl rfl (by decide) (by decide) rfl) ?_;refine dq (zaE (f:=HVal.str) (l:=[x.Home,x.Away]) zo rfl) ?_;refine gz3 ?_;refine uV1 [7,1,12,2,77,17] (fun (j:Nat)=>[(77,.int .i64 j),(7,.bool (inC l x k j))]) (fun (j:Nat)=>[.map m22 (kk zjc (em HVal.bool (inM l x k j)))]) (fun (j:Nat)=>j<=[x.Home,x.Away].length/\(True)) (fun (j:Nat)=>[x.Home,x.Away].length-j) (0) ?_ ?_ ?_ ?_
          ·exact ⟨Ad _,trivial⟩
          ·exact ⟨rfl,congrArg (fun q=>some (HVal.bool q)) zyp.1.symm,trivial⟩
          ·exact zl (by rw [zyp.2])
          ·intro j hinv
           obtain ⟨hj,-⟩:=hinv;refine gz4 ?_;refine uCo (fun h17=> ?_) fun h18=> ?_
           ·obtain ⟨s,hs⟩: ∃s,[x.Home,x.Away][j]? =some s:=⟨_,Aa (by show j<2;omega)⟩
            have hds:=zi hs;refine gz5 ?_;refine dq (zB zo ty9 rfl rfl rfl (by assumption)) ?_;refine gz3 ?_;obtain ⟨st1,st2⟩:=zEO (l:=l) (k:=k) hne hs;refine gz4 ?_;refine dq (zC (cs:=[_,_]) zs5 zI9 rfl) ?_;refine de rfl (zg zs5 rfl fun b13=> ?_)
            refine de0 (zj zs5 rfl rfl rfl rfl rfl ?_)
            refine gz1 ?_;refine zd (zm 13 rfl) ?_;refine gz5 ?_;refine dgl rfl rfl (fun hc=>⟨_,OpenTo.upd (t:=88) rfl (hc) (OpenTo.upd (t:=87) rfl (hc) (OpenTo.refl _)),zfw (i:=0) (f:=HVal.bool) (L:=inM l x k j) (s:=(s,x.Week)) (z0:=false) zEh zD9 ty4 rfl rfl rfl rfl ⟨rfl,rfl⟩⟩) ?_;refine gz6 ?_;refine de0 (zgJ (i:=0) (f:=HVal.bool) (v:=true) (s:=(s,x.Week)) (L:=inM l x k j) zEh zD9 rfl rfl rfl rfl ?_)
            refine gz7 ?_;exact ⟨j+1,⟨by show j+1<=2;omega,trivial⟩,by show 2-(j+1)<2-j;omega,⟨rfl,congrArg (fun q=>some (HVal.bool q)) (by rw [<-st1];cases inC l x k j<;>rfl),trivial⟩,uK,zl (by dsimp only;rw [<-st2];rfl)⟩
           ·refine gz2 ?_;refine zv ?_;refine gz7 ?_;have e2:j=2:=by (have q:[x.Home,x.Away].length=2:=rfl;omega)
            subst e2;obtain ⟨t1,t2⟩:=zFY hx;exact ⟨k+1,⟨by omega,by rw [hg,za6 hg0]⟩,uD,⟨rfl,congrArg (fun q=>some (HVal.bool q)) t1,trivial⟩,uK,zl (by dsimp only;rw [t2])⟩
    ·have hnk:l.length<=k:=by omega
     obtain rfl:k=l.length:=by omega
     rw [zz (Ae _)] at hg;refine gz2 ?_;refine zv ?_;refine gz6 ?_;refine uCo (fun h19=> ?_) fun h20=> ?_
     ·refine gz4 ?_;refine zA Ghost.clear rfl ⟨?_,rfl⟩
      show HVal.int .i64 _=_
      try rw [hE]
      (rw [zyf ?_ hg,if_pos (by assumption)]
       omega)
     ·refine gz6 ?_;refine zA Ghost.clear rfl ⟨?_,rfl⟩
      show HVal.int .i64 _=_
      try rw [hE]
      (rw [zyf ?_ hg,if_neg uSa]
       omega)
theorem znI [Tracks] {l:List Int} (hl:l.length<=1000000):ConP prog 158 [.slice 1 (l.map (HVal.int .i64))] (.int .i64 (zi6 l)):=by
 refine uOb func158 ntmps158 ?_;refine gz9 ?_;refine uCo (fun h1=> ?_) fun h2=> ?_
 ·refine gz4 ?_;refine uRp ?_
  (rw [zi6,if_pos uO];done)
 ·refine gz9 ?_;refine uT1 [2,3,10,13] (fun k=>[(10,.int .i64 k)]) (fun k=>[]) (fun k=>k<=l.length/\(zeZ l 0 l=zeZ l k (l.drop k))) (fun k=>l.length-k) (0) ?_ ?_
  ·exact ⟨Ad _,rfl⟩
  ·rintro k ⟨hk,hg⟩;refine gz4 ?_;refine uCo (fun h3=> ?_) fun h4=> ?_
   ·obtain ⟨x,hx⟩: ∃x,l[k]? =some x:=⟨_,Aa h3⟩
    have hdx:=zi hx;rw [hdx] at hg;refine zdw ?_;refine dq (uCl zd9 rfl zaL) ?_;refine gz1 ?_;refine uCo (fun h5=> ?_) fun h6=> ?_
    ·refine gz4 ?_;refine uRp ?_
     (refine congrArg _ (zqq (e:=4) ?_ hg ?_)
      ·omega
      ·rw [zeZ]
       simp_all
       done)
    ·refine gz5 ?_;refine dq (zbC zab ty3 rfl rfl ⟨_,_,rfl,rfl⟩ uO uO) ?_;refine gz1 ?_;refine dq (uCl zze rfl (zd8 (l:=l.take k) (z:=x) (by rw [Az];omega))) ?_;refine gz1 ?_;refine uCo (fun h7=> ?_) fun h8=> ?_
     ·refine gz4 ?_;refine uRp ?_
      (refine congrArg _ (zqq (e:=6) ?_ hg ?_)
       ·omega
       ·rw [zeZ]
        simp_all
        done)
     ·refine gz7 ?_;refine ⟨k+1,?_,?_,⟨rfl,trivial⟩,uK,Ac _⟩
      ·refine ⟨by omega,?_⟩
       rw [hg,zeZ,if_neg uSa,if_neg uSa]
      ·dsimp only;omega
   ·have hnk:l.length<=k:=by omega
    obtain rfl:k=l.length:=by omega
    rw [zz (Ae _)] at hg;refine gz2 ?_;refine zv ?_;refine gz6 ?_;refine uRp ?_
    (refine congrArg _ (zx7 ?_ hg)
     omega)
theorem zgC [Tracks] {l:List GameS} {fid:FuncId} {caps:List HVal} {p:GameS->Bool} (hca:Callable prog fid) (hp: ∀x,ConP prog fid ([zbb x]++caps) (.bool (p x))) (hl:l.length<=1000000):ConP prog 231 [.slice 8 (l.map zbb),.fn (.func fid) [] caps] (.int .i64 (zS p l 0)):=by
 refine uOb func231 ntmps231 ?_;refine zau ?_;refine uT1 [4,2,8,11] (fun k=>[(8,.int .i64 k)]) (fun k=>[]) (fun k=>k<=l.length/\(zS p l 0=zS p (l.drop k) k)) (fun k=>l.length-k) (0) ?_ ?_;exact ⟨Ad _,rfl⟩;rintro k ⟨hk,hg⟩;refine gz4 ?_;refine uCo (fun h1=> ?_) fun h2=> ?_
 obtain ⟨x,hx⟩: ∃x,l[k]? =some x:=⟨_,Aa h1⟩
 have hdx:=zi hx;rw [hdx] at hg;refine zdw ?_;refine dq (zag hca rfl rfl (WeakL.refl _) (hp _)) ?_;refine gz1 ?_;refine uCo (fun h3=> ?_) fun h4=> ?_
 refine gz5 ?_;refine uRp ?_
 (rw [hg];simp_all [zS])
 refine gz7 ?_;refine ⟨k+1,?_,?_,⟨rfl,trivial⟩,uK,Ac _⟩
 refine ⟨by omega,?_⟩
 rw [hg,zS,if_neg uSa];rfl
 dsimp only;omega
 have hnk:l.length<=k:=by omega
 obtain rfl:k=l.length:=by omega
 rw [zz (Ae _)] at hg;refine gz2 ?_;refine zv ?_;refine gz6 ?_;refine uRp ?_
 (rw [hg];rfl)
theorem zb2 [Tracks] {l:List GameS} {fid:FuncId} {caps:List HVal} {p:GameS->Bool} (hca:Callable prog fid) (hp: ∀x,ConP prog fid ([zbb x]++caps) (.bool (p x))) (hl:l.length<=1000000):ConP prog 139 [.slice 8 (l.map zbb),.fn (.func fid) [] caps] (.bool (l.any p)):=by
 refine uOb func139 ntmps139 ?_;refine gz6 ?_;refine dq (uCl zHM rfl (zgC hca hp hl)) ?_;refine gz4 ?_;refine zu rfl ?_
 congr 1;exact zb9 p l 0 uO
theorem zmy [Tracks] {x:GameS}:ConP prog 157 [zbb x] (.bool x.Played):=by
 refine uOb func157 ntmps157 ?_;refine zau ?_;refine zu rfl ?_
 rfl
theorem ziB [Tracks] {g:LeagueS} (hT:Tracks.on=false) (hb:LeaB g):ConP prog 72 [zcj g] (.int .i64 (zbQ g)):=by
 have hst:=hb.sta;refine uOb func72 ntmps72 ?_;refine gz5 ?_;refine uDr mixed ?_;refine gz4 ?_;refine uB 4 rfl (uCl zGZ rfl (znN (L:=g.Players) (l:=g.Stints) hT hb.pl hb.nm hb.po hb.st)) ?_;refine gz2 ?_;refine uB 7 rfl (uCl zG0 rfl (zmz (l:=g.Fixtures) hb.fx)) ?_;refine gz2 ?_;refine uB 10 rfl (uCl zDz rfl (zjN (l:=g.Rules) hb.ru hb.rw')) ?_;refine gz2 ?_;refine uB 13 rfl (uCl zG1 rfl (zpo (l:=g.Slots) hb.sl hb.sp)) ?_;refine gz1 ?_;refine uB 15 rfl (zP (h':=zet g.Bounds) (zav zkf rfl rfl (Ak rfl)) rfl) ?_;refine uB 16 rfl (uCl zDA rfl (ziC (b:=g.Bounds))) ?_;refine gz4 ?_;refine uB 21 rfl (uCl zG2 rfl (zpk (T:=g.Teams) (l:=g.Games) hb.tm hb.ga hb.gb)) ?_;refine uB 22 rfl (za (hs:=[_,_,_,_,_,_]) zg0 zhv rfl rfl (by decide) (by decide) rfl) ?_;refine uB 23 rfl (uCl zpt rfl (zdH (l:=[_,_,_,_,_,_]) (by simp))) ?_;refine gz6 ?_;refine uCo (fun h1=> ?_) fun h2=> ?_
 refine gz5 ?_;refine uRp ?_;unfold zbQ ziJ zmJ zdy
 (rw [if_pos (by assumption)])
 refine gz6 ?_;refine dq (uCl zzc rfl (zb2 (l:=g.Games) (p:=fun x=>x.Played) zG3 (fun _=>zmy) hb.ga)) ?_;refine gz1 ?_;refine uCo (fun h3=> ?_) fun h4=> ?_
 refine gz4 ?_;refine uRp ?_;unfold zbQ ziJ zmJ zdy
 (rw [if_neg (fun q=>q h2),if_pos uSa])
 refine gz3 ?_;refine uDr mixed ?_;refine gz2 ?_;refine uB 2 rfl (uCl zG4 rfl (znI (l:=g.Breaks) hb.br)) ?_;refine gz2 ?_;refine uB 5 rfl (uCl zDB rfl (zkm (l:=g.Trust) hb.tr)) ?_;refine uB 6 rfl (za (hs:=[_,_]) zg0 zhv rfl rfl (by decide) (by decide) rfl) ?_;refine uB 7 rfl (uCl zpt rfl (zdH (l:=[_,_]) (by simp))) ?_;refine gz6 ?_;refine uCo (fun h5=> ?_) fun h6=> ?_
 refine gz5 ?_;refine uRp ?_;unfold zbQ ziJ zmJ zdy
 (rw [if_neg (fun q=>q h2),if_neg uSa,if_pos (by assumption)])
 refine gz6 ?_;refine dq (uCl zj6 rfl zbO) ?_;refine gz8 ?_;refine uCo (fun h7=> ?_) fun h8=> ?_
 refine gz4 ?_;refine uRp ?_;unfold zbQ ziJ zmJ zdy
 (rw [if_neg (fun q=>q h2),if_neg uSa,if_neg (fun q=>q h6),if_pos uSa])
 refine gz6 ?_;refine uRp ?_;unfold zbQ ziJ zmJ zdy
 (rw [if_neg (fun q=>q h2),if_neg uSa,if_neg (fun q=>q h6),if_neg uSa])
theorem zqN [Tracks] {a b:ChoiceS}:ConP prog 167 [zX a,zX b] (.int .i64 (zlS a b)):=by
 refine uOb func167 ntmps167 ?_;refine gz5 ?_;refine uDr mixed ?_;refine gz4 ?_;refine uB 4 rfl (uCl zcO rfl zR) ?_;refine gz4 ?_;refine uB 9 rfl (uCl zdT rfl z6) ?_;refine gz4 ?_;refine uB 14 rfl (uCl zdT rfl z6) ?_;refine uB 15 rfl (za (hs:=[_,_,_]) zab ty3 rfl rfl (by decide) (by decide) rfl) ?_;refine uB 16 rfl (uCl zg7 rfl (zbP (l:=[_,_,_]) (by simp))) ?_;refine gz3 ?_;refine zu rfl ?_
 rfl
theorem zm2 [Tracks] {b:BookS} {l:List ChoiceS} (hb:BookB b) (hl:l.length<=1000000) (hc: ∀x∈l,x.Players.length<=1000000):ConP prog 78 [.vptr (zy3 b) 0,zd1 l] (.int .i64 (ztC b.League.Teams b.League.Slots.length l)):=by
 have hsl:=hb.lea.sl;have htm:=hb.lea.tm;refine uOb func78 ntmps78 ?_;refine gz9 ?_;refine uCo (fun h1=> ?_) fun h2=> ?_
 refine gz4 ?_;refine uRp ?_
 (refine congrArg _ (zbn ?_)
  omega)
 refine gz9 ?_;refine uT1 [4,3,8,1,14,68] (fun k=>[(14,.int .i64 k)]) (fun k=>[]) (fun k=>k<=l.length/\(za9 (zcv b.League.Teams b.League.Slots.length) zdU l 0 l=za9 (zcv b.League.Teams b.League.Slots.length) zdU l k (l.drop k))) (fun k=>l.length-k) (0) ?_ ?_;exact ⟨Ad _,rfl⟩;rintro k ⟨hk,hg⟩;refine gz4 ?_;refine uCo (fun h3=> ?_) fun h4=> ?_
 obtain ⟨x,hx⟩: ∃x,l[k]? =some x:=⟨_,Aa h3⟩
 have hdx:=zi hx;rw [hdx] at hg;refine gz6 ?_;refine dq (zB zfj za8 rfl rfl rfl (by assumption)) ?_;refine gz1 ?_;refine de rfl (zg za8 rfl fun b6=> ?_)
 refine gz1 ?_;refine de0 (zj za8 rfl rfl rfl rfl rfl ?_)
 refine gz1 ?_;refine zd (zm 6 rfl) ?_;refine gz2 ?_;refine uDr mixed ?_;refine gz6 ?_;refine uB 6 rfl (uCl zgG rfl (zG (l:=b.League.Teams) (s:=x.Team) uO)) ?_;refine gz3 ?_;refine uCo (fun h5=> ?_) fun h6=> ?_
 refine gz4 ?_;refine uRp ?_
 (refine congrArg _ (zt (e:=8) ?_ hg ?_ ?_)
  omega
  unfold zcv;exact uT
  first|decide|assumption)
 refine gz3 ?_;refine dq (uCl zli rfl zcL) ?_;refine gz4 ?_;refine uGr rfl (fun hc=>uCl zj6 rfl zbO) ?_;refine gz4 ?_;refine uCo (fun h7=> ?_) fun h8=> ?_
 refine gz4 ?_;refine uRp ?_
 (refine congrArg _ (zt (e:=1) ?_ hg ?_ ?_)
  omega
  unfold zcv;exact uT
  first|decide|assumption)
 refine uDr mixed ?_;refine gz2 ?_;refine uB 2 rfl (zaE (f:=HVal.str) (l:=x.Players) zo rfl) ?_;refine gz4 ?_;refine uB 7 rfl (zaE (f:=zcm) (l:=b.League.Slots) zfC rfl) ?_;refine gz3 ?_;refine uCo (fun h9=> ?_) fun h10=> ?_
 refine gz4 ?_;refine uRp ?_
 (refine congrArg _ (zt (e:=3) ?_ hg ?_ ?_)
  omega
  unfold zcv;exact uT
  first|decide|assumption)
 refine gz4 ?_;have hcx:=hc x (Ab hx);refine uDr mixed ?_;refine gz2 ?_;refine uA 3 ?_;refine gz1 ?_;refine uB 5 rfl (za (hs:=[_]) zo ty9 rfl rfl (by decide) (by decide) rfl) ?_;refine uA 8 ?_;refine uF 2 ?_;refine zw rfl (uCa zlj rfl (zad (l:=x.Players) hcx) fun v51=> ?_)
 refine ⟨uE,?_⟩
 refine uF 6 ?_;refine zw rfl (zmP (N:=[]) (sz:=1) (es:=(x.Players++[x.Captain]).map .str) 0 (zH (i:=0) (v:=v51) (es:=x.Players.map .str) (ys:=[.str x.Captain]) zo ty9 rfl rfl rfl rfl rfl (by simp [zan,zb]) uSo fun v55=>⟨v55,rfl,by rw [Ay];rfl,rfl⟩) ?_)
 refine ⟨uE,?_⟩
 refine uB 7 rfl (zaE (f:=HVal.str) (l:=x.Players++[x.Captain]) zo rfl) ?_;refine uAz ?_;refine gz1 ?_;refine uT1 [4,1,8,1,57,12] (fun j=>[(57,.int .i64 j)]) (fun j=>[]) (fun j=>j<=(x.Players++[x.Captain]).length/\(∀s∈(x.Players++[x.Captain]).take j,zcx s=true)) (fun j=>(x.Players++[x.Captain]).length-j) (0) ?_ ?_;exact ⟨Ad _,by simp⟩;rintro j ⟨hj,hnm⟩;have hlen:(x.Players++[x.Captain]).length=x.Players.length+1:=by simp
 refine gz4 ?_;refine uCo (fun h11=> ?_) fun h12=> ?_
 obtain ⟨s,hs⟩: ∃s,(x.Players++[x.Captain])[j]? =some s:=⟨_,Aa (by rw [Ax];simp;omega)⟩
 have hds:=zi hs;refine gz5 ?_;refine dq (zB zo ty9 rfl rfl rfl (by assumption)) ?_;refine gz8 ?_;refine uGr rfl (fun hc=>uCl zcG rfl zaz) ?_;refine gz3 ?_;refine uCo (fun h13=> ?_) fun h14=> ?_
 refine gz4 ?_;refine uRp ?_
 (obtain ⟨q1,q2⟩: ¬s=[]/\key s=false:=by first|assumption|simp_all
  have g1:zcv b.League.Teams b.League.Slots.length k x (l.getD (k-1) zdU)=5:=by
   unfold zcv;rw [if_neg uSa,if_neg uSa,if_neg (fun q=>q uO),if_pos (zBl (Ab hs) (zE3 q1 q2))]
  exact congrArg _ (zt (e:=5) uO hg g1 (by decide)))
 refine gz7 ?_;refine ⟨j+1,?_,?_,⟨rfl,trivial⟩,uK,Ac _⟩
 refine ⟨by omega,fun s' hs'=> ?_⟩
 rw [zW hs] at hs'
 rcases List.mem_append.1 hs' with q|q
 exact hnm s' q;rw [List.mem_singleton.1 q];exact zE4 (by intro q2;simp_all)
 dsimp only;omega
 have hnj:(x.Players++[x.Captain]).length<=j:=by omega
 obtain rfl:j=(x.Players++[x.Captain]).length:=by omega
 rw [Am] at hnm;refine gz2 ?_;refine zv ?_;refine gz2 ?_;have hall:((x.Players++[x.Captain]).all zcx)=true:=by
  rw [List.all_eq_true]
  intro s hs
  exact hnm s hs
 refine uDr mixed ?_;refine gz7 ?_;refine uGy 7 rfl rfl (fun hc=>by have hq:=hc;(try simp at hq);exact zB (j:=k-1) (a:=l.getD (k-1) zdU) zfj za8 rfl rfl uO (getD_some uO)) ?_;refine gz1 ?_;refine uGy 9 rfl rfl (fun hc=>uCl zG9 rfl zqN) ?_;refine gz3 ?_;refine uCo (fun h15=> ?_) fun h16=> ?_
 refine gz4 ?_;refine uRp ?_
 (refine congrArg _ (zt (e:=7) ?_ hg ?_ ?_)
  omega
  unfold zcv;exact uT
  first|decide|assumption)
 refine gz7 ?_;refine ⟨k+1,?_,?_,⟨rfl,trivial⟩,uK,Ac _⟩
 refine ⟨by omega,?_⟩
 rw [hg,za6 (by unfold zcv;(try clear hdx hg);(try simp only [Ag]);focus first|(simp_all;done)|((repeat' split)<;>focus first|rfl|(exfalso;omega)|(simp_all;done)|(exfalso;rcases ‹_\/_› with q|q<;>simp_all;done)|(exfalso;simp_all;omega)))]
 dsimp only;omega
 have hnk:l.length<=k:=by omega
 obtain rfl:k=l.length:=by omega
 rw [zz (Ae _)] at hg;refine gz2 ?_;refine zv ?_;refine gz6 ?_;refine uRp ?_
 (refine congrArg _ (zba ?_ hg)
  omega)
theorem zjL [Tracks] {b:BookS} (hT:Tracks.on=false) (hb:BookB b) (hw: ∀x∈b.Health,-1000000000000000<=x.To/\x.To<=1000000000000000):ConP prog 29 [zaP b] (.int .i64 (zbz b)):=by
 refine uOb func29 ntmps29 ?_;refine gz7 ?_;refine dq (zP (h':=zcj b.League) (zav zbE rfl rfl (Ak rfl)) rfl) ?_;refine dq (uCl ca72 rfl (ziB (g:=b.League) hT hb.lea)) ?_;refine gz6 ?_;refine uCo (fun h1=> ?_) fun h2=> ?_
 refine gz5 ?_;refine uRp ?_;unfold zbz
 (rw [if_pos (by assumption)])
 refine gz2 ?_;refine uDr mixed ?_;refine gz2 ?_;refine uB 2 rfl (uCl ca74 rfl (zi2 (l:=b.Moves) hb.mv)) ?_;refine gz2 ?_;refine uB 5 rfl (uCl ca75 rfl (zkl (l:=b.Plays) hb.pl)) ?_;refine gz2 ?_;refine uB 8 rfl (uCl ca76 rfl (zkk (m:=b.Mends) hb.me)) ?_;refine gz5 ?_;refine uB 14 rfl (uCl ca77 rfl (znM (L:=b.League.Players) (l:=b.Health) hT hb.lea.pl hb.lea.nm hb.lea.po hb.he hw)) ?_;refine gz3 ?_;refine uB 18 rfl (uCl ca78 rfl (zm2 (b:=b) (l:=b.Choices) hb hb.ch hb.cp)) ?_;refine uB 19 rfl (za (hs:=[_,_,_,_,_]) zg0 zhv rfl rfl (by decide) (by decide) rfl) ?_;refine uB 20 rfl (uCl zpt rfl (zdH (l:=[_,_,_,_,_]) (by simp))) ?_;refine gz3 ?_;refine uRp ?_;unfold zbz
 (rw [if_neg (fun q=>q h2),<-zFW (fun q=>q h2)])
end
section
open Go.Proofs.Tryz
open Go.HL
theorem zbk [Tracks] {n lo hi:Int}:ConP prog 144 [.int .i64 n,.int .i64 lo,.int .i64 hi] (.bool (!(out n lo hi))):=by
 refine uOb func144 ntmps144 ?_;refine zjf ?_;refine zu rfl ?_
 show HVal.bool _=_
 congr 1;simp [out];rw [AE];simp;try omega
theorem zhR [Tracks] {n:Int}:ConP prog 126 [.int .i64 n] (.int .i64 (zow n)):=by
 refine uOb func126 ntmps126 ?_;refine zau ?_;refine uCo (fun h1=> ?_) fun h2=> ?_
 refine gz4 ?_;refine uRp ?_;unfold zow
 (rw [if_pos uO])
 refine gz5 ?_;refine uCo (fun h3=> ?_) fun h4=> ?_
 refine gz4 ?_;refine uRp ?_;unfold zow
 (rw [if_neg uO,if_pos uO])
 refine gz7 ?_;refine uRp ?_;unfold zow
 (rw [if_neg uO,if_neg uO])
theorem zld [Tracks] {s l:Str} (hs:s.length<=1000000):ConP prog 200 [.str s,.str l] (.bool (ziM s l)):=by
 refine uOb func200 ntmps200 ?_;refine zau ?_;refine uT1 [4,2,8,10] (fun k=>[(8,.int .i64 (k:Int))]) (fun k=>[]) (fun k=>k<=s.length/\ziM s l=ziM (s.drop k) l) (fun k=>s.length-k) (0) ?_ ?_;exact ⟨Ad _,rfl⟩;rintro k ⟨hk,hg⟩;refine gz4 ?_;refine uCo (fun h1=> ?_) fun h2=> ?_
 obtain ⟨x,hx⟩: ∃x,s[k]? =some x:=⟨_,Aa uO⟩
 have hd:=zi hx;rw [hd] at hg;refine zdf ?_;refine dq (zbe (j:=k) (b:=x) ty9 rfl rfl rfl hx) ?_;refine dq (uCl zDS rfl (zi3 (s:=l) (c:=x.toNat))) ?_;refine gz2 ?_;refine uCo (fun h3=> ?_) fun h4=> ?_
 refine gz4 ?_;refine zu rfl ?_
 show HVal.bool _=_
 rw [hg]
 (rw [zGi (by assumption)])
 refine gz7 ?_;refine ⟨k+1,?_,?_,⟨rfl,trivial⟩,uK,Ac _⟩
 refine ⟨by omega,?_⟩
 rw [hg,zGj (by assumption)]
 dsimp only;omega
 rw [zz uO] at hg;refine gz2 ?_;refine zv ?_;refine gz6 ?_;refine zu rfl ?_
 show HVal.bool _=_
 rw [hg]
 rfl
theorem zbo [Tracks] {s:Str}:ConP prog 102 [.str s] (.bool (key s)):=by
 refine uOb func102 ntmps102 ?_;refine gz6 ?_;refine dq (uCl zg8 rfl zbk) ?_;refine gz2 ?_;refine dg rfl rfl (fun hc=>by
  have hb:=zhK (n:=(s.length:Int)) (lo:=1) (hi:=40) (by simpa using hc);exact ⟨_,OpenTo.upd (t:=7) rfl (hc) (OpenTo.refl _),ziO (l:=0) (h:=1) ty9 rfl rfl ⟨_,_,rfl,by omega⟩ uO uO⟩) ?_
 refine uGr rfl (fun hc=>by have hq:=hc;(try simp at hq);exact uCl zDJ rfl (zld (s:=s.take 1) (l:=zkX) (by rw [Az];omega))) ?_;refine gz3 ?_;refine dg rfl rfl (fun hc=>by
  have hb:=zhK (n:=(s.length:Int)) (lo:=1) (hi:=40) (by (have q:=hc;simp at q;exact q.1));exact ⟨_,OpenTo.upd (t:=12) rfl (hc) (OpenTo.refl _),uCl zDJ rfl (zld (s:=s) (l:=zhI) uO)⟩) ?_
 refine gz4 ?_;refine zu rfl ?_
 show HVal.bool _=_
 rw [zCs]
 simp
theorem zjI [Tracks] {n:Int}:ConP prog 143 [.int .i64 n] (.bool (zN n)):=by
 refine uOb func143 ntmps143 ?_;refine gz5 ?_;refine dq (uCl zg8 rfl zbk) ?_;refine gz3 ?_;refine zu rfl ?_
 show HVal.bool _=_
 rfl
theorem zhQ [Tracks] {n:Int}:ConP prog 226 [.int .i64 n] (.bool (zar n)):=by
 refine uOb func226 ntmps226 ?_;refine gz5 ?_;refine dq (uCl zg8 rfl zbk) ?_;refine gz3 ?_;refine zu rfl ?_
 show HVal.bool _=_
 rfl
theorem zjJ [Tracks] {l:List Str} (hl:l.length<=1000000):ConP prog 201 [eSs l] (.int .i64 (zhg l)):=by
 refine uOb func201 ntmps201 ?_;refine zau ?_;refine uT1 [2,3,7,20] (fun k=>[(7,.int .i64 k)]) (fun k=>[]) (fun k=>k<=l.length/\(zhg l=zdl l k (l.drop k))) (fun k=>l.length-k) (0) ?_ ?_;exact ⟨Ad _,rfl⟩;rintro k ⟨hk,hg⟩;refine gz4 ?_;refine uCo (fun h1=> ?_) fun h2=> ?_
 obtain ⟨x,hx⟩: ∃x,l[k]? =some x:=⟨_,Aa h1⟩
 have hdx:=zi hx;rw [hdx] at hg;refine zdw ?_;refine dq (uCl zhH rfl zbo) ?_;refine gz2 ?_;refine uCo (fun h3=> ?_) fun h4=> ?_
 refine gz4 ?_;refine uRp ?_;rw [hg];simp_all [zdl,leS];refine zau ?_;refine uGr rfl (fun hc=>by have hq:=hc;(try simp at hq);exact zB (j:=k-1) (a:=l.getD (k-1) []) zo ty9 rfl rfl uO (getD_some uO)) ?_;refine gz4 ?_;refine uCo (fun h5=> ?_) fun h6=> ?_
 refine gz4 ?_;refine uRp ?_;rw [hg];simp_all [zdl,leS];refine gz7 ?_;refine ⟨k+1,?_,?_,⟨rfl,trivial⟩,uK,Ac _⟩
 refine ⟨by omega,?_⟩
 rw [hg];simp_all [zdl,leS]
 dsimp only;omega
 have hnk:l.length<=k:=by omega
 obtain rfl:k=l.length:=by omega
 rw [zz (Ae _)] at hg;refine gz2 ?_;refine zv ?_;refine gz6 ?_;refine uRp ?_;rw [hg];simp_all [zdl,leS]
theorem zft [Tracks] {l:List Str} (hl:l.length<=1000000):ConP prog 103 [eSs l,.bool true] (.int .i64 (zci l)):=by
 refine uOb func103 ntmps103 ?_;refine zdw ?_;refine uCo (fun h1=> ?_) fun h2=> ?_
 refine gz4 ?_;refine uRp ?_;rw [ztX]
 (rw [if_pos uSa])
 refine gz6 ?_;refine uCo (fun h3=> ?_) fun h4=> ?_
 refine gz4 ?_;refine uRp ?_;rw [ztX]
 (rw [if_neg uO,if_pos uO])
 refine gz5 ?_;refine dq (uCl zDK rfl (zjJ (by assumption))) ?_;refine gz3 ?_;refine uRp ?_;rw [ztX]
 (rw [if_neg uSa,if_neg uO])
theorem zk9 [Tracks] {l:List PlayerS} (hT:Tracks.on=false) (hl:l.length<=1000000) (hn: ∀p∈l,p.Name∈zdF) (hp: ∀p∈l,p.Positions.length<=1000000):ConP prog 131 [zbp l] (.int .i64 (zdk l)):=by
 refine uOb func131 ntmps131 ?_;refine gz9 ?_;refine uCo (fun h1=> ?_) fun h2=> ?_
 refine gz4 ?_;refine uRp ?_
 (refine congrArg _ (zbn ?_)
  omega)
 refine zdf ?_;refine uT1 [2,2,5,2,12,35] (fun k=>[(12,.int .i64 k),(3,.str (zob PlayerS.Key zeX l k))]) (fun k=>[]) (fun k=>k<=l.length/\(za9 zdo zeX l 0 l=za9 zdo zeX l k (l.drop k))) (fun k=>l.length-k) (0) ?_ ?_;exact ⟨Ad _,rfl⟩;rintro k ⟨hk,hg⟩;refine gz4 ?_;refine uCo (fun h3=> ?_) fun h4=> ?_
 obtain ⟨x,hx⟩: ∃x,l[k]? =some x:=⟨_,Aa h3⟩
 have hdx:=zi hx;rw [hdx] at hg;refine gz7 ?_;refine de rfl (zg zhi rfl fun b5=> ?_)
 refine de0 (zj zhi rfl rfl rfl rfl rfl ?_)
 refine gz1 ?_;refine zd (zm 5 rfl) ?_;refine gz5 ?_;refine dq (uCl zhH rfl zbo) ?_;refine gz3 ?_;refine uCo (fun h5=> ?_) fun h6=> ?_
 refine gz4 ?_;refine uRp ?_
 (refine congrArg _ (zt (e:=5) ?_ hg ?_ ?_)
  omega
  unfold zdo;exact uT
  first|decide|assumption)
 have hkx:key x.Key=true:=by first|assumption|simp_all
 have hll:=ztN (f:=PlayerS.Key) (d:=zeX) (l:=l) (k:=k) (x:=x) hkx;refine gz7 ?_;refine uCo (fun h7=> ?_) fun h8=> ?_
 refine gz4 ?_;refine uRp ?_
 (refine congrArg _ (zt (e:=7) ?_ hg ?_ ?_)
  omega
  unfold zdo;exact uT
  first|decide|assumption)
 have hn6:=zp0 (hn x (Ab hx));refine gz3 ?_;refine dq (uCl zHI rfl (zqL hT (hn x (Ab hx)))) ?_;refine gz5 ?_;refine uGr rfl (fun hc=>uCl zg8 rfl zbk) ?_;refine gz4 ?_;refine zam rfl (fun h9=> ?_) (fun h9=> ?_)
 exfalso
 try simp at h9
 simp_all
 try simp at h9
 refine gz7 ?_;refine dq (uCl zy7 rfl (zft (hp x (Ab hx)))) ?_;refine gz6 ?_;refine uCo (fun h10=> ?_) fun h11=> ?_
 refine gz5 ?_;refine uRp ?_
 (refine congrArg _ (zt (e:=(zci x.Positions)) ?_ hg ?_ ?_)
  omega
  unfold zdo;exact uT
  first|decide|assumption)
 refine zfe ?_;exact ⟨k+1,⟨by omega,by rw [hg,za6 (by unfold zdo;(try clear hdx hg);(try simp only [Ag]);focus first|(simp_all;done)|((repeat' split)<;>focus first|rfl|(exfalso;omega)|(simp_all;done)|(exfalso;rcases ‹_\/_› with q|q<;>simp_all;done)|(exfalso;simp_all;omega)))]⟩,uD,⟨rfl,congrArg (fun q=>some (HVal.str q)) (zpU hx).symm,trivial⟩,uK,Ac _⟩;have hnk:l.length<=k:=by omega
 obtain rfl:k=l.length:=by omega
 rw [zz (Ae _)] at hg;refine gz2 ?_;refine zv ?_;refine gz6 ?_;refine uRp ?_
 (refine congrArg _ (zba ?_ hg)
  omega)
theorem zmt [Tracks] {x:PlayerS} {s:Str}:ConP prog 99 [zeU x,.vptr [.str s] 0] (.bool (x.Key==s)):=by
 refine uOb func99 ntmps99 ?_;refine zdf ?_;refine zu rfl ?_
 rfl
theorem zfO [Tracks] {l:List PlayerS} {fid:FuncId} {caps:List HVal} {p:PlayerS->Bool} (hca:Callable prog fid) (hp: ∀x,ConP prog fid ([zeU x]++caps) (.bool (p x))) (hl:l.length<=1000000):ConP prog 98 [.slice 3 (l.map zeU),.fn (.func fid) [] caps] (.int .i64 (zS p l 0)):=by
 refine uOb func98 ntmps98 ?_;refine zau ?_;refine uT1 [4,2,8,11] (fun k=>[(8,.int .i64 k)]) (fun k=>[]) (fun k=>k<=l.length/\(zS p l 0=zS p (l.drop k) k)) (fun k=>l.length-k) (0) ?_ ?_;exact ⟨Ad _,rfl⟩;rintro k ⟨hk,hg⟩;refine gz4 ?_;refine uCo (fun h1=> ?_) fun h2=> ?_
 obtain ⟨x,hx⟩: ∃x,l[k]? =some x:=⟨_,Aa h1⟩
 have hdx:=zi hx;rw [hdx] at hg;refine zdw ?_;refine dq (zag hca rfl rfl (WeakL.refl _) (hp _)) ?_;refine gz1 ?_;refine uCo (fun h3=> ?_) fun h4=> ?_
 refine gz5 ?_;refine uRp ?_
 (rw [hg];simp_all [zS])
 refine gz7 ?_;refine ⟨k+1,?_,?_,⟨rfl,trivial⟩,uK,Ac _⟩
 refine ⟨by omega,?_⟩
 rw [hg,zS,if_neg uSa];rfl
 dsimp only;omega
 have hnk:l.length<=k:=by omega
 obtain rfl:k=l.length:=by omega
 rw [zz (Ae _)] at hg;refine gz2 ?_;refine zv ?_;refine gz6 ?_;refine uRp ?_
 (rw [hg];rfl)
theorem zdc [Tracks] {l:List PlayerS} {s:Str} (hl:l.length<=1000000):ConP prog 42 [zbp l,.str s] (.int .i64 (zS (fun x:PlayerS=>x.Key==s) l 0)):=by
 refine uOb func42 ntmps42 ?_;refine gz7 ?_;refine dq (uCl ca98 rfl (zfO (l:=l) (p:=fun x=>x.Key==s) ca99 (fun _=>zmt) hl)) ?_;refine gz3 ?_;refine zu rfl ?_
 rfl
theorem zlJ [Tracks] {L:List PlayerS} {l:List StintS} (hL:L.length<=1000000) (hl:l.length<=1000000):ConP prog 132 [zbp L,zgf l] (.int .i64 (zkd L l)):=by
 refine uOb func132 ntmps132 ?_;refine gz9 ?_;refine uCo (fun h1=> ?_) fun h2=> ?_
 refine gz4 ?_;refine uRp ?_
 (refine congrArg _ (zbn ?_)
  omega)
 refine gz9 ?_;refine uT1 [4,3,12,63] (fun k=>[(12,.int .i64 k)]) (fun k=>[]) (fun k=>k<=l.length/\(za9 (zev L) zga l 0 l=za9 (zev L) zga l k (l.drop k))) (fun k=>l.length-k) (0) ?_ ?_;exact ⟨Ad _,rfl⟩;rintro k ⟨hk,hg⟩;refine gz4 ?_;refine uCo (fun h3=> ?_) fun h4=> ?_
 obtain ⟨x,hx⟩: ∃x,l[k]? =some x:=⟨_,Aa h3⟩
 have hdx:=zi hx;rw [hdx] at hg;refine gz8 ?_;refine de rfl (zg zdn rfl fun b6=> ?_)
 refine gz1 ?_;refine de0 (zj zdn rfl rfl rfl rfl rfl ?_)
 refine gz1 ?_;refine zd (zm 6 rfl) ?_;refine gz5 ?_;refine dq (uCl zwg rfl (zdc (l:=L) (s:=x.Player) hL)) ?_;refine gz3 ?_;refine uCo (fun h5=> ?_) fun h6=> ?_
 have hph:=zsO (L:=L) (s:=x.Player);refine gz4 ?_;refine uRp ?_
 (refine congrArg _ (zt (e:=8) ?_ hg ?_ ?_)
  omega
  unfold zev;exact uT
  first|decide|assumption)
 have hph:=zsO (L:=L) (s:=x.Player);have hpl:zhd L x.Player=true:=by
  cases hq:zhd L x.Player with
  |true=>rfl
  |false=>have:=hph.2 hq;omega
 refine gz7 ?_;refine uGr rfl (fun hc=>uCl zhH rfl zbo) ?_;refine gz4 ?_;refine uCo (fun h7=> ?_) fun h8=> ?_
 refine gz4 ?_;refine uRp ?_
 (refine congrArg _ (zt (e:=5) ?_ hg ?_ ?_)
  omega
  unfold zev;exact uT
  first|decide|assumption)
 refine gz3 ?_;refine dq (uCl zzj rfl zhQ) ?_;refine gz3 ?_;refine uCo (fun h9=> ?_) fun h10=> ?_
 refine gz4 ?_;refine uRp ?_
 (refine congrArg _ (zt (e:=1) ?_ hg ?_ ?_)
  omega
  unfold zev;exact uT
  first|decide|assumption)
 have hord:=ord2 (a:=x.Player) (b:=(l.getD (k-1) zga).Player) (m:=x.Week) (n:=(l.getD (k-1) zga).Week);refine uDr mixed ?_;refine gz8 ?_;refine uGy 8 rfl rfl (fun hc=>by have hq:=hc;(try simp at hq);exact zB (j:=k-1) (a:=l.getD (k-1) zga) zh6 zdn rfl rfl uO (getD_some uO)) ?_;refine gz9 ?_;refine uGy 18 rfl rfl (fun hc=>by have hq:=hc;(try simp at hq);exact zB (j:=k-1) (a:=l.getD (k-1) zga) zh6 zdn rfl rfl uO (getD_some uO)) ?_;refine gz9 ?_;refine uGy 28 rfl rfl (fun hc=>by have hq:=hc;(try simp at hq);exact zB (j:=k-1) (a:=l.getD (k-1) zga) zh6 zdn rfl rfl uO (getD_some uO)) ?_;refine gz8 ?_;refine uCo (fun h11=> ?_) fun h12=> ?_
 refine gz4 ?_;refine uRp ?_
 (refine congrArg _ (zt (e:=7) ?_ hg ?_ ?_)
  omega
  unfold zev;exact uT
  first|decide|assumption)
 refine gz8 ?_;refine ⟨k+1,?_,?_,⟨rfl,trivial⟩,uK,Ac _⟩
 refine ⟨by omega,?_⟩
 rw [hg,za6 (by unfold zev;(try clear hdx hg);(try simp only [Ag]);focus first|(simp_all;done)|((repeat' split)<;>focus first|rfl|(exfalso;omega)|(simp_all;done)|(exfalso;rcases ‹_\/_› with q|q<;>simp_all;done)|(exfalso;simp_all;omega)))]
 dsimp only;omega
 have hnk:l.length<=k:=by omega
 obtain rfl:k=l.length:=by omega
 rw [zz (Ae _)] at hg;refine gz2 ?_;refine zv ?_;refine gz6 ?_;refine uRp ?_
 (refine congrArg _ (zba ?_ hg)
  omega)
theorem zlI [Tracks] {L:List PlayerS} {l:List HealthS} (hL:L.length<=1000000) (hl:l.length<=1000000) (hw: ∀x∈l,-1000000000000000<=x.To/\x.To<=1000000000000000):ConP prog 68 [zbp L,zde l] (.int .i64 (ztI L l)):=by
 refine uOb func68 ntmps68 ?_;refine gz9 ?_;refine uCo (fun h1=> ?_) fun h2=> ?_
 refine gz4 ?_;refine uRp ?_
 (refine congrArg _ (zbn ?_)
  omega)
 refine gz9 ?_;refine uT1 [4,4,13,74] (fun k=>[(13,.int .i64 k)]) (fun k=>[]) (fun k=>k<=l.length/\(za9 (zcw L) zhe l 0 l=za9 (zcw L) zhe l k (l.drop k))) (fun k=>l.length-k) (0) ?_ ?_;exact ⟨Ad _,rfl⟩;rintro k ⟨hk,hg⟩;refine gz4 ?_;refine uCo (fun h3=> ?_) fun h4=> ?_
 obtain ⟨x,hx⟩: ∃x,l[k]? =some x:=⟨_,Aa h3⟩
 have hdx:=zi hx;rw [hdx] at hg;refine gz8 ?_;refine de rfl (zg zc8 rfl fun b6=> ?_)
 refine gz1 ?_;refine de0 (zj zc8 rfl rfl rfl rfl rfl ?_)
 refine gz1 ?_;refine zd (zm 6 rfl) ?_;refine gz2 ?_;have hwx:=hw x (Ab hx);refine gz4 ?_;refine dq (uCl zwg rfl (zdc (l:=L) (s:=x.Player) hL)) ?_;refine gz3 ?_;refine uCo (fun h5=> ?_) fun h6=> ?_
 have hph:=zsO (L:=L) (s:=x.Player);refine gz4 ?_;refine uRp ?_
 (refine congrArg _ (zt (e:=8) ?_ hg ?_ ?_)
  omega
  unfold zcw;exact uT
  first|decide|assumption)
 have hph:=zsO (L:=L) (s:=x.Player);have hpl:zhd L x.Player=true:=by
  cases hq:zhd L x.Player with
  |true=>rfl
  |false=>have:=hph.2 hq;omega
 refine gz6 ?_;refine dq (uCl zg8 rfl zbk) ?_;refine gz8 ?_;refine uCo (fun h7=> ?_) fun h8=> ?_
 have hag:=zCk (f:=x.From) (t:=x.To) (by assumption);refine gz4 ?_;refine uRp ?_
 (refine congrArg _ (zt (e:=1) ?_ hg ?_ ?_)
  omega
  unfold zcw;exact uT
  first|decide|assumption)
 have hag:=zCj (f:=x.From) (t:=x.To) (by assumption);refine zcg ?_;refine uCo (fun h9=> ?_) fun h10=> ?_
 have hkd:=zF1 (k:=x.Kind) (by assumption);refine gz4 ?_;refine uRp ?_
 (refine congrArg _ (zt (e:=4) ?_ hg ?_ ?_)
  omega
  unfold zcw;exact uT
  first|decide|assumption)
 refine gz4 ?_;have hkd:=zF0 (k:=x.Kind) (by assumption);refine gz4 ?_;refine uCo (fun h11=> ?_) fun h12=> ?_
 refine gz8 ?_;refine ⟨k+1,?_,?_,⟨rfl,trivial⟩,uK,Ac _⟩
 refine ⟨by omega,?_⟩
 rw [hg,za6 (by unfold zcw;(try clear hdx hg);(try simp only [Ag]);focus first|(simp_all;done)|((repeat' split)<;>focus first|rfl|(exfalso;omega)|(simp_all;done)|(exfalso;rcases ‹_\/_› with q|q<;>simp_all;done)|(exfalso;simp_all;omega)))]
 dsimp only;omega
 refine gz2 ?_;have hk0:0<k:=by omega
 refine gz4 ?_;refine dq (zB (j:=k-1) (a:=l.getD (k-1) zhe) zkg zc8 rfl rfl uO (getD_some uO)) ?_;refine gz1 ?_;refine de rfl (zg zc8 rfl fun b7=> ?_)
 refine de0 (zj zc8 rfl rfl rfl rfl rfl ?_)
 refine gz1 ?_;refine zd (zm 7 rfl) ?_;refine gz1 ?_;have hord:=ord2 (a:=x.Player) (b:=(l.getD (k-1) zhe).Player) (m:=x.From) (n:=(l.getD (k-1) zhe).From);refine gz22 ?_;refine uCo (fun h13=> ?_) fun h14=> ?_
 refine gz4 ?_;refine uRp ?_
 (refine congrArg _ (zt (e:=7) ?_ hg ?_ ?_)
  omega
  unfold zcw;exact uT
  first|decide|assumption)
 refine zjf ?_;refine uCo (fun h15=> ?_) fun h16=> ?_
 refine gz4 ?_;refine uRp ?_
 (refine congrArg _ (zt (e:=13) ?_ hg ?_ ?_)
  omega
  unfold zcw;exact uT
  first|decide|assumption)
 refine gz8 ?_;refine ⟨k+1,?_,?_,⟨rfl,trivial⟩,uK,Ac _⟩
 refine ⟨by omega,?_⟩
 rw [hg,za6 (by unfold zcw;(try clear hdx hg);(try simp only [Ag]);focus first|(simp_all;done)|((repeat' split)<;>focus first|rfl|(exfalso;omega)|(simp_all;done)|(exfalso;rcases ‹_\/_› with q|q<;>simp_all;done)|(exfalso;simp_all;omega)))]
 dsimp only;omega
 have hnk:l.length<=k:=by omega
 obtain rfl:k=l.length:=by omega
 rw [zz (Ae _)] at hg;refine gz2 ?_;refine zv ?_;refine gz6 ?_;refine uRp ?_
 (refine congrArg _ (zba ?_ hg)
  omega)
theorem zgA [Tracks] {a b:List Int} (ha:a.length<=1000) (hb:b.length<=1000):ConP prog 210 [.slice 1 (a.map (HVal.int .i64)),.slice 1 (b.map (HVal.int .i64))] (.int .i64 (zgm a b)):=by
 refine uOb func210 ntmps210 ?_;refine zau ?_;refine uT1 [4,5,11,20] (fun k=>[(11,.int .i64 k)]) (fun k=>[]) (fun k=>k<=a.length/\(zgm a b=zgm (a.drop k) (b.drop k))) (fun k=>a.length-k) (0) ?_ ?_;exact ⟨Ad _,rfl⟩;rintro k ⟨hk,hg⟩;refine gz4 ?_;refine uCo (fun h1=> ?_) fun h2=> ?_
 obtain ⟨x,hx⟩: ∃x,a[k]? =some x:=⟨_,Aa h1⟩
 have hdx:=zi hx;rw [hdx] at hg;refine zCi ?_;refine uCo (fun h3=> ?_) fun h4=> ?_
 refine gz4 ?_;refine uRp ?_
 (rw [hg,BP (show b.length<=k by omega)];rfl)
 refine gz2 ?_;obtain ⟨y,hy⟩: ∃y,b[k]? =some y:=⟨_,Aa uO⟩
 refine zau ?_;refine dq (uCl zdT rfl (z6 (a:=x) (b:=y))) ?_;refine gz6 ?_;refine uCo (fun h5=> ?_) fun h6=> ?_
 refine gz5 ?_;refine uRp ?_
 (rw [hg,zi hy,zgm,if_pos (by assumption)])
 refine gz7 ?_;exact ⟨k+1,⟨by omega,by rw [hg,zi hy,zgm,if_neg uSa]⟩,uD,⟨rfl,trivial⟩,uK,Ac _⟩;have hnk:a.length<=k:=by omega
 obtain rfl:k=a.length:=by omega
 rw [zz (Ae _)] at hg;refine gz2 ?_;refine zv ?_;refine zau ?_;refine uCo (fun h7=> ?_) fun h8=> ?_
 refine gz4 ?_;refine uRp ?_
 (obtain ⟨y,hy⟩: ∃y,b[a.length]? =some y:=⟨_,Aa uO⟩
  rw [hg,zi hy];rfl)
 refine gz6 ?_;refine uRp ?_
 (rw [hg,BP (show b.length<=a.length by omega)];rfl)
theorem zks [Tracks] {l:List FixS} (hl:l.length<=1000000):ConP prog 133 [znW l] (.int .i64 (zj9 l)):=by
 refine uOb func133 ntmps133 ?_;refine gz9 ?_;refine uCo (fun h1=> ?_) fun h2=> ?_
 refine gz4 ?_;refine uRp ?_
 (refine congrArg _ (zbn ?_)
  omega)
 refine gz9 ?_;refine uT1 [2,5,12,65] (fun k=>[(12,.int .i64 k)]) (fun k=>[]) (fun k=>k<=l.length/\(za9 zgK zmH l 0 l=za9 zgK zmH l k (l.drop k))) (fun k=>l.length-k) (0) ?_ ?_;exact ⟨Ad _,rfl⟩;rintro k ⟨hk,hg⟩;refine gz4 ?_;refine uCo (fun h3=> ?_) fun h4=> ?_
 obtain ⟨x,hx⟩: ∃x,l[k]? =some x:=⟨_,Aa h3⟩
 have hdx:=zi hx;rw [hdx] at hg;refine gz8 ?_;refine de rfl (zg zaX rfl fun b4=> ?_)
 refine gz1 ?_;refine de0 (zj zaX rfl rfl rfl rfl rfl ?_)
 refine gz1 ?_;refine zd (zm 4 rfl) ?_;refine gz5 ?_;refine dq (uCl zzj rfl zhQ) ?_;refine gz4 ?_;refine uGr rfl (fun hc=>uCl zDx rfl zjI) ?_;refine gz4 ?_;refine uCo (fun h5=> ?_) fun h6=> ?_
 refine gz4 ?_;refine uRp ?_
 (refine congrArg _ (zt (e:=1) ?_ hg ?_ ?_)
  omega
  unfold zgK;exact uT
  first|decide|assumption)
 refine gz3 ?_;refine dq (uCl zhH rfl zbo) ?_;refine gz4 ?_;refine uGr rfl (fun hc=>uCl zhH rfl zbo) ?_;refine gz4 ?_;refine uCo (fun h7=> ?_) fun h8=> ?_
 refine gz4 ?_;refine uRp ?_
 (refine congrArg _ (zt (e:=5) ?_ hg ?_ ?_)
  omega
  unfold zgK;exact uT
  first|decide|assumption)
 refine gz8 ?_;refine uCo (fun h9=> ?_) fun h10=> ?_
 refine gz4 ?_;refine uRp ?_
 (refine congrArg _ (zt (e:=6) ?_ hg ?_ ?_)
  omega
  unfold zgK;exact uT
  first|decide|assumption)
 refine gz7 ?_;refine uCo (fun h11=> ?_) fun h12=> ?_
 refine gz4 ?_;refine dq (zB (j:=k-1) (a:=l.getD (k-1) zmH) zdB zaX rfl rfl uO (getD_some uO)) ?_;refine gz1 ?_;refine de rfl (zg zaX rfl fun b5=> ?_)
 refine de0 (zj zaX rfl rfl rfl rfl rfl ?_)
 refine gz1 ?_;refine zd (zm 5 rfl) ?_;refine gz5 ?_;refine dq (za (hs:=[_,_]) zab ty3 rfl rfl (by decide) (by decide) rfl) ?_;refine gz4 ?_;refine dq (za (hs:=[_,_]) zab ty3 rfl rfl (by decide) (by decide) rfl) ?_;refine dq (uCl zDM rfl (zgA (a:=[(l.getD (k-1) zmH).Week,(l.getD (k-1) zmH).At]) (b:=[x.Week,x.At]) (by simp) (by simp))) ?_;refine gz2 ?_;have hord:=zEz (x:=x) (p:=l.getD (k-1) zmH);refine zjf ?_;refine uCo (fun h13=> ?_) fun h14=> ?_
 refine gz4 ?_;refine uRp ?_
 (refine congrArg _ (zt (e:=7) ?_ hg ?_ ?_)
  omega
  unfold zgK;exact uT
  first|decide|assumption)
 refine gz7 ?_;refine ⟨k+1,?_,?_,⟨rfl,trivial⟩,uK,Ac _⟩
 refine ⟨by omega,?_⟩
 rw [hg,za6 (by unfold zgK;(try clear hdx hg);(try simp only [Ag]);focus first|(simp_all;done)|((repeat' split)<;>focus first|rfl|(exfalso;omega)|(simp_all;done)|(exfalso;rcases ‹_\/_› with q|q<;>simp_all;done)|(exfalso;simp_all;omega)))]
 dsimp only;omega
 refine gz7 ?_;refine ⟨k+1,?_,?_,⟨rfl,trivial⟩,uK,Ac _⟩
 refine ⟨by omega,?_⟩
 rw [hg,za6 (by unfold zgK;(try clear hdx hg);(try simp only [Ag]);focus first|(simp_all;done)|((repeat' split)<;>focus first|rfl|(exfalso;omega)|(simp_all;done)|(exfalso;rcases ‹_\/_› with q|q<;>simp_all;done)|(exfalso;simp_all;omega)))]
 dsimp only;omega
 have hnk:l.length<=k:=by omega
 obtain rfl:k=l.length:=by omega
 rw [zz (Ae _)] at hg;refine gz2 ?_;refine zv ?_;refine gz6 ?_;refine uRp ?_
 (refine congrArg _ (zba ?_ hg)
  omega)
theorem zi0 [Tracks] {n d:Int} (hn: -1000000000000<=n/\n<=1000000000000) (hd:0<=d/\d<=1000000000000):ConP prog 202 [.int .i64 n,.int .i64 d] (.int .i64 ((Nat.gcd n.natAbs d.natAbs:Nat):Int)):=by
 refine uOb func202 ntmps202 ?_;refine gz5 ?_;refine uU2 [0,2,5,6] (fun (a:Int) (b:Int)=>[(0,.int .i64 a),(1,.int .i64 b)]) (fun (a:Int) (b:Int)=>[]) (fun (a:Int) (b:Int)=>(-1000000000000<=a/\a<=1000000000000)/\(-1000000000000<=b/\b<=1000000000000)/\Nat.gcd a.natAbs b.natAbs=Nat.gcd n.natAbs d.natAbs) (fun (a:Int) (b:Int)=>b.natAbs) (n) (d) ?_ ?_;exact ⟨hn,by omega,rfl⟩;rintro a b ⟨ha,hb,hg⟩;refine gz5 ?_;refine uCo (fun h1=> ?_) fun h2=> ?_
 have hb0:b≠0:=by simpa using h1
 obtain ⟨m1,m2,m3⟩:=zrN (a:=a) hb0;refine gz3 ?_;refine zh8 mixed ?_;refine gz3 ?_;refine uB 3 rfl (zdp rfl rfl uO) ?_;refine gz4 ?_;refine ⟨b,a.tmod b,?_,?_,⟨rfl,rfl,trivial⟩,uK,Ac _⟩
 exact ⟨hb,by omega,by rw [zxw];exact hg⟩
 dsimp only;exact m3
 obtain rfl:b=0:=by simpa using h2
 rw [show (0:Int).natAbs=0 from rfl,Co] at hg;refine gz2 ?_;refine zQ ?_;refine gz5 ?_;refine dq (zgU rfl uO uO) ?_;refine dq (zqD rfl rfl) ?_;refine gz3 ?_;refine uRp ?_;rw [<-hg]
 congr 1
 omega
theorem zeN [Tracks] {n d most:Int} (hn: -1000000000<=n/\n<=1000000000) (hd: -1000000000<=d/\d<=1000000000) (hm:0<=most/\most<=1000000):ConP prog 104 [.agg [.int .i64 n,.int .i64 d],.int .i64 most] (.int .i64 (za2 n d most)):=by
 refine uOb func104 ntmps104 ?_;refine zjf ?_;refine dg rfl rfl (fun hc=>by
  have hd1:1<=d:=by (have q:=hc;simp at q;omega)
  exact ⟨_,OpenTo.upd (t:=13) rfl (hc) (OpenTo.upd (t:=11) rfl (hc) (OpenTo.refl _)),uCl zvD rfl (zi0 (n:=n) (d:=d) uO uO)⟩) ?_
 refine gz4 ?_;refine uCo (fun h1=> ?_) fun h2=> ?_
 have hp3:=pts3 (n:=n) (d:=d) (by assumption);refine gz4 ?_;refine uRp ?_;unfold za2
 (rw [if_pos hp3])
 have hp0:=pts0 (n:=n) (d:=d) uSa;have hd1:1<=d:=by (focus first|omega|(simp_all;done)|(simp_all;omega))
 have hmd:=zsG (a:=most) (b:=d) (A:=1000000) (B:=1000000000) uO uO uO uO;have hmn: -most*d= -(most*d):=Bx _ _;refine gz3 ?_;refine dq (zdp rfl rfl uO) ?_;refine gz5 ?_;refine uGr rfl (fun hc=>by have hq:=hc;(try simp at hq);exact zgU rfl uO uO) ?_;refine gz2 ?_;refine uGr rfl (fun hc=>by have hq:=hc;(try simp at hq);exact zbu rfl rfl uO uO) ?_;refine gz8 ?_;refine uGr rfl (fun hc=>by have hq:=hc;(try simp at hq);exact zbu rfl rfl uO uO) ?_;refine gz4 ?_;refine uCo (fun h3=> ?_) fun h4=> ?_
 have hp1:=pts1 (n:=n) (d:=d) (m:=most) (by assumption);refine gz4 ?_;refine uRp ?_;unfold za2
 (rw [if_neg (by rw [hp0];simp;omega),if_pos hp1])
 refine gz3 ?_;have hp2:=pts2 (n:=n) (d:=d) (m:=most) (by assumption);refine gz4 ?_;refine uRp ?_;unfold za2
 (rw [if_neg (by rw [hp0];simp;omega),if_neg hp2])
theorem zmu [Tracks] {l:List RuleS} (hl:l.length<=1000000) (hb: ∀x∈l,((-1000000000<=x.Num/\x.Num<=1000000000)/\ -1000000000<=x.Den/\x.Den<=1000000000)):ConP prog 134 [zfv l] (.int .i64 (zhs l)):=by
 refine uOb func134 ntmps134 ?_;refine gz9 ?_;refine uCo (fun h1=> ?_) fun h2=> ?_
 refine gz4 ?_;refine uRp ?_
 (refine congrArg _ (zbn ?_)
  omega)
 refine zdf ?_;refine uT1 [2,2,5,3,13,70] (fun k=>[(13,.int .i64 k),(3,.str (zob RuleS.Key zmf l k))]) (fun k=>[]) (fun k=>k<=l.length/\(za9 zeI zmf l 0 l=za9 zeI zmf l k (l.drop k))) (fun k=>l.length-k) (0) ?_ ?_;exact ⟨Ad _,rfl⟩;rintro k ⟨hk,hg⟩;refine gz4 ?_;refine uCo (fun h3=> ?_) fun h4=> ?_
 obtain ⟨x,hx⟩: ∃x,l[k]? =some x:=⟨_,Aa h3⟩
 have hdx:=zi hx;rw [hdx] at hg;refine gz7 ?_;refine de rfl (zg zfs rfl fun b5=> ?_)
 refine de0 (zj zfs rfl rfl rfl rfl rfl ?_)
 refine gz1 ?_;refine zd (zm 5 rfl) ?_;refine gz9 ?_;refine dq (zP (h':= .bool (zsB x.Kind)) (zkH rfl) rfl) ?_;refine gz6 ?_;refine dq (uCl zhH rfl zbo) ?_;refine gz4 ?_;refine uGr rfl (fun hc=>uCl zhH rfl zbo) ?_;refine gz9 ?_;refine uGr rfl (fun hc=>uCl zhH rfl zbo) ?_;refine gz5 ?_;refine uCo (fun h5=> ?_) fun h6=> ?_
 refine gz4 ?_;refine uRp ?_
 (refine congrArg _ (zt (e:=5) ?_ hg ?_ ?_)
  omega
  unfold zeI;exact uT
  first|decide|assumption)
 have hkx:key x.Key=true:=by simp_all
 have hll:=ztN (f:=RuleS.Key) (d:=zmf) (l:=l) (k:=k) (x:=x) hkx;refine gz7 ?_;refine uCo (fun h7=> ?_) fun h8=> ?_
 refine gz4 ?_;refine uRp ?_
 (refine congrArg _ (zt (e:=7) ?_ hg ?_ ?_)
  omega
  unfold zeI;exact uT
  first|decide|assumption)
 refine gz3 ?_;refine dq (uCl zg8 rfl zbk) ?_;refine gz3 ?_;refine uCo (fun h9=> ?_) fun h10=> ?_
 refine gz4 ?_;refine uRp ?_
 (refine congrArg _ (zt (e:=4) ?_ hg ?_ ?_)
  omega
  unfold zeI;exact uT
  first|decide|assumption)
 refine gz5 ?_;refine uGr rfl (fun hc=>uCl zg8 rfl zbk) ?_;refine zfe ?_;refine uCo (fun h11=> ?_) fun h12=> ?_
 refine gz4 ?_;refine uRp ?_
 (refine congrArg _ (zt (e:=1) ?_ hg ?_ ?_)
  omega
  unfold zeI;exact uT
  first|decide|assumption)
 refine gz6 ?_;refine dq (zP (h':= .agg [.int .i64 x.Num,.int .i64 x.Den]) (zav zaM rfl rfl (Ak rfl)) rfl) ?_;refine dq (uCl zvz rfl (zeN (n:=x.Num) (d:=x.Den) (most:=10000) (hb x (Ab hx)).1 (hb x (Ab hx)).2 uO)) ?_;refine gz6 ?_;refine uCo (fun h13=> ?_) fun h14=> ?_
 refine gz5 ?_;refine uRp ?_
 (refine congrArg _ (zt (e:=(za2 x.Num x.Den 10000)) ?_ hg ?_ ?_)
  omega
  unfold zeI;exact uT
  first|decide|assumption)
 refine zfe ?_;exact ⟨k+1,⟨by omega,by rw [hg,za6 (by unfold zeI;(try clear hdx hg);(try simp only [Ag]);focus first|(simp_all;done)|((repeat' split)<;>focus first|rfl|(exfalso;omega)|(simp_all;done)|(exfalso;rcases ‹_\/_› with q|q<;>simp_all;done)|(exfalso;simp_all;omega)))]⟩,uD,⟨rfl,congrArg (fun q=>some (HVal.str q)) (zpU hx).symm,trivial⟩,uK,Ac _⟩;have hnk:l.length<=k:=by omega
 obtain rfl:k=l.length:=by omega
 rw [zz (Ae _)] at hg;refine gz2 ?_;refine zv ?_;refine gz6 ?_;refine uRp ?_
 (refine congrArg _ (zba ?_ hg)
  omega)
theorem zlb [Tracks] {y x:SlotS}:ConP prog 228 [zcm y,.vptr (zb (zcm x)) 0] (.bool (y.Key==x.Key)):=by
 refine uOb func228 ntmps228 ?_;refine zfe ?_;refine zu rfl ?_
 rfl
theorem zmx [Tracks] {l:List SlotS} (hl:l.length<=1000000) (hp: ∀x∈l,x.Positions.length<=1000000):ConP prog 135 [zgH l] (.int .i64 (zeS l)):=by
 refine uOb func135 ntmps135 ?_;refine zcg ?_;refine uCo (fun h1=> ?_) fun h2=> ?_
 ·refine gz4 ?_;refine uRp ?_
  (unfold zeS;simp_all;done)
 ·refine gz6 ?_;refine uCo (fun h3=> ?_) fun h4=> ?_
  ·refine gz4 ?_;refine uRp ?_
   (rw [zeS,if_neg (by first|omega|simp_all),if_pos uO];done)
  ·refine zau ?_;refine uT1 [2,4,16,21] (fun k=>[(16,.int .i64 k)]) (fun k=>[]) (fun k=>k<=l.length/\(zdm l 0 l=zdm l k (l.drop k))) (fun k=>l.length-k) (0) ?_ ?_
   ·exact ⟨Ad _,rfl⟩
   ·rintro k ⟨hk,hg⟩;refine gz4 ?_;refine uCo (fun h5=> ?_) fun h6=> ?_
    ·obtain ⟨x,hx⟩: ∃x,l[k]? =some x:=⟨_,Aa h5⟩
     have hdx:=zi hx;rw [hdx] at hg;refine gz8 ?_;refine de rfl (zg zcf rfl fun b4=> ?_)
     refine gz1 ?_;refine de0 (zj zcf rfl rfl rfl rfl rfl ?_)
     refine gz1 ?_;refine zd (zm 4 rfl) ?_;refine gz4 ?_;refine dq (uCl zhH rfl zbo) ?_;refine gz2 ?_;refine uCo (fun h7=> ?_) fun h8=> ?_
     ·refine gz4 ?_;refine uRp ?_
      (refine congrArg _ (zjo (e:=5) ?_ ?_ hg ?_)
       ·first|omega|simp_all
       ·omega
       ·rw [zdm]
        simp_all
        done)
     ·refine gz6 ?_;refine dq (zbC zfC zcf rfl rfl ⟨_,_,rfl,rfl⟩ uO uO) ?_;refine gz1 ?_;refine dq (uCl zDQ rfl (zdq (l:=l.take k) (p:=fun y=>y.Key==x.Key) zHJ (fun _=>zlb) (by rw [Az];omega))) ?_;refine gz1 ?_;refine uCo (fun h9=> ?_) fun h10=> ?_
      ·refine gz4 ?_;refine uRp ?_
       (refine congrArg _ (zjo (e:=6) ?_ ?_ hg ?_)
        ·first|omega|simp_all
        ·omega
        ·rw [zdm]
         simp_all
         done)
      ·refine gz5 ?_;refine dq (uCl zy7 rfl (zft (hp x (Ab hx)))) ?_;refine gz6 ?_;refine uCo (fun h11=> ?_) fun h12=> ?_
       ·refine gz5 ?_;refine uRp ?_
        (refine congrArg _ (zjo (e:=(zci x.Positions)) ?_ ?_ hg ?_)
         ·first|omega|simp_all
         ·omega
         ·rw [zdm]
          simp_all
          done)
       ·refine gz7 ?_;refine ⟨k+1,?_,?_,⟨rfl,trivial⟩,uK,Ac _⟩
        ·refine ⟨by omega,?_⟩
         rw [hg,zdm,if_neg uSa,if_neg uSa,if_neg uSa]
        ·dsimp only;omega
    ·have hnk:l.length<=k:=by omega
     obtain rfl:k=l.length:=by omega
     rw [zz (Ae _)] at hg;refine gz2 ?_;refine zv ?_;refine gz6 ?_;refine uRp ?_
     (refine congrArg _ (zxq ?_ ?_ hg)<;>first|omega|simp_all)
theorem zlG [Tracks] {b:BoundS}:ConP prog 136 [zet b] (.int .i64 (zeo b)):=by
 refine uOb func136 ntmps136 ?_;refine gz8 ?_;refine dq (uCl zg8 rfl zbk) ?_;refine gz4 ?_;refine uGr rfl (fun hc=>uCl zg8 rfl zbk) ?_;refine gz5 ?_;refine uGr rfl (fun hc=>uCl zg8 rfl zbk) ?_;refine gz5 ?_;refine uGr rfl (fun hc=>uCl zg8 rfl zbk) ?_;refine gz3 ?_;refine uCo (fun h1=> ?_) fun h2=> ?_
 refine gz4 ?_;refine uRp ?_;unfold zeo
 (rw [if_pos uSa])
 refine gz6 ?_;refine uRp ?_;unfold zeo
 (rw [if_neg uSa])
theorem zig [Tracks] {a b:MoveS} (ha:MovB a) (hb:MovB b):ConP prog 58 [zdD a,zdD b] (.int .i64 (zhF a b)):=by
 obtain ⟨a1,a2⟩:=ha;obtain ⟨b1,b2⟩:=hb;refine uOb func58 ntmps58 ?_;refine zjf ?_;refine uCo (fun h1=> ?_) fun h2=> ?_
 refine gz6 ?_;refine dq (uCl zza rfl zhR) ?_;refine gz3 ?_;refine uRp ?_;rw [znv]
 try rw [zh4]
 simp_all
 refine gz8 ?_;refine uCo (fun h3=> ?_) fun h4=> ?_
 refine gz5 ?_;refine dq (uCl zcO rfl zR) ?_;refine gz3 ?_;refine uRp ?_;rw [znv]
 try rw [zh4]
 simp_all
 refine gz8 ?_;refine uCo (fun h5=> ?_) fun h6=> ?_
 refine gz5 ?_;refine dq (uCl zcO rfl zR) ?_;refine gz3 ?_;refine uRp ?_;rw [znv]
 try rw [zh4]
 simp_all
 refine gz9 ?_;refine dq (uCl zza rfl zhR) ?_;refine gz3 ?_;refine uRp ?_;rw [znv]
 try rw [zh4]
 simp_all
theorem zms [Tracks] {l:List MoveS} (hl:l.length<=1000000) (hb: ∀x∈l,MovB x):ConP prog 65 [zcA l] (.int .i64 (zfg l)):=by
 refine uOb func65 ntmps65 ?_;refine gz9 ?_;refine uCo (fun h1=> ?_) fun h2=> ?_
 refine gz4 ?_;refine uRp ?_
 (refine congrArg _ (zbn ?_)
  omega)
 refine gz9 ?_;refine uT1 [2,3,10,40] (fun k=>[(10,.int .i64 k)]) (fun k=>[]) (fun k=>k<=l.length/\(za9 zfo zkD l 0 l=za9 zfo zkD l k (l.drop k))) (fun k=>l.length-k) (0) ?_ ?_;exact ⟨Ad _,rfl⟩;rintro k ⟨hk,hg⟩;refine gz4 ?_;refine uCo (fun h3=> ?_) fun h4=> ?_
 obtain ⟨x,hx⟩: ∃x,l[k]? =some x:=⟨_,Aa h3⟩
 have hdx:=zi hx;rw [hdx] at hg;refine gz8 ?_;refine de rfl (zg zy rfl fun b4=> ?_)
 refine gz1 ?_;refine de0 (zj zy rfl rfl rfl rfl rfl ?_)
 refine gz1 ?_;refine zd (zm 4 rfl) ?_;refine gz4 ?_;refine dq (uCl zDx rfl zjI) ?_;refine gz3 ?_;refine uCo (fun h5=> ?_) fun h6=> ?_
 refine gz4 ?_;refine uRp ?_
 (refine congrArg _ (zt (e:=1) ?_ hg ?_ ?_)
  omega
  unfold zfo;exact uT
  first|decide|assumption)
 refine gz3 ?_;refine dq (uCl zg8 rfl zbk) ?_;refine gz3 ?_;refine uCo (fun h7=> ?_) fun h8=> ?_
 refine gz4 ?_;refine uRp ?_
 (refine congrArg _ (zt (e:=4) ?_ hg ?_ ?_)
  omega
  unfold zfo;exact uT
  first|decide|assumption)
 refine gz3 ?_;refine dq (uCl zhH rfl zbo) ?_;refine gz4 ?_;refine uGr rfl (fun hc=>uCl zhH rfl zbo) ?_;refine gz4 ?_;refine uCo (fun h9=> ?_) fun h10=> ?_
 refine gz4 ?_;refine uRp ?_
 (refine congrArg _ (zt (e:=5) ?_ hg ?_ ?_)
  omega
  unfold zfo;exact uT
  first|decide|assumption)
 have htu:=zCD (x:=x) (p:=l.getD (k-1) zkD);refine uDr mixed ?_;refine gz6 ?_;refine uGy 6 rfl rfl (fun hc=>by have hq:=hc;(try simp at hq);exact zB (j:=k-1) (a:=l.getD (k-1) zkD) zda zy rfl rfl uO (getD_some uO)) ?_;refine gz2 ?_;refine uGy 9 rfl rfl (fun hc=>by have hq:=hc;(try simp at hq);exact uCl ca58 rfl (zig (a:=l.getD (k-1) zkD) (b:=x) (hb _ (Ab (getD_some uO))) (hb _ (Ab hx)))) ?_;refine gz4 ?_;refine uCo (fun h11=> ?_) fun h12=> ?_
 refine gz4 ?_;refine uRp ?_
 (refine congrArg _ (zt (e:=7) ?_ hg ?_ ?_)
  omega
  unfold zfo;exact uT
  first|decide|assumption)
 refine gz8 ?_;refine ⟨k+1,?_,?_,⟨rfl,trivial⟩,uK,Ac _⟩
 refine ⟨by omega,?_⟩
 rw [hg,za6 (by unfold zfo;(try clear hdx hg);(try simp only [Ag]);focus first|(simp_all;done)|((repeat' split)<;>focus first|rfl|(exfalso;omega)|(simp_all;done)|(exfalso;rcases ‹_\/_› with q|q<;>simp_all;done)|(exfalso;simp_all;omega)))]
 dsimp only;omega
 have hnk:l.length<=k:=by omega
 obtain rfl:k=l.length:=by omega
 rw [zz (Ae _)] at hg;refine gz2 ?_;refine zv ?_;refine gz6 ?_;refine uRp ?_
 (refine congrArg _ (zba ?_ hg)
  omega)
theorem zhx [Tracks] {l:List Str} (hl:l.length<=1000000):ConP prog 137 [eSs l] (.int .i64 (zdQ l)):=by
 refine uOb func137 ntmps137 ?_;refine zcg ?_;refine uCo (fun h1=> ?_) fun h2=> ?_
 refine gz4 ?_;refine uRp ?_
 (rw [zdQ,if_pos uO])
 refine gz6 ?_;refine uCo (fun h3=> ?_) fun h4=> ?_
 refine gz4 ?_;refine uRp ?_
 (rw [zdQ,if_neg uO,if_pos uO])
 refine gz5 ?_;refine dq (uCl zDK rfl (zjJ (by assumption))) ?_;refine gz3 ?_;refine uRp ?_
 (rw [zdQ,if_neg uO,if_neg uO])
theorem zif [Tracks] {a b:GameS} (ha: -1000000000000000<=a.Week/\a.Week<=1000000000000000) (hb: -1000000000000000<=b.Week/\b.Week<=1000000000000000):ConP prog 123 [zbb a,zbb b] (.int .i64 (zg5 a b)):=by
 refine uOb func123 ntmps123 ?_;refine zjf ?_;refine uCo (fun h1=> ?_) fun h2=> ?_
 refine gz6 ?_;refine dq (uCl zza rfl zhR) ?_;refine gz3 ?_;refine uRp ?_;rw [zrj]
 try rw [zh4]
 simp_all
 refine gz8 ?_;refine uCo (fun h3=> ?_) fun h4=> ?_
 refine gz5 ?_;refine dq (uCl zcO rfl zR) ?_;refine gz3 ?_;refine uRp ?_;rw [zrj]
 try rw [zh4]
 simp_all
 refine gz8 ?_;refine dq (uCl zcO rfl zR) ?_;refine gz3 ?_;refine uRp ?_;rw [zrj]
 try rw [zh4]
 simp_all
theorem zle [Tracks] {x:GameS} (hb:((-1000000000<=x.FNum/\x.FNum<=1000000000)/\ -1000000000<=x.FDen/\x.FDen<=1000000000)/\((-1000000000<=x.ONum/\x.ONum<=1000000000)/\ -1000000000<=x.ODen/\x.ODen<=1000000000)):ConP prog 229 [zbb x] (.int .i64 (ziI x)):=by
 refine uOb func229 ntmps229 ?_;refine zau ?_;refine uCo (fun h1=> ?_) fun h2=> ?_
 refine gz3 ?_;refine dq (zP (h':= .agg [.int .i64 x.FNum,.int .i64 x.FDen]) (zav zaM rfl rfl (Ak rfl)) rfl) ?_;refine dq (zC (cs:=[_,_]) zaM zls rfl) ?_;refine dq (zgV zaM zwu rfl rfl ⟨rfl,⟨_,_,_,_,ty3,rfl⟩,⟨rfl,⟨_,_,_,_,ty3,rfl⟩,trivial⟩⟩) ?_;refine gz2 ?_;refine uGr rfl (fun hc=>zP (h':= .agg [.int .i64 x.ONum,.int .i64 x.ODen]) (zav zaM rfl rfl (Ak rfl)) rfl) ?_;refine uGr rfl (fun hc=>zC (cs:=[_,_]) zaM zls rfl) ?_;refine uGr rfl (fun hc=>zgV zaM zwu rfl rfl ⟨rfl,⟨_,_,_,_,ty3,rfl⟩,⟨rfl,⟨_,_,_,_,ty3,rfl⟩,trivial⟩⟩) ?_;refine gz2 ?_;refine uCo (fun h3=> ?_) fun h4=> ?_
 simp [zbw,zfy,eqH] at h3
 refine gz4 ?_;refine uRp ?_
 (unfold ziI;simp_all)
 refine gz2 ?_
 simp [zbw,zfy,eqH] at h4
 refine gz4 ?_;refine uRp ?_
 (unfold ziI;simp_all)
 refine gz2 ?_;have hpl:x.Played=true:=by simpa using h2
 have hgf:=zCc hpl;refine uDr mixed ?_;refine gz1 ?_;refine uB 1 rfl (zP (h':= .agg [.int .i64 x.FNum,.int .i64 x.FDen]) (zav zaM rfl rfl (Ak rfl)) rfl) ?_;refine uB 2 rfl (uCl zvz rfl (zeN (n:=x.FNum) (d:=x.FDen) (most:=1000000) hb.1.1 hb.1.2 uO)) ?_;refine gz1 ?_;refine uB 4 rfl (zP (h':= .agg [.int .i64 x.ONum,.int .i64 x.ODen]) (zav zaM rfl rfl (Ak rfl)) rfl) ?_;refine uB 5 rfl (uCl zvz rfl (zeN (n:=x.ONum) (d:=x.ODen) (most:=1000000) hb.2.1 hb.2.2 uO)) ?_;refine gz5 ?_;refine dq (za (hs:=[_,_]) zg0 zhv rfl rfl (by decide) (by decide) rfl) ?_;refine dq (zaE (f:=HVal.int .i64) (l:=([3,1]:List Int)) zg0 rfl) ?_;refine gz3 ?_;refine uT1 [2,1,6,1,28,14] (fun k=>[(28,.int .i64 k)]) (fun k=>[]) (fun k=>k<=([3,1]:List Int).length/\(zDi (za2 x.FNum x.FDen 1000000) (za2 x.ONum x.ODen 1000000)=zqj (za2 x.FNum x.FDen 1000000) (za2 x.ONum x.ODen 1000000) (([3,1]:List Int).drop k))) (fun k=>([3,1]:List Int).length-k) (0) ?_ ?_;exact ⟨Ad _,rfl⟩;rintro k ⟨hk,hg⟩;refine gz4 ?_;refine uCo (fun h5=> ?_) fun h6=> ?_
 obtain ⟨z,hz⟩: ∃z,([3,1]:List Int)[k]? =some z:=⟨_,Aa (by show k<2;omega)⟩
 have hdz:=zi hz;rw [hdz] at hg;refine gz5 ?_;refine dq (zB zg0 zhv rfl rfl rfl (by assumption)) ?_;refine zfe ?_;refine uCo (fun h7=> ?_) fun h8=> ?_
 refine gz5 ?_;refine uRp ?_
 (rw [hgf,hg,zqj,if_pos uSa])
 refine gz7 ?_;refine ⟨k+1,?_,?_,⟨rfl,trivial⟩,uK,Ac _⟩
 refine ⟨by show k+1<=2;omega,?_⟩
 rw [hg,zqj,if_neg uSa]
 show 2-(k+1)<2-k
 omega
 refine gz2 ?_;refine zv ?_;refine gz6 ?_;refine uRp ?_
 (have e2:k=2:=by (have q:([3,1]:List Int).length=2:=rfl;omega)
  subst e2;rw [hgf,hg];rfl)
theorem zk7 [Tracks] {y x:GameS}:ConP prog 230 [zbb y,.vptr (zb (zbb x)) 0] (.bool (zjP x y)):=by
 refine uOb func230 ntmps230 ?_;refine gz40 ?_;refine gz1 ?_;refine zu rfl ?_
 show HVal.bool _=_
 unfold zjP
 simp [Cy]
theorem zmr [Tracks] {T:List Str} {l:List GameS} (hT:T.length<=1000000) (hl:l.length<=1000000) (hb: ∀x∈l,GamB x):ConP prog 138 [eSs T,zm8 l] (.int .i64 (zgo T l)):=by
 refine uOb func138 ntmps138 ?_;refine gz6 ?_;refine dq (uCl zDw rfl (zhx (by assumption))) ?_;refine gz6 ?_;refine uCo (fun h1=> ?_) fun h2=> ?_
 ·refine gz5 ?_;refine uRp ?_
  try rw [hE]
  (rw [zgo,if_pos (by assumption)];done)
 ·refine gz3 ?_;have hz:zdQ T=0:=by first|assumption|simp_all
  have hE:zgo T l=zeP T l:=by rw [zgo,if_neg (by simp [hz])]
  refine gz5 ?_;refine uCo (fun h3=> ?_) fun h4=> ?_
  ·refine gz4 ?_;refine uRp ?_
   try rw [hE]
   (refine congrArg _ (zeV (zbn ?_) (by decide))
    omega)
  ·refine gz9 ?_;refine uT1 [4,1,6,3,21,47] (fun k=>[(21,.int .i64 k)]) (fun k=>[]) (fun k=>k<=l.length/\(za9 (zcP T) ze3 l 0 l=za9 (zcP T) ze3 l k (l.drop k))) (fun k=>l.length-k) (0) ?_ ?_
   ·exact ⟨Ad _,rfl⟩
   ·rintro k ⟨hk,hg⟩;refine gz4 ?_;refine uCo (fun h5=> ?_) fun h6=> ?_
    ·obtain ⟨x,hx⟩: ∃x,l[k]? =some x:=⟨_,Aa h5⟩
     have hdx:=zi hx;rw [hdx] at hg;refine gz8 ?_;refine de rfl (zg zcS rfl fun b7=> ?_)
     refine gz1 ?_;refine de0 (zj zcS rfl rfl rfl rfl rfl ?_)
     refine gz1 ?_;refine zd (zm 7 rfl) ?_;refine gz5 ?_;refine dq (uCl zzj rfl zhQ) ?_;refine gz3 ?_;refine uCo (fun h7=> ?_) fun h8=> ?_
     ·refine gz4 ?_;refine uRp ?_
      try rw [hE]
      (refine congrArg _ (zeV (e:=1) (zt ?_ hg ?_ ?_) ?_)
       ·omega
       ·unfold zcP
        simp_all
        done
       ·first|decide|assumption
       ·first|decide|assumption)
     ·refine gz4 ?_;refine dq (uCl zgG rfl (zG (l:=T) (s:=x.Home) uO)) ?_;refine gz5 ?_;refine uGr rfl (fun hc=>by have hq:=hc;(try simp at hq);exact uCl zgG rfl (zG (l:=T) (s:=x.Away) uO)) ?_;refine gz4 ?_;refine uCo (fun h9=> ?_) fun h10=> ?_
      ·refine gz4 ?_;refine uRp ?_
       try rw [hE]
       (refine congrArg _ (zeV (e:=8) (zt ?_ hg ?_ ?_) ?_)
        ·omega
        ·unfold zcP
         simp_all
         done
        ·first|decide|assumption
        ·first|decide|assumption)
      ·refine gz8 ?_;refine uCo (fun h11=> ?_) fun h12=> ?_
       ·refine gz4 ?_;refine uRp ?_
        try rw [hE]
        (refine congrArg _ (zeV (e:=6) (zt ?_ hg ?_ ?_) ?_)
         ·omega
         ·unfold zcP
          simp_all
          done
         ·first|decide|assumption
         ·first|decide|assumption)
       ·refine gz5 ?_;refine dq (zZ (h:=zbb x) zcS rfl rfl rfl rfl) ?_;refine dq (uCl zHK rfl (zle (x:=x) ⟨(hb x (Ab hx)).fr,(hb x (Ab hx)).ot⟩)) ?_;refine gz6 ?_;refine uCo (fun h13=> ?_) fun h14=> ?_
        ·refine gz5 ?_;refine uRp ?_
         try rw [hE]
         (refine congrArg _ (zeV (e:=(ziI x)) (zt ?_ hg ?_ ?_) ?_)
          ·omega
          ·unfold zcP
           simp_all
           done
          ·first|decide|assumption
          ·first|decide|assumption)
        ·refine gz2 ?_;have htu:=zCd (x:=x) (p:=l.getD (k-1) ze3);refine uDr mixed ?_;refine gz6 ?_;refine uGy 6 rfl rfl (fun hc=>by have hq:=hc;(try simp at hq);exact zB (j:=k-1) (a:=l.getD (k-1) ze3) zgZ zcS rfl rfl uO (getD_some uO)) ?_;refine gz2 ?_;refine uGy 9 rfl rfl (fun hc=>by have hq:=hc;(try simp at hq);exact uCl zDt rfl (zif (a:=l.getD (k-1) ze3) (b:=x) (hb _ (Ab (getD_some uO))).week (hb _ (Ab hx)).week)) ?_;refine gz3 ?_;refine uCo (fun h15=> ?_) fun h16=> ?_
         ·refine gz4 ?_;refine uRp ?_
          try rw [hE]
          (refine congrArg _ (zeV (e:=7) (zt ?_ hg ?_ ?_) ?_)
           ·omega
           ·unfold zcP
            simp_all
            done
           ·first|decide|assumption
           ·first|decide|assumption)
         ·refine gz7 ?_;refine ⟨k+1,?_,?_,⟨rfl,trivial⟩,uK,Ac _⟩
          ·refine ⟨by omega,?_⟩
           rw [hg,za6 (by unfold zcP;(try clear hdx hg);(try simp only [Ag]);first|(simp_all;done)|((repeat' split)<;>first|rfl|(exfalso;omega)|(simp_all;done)|(exfalso;rcases ‹_\/_› with q|q<;>simp_all;done)|(exfalso;simp_all;omega)))]
          ·dsimp only;omega
    ·have hnk:l.length<=k:=by omega
     obtain rfl:k=l.length:=by omega
     rw [zz (Ae _)] at hg;refine gz2 ?_;refine zv ?_;refine gz9 ?_;refine uT1 [4,1,9,2,70,11] (fun k=>[(70,.int .i64 k)]) (fun k=>[]) (fun k=>k<=l.length/\(zes l 0 l=zes l k (l.drop k))) (fun k=>l.length-k) (0) ?_ ?_
     ·exact ⟨Ad _,rfl⟩
     ·rintro k ⟨hk,hg2⟩;refine gz4 ?_;refine uCo (fun h17=> ?_) fun h18=> ?_
      ·obtain ⟨x,hx⟩: ∃x,l[k]? =some x:=⟨_,Aa h17⟩
       have hdx:=zi hx;rw [hdx] at hg2;refine gz8 ?_;refine de rfl (zg zcS rfl fun b10=> ?_)
       refine gz1 ?_;refine de0 (zj zcS rfl rfl rfl rfl rfl ?_)
       refine gz1 ?_;refine zd (zm 10 rfl) ?_;refine gz3 ?_;refine dq (zbC zgZ zcS rfl rfl ⟨_,_,rfl,rfl⟩ uO uO) ?_;refine gz1 ?_;refine dq (uCl zzc rfl (zb2 (l:=l.take k) (p:=zjP x) zHL (fun _=>zk7) (by rw [Az];omega))) ?_;refine gz1 ?_;refine uCo (fun h19=> ?_) fun h20=> ?_
       ·refine gz4 ?_;refine uRp ?_
        try rw [hE]
        (rw [zeP,if_neg (by rw [<-zba uO hg];simp),if_pos (by rw [hg2,zes];simp_all)];done)
       ·refine gz7 ?_;refine ⟨k+1,?_,?_,⟨rfl,trivial⟩,uK,Ac _⟩
        ·refine ⟨by omega,?_⟩
         rw [hg2,zes];simp_all
        ·dsimp only;omega
      ·have hnk:l.length<=k:=by omega
       obtain rfl:k=l.length:=by omega
       rw [zz (Ae _)] at hg2;refine gz2 ?_;refine zv ?_;refine gz6 ?_;refine uRp ?_
       try rw [hE]
       (rw [zeP,if_neg (by rw [<-zba uO hg];simp),if_neg (by rw [hg2];simp [zes])];done)
theorem zlH [Tracks] {l:List Int} (hl:l.length<=1000000):ConP prog 141 [.slice 1 (l.map (HVal.int .i64))] (.int .i64 (zi6 l)):=by
 refine uOb func141 ntmps141 ?_;refine gz9 ?_;refine uCo (fun h1=> ?_) fun h2=> ?_
 ·refine gz4 ?_;refine uRp ?_
  (rw [zi6,if_pos uO];done)
 ·refine gz9 ?_;refine uT1 [2,3,10,14] (fun k=>[(10,.int .i64 k)]) (fun k=>[]) (fun k=>k<=l.length/\(zeZ l 0 l=zeZ l k (l.drop k))) (fun k=>l.length-k) (0) ?_ ?_
  ·exact ⟨Ad _,rfl⟩
  ·rintro k ⟨hk,hg⟩;refine gz4 ?_;refine uCo (fun h3=> ?_) fun h4=> ?_
   ·obtain ⟨x,hx⟩: ∃x,l[k]? =some x:=⟨_,Aa h3⟩
    have hdx:=zi hx;rw [hdx] at hg;refine zdw ?_;refine dq (uCl zg8 rfl zbk) ?_;refine gz2 ?_;refine uCo (fun h5=> ?_) fun h6=> ?_
    ·refine gz4 ?_;refine uRp ?_
     (refine congrArg _ (zqq (e:=4) ?_ hg ?_)
      ·omega
      ·rw [zeZ]
       simp_all
       done)
    ·refine gz5 ?_;refine dq (zbC zab ty3 rfl rfl ⟨_,_,rfl,rfl⟩ uO uO) ?_;refine gz1 ?_;refine dq (uCl zze rfl (zd8 (l:=l.take k) (z:=x) (by rw [Az];omega))) ?_;refine gz1 ?_;refine uCo (fun h7=> ?_) fun h8=> ?_
     ·refine gz4 ?_;refine uRp ?_
      (refine congrArg _ (zqq (e:=6) ?_ hg ?_)
       ·omega
       ·rw [zeZ]
        simp_all
        done)
     ·refine gz7 ?_;refine ⟨k+1,?_,?_,⟨rfl,trivial⟩,uK,Ac _⟩
      ·refine ⟨by omega,?_⟩
       rw [hg,zeZ,if_neg uSa,if_neg uSa]
      ·dsimp only;omega
   ·have hnk:l.length<=k:=by omega
    obtain rfl:k=l.length:=by omega
    rw [zz (Ae _)] at hg;refine gz2 ?_;refine zv ?_;refine gz6 ?_;refine uRp ?_
    (refine congrArg _ (zx7 ?_ hg)
     omega)
end
section
open Go.Proofs.Tryz
open Go.HL
theorem zpc [Tracks] {a b:MendS}:ConP prog 148 [zbc a,zbc b] (.int .i64 (zfn a b)):=by
 refine uOb func148 ntmps148 ?_;refine gz5 ?_;refine uDr mixed ?_;refine gz4 ?_;refine uB 4 rfl (uCl zcO rfl zR) ?_;refine gz4 ?_;refine uB 9 rfl (uCl zdT rfl z6) ?_;refine gz4 ?_;refine uB 14 rfl (uCl zcO rfl zR) ?_;refine gz4 ?_;refine uB 19 rfl (uCl zdT rfl z6) ?_;refine uB 20 rfl (za (hs:=[_,_,_,_]) zab ty3 rfl rfl (by decide) (by decide) rfl) ?_;refine uB 21 rfl (uCl zg7 rfl (zbP (l:=[_,_,_,_]) (by simp))) ?_;refine gz3 ?_;refine zu rfl ?_
 rfl
theorem zmn [Tracks] {m:List MendS} (hl:m.length<=1000000) (hgm: ∀x∈m,zix x):ConP prog 67 [zcq m] (.int .i64 (zbY m)):=by
 refine uOb func67 ntmps67 ?_;refine gz9 ?_;refine uCo (fun h1=> ?_) fun h2=> ?_
 ·refine gz4 ?_;refine uRp ?_
  (rw [zbY,if_pos uO];done)
 ·refine gz9 ?_;refine uT1 [2,3,10,59] (fun k=>[(10,.int .i64 k)]) (fun k=>[]) (fun k=>k<=m.length/\(za7 zaS zfn zfq m 0 m=za7 zaS zfn zfq m k (m.drop k))) (fun k=>m.length-k) (0) ?_ ?_
  ·exact ⟨Ad _,rfl⟩
  ·rintro k ⟨hk,hg⟩;refine gz4 ?_;refine uCo (fun h3=> ?_) fun h4=> ?_
   ·obtain ⟨x,hx⟩: ∃x,m[k]? =some x:=⟨_,Aa h3⟩
    have hdx:=zi hx;rw [hdx] at hg;refine gz8 ?_;refine de rfl (zg zaY rfl fun b4=> ?_)
    refine gz1 ?_;refine de0 (zj zaY rfl rfl rfl rfl rfl ?_)
    refine gz1 ?_;refine zd (zm 4 rfl) ?_;refine gz4 ?_;refine dq (uCl zkx rfl (zcd (hgm x (Ab hx)).1)) ?_;refine gz4 ?_;refine uGr rfl (fun hc=>uCl zkx rfl (zcd (hgm x (Ab hx)).2.1)) ?_;refine gz5 ?_;refine uGr rfl (fun hc=>uCl zkx rfl (zcd (hgm x (Ab hx)).2.2)) ?_;refine gz4 ?_;refine uCo (fun h5=> ?_) fun h6=> ?_
    ·refine gz4 ?_;refine uRp ?_
     (refine congrArg _ (zmc (c:=5) uO hg (by decide) ?_)
      rw [zaS,if_pos]
      simp_all
      done)
    ·refine gz3 ?_;refine dq (uCl ca6 rfl zcZ) ?_;refine gz4 ?_;refine uGr rfl (fun hc=>uCl zps rfl zc0) ?_;refine gz5 ?_;refine uGr rfl (fun hc=>uCl ca7 rfl zb0) ?_;refine gz5 ?_;refine uGr rfl (fun hc=>uCl zps rfl zc0) ?_;refine gz4 ?_;refine uCo (fun h7=> ?_) fun h8=> ?_
     ·refine gz4 ?_;refine uRp ?_
      (refine congrArg _ (zmc (c:=1) uO hg (by decide) ?_)
       rw [zaS,if_neg,if_pos]
       all_goals simp_all
       done)
     ·refine uDr mixed ?_;refine gz6 ?_;refine uGy 6 rfl rfl (fun hc=>by have hq:=hc;(try simp at hq);exact zB (j:=k-1) (a:=m.getD (k-1) zfq) zeg zaY rfl rfl uO (getD_some uO)) ?_;refine gz2 ?_;refine uGy 9 rfl rfl (fun hc=>uCl zGX rfl zpc) ?_;refine gz4 ?_;refine uCo (fun h9=> ?_) fun h10=> ?_
      ·refine gz4 ?_;refine uRp ?_
       (have f1:=zib.flip x (m.getD (k-1) zfq) trivial trivial
        have f2:=zib.flip (m.getD (k-1) zfq) x trivial trivial;refine congrArg _ (zuM uO hg ?_ ?_ ?_)
        ·rw [zaS,if_neg,if_neg]<;>simp_all
        ·simp_all
        ·simp_all;omega)
      ·refine gz8 ?_;refine ⟨k+1,?_,?_,⟨rfl,trivial⟩,uK,Ac _⟩
       ·refine ⟨by omega,?_⟩
        rw [hg,zlk (by rw [zaS,if_neg uSa,if_neg uSa]) (by intro hk0;have:=zib.flip x (m.getD (k-1) zfq) trivial trivial;have:=zib.flip (m.getD (k-1) zfq) x trivial trivial;simp_all;try omega)]
       ·dsimp only;omega
   ·have hnk:m.length<=k:=by omega
    obtain rfl:k=m.length:=by omega
    rw [zz (Ae _)] at hg;refine gz2 ?_;refine zv ?_;refine gz6 ?_;refine uRp ?_
    (rw [zbY,if_neg uO,hg];rfl)
end
section
open Go.Proofs.Tryz
open Go.HL
theorem zvf [Tracks] {l:List Str} {fid:FuncId} {caps:List HVal} {p:Str->Bool} (hca:Callable prog fid) (hp: ∀x∈l,ConP prog fid ([HVal.str x]++caps) (.bool (p x))) (hl:l.length<=1000000):ConP prog 204 [.slice 1 (l.map HVal.str),.fn (.func fid) [] caps] (.int .i64 (zS p l 0)):=by
 refine uOb func204 ntmps204 ?_;refine zau ?_;refine uT1 [4,2,8,11] (fun k=>[(8,.int .i64 k)]) (fun k=>[]) (fun k=>k<=l.length/\(zS p l 0=zS p (l.drop k) k)) (fun k=>l.length-k) (0) ?_ ?_;exact ⟨Ad _,rfl⟩;rintro k ⟨hk,hg⟩;refine gz4 ?_;refine uCo (fun h1=> ?_) fun h2=> ?_
 obtain ⟨x,hx⟩: ∃x,l[k]? =some x:=⟨_,Aa h1⟩
 have hdx:=zi hx;rw [hdx] at hg;refine zdw ?_;refine dq (zag hca rfl rfl (WeakL.refl _) (hp _ (Ab hx))) ?_;refine gz1 ?_;refine uCo (fun h3=> ?_) fun h4=> ?_
 refine gz5 ?_;refine uRp ?_
 (rw [hg];simp_all [zS])
 refine gz7 ?_;refine ⟨k+1,?_,?_,⟨rfl,trivial⟩,uK,Ac _⟩
 refine ⟨by omega,?_⟩
 rw [hg,zS,if_neg uSa];rfl
 dsimp only;omega
 have hnk:l.length<=k:=by omega
 obtain rfl:k=l.length:=by omega
 rw [zz (Ae _)] at hg;refine gz2 ?_;refine zv ?_;refine gz6 ?_;refine uRp ?_
 (rw [hg];rfl)
theorem zrm [Tracks] {l:List Str} {fid:FuncId} {caps:List HVal} {p:Str->Bool} (hca:Callable prog fid) (hp: ∀x∈l,ConP prog fid ([HVal.str x]++caps) (.bool (p x))) (hl:l.length<=1000000):ConP prog 108 [.slice 1 (l.map HVal.str),.fn (.func fid) [] caps] (.bool (l.any p)):=by
 refine uOb func108 ntmps108 ?_;refine gz6 ?_;refine dq (uCl zzg rfl (zvf hca hp hl)) ?_;refine gz4 ?_;refine zu rfl ?_
 congr 1;exact zb9 p l 0 uO
theorem zkr [Tracks] {x:GameS}:ConP prog 140 [zbb x] (.bool x.Played):=by
 refine uOb func140 ntmps140 ?_;refine zau ?_;refine zu rfl ?_
 rfl
theorem zlE [Tracks] {g:LeagueS} (hT:Tracks.on=false) (hb:LeaB g) (hg: ∀x∈g.Games,GamB x) (ht: ∀s∈g.Trust,Sh s):ConP prog 64 [zcj g] (.int .i64 (zbQ g)):=by
 have hst:=hb.sta;refine uOb func64 ntmps64 ?_;refine gz8 ?_;refine dq (uCl zGL rfl (zk9 (l:=g.Players) hT hb.pl hb.nm hb.po)) ?_;refine gz6 ?_;refine uCo (fun h1=> ?_) fun h2=> ?_
 refine gz5 ?_;refine uRp ?_;exact congrArg _ (zA4 (by assumption));refine gz3 ?_;refine uDr mixed ?_;refine gz4 ?_;refine uB 4 rfl (uCl zGM rfl (zlJ (L:=g.Players) (l:=g.Stints) hb.pl hb.st)) ?_;refine gz2 ?_;refine uB 7 rfl (uCl zGN rfl (zks (l:=g.Fixtures) hb.fx)) ?_;refine gz2 ?_;refine uB 10 rfl (uCl zGO rfl (zmu (l:=g.Rules) hb.ru hb.rw')) ?_;refine gz2 ?_;refine uB 13 rfl (uCl zGP rfl (zmx (l:=g.Slots) hb.sl hb.sp)) ?_;refine gz1 ?_;refine uB 15 rfl (zP (h':=zet g.Bounds) (zav zkf rfl rfl (Ak rfl)) rfl) ?_;refine uB 16 rfl (uCl zGQ rfl (zlG (b:=g.Bounds))) ?_;refine gz2 ?_;refine uB 19 rfl (uCl zDw rfl (zhx (l:=g.Teams) hb.tm)) ?_;refine uB 20 rfl (za (hs:=[_,_,_,_,_,_]) zg0 zhv rfl rfl (by decide) (by decide) rfl) ?_;refine uB 21 rfl (uCl ca5 rfl (zdJ (l:=[_,_,_,_,_,_]) (by simp))) ?_;refine gz6 ?_;refine uCo (fun h3=> ?_) fun h4=> ?_
 refine gz5 ?_;refine uRp ?_;exact congrArg _ (zF2 (by assumption) (by assumption));refine gz3 ?_;have hB:zkb g=0:=by assumption
 have hgt:=zED (l:=g.Games) (zCv hB);refine gz5 ?_;refine dq (zP (uCl zGR rfl (zmr (T:=g.Teams) (l:=g.Games) hb.tm hb.ga hg)) (congrArg (HVal.int .i64) hgt)) ?_;refine gz6 ?_;refine uCo (fun h5=> ?_) fun h6=> ?_
 refine gz5 ?_;refine uRp ?_;exact congrArg _ (zF3 (by assumption) hB (by assumption));refine gz6 ?_;refine dq (uCl zzc rfl (zb2 (l:=g.Games) (p:=fun x=>x.Played) zGS (fun _=>zkr) hb.ga)) ?_;refine gz1 ?_;refine uCo (fun h7=> ?_) fun h8=> ?_
 refine gz4 ?_;refine uRp ?_;exact congrArg _ (zF4 (by assumption) hB (by assumption) (by unfold zdy;simp_all));refine gz3 ?_;refine uDr mixed ?_;refine gz2 ?_;refine uB 2 rfl (uCl zGT rfl (zlH (l:=g.Breaks) hb.br)) ?_;refine gz2 ?_;refine uB 5 rfl (uCl zGU rfl (zmp (l:=g.Trust) hb.tr ht)) ?_;refine gz2 ?_;refine uB 8 rfl (uCl ca7 rfl zb0) ?_;refine uB 9 rfl (za (hs:=[_,_,_]) zg0 zhv rfl rfl (by decide) (by decide) rfl) ?_;refine uB 10 rfl (uCl ca5 rfl (zdJ (l:=[_,_,_]) (by simp))) ?_;refine gz6 ?_;refine uCo (fun h9=> ?_) fun h10=> ?_
 refine gz5 ?_;refine uRp ?_;exact congrArg _ (zF5 (by assumption) hB (by assumption) (by unfold zdy;simp_all) (by assumption));refine gz8 ?_;refine uCo (fun h11=> ?_) fun h12=> ?_
 refine gz4 ?_;refine uRp ?_
 (rw [zA5 (by assumption) hB (by assumption) (by unfold zdy;simp_all) (by assumption),if_pos uO])
 refine gz6 ?_;refine uRp ?_
 (rw [zA5 (by assumption) hB (by assumption) (by unfold zdy;simp_all) (by assumption),if_neg uO])
theorem zny [Tracks] {a b:ChoiceS}:ConP prog 150 [zX a,zX b] (.int .i64 (zlS a b)):=by
 refine uOb func150 ntmps150 ?_;refine gz5 ?_;refine uDr mixed ?_;refine gz4 ?_;refine uB 4 rfl (uCl zcO rfl zR) ?_;refine gz4 ?_;refine uB 9 rfl (uCl zdT rfl z6) ?_;refine gz4 ?_;refine uB 14 rfl (uCl zdT rfl z6) ?_;refine uB 15 rfl (za (hs:=[_,_,_]) zab ty3 rfl rfl (by decide) (by decide) rfl) ?_;refine uB 16 rfl (uCl zg7 rfl (zbP (l:=[_,_,_]) (by simp))) ?_;refine gz3 ?_;refine zu rfl ?_
 rfl
theorem zfZ [Tracks] {s:Str} (hs:Sh s):ConP prog 149 [.str s] (.bool (!(zcx s))):=by
 refine uOb func149 ntmps149 ?_;refine gz8 ?_;refine uGr rfl (fun hc=>uCl zkx rfl (zcd hs)) ?_;refine gz5 ?_;refine zu rfl ?_
 show HVal.bool _=_
 rw [zBj]
 cases s with
 |nil=>rfl
 |cons x r=>simp
theorem zk6 [Tracks] {g:LeagueS} {l:List ChoiceS} (hb:LeaB g) (hl:l.length<=1000000) (hp: ∀x∈l,x.Players.length<=1000000) (hcs: ∀x∈l,(∀s∈x.Players,Sh s)/\Sh x.Captain):ConP prog 69 [zcj g,zd1 l] (.int .i64 (ztC g.Teams g.Slots.length l)):=by
 refine uOb func69 ntmps69 ?_;refine zau ?_;refine uCo (fun h1=> ?_) fun h2=> ?_
 refine gz4 ?_;refine uRp ?_
 (refine congrArg _ (zbn ?_)
  omega)
 refine zdf ?_;refine uT1 [4,1,6,2,13,56] (fun k=>[(13,.int .i64 k)]) (fun k=>[]) (fun k=>k<=l.length/\(za9 (zcv g.Teams g.Slots.length) zdU l 0 l=za9 (zcv g.Teams g.Slots.length) zdU l k (l.drop k))) (fun k=>l.length-k) (0) ?_ ?_;exact ⟨Ad _,rfl⟩;rintro k ⟨hk,hg⟩;refine gz4 ?_;refine uCo (fun h3=> ?_) fun h4=> ?_
 obtain ⟨x,hx⟩: ∃x,l[k]? =some x:=⟨_,Aa h3⟩
 have hdx:=zi hx;rw [hdx] at hg;refine gz6 ?_;refine dq (zB zfj za8 rfl rfl rfl (by assumption)) ?_;refine gz1 ?_;refine de rfl (zg za8 rfl fun b7=> ?_)
 refine gz1 ?_;refine de0 (zj za8 rfl rfl rfl rfl rfl ?_)
 refine gz1 ?_;refine zd (zm 7 rfl) ?_;refine gz1 ?_;have hwk: ∀n:Int,((if zar n then (0:Int) else 1)=0)↔zar n=true:=fun n=>by cases zar n<;>simp
 have hmo: ∀n:Int,((if zN n then (0:Int) else 1)=0)↔zN n=true:=fun n=>by cases zN n<;>simp
 refine gz5 ?_;refine dq (uCl zgG rfl (zG (l:=g.Teams) (s:=x.Team) (by have:=hb.tm;omega))) ?_;refine gz3 ?_;refine uCo (fun h5=> ?_) fun h6=> ?_
 refine gz4 ?_;refine uRp ?_
 (refine congrArg _ (zt (e:=8) ?_ hg ?_ ?_)
  omega
  unfold zcv
  (try generalize ((x.Players++[x.Captain]).all zcx)=N at*)
  exact uT
  first|decide|assumption)
 refine gz3 ?_;refine dq (uCl ca6 rfl zcZ) ?_;refine gz4 ?_;refine uGr rfl (fun hc=>uCl ca7 rfl zb0) ?_;refine gz4 ?_;refine uCo (fun h7=> ?_) fun h8=> ?_
 refine gz4 ?_;refine uRp ?_
 (refine congrArg _ (zt (e:=1) ?_ hg ?_ ?_)
  omega
  unfold zcv
  (try generalize ((x.Players++[x.Captain]).all zcx)=N at*)
  exact uT
  first|decide|assumption)
 refine gz3 ?_;refine dq (zaE (f:=HVal.str) (l:=x.Players) zo rfl) ?_;refine gz2 ?_;refine dq (zaE (f:=zcm) (l:=g.Slots) zfC rfl) ?_;refine gz3 ?_;refine uCo (fun h9=> ?_) fun h10=> ?_
 refine gz4 ?_;refine uRp ?_
 (refine congrArg _ (zt (e:=3) ?_ hg ?_ ?_)
  omega
  unfold zcv
  (try generalize ((x.Players++[x.Captain]).all zcx)=N at*)
  exact uT
  first|decide|assumption)
 refine gz4 ?_;refine dq (uCl zy8 rfl (zrm (l:=x.Players) (p:=fun s=> !(zcx s)) zDy (fun s hs=>zfZ ((hcs x (Ab hx)).1 s hs)) (hp x (Ab hx)))) ?_;refine gz4 ?_;refine uGr rfl (fun hc=>zag zDy rfl rfl (WeakL.refl _) (zfZ (hcs x (Ab hx)).2)) ?_;refine gz3 ?_;refine uCo (fun h11=> ?_) fun h12=> ?_
 have hbad:((x.Players++[x.Captain]).all zcx)=false:=zxV (by assumption);refine gz4 ?_;refine uRp ?_
 (refine congrArg _ (zt (e:=5) ?_ hg ?_ ?_)
  omega
  unfold zcv
  (try generalize ((x.Players++[x.Captain]).all zcx)=N at*)
  exact uT
  first|decide|assumption)
 have hgood:((x.Players++[x.Captain]).all zcx)=true:=by rw [zBk];simp_all
 have htu:=zB0 (x:=x) (p:=l.getD (k-1) zdU);refine uDr mixed ?_;refine gz6 ?_;refine uGy 6 rfl rfl (fun hc=>by have hq:=hc;(try simp at hq);exact zB (j:=k-1) (a:=l.getD (k-1) zdU) zfj za8 rfl rfl uO (getD_some uO)) ?_;refine gz2 ?_;refine uGy 9 rfl rfl (fun hc=>uCl zGY rfl zny) ?_;refine gz4 ?_;refine uCo (fun h13=> ?_) fun h14=> ?_
 refine gz4 ?_;refine uRp ?_
 (refine congrArg _ (zt (e:=7) ?_ hg ?_ ?_)
  omega
  unfold zcv
  (try generalize ((x.Players++[x.Captain]).all zcx)=N at*)
  exact uT
  first|decide|assumption)
 refine gz8 ?_;refine ⟨k+1,?_,?_,⟨rfl,trivial⟩,uK,Ac _⟩
 refine ⟨by omega,?_⟩
 rw [hg,za6 (by unfold zcv;(try generalize ((x.Players++[x.Captain]).all zcx)=N at*);(try clear hdx hg);(try simp only [Ag]);focus first|(simp_all;done)|((repeat' split)<;>focus first|rfl|(exfalso;omega)|(simp_all;done)|(exfalso;rcases ‹_\/_› with q|q<;>simp_all;done)|(exfalso;simp_all;omega)))]
 dsimp only;omega
 have hnk:l.length<=k:=by omega
 obtain rfl:k=l.length:=by omega
 rw [zz (Ae _)] at hg;refine gz2 ?_;refine zv ?_;refine gz6 ?_;refine uRp ?_
 (refine congrArg _ (zba ?_ hg)
  omega)
theorem zmW [Tracks] {b:BookS} (hT:Tracks.on=false) (hb:BookC b):ConP prog 25 [zaP b] (.int .i64 (zbz b)):=by
 refine uOb func25 ntmps25 ?_;refine gz7 ?_;refine dq (zP (h':=zcj b.League) (zav zbE rfl rfl (Ak rfl)) rfl) ?_;refine dq (uCl ca64 rfl (zlE (g:=b.League) hT hb.bb.lea hb.gw hb.tr)) ?_;refine gz6 ?_;refine uCo (fun h1=> ?_) fun h2=> ?_
 refine gz5 ?_;refine uRp ?_;unfold zbz
 (rw [if_pos (by assumption)])
 refine gz2 ?_;refine uDr mixed ?_;refine gz2 ?_;refine uB 2 rfl (uCl ca65 rfl (zms (l:=b.Moves) hb.bb.mv hb.mb)) ?_;refine gz2 ?_;refine uB 5 rfl (uCl ca66 rfl (zmo (l:=b.Plays) hb.bb.pl hb.pg)) ?_;refine gz2 ?_;refine uB 8 rfl (uCl ca67 rfl (zmn (m:=b.Mends) hb.bb.me hb.mg)) ?_;refine gz5 ?_;refine uB 14 rfl (uCl ca68 rfl (zlI (L:=b.League.Players) (l:=b.Health) hb.bb.lea.pl hb.bb.he hb.hw)) ?_;refine gz1 ?_;refine uB 16 rfl (zP (h':=zcj b.League) (zav zbE rfl rfl (Ak rfl)) rfl) ?_;refine gz2 ?_;refine uB 19 rfl (uCl ca69 rfl (zk6 (g:=b.League) (l:=b.Choices) hb.bb.lea hb.bb.ch hb.bb.cp hb.cs)) ?_;refine uB 20 rfl (za (hs:=[_,_,_,_,_]) zg0 zhv rfl rfl (by decide) (by decide) rfl) ?_;refine uB 21 rfl (uCl ca5 rfl (zdJ (l:=[_,_,_,_,_]) (by simp))) ?_;refine gz3 ?_;refine uRp ?_;unfold zbz
 (rw [if_neg (fun q=>q h2)])
theorem zjG [Tracks] {g:LeagueS} {w:Int} (hs: -1000000000000000<=g.Start/\g.Start<=1000000000000000) (hw: -1000<=w/\w<=1000):ConP prog 41 [zcj g,.int .i64 w] (.int .i64 (zaH g w)):=by
 refine uOb func41 ntmps41 ?_;refine gz9 ?_;refine dq (zbu rfl rfl uO uO) ?_;refine gz4 ?_;refine zu rfl ?_
 rfl
end
end Go.Proofs.YtabpobhnedkkeaaGreatDoor
namespace Go.HL
section
theorem zC9 {s:Str} {S:List Str} (h:s∉S):zbW s S=S++[s]:=by
 unfold zbW;rw [if_neg (by simpa using h)]
theorem zxk {s:Str} {S:List Str} (h:s∈S):zbW s S=S:=by
 unfold zbW;rw [if_pos (by simpa using h)]
section
variable {κ:Type}
theorem zzS {G:GrM κ} {s:Str} (h:((alk s (zd7 G)).getD none).isNone=true):alk s G=none:=by
 rw [zjX] at h
 cases hq:alk s G with
 |none=>rfl
 |some q=>rw [hq] at h;simp at h
theorem zzT {G:GrM κ} {s:Str} (h:((alk s (zd7 G)).getD none).isNone=false): ∃b L,alk s G=some (b,L):=by
 rw [zjX] at h
 cases hq:alk s G with
 |none=>rw [hq] at h;simp at h
 |some q=>exact ⟨q.1,q.2,rfl⟩
theorem GrOk.mem {S:List Str} {c:List ((Str×κ)×Int)} {G:GrM κ} (h:GrOk S c G) {s:Str} {b:Nat} {L:List (κ×Int)} (hq:alk s G=some (b,L)):s∈S:=by
 refine Decidable.not_not.1 fun hn=> ?_
 rw [h.none.2 hn] at hq;cases hq
theorem GrOk.find {S:List Str} {c:List ((Str×κ)×Int)} {G:GrM κ} (h:GrOk S c G) {s:Str} (hs:s∈S): ∃b L,alk s G=some (b,L):=by
 cases hq:alk s G with
 |none=>exact absurd hs (h.none.1 hq)
 |some q=>exact ⟨q.1,q.2,rfl⟩
end
theorem zxc {q:LnS} {week:Int}:(zfi q week).length<=q.S.length:=by
 rw [zq7,Af];exact zuO _
theorem zt2 {q:LnS} {week:Int}: ∀y∈zfi q week,y.Stats.length<=q.c.length:=fun y hy=>by
 rw [zq7] at hy;obtain ⟨s,_,rfl⟩:=List.mem_map.1 hy;exact An (zs1 _) (zuz _ _)
end
section

end
section
def zFI (x:LineS):Prop:=Sh x.Player/\∀s∈x.Stats,Sh s.Name
abbrev LnV:=LineS×Value
structure LG where
 u:Value
 out:List LnV
 a:Nat
def zAo (p:LnV):Prop:=zFI p.1/\p.1.Stats.length<=3
structure LGok (n m:Nat) (q:LG):Prop where
 len:q.out.length<=n
 all: ∀p∈q.out,zAo p
 a:q.a<=m
theorem LGok.mono {n n' m m':Nat} {q:LG} (h:LGok n m q) (hn:n<=n') (hm:m<=m'):LGok n' m' q:=⟨An h.len hn,h.all,An h.a hm⟩
theorem LGok.same {n m m':Nat} {u:Value} {out:List LnV} {a1 a2:Nat} (h:LGok n m ⟨u,out,a1⟩) (ha:a2<=m'):LGok (n+1) m' ⟨u,out,a2⟩:=⟨Nat.le_succ_of_le h.len,h.all,ha⟩
theorem LGok.add {n m m':Nat} {u u':Value} {out:List LnV} {a1 a2:Nat} {p:LnV} (h:LGok n m ⟨u,out,a1⟩) (hp:zAo p) (ha:a2<=m'):LGok (n+1) m' ⟨u',out++[p],a2⟩:=
 ⟨by have:=h.len;simp only [Ax,Ah,Ar] at*;omega,fun y hy=>by
  rcases List.mem_append.1 hy with hy|hy
  exact h.all y hy;rw [List.mem_singleton.1 hy];exact hp,ha⟩
end
section
/-! sums-/
def zsY (p:Str) (c:List (Of2×Int)) (s:StatS):List (Of2×Int):=zp (p,s.Name) ((alk (p,s.Name) c).getD 0+s.Count) c
def zEe (p:Str) (c:List (Of2×Int)) (l:List StatS):List (Of2×Int):=l.foldl (zsY p) c
theorem LnOk.le {q:LnS} {n m:Nat} (h:LnOk q n) (hn:n<=m):LnOk q m:=
 ⟨h.c,h.S,h.k,An h.cl hn,An h.Sl hn,fun e he=>by have:=h.bd e he;omega⟩
theorem LnOk.addC {q:LnS} {n:Nat} (h:LnOk q n) (p:Str) {s:StatS} (hb: -100000<=s.Count/\s.Count<=100000):LnOk ⟨q.S,zsY p q.c s⟩ (n+1):=by
 have hv:=h.val (p,s.Name);refine ⟨h.c.put,h.S,h.k,An (zia _ _ _) (by have:=h.cl;omega),by have:=h.Sl;dsimp only;omega,fun e he=> ?_⟩
 rcases zcF he with rfl|he
 dsimp only;omega
 have:=h.bd e he;omega
theorem LnOk.row (p:Str): ∀(l:List StatS) {q:LnS} {n:Nat},LnOk q n->(∀s∈l,-100000<=s.Count/\s.Count<=100000)->LnOk ⟨q.S,zEe p q.c l⟩ (n+l.length)
 |[],q,n,h,_=>h
 |s::r,q,n,h,hb=>by
   have h1:=LnOk.row p r (h.addC p (hb s Ai)) fun y hy=>hb y (Al _ hy)
   rw [Ah,show n+(r.length+1)=n+1+r.length by omega];exact h1
theorem zwS {κ α:Type} [DecidableEq κ]: ∀{S D:List (κ×α)},ANodup (D++S)->zlq D S=D++S
 |[],D,_=>by simp [zlq]
 |p::r,D,h=>by
   have hn:alk p.1 D=none:=by
    rw [zdt];intro hm;unfold ANodup at h;rw [Ay] at h;exact (List.nodup_append.1 h).2.2 _ hm _ Ai rfl
   have e:zp p.1 p.2 D=D++[p]:=zk3 hn
   show zlq (zp p.1 p.2 D) r=_
   rw [e,zwS (by simpa using h)]
   simp
end
section
def stP (l:List StatS):List (Str×Int):=l.foldl (fun c s=>zp s.Name s.Count c) []
theorem zDe {l:List StatS} {k:Nat} {s:StatS} (h:l[k]? =some s):stP (l.take (k+1))=zp s.Name s.Count (stP (l.take k)):=by
 unfold stP;rw [zW h,Ba];rfl
theorem zua (l:List StatS):stP l=zlq [] (stA l):=by
 unfold stP zlq stA;rw [List.foldl_map]
theorem zu7 (l:List StatS):ANodup (stP l):=by rw [zua];exact zsF ANodup.nil
theorem zyR (l:List StatS):(stP l).length<=l.length:=by
 have:=zwT (stA l) [];rw [zua];simpa using this
theorem zGt {l:List StatS} (h:(l.map (·.Name)).Nodup):stP l=stA l:=by
 rw [zua,zwS (by simpa using zqh h)];rfl
def zeJ (l:List StatS) (s:Str) (n:Int):List StatS:=zgX (zp s n (stP l))
theorem zuU (l:List StatS) (s:Str) (n:Int):(zeJ l s n).length<=l.length+1:=
 An (zs1 _) (An (zia _ _ _) (by have:=zyR l;omega))
def zhr (p:Str) (w:Int) (s:Str) (n:Int):List LineS->List LineS
 |[]=>[⟨p,w,zeJ [] s n⟩]
 |x::r=>if (p,w)=plL x then ⟨p,w,zeJ x.Stats s n⟩::r else x::zhr p w s n r
theorem zw8 (p:Str) (w:Int) (s:Str) (n:Int): ∀l:List LineS,lnA (zhr p w s n l)=zp (p,w) (zeJ ((alk (p,w) (lnA l)).getD []) s n) (lnA l)
 |[]=>rfl
 |x::r=>by
   have ih:=zw8 p w s n r
   show lnA (if (p,w)=plL x then _ else _)=zp (p,w) (zeJ ((if (p,w)=plL x then some x.Stats else alk (p,w) (lnA r)).getD []) s n) ((plL x,x.Stats)::lnA r)
   by_cases h:(p,w)=plL x
   rw [if_pos h,if_pos h]
   show _=if (p,w)=plL x then _ else _
   rw [if_pos h];rfl;rw [if_neg h,if_neg h]
   show _=if (p,w)=plL x then _ else _
   rw [if_neg h,<-ih];rfl
abbrev zi5 (p:Str) (w:Int) (x:LineS):Bool:=x.Player==p&&x.Week==w
theorem zqp {p:Str} {w:Int} {x:LineS}:zi5 p w x=true↔(p,w)=plL x:=by
 simp only [zi5,AZ,beq_iff_eq,Prod.mk.injEq,plL]
 constructor
 rintro ⟨a,b⟩;exact ⟨a.symm,b.symm⟩;rintro ⟨a,b⟩;exact ⟨a.symm,b.symm⟩
theorem zxa {p:Str} {w:Int} {s:Str} {n:Int}: ∀{l:List LineS},l.any (zi5 p w)=false->zhr p w s n l=l++[⟨p,w,zeJ [] s n⟩]
 |[],_=>rfl
 |x::r,h=>by
   rw [Bs,A4] at h;have ih:=zxa (s:=s) (n:=n) h.2;unfold zhr;rw [if_neg (fun e=>by rw [zqp.2 e] at h;cases h.1),ih];rfl
theorem zyG {p:Str} {w:Int} {s:Str} {n:Int}: ∀{l:List LineS} {i:Nat} {x:LineS},l[i]? =some x->zi5 p w x=true->(∀y∈l.take i,zi5 p w y=false)->zhr p w s n l=l.set i ⟨p,w,zeJ x.Stats s n⟩
 |[],_,_,h,_,_=>by simp at h
 |y::r,0,x,h,hp,_=>by
   have:y=x:=by simpa using h
   subst this;unfold zhr;rw [if_pos (zqp.1 hp)];rfl
 |y::r,i+1,x,h,hp,hb=>by
   have ih:=zyG (s:=s) (n:=n) (l:=r) (i:=i) (by simpa using h) hp fun z hz=>hb z (by simp [hz])
   have h1:=hb y (by simp);unfold zhr;rw [if_neg (fun e=>by rw [zqp.2 e] at h1;cases h1),ih];rfl
theorem zw9 (p:Str) (w:Int) (s:Str) (n:Int): ∀l:List LineS,(zhr p w s n l).length<=l.length+1
 |[]=>Ae _
 |x::r=>by
   have:=zw9 p w s n r;unfold zhr;split<;>simp only [Ah]<;>omega
theorem zsR {b:Nat} (p:Str) (w:Int) (s:Str) (n:Int): ∀l:List LineS,(∀x∈l,x.Stats.length<=b)->∀x∈zhr p w s n l,x.Stats.length<=b+1
 |[],_,x,hx=>by
   rw [List.mem_singleton.1 hx];have:=zuU [] s n;simp only [Ar] at this
   show (zeJ [] s n).length<=b+1
   omega
 |y::r,h,x,hx=>by
   unfold zhr at hx
   split at hx
   rcases List.mem_cons.1 hx with rfl|hx
   have h1:=zuU y.Stats s n;have h2:=h y Ai
   show (zeJ y.Stats s n).length<=b+1
   omega
   have:=h x (Al _ hx);omega
   rcases List.mem_cons.1 hx with rfl|hx
   have:=h x Ai;omega;exact zsR p w s n r (fun z hz=>h z (Al _ hz)) x hx
/-! what a list of statistics then tells-/
theorem zBQ {κ:Type} [DecidableEq κ] {c:List (κ×Int)} (hn:ANodup c) (k:κ):(alk k (c.filter fun e=>e.2 !=0)).getD 0=(alk k c).getD 0:=by
 have hn2:ANodup (c.filter fun e=>e.2 !=0):=by
  unfold ANodup at*;exact hn.sublist (List.filter_sublist.map _)
 cases hq:alk k (c.filter fun e=>e.2 !=0) with
 |some v=>
   have h1:=(List.mem_filter.1 (zbs hq)).1;rw [(zcX hn).1 h1]
 |none=>
   cases hr:alk k c with
   |none=>rfl
   |some v=>
     by_cases hv:v=0
     rw [hv];rfl;have h1:(k,v)∈c.filter fun e=>e.2 !=0:=List.mem_filter.2 ⟨zbs hr,by simpa using hv⟩
     rw [(zcX hn2).1 h1] at hq
     cases hq
theorem zt4 {c:List (Str×Int)} (hn:ANodup c):StOk (zdA c) where
 nd:=by
  unfold zdA;rw [AW];unfold ANodup at hn;exact hn.sublist (List.filter_sublist.map _)
 nz x hx:=by
  unfold zdA at hx;obtain ⟨e,he,rfl⟩:=List.mem_map.1 hx;have:=(List.mem_filter.1 he).2
  simpa using this
theorem zBH {c:List (Str×Int)} (hn:ANodup c):StOk (zgX c):=(zt4 hn).sort
theorem zAc {c:List (Str×Int)} (hn:ANodup c) (s:Str):sv (zgX c) s=(alk s c).getD 0:=by
 have h1:sv (zgX c) s=sv (zdA c) s:=zFC (zt4 hn).nd (za5 zaU _) s;have h2:stA (zdA c)=c.filter fun e=>e.2 !=0:=by
  unfold stA zdA;rw [AW];exact List.map_id _
 rw [h1];unfold sv;rw [h2];exact zBQ hn s
theorem zu8 {l:List StatS} (h:(l.map (·.Name)).Nodup) (hw:l.Pairwise fun a b=> ¬zaU b a<0):zah zaU l=l:=
 (zdV zcn (fun _ _ hx hy e=>ztS h hx hy (zbi.1 e)) (Ac _) hw).symm
theorem zxO {l:List StatS} (h:(l.map (·.Name)).Nodup):zah zaU (zah zaU l)=zah zaU l:=by
 have h1:=zex zcn (l:=l) (fun _ _=>trivial);refine zu8 (((za5 zaU l).map _).nodup_iff.2 h) (h1.imp fun {a b} hab=> ?_)
 have:=zcn.flip a b trivial trivial;have:=zcn.flip b a trivial trivial
 omega
structure RfSt (l:List StatS):Prop where
 ok:StOk l
 so:zah zaU l=l
theorem RfSt.nil:RfSt []:=⟨StOk.nil,rfl⟩
theorem RfSt.put {l:List StatS} (h:RfSt l) (s:Str) (n:Int):RfSt (zeJ l s n)/\∀t,sv (zeJ l s n) t=if t=s then n else sv l t:=by
 have hn:ANodup (zp s n (stP l)):=(zu7 l).put;refine ⟨⟨zBH hn,zxO (zt4 hn).nd⟩,fun t=> ?_⟩
 unfold zeJ;rw [zAc hn,za3,zGt h.ok.nd]
 by_cases e:t=s
 rw [if_pos e,if_pos e];rfl;rw [if_neg e,if_neg e];rfl
structure RfOk (G:GrS):Prop where
 nd:ANodup G
 st: ∀q∈G,RfSt q.2
theorem RfOk.get {G:GrS} (h:RfOk G) (p:Plc):RfSt ((alk p G).getD []):=by
 cases hq:alk p G with
 |none=>exact RfSt.nil
 |some l=>exact h.st _ (zbs hq)
theorem RfOk.gs {G:GrS} (h:RfOk G):GSOk G:=⟨h.nd,fun q hq=>(h.st q hq).ok⟩
theorem RfOk.put {G:GrS} (h:RfOk G) (p:Plc) (s:Str) (n:Int):RfOk (zp p (zeJ ((alk p G).getD []) s n) G):=
 ⟨h.nd.put,fun q hq=>by
  rcases zcF hq with rfl|hq
  exact ((h.get p).put s n).1;exact h.st q hq⟩
def zeH (n:Int) (l:List LineS) (x:MendS):List LineS:=if x.At<=n then zhr x.Player x.Week x.Stat x.Count l else l
def zec (l:List LineS) (m:List MendS) (n:Int):List LineS:=m.foldl (zeH n) l
theorem zuY {l:List LineS} {m:List MendS} {n:Int} {k:Nat} {x:MendS} (h:m[k]? =some x):zec l (m.take (k+1)) n=zeH n (zec l (m.take k) n) x:=by
 unfold zec;rw [zW h,Ba];rfl
theorem zC4 (m:List MendS) (n:Int): ∀l:List LineS,(zec l m n).length<=l.length+m.length:=by
 induction m with
 |nil=>intro l;exact Ae _
 |cons x r ih=>
   intro l
   have h1:=ih (zeH n l x);have h2:(zeH n l x).length<=l.length+1:=by
    unfold zeH;split;exact zw9 _ _ _ _ _
    omega
   show (zec (zeH n l x) r n).length<=_
   rw [Ah];omega
theorem zAa (m:List MendS) (n:Int): ∀{b:Nat} (l:List LineS),(∀x∈l,x.Stats.length<=b)->∀x∈zec l m n,x.Stats.length<=b+m.length:=by
 induction m with
 |nil=>intro b l h;exact h
 |cons x r ih=>
   intro b l h y hy
   have h2: ∀z∈zeH n l x,z.Stats.length<=b+1:=fun z hz=>by
    unfold zeH at hz;split at hz;exact zsR _ _ _ _ _ h z hz;have:=h z hz;omega
   have h1:=ih (zeH n l x) h2 y hy;rw [Ah];omega
theorem zFs {n:Int} {L:List LineS} {G:GrS} {x:MendS} (hL:RfOk (lnA L)) (hG:GSOk G) (hd: ∀p,(alk p (lnA L)).isSome=true↔(alk p G).isSome=true) (hv: ∀p s,gv (lnA L) p s=gv G p s):
 RfOk (lnA (zeH n L x))/\(∀p,(alk p (lnA (zeH n L x))).isSome=true↔(alk p (zbA n G x)).isSome=true)/\∀p s,gv (lnA (zeH n L x)) p s=gv (zbA n G x) p s:=by
 unfold zeH
 by_cases h:x.At<=n
 rw [if_pos h,zw8];refine ⟨hL.put _ _ _,fun p=> ?_,fun p s=> ?_⟩
 rw [zEE,za3]
 by_cases hp:p=(x.Player,x.Week)
 rw [if_pos hp];simp;exact .inr ⟨h,hp⟩;rw [if_neg hp,hd p]
 constructor
 exact .inl;rintro (q|⟨_,q⟩);exact q;exact absurd q hp;rw [zEH];unfold gv;rw [za3]
 by_cases hp:p=(x.Player,x.Week)
 rw [if_pos hp]
 show sv (zeJ _ _ _) s=_
 rw [((hL.get (x.Player,x.Week)).put x.Stat x.Count).2 s]
 by_cases hs:s=x.Stat
 rw [if_pos hs,if_pos ⟨h,hp,hs⟩];rw [if_neg hs,if_neg (fun e=>hs e.2.2),hp];exact hv _ s;rw [if_neg hp,if_neg (fun e=>hp e.2.1)];exact hv p s;rw [if_neg h];have e:zbA n G x=G:=by unfold zbA;rw [if_pos (by omega)]
 rw [e];exact ⟨hL,hd,hv⟩
theorem zJd (m:List MendS) (n:Int): ∀{L:List LineS} {G:GrS},RfOk (lnA L)->GSOk G->(∀p,(alk p (lnA L)).isSome=true↔(alk p G).isSome=true)->(∀p s,gv (lnA L) p s=gv G p s)->
 RfOk (lnA (zec L m n))/\(∀p,(alk p (lnA (zec L m n))).isSome=true↔(alk p (zfS G m n)).isSome=true)/\∀p s,gv (lnA (zec L m n)) p s=gv (zfS G m n) p s:=by
 induction m with
 |nil=>intro L G h1 _ h3 h4;exact ⟨h1,h3,h4⟩
 |cons x r ih=>
   intro L G h1 h2 h3 h4
   obtain ⟨i1,i2,i3⟩:=zFs (n:=n) (x:=x) h1 h2 h3 h4;exact ih i1 h2.step i2 i3
theorem zxP {l:List LineS} (h:zap l=0) {x:LineS} (hx:x∈l):RfSt x.Stats:=by
 have h1:=zoe h hx;have h2:=(zqi (zez.1 ((zeb h).2.1 x hx)).2.2).2.2;refine ⟨h1,zu8 h1.nd (h2.imp fun {a b} hab=> ?_)⟩
 have:=zcn.flip a b trivial trivial;have:=zcn.flip b a trivial trivial
 omega
theorem zC6 {l:List LineS} {m:List MendS} {n:Int} (h:zap l=0):RfOk (lnA (zec l m n))/\zah zco (zec l m n)=mdL l m n:=by
 have hn:=zrS (zeb h).2.2;have e:=zrF hn;have hL:RfOk (lnA l):=⟨by rw [<-e];exact zmK l,fun q hq=>by
  obtain ⟨y,hy,rfl⟩:=List.mem_map.1 hq;exact zxP h hy⟩
 obtain ⟨h1,h2,h3⟩:=zJd m n (L:=l) (G:=zc6 l) hL (zrG h) (fun p=>by rw [e]) (fun p s=>by rw [e]);refine ⟨h1,?_⟩
 have h4:(lnA (zec l m n)).map zdO=zec l m n:=by
  unfold lnA;rw [AW]
  conv=>rhs;rw [<-List.map_id (zec l m n)]
  refine BM fun y hy=> ?_
  have h5:=(h1.st _ (List.mem_map.2 ⟨y,hy,rfl⟩)).so
  show (⟨y.Player,y.Week,zah zaU y.Stats⟩:LineS)=y
  rw [show zah zaU y.Stats=y.Stats from h5]
 have h6:=zFU h1.gs ((zrG h).go (m:=m) (n:=n)) h2 h3;rw [h4] at h6;exact h6
theorem zBA {l l':List LineS} {m:List MendS} {n:Int} (h:zap l=0) (hp:l'.Perm (zec l m n)) (hw:l'.Pairwise fun a b=> ¬zco b a<0):l'=mdL l m n:=by
 obtain ⟨h1,h2⟩:=zC6 (m:=m) (n:=n) h;rw [<-h2];refine zdV zfM (fun x y hx hy e=> ?_) hp hw
 have hnd:((zec l m n).map plL).Nodup:=by
  have:=h1.nd;unfold ANodup lnA at this;rw [AW] at this;exact this
 obtain ⟨e1,e2⟩:=zlV.1 e;obtain ⟨i,hi⟩:=A5 hx;obtain ⟨j,hj⟩:=A5 hy;have:=zok hnd (a:=plL x) (i:=i) (j:=j) (by rw [Aj,hi];rfl) (by rw [Aj,hj];exact congrArg some (Prod.ext e1.symm e2.symm));subst this;rw [hi] at hj;exact As hj
end
section
theorem zEI [Tracks] {P:Program} {n:Nat} {e:Env} {M:List MObj} {c:Code} {Q:Exit->Env->List MObj->Prop} {i:Nat} {v:Value} {sz:Nat} {es:List HVal} (hm:M[i]? =some (.arr v sz es))
 (h: ∀a cap,v= .slice a es.length cap->HWp P n c e M Q):HWp P n c e M Q:=
 zc3 hm (fun h0 he=>h none 0 (by rw [h0,he];rfl)) (fun b off cap hv _=>h _ cap hv)
theorem zAn (p:Str) (w:Int):Weak (.agg [.str p,.int .i64 w,.raw (.slice none 0 0)]) (zaq ⟨p,w,[]⟩):=
 zrQ rfl fun j h h' x y=>by
  match j,x,y with
  |0,x,y=>simp at x y;subst x y;exact Weak.refl _
  |1,x,y=>simp at x y;subst x y;exact Weak.refl _
  |2,x,y=>simp at x y;subst x y;exact zD 2
theorem zFm {l:List LineS} {p:Str} {w:Int} {s:Str} {n:Int} (h:zS (zi5 p w) l 0<0):(l++[(⟨p,w,[]⟩:LineS)]).set l.length ⟨p,w,zeJ [] s n⟩=zhr p w s n l:=by
 have h1:l.any (zi5 p w)=false:=by rw [<-zb9 _ l 0 (by omega)];simp;omega
 rw [zxa h1,B9 _ _ (Ae _)];simp
theorem zFn {l:List LineS} {p:Str} {w:Int} {s:Str} {n:Int} (h: ¬zS (zi5 p w) l 0<0):
 ∃(i:Nat) (st:List StatS),zS (zi5 p w) l 0=(i:Int)/\i<l.length/\l[i]? =some ⟨p,w,st⟩/\l.set i ⟨p,w,zeJ st s n⟩=zhr p w s n l:=by
 obtain ⟨i,h1,h2,⟨x,h3,h4⟩,h5⟩:=ze6 (zi5 p w) l 0 (by omega) (by omega);rw [Ck] at h1;have h6:=zqp.1 h4;have e1:p=x.Player:=congrArg Prod.fst h6;have e2:w=x.Week:=congrArg Prod.snd h6;refine ⟨i,x.Stats,h1,h2,?_,(zyG h3 h4 h5).symm⟩
 rw [h3,e1,e2]
theorem zuf {κ α:Type} [DecidableEq κ] (s:κ) (v v':α): ∀G:List (κ×α),zp s v' (zp s v G)=zp s v' G
 |[]=>by simp [zp]
 |p::r=>by
   have ih:=zuf s v v' r
   by_cases h:s=p.1
   simp [zp,h]
   simp [zp,h,ih]
theorem zug {κ α:Type} [DecidableEq κ] {s:κ} {v:α}: ∀{G:List (κ×α)},alk s G=some v->zp s v G=G
 |[],h=>by simp [alk] at h
 |p::r,h=>by
   by_cases e:s=p.1
   simp only [alk,if_pos e] at h;have:=As h;subst this;unfold zp;rw [if_pos e,e];simp only [alk,if_neg e] at h;have ih:=zug h;simp only [zp,if_neg e,ih]
def rowI (L:List (Str×Int)) (l:List StatS):List (Str×Int):=l.foldl (fun L s=>zp s.Name ((alk s.Name L).getD 0+s.Count) L) L
theorem GrOk.row {S:List Str} {p:Str} {b:Nat}: ∀(l:List StatS) {c:List (Of2×Int)} {G:GrM Str} {L:List (Str×Int)},GrOk S c G->alk p G=some (b,L)->GrOk S (zEe p c l) (zp p (b,rowI L l) G)
 |[],c,G,L,h,hq=>by
   show GrOk S c (zp p (b,L) G)
   rw [zug hq];exact h
 |s::r,c,G,L,h,hq=>by
   have hL:=h.get hq;have h1:=h.put hq s.Name ((alk s.Name L).getD 0+s.Count);have e:zp (p,s.Name) ((alk s.Name L).getD 0+s.Count) c=zsY p c s:=by unfold zsY;rw [hL,zl6]
   rw [e] at h1;have h2:=GrOk.row r h1 (L:=zp s.Name ((alk s.Name L).getD 0+s.Count) L) (by rw [za3,if_pos rfl]);rw [zuf] at h2;exact h2
end
section
structure DisOk (q:DisS) (n:Nat):Prop where
 c:ANodup q.c
 S:q.S.Nodup
 k: ∀s∈q.S,s.length<=40
 cl:q.c.length<=n
 Sl:q.S.length<=n
 bd: ∀e∈q.c,-(100000*(n:Int))<=e.2/\e.2<=100000*(n:Int)
theorem DisOk.val {q:DisS} {n:Nat} (h:DisOk q n) (s:Str×Of2): -(100000*(n:Int))<=(alk s q.c).getD 0/\(alk s q.c).getD 0<=100000*(n:Int):=by
 cases hq:alk s q.c with
 |none=>simp;omega
 |some v=>exact h.bd _ (zbs hq)
theorem DisOk.sput {q:DisS} {n:Nat} (h:DisOk q n) {p:Play} (hp:playFault p=0):DisOk ⟨zbW p.Source q.S,q.c⟩ (n+1):=by
 refine ⟨h.c,zkJ h.S,fun s hs=> ?_,by have:=h.cl;dsimp only;omega,An (zyK _ _) (by have:=h.Sl;omega),fun e he=>by have:=h.bd e he;omega⟩
 rcases zhZ.1 hs with rfl|hs
 exact zyr (zeC hp).1;exact h.k s hs
theorem DisOk.put {q:DisS} {n:Nat} (h:DisOk q n) {p:Play} (hp:playFault p=0):DisOk ⟨zbW p.Source q.S,zFR q p⟩ (n+1):=by
 have hs:=h.sput hp;obtain ⟨_,_,_,_,_,hb,_⟩:=zeC hp;have hv:=h.val (zws p);refine ⟨h.c.put,hs.S,hs.k,An (zia _ _ _) (by have:=h.cl;omega),hs.Sl,fun e he=> ?_⟩
 rcases zcF he with rfl|he
 dsimp only;omega
 have:=h.bd e he;omega
end
section

end
section
theorem zta (x:Of2): ∀(A:List Of2) (p:Option Of2),zfY p (A++[x])=zfY p A++if (A.getLast?.or p)=some x then [] else [x]
 |[],p=>by
   by_cases h:p=some x<;>simp [zfY,h]
 |y::A,p=>by
   have ih:=zta x A (some y);have e:((y::A).getLast?.or p)=(A.getLast?.or (some y)):=by
    cases A with
    |nil=>simp
    |cons z A=>simp [Cr,List.getLast?_cons]
   simp only [A0,zfY];rw [e,ih]
   split<;>simp
theorem zAm {l:List Of2} {k:Nat} {x y:Of2} (hx:l[k]? =some x) (hy:l[k-1]? =some y) (h0:0<k):zfY none (l.take (k+1))=zfY none (l.take k)++if x=y then [] else [x]:=by
 have hk:=zn hx;rw [zW hx,zta];have e:((l.take k).getLast?.or none)=some y:=by
  rw [List.getLast?_eq_getElem?,Az,Ci (by omega),AD (by omega),hy];rfl
 rw [e]
 by_cases h:x=y
 rw [if_pos h,if_pos (by rw [h])];rw [if_neg h,if_neg (by simpa using fun q:y=x=>h q.symm)]
structure CmpO (l:List Of2) (j:Nat) (D:List Of2):Prop where
 len:D.length=l.length
 lo:D.take (zfY none (l.take j)).length=zfY none (l.take j)
 lt:(zfY none (l.take j)).length<j
 hi: ∀i,j<=i+1->D[i]? =l[i]?
theorem CmpO.same {l D:List Of2} {j:Nat} (h:CmpO l j D) {x y:Of2} (hx:l[j]? =some x) (hy:l[j-1]? =some y) (e:x=y):CmpO l (j+1) D/\(zfY none (l.take (j+1))).length=(zfY none (l.take j)).length:=by
 have h0:=h.lt;have h1:zfY none (l.take (j+1))=zfY none (l.take j):=by rw [zAm hx hy (by omega),if_pos e];simp
 exact ⟨⟨h.len,by rw [h1];exact h.lo,by rw [h1];omega,fun i hi=>h.hi i (by omega)⟩,by rw [h1]⟩
end
section
theorem zCg {l:List Str} {i:Nat} (h:i<l.length):l.getD i []∈l:=by
 rw [Ag,Aa h];exact Bg h
theorem zpD: ∀l:List StatS,zea zaG l l=true
 |[]=>rfl
 |a::r=>by simp [zea,zn0,zpD r,zb,zfy,eqH]
def zBU (a b:LineS):Int:=orI [zY a.Player b.Player,zai a.Week b.Week]
theorem zAA (x:LineS):zBU x x=0:=by
 unfold zBU;rw [zdx,if_neg (by simp [zbi]),zcH]
end
section

end
section
open Op
def zj8 {α:Type} (p:α->α->Bool):List α->List α->Bool
 |[],[]=>true
 |a::l,b::m=>p a b&&zj8 p l m
 |_,_=>false
theorem znZ {α:Type} {p:α->α->Bool}: ∀{l m:List α},l.length≠m.length->zj8 p l m=false
 |[],[],h=>absurd rfl h
 |[],_::_,_=>rfl
 |_::_,[],_=>rfl
 |a::l,b::m,h=>by
   rw [zj8,znZ (by intro q;apply h;simp [q])];simp
end
end Go.HL
section
namespace Go.HL
section
variable {P:Program} {e:Env} {dst:Option Tmp} {ty:TypeId} {pos:String} {af:Array Edge} {g:Option (Nat×Bool)}
theorem zfV {t el:TypeId} (hu:P.underlying t=some (.pointer el)) (a:Option Addr) (w:World):(Op.equal t (.pointer a) (.pointer none)).run P w= .ok a.isNone w:=by
 have h: ∀d,(Op.equalIn (d+1) t (.pointer a) (.pointer none)).run P w= .ok a.isNone w:=fun d=>by
  cases a<;>simp only [Op.equalIn,Sem.run_bind,run_underlying hu,Result.andThen_ok,Sem.run_pure,Option.isNone]
 exact h 9999
def zp5:Option (List HVal)->HVal
 |none=> .raw (.pointer none)
 |some cs=> .vptr cs 0
theorem zz3 [Tracks] {x y:Operand} {t t' el:TypeId} {size bytes:Nat} {zero:Value} {o:Option (List HVal)} (hf:Fits P t (.ptr el) size bytes zero) (hx:zh e x=some (zp5 o)) (hy:zh e y=some (.raw (.pointer none))):
 POp P e ⟨dst,.binOp .eql t x y t',ty,pos,af,g⟩ (.bool o.isNone):=
 zF fun I a w ho=>by
  have hv:=ho.one (x:=x) (by simp [Op.operands]) hx;have h2:=(ho.one (x:=y) (by simp [Op.operands]) hy).raw_inv
  cases o with
  |none=>
    have h1:=hv.raw_inv;refine ⟨_,?_,.bool _⟩
    simp [execOp,h1,h2,eqGuard,binOp,zfV hf.ptrD]
  |some cs=>
    obtain ⟨b,base,rc,el',fr,h1,h3,h4,h5⟩:=hv.vptr_inv;refine ⟨_,?_,.bool _⟩
    simp [execOp,h1,h2,eqGuard,binOp,zfV hf.ptrD]
end
end Go.HL
namespace Go.HL
theorem zcb [Tracks] {a b c d a' b' c' d':HVal} (h1:Weak a a') (h2:Weak b b') (h3:Weak c c') (h4:Weak d d'):Weak (.tup [a,b,c,d]) (.tup [a',b',c',d']):=
 zrR rfl fun j h h' x y=>by
  match j,x,y with
  |0,x,y=>simp at x y;subst x y;exact h1
  |1,x,y=>simp at x y;subst x y;exact h2
  |2,x,y=>simp at x y;subst x y;exact h3
  |3,x,y=>simp at x y;subst x y;exact h4
end Go.HL
end
namespace Go.HL
section
open Op
end
section
open Op
end
section
open Op
end
section
open Op
def sp4:List Str:=[[100,102],[102,119],[103,107],[109,102]]
def nm5:List Str:=[[97,110,110],[98,101,97],[99,105,100],[100,97,110],[101,118,101]]
def sl4:List Str:=[[115,98],[115,97],[115,99],[115,100]]
def ru5:List Str:=[[114,97],[114,98],[114,99],[114,100],[114,101]]
structure GoodPy (p:PlayerS):Prop where
 name:p.Name∈zdF
 pos:p.Positions.length<=4
structure GoodPys (l:List PlayerS):Prop where
 len:l.length<=5
 all: ∀p∈l,GoodPy p
def zqm (x:SlotS):Prop:=x.Positions.length<=10
structure GoodSlos (l:List SlotS):Prop where
 len:l.length<=4
 all: ∀x∈l,zqm x
def zmR (x:SlotS):Prop:=x.Positions.length<=4
structure GoodS4s (l:List SlotS):Prop where
 len:l.length<=4
 all: ∀x∈l,zmR x
theorem GoodS4s.up {l:List SlotS} (h:GoodS4s l):GoodSlos l:=⟨h.len,fun x hx=>by have:=h.all x hx;dsimp only [zmR] at this;show x.Positions.length<=10;omega⟩
def zvW (x:HealthS):Prop:= -1000000000000000<=x.To/\x.To<=1000000000000000
structure GoodHes (l:List HealthS):Prop where
 len:l.length<=10
 all: ∀x∈l,zvW x
def ofB (L:List PlayerS) (s:Str):Bool:=decide (zS (fun x:PlayerS=>x.Key==s) L 0<0)&&(s !=[122,101,100])
theorem GoodHes.filter {l:List HealthS} {p:HealthS->Bool} (h1:l.length<=10) (h2: ∀x∈l,zvW x):GoodHes (l.filter p):=
 ⟨An (AK _ _) h1,fun x hx=>h2 x (List.mem_filter.1 hx).1⟩
def zBP (x:RuleS):Prop:=(-1000000000<=x.Num/\x.Num<=1000000000)/\ -1000000000<=x.Den/\x.Den<=1000000000
structure GoodRus (l:List RuleS):Prop where
 len:l.length<=5
 all: ∀x∈l,zBP x
theorem zyd {n g:Int} (h: -1000<=n/\n<=1000): -1000000000<=n.tdiv g/\n.tdiv g<=1000000000:=by
 have h1:(n.tdiv g).natAbs<=n.natAbs:=by
  rw [Int.natAbs_tdiv];exact Nat.div_le_self _ _
 omega
def zeR (n d:Int):Int:=((Nat.gcd n.natAbs d.natAbs:Nat):Int)
theorem zyw {n d:Int} (h:1<=d):1<=zeR n d:=by
 unfold zeR;have:=Nat.gcd_pos_of_pos_right n.natAbs (show 0<d.natAbs by omega)
 omega
end
section
open Op
def onI (W p n:Int):Int:=if 0<p then 1+((p-1-(W-1)).tmod (n-1)+(n-1)).tmod (n-1) else p
def onS (T:List Str) (W p n:Int):Str:=if T.length<=onI W p n then [] else T.getD (onI W p n).toNat []
theorem zIZ {W p n:Int} (hp:0<=p/\p<=10) (hn:2<=n/\n<=10):(-10<=(p-1-(W-1)).tmod (n-1)/\(p-1-(W-1)).tmod (n-1)<=10)/\(0<=((p-1-(W-1)).tmod (n-1)+(n-1)).tmod (n-1)/\((p-1-(W-1)).tmod (n-1)+(n-1)).tmod (n-1)<=10)/\0<=onI W p n:=by
 obtain ⟨m1,m2,_⟩:=zrN (a:=p-1-(W-1)) (b:=n-1) (by omega);have h0:0<=(p-1-(W-1)).tmod (n-1)+(n-1):=by omega
 have h1:=CF (n-1) h0;have h2:=B3 ((p-1-(W-1)).tmod (n-1)+(n-1)) (show 0<n-1 by omega);refine ⟨⟨by omega,by omega⟩,⟨h1,by omega⟩,?_⟩
 unfold onI
 split<;>omega
def zhY:List Str->List Str->Int
 |[],[]=>0
 |[],_::_=> -1
 |_::_,[]=>1
 |a::l,b::m=>if zY a b≠0 then zY a b else zhY l m
theorem zB2 {l m:List Str} (h:m.length<=0\/m=[]) (hl:l≠[]):zhY l m=1:=by
 have hm:m=[]:=by
  rcases h with h|h
  cases m with
  |nil=>rfl
  |cons _ _=>simp at h
  exact h
 subst hm
 cases l with
 |nil=>exact absurd rfl hl
 |cons _ _=>rfl
theorem zAE {a b:Str} {l m:List Str} (h:zY a b=0):zhY (a::l) (b::m)=zhY l m:=by rw [zhY,if_neg (by simp [h])]
theorem zAF {a b:Str} {l m:List Str} (h:zY a b≠0):zhY (a::l) (b::m)=zY a b:=by rw [zhY,if_pos h]
theorem znV {m:List Str} {k:Nat} (h:k<m.length):m.drop k=m.getD k []::m.drop (k+1):=by
 rw [BV h,Ag,Aa h];rfl
theorem zwj {m:List Str} (k:Nat):zhY [] (m.drop k)=if k<m.length then-1 else 0:=by
 split
 rename_i h;rw [znV h];rfl
 rename_i h;rw [BP (by omega)];rfl
def zri (x y:FixS):Int:=if zgm [x.Week,x.At] [y.Week,y.At]≠0 then zgm [x.Week,x.At] [y.Week,y.At] else zhY [x.Home] [y.Home]
theorem zBT:Cmp zri fun _=>True:=by
 have h:=zek (zge FixS.Week) (zek (zge FixS.At) (zg9 FixS.Home));have e:zri=fun a b=>if zai a.Week b.Week≠0 then zai a.Week b.Week else if zai a.At b.At≠0 then zai a.At b.At else zY a.Home b.Home:=by
  funext a b
  unfold zri;have e1:zgm [a.Week,a.At] [b.Week,b.At]=if zai a.Week b.Week≠0 then zai a.Week b.Week else zai a.At b.At:=by
   rw [zgm,zgm,zgm]
   by_cases h2:zai a.At b.At≠0
   rw [if_pos h2];rw [if_neg h2];simp at h2;rw [h2]
  have e2:zhY [a.Home] [b.Home]=zY a.Home b.Home:=by
   rw [zhY,zhY]
   by_cases h2:zY a.Home b.Home≠0
   rw [if_pos h2];rw [if_neg h2];simp at h2;rw [h2]
  rw [e1,e2]
  by_cases h1:zai a.Week b.Week≠0
  rw [if_pos h1,if_pos h1,if_pos h1];rw [if_neg h1,if_neg h1]
 rw [e];exact h
def nOf (T:List Str):Int:=(T.length:Int)+(T.length:Int).tmod 2
def mOf (T:List Str):Int:=(nOf T).tdiv 2
theorem zGd {T:List Str} (h:2<=T.length/\T.length<=4):(0<=(T.length:Int).tmod 2/\(T.length:Int).tmod 2<=1)/\(2<=nOf T/\nOf T<=4)/\(1<=mOf T/\mOf T<=2)/\2*mOf T=nOf T:=by
 have h3:T.length=2\/T.length=3\/T.length=4:=by omega
 unfold mOf nOf
 rcases h3 with e|e|e<;>(rw [e];decide)
theorem zyg {w:Nat} {x y:Str} (h:w<=10):GamB ⟨(w:Int)+1,x,y,false,0,0,0,0⟩:=⟨by dsimp only;omega,by dsimp only;omega,by dsimp only;omega⟩
structure GoodGas (l:List GameS):Prop where
 len:l.length<=6
 all: ∀x∈l,GamB x
def tm4:List Str:=[[116,97],[116,98],[116,99],[116,100]]
theorem zgc {y:Int} (h:2<=y):HasAB (tm4.take y.toNat):=by
 obtain ⟨n,hn⟩: ∃n,y.toNat=n+2:=⟨y.toNat-2,by omega⟩
 rw [hn];unfold HasAB tm4
 constructor<;>simp
structure LeaC (g:LeagueS):Prop where
 lea:LeaB g
 gw: ∀x∈g.Games,GamB x
 tr: ∀s∈g.Trust,Sh s
 sl:g.Slots.length<=4
 tm:g.Teams.length<=5
 pl:g.Players.length<=5
 tt:HasAB g.Teams
theorem zkU {g:LeagueS} (h1:GoodPys g.Players) (h2:g.Stints.length<=10) (h3:g.Fixtures.length<=12) (h4:GoodRus g.Rules) (h5:GoodSlos g.Slots) (h6:g.Teams.length<=5) (h7:g.Games.length<=6/\∀x∈g.Games,GamB x)
 (h8:g.Breaks.length<=6) (h9:g.Trust.length<=100/\∀s∈g.Trust,Sh s) (h10: -1<=g.Start/\g.Start<=1000000000000) (h11:HasAB g.Teams):LeaC g:=by
 have l1:=h1.len;have l4:=h4.len;have l5:=h5.len;refine ⟨⟨by omega,fun p hp=>(h1.all p hp).name,fun p hp=>by have:=(h1.all p hp).pos;omega,by omega,by omega,by omega,fun x hx=>h4.all x hx,by omega,fun x hx=>by have:=h5.all x hx;dsimp only [zqm] at this;omega,by omega,by omega,
  fun x hx=>⟨(h7.2 x hx).fr,(h7.2 x hx).ot⟩,by omega,by omega,by omega⟩,h7.2,h9.2,l5,h6,l1,h11⟩
structure LeaD (g:LeagueS):Prop where
 pl:GoodPys g.Players
 fx:g.Fixtures.length<=12
 ru:GoodRus g.Rules
 sl:GoodS4s g.Slots
 tm:2<=g.Teams.length/\g.Teams.length<=4
 br:g.Breaks.length<=6
 tr:GoodTr g.Trust
 sta: -1<=g.Start/\g.Start<=1000000000000
 tt:HasAB g.Teams
end
section
open Op
structure HalfG {α:Type} (a b l:List α):Prop where
 sa:List.Sublist a l
 sb:List.Sublist b l
 all: ∀x∈l,x∈a\/x∈b
theorem HalfG.nil {α:Type}:HalfG ([]:List α) [] []:=⟨Bu _,Bu _,fun x h=>by cases h⟩
theorem HalfG.left {α:Type} {a b l:List α} (h:HalfG a b l) (x:α):HalfG (a++[x]) b (l++[x]):=
 ⟨h.sa.append (Bu _),h.sb.trans (BY _ _),fun y hy=>by
  rcases List.mem_append.1 hy with q|q
  exact (h.all y q).imp (Ap _) id;exact .inl (Be _ q)⟩
theorem HalfG.right {α:Type} {a b l:List α} (h:HalfG a b l) (x:α):HalfG a (b++[x]) (l++[x]):=
 ⟨h.sa.trans (BY _ _),h.sb.append (Bu _),fun y hy=>by
  rcases List.mem_append.1 hy with q|q
  exact (h.all y q).imp id (Ap _);exact .inr (Be _ q)⟩
abbrev MvS:={m:MoveS//MovB m}
abbrev zd2 (x:MvS):HVal:=zdD x.1
def zDo (x y:MvS):Int:=zhF x.1 y.1
theorem zAB:Cmp zDo fun _=>True:=zy2
end
section
theorem zrl: ∀a b:Str,Op.bytesLess a b=decide (a<b)
 |[],[]=>by simp [Op.bytesLess]
 |_::_,[]=>by simp [Op.bytesLess]
 |[],_::_=>by simp [Op.bytesLess]
 |a::x,b::y=>by
   have ih:=zrl x y;rw [AE,decide_eq_true_iff,List.cons_lt_cons_iff];unfold Op.bytesLess;rw [ih]
   simp
theorem zFu {a b:Str} (h:SLt a b):zY a b<0:=by
 have h1:zY a b<=0:=by
  rw [zkQ,zrl,decide_eq_false_iff_not];exact List.not_lt.2 h.1
 have h2:zY a b≠0:=fun e=>h.2 (zbi.1 e)
 omega
/-! the lines of right plays are right-/
structure LnKey (q:LnS):Prop where
 S: ∀s∈q.S,key s=true
 c: ∀e∈q.c,key e.1.2=true
theorem zwJ {l:List Play} {t:List Str} {week n:Int}: ∀(m:List Play) (q:LnS),LnKey q->(∀x∈m,playFault x=0)->LnKey (m.foldl (ze9 l t week n) q)
 |[],_,h,_=>h
 |x::m,q,h,hm=>by
   rw [Bv];refine zwJ m _ ?_ fun y hy=>hm y (Al _ hy)
   obtain ⟨_,_,_,_,⟨_,k2,k3⟩,_,_⟩:=zeC (hm x Ai);unfold ze9
   split
   refine ⟨fun s hs=> ?_,fun e he=> ?_⟩
   rcases zhZ.1 hs with rfl|hs
   exact k2;exact h.S s hs
   rcases zcF he with rfl|he
   exact k3;exact h.c e he;exact h
theorem zjv {l:List Play} {t:List Str} {week n:Int} (hok: ∀x∈l,playFault x=0) (hl:l.length<=15) (hw:zar week=true) (h0:zf7 l t week n=0):zap (zdN l t week n)=0:=by
 have h:=zog (l:=l) (m:=l) (trust:=t) (week:=week) (n:=n) hok;have hk:LnKey (zaI l t week n l):=zwJ (l:=l) (t:=t) (week:=week) (n:=n) l ⟨[],[]⟩ ⟨(fun s h=>by cases h),(fun e h=>by cases h)⟩ hok;obtain ⟨hsl,hsn⟩:=zgP (t:=t) (week:=week) (n:=n) hok hl;have hf:zgs (zaI l t week n l).c (zaI l t week n l).S=false:=by
  unfold zf7 zja at h0
  cases hq:zgs (zaI l t week n l).c (zaI l t week n l).S with
  |false=>rfl
  |true=>rw [hq] at h0;simp at h0
 have e:zdN l t week n=(zaB (zaI l t week n l).S).map fun s=>⟨s,week,zck (zaI l t week n l).c s⟩:=by
  unfold zdN zin;rw [hf];rfl
 unfold zgs at hf;rw [A4] at hf;obtain ⟨f1,f2⟩:=hf;refine zsy (by omega) (fun y hy=> ?_) ?_;obtain ⟨y1,y2,y3⟩:=hsn y hy;rw [e] at hy;obtain ⟨s,hs,rfl⟩:=List.mem_map.1 hy;have hsS:s∈(zaI l t week n l).S:=(ziS _).mem_iff.1 hs;have hnm:((za0 (zaI l t week n l).c s).map (·.Name)).Nodup:=by
  have:=zoP h.c s;unfold zck at this;exact ((za5 zaU _).map _).nodup_iff.1 this
 refine zez.2 ⟨hk.S s hsS,hw,zu9 (An y1 (by decide)) (fun z hz=> ?_) (zrc hnm)⟩
 have hz':z∈za0 (zaI l t week n l).c s:=(ze7 _).1 hz;obtain ⟨p,hp,rfl⟩:=List.mem_map.1 hz';obtain ⟨p1,p2⟩:=List.mem_filter.1 hp;have p3:p.2≠0:=by
  simp only [AZ,bne_iff_ne,ne_eq] at p2;exact p2.2
 have p4:out p.2 (-100000) 100000=false:=by
  have:=List.any_eq_false.1 f1 p p1
  simpa using this
 refine zfB.2 ⟨hk.c p p1,?_,p3⟩
 unfold out at p4;simp only [A4,decide_eq_false_iff_not] at p4
 dsimp only
 omega
 rw [e];refine List.pairwise_map.2 ((ziT h.S).imp fun {a b} hab=> ?_)
 have h1:=zFu hab
 show orI [zY a b,zai week week]<0
 rw [zdx,if_pos (by omega)];exact h1
/-! parts that make the whole-/
structure Half (a b l:List Play):Prop where
 sa:a.Sublist l
 sb:b.Sublist l
 all: ∀x∈l,x∈a\/x∈b
theorem Half.nil:Half [] [] []:=⟨Bu _,Bu _,fun x h=>by cases h⟩
theorem Half.left {a b l:List Play} (h:Half a b l) (x:Play):Half (a++[x]) b (l++[x]):=
 ⟨h.sa.append (Bu _),h.sb.trans (BY _ _),fun y hy=>by
  rcases List.mem_append.1 hy with hy|hy
  rcases h.all y hy with q|q
  exact .inl (Ap _ q);exact .inr q;exact .inl (Be _ hy)⟩
theorem Half.right {a b l:List Play} (h:Half a b l) (x:Play):Half a (b++[x]) (l++[x]):=
 ⟨h.sa.trans (BY _ _),h.sb.append (Bu _),fun y hy=>by
  rcases List.mem_append.1 hy with hy|hy
  rcases h.all y hy with q|q
  exact .inl q;exact .inr (Ap _ q);exact .inr (Be _ hy)⟩
end
section

end
section
open Op
def zvV (x:ChoiceS):Prop:=(∀s∈x.Players,Sh s)/\Sh x.Captain/\x.Players.length<=5
def GoodC4 (x:ChoiceS):Prop:=(∀s∈x.Players,Sh s)/\Sh x.Captain/\x.Players.length<=4
theorem GoodC4.up {x:ChoiceS} (h:GoodC4 x):zvV x:=⟨h.1,h.2.1,Nat.le_succ_of_le h.2.2⟩
structure GoodChs (l:List ChoiceS):Prop where
 len:l.length<=20
 all: ∀x∈l,zvV x
structure BookG (b:BookS):Prop where
 lea:LeaC b.League
 mv:b.Moves.length<=10
 mb: ∀x∈b.Moves,MovB x
 pl:GoodPl b.Plays
 me:GoodMds b.Mends
 he:GoodHes b.Health
 ch:GoodChs b.Choices
theorem BookG.c {b:BookS} (h:BookG b):BookC b:=by
 have a1:=h.mv;have a2:=h.pl.len;have a3:=h.me.len;have a4:=h.he.len;have a5:=h.ch.len;exact ⟨⟨h.lea.lea,by omega,by omega,by omega,by omega,by omega,fun x hx=>by have:=(h.ch.all x hx).2.2;omega⟩,h.lea.gw,h.mb,h.he.all,h.lea.tr,h.pl.all,h.me.all,fun x hx=>⟨(h.ch.all x hx).1,(h.ch.all x hx).2.1⟩,by omega,by omega,by omega,by omega,by omega,h.lea.tt,h.lea.tm⟩
def g0L:LeagueS:=⟨[],[],[],[],[⟨[115,97],[[103,107]]⟩],⟨3,0,5,0⟩,[[116,97],[116,98]],[],[],[],0⟩
theorem g0_b:LeaB g0L:=
 ⟨by decide,fun _ h=>(by cases h),fun _ h=>(by cases h),by decide,by decide,by decide,fun _ h=>(by cases h),by decide,fun x hx=>(by simp only [g0L,List.mem_singleton] at hx;subst hx;decide),by decide,by decide,fun _ h=>(by cases h),by decide,by decide,by decide⟩
theorem g0_E:zbQ g0L=0:=by decide
theorem g0_W:zdG g0L 604800000=2:=by decide
theorem g0_M:zN 604800000=true:=by decide
end
section
open Go
theorem ziN: ∀{l:List Int},orI l=0->∀x∈l,x=0
 |[],_,x,h=>by cases h
 |y::r,h,x,hx=>by
   unfold orI at h
   by_cases e:y≠0
   rw [if_pos e] at h;exact absurd h e;rw [if_neg e] at h
   rcases List.mem_cons.1 hx with rfl|q
   exact Decidable.not_not.1 e;exact ziN h x q
theorem zvL {g:LeagueS} (h:zbQ g=0):ziJ g=0:=by
 unfold zbQ at h
 by_cases e:ziJ g≠0
 rw [if_pos e] at h;exact h;exact Decidable.not_not.1 e
theorem zwb {b:BookS} (h:zbz b=0):zbQ b.League=0/\orI [zfg b.Moves,zb7 b.Plays,zbY b.Mends,ztI b.League.Players b.Health,ztC b.League.Teams b.League.Slots.length b.Choices]=0:=by
 unfold zbz at h
 by_cases e:zbQ b.League≠0
 rw [if_pos e] at h;exact absurd h e;rw [if_neg e] at h;exact ⟨Decidable.not_not.1 e,h⟩
structure BookF (b:BookS):Prop where
 bo:zeo b.League.Bounds=0
 mo:zfg b.Moves=0
 ps:b.League.Players.length<=500
 ky: ∀p∈b.League.Players,key p.Key=true
theorem zAy {b:BookS} (h:zbz b=0):BookF b:=by
 obtain ⟨h1,h2⟩:=zwb h;have h3:=ziN (zvL h1);have h4:zlz b.League.Players b.League.Stints=0:=h3 _ (by simp);have h5:zdk b.League.Players=0:=by
  unfold zlz at h4
  by_cases e:zdk b.League.Players≠0
  rw [if_pos e] at h4;exact h4;exact Decidable.not_not.1 e
 obtain ⟨h6,h7⟩:=zhf h5;refine ⟨h3 _ (by simp),ziN h2 _ (by simp),h6,fun p hp=> ?_⟩
 obtain ⟨i,hi,rfl⟩:=AR hp;have:=h7 i _ (Aa hi);unfold zdo at this
 by_cases e:key b.League.Players[i].Key=false
 rw [if_pos e] at this;cases this
 simpa using e
abbrev zIW (b:BookS):List Str:=b.League.Players.map (·.Key)
theorem BookF.fr {b:BookS} (h:BookF b) {n:Int} (hn:zN n=true):frE b.League.Bounds b.Moves (zIW b) n=0:=by
 refine zEA (by simp [orI,h.bo,h.mo]) (by simp;exact h.ps) ?_ hn
 rw [B6]
 intro s hs
 obtain ⟨p,hp,rfl⟩:=List.mem_map.1 hs;rw [h.ky p hp];simp
end
end Go.HL
namespace Go.Proofs.YtabpobhnedkkeaaGreatDoor
set_option maxRecDepth 100000
set_option linter.unusedVariables false
set_option linter.unusedSimpArgs false
section
open Go.HL
set_option linter.unusedSimpArgs false
end
end Go.Proofs.YtabpobhnedkkeaaGreatDoor
namespace Go.HL
section
open Go
def zhy (a b:List Str):Bool:=a.any fun s=>b.contains s
def zqy (team:Str) (w at' before:Int) (x:ChoiceS):Bool:=((x.Team==team&&x.Week==w)&&decide (x.At<=at'))&&decide (x.At<before)
def zlZ (team:Str) (w at' before:Int) (o:Option ChoiceS):List ChoiceS->Option ChoiceS
 |[]=>o
 |x::r=>zlZ team w at' before (if zqy team w at' before x=true then some x else o) r
def zpw (l:List ChoiceS) (team:Str) (w at' before:Int):Option ChoiceS:=zlZ team w at' before none l
theorem zzq {team:Str} {w at' before:Int} {o:Option ChoiceS} {l:List ChoiceS} {c:ChoiceS} (h:zlZ team w at' before o l=some c):o=some c\/c∈l/\zqy team w at' before c=true:=by
 induction l generalizing o with
 |nil=>exact .inl h
 |cons y r ih=>
   rcases ih h with q|⟨q1,q2⟩
   by_cases e:zqy team w at' before y=true
   rw [if_pos e] at q;cases q;exact .inr ⟨Ai,e⟩;rw [if_neg e] at q;exact .inl q;exact .inr ⟨Al _ q1,q2⟩
end
section
open Go
theorem zJc {L:List PlayerS} {s:Str} (hs:SortedS (L.map (·.Key))) (h:(L.map (·.Key)).contains s=true):
 ∃p,L[zeF (L.map (·.Key)) s]? =some p/\p.Key=s/\L.find? (fun p=>p.Key==s)=some p:=by
 obtain ⟨h1,h2⟩:=zFk hs h;have hl:zeF (L.map (·.Key)) s<L.length:=by simpa using zn h1
 refine ⟨L[zeF (L.map (·.Key)) s],Aa hl,?_,?_⟩
 rw [Aj,Aa hl] at h1
 simpa using h1
 rw [List.find?_eq_some_iff_getElem];refine ⟨?_,_,hl,rfl,fun j hj=> ?_⟩
 rw [Aj,Aa hl] at h1
 simpa using h1
 have:=h2 j (L[j]'(by omega)).Key hj (by rw [Aj,Aa (by omega)];rfl)
 simpa using this
theorem zyC {L:List PlayerS} {s:Str} (h:(L.map (·.Key)).contains s=false):L.find? (fun p=>p.Key==s)=none:=by
 rw [List.find?_eq_none]
 intro p hp q
 have:(L.map (·.Key)).contains s=true:=by
  simp only [BI,decide_eq_true_eq];exact List.mem_map.2 ⟨p,hp,by simpa using q⟩
 rw [h] at this;cases this
abbrev plO (L:List PlayerS) (s:Str):Option PlayerS:=L.find? (fun p=>p.Key==s)
abbrev pPl (o:Option PlayerS):HVal:=zp5 (o.map fun p=>zb (zeU p))
abbrev pCh (o:Option ChoiceS):HVal:=zp5 (o.map fun c=>zb (zX c))
abbrev znX (t:Str) (p h:List Str):HVal:= .agg [.str t,eSs p,eSs h]
abbrev zkz (b:BookS) (n:Int):HVal:= .agg [.vptr (zb (zaP b)) 0,.int .i64 n]
def zc7 (b:BookS) (t:Str) (w n:Int):Int:=if zbz b≠0 then zbz b else if b.League.Teams.contains t=false then 8 else if zar w=false\/zN n=false then 1 else 0
theorem zqF {b:BookS} {t:Str} {w n:Int} (h:zc7 b t w n=0):zbz b=0/\b.League.Teams.contains t=true/\zar w=true/\zN n=true:=by
 unfold zc7 at h
 by_cases h1:zbz b≠0
 rw [if_pos h1] at h;exact absurd h h1;rw [if_neg h1] at h
 by_cases h2:b.League.Teams.contains t=false
 rw [if_pos h2] at h;cases h;rw [if_neg h2] at h
 by_cases h3:zar w=false\/zN n=false
 rw [if_pos h3] at h;cases h;rw [not_or] at h3;exact ⟨Decidable.not_not.1 h1,by simpa using h2,by simpa using h3.1,by simpa using h3.2⟩
structure BookW (b:BookS):Prop where
 f:BookF b
 st:zlz b.League.Players b.League.Stints=0
 fx:zj9 b.League.Fixtures=0
 he:zpK b.League.Players b.Health=0
 py:zdk b.League.Players=0
 so:SortedS (b.League.Players.map (·.Key))
 ch: ∀c∈b.Choices,c.Players.length=b.League.Slots.length/\zar c.Week=true/\zN c.At=true
 tm: ∀t,b.League.Teams.contains t=true->key t=true
 sl:b.League.Slots.length<=12
theorem zEs {T:List Str} {n:Nat} {l:List ChoiceS} (h:ztC T n l=0) {c:ChoiceS} (hc:c∈l):c.Players.length=n/\zar c.Week=true/\zN c.At=true:=by
 obtain ⟨_,h2⟩:=zhf h;obtain ⟨i,hi,rfl⟩:=AR hc;have:=h2 i _ (Aa hi);unfold zcv at this
 split at this
 omega
 split at this
 omega
 split at this
 omega
 rename_i h3 h4
 rw [not_or] at h3;exact ⟨Decidable.not_not.1 h4,by simpa using h3.1,by simpa using h3.2⟩
theorem zFL {b:BookS} (h:zbz b=0):BookW b:=by
 obtain ⟨h1,h2⟩:=zwb h;have h3:=ziN (zvL h1);have h4:zlz b.League.Players b.League.Stints=0:=h3 _ (by simp);have h5:zdk b.League.Players=0:=by
  unfold zlz at h4
  by_cases e:zdk b.League.Players≠0
  rw [if_pos e] at h4;exact h4;exact Decidable.not_not.1 e
 have h6:zgo b.League.Teams b.League.Games=0:=h3 _ (by simp);have h7:zdQ b.League.Teams=0:=by
  unfold zgo at h6
  by_cases e:zdQ b.League.Teams≠0
  rw [if_pos e] at h6;exact h6;exact Decidable.not_not.1 e
 have h8:zhg b.League.Teams=0:=by
  unfold zdQ at h7
  split at h7
  cases h7
  split at h7
  cases h7
  exact h7
 have h9:zeS b.League.Slots=0:=h3 _ (by simp);have h10:ztC b.League.Teams b.League.Slots.length b.Choices=0:=ziN h2 _ (by simp);refine ⟨zAy h,h4,h3 _ (by simp),?_,h5,zom h5,fun c hc=>zEs h10 hc,fun t ht=>zp9 _ 0 h8 t (by simpa using ht),?_⟩
 unfold zpK;rw [if_neg (fun q=>q h5)];exact ziN h2 _ (by simp);unfold zeS at h9
 split at h9
 cases h9
 split at h9
 cases h9
 omega
end
end Go.HL
namespace Go.Proofs.YtabpobhnedkkeaaGreatDoor
set_option maxRecDepth 100000
set_option linter.unusedVariables false
set_option linter.unusedSimpArgs false
section
open Go.Proofs.Tryz
open Go.HL
theorem zr1 [Tracks] {s:Str} {l:List Str} (hl:l.length<=1000000):ConP prog 258 [.str s,.vptr [eSs l] 0] (.bool (l.contains s)):=by
 refine uOb func258 ntmps258 ?_;refine gz4 ?_;refine dq (zO (h:=eSs l) zo rfl rfl rfl) ?_;refine gz1 ?_;refine dq (uCl zgG rfl (zG uS)) ?_;refine gz3 ?_;refine zu rfl ?_
 rfl
theorem zoE [Tracks] {a b:List Str} (ha:a.length<=1000000) (hb:b.length<=1000000):ConP prog 182 [eSs a,eSs b] (.bool (zhy a b)):=by
 refine uOb func182 ntmps182 ?_;refine gz7 ?_;refine dq (uCl zy8 rfl (zdS (l:=a) (p:=fun s=>b.contains s) zH6 (fun _=>zr1 hb) ha)) ?_;refine gz3 ?_;refine zu rfl ?_
 rfl
theorem znP [Tracks] {kb pb hb ob db ab:Nat} {b:BoundS} {k:RosS} {t:Str} (hP: ∀t,(rPl k t).length<=1000000) (hH: ∀t,(rHu k t).length<=1000000):Con prog 173 [.raw (.pointer (some ⟨kb,0,none⟩)),.str t] (zd6 kb pb hb ob db ab b k) (fun x1 M'=>x1=znX t (rPl k t) (rHu k t)/\M'=[]):=by
 refine zaQ func173 rfl ntmps173 rfl rfl ?_;refine gz1 ?_;refine de rfl (zg zdZ rfl fun b4=> ?_)
 refine gz1 ?_;refine zbF (fun M=>M=(.cells b4 [.str [],.raw (.slice none 0 0),.raw (.slice none 0 0)]::(zd6 kb pb hb ob db ab b k))) [4,6,11,13] mixed ?_;refine gz2 ?_;refine uB 2 rfl ((by first|exact zL rfl|exact zx rfl)) ?_;refine gz1 ?_;refine uM 4 rfl rfl (fun M hM=>by subst hM;exact zV (i:=1) zef rfl rfl (.inl ⟨rfl,rfl⟩) ⟨rfl,rfl⟩) ?_;refine gz1 ?_;refine uM 6 rfl rfl (fun M hM=>by subst hM;exact zgg (i:=2) (f:=eSs) (z0:=([]:List Str)) zef ty9 zo rfl rfl rfl (zD 1) ⟨rfl,rfl⟩) ?_;refine uA 8 ?_;refine uB 9 rfl ((by first|exact zL rfl|exact zx rfl)) ?_;refine gz1 ?_;refine uM 11 rfl rfl (fun M hM=>by subst hM;exact zV (i:=1) zef rfl rfl (.inl ⟨rfl,rfl⟩) ⟨rfl,rfl⟩) ?_;refine gz1 ?_;refine uM 13 rfl rfl (fun M hM=>by subst hM;exact zgg (i:=3) (f:=eSs) (z0:=([]:List Str)) zef ty9 zo rfl rfl rfl (zD 1) ⟨rfl,rfl⟩) ?_;refine uF 7 ?_;refine zw rfl (zo0 (uCa zlj rfl (zad (l:=rPl k t) (hP t)) fun v=>⟨v,rfl,rfl⟩) ?_)
 refine ⟨fun _=> .inl rfl,?_⟩
 refine uF 14 ?_;refine zw rfl (zo0 (uCa zlj rfl (zad (l:=rHu k t) (hH t)) fun v=>⟨v,rfl,rfl⟩) ?_)
 refine ⟨fun _=> .inl rfl,?_⟩
 refine uB 15 rfl (zC (cs:=[_,_,_]) zdZ zEa rfl) ?_;refine uF 16 ?_;refine zI (zj (h:=znX t (rPl k t) (rHu k t)) zdZ rfl rfl rfl rfl rfl ?_)
 refine ⟨uE,?_⟩
 refine gz2 ?_;exact ⟨_,_,(zaN 4 (i:=0) rfl rfl).trans Ghost.clear,[_],_,⟨⟨_,_,_,_,_,rfl,zdZ,.inr ⟨rfl,rfl,rfl⟩⟩,trivial⟩,Weak.refl _,rfl,rfl⟩
theorem zxF [Tracks] {b:BoundS} {l:List MoveS} {t:Str} {n:Int} (hl:l.length<=1000000) (hz:zmk b l t n=0):ConP prog 82 [zet b,zcA l,.str t,.int .i64 n] (.tup [znX t (rPl (zdY b l n) t) (rHu (zdY b l n) t),.int .i64 0]):=by
 obtain ⟨hm0,hk0,hn0⟩:=zFK hz;have hok:=zkV (b:=b) (n:=n) hm0;refine zaQ func82 rfl ntmps82 rfl rfl ?_;refine gz2 ?_;refine de rfl (zg zdZ rfl fun b8=> ?_)
 refine gz8 ?_;refine dq (zP (h':= .int .i64 0) (uCl zHd rfl (zoW (b:=b) (l:=l) (p:=t) (n:=n) hl)) (by rw [hz])) ?_;refine gz6 ?_;refine zam rfl (fun h1=> ?_) (fun h1=> ?_)
 ·exfalso
  try simp at h1
  done
 ·try simp at h1
  refine gz6 ?_;refine de rfl (zaA (M1:=[]) (R:=[_]) zHe rfl (WeakL.refl _) (Ac _) (zxG (b:=b) (l:=l) (n:=n) hm0) ?_)
  rintro _ _ ⟨kb,pb,hb,ob,db,ab,rfl,rfl⟩;refine gz1 ?_;refine de rfl (zaA (M1:=(zd6 kb pb hb ob db ab b (zdY b l n))) (R:=[_]) zHf rfl (WeakL.refl _) (Ac _) (znP (t:=t) (fun t=>by have:=(hok.p t).2;omega) (fun t=>by have:=(hok.h t).2;omega)) ?_)
  rintro _ _ ⟨rfl,rfl⟩;refine de0 (zj (h:=znX t (rPl (zdY b l n) t) (rHu (zdY b l n) t)) zdZ rfl rfl rfl rfl rfl ?_)
  refine gz3 ?_;exact ⟨_,_,zm 8 rfl,[_,_],_,⟨⟨_,_,_,_,_,rfl,zdZ,.inr ⟨rfl,rfl,rfl⟩⟩,⟨rfl,trivial⟩⟩,Weak.refl _,rfl,rfl⟩
theorem zjM [Tracks] {b:BookS} {t:Str} {w n:Int} (hT:Tracks.on=false) (hb:BookC b):ConP prog 33 [.vptr (zb (zaP b)) 0,.str t,.int .i64 w,.int .i64 n] (.int .i64 (zc7 b t w n)):=by
 have htm:=hb.bb.lea.tm;refine uOb func33 ntmps33 ?_;refine gz6 ?_;refine dq ((by first|exact zL rfl|exact zx rfl)) ?_;refine dq (zZ (h:=zaP b) zdr rfl rfl rfl rfl) ?_;refine dq (uCl ca29 rfl (zjL (b:=b) hT hb.bb hb.hw)) ?_;refine gz6 ?_;refine uCo (fun h1=> ?_) fun h2=> ?_
 refine gz5 ?_;refine uRp ?_;unfold zc7
 simp_all
 refine gz6 ?_;refine dq ((by first|exact zL rfl|exact zx rfl)) ?_;refine gz2 ?_;refine dq (zO (h:=eSs b.League.Teams) zo rfl rfl rfl) ?_;refine gz1 ?_;refine dq (uCl zgG rfl (zG uS)) ?_;refine gz3 ?_;refine uCo (fun h3=> ?_) fun h4=> ?_
 refine gz4 ?_;refine uRp ?_;unfold zc7
 simp_all
 refine gz2 ?_;refine dq (uCl zli rfl zcL) ?_;refine gz3 ?_;refine uGr rfl (fun hc=>uCl zj6 rfl zbO) ?_;refine gz4 ?_;refine uCo (fun h5=> ?_) fun h6=> ?_
 refine gz4 ?_;refine uRp ?_;unfold zc7
 simp_all
 refine gz7 ?_;refine uRp ?_;unfold zc7
 simp_all
theorem znJ [Tracks] {b:BookS} {n w f:Int} {t:Str} (hl:b.Choices.length<=1000000):ConP prog 89 [zkz b n,.str t,.int .i64 w,.int .i64 f] (pCh (zpw b.Choices t w n f)):=by
 refine uOb func89 ntmps89 ?_;refine zau ?_;refine dq (zO (h:= .vptr (zb (zaP b)) 0) ziV rfl rfl rfl) ?_;refine dq ((by first|exact zL rfl|exact zx rfl)) ?_;refine gz1 ?_;refine dq (zO (h:=zd1 b.Choices) zfj rfl rfl rfl) ?_;refine dq (zaE (f:=zX) (l:=b.Choices) zfj rfl) ?_;refine gz3 ?_;refine uU2 [9,3,18,43] (fun (k:Nat) (o:Option ChoiceS)=>[(18,.int .i64 k),(9,pCh o)]) (fun (k:Nat) (o:Option ChoiceS)=>[]) (fun (k:Nat) (o:Option ChoiceS)=>k<=b.Choices.length/\(zpw b.Choices t w n f=zlZ t w n f o (b.Choices.drop k))) (fun (k:Nat) (o:Option ChoiceS)=>b.Choices.length-k) (0) (none) ?_ ?_;exact ⟨Ad _,rfl⟩;rintro k o ⟨hk,hg⟩;refine gz4 ?_;refine uCo (fun h1=> ?_) fun h2=> ?_
 obtain ⟨x,hx⟩: ∃x,b.Choices[k]? =some x:=⟨_,Aa h1⟩
 have hdx:=zi hx;rw [hdx] at hg;refine zau ?_;refine dq (zO (h:= .vptr (zb (zaP b)) 0) ziV rfl rfl rfl) ?_;refine dq ((by first|exact zL rfl|exact zx rfl)) ?_;refine gz1 ?_;refine dq (zO (h:=zd1 b.Choices) zfj rfl rfl rfl) ?_;refine gz1 ?_;refine dq (zB (f:=zX) (l:=b.Choices) (j:=k) (a:=x) zfj za8 rfl rfl rfl hx) ?_;refine gz2 ?_;refine uDr mixed ?_;refine gz1 ?_;refine uB 1 rfl ((by first|exact zL rfl|exact zx rfl)) ?_;refine gz6 ?_;refine uGy 8 rfl rfl (fun hc=>(by first|exact zL rfl|exact zx rfl)) ?_;refine gz7 ?_;refine uGy 16 rfl rfl (fun hc=>(by first|exact zL rfl|exact zx rfl)) ?_;refine gz8 ?_;refine uGy 25 rfl rfl (fun hc=>(by first|exact zL rfl|exact zx rfl)) ?_;refine gz6 ?_;refine uCo (fun h3=> ?_) fun h4=> ?_
 refine zau ?_;exact ⟨k+1,some x,⟨by omega,by rw [hg,zlZ,if_pos (by simp_all [zqy])]⟩,uD,⟨rfl,rfl,trivial⟩,uK,Ac _⟩;refine gz7 ?_;exact ⟨k+1,o,⟨by omega,by rw [hg,zlZ,if_neg (by simp_all [zqy])]⟩,uD,⟨rfl,rfl,trivial⟩,uK,Ac _⟩;have hnk:b.Choices.length<=k:=by omega
 obtain rfl:k=b.Choices.length:=by omega
 rw [zz (Ae _)] at hg;refine gz2 ?_;refine zQ ?_;refine gz7 ?_;refine zu rfl ?_;rw [hg];rfl
theorem znK [Tracks] {x:PlayerS} {s:Str}:ConP prog 175 [zeU x,.str s] (.int .i64 (zY x.Key s)):=by
 refine uOb func175 ntmps175 ?_;refine gz8 ?_;refine dq (uCl zcO rfl zR) ?_;refine gz3 ?_;refine zu rfl ?_
 rfl
theorem zpj [Tracks] {b:BookS} {n:Int} {s:Str} (hl:b.League.Players.length<=1000000) (hs:SortedS (b.League.Players.map (·.Key))):ConP prog 84 [zkz b n,.str s] (pPl (plO b.League.Players s)):=by
 refine uOb func84 ntmps84 ?_;refine gz6 ?_;refine dq (zO (h:= .vptr (zb (zaP b)) 0) ziV rfl rfl rfl) ?_;refine dq ((by first|exact zL rfl|exact zx rfl)) ?_;refine gz2 ?_;refine dq (zO (h:=zbp b.League.Players) zke rfl rfl rfl) ?_;refine gz5 ?_;refine dq (uCl zDE rfl (zeq (l:=b.League.Players) zHg (fun _=>znK) hl hs)) ?_;refine zcg ?_;refine uCo (fun h1=> ?_) fun h2=> ?_
 refine gz4 ?_;refine zu rfl ?_
 focus first
 |(rw [plO,hp3];rfl)
 |(rw [plO,zyC uSa];rfl)
 refine gz2 ?_;obtain ⟨p,hp1,hp2,hp3⟩:=zJc hs (s:=s) uSa;refine gz3 ?_;refine dq (zB (f:=zeU) (l:=b.League.Players) (j:=zeF (b.League.Players.map (·.Key)) s) (a:=p) zke zhi rfl rfl rfl hp1) ?_;refine gz3 ?_;refine zu rfl ?_
 focus first
 |(rw [plO,hp3];rfl)
 |(rw [plO,zyC uSa];rfl)
end
end Go.Proofs.YtabpobhnedkkeaaGreatDoor
namespace Go.HL
section
structure OutS where
 Points:Int
 Weight:Int
structure HopeS where
 Player:Str
 Outs:List OutS
structure HopeOk (x:HopeS):Prop where
 key:key x.Player=true
 pos:1<=x.Outs.length
 len:x.Outs.length<=8
 bd: ∀y∈x.Outs,(-100000<=y.Points/\y.Points<=100000)/\(1<=y.Weight/\y.Weight<=1000)
def zrM:List OutS->Int
 |[]=>0
 |y::r=>y.Weight+zrM r
theorem zyS: ∀(l:List OutS),(∀y∈l,1<=y.Weight/\y.Weight<=1000)->(l.length:Int)<=zrM l/\zrM l<=1000*l.length
 |[],_=>by simp [zrM]
 |x::l,h=>by
   have ih:=zyS l fun y hy=>h y (Al _ hy)
   have hx:=h x Ai;simp only [zrM,Ah];omega
theorem HopeOk.sum {x:HopeS} (h:HopeOk x):1<=zrM x.Outs/\zrM x.Outs<=8000:=by
 have:=zyS x.Outs fun y hy=>(h.bd y hy).2
 have:=h.pos;have:=h.len
 omega
abbrev most:Int:=1000000000000
end
section
abbrev NW:=List (Int×Int)
def one (p:Int×Int) (O:List OutS):NW:=O.map fun o=>(p.1+o.Points,p.2*o.Weight)
def tot:NW->Int
 |[]=>0
 |p::r=>p.2+tot r
def PosW (L:NW):Prop:= ∀p∈L,1<=p.2
theorem PosW.tot {L:NW} (h:PosW L):0<=tot L:=by
 induction L with
 |nil=>simp [HL.tot]
 |cons p L ih=>
   have:=ih fun q hq=>h q (Al _ hq)
   have:=h p Ai;simp only [HL.tot];omega
theorem PosW.le {L:NW} (h:PosW L) {p:Int×Int} (hp:p∈L):p.2<=HL.tot L:=by
 induction L with
 |nil=>cases hp
 |cons q L ih=>
   have hL:PosW L:=fun q hq=>h q (Al _ hq)
   have h1:=hL.tot;have h2:=h q Ai
   rcases List.mem_cons.1 hp with rfl|hp
   simp only [HL.tot];omega;have:=ih hL hp;simp only [HL.tot];omega
theorem PosW.alk {L:NW} (h:PosW L) (k:Int):0<=(alk k L).getD 0/\(alk k L).getD 0<=HL.tot L:=by
 cases hq:HL.alk k L with
 |none=>have:=h.tot;simp;omega
 |some v=>
   have hm:=zbs hq;have h1:=h _ hm;have h2:=h.le hm;simp only [Br];simp only at h1 h2
   omega
theorem PosW.one {p:Int×Int} (hp:1<=p.2) {O:List OutS} (hO: ∀y∈O,1<=y.Weight):PosW (HL.one p O):=fun q hq=>by
 obtain ⟨o,ho,rfl⟩:=List.mem_map.1 hq;have:=hO o ho;have:1*1<=p.2*o.Weight:=Int.mul_le_mul hp this (by decide) (by omega)
 dsimp only;omega
end
section
structure FracS where
 Num:Int
 Den:Int
abbrev zkA (x:FracS):HVal:= .agg [.int .i64 x.Num,.int .i64 x.Den]
def zfz (a b:Int):Int:=(Nat.gcd a.toNat b.toNat:Nat)
def zpW (n d:Int):FracS:=⟨n.tdiv (zfz (max n (-n)) d),d.tdiv (zfz (max n (-n)) d)⟩
theorem zCf {a b:Int} (ha:0<=a) (hb:0<b):zfz b (a.tmod b)=zfz a b:=by
 unfold zfz
 congr 1
 have e:(a.tmod b).toNat=a.toNat%b.toNat:=by
  rw [Int.tmod_eq_emod_of_nonneg ha];have h1:=Int.toNat_emod ha (by omega:0<=b);exact h1
 rw [e,Nat.gcd_comm b.toNat,<-Nat.gcd_rec,Nat.gcd_comm]
theorem zCe {a:Int} (ha:0<=a):zfz a 0=a:=by
 unfold zfz;simp;omega
theorem zyh {a b:Int} (hb:0<b):0<zfz a b:=by
 unfold zfz;have:=Nat.gcd_pos_of_pos_right a.toNat (n:=b.toNat) (by omega)
 omega
end
section
def PosO (Y:List OutS):Prop:= ∀q∈Y,1<=q.Weight
theorem PosO.take {Y:List OutS} (h:PosO Y) (k:Nat):PosO (Y.take k):=fun x hx=>h x (AS hx)
def IncO (Y:List OutS):Prop:=Y.Pairwise fun a b=>a.Points<b.Points
theorem IncO.drop {Y:List OutS} (h:IncO Y) {i:Nat} {n:Int} {q:OutS} (hq:Y[i]? =some q) (hn:n<=q.Points): ∀x∈Y.drop i,n<=x.Points:=by
 intro x hx
 have hi:i<Y.length:=(List.getElem?_eq_some_iff.1 hq).1;have he:Y[i]=q:=(List.getElem?_eq_some_iff.1 hq).2;rw [BV hi,he] at hx
 rcases List.mem_cons.1 hx with rfl|hx
 exact hn;have hp:(Y.drop i).Pairwise fun a b=>a.Points<b.Points:=CC (List.drop_sublist i Y) h
 rw [BV hi,he] at hp;have:=(List.pairwise_cons.1 hp).1 x hx
 omega
end
section

end
section
theorem zzB {a b:Int} (hb:0<=b):zfz a b∣b:=by
 have h:((Nat.gcd a.toNat b.toNat:Nat):Int)∣(b.toNat:Int):=Int.ofNat_dvd.2 (Nat.gcd_dvd_right _ _);rw [Int.toNat_of_nonneg hb] at h;exact h
theorem zzA {a b:Int} (ha:0<=a):zfz a b∣a:=by
 have h:((Nat.gcd a.toNat b.toNat:Nat):Int)∣(a.toNat:Int):=Int.ofNat_dvd.2 (Nat.gcd_dvd_left _ _);rw [Int.toNat_of_nonneg ha] at h;exact h
theorem zCx {w T:Int} (hT:0<T): ∃g,0<g/\w=(zpW w T).Num*g/\T=(zpW w T).Den*g/\0<(zpW w T).Den:=by
 have hg:=zyh (a:=max w (-w)) hT;have h1:zfz (max w (-w)) T∣T:=zzB (by omega);have h2:zfz (max w (-w)) T∣w:=by
  have h:=zzA (a:=max w (-w)) (b:=T) (by omega)
  by_cases c:0<=w
  have e:max w (-w)=w:=by omega
  rw [e] at h⊢;exact h;have e:max w (-w)= -w:=by omega
  rw [e] at h⊢;exact (Int.dvd_neg).1 h
 have e2:T=(zpW w T).Den*zfz (max w (-w)) T:=(Int.tdiv_mul_cancel h1).symm;refine ⟨_,hg,(Int.tdiv_mul_cancel h2).symm,e2,?_⟩
 refine Decidable.not_not.1 fun hn=> ?_
 have:(zpW w T).Den*zfz (max w (-w)) T<=0:=Int.mul_nonpos_of_nonpos_of_nonneg (by omega) (by omega)
 omega
end
section

end
section
theorem zxS {n:Int}:(if-n>n then-n else n)=max n (-n):=by split<;>omega
end
section

end
section

end
section

end
section

end
section

end
section

end
section

end
section

end
section

end
section
section
variable {α:Type} (rB:Str->Bool) (rP:Str->α) (F:List α->Int) (W:α->List Str) (enc:α->HVal) (sz:Nat)
end
end
section

end
section

end
section
theorem zit {m:List MendS} {week:Int} (h:zbY m=0):zbY (zdP m week)=0:=by
 obtain ⟨h1,h2,h3⟩:=zuL h;have hl:=zgT m week;unfold zbY;rw [if_neg (by omega)];exact zsg zib (fun x hx=>h2 x (List.mem_filter.1 hx).1) (h3.filter _) _ 0 rfl
theorem zlp {l:List Play} {t:List Str} {m:List MendS} {week n:Int} (hok: ∀x∈l,playFault x=0) (hl:l.length<=15) (hm:m.length<=24) (hw:zar week=true) (hm0:zbY m=0):zap (knL l t m week n)=0/\(knL l t m week n).length<=40/\∀y∈knL l t m week n,y.Stats.length<=40:=by
 unfold knL
 split
 exact ⟨rfl,by simp,fun y hy=>by cases hy⟩
 rename_i h0
 have h0':zf7 l t week n=0:=by simpa using h0
 have h40:=zof (t:=t) (week:=week) (n:=n) hok hl hm;have h1:=zsD (zdN l t week n) m n;have h2:=(zgP (t:=t) (week:=week) (n:=n) hok hl).1;refine ⟨zBd (zjv hok hl hw h0') hm0 h40 (by omega),by unfold mdL;rw [zbX,Af];omega,fun y hy=> ?_⟩
 unfold mdL at hy;rw [ze7] at hy;obtain ⟨q,hq,rfl⟩:=List.mem_map.1 hy;have:=h40 q hq
 show (zah zaU q.2).length<=40
 rw [zbX];omega
theorem zzU (m:List MendS) (week:Int):(m.filter fun x=> !(!(x.Week==week)))=zdP m week:=by
 unfold zdP;simp
end
section
open Go
structure WhS where
 team:Str
 hurt:Bool
 dropped:Int
structure OffS where
 W:List (Str×WhS)
 A:List (Str×List Int)
def wh0:WhS:=⟨[],false,-1⟩
def zwX:OffS:=⟨[],[]⟩
def ofO (o:OffS) (p:Str):WhS:=(alk p o.W).getD wh0
def isO (t:Str) (h:Bool) (x:Str×WhS):Bool:=x.2.team==t&&x.2.hurt==h
def zqB (o:OffS) (t:Str) (h:Bool):Nat:=(o.W.filter (isO t h)).length
def ziA (o:OffS) (t:Str):List Int:=(alk t o.A).getD []
def zka (n m:Int):Bool:=Int.tdiv m 604800000==Int.tdiv n 604800000
def zmU (o:OffS) (t:Str) (n:Int):Nat:=(ziA o t).countP (zka n)
def zsp (b:BoundS) (o:OffS) (p:Str) (n:Int):Bool:=if 0<=(ofO o p).dropped then decide (n-(ofO o p).dropped<b.Hold) else false
def zaD (b:BoundS) (o:OffS) (m:MoveS):Int:=
 if m.Kind=1 then
  if (ofO o m.Player).team=m.Team then 6 else if (ofO o m.Player).team≠[] then 13 else if zsp b o m.Player m.At=true then 11
  else if b.Adds<=(zmU o m.Team m.At:Int) then 16 else if b.Most<=(zqB o m.Team false:Int) then 12 else 0
 else if m.Kind=2 then if (ofO o m.Player).team≠m.Team then 8 else 0
 else if (ofO o m.Player).team≠m.Team\/(ofO o m.Player).hurt=decide (m.Kind=3) then 8
 else if (if m.Kind=3 then b.Hurt else b.Most)<=(zqB o m.Team (decide (m.Kind=3)):Int) then 12 else 0
def zgR (b:BoundS) (o:OffS) (m:MoveS):OffS:=
 if zaD b o m≠0 then o
 else if m.Kind=1 then ⟨zp m.Player ⟨m.Team,false,(ofO o m.Player).dropped⟩ o.W,zp m.Team (ziA o m.Team++[m.At]) o.A⟩
 else if m.Kind=2 then ⟨zp m.Player ⟨[],false,m.At⟩ o.W,o.A⟩
 else ⟨zp m.Player ⟨(ofO o m.Player).team,decide (m.Kind=3),(ofO o m.Player).dropped⟩ o.W,o.A⟩
def ziL (b:BoundS) (n:Int) (o:OffS):List MoveS->OffS
 |[]=>o
 |x::r=>ziL b n (if x.At<=n then zgR b o x else o) r
def oAt (b:BoundS) (l:List MoveS) (n:Int):OffS:=ziL b n zwX l
theorem zE6 {p q:Str} {v:WhS} {W:List (Str×WhS)} {A:List (Str×List Int)}:ofO ⟨zp p v W,A⟩ q=if q=p then v else (alk q W).getD wh0:=by
 unfold ofO;rw [za3];split<;>rfl
structure Rel (k:RosS) (o:OffS):Prop where
 tm: ∀p,(ofO o p).team=zch k p
 pl: ∀p t,t≠[]->(p∈rPl k t↔(ofO o p).team=t/\(ofO o p).hurt=false)
 hu: ∀p t,t≠[]->(p∈rHu k t↔(ofO o p).team=t/\(ofO o p).hurt=true)
 dr: ∀p,(ofO o p).dropped=(alk p k.D).getD (-1)
 ad: ∀t n,zcM k (t,Int.tdiv n 604800000)=(zmU o t n:Int)
 nd:ANodup o.W
 od:ANodup k.O
theorem rel0:Rel zrI zwX:=
 ⟨fun _=>rfl,fun p t ht=>⟨fun h=>(by cases h),fun h=>absurd h.1.symm ht⟩,fun p t ht=>⟨fun h=>(by cases h),fun h=>absurd h.1.symm ht⟩,fun _=>rfl,fun _ _=>rfl,Bb,Bb⟩
theorem zxe {k:RosS} {o:OffS} (h:Rel k o) {t:Str} (ht:t≠[]) (hb:Bool) {p:Str}:p∈(o.W.filter (isO t hb)).map (·.1)↔(ofO o p).team=t/\(ofO o p).hurt=hb:=by
 rw [B8]
 constructor
 rintro ⟨x,hx,rfl⟩;obtain ⟨h1,h2⟩:=List.mem_filter.1 hx;have h3:alk x.1 o.W=some x.2:=(zcX h.nd).1 h1;unfold ofO;rw [h3]
 simpa [isO] using h2
 rintro ⟨h1,h2⟩
 cases hq:alk p o.W with
 |none=>unfold ofO at h1;rw [hq] at h1;exact absurd h1.symm ht
 |some v=>
   unfold ofO at h1 h2;rw [hq] at h1 h2;exact ⟨(p,v),List.mem_filter.2 ⟨zbs hq,by simpa [isO] using ⟨h1,h2⟩⟩,rfl⟩
theorem zBv {k:RosS} {o:OffS} (h:Rel k o) (t:Str) (hb:Bool):((o.W.filter (isO t hb)).map (·.1)).Nodup:=
 List.Nodup.sublist (List.Sublist.map _ BL) h.nd
theorem zxf {n:Nat} {k:RosS} {o:OffS} (h:Rel k o) (hk:RosOk n k) {t:Str} (ht:t≠[]):((o.W.filter (isO t false)).map (·.1)).Perm (rPl k t):=
 (Bi (zBv h t false) (hk.sp t).1.nodup).2 fun p=>by rw [zxe h ht false,h.pl p t ht]
theorem zuX {n:Nat} {k:RosS} {o:OffS} (h:Rel k o) (hk:RosOk n k) {t:Str} (ht:t≠[]):((o.W.filter (isO t true)).map (·.1)).Perm (rHu k t):=
 (Bi (zBv h t true) (hk.sh t).1.nodup).2 fun p=>by rw [zxe h ht true,h.hu p t ht]
theorem zyx {n:Nat} {k:RosS} {o:OffS} (h:Rel k o) (hk:RosOk n k) {t:Str} (ht:t≠[]):zqB o t false=(rPl k t).length:=by
 have:=(zxf h hk ht).length_eq;rw [Af] at this;exact this
theorem zEY {n:Nat} {k:RosS} {o:OffS} (h:Rel k o) (hk:RosOk n k) {t:Str} (ht:t≠[]):zqB o t true=(rHu k t).length:=by
 have:=(zuX h hk ht).length_eq;rw [Af] at this;exact this
theorem zCZ {b:BoundS} {k:RosS} {o:OffS} (h:Rel k o) (hd: ∀q∈k.D,0<=q.2/\q.2<=345686399999) (p:Str) (n:Int):zsp b o p n=zsS b k p n:=by
 unfold zsp zsS;rw [h.dr p]
 cases hq:alk p k.D with
 |none=>rfl
 |some d=>
   have:=hd (p,d) (zbs hq);simp only [Br];rw [if_pos this.1]
theorem zFq {n:Nat} {b:BoundS} {k:RosS} {o:OffS} (h:Rel k o) (hk:RosOk n k) {x:MoveS} (hK:1<=x.Kind/\x.Kind<=4) (hT:x.Team≠[]):zaD b o x=0↔zdz b k x=0:=by
 unfold zaD zdz;rw [h.tm,zCZ h hk.dr,<-h.ad,zyx h hk hT]
 by_cases k1:x.Kind=1
 rw [if_pos k1,if_pos k1];rw [if_neg k1,if_neg k1]
 by_cases k2:x.Kind=2
 rw [if_pos k2,if_pos k2];rw [if_neg k2,if_neg k2]
 by_cases k3:x.Kind=3
 rw [if_pos k3,if_pos k3,show decide (x.Kind=3)=true by simp [k3],zEY h hk hT];have hc:((rPl k x.Team).contains x.Player=false)↔(zch k x.Player≠x.Team\/(ofO o x.Player).hurt=true):=by
  have h1:=h.pl x.Player x.Team hT;rw [h.tm] at h1;rw [<-Ca,Bd,h1]
  cases (ofO o x.Player).hurt<;>simp
 by_cases q:(rPl k x.Team).contains x.Player=false
 rw [if_pos q,if_pos (hc.1 q)];rw [if_neg q,if_neg (fun e=>q (hc.2 e))];have k4:x.Kind=4:=by omega
 rw [if_neg k3,if_neg k3,if_pos k4,show decide (x.Kind=3)=false by simp [k3],zyx h hk hT];have hc:((rHu k x.Team).contains x.Player=false)↔(zch k x.Player≠x.Team\/(ofO o x.Player).hurt=false):=by
  have h1:=h.hu x.Player x.Team hT;rw [h.tm] at h1;rw [<-Ca,Bd,h1]
  cases (ofO o x.Player).hurt<;>simp
 by_cases q:(rHu k x.Team).contains x.Player=false
 rw [if_pos q,if_pos (hc.1 q)];rw [if_neg q,if_neg (fun e=>q (hc.2 e))]
theorem zwr {α:Type} {x:Str}: ∀{l:List (Str×α)},ANodup l->ANodup (zcK x l)/\alk x (zcK x l)=none
 |[],_=>⟨Bb,rfl⟩
 |y::r,h=>by
   have h1:=List.nodup_cons.1 h
   by_cases e:x=y.1
   rw [zcK,if_pos e];exact ⟨h1.2,zdt.2 (by rw [e];exact h1.1)⟩;rw [zcK,if_neg e];obtain ⟨h2,h3⟩:=zwr (x:=x) (l:=r) h1.2;refine ⟨List.nodup_cons.2 ⟨fun hm=> ?_,h2⟩,?_⟩
   obtain ⟨z,hz,hze⟩:=List.mem_map.1 hm;exact h1.1 (List.mem_map.2 ⟨z,ztE hz,hze⟩);rw [alk,if_neg e];exact h3
theorem zC0 {k:RosS} {o:OffS} (h:Rel k o) (T:Str):Rel ⟨zp T (rPl k T) k.P,zp T (rHu k T) k.H,k.O,k.D,k.A⟩ o:=by
 refine ⟨h.tm,fun p t ht=> ?_,fun p t ht=> ?_,h.dr,h.ad,h.nd,h.od⟩
 rw [zjj]
 split
 rename_i e;subst e;exact h.pl p t ht
 exact h.pl p t ht;rw [zji]
 split
 rename_i e;subst e;exact h.hu p t ht
 exact h.hu p t ht
theorem zcy {p q:Str} {o:OffS} {v:WhS} {A:List (Str×List Int)}:ofO ⟨zp p v o.W,A⟩ q=if q=p then v else ofO o q:=zE6
theorem zFp {n:Nat} {b:BoundS} {k:RosS} {o:OffS} (h:Rel k o) (hk:RosOk n k) {x:MoveS} (hK:1<=x.Kind/\x.Kind<=4) (hT:x.Team≠[]):Rel (zh1 b k x) (zgR b o x):=by
 have hw:=zFq (b:=b) h hk hK hT;unfold zh1 zgR
 by_cases h0:zdz b k x≠0
 have hw1:zaD b o x≠0:=fun e=>h0 (hw.1 e)
 rw [if_pos h0,if_pos hw1];exact zC0 h x.Team;have hw1: ¬zaD b o x≠0:=fun e=>e (hw.2 (Decidable.not_not.1 h0))
 rw [if_neg h0,if_neg hw1];have h0:=Decidable.not_not.1 h0
 by_cases k1:x.Kind=1
 rw [if_pos k1,if_pos k1];rw [zdz,if_pos k1] at h0;have ho:zch k x.Player=[]:=by
  by_cases q:zch k x.Player=x.Team
  rw [if_pos q] at h0;omega;rw [if_neg q] at h0
  by_cases q2:zch k x.Player≠[]
  rw [if_pos q2] at h0;omega;exact Decidable.not_not.1 q2
 have hno: ∀t,t≠[]->(ofO o x.Player).team≠t:=fun t ht e=>by rw [h.tm,ho] at e;exact ht e.symm
 refine ⟨fun p=> ?_,fun p t ht=> ?_,fun p t ht=> ?_,fun p=> ?_,fun t m=> ?_,h.nd.put,h.od.put⟩
 rw [zcy];unfold zch;rw [za3]
 split
 rfl
 exact h.tm p;rw [zjj,zcy]
 by_cases e:t=x.Team
 rw [if_pos e,zd3]
 by_cases ep:p=x.Player
 rw [if_pos ep];simp [ep,e];rw [if_neg ep,e,h.pl p x.Team hT];simp [ep];rw [if_neg e]
 by_cases ep:p=x.Player
 rw [if_pos ep,ep];refine ⟨fun q=>absurd ((h.pl x.Player t ht).1 q).1 (hno t ht),fun q=>absurd q.1.symm e⟩
 rw [if_neg ep];exact h.pl p t ht;rw [zji,zcy]
 by_cases ep:p=x.Player
 rw [if_pos ep,ep];refine ⟨fun q=> ?_,fun q=>by cases q.2⟩
 by_cases e:t=x.Team
 rw [if_pos e] at q;exact absurd ((h.hu x.Player x.Team hT).1 q).1 (hno _ hT);rw [if_neg e] at q;exact absurd ((h.hu x.Player t ht).1 q).1 (hno t ht);rw [if_neg ep]
 by_cases e:t=x.Team
 rw [if_pos e,e];exact h.hu p x.Team hT;rw [if_neg e];exact h.hu p t ht;rw [zcy]
 split
 rename_i e;rw [e];exact h.dr x.Player
 exact h.dr p;have h1:=h.ad t m;unfold zcM at h1⊢;unfold zmU ziA at h1⊢;rw [za3,za3]
 by_cases e:t=x.Team
 subst e;rw [if_pos rfl];simp only [Br];rw [List.countP_append];have h2:=h.ad x.Team x.At;unfold zcM zmU ziA at h2
 by_cases em:Int.tdiv m 604800000=Int.tdiv x.At 604800000
 rw [if_pos (by rw [em])];simp only [Br];have hcw:zka m=zka x.At:=by funext z;unfold zka;rw [em]
 rw [hcw];have:List.countP (zka x.At) [x.At]=1:=by simp [zka]
 rw [this];omega;rw [if_neg (fun q=>em (congrArg Prod.snd q))];have:List.countP (zka m) [x.At]=0:=by simp [zka];exact fun q=>em q.symm
 rw [this];omega;rw [if_neg (fun q=>e (congrArg Prod.fst q)),if_neg e];exact h1;rw [if_neg k1,if_neg k1];rw [zdz,if_neg k1] at h0
 by_cases k2:x.Kind=2
 rw [if_pos k2,if_pos k2];rw [if_pos k2] at h0;have ho:zch k x.Player=x.Team:=by
  by_cases q:zch k x.Player≠x.Team
  rw [if_pos q] at h0;omega;exact Decidable.not_not.1 q
 have hat: ∀t,(ofO o x.Player).team=t->t=x.Team:=fun t e=>by rw [h.tm,ho] at e;exact e.symm
 obtain ⟨hd1,hd2⟩:=zwr (x:=x.Player) h.od;refine ⟨fun p=> ?_,fun p t ht=> ?_,fun p t ht=> ?_,fun p=> ?_,h.ad,h.nd.put,hd1⟩
 rw [zcy];unfold zch
 by_cases ep:p=x.Player
 rw [if_pos ep,ep,hd2];rfl;rw [if_neg ep,zti ep];exact h.tm p;rw [zjj,zcy]
 by_cases ep:p=x.Player
 rw [if_pos ep,ep];refine ⟨fun q=> ?_,fun q=>absurd q.1.symm ht⟩
 by_cases e:t=x.Team
 rw [if_pos e] at q;exact absurd rfl (zbR.1 q).2;rw [if_neg e] at q;exact absurd (hat t ((h.pl x.Player t ht).1 q).1) e;rw [if_neg ep]
 by_cases e:t=x.Team
 rw [if_pos e,e,zbR,h.pl p x.Team hT];simp [ep];rw [if_neg e];exact h.pl p t ht;rw [zji,zcy]
 by_cases ep:p=x.Player
 rw [if_pos ep,ep];refine ⟨fun q=> ?_,fun q=>absurd q.1.symm ht⟩
 by_cases e:t=x.Team
 rw [if_pos e] at q;exact absurd rfl (zbR.1 q).2;rw [if_neg e] at q;exact absurd (hat t ((h.hu x.Player t ht).1 q).1) e;rw [if_neg ep]
 by_cases e:t=x.Team
 rw [if_pos e,e,zbR,h.hu p x.Team hT];simp [ep];rw [if_neg e];exact h.hu p t ht;rw [zcy,za3]
 split
 rfl
 exact h.dr p;rw [if_neg k2,if_neg k2];rw [if_neg k2] at h0
 by_cases k3:x.Kind=3
 rw [if_pos k3,show decide (x.Kind=3)=true by simp [k3]];rw [if_pos k3] at h0;have hc:x.Player∈rPl k x.Team:=by
  by_cases q:(rPl k x.Team).contains x.Player=false
  rw [if_pos q] at h0;omega
  simpa using q
 have ho:=((h.pl x.Player x.Team hT).1 hc).1;refine ⟨fun p=> ?_,fun p t ht=> ?_,fun p t ht=> ?_,fun p=> ?_,h.ad,h.nd.put,h.od⟩
 rw [zcy]
 split
 rename_i e;rw [e];exact h.tm x.Player
 exact h.tm p;rw [zjj,zcy]
 by_cases ep:p=x.Player
 rw [if_pos ep,ep];refine ⟨fun q=> ?_,fun q=>by cases q.2⟩
 by_cases e:t=x.Team
 rw [if_pos e] at q;exact absurd rfl (zbR.1 q).2;rw [if_neg e] at q;exact absurd (((h.pl x.Player t ht).1 q).1.symm.trans ho) e;rw [if_neg ep]
 by_cases e:t=x.Team
 rw [if_pos e,e,zbR,h.pl p x.Team hT];simp [ep];rw [if_neg e];exact h.pl p t ht;rw [zji,zcy]
 by_cases ep:p=x.Player
 rw [if_pos ep,ep]
 by_cases e:t=x.Team
 rw [if_pos e,zd3];simp [ho,e];rw [if_neg e];refine ⟨fun q=>absurd (((h.hu x.Player t ht).1 q).1.symm.trans ho) e,fun q=>absurd (q.1.symm.trans ho) e⟩
 rw [if_neg ep]
 by_cases e:t=x.Team
 rw [if_pos e,e,zd3,h.hu p x.Team hT];simp [ep];rw [if_neg e];exact h.hu p t ht;rw [zcy]
 split
 rename_i e;rw [e];exact h.dr x.Player
 exact h.dr p;rw [if_neg k3,show decide (x.Kind=3)=false by simp [k3]];rw [if_neg k3,if_pos (by omega)] at h0;have hc:x.Player∈rHu k x.Team:=by
  by_cases q:(rHu k x.Team).contains x.Player=false
  rw [if_pos q] at h0;omega
  simpa using q
 have ho:=((h.hu x.Player x.Team hT).1 hc).1;refine ⟨fun p=> ?_,fun p t ht=> ?_,fun p t ht=> ?_,fun p=> ?_,h.ad,h.nd.put,h.od⟩
 rw [zcy]
 split
 rename_i e;rw [e];exact h.tm x.Player
 exact h.tm p;rw [zjj,zcy]
 by_cases ep:p=x.Player
 rw [if_pos ep,ep]
 by_cases e:t=x.Team
 rw [if_pos e,zd3];simp [ho,e];rw [if_neg e];refine ⟨fun q=>absurd (((h.pl x.Player t ht).1 q).1.symm.trans ho) e,fun q=>absurd (q.1.symm.trans ho) e⟩
 rw [if_neg ep]
 by_cases e:t=x.Team
 rw [if_pos e,e,zd3,h.pl p x.Team hT];simp [ep];rw [if_neg e];exact h.pl p t ht;rw [zji,zcy]
 by_cases ep:p=x.Player
 rw [if_pos ep,ep];refine ⟨fun q=> ?_,fun q=>by cases q.2⟩
 by_cases e:t=x.Team
 rw [if_pos e] at q;exact absurd rfl (zbR.1 q).2;rw [if_neg e] at q;exact absurd (((h.hu x.Player t ht).1 q).1.symm.trans ho) e;rw [if_neg ep]
 by_cases e:t=x.Team
 rw [if_pos e,e,zbR,h.hu p x.Team hT];simp [ep];rw [if_neg e];exact h.hu p t ht;rw [zcy]
 split
 rename_i e;rw [e];exact h.dr x.Player
 exact h.dr p
theorem zt6 {b:BoundS} {m:Int}: ∀{l:List MoveS} {n:Nat} {k:RosS} {o:OffS},Rel k o->RosOk n k->(∀x∈l,(0<=x.At/\x.At<=345686399999)/\(1<=x.Kind/\x.Kind<=4)/\x.Team≠[])->Rel (zh0 b m k l) (ziL b m o l)
 |[],_,_,_,h,_,_=>h
 |x::r,n,k,o,h,hk,hl=>by
   obtain ⟨h1,h2,h3⟩:=hl x Ai;unfold zh0 ziL;have hl':=fun y hy=>hl y (Al x hy)
   by_cases e:x.At<=m
   rw [if_pos e,if_pos e];exact zt6 (zFp h hk h2 h3) (zyH hk h1 h2 h3) hl';rw [if_neg e,if_neg e];exact zt6 h hk hl'
theorem zp3 {b:BoundS} {n:Int} {x:MoveS}: ∀{l:List MoveS} {i:Nat} {k:OffS},l[i]? =some x->ziL b n k (l.take (i+1))=if x.At<=n then zgR b (ziL b n k (l.take i)) x else ziL b n k (l.take i)
 |[],i,k,h=>by cases i<;>cases h
 |y::r,0,k,h=>by
   obtain rfl:=As h
   rfl
 |y::r,i+1,k,h=>by
   show ziL b n _ (r.take (i+1))=if x.At<=n then zgR b (ziL b n _ (r.take i)) x else ziL b n _ (r.take i)
   exact zp3 (l:=r) h
end
section
open Go
abbrev eWh (x:WhS):HVal:= .agg [.str x.team,.bool x.hurt,.int .i64 x.dropped]
def whZ:WhS:=⟨[],false,0⟩
def zpx (G:Grp Int):List (Str×List Int):=G.map fun p=>(p.1,p.2.2)
abbrev zbB (W:List (Str×WhS)) (G:Grp Int):OffS:=⟨W,zpx G⟩
theorem zx5 {s:Str}: ∀{G:Grp Int},alk s (zpx G)=(alk s G).map (·.2)
 |[]=>rfl
 |p::r=>by
   have ih:=zx5 (s:=s) (G:=r);unfold zpx at ih⊢;simp only [Ao,alk]
   by_cases h:s=p.1
   rw [if_pos h,if_pos h];rfl;rw [if_neg h,if_neg h];exact ih
theorem zmV {W:List (Str×WhS)} {G:Grp Int} {t:Str}:ziA (zbB W G) t=gL t G:=by
 unfold ziA gL;rw [show (zbB W G).A=zpx G from rfl,zx5]
 cases alk t G<;>rfl
theorem zyb {s:Str} {v:Value} {l:List Int}: ∀{G:Grp Int},zpx (zp s (v,l) G)=zp s l (zpx G)
 |[]=>rfl
 |p::r=>by
   have ih:=zyb (s:=s) (v:=v) (l:=l) (G:=r);unfold zpx at ih⊢;simp only [Ao,zp]
   by_cases h:s=p.1
   rw [if_pos h,if_pos h];rfl;rw [if_neg h,if_neg h,Ao,ih]
theorem zBn {W:List (Str×WhS)} {A:List (Str×List Int)} {p:Str} (h:(alk p W).isSome=true):ofO ⟨W,A⟩ p=(alk p W).getD whZ:=by
 show (alk p W).getD wh0=_
 cases hq:alk p W with
 |none=>rw [hq] at h;cases h
 |some v=>rfl
theorem zD8 {W:List (Str×WhS)} {A:List (Str×List Int)} {p:Str} (h:(alk p W).isSome=false):ofO ⟨W,A⟩ p=wh0:=by
 show (alk p W).getD wh0=_
 cases hq:alk p W with
 |none=>rfl
 |some v=>rw [hq] at h;cases h
abbrev zy4 (b:BoundS) (pb ab:Nat):List HVal:=[.int .i64 b.Most,.int .i64 b.Hurt,.int .i64 b.Adds,.int .i64 b.Hold,.raw (.map (some pb)),.raw (.map (some ab))]
abbrev zwY (ob pb ab:Nat) (b:BoundS) (W:List (Str×WhS)) (G:Grp Int):List MObj:=[.cells ob (zy4 b pb ab),.map pb (sk (em eWh W)),.map ab (sk (em fG G))]
abbrev zcs (ob pb ab:Nat) (b:BoundS) (W:List (Str×WhS)) (G:Grp Int):List MObj:=zwY ob pb ab b W G++grp 1 (HVal.int .i64) G
def zoj (t:Str) (h:Bool) (E:List (Str×WhS)):Nat:=(E.filter (isO t h)).length
theorem zE2 {t:Str} {h:Bool} {E:List (Str×WhS)} {q:Str×WhS} (hq:isO t h q=true):zoj t h (E++[q])=zoj t h E+1:=by
 unfold zoj;rw [AX,List.filter_cons_of_pos hq];simp
theorem zGa {t:Str} {h:Bool} {E:List (Str×WhS)} {q:Str×WhS} (hq:isO t h q=false):zoj t h (E++[q])=zoj t h E:=by
 unfold zoj;rw [AX,List.filter_cons_of_neg (by rw [hq];simp)];simp
theorem zF9 (t:Str) (h:Bool) (E:List (Str×WhS)):zoj t h E<=E.length:=AK _ _
theorem zCC {t:Str} {h:Bool} {E W:List (Str×WhS)} {A:List (Str×List Int)} (hp:E.Perm W):zoj t h E=zqB ⟨W,A⟩ t h:=(hp.filter _).length_eq
structure OffW (n:Nat) (o:OffS):Prop where
 dr: ∀p,-1<=(ofO o p).dropped/\(ofO o p).dropped<=345686399999
 al: ∀t,(ziA o t).length<=n
 ab: ∀t,∀m∈ziA o t,0<=m/\m<=345686399999
 wl:o.W.length<=n
 nd:ANodup o.W
 ad:ANodup o.A
theorem zBo:OffW 0 zwX:=⟨fun _=>⟨Int.le_refl _,show (-1:Int)<=345686399999 by decide⟩,fun _=>Ae _,fun _ m h=>(by cases h),Ae _,Bb,Bb⟩
theorem OffW.mono {n m:Nat} {o:OffS} (h:OffW n o) (hm:n<=m):OffW m o:=⟨h.dr,fun t=>An (h.al t) hm,h.ab,An h.wl hm,h.nd,h.ad⟩
theorem zoq {α:Type} {x:Str} {v:α} (l:List (Str×α)):(zp x v l).length<=l.length+1:=by rw [zrh];split<;>omega
theorem zv4 {T t:Str} {l:List Int} {W:List (Str×WhS)} {A:List (Str×List Int)}:ziA ⟨W,zp T l A⟩ t=if t=T then l else (alk t A).getD []:=by
 unfold ziA;rw [za3];split<;>rfl
theorem zGf {n:Nat} {b:BoundS} {o:OffS} {x:MoveS} (h:OffW n o) (ha:0<=x.At/\x.At<=345686399999):OffW (n+1) (zgR b o x):=by
 unfold zgR
 split
 exact h.mono (Bt n)
 split
 refine ⟨fun p=> ?_,fun t=> ?_,fun t m hm=> ?_,An (zoq _) (by have:=h.wl;omega),h.nd.put,h.ad.put⟩
 rw [zcy]
 split
 exact h.dr x.Player;exact h.dr p;rw [zv4]
 split
 rw [Ax];have:=h.al x.Team;simp;omega;have:=h.al t;unfold ziA at this;omega;rw [zv4] at hm
 split at hm
 rcases List.mem_append.1 hm with q|q
 exact h.ab x.Team m q;rw [List.mem_singleton.1 q];exact ha;exact h.ab t m hm
 split
 refine ⟨fun p=> ?_,fun t=>An (h.al t) (Bt n),h.ab,An (zoq _) (by have:=h.wl;omega),h.nd.put,h.ad⟩
 rw [zcy]
 split
 dsimp only;omega
 exact h.dr p;refine ⟨fun p=> ?_,fun t=>An (h.al t) (Bt n),h.ab,An (zoq _) (by have:=h.wl;omega),h.nd.put,h.ad⟩
 rw [zcy]
 split
 exact h.dr x.Player;exact h.dr p
theorem zwW {b:BoundS} {m:Int}: ∀{l:List MoveS} {n:Nat} {o:OffS},OffW n o->(∀x∈l,(0<=x.At/\x.At<=345686399999)/\(1<=x.Kind/\x.Kind<=4)/\x.Team≠[])->OffW (n+l.length) (ziL b m o l)
 |[],_,_,h,_=>h
 |x::r,n,o,h,hl=>by
   unfold ziL;have h1:OffW (n+1) (if x.At<=m then zgR b o x else o):=by
    split
    exact zGf h (hl x Ai).1;exact h.mono (Bt n)
   have:=zwW (b:=b) (m:=m) h1 (l:=r) fun y hy=>hl y (Al _ hy)
   rw [Ah,show n+(r.length+1)=n+1+r.length by omega];exact this
theorem zGh {b:BoundS} {l:List MoveS} {n:Int} (hl: ∀x∈l,(0<=x.At/\x.At<=345686399999)/\(1<=x.Kind/\x.Kind<=4)/\x.Team≠[]) (hn:l.length<=2000) (i:Nat):OffW 2000 (ziL b n zwX (l.take i)):=
 (zwW (b:=b) (m:=n) zBo (l:=l.take i) fun x hx=>hl x (AS hx)).mono (by rw [Az];omega)
section
variable {e:Env} {β:Type} {eb:β->HVal}
theorem ztf [Tracks] {A:List MObj} {G:Grp β} {s:Str} {sz:Nat} (hn:ANodup G):Ghost e (.arr (gV s G) sz ((gL s G).map eb)::(A++grp sz eb (G.filter fun q=>decide (q.1≠s)))) e (A++grp sz eb G):=by
 cases h:alk s G with
 |none=>rw [zc2 h];exact Ghost.drop
 |some v=>
   refine Ghost.perm ?_;have h1:(grp sz eb G).Perm (.arr v.1 sz (v.2.map eb)::grp sz eb (G.filter fun q=>decide (q.1≠s))):=(zel hn h).map _;have h2:gV s G=v.1:=by unfold gV;rw [h];rfl
   have h3:gL s G=v.2:=by unfold gL;rw [h];rfl
   rw [h2,h3];exact (List.perm_middle.symm.trans (List.Perm.append_left A h1.symm))
end
theorem zwk {l:List Int} {k:Nat} {x:Int} {p:Int->Bool} (hx:l[k]? =some x):(l.take (k+1)).countP p=(l.take k).countP p+(if p x=true then 1 else 0):=by
 rw [zW hx,List.countP_append]
 congr 1
 by_cases h:p x=true
 rw [if_pos h];simp [h];rw [if_neg h];simp [h]
end
section
open Go
theorem zAv {a b:Str} (h:Op.bytesLess a b=true):SLt a b:=by
 rw [zrl,decide_eq_true_iff] at h;exact ⟨List.le_of_lt h,fun e=>by rw [e] at h;exact List.lt_irrefl _ h⟩
theorem zyP {l m:List Str} (hm:SortedS m) (hp:l.Perm m):zaB l=m:=
 zoz (ziT (hp.nodup_iff.2 hm.nodup)) (hm.imp fun {a b} h=>zAv h) fun x=>by rw [zaB,(A2 _ _).mem_iff,hp.mem_iff]
def plE (t:Str) (h:Bool) (E:List (Str×WhS)):List Str:=(E.filter (isO t h)).map (·.1)
theorem zyB {t:Str} {h:Bool} {E:List (Str×WhS)} {q:Str×WhS} (hq:isO t h q=true):plE t h (E++[q])=plE t h E++[q.1]:=by
 unfold plE;rw [AX,List.filter_cons_of_pos hq];simp
theorem zsN {t:Str} {h:Bool} {E:List (Str×WhS)} {q:Str×WhS} (hq:isO t h q=false):plE t h (E++[q])=plE t h E:=by
 unfold plE;rw [AX,List.filter_cons_of_neg (by rw [hq];simp)];simp
theorem ziu (t:Str) (h:Bool) (E:List (Str×WhS)):(plE t h E).length<=E.length:=by
 unfold plE;rw [Af];exact AK _ _
theorem zFw {n:Nat} {k:RosS} {o:OffS} (h:Rel k o) (hk:RosOk n k) {t:Str} (ht:t≠[]) {E:List (Str×WhS)} (hE:E.Perm o.W):zaB (plE t false E)=rPl k t:=
 zyP (hk.sp t).1 (((hE.filter _).map _).trans (zxf h hk ht))
theorem zFv {n:Nat} {k:RosS} {o:OffS} (h:Rel k o) (hk:RosOk n k) {t:Str} (ht:t≠[]) {E:List (Str×WhS)} (hE:E.Perm o.W):zaB (plE t true E)=rHu k t:=
 zyP (hk.sh t).1 (((hE.filter _).map _).trans (zuX h hk ht))
theorem zyy {l:List MoveS} (hm:zfg l=0):l.length<=2000/\∀x∈l,(0<=x.At/\x.At<=345686399999)/\(1<=x.Kind/\x.Kind<=4)/\x.Team≠[]:=by
 obtain ⟨hl,hml⟩:=zwU hm;exact ⟨hl,fun x hx=>⟨(hml x hx).1,(hml x hx).2.1,fun e=>by have:=(hml x hx).2.2.1;rw [e] at this;cases this⟩⟩
theorem zGl {b:BoundS} {l:List MoveS} {n:Int} (hm:zfg l=0):Rel (zdY b l n) (oAt b l n)/\RosOk 2000 (zdY b l n)/\OffW 2000 (oAt b l n):=by
 obtain ⟨hl,hml⟩:=zyy hm;refine ⟨zt6 rel0 zt7 hml,(zt1 (b:=b) (m:=n) zt7 hml).mono (by omega),(zwW (b:=b) (m:=n) zBo hml).mono (by omega)⟩
theorem zdh {b:BoundS} {o:OffS} {x:MoveS} (h:zaD b o x≠0):o=zgR b o x:=by unfold zgR;rw [if_pos h]
theorem zdg {b:BoundS} {W:List (Str×WhS)} {G:Grp Int} {x:MoveS} {v:Value} (h:zaD b (zbB W G) x=0) (hk:x.Kind=1):
 zbB (zp x.Player ⟨x.Team,false,(ofO (zbB W G) x.Player).dropped⟩ W) (zp x.Team (v,gL x.Team G++[x.At]) G)=zgR b (zbB W G) x:=by
 unfold zgR;rw [if_neg (fun q=>q h),if_pos hk,zmV]
 show (⟨_,zpx _⟩:OffS)=_
 rw [zyb]
theorem zcI {b:BoundS} {W:List (Str×WhS)} {G:Grp Int} {x:MoveS} (h:zaD b (zbB W G) x=0) (hk:x.Kind=2):zbB (zp x.Player ⟨[],false,x.At⟩ W) G=zgR b (zbB W G) x:=by
 unfold zgR;rw [if_neg (fun q=>q h),if_neg (by omega),if_pos hk]
theorem zcJ {b:BoundS} {W:List (Str×WhS)} {G:Grp Int} {x:MoveS} (h:zaD b (zbB W G) x=0) (h1: ¬x.Kind=1) (h2: ¬x.Kind=2):
 zbB (zp x.Player ⟨(ofO (zbB W G) x.Player).team,x.Kind==3,(ofO (zbB W G) x.Player).dropped⟩ W) G=zgR b (zbB W G) x:=by
 unfold zgR;rw [if_neg (fun q=>q h),if_neg h1,if_neg h2];rfl
end
section
open Go
end
section
open Go
def zfQ {α:Type} (q:α->Bool) (o:Option α):List α->Option α
 |[]=>o
 |x::r=>zfQ q (if q x=true then some x else o) r
theorem zpV {α:Type} {q:α->Bool}: ∀{l:List α} {o:Option α},(∀(j:Nat) (x:α),l[j]? =some x->q x=false)->zfQ q o l=o
 |[],_,_=>rfl
 |x::r,o,h=>by
   rw [zfQ,if_neg (by rw [h 0 x rfl];simp)];exact zpV fun j y hy=>h (j+1) y hy
theorem zys {α:Type} {q:α->Bool} {x:α} (hq:q x=true): ∀{l:List α} {k:Nat} {o:Option α},l[k]? =some x->(∀(j:Nat) (y:α),k<j->l[j]? =some y->q y=false)->zfQ q o l=some x
 |[],k,_,hx,_=>by cases k<;>cases hx
 |y::r,0,o,hx,h=>by
   obtain rfl:=As hx;rw [zfQ,if_pos hq];exact zpV fun j z hz=>h (j+1) z (Nat.succ_pos j) hz
 |y::r,k+1,o,hx,h=>by
   rw [zfQ];exact zys hq (l:=r) (k:=k) hx fun j z hj hz=>h (j+1) z (Nat.succ_lt_succ hj) hz
theorem zsx {α:Type} {q q':α->Bool}: ∀{l:List α} {o:Option α},(∀x∈l,q x=q' x)->zfQ q o l=zfQ q' o l
 |[],_,_=>rfl
 |x::r,o,h=>by
   rw [zfQ,zfQ,h x Ai];exact zsx fun y hy=>h y (Al _ hy)
theorem zwi (t:Str) (w n b:Int): ∀(l:List ChoiceS) (o:Option ChoiceS),zlZ t w n b o l=zfQ (zqy t w n b) o l
 |[],_=>rfl
 |x::r,o=>by rw [zlZ,zfQ];exact zwi t w n b r _
def chQ (t:Str) (w:Int) (p:Int->Bool) (x:ChoiceS):Bool:=(x.Team==t&&x.Week==w)&&p x.At
theorem zBM [Tracks]:Weak (.agg [.str [],.int .i64 0,.int .i64 0,.raw (.slice none 0 0),.str []]) (zX zdU):=
 zrQ rfl fun j h h' x y=>by
  match j,x,y with
  |0,x,y=>simp at x y;subst x y;exact Weak.refl _
  |1,x,y=>simp at x y;subst x y;exact Weak.refl _
  |2,x,y=>simp at x y;subst x y;exact Weak.refl _
  |3,x,y=>simp at x y;subst x y;exact zD 1
  |4,x,y=>simp at x y;subst x y;exact Weak.refl _
end
section
open Go
section
variable {b:BookS} {own:List Str} {s:Str} {x:SlotS} {w:Int} {p:PlayerS}
variable {c:ChoiceS} {i:Nat} {v:Str}
end
end
section
open Go Op
structure ScorerS where
 Player:Str
 Positions:List Str
 Num:Int
 Den:Int
 Played:Bool
structure FillS where
 Slot:Str
 Player:Str
abbrev zbm (x:ScorerS):HVal:= .agg [.str x.Player,eSs x.Positions,.int .i64 x.Num,.int .i64 x.Den,.bool x.Played]
abbrev zcV (l:List ScorerS):HVal:= .slice 5 (l.map zbm)
abbrev zaw (x:FillS):HVal:= .agg [.str x.Slot,.str x.Player]
abbrev zf6 (l:List FillS):HVal:= .slice 2 (l.map zaw)
def zbH:ScorerS:=⟨[],[],0,0,false⟩
def zew (n d:Int):Int:=n*(100:Int).tdiv d
abbrev ofH (n:Int):FracS:=zpW n 100
theorem zE5 (n:Int): ∃g,1<=g/\n=(ofH n).Num*g/\100=(ofH n).Den*g/\1<=(ofH n).Den/\(100:Int).tdiv (ofH n).Den=g:=by
 obtain ⟨g,hg,e1,e2,h0⟩:=zCx (w:=n) (T:=100) (by decide);refine ⟨g,hg,e1,e2,h0,?_⟩
 conv=>lhs;rw [e2]
 exact Int.mul_tdiv_cancel_left g (by omega)
theorem zEl {a g B:Int} (hg:1<=g) (h: -B<=a*g/\a*g<=B): -B<=a/\a<=B:=by
 by_cases c:0<=a
 have:=Bp hg c
 omega
 have:=Bp hg (show 0<= -a by omega);rw [Bx,Bx] at this
 omega
theorem zGg {n B:Int} (h: -B<=n/\n<=B):(1<=(ofH n).Den/\(ofH n).Den<=100)/\ -B<=(ofH n).Num/\(ofH n).Num<=B:=by
 obtain ⟨g,hg,e1,e2,h0,_⟩:=zE5 n;have h2:=zEl (a:=(ofH n).Num) hg (B:=B) (by rw [<-e1];exact h);have h3:=Bp hg (show 0<=(ofH n).Den by omega);exact ⟨⟨h0,by omega⟩,h2⟩
theorem zqo {n d m:Int} (h:za2 n d m=0) (hm:0<=m):(1<=d/\d<=100)/\(0<=(100:Int).tdiv d/\(100:Int).tdiv d<=100)/\ -(m*100)<=zew n d/\zew n d<=m*100:=by
 unfold za2 at h
 split at h
 cases h
 rename_i h1
 rw [not_or] at h1
 split at h
 cases h
 rename_i h2
 rw [not_or] at h2;have hd:1<=d:=by omega
 have h3:(100:Int).tmod d=0:=Decidable.not_not.1 h2.1;have h4:out n (-m*d) (m*d)=false:=by simpa using h2.2
 have h5: -m*d<=n/\n<=m*d:=by
  have e0: -m*d= -(m*d):=Bx _ _;rw [e0] at h4⊢;unfold out at h4;simp at h4;omega
 have e:=Int.tdiv_mul_cancel_of_tmod_eq_zero h3;have hq:0<=(100:Int).tdiv d:=Cg (by decide) (by omega);have hq1:1<=(100:Int).tdiv d:=by
  refine Decidable.not_not.1 fun hn=> ?_
  have:(100:Int).tdiv d=0:=by omega
  rw [this] at e;simp at e
 have hq2:=Bp hd hq;have hd2:=B2 hq1 (show 0<=d by omega);have h6:=B2 h5.1 hq;have h7:=B2 h5.2 hq;have e2:m*d*(100:Int).tdiv d=m*100:=by rw [Int.mul_assoc,Int.mul_comm d,e]
 have e3: -m*d*(100:Int).tdiv d= -(m*100):=by rw [Bx,Bx,e2]
 rw [e2] at h7;rw [e3] at h6;refine ⟨⟨hd,by omega⟩,⟨hq,by omega⟩,?_⟩
 unfold zew;exact ⟨h6,h7⟩
/-! what rules give-/
def zb3 (s:Str) (n:Int):List StatS->Int
 |[]=>n
 |y::r=>zb3 s (if y.Name=s then y.Count else n) r
def zgp (r:RuleS) (pos:List Str) (x:LineS):Int:=
 if r.Position≠[]/\zhy [r.Position] pos=false then 0
 else if r.Kind=1 then zew r.Num r.Den*zb3 r.Stat 0 x.Stats
 else if r.Kind=2 then zew r.Num r.Den*(max (zb3 r.Stat 0 x.Stats) 0).tdiv r.Many
 else if (r.Kind=3/\r.Many<=zb3 r.Stat 0 x.Stats)\/(r.Kind=4/\zb3 r.Stat 0 x.Stats=0) then zew r.Num r.Den else 0
def zeG (R:List RuleS) (pos:List Str) (x:LineS):Int:=(R.map fun r=>zgp r pos x).sum
structure RuleOk (r:RuleS):Prop where
 kd:1<=r.Kind/\r.Kind<=4
 mm:r.Kind=2->1<=r.Many/\r.Many<=100000
 dn:1<=r.Den/\r.Den<=100
 q:0<=(100:Int).tdiv r.Den/\(100:Int).tdiv r.Den<=100
 w: -1000000<=zew r.Num r.Den/\zew r.Num r.Den<=1000000
theorem zxj {R:List RuleS} (h:zhs R=0):R.length<=100/\∀r∈R,RuleOk r:=by
 obtain ⟨h1,h2⟩:=zhf h;refine ⟨h1,fun r hr=> ?_⟩
 obtain ⟨i,hi,rfl⟩:=AR hr;have h3:=h2 i _ (Aa hi);unfold zeI at h3
 split at h3
 cases h3
 split at h3
 cases h3
 split at h3
 cases h3
 rename_i h4
 split at h3
 cases h3
 rename_i h5
 rw [not_or] at h5;have h6:=zqo h3 (by decide);have h7:1<=R[i].Kind/\R[i].Kind<=4:=by unfold out at h4;simp at h4;omega
 refine ⟨h7,fun e=> ?_,h6.1,h6.2.1,h6.2.2⟩
 have h8:zsB R[i].Kind=true:=by rw [e];rfl
 have h9:out R[i].Many 1 100000=false:=by
  cases hq:out R[i].Many 1 100000 with
  |false=>rfl
  |true=>exact absurd ⟨h8,hq⟩ h5.1
 unfold out at h9;simp at h9;omega
theorem zya (s:Str): ∀(l:List StatS) (n:Int),(∀y∈l,-100000<=y.Count/\y.Count<=100000)->(-100000<=n/\n<=100000)-> -100000<=zb3 s n l/\zb3 s n l<=100000
 |[],n,_,h=>h
 |y::r,n,hl,h=>by
   refine zya s r _ (fun z hz=>hl z (Al _ hz)) ?_
   split
   exact hl y Ai;exact h
theorem zuk {s:Str} {l:List StatS} {k:Nat} {n:Int} {y:StatS} (h:l[k]? =some y):zb3 s n (l.drop k)=zb3 s (if y.Name=s then y.Count else n) (l.drop (k+1)):=by
 rw [zi h];rfl
theorem ztR {a b A B:Int} (ha: -A<=a/\a<=A) (hb: -B<=b/\b<=B) (hA:0<=A) (hB:0<=B): -(A*B)<=a*b/\a*b<=A*B:=by
 have key: ∀x y:Int,0<=x->x<=A->0<=y->y<=B->0<=x*y/\x*y<=A*B:=fun x y h1 h2 h3 h4=>⟨Int.mul_nonneg h1 h3,Int.mul_le_mul h2 h4 h3 hA⟩
 by_cases c:0<=a<;>by_cases d:0<=b
 have:=key a b c ha.2 d hb.2;omega;have:=key a (-b) c ha.2 (by omega) (by omega);rw [Int.mul_neg] at this;omega;have:=key (-a) b (by omega) (by omega) d hb.2;rw [Bx] at this;omega;have:=key (-a) (-b) (by omega) (by omega) (by omega) (by omega);rw [Int.neg_mul_neg] at this;omega
theorem zFD {a b:Int} (ha:0<=a) (hb:1<=b):0<=a.tdiv b/\a.tdiv b<=a:=by
 refine ⟨Cg ha (by omega),?_⟩
 have h:=Cg ha (show 0<=b by omega);have h1:=Bp hb h;have h2:=Int.mul_tdiv_add_tmod a b;have h3:=CF b ha;rw [Int.mul_comm b] at h2
 omega
def zjq (x:LineS):Prop:= ∀y∈x.Stats,-100000<=y.Count/\y.Count<=100000
theorem zpJ {r:RuleS} (hr:RuleOk r) {x:LineS} (hx:zjq x):(-100000<=zb3 r.Stat 0 x.Stats/\zb3 r.Stat 0 x.Stats<=100000)/\(-100000000000<=zew r.Num r.Den*zb3 r.Stat 0 x.Stats/\zew r.Num r.Den*zb3 r.Stat 0 x.Stats<=100000000000)/\
 (r.Kind=2->(0<=(max (zb3 r.Stat 0 x.Stats) 0).tdiv r.Many/\(max (zb3 r.Stat 0 x.Stats) 0).tdiv r.Many<=100000)/\ -100000000000<=zew r.Num r.Den*(max (zb3 r.Stat 0 x.Stats) 0).tdiv r.Many/\zew r.Num r.Den*(max (zb3 r.Stat 0 x.Stats) 0).tdiv r.Many<=100000000000):=by
 have h1:=zya r.Stat x.Stats 0 hx (by omega);have h2:=ztR hr.w h1 (by decide) (by decide);refine ⟨h1,by omega,fun e=> ?_⟩
 have h3:=zFD (a:=max (zb3 r.Stat 0 x.Stats) 0) (by omega) (hr.mm e).1;have h4:0<=(max (zb3 r.Stat 0 x.Stats) 0).tdiv r.Many/\(max (zb3 r.Stat 0 x.Stats) 0).tdiv r.Many<=100000:=by omega
 have h5:=ztR hr.w (b:=(max (zb3 r.Stat 0 x.Stats) 0).tdiv r.Many) (B:=100000) (by omega) (by decide) (by decide);exact ⟨h4,by omega⟩
theorem zFV {r:RuleS} (hr:RuleOk r) {x:LineS} (hx:zjq x) (pos:List Str): -100000000000<=zgp r pos x/\zgp r pos x<=100000000000:=by
 obtain ⟨h1,h2,h3⟩:=zpJ hr hx;have h4:=hr.w;unfold zgp
 split
 omega
 split
 exact h2
 split
 rename_i e;exact (h3 e).2
 split<;>omega
theorem zFB {l:List Int} {B:Int} (h: ∀x∈l,-B<=x/\x<=B) (hB:0<=B): -(B*l.length)<=l.sum/\l.sum<=B*l.length:=by
 induction l with
 |nil=>simp
 |cons x r ih=>
   have h1:=h x Ai;have h2:=ih fun y hy=>h y (Al _ hy)
   rw [List.sum_cons,Ah];have e:B*((r.length+1:Nat):Int)=B*r.length+B:=by rw [Int.natCast_add,Int.mul_add];simp
   rw [e];omega
theorem zop {R:List RuleS} {pos:List Str} {x:LineS} {k:Nat} {r:RuleS} (h:R[k]? =some r):zeG (R.take (k+1)) pos x=zeG (R.take k) pos x+zgp r pos x:=by
 unfold zeG;rw [zW h];simp
theorem zlt {R:List RuleS} (hl:R.length<=100) (hR: ∀r∈R,RuleOk r) {x:LineS} (hx:zjq x) (pos:List Str) (k:Nat): -10000000000000<=zeG (R.take k) pos x/\zeG (R.take k) pos x<=10000000000000:=by
 have h:=zFB (l:=(R.take k).map fun r=>zgp r pos x) (B:=100000000000) (fun y hy=>by
  obtain ⟨r,hr,rfl⟩:=List.mem_map.1 hy;exact zFV (hR r (AS hr)) hx pos) (by decide)
 have h2:((R.take k).map fun r=>zgp r pos x).length<=100:=by rw [Af,Az];omega
 unfold zeG
 omega
theorem zBr {l:List Str} (h:zci l=0):l.length<=10/\zhg l=0:=by
 unfold zci at h
 split at h
 cases h
 split at h
 cases h
 exact ⟨by omega,h⟩
/-! right lines-/
structure LineOk (x:LineS):Prop where
 ky:key x.Player=true
 wk:zar x.Week=true
 st:zbr x.Stats=0
theorem zqA {l:List LineS} (h:zap l=0) {x:LineS} (hx:x∈l):LineOk x:=by
 obtain ⟨h1,h2,h3⟩:=zez.1 ((zeb h).2.1 x hx);exact ⟨h1,h2,h3⟩
theorem LineOk.len {x:LineS} (h:LineOk x):x.Stats.length<=40:=by
 have:=h.st;unfold zbr at this;split at this
 cases this
 omega
theorem LineOk.go {x:LineS} (h:LineOk x):za7 zaj zaU zeK x.Stats 0 x.Stats=0:=by
 have:=h.st;unfold zbr at this;split at this
 cases this
 exact this
theorem LineOk.sb {x:LineS} (h:LineOk x):zjq x:=fun y hy=>(zfB.1 (zim x.Stats 0 h.go y hy)).2.1
theorem zCw {a b:Str} (h:bytesLess a b=true):leB b a=false:=by
 unfold leB;rw [A4];refine ⟨?_,?_⟩
 cases e:bytesLess b a with
 |false=>rfl
 |true=>have:=zkR.2 h;have h2:=zkR.2 e;have h3:=zfG a b;omega
 cases e:(b==a) with
 |false=>rfl
 |true=>
   have e2:b=a:=eq_of_beq e;rw [e2,zaJ] at h;cases h
theorem LineOk.at {x:LineS} (h:LineOk x) {k:Nat} {y:StatS} (hy:x.Stats[k]? =some y):key y.Name=true/\(-100000<=y.Count/\y.Count<=100000)/\(0<k->leB y.Name (x.Stats.getD (k-1) zeK).Name=false):=by
 have h1:=zfB.1 (zim x.Stats 0 h.go y (Ab hy));refine ⟨h1.1,h1.2.1,fun hk=> ?_⟩
 have hlt:=zn hy;have h2:=(List.pairwise_iff_getElem.1 (zky zcn h.go)) (k-1) k (by omega) hlt (by omega);rw [Aa hlt,AA] at hy;rw [hy] at h2;have e:x.Stats.getD (k-1) zeK=x.Stats[k-1]'(by omega):=by rw [Ag,Aa (by omega)];rfl
 rw [e];exact zCw (zkR.1 h2)
theorem zCA {n:Int}:(if 0>n then 0 else n)=max n 0:=by split<;>omega
end
section
open Go Op
def zaa (k:Nat) (x p:ScorerS):Int:=if key x.Player=false then 5 else if 0<k/\leB x.Player p.Player=true then 7 else orI [zci x.Positions,za2 x.Num x.Den 10000]
def zht (l:List ScorerS):Int:=zff 20 zaa zbH l
structure ScoOk (l:List ScorerS):Prop where
 len:l.length<=20
 so:SortedS (l.map (·.Player))
 ky: ∀x∈l,key x.Player=true
 dn: ∀x∈l,1<=x.Den/\x.Den<=100
 q: ∀x∈l,0<=(100:Int).tdiv x.Den/\(100:Int).tdiv x.Den<=100
 w: ∀x∈l,-1000000<=zew x.Num x.Den/\zew x.Num x.Den<=1000000
 po: ∀x∈l,x.Positions.length<=10
theorem zGo {l:List ScorerS} (h:zht l=0):SortedS (l.map (·.Player)):=by
 obtain ⟨_,h2⟩:=zhf h;have nx: ∀(j:Nat) (x y:Str),(l.map (·.Player))[j]? =some x->(l.map (·.Player))[j+1]? =some y->bytesLess x y=true:=by
  intro j x y hx hy
  rw [Aj] at hx hy;obtain ⟨a,ha,rfl⟩:=Option.map_eq_some_iff.1 hx;obtain ⟨b,hb,rfl⟩:=Option.map_eq_some_iff.1 hy;have:=h2 (j+1) b hb;have ed:l.getD (j+1-1) zbH=a:=by rw [BE,Ag,ha];rfl
  rw [ed] at this;unfold zaa at this
  split at this
  omega
  split at this
  omega
  rename_i h3
  have h4:leB b.Player a.Player=false:=by
   cases e:leB b.Player a.Player with
   |false=>rfl
   |true=>exact absurd ⟨by omega,e⟩ h3
  unfold leB at h4;rw [A4] at h4
  rcases zcR a.Player b.Player with q|q|q
  exact q;rw [q] at h4;simp at h4;rw [q] at h4;cases h4.1
 exact znm nx
theorem zGn {l:List ScorerS} (h:zht l=0):ScoOk l:=by
 obtain ⟨h1,h2⟩:=zhf h;have key1: ∀x∈l,key x.Player=true/\zci x.Positions=0/\za2 x.Num x.Den 10000=0:=fun x hx=>by
  obtain ⟨i,hi,rfl⟩:=AR hx;have h3:=h2 i _ (Aa hi);unfold zaa at h3
  split at h3
  cases h3
  rename_i h4
  split at h3
  cases h3
  have h5:=ziN h3;exact ⟨by simpa using h4,h5 _ (by simp),h5 _ (by simp)⟩
 refine ⟨h1,zGo h,fun x hx=>(key1 x hx).1,fun x hx=>(zqo (key1 x hx).2.2 (by decide)).1,fun x hx=>(zqo (key1 x hx).2.2 (by decide)).2.1,fun x hx=>(zqo (key1 x hx).2.2 (by decide)).2.2,fun x hx=> ?_⟩
 have h6:=(key1 x hx).2.1;unfold zci at h6
 split at h6
 cases h6
 split at h6
 cases h6
 omega
abbrev scO (l:List ScorerS) (s:Str):Option ScorerS:=l.find? (fun y=>y.Player==s)
theorem zxm {l:List ScorerS} {s:Str} {y:ScorerS} (h:scO l s=some y):y∈l/\y.Player=s:=⟨BG h,by have:=List.find?_some h;simpa using this⟩
/-! who is fielded-/
abbrev zcN (c:ChoiceS) (i:Nat):Str:=c.Players.getD i []
def okF (l:List ScorerS) (c:Option ChoiceS) (S:List SlotS) (seen:List Str) (i:Nat):Bool:=
 match c with
 |none=>false
 |some c=>match scO l (zcN c i) with
   |none=>false
   |some y=> !(seen.contains (zcN c i))&&zhy y.Positions (S.getD i zfr).Positions
def zkh (c:Option ChoiceS) (i:Nat):Str:=match c with|none=>[]|some c=>zcN c i
def zb5 (l:List ScorerS) (c:Option ChoiceS) (S:List SlotS):Nat->List FillS×List Str
 |0=>([],[])
 |n+1=>if okF l c S (zb5 l c S n).2 n=true then ((zb5 l c S n).1++[⟨(S.getD n zfr).Key,zkh c n⟩],zbW (zkh c n) (zb5 l c S n).2) else ((zb5 l c S n).1++[⟨(S.getD n zfr).Key,[]⟩],(zb5 l c S n).2)
abbrev zae (l:List ScorerS) (c:Option ChoiceS) (S:List SlotS) (n:Nat):List FillS:=(zb5 l c S n).1
theorem zqw {l:List ScorerS} {c:Option ChoiceS} {S:List SlotS} {n:Nat} (h:okF l c S (zb5 l c S n).2 n=true):zb5 l c S (n+1)=((zb5 l c S n).1++[⟨(S.getD n zfr).Key,zkh c n⟩],zbW (zkh c n) (zb5 l c S n).2):=by
 rw [zb5,if_pos h]
theorem zpE {l:List ScorerS} {c:Option ChoiceS} {S:List SlotS} {n:Nat} (h:okF l c S (zb5 l c S n).2 n=false):zb5 l c S (n+1)=((zb5 l c S n).1++[⟨(S.getD n zfr).Key,[]⟩],(zb5 l c S n).2):=by
 rw [zb5,if_neg (by rw [h];simp)]
theorem zcr (l:List ScorerS) (c:Option ChoiceS) (S:List SlotS): ∀n,(zae l c S n).length=n
 |0=>rfl
 |n+1=>by
   have ih:=zcr l c S n;unfold zae at ih⊢
   cases h:okF l c S (zb5 l c S n).2 n with
   |true=>rw [zqw h];simp [ih]
   |false=>rw [zpE h];simp [ih]
theorem zwZ {l:List ScorerS} {c:Option ChoiceS} {S:List SlotS} {seen:List Str} {i:Nat} (h:okF l c S seen i=true):
 ∃y,scO l (zkh c i)=some y/\seen.contains (zkh c i)=false/\zhy y.Positions (S.getD i zfr).Positions=true:=by
 unfold okF at h
 cases c with
 |none=>cases h
 |some c=>
   dsimp only at h
   cases hs:scO l (zcN c i) with
   |none=>rw [hs] at h;cases h
   |some y=>
     rw [hs] at h;simp only [AZ,Ct] at h;exact ⟨y,hs,h.1,h.2⟩
theorem zwB (l:List ScorerS) (w:Str): ∃(z:Int) (i0:Nat),zS (fun x:ScorerS=>x.Player==w) l 0=z/\(0<=z->z=(i0:Int)/\l[i0]? =some (l.getD i0 zbH)/\scO l w=some (l.getD i0 zbH))/\(z<0->scO l w=none):=by
 by_cases h:0<=zS (fun x:ScorerS=>x.Player==w) l 0
 obtain ⟨i,x,e1,e2,e3⟩:=zpM h;have e4:l.getD i zbH=x:=by rw [Ag,e2];rfl
 exact ⟨_,i,rfl,fun _=>⟨e1,by rw [e4];exact e2,by rw [e4];exact e3⟩,fun q=>by omega⟩;exact ⟨_,0,rfl,fun q=>absurd q h,fun _=>zpN (by omega)⟩
theorem ztT {l:List ScorerS} {c:ChoiceS} {S:List SlotS} {seen:List Str} {i:Nat} {z:Int} {i0:Nat} (h2:0<=z->z=(i0:Int)/\l[i0]? =some (l.getD i0 zbH)/\scO l (zcN c i)=some (l.getD i0 zbH)) (h3:z<0->scO l (zcN c i)=none):
 okF l (some c) S seen i=(decide (0<=z)&&(!(seen.contains (zcN c i))&&zhy (l.getD i0 zbH).Positions (S.getD i zfr).Positions)):=by
 unfold okF
 by_cases h:0<=z
 dsimp only
 rw [(h2 h).2.2,decide_eq_true h];rfl
 dsimp only
 rw [h3 (by omega),decide_eq_false h];rfl
structure FillOk (l:List ScorerS) (S:List SlotS) (n:Nat) (f:List FillS):Prop where
 len:f.length=n
 key: ∀(k:Nat) (x:FillS),f[k]? =some x->x.Slot=(S.getD k zfr).Key
 who: ∀(k:Nat) (x:FillS),f[k]? =some x->x.Player≠[]->(f.take k).any (fun y=>y.Player==x.Player)=false/\∃y,scO l x.Player=some y/\zhy y.Positions (S.getD k zfr).Positions=true
theorem zEy {l:List ScorerS} (c:Option ChoiceS) (S:List SlotS): ∀n,(∀s,s∈(zb5 l c S n).2↔s≠[]/\∃x∈zae l c S n,x.Player=s)/\FillOk l S n (zae l c S n)\/∃y∈l,y.Player=[]:=by
 by_cases hne: ∃y∈l,y.Player=[]
 exact fun _=> .inr hne
 intro n
 left
 have hn: ∀y∈l,y.Player≠[]:=fun y hy e=>hne ⟨y,hy,e⟩
 induction n with
 |zero=>exact ⟨fun s=>by simp [zb5,zae],⟨rfl,fun k x h=>by simp [zae,zb5] at h,fun k x h=>by simp [zae,zb5] at h⟩⟩
 |succ n ih=>
   obtain ⟨hs,hf⟩:=ih;have hlen:=hf.len
   cases h:okF l c S (zb5 l c S n).2 n with
   |true=>
     obtain ⟨y,hy1,hy2,hy3⟩:=zwZ h;have hw:zkh c n≠[]:=fun e=>hn y (zxm hy1).1 ((zxm hy1).2.trans e)
     have hno:(zae l c S n).any (fun z=>z.Player==zkh c n)=false:=by
      rw [B6]
      intro z hz e
      have:zkh c n∈(zb5 l c S n).2:=(hs _).2 ⟨hw,z,hz,by simpa using e⟩;rw [BI,decide_eq_false_iff_not] at hy2;exact hy2 this
     unfold zae at hno hlen⊢;rw [zqw h];refine ⟨fun s=> ?_,?_,?_,?_⟩
     dsimp only
     rw [zC8,hs s]
     constructor
     rintro (rfl|⟨a,x,hx,e⟩);exact ⟨hw,_,Be _ (List.mem_singleton.2 rfl),rfl⟩;exact ⟨a,x,Ap _ hx,e⟩;rintro ⟨a,x,hx,e⟩
     rcases List.mem_append.1 hx with hx|hx
     exact .inr ⟨a,x,hx,e⟩;rw [List.mem_singleton.1 hx] at e;exact .inl e.symm;rw [Ax,hlen];rfl
     intro k x hx
     by_cases hk:k<n
     rw [Aw (by omega)] at hx;exact hf.key k x hx;have:k=n:=by have:=zn hx;rw [Ax,hlen] at this;simp at this;omega
     subst this;rw [Au (by omega),hlen,CH] at hx
     cases hx;rfl
     intro k x hx hp
     by_cases hk:k<n
     rw [Aw (by omega)] at hx;rw [BK (by omega)];exact hf.who k x hx hp;have:k=n:=by have:=zn hx;rw [Ax,hlen] at this;simp at this;omega
     subst this;rw [Au (by omega),hlen,CH] at hx
     cases hx
     rw [BK (by omega),Bz (by omega)];exact ⟨hno,y,hy1,hy3⟩
   |false=>
     unfold zae at hlen⊢;rw [zpE h];refine ⟨fun s=> ?_,?_,?_,?_⟩
     dsimp only
     rw [hs s]
     constructor
     rintro ⟨a,x,hx,e⟩;exact ⟨a,x,Ap _ hx,e⟩;rintro ⟨a,x,hx,e⟩
     rcases List.mem_append.1 hx with hx|hx
     exact ⟨a,x,hx,e⟩;rw [List.mem_singleton.1 hx] at e;exact absurd e.symm a;rw [Ax,hlen];rfl
     intro k x hx
     by_cases hk:k<n
     rw [Aw (by omega)] at hx;exact hf.key k x hx;have:k=n:=by have:=zn hx;rw [Ax,hlen] at this;simp at this;omega
     subst this;rw [Au (by omega),hlen,CH] at hx
     cases hx;rfl
     intro k x hx hp
     by_cases hk:k<n
     rw [Aw (by omega)] at hx;rw [BK (by omega)];exact hf.who k x hx hp;have:k=n:=by have:=zn hx;rw [Ax,hlen] at this;simp at this;omega
     subst this;rw [Au (by omega),hlen,CH] at hx
     cases hx
     exact absurd rfl hp
def ztB (c:Option ChoiceS) (f:List FillS):Str:=
 match c with
 |none=>[]
 |some c=>if c.Captain≠[]/\f.any (fun x=>x.Player==c.Captain)=true then c.Captain else []
end
section
section
variable {P:Program} {e:Env} {dst:Option Tmp} {ty:TypeId} {pos:String} {af:Array Edge} {g:Option (Nat×Bool)}
theorem zyD [Tracks] {x y:Operand} {t t' el:TypeId} {size bytes:Nat} {zero:Value} {o:Option (List HVal)} (hf:Fits P t (.ptr el) size bytes zero) (hx:zh e x=some (zp5 o)) (hy:zh e y=some (.raw (.pointer none))):
 POp P e ⟨dst,.binOp .neq t x y t',ty,pos,af,g⟩ (.bool (!o.isNone)):=
 zF fun I a w ho=>by
  have hv:=ho.one (x:=x) (by simp [Op.operands]) hx;have h2:=(ho.one (x:=y) (by simp [Op.operands]) hy).raw_inv
  cases o with
  |none=>
    have h1:=hv.raw_inv;refine ⟨_,?_,.bool _⟩
    simp [execOp,h1,h2,eqGuard,binOp,zfV hf.ptrD]
  |some cs=>
    obtain ⟨b,base,rc,el',fr,h1,h3,h4,h5⟩:=hv.vptr_inv;refine ⟨_,?_,.bool _⟩
    simp [execOp,h1,h2,eqGuard,binOp,zfV hf.ptrD]
end
theorem zzp (o:Option (List HVal)):zb (zp5 o)=[zp5 o]:=by cases o<;>rfl
theorem zAQ (o:Option (List HVal)):zan (zb (zp5 o))=true:=by cases o<;>rfl
theorem zE7 (o:Option (List HVal)):zeA 1 (zp5 o)=true:=by cases o<;>rfl
end
end Go.HL
