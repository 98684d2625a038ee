/- Part 4 of the proof: a program logic, contracts of functions and plain facts; no conditions. -/
import Derived.Test.YtbbpommdmnjfmaaGreatDoorQBooksChecked3
set_option linter.unusedVariables false
set_option linter.unusedSimpArgs false
set_option maxHeartbeats 16000000
namespace Go.Proofs.YtbbpommdmnjfmaaGreatDoor
set_option maxRecDepth 100000
set_option linter.unusedVariables false
set_option linter.unusedSimpArgs false
section
open Go.Proofs.Tryz
open Go.HL
theorem zhd [Tracks] {A X B Y C:List MendS} {ia ib k0:Int} {n b off cap:Nat} {f:HVal} (hxy:X.length=Y.length) (hn:A.length+X.length+B.length+Y.length+C.length=n) (hia:ia=(A.length:Int)) (hib:ib=(A.length:Int)+X.length+B.length) (hk0:k0=(X.length:Int)) (hl:n<=1000000):Con prog 383 [.raw (.slice (some ⟨b,off,none⟩) n cap),.int .i64 ia,.int .i64 ib,.int .i64 k0,f] [.arr (.slice (some ⟨b,off,none⟩) n cap) 7 ((A++X++B++Y++C).map zB)] (fun x M'=>x= .tup []/\M'=[.arr (.slice (some ⟨b,off,none⟩) n cap) 7 ((A++Y++B++X++C).map zB)]):=by
 refine uOb func383 ntmps383 ?_;refine gz4 ?_;refine uV1 [10,28] (fun (k:Nat)=>[(10,.int .i64 (k:Int))]) (fun (k:Nat)=>[.arr (.slice (some ⟨b,off,none⟩) n cap) 7 ((swR A X B Y C k).map zB)]) (fun (k:Nat)=>k<=X.length) (fun (k:Nat)=>X.length-k) (0) ?_ ?_ ?_ ?_;exact Ad _;exact ⟨rfl,trivial⟩;exact zm (by rw [zoe])
 intro k hk
 refine gz6 ?_;refine uCo (fun h1=> ?_) fun h2=> ?_
 obtain ⟨x,hx⟩: ∃x,X[k]? =some x:=⟨_,Aa uO⟩
 obtain ⟨y,hy⟩: ∃y,Y[k]? =some y:=⟨_,Aa uO⟩
 refine gz4 ?_;refine zaC (fun M=>M=[.arr (.slice (some ⟨b,off,none⟩) n cap) 7 ((swR A X B Y C k).map zB)]) [13,19] mixed ?_;refine zcc ?_;refine uB 12 rfl (ze (j:=A.length+X.length+B.length+k) zak zN rfl rfl uO uO) ?_;refine uM 13 rfl rfl (uW (zj (i:=0) (j:=A.length+X.length+B.length+k) zN rfl rfl rfl (zlE hx hy) rfl rfl rfl ⟨rfl,rfl⟩)) ?_;refine gz4 ?_;refine uB 18 rfl (ze (j:=A.length+k) zak zN rfl rfl uO uO) ?_;refine uM 19 rfl rfl (uW (zj (i:=0) (j:=A.length+k) zN rfl rfl rfl (zhR hx hy) rfl rfl rfl ⟨rfl,rfl⟩)) ?_;refine uB 20 rfl (ze (j:=A.length+k) zak zN rfl rfl uO uO) ?_;refine uF 21 ?_;refine zF (zO (i:=0) (j:=A.length+k) (y:=x) (y':=y) zN rfl rfl rfl rfl (zhR hx hy) rfl rfl rfl ?_)
 refine ⟨fun _=> .inr (by simp [zS,Region.binds]),?_⟩
 refine uB 22 rfl (ze (j:=A.length+X.length+B.length+k) zak zN rfl rfl uO uO) ?_;refine uF 23 ?_;refine zF (zO (i:=0) (j:=A.length+X.length+B.length+k) (y:=y) (y':=x) zN rfl rfl rfl rfl (zmQ hx hy) rfl rfl rfl ?_)
 refine ⟨fun _=> .inr (by simp [zS,Region.binds]),?_⟩
 refine gz8 ?_;exact ⟨k+1,by omega,uD,⟨rfl,trivial⟩,uK,zm (by rw [zpO hx hy];rfl)⟩;obtain rfl:k=X.length:=by omega
 rw [zpN hxy];refine gz2 ?_;refine zp ?_;refine gz1 ?_;exact zT rfl ⟨rfl,rfl⟩
theorem znb [Tracks] {P U W Q:List MendS} {ia im ib:Int} {n b off cap:Nat} {f:HVal} (hu:0<U.length) (hw:0<W.length) (hn:P.length+U.length+W.length+Q.length=n) (hia:ia=(P.length:Int)) (him:im=(P.length:Int)+U.length) (hib:ib=(P.length:Int)+U.length+W.length) (hl:n<=1000000):Con prog 358 [.raw (.slice (some ⟨b,off,none⟩) n cap),.int .i64 ia,.int .i64 im,.int .i64 ib,f] [.arr (.slice (some ⟨b,off,none⟩) n cap) 7 ((P++U++W++Q).map zB)] (fun x M'=>x= .tup []/\M'=[.arr (.slice (some ⟨b,off,none⟩) n cap) 7 ((P++W++U++Q).map zB)]):=by
 refine uOb func358 ntmps358 ?_;refine zrx ?_;refine zjW [10,11,18,19,20,21,22,23,24,25,26,27,28,29,30,31,32,33,34,35,36,37,38,39,40,41,42,43,44,45,46,47,48,49] (fun (P1:List MendS) (U1:List MendS) (W1:List MendS) (Q1:List MendS)=>[(10,.int .i64 (U1.length:Int)),(11,.int .i64 (W1.length:Int))]) (fun (P1:List MendS) (U1:List MendS) (W1:List MendS) (Q1:List MendS)=>[.arr (.slice (some ⟨b,off,none⟩) n cap) 7 ((P1++U1++W1++Q1).map zB)]) (fun (P1:List MendS) (U1:List MendS) (W1:List MendS) (Q1:List MendS)=>P1++W1++U1++Q1=P++W++U++Q/\P1.length+U1.length=P.length+U.length/\0<U1.length/\0<W1.length/\P1.length+U1.length+W1.length+Q1.length=n) (fun (P1:List MendS) (U1:List MendS) (W1:List MendS) (Q1:List MendS)=>U1.length+W1.length) (P) (U) (W) (Q) ?_ ?_ ?_ ?_;exact ⟨rfl,rfl,hu,hw,hn⟩;exact ⟨zg uO,zg uO,trivial⟩;exact Ab _
 intro P1 U1 W1 Q1 hinv
 obtain ⟨hf,hpu,hu1,hw1,hn1⟩:=hinv;refine gz6 ?_;refine uCo (fun h1=> ?_) fun h2=> ?_
 refine gz8 ?_;refine uCo (fun h3=> ?_) fun h4=> ?_
 obtain ⟨Ua,Ub,rfl,hUa⟩: ∃Ua Ub,U1=Ua++Ub/\Ua.length=W1.length:=⟨U1.take W1.length,U1.drop W1.length,(Am _ _).symm,by rw [Ag];omega⟩
 rw [Af] at*;refine zf (zP (M':=[.arr (.slice (some ⟨b,off,none⟩) n cap) 7 ((P1++Ua++Ub++W1++Q1).map zB)]) (by simp)) ?_;refine gz8 ?_;refine de rfl (za (i:=0) ztb rfl (WeakL.refl _) rfl (zhd (A:=P1) (X:=Ua) (B:=Ub) (Y:=W1) (C:=Q1) (n:=n) uO uO uO uO uO hl) ?_)
 rintro _ _ ⟨rfl,rfl⟩;refine gz8 ?_;exact ⟨P1++W1,Ub,Ua,Q1,⟨by rw [<-hf];simp,by simp only [Af] at*;omega,by omega,by omega,by simp only [Af] at*;omega⟩,by dsimp only;simp only [Af] at*;omega,⟨zg uO,zg uO,trivial⟩,uK,Ab _⟩;obtain ⟨Wa,Wb,rfl,hWb⟩: ∃Wa Wb,W1=Wa++Wb/\Wb.length=U1.length:=⟨W1.take (W1.length-U1.length),W1.drop (W1.length-U1.length),(Am _ _).symm,by rw [Au];omega⟩
 rw [Af] at*;refine zf (zP (M':=[.arr (.slice (some ⟨b,off,none⟩) n cap) 7 ((P1++U1++Wa++Wb++Q1).map zB)]) (by simp)) ?_;refine zcc ?_;refine de rfl (za (i:=0) ztb rfl (WeakL.refl _) rfl (zhd (A:=P1) (X:=U1) (B:=Wa) (Y:=Wb) (C:=Q1) (n:=n) uO uO uO uO uO hl) ?_)
 rintro _ _ ⟨rfl,rfl⟩;refine gz8 ?_;exact ⟨P1,Wb,Wa,U1++Q1,⟨by rw [<-hf];simp,by omega,by omega,by omega,by simp only [Af] at*;omega⟩,by dsimp only;simp only [Af] at*;omega,⟨zg uO,zg uO,trivial⟩,uK,zm (by simp)⟩;refine gz2 ?_;refine zlt ?_;refine gz2 ?_;refine zf (zP (M':=[.arr (.slice (some ⟨b,off,none⟩) n cap) 7 ((P1++U1++[]++W1++Q1).map zB)]) (by simp)) ?_;refine gz8 ?_;refine de rfl (za (i:=0) ztb rfl (WeakL.refl _) rfl (zhd (A:=P1) (X:=U1) (B:=[]) (Y:=W1) (C:=Q1) (n:=n) uO uO uO (by simp only [Aq];omega) uO hl) ?_)
 rintro _ _ ⟨rfl,rfl⟩;refine gz1 ?_;exact zT rfl ⟨rfl,by simp only [AW] at*;rw [<-hf];rfl⟩
theorem zjN [Tracks] {A X C:List MendS} {ia ib:Int} {n b off cap:Nat} {fid:FuncId} {caps:List HVal} {c:MendS->MendS->Int} (hca:Callable prog fid) (hp: ∀x y,ConP prog fid ([zB x,zB y]++caps) (.int .i64 (c x y))) (hn:A.length+X.length+C.length=n) (hia:ia=(A.length:Int)) (hib:ib=(A.length:Int)+X.length) (hl:n<=1000000):Con prog 302 [.raw (.slice (some ⟨b,off,none⟩) n cap),.int .i64 ia,.int .i64 ib,.fn (.func fid) [] caps] [.arr (.slice (some ⟨b,off,none⟩) n cap) 7 ((A++X++C).map zB)] (fun x M'=>x= .tup []/\M'=[.arr (.slice (some ⟨b,off,none⟩) n cap) 7 ((A++zX c X++C).map zB)]):=by
 refine uOb func302 ntmps302 ?_;refine gz6 ?_;refine uV1 [8,2,12,41] (fun (k:Nat)=>[(8,.int .i64 ((A.length+k:Nat):Int))]) (fun (k:Nat)=>[.arr (.slice (some ⟨b,off,none⟩) n cap) 7 ((A++(zX c (X.take k)++X.drop k)++C).map zB)]) (fun (k:Nat)=>1<=k) (fun (k:Nat)=>X.length-k) (1) ?_ ?_ ?_ ?_;exact Ae _;exact ⟨zg uO,trivial⟩;exact zm (by rw [zfb])
 intro k hk
 refine gz6 ?_;refine uCo (fun h1=> ?_) fun h2=> ?_
 obtain ⟨x,hx⟩: ∃x,X[k]? =some x:=⟨_,Aa uO⟩
 refine gz9 ?_;refine uV2 [9,1,18,35] (fun (D:List MendS) (B:List MendS)=>[(9,.int .i64 ((A.length+D.length:Nat):Int))]) (fun (D:List MendS) (B:List MendS)=>[.arr (.slice (some ⟨b,off,none⟩) n cap) 7 (((A++D)++x::(B++X.drop (k+1)++C)).map zB)]) (fun (D:List MendS) (B:List MendS)=>D.length+B.length=k/\zct c x (zX c (X.take k))=zct c x D++B) (fun (D:List MendS) (B:List MendS)=>D.length) (zX c (X.take k)) ([]) ?_ ?_ ?_ ?_;exact ⟨by simp [zay];omega,by simp⟩;exact ⟨zg (by simp [zay];omega),trivial⟩;exact zm (by rw [zi hx];simp)
 intro D B hinv
 obtain ⟨hA,hB⟩:=hinv;have hlA:D.length<X.length:=by omega
 refine gz1 ?_;refine zw (fun M=>M=[.arr (.slice (some ⟨b,off,none⟩) n cap) 7 (((A++D)++x::(B++X.drop (k+1)++C)).map zB)]) [8,13] mixed ?_;refine gz7 ?_;refine ahg 7 rfl rfl (by kernel_rfl) (by kernel_rfl) rfl (fun hc=>by
  have hq:0<D.length:=by simp at hc;omega
  exact ⟨_,OpenTo.upd (t:=24) rfl (hc) (OpenTo.upd (t:=23) rfl (hc) (OpenTo.refl _)),ze (j:=(A++D).length) zak zN rfl rfl (by simp) (by simp;omega)⟩) ?_
 refine zin 8 rfl rfl (by kernel_rfl) (by kernel_rfl) (by simp) rfl rfl (fun hc=>⟨_,OpenTo.upd (t:=25) rfl (hc) (OpenTo.refl _),fun M hM=>by
  subst hM;exact zj (i:=0) (j:=(A++D).length) zN rfl rfl rfl zci rfl rfl rfl ⟨rfl,rfl⟩
  ⟩) ?_
 refine gz2 ?_;refine ahg 11 rfl rfl (by kernel_rfl) (by kernel_rfl) rfl (fun hc=>by
  have hq:0<D.length:=by simp at hc;omega
  exact ⟨_,OpenTo.upd (t:=28) rfl (hc) (OpenTo.refl _),zdv rfl rfl uO uO⟩) ?_
 refine ahg 12 rfl rfl (by kernel_rfl) (by kernel_rfl) rfl (fun hc=>by
  have hq:0<D.length:=by simp at hc;omega
  exact ⟨_,OpenTo.upd (t:=29) rfl (hc) (OpenTo.upd (t:=27) rfl (hc) (OpenTo.refl _)),ze (j:=(A++D).length-1) zak zN rfl rfl (by simp;omega) (by simp;omega)⟩) ?_
 refine zin 13 rfl rfl (by kernel_rfl) (by kernel_rfl) (by simp) rfl rfl (fun hc=>⟨_,OpenTo.upd (t:=30) rfl (hc) (OpenTo.refl _),fun M hM=>by
  have hq:0<D.length:=by simp at hc;omega
  subst hM;exact zj (i:=0) (j:=(A++D).length-1) zN rfl rfl rfl (zf3 (by simp;omega)) rfl rfl rfl ⟨rfl,rfl⟩
  ⟩) ?_
 refine ahg 14 rfl rfl (by kernel_rfl) (by kernel_rfl) rfl (fun hc=>⟨_,OpenTo.upd (t:=31) rfl (hc) (OpenTo.upd (t:=26) rfl (hc) (OpenTo.upd (t:=22) rfl (hc) (OpenTo.refl _))),z7 hca rfl rfl (WeakL.refl _) (hp _ _)⟩) ?_;refine gz3 ?_;refine uCo (fun h3=> ?_) fun h4=> ?_
 obtain ⟨hA0,hcx⟩:=h3;obtain ⟨D1,y,rfl⟩:=zhQ (A:=D) uO;rw [zhM] at hcx;have hD1:(D1++[y]).length=D1.length+1:=by simp
 refine gz4 ?_;refine zaC (fun M=>M=[.arr (.slice (some ⟨b,off,none⟩) n cap) 7 (((A++(D1++[y]))++x::(B++X.drop (k+1)++C)).map zB)]) [9,13] mixed ?_;refine gz8 ?_;refine uB 8 rfl (ze (j:=(A++(D1++[y])).length-1) zak zN rfl rfl (by simp;omega) (by simp;omega)) ?_;refine uM 9 rfl rfl (uW (zj (i:=0) (j:=(A++(D1++[y])).length-1) zN rfl rfl rfl (zde) rfl rfl rfl ⟨rfl,rfl⟩)) ?_;refine gz2 ?_;refine uB 12 rfl (ze (j:=(A++(D1++[y])).length) zak zN rfl rfl (by simp) (by simp;omega)) ?_;refine uM 13 rfl rfl (uW (zj (i:=0) (j:=(A++(D1++[y])).length) zN rfl rfl rfl zci rfl rfl rfl ⟨rfl,rfl⟩)) ?_;refine uB 14 rfl (ze (j:=(A++(D1++[y])).length) zak zN rfl rfl (by simp) (by simp;omega)) ?_;refine uF 15 ?_;refine zF (zO (i:=0) (j:=(A++(D1++[y])).length) (y:=x) (y':=y) zN rfl rfl rfl rfl zci rfl rfl rfl ?_)
 refine ⟨fun _=> .inr (by simp [zS,Region.binds]),?_⟩
 refine uB 16 rfl (ze (j:=(A++(D1++[y])).length-1) zak zN rfl rfl (by simp;omega) (by simp;omega)) ?_;refine uF 17 ?_;refine zF (zO (i:=0) (j:=(A++(D1++[y])).length-1) (y:=y) (y':=x) zN rfl rfl rfl rfl (by rw [AP (by simp)];exact zde) rfl rfl rfl ?_)
 refine ⟨fun _=> .inr (by simp [zS,Region.binds]),?_⟩
 refine gz8 ?_;exact ⟨D1,y::B,⟨by simp at hA⊢;omega,zhL hB hcx⟩,uD,⟨zg uO,trivial⟩,uK,zm (by rw [<-An,zhS];simp)⟩;have hins:=zhK (l:=X) (k:=k) hx hB (by intro h0;have h9:=h4 uO;rw [zfO h0] at h9;omega);refine gz2 ?_;refine zM ?_;refine gz8 ?_;exact ⟨k+1,by omega,uD,⟨zg uO,trivial⟩,uK,zm (by rw [ziY hins])⟩;have hend:zX c (X.take k)++X.drop k=zX c X:=by rw [AF uO,zz uO];simp
 refine gz2 ?_;refine zp ?_;refine gz1 ?_;exact zT rfl ⟨rfl,by rw [hend]⟩
theorem zoE [Tracks] {A X Y C:List MendS} {ia im ib:Int} {N:Nat} {n b off cap:Nat} {fid:FuncId} {caps:List HVal} {c:MendS->MendS->Int} (hca:Callable prog fid) (hp: ∀x y,ConP prog fid ([zB x,zB y]++caps) (.int .i64 (c x y))) (hc:Cmp c fun _=>True) (hx0:0<X.length) (hy0:0<Y.length) (hN:X.length+Y.length<=N) (hn:A.length+X.length+Y.length+C.length=n) (hia:ia=(A.length:Int)) (him:im=(A.length:Int)+X.length) (hib:ib=(A.length:Int)+X.length+Y.length) (hX:Srt c X) (hY:Srt c Y) (hl:n<=1000000) (ih: ∀{A X Y C:List MendS} {ia im ib:Int},0<X.length->0<Y.length->X.length+Y.length<N->A.length+X.length+Y.length+C.length=n->ia=(A.length:Int)->im=(A.length:Int)+X.length->ib=(A.length:Int)+X.length+Y.length->Srt c X->Srt c Y->Con prog 303 [.raw (.slice (some ⟨b,off,none⟩) n cap),.int .i64 ia,.int .i64 im,.int .i64 ib,.fn (.func fid) [] caps] [.arr (.slice (some ⟨b,off,none⟩) n cap) 7 ((A++X++Y++C).map zB)] (fun x M'=> ∃Z:List MendS,x= .tup []/\(Z.Perm (X++Y)/\Srt c Z)/\M'=[.arr (.slice (some ⟨b,off,none⟩) n cap) 7 ((A++Z++C).map zB)])):Con prog 303 [.raw (.slice (some ⟨b,off,none⟩) n cap),.int .i64 ia,.int .i64 im,.int .i64 ib,.fn (.func fid) [] caps] [.arr (.slice (some ⟨b,off,none⟩) n cap) 7 ((A++X++Y++C).map zB)] (fun x M'=> ∃Z:List MendS,x= .tup []/\(Z.Perm (X++Y)/\Srt c Z)/\M'=[.arr (.slice (some ⟨b,off,none⟩) n cap) 7 ((A++Z++C).map zB)]):=by
 refine uOb func303 ntmps303 ?_;refine gz7 ?_;refine uCo (fun h1=> ?_) fun h2=> ?_
 obtain ⟨x,rfl⟩: ∃x,X=[x]:=List.length_eq_one_iff.1 uO
 simp only [Ao,Aq,A7] at*;refine zaD ?_;refine uV2 [10,3,31,23] (fun (p:Nat) (q:Nat)=>[(10,.int .i64 ((A.length+1+p:Nat):Int)),(11,.int .i64 ((A.length+1+q:Nat):Int))]) (fun (p:Nat) (q:Nat)=>[.arr (.slice (some ⟨b,off,none⟩) n cap) 7 ((A++[x]++Y++C).map zB)]) (fun (p:Nat) (q:Nat)=>p<=q/\q<=Y.length/\(∀y,Y[p-1]? =some y->0<p->c y x<0)/\(∀y,Y[q]? =some y->¬c y x<0)) (fun (p:Nat) (q:Nat)=>q-p) (0) (Y.length) ?_ ?_ ?_ ?_;exact ⟨Ad _,Ae _,fun y _ h=>absurd h (A1 _),fun y h=>by have:=zo h;omega⟩;exact ⟨zg uO,zg uO,trivial⟩;exact Ab _
 intro p q hinv
 obtain ⟨hpq,hqY,hP,hQ⟩:=hinv;refine gz6 ?_;refine uCo (fun h3=> ?_) fun h4=> ?_
 refine gz7 ?_;refine dq (zaY ty3 zch rfl) ?_;refine dq (zdB rfl rfl uO) ?_;refine dq (zae (zaY zch ty3 rfl) (zey (i:=A.length+1+p) (j:=A.length+1+q) uO)) ?_;refine gz2 ?_;obtain ⟨r,hr⟩: ∃r,(A.length+1+p+(A.length+1+q))/2=A.length+1+r:=⟨(A.length+1+p+(A.length+1+q))/2-(A.length+1),by omega⟩
 obtain ⟨y,hy⟩: ∃y,Y[r]? =some y:=⟨_,Aa uO⟩
 refine zw (fun M=>M=[.arr (.slice (some ⟨b,off,none⟩) n cap) 7 ((A++[x]++Y++C).map zB)]) [4,8] mixed ?_;refine gz3 ?_;refine uB 3 rfl (ze (j:=A.length+[x].length+r) zak zN rfl rfl (by simp;omega) (by simp;omega)) ?_;refine uM 4 rfl rfl (uW (zj (i:=0) (j:=A.length+[x].length+r) zN rfl rfl rfl (zeV hy) rfl rfl rfl ⟨rfl,rfl⟩)) ?_;refine gz2 ?_;refine uB 7 rfl (ze (j:=A.length+0) zak zN rfl rfl uO uO) ?_;refine uM 8 rfl rfl (uW (zj (i:=0) (j:=A.length+0) zN rfl rfl rfl (zeU (X:=[x]) rfl) rfl rfl rfl ⟨rfl,rfl⟩)) ?_;refine uB 9 rfl (z7 hca rfl rfl (WeakL.refl _) (hp _ _)) ?_;refine gz2 ?_;refine uCo (fun h5=> ?_) fun h6=> ?_
 refine gz6 ?_;exact ⟨r+1,q,⟨by omega,hqY,fun z hz _=>by rw [AU,hy] at hz;rw [<-Ak hz];assumption,hQ⟩,uD,⟨zg uO,rfl,trivial⟩,uK,Ab _⟩;refine gz5 ?_;exact ⟨p,r,⟨by omega,by omega,hP,fun z hz=>by rw [hy] at hz;rw [<-Ak hz];omega⟩,uD,⟨rfl,zg uO,trivial⟩,uK,Ab _⟩;obtain rfl:p=q:=by omega
 refine gz2 ?_;refine zM ?_;refine gz8 ?_;refine uV1 [13,1,55,22] (fun (t:Nat)=>[(13,.int .i64 ((A.length+t:Nat):Int))]) (fun (t:Nat)=>[.arr (.slice (some ⟨b,off,none⟩) n cap) 7 ((wan A Y x C t).map zB)]) (fun (t:Nat)=>t<=p) (fun (t:Nat)=>p-t) (0) ?_ ?_ ?_ ?_;exact Ad _;exact ⟨zg uO,trivial⟩;exact zm (by rw [zon])
 intro t ht
 refine gz7 ?_;refine uCo (fun h7=> ?_) fun h8=> ?_
 obtain ⟨y,hy⟩: ∃y,Y[t]? =some y:=⟨_,Aa uO⟩
 refine gz4 ?_;refine zaC (fun M=>M=[.arr (.slice (some ⟨b,off,none⟩) n cap) 7 ((wan A Y x C t).map zB)]) [9,13] mixed ?_;refine gz8 ?_;refine uB 8 rfl (ze (j:=A.length+t+1) zak zN rfl rfl uO uO) ?_;refine uM 9 rfl rfl (uW (zj (i:=0) (j:=A.length+t+1) zN rfl rfl rfl (zlJ hy) rfl rfl rfl ⟨rfl,rfl⟩)) ?_;refine gz2 ?_;refine uB 12 rfl (ze (j:=A.length+t) zak zN rfl rfl uO uO) ?_;refine uM 13 rfl rfl (uW (zj (i:=0) (j:=A.length+t) zN rfl rfl rfl (zhU hy) rfl rfl rfl ⟨rfl,rfl⟩)) ?_;refine uB 14 rfl (ze (j:=A.length+t) zak zN rfl rfl uO uO) ?_;refine uF 15 ?_;refine zF (zO (i:=0) (j:=A.length+t) (y:=x) (y':=y) zN rfl rfl rfl rfl (zhU hy) rfl rfl rfl ?_)
 refine ⟨fun _=> .inr (by simp [zS,Region.binds]),?_⟩
 refine uB 16 rfl (ze (j:=A.length+t+1) zak zN rfl rfl uO uO) ?_;refine uF 17 ?_;refine zF (zO (i:=0) (j:=A.length+t+1) (y:=y) (y':=x) zN rfl rfl rfl rfl (zmT hy) rfl rfl rfl ?_)
 refine ⟨fun _=> .inr (by simp [zS,Region.binds]),?_⟩
 refine gz8 ?_;exact ⟨t+1,by omega,uD,⟨zg uO,trivial⟩,uK,zm (by rw [zpT hy];rfl)⟩;obtain rfl:t=p:=by omega
 refine gz2 ?_;refine zp ?_;refine gz3 ?_;exact zT rfl ⟨_,rfl,zn1 hc hY hqY (fun y hy=>by have h1:=hQ y hy;have:=hc.flip y x trivial trivial;have:=hc.flip x y trivial trivial;omega) (fun y hy h0=>by have:=hP y hy h0;omega),by simp [wan]⟩;refine gz9 ?_;refine uCo (fun h9=> ?_) fun h10=> ?_
 obtain ⟨y,rfl⟩: ∃y,Y=[y]:=List.length_eq_one_iff.1 uO
 simp only [Ao,Aq,A7] at*;refine zaD ?_;refine uV2 [14,3,83,24] (fun (p:Nat) (q:Nat)=>[(14,.int .i64 ((A.length+p:Nat):Int)),(15,.int .i64 ((A.length+q:Nat):Int))]) (fun (p:Nat) (q:Nat)=>[.arr (.slice (some ⟨b,off,none⟩) n cap) 7 ((A++X++[y]++C).map zB)]) (fun (p:Nat) (q:Nat)=>p<=q/\q<=X.length/\(∀x,X[p-1]? =some x->0<p->¬c y x<0)/\(∀x,X[q]? =some x->c y x<0)) (fun (p:Nat) (q:Nat)=>q-p) (0) (X.length) ?_ ?_ ?_ ?_;exact ⟨Ad _,Ae _,fun x _ h=>absurd h (A1 _),fun x h=>by have:=zo h;omega⟩;exact ⟨zg uO,zg uO,trivial⟩;exact Ab _
 intro p q hinv
 obtain ⟨hpq,hqX,hP,hQ⟩:=hinv;refine gz6 ?_;refine uCo (fun h11=> ?_) fun h12=> ?_
 refine gz7 ?_;refine dq (zaY ty3 zch rfl) ?_;refine dq (zdB rfl rfl uO) ?_;refine dq (zae (zaY zch ty3 rfl) (zey (i:=A.length+p) (j:=A.length+q) uO)) ?_;refine gz2 ?_;obtain ⟨r,hr⟩: ∃r,(A.length+p+(A.length+q))/2=A.length+r:=⟨(A.length+p+(A.length+q))/2-A.length,by omega⟩
 obtain ⟨x,hx⟩: ∃x,X[r]? =some x:=⟨_,Aa uO⟩
 refine zw (fun M=>M=[.arr (.slice (some ⟨b,off,none⟩) n cap) 7 ((A++X++[y]++C).map zB)]) [4,8] mixed ?_;refine gz3 ?_;refine uB 3 rfl (ze (j:=A.length+X.length+0) zak zN rfl rfl uO (by simp at hn⊢;omega)) ?_;refine uM 4 rfl rfl (uW (zj (i:=0) (j:=A.length+X.length+0) zN rfl rfl rfl (zeV (Y:=[y]) rfl) rfl rfl rfl ⟨rfl,rfl⟩)) ?_;refine gz2 ?_;refine uB 7 rfl (ze (j:=A.length+r) zak zN rfl rfl uO uO) ?_;refine uM 8 rfl rfl (uW (zj (i:=0) (j:=A.length+r) zN rfl rfl rfl (zeU hx) rfl rfl rfl ⟨rfl,rfl⟩)) ?_;refine uB 9 rfl (z7 hca rfl rfl (WeakL.refl _) (hp _ _)) ?_;refine gz3 ?_;refine uCo (fun h13=> ?_) fun h14=> ?_
 refine gz6 ?_;exact ⟨r+1,q,⟨by omega,hqX,fun z hz _=>by rw [AU,hx] at hz;rw [<-Ak hz];omega,hQ⟩,uD,⟨zg uO,rfl,trivial⟩,uK,Ab _⟩;refine gz5 ?_;exact ⟨p,r,⟨by omega,by omega,hP,fun z hz=>by rw [hx] at hz;rw [<-Ak hz];omega⟩,uD,⟨rfl,zg uO,trivial⟩,uK,Ab _⟩;obtain rfl:p=q:=by omega
 refine gz2 ?_;refine zM ?_;refine gz8 ?_;refine uV1 [17,1,108,21] (fun (t:Nat)=>[(17,.int .i64 ((A.length+t:Nat):Int))]) (fun (t:Nat)=>[.arr (.slice (some ⟨b,off,none⟩) n cap) 7 ((wan A X y C t).map zB)]) (fun (t:Nat)=>p<=t/\t<=X.length) (fun (t:Nat)=>t) (X.length) ?_ ?_ ?_ ?_;exact ⟨by omega,Ae _⟩;exact ⟨zg uO,trivial⟩;exact zm (by rw [zpS])
 intro t hinv
 obtain ⟨ht,htX⟩:=hinv;refine gz6 ?_;refine uCo (fun h15=> ?_) fun h16=> ?_
 obtain ⟨s,rfl⟩: ∃s,t=s+1:=⟨t-1,by omega⟩
 obtain ⟨x,hx⟩: ∃x,X[s]? =some x:=⟨_,Aa uO⟩
 refine gz4 ?_;refine zaC (fun M=>M=[.arr (.slice (some ⟨b,off,none⟩) n cap) 7 ((wan A X y C (s+1)).map zB)]) [9,13] mixed ?_;refine gz8 ?_;refine uB 8 rfl (ze (j:=A.length+s) zak zN rfl rfl uO uO) ?_;refine uM 9 rfl rfl (uW (zj (i:=0) (j:=A.length+s) zN rfl rfl rfl (zgu hx).2 rfl rfl rfl ⟨rfl,rfl⟩)) ?_;refine gz2 ?_;refine uB 12 rfl (ze (j:=A.length+s+1) zak zN rfl rfl uO uO) ?_;refine uM 13 rfl rfl (uW (zj (i:=0) (j:=A.length+s+1) zN rfl rfl rfl (zgu hx).1 rfl rfl rfl ⟨rfl,rfl⟩)) ?_;refine uB 14 rfl (ze (j:=A.length+s+1) zak zN rfl rfl uO uO) ?_;refine uF 15 ?_;refine zF (zO (i:=0) (j:=A.length+s+1) (y:=y) (y':=x) zN rfl rfl rfl rfl (zgu hx).1 rfl rfl rfl ?_)
 refine ⟨fun _=> .inr (by simp [zS,Region.binds]),?_⟩
 refine uB 16 rfl (ze (j:=A.length+s) zak zN rfl rfl uO uO) ?_;refine uF 17 ?_;refine zF (zO (i:=0) (j:=A.length+s) (y:=x) (y':=y) zN rfl rfl rfl rfl (zpR hx) rfl rfl rfl ?_)
 refine ⟨fun _=> .inr (by simp [zS,Region.binds]),?_⟩
 refine gz8 ?_;exact ⟨s,⟨by omega,by omega⟩,uD,⟨zg uO,trivial⟩,uK,zm (by rw [zol hx];rfl)⟩;obtain rfl:t=p:=by omega
 refine gz2 ?_;refine zp ?_;refine gz3 ?_;exact zT rfl ⟨_,rfl,zmK hc hX hqX (fun x hx h0=>by have h1:=hP x hx h0;have:=hc.flip y x trivial trivial;have:=hc.flip x y trivial trivial;omega) (fun x hx=>by have:=hQ x hx;omega),by simp [wan]⟩;refine gz6 ?_;refine dq (zaY ty3 zch rfl) ?_;refine dq (zdB rfl rfl uO) ?_;refine dq (zae (h':= .int .i64 (((A.length+(A.length+X.length+Y.length))/2:Nat):Int)) (zaY zch ty3 rfl) (by have e9:ia+ib=((A.length:Nat):Int)+((A.length+X.length+Y.length:Nat):Int):=uO;rw [e9];exact zey uO)) ?_;refine gz2 ?_;obtain ⟨d,hd⟩: ∃d:Nat,(A.length+(A.length+X.length+Y.length))/2=d:=⟨_,rfl⟩
 rw [hd];refine zaD ?_;refine uVj [20,2,138,9] (fun (s:Nat×Nat)=>[(20,.int .i64 (s.1:Int)),(21,.int .i64 (s.2:Int))]) (fun (s:Nat×Nat)=>[.arr (.slice (some ⟨b,off,none⟩) n cap) 7 ((A++X++Y++C).map zB)]) (fun (s:Nat×Nat)=>(A.length<=s.1/\s.1<=s.2/\s.2<=A.length+X.length/\s.2<=d/\d<=s.1+Y.length)/\(s.1=A.length\/d=s.1+Y.length)/\(s.2=A.length+X.length\/s.2=d)) ?_ ?_
 skip
 refine gz5 ?_;refine uCo (fun h17=> ?_) fun h18=> ?_
 refine zaD ?_;exact ⟨(d-Y.length,d),⟨⟨uD,uD,uD,uD,uD⟩,uD,uD⟩,⟨zg uO,rfl,trivial⟩,uK,Ab _⟩;refine gz8 ?_;exact ⟨(A.length,A.length+X.length),⟨⟨uD,uD,uD,uD,uD⟩,uD,uD⟩,⟨zg uO,zg uO,trivial⟩,uK,Ab _⟩
 intro s hs
 obtain ⟨s1,s2⟩:=s;dsimp only at hs⊢;obtain ⟨⟨hs3,hs4,hs5,hs6,hs7⟩,hs1,hs2⟩:=hs;refine gz7 ?_;refine uV2 [20,2,23,1,149,26] (fun (p:Nat) (q:Nat)=>[(20,.int .i64 (p:Int)),(21,.int .i64 (q:Int))]) (fun (p:Nat) (q:Nat)=>[.arr (.slice (some ⟨b,off,none⟩) n cap) 7 ((A++X++Y++C).map zB)]) (fun (p:Nat) (q:Nat)=>s1<=p/\p<=q/\q<=s2/\(∀x y,X[p-1-A.length]? =some x->Y[d-p]? =some y->s1<p->¬c y x<0)/\(∀x y,X[q-A.length]? =some x->Y[d-1-q]? =some y->q<s2->c y x<0)) (fun (p:Nat) (q:Nat)=>q-p) (s1) (s2) ?_ ?_ ?_ ?_;exact ⟨Ae _,by omega,Ae _,fun x y _ _ h=>absurd h (A1 _),fun x y _ _ h=>absurd h (A1 _)⟩;exact ⟨rfl,rfl,trivial⟩;exact Ab _
 intro p q hinv
 obtain ⟨hsp,hpq,hqs,hP,hQ⟩:=hinv;refine gz6 ?_;refine uCo (fun h19=> ?_) fun h20=> ?_
 refine gz7 ?_;refine dq (zaY ty3 zch rfl) ?_;refine dq (zdB rfl rfl uO) ?_;refine dq (zae (zaY zch ty3 rfl) (zey (i:=p) (j:=q) uO)) ?_;refine gz2 ?_;obtain ⟨g,hg⟩: ∃g,(p+q)/2=g:=⟨_,rfl⟩
 obtain ⟨u,hu⟩: ∃u,g=A.length+u:=⟨g-A.length,by omega⟩
 obtain ⟨r,hr⟩: ∃r,d=r+1+g:=⟨d-1-g,by omega⟩
 obtain ⟨x,hx⟩: ∃x,X[u]? =some x:=⟨_,Aa uO⟩
 obtain ⟨y,hy⟩: ∃y,Y[r]? =some y:=⟨_,Aa uO⟩
 refine zw (fun M=>M=[.arr (.slice (some ⟨b,off,none⟩) n cap) 7 ((A++X++Y++C).map zB)]) [6,10] mixed ?_;refine gz5 ?_;refine uB 5 rfl (ze (j:=A.length+X.length+r) zak zN rfl rfl uO uO) ?_;refine uM 6 rfl rfl (uW (zj (i:=0) (j:=A.length+X.length+r) zN rfl rfl rfl (zeV hy) rfl rfl rfl ⟨rfl,rfl⟩)) ?_;refine gz2 ?_;refine uB 9 rfl (ze (j:=A.length+u) zak zN rfl rfl uO uO) ?_;refine uM 10 rfl rfl (uW (zj (i:=0) (j:=A.length+u) zN rfl rfl rfl (zeU hx) rfl rfl rfl ⟨rfl,rfl⟩)) ?_;refine uB 11 rfl (z7 hca rfl rfl (WeakL.refl _) (hp _ _)) ?_;refine gz3 ?_;refine uCo (fun h21=> ?_) fun h22=> ?_
 refine gz6 ?_;exact ⟨g+1,q,⟨by omega,by omega,hqs,fun x2 y2 h1 h2 _=>by
  rw [show g+1-1-A.length=u by omega,hx] at h1;rw [show d-(g+1)=r by omega,hy] at h2;rw [<-Ak h1,<-Ak h2];omega,hQ⟩,uD,⟨zg uO,rfl,trivial⟩,uK,Ab _⟩
 refine gz5 ?_;exact ⟨p,g,⟨hsp,by omega,by omega,hP,fun x2 y2 h1 h2 _=>by
  rw [show g-A.length=u by omega,hx] at h1;rw [show d-1-g=r by omega,hy] at h2;rw [<-Ak h1,<-Ak h2];omega⟩,uD,⟨rfl,zg uO,trivial⟩,uK,Ab _⟩
 obtain rfl:p=q:=by omega
 have hpA:A.length<=p:=by omega
 refine gz2 ?_;refine zM ?_;refine gz2 ?_;obtain ⟨hk1,hk2⟩:=zof hc hP hQ hs1 hs2 hsp hqs hpA;refine gz6 ?_;refine uVj [178,14] (fun (z:Unit)=>[]) (fun (z:Unit)=>[.arr (.slice (some ⟨b,off,none⟩) n cap) 7 (((A++X.take (p-A.length))++Y.take (d-p)++X.drop (p-A.length)++(Y.drop (d-p)++C)).map zB)]) (fun (z:Unit)=>True) ?_ ?_
 skip
 refine zaD ?_;refine uCo (fun h23=> ?_) fun h24=> ?_
 refine zf (zP (M':=[.arr (.slice (some ⟨b,off,none⟩) n cap) 7 (((A++X.take (p-A.length))++X.drop (p-A.length)++Y.take (d-p)++(Y.drop (d-p)++C)).map zB)]) (by rw [zpP (k:=p-A.length) (j:=d-p)])) ?_;refine gz6 ?_;refine de rfl (za (i:=0) zzo rfl (WeakL.refl _) rfl (znb (P:=A++X.take (p-A.length)) (U:=X.drop (p-A.length)) (W:=Y.take (d-p)) (Q:=Y.drop (d-p)++C) (n:=n) (by simp;omega) (by simp;omega) (by simp;omega) (by simp;omega) (by simp;omega) (by simp;omega) hl) ?_)
 rintro _ _ ⟨rfl,rfl⟩;refine gz1 ?_;exact ⟨(),trivial,trivial,uK,Ab _⟩;refine gz1 ?_;exact ⟨(),trivial,trivial,uK,zm (by rw [zlF (k:=p-A.length) (j:=d-p) (by rcases Az p (A.length+X.length) with q|q;(have:=h24 uO;omega);omega)])⟩
 intro z _
 refine uVj [192,14] (fun (Z1:List MendS)=>[]) (fun (Z1:List MendS)=>[.arr (.slice (some ⟨b,off,none⟩) n cap) 7 ((A++Z1++(X.drop (p-A.length)++(Y.drop (d-p)++C))).map zB)]) (fun (Z1:List MendS)=>Z1.Perm (X.take (p-A.length)++Y.take (d-p))/\Srt c Z1) ?_ ?_
 skip
 refine zaD ?_;refine uCo (fun h25=> ?_) fun h26=> ?_
 refine zf (zP (M':=[.arr (.slice (some ⟨b,off,none⟩) n cap) 7 ((A++X.take (p-A.length)++Y.take (d-p)++(X.drop (p-A.length)++(Y.drop (d-p)++C))).map zB)]) (by simp)) ?_;refine gz6 ?_;refine de rfl (za (i:=0) zqM rfl (WeakL.refl _) rfl (ih (A:=A) (X:=X.take (p-A.length)) (Y:=Y.take (d-p)) (C:=X.drop (p-A.length)++(Y.drop (d-p)++C)) (by simp;omega) (by simp;omega) (by simp;omega) (by simp;omega) uO (by simp;omega) (by simp;omega) (hX.take _) (hY.take _)) ?_)
 rintro _ _ ⟨Z1,rfl,⟨hz1,hz2⟩,rfl⟩;refine gz1 ?_;exact ⟨Z1,⟨hz1,hz2⟩,trivial,uK,Ab _⟩;refine gz1 ?_;exact ⟨X.take (p-A.length)++Y.take (d-p),⟨Ab _,zog hX hY (by rcases Az A.length p with q|q;(have:=h26 uO;omega);omega)⟩,trivial,uK,zm (by simp)⟩
 intro Z1 hinv
 obtain ⟨hz1,hz2⟩:=hinv;refine zaD ?_;refine uCo (fun h27=> ?_) fun h28=> ?_
 have hzl:=hz1.length_eq;simp only [Af,Ag] at hzl;refine zf (zP (M':=[.arr (.slice (some ⟨b,off,none⟩) n cap) 7 (((A++Z1)++X.drop (p-A.length)++Y.drop (d-p)++C).map zB)]) (by simp)) ?_;refine gz6 ?_;refine de rfl (za (i:=0) zqM rfl (WeakL.refl _) rfl (ih (A:=A++Z1) (X:=X.drop (p-A.length)) (Y:=Y.drop (d-p)) (C:=C) (by simp;omega) (by simp;omega) (by simp;omega) (by simp;omega) (by simp;omega) (by simp;omega) (by simp;omega) (hX.drop _) (hY.drop _)) ?_)
 rintro _ _ ⟨Z2,rfl,⟨hz3,hz4⟩,rfl⟩;refine gz1 ?_;exact zT rfl ⟨Z1++Z2,rfl,zgW hc hX hY uO uO hk1 hk2 hz1 hz3 hz2 hz4,by simp⟩;refine gz1 ?_;exact zT rfl ⟨Z1++(X.drop (p-A.length)++Y.drop (d-p)),rfl,zgW hc hX hY uO uO hk1 hk2 hz1 (Ab _) hz2 (zmR hX hY (by rcases Az p (A.length+X.length) with q|q;(have:=h28 uO;omega);omega)),by simp⟩
theorem zkO [Tracks] {N:Nat} {n b off cap:Nat} {fid:FuncId} {caps:List HVal} {c:MendS->MendS->Int} {A X Y C:List MendS} {ia im ib:Int} (hca:Callable prog fid) (hp: ∀x y,ConP prog fid ([zB x,zB y]++caps) (.int .i64 (c x y))) (hc:Cmp c fun _=>True) (hl:n<=1000000) (hx0:0<X.length) (hy0:0<Y.length) (hN:X.length+Y.length<=N) (hn:A.length+X.length+Y.length+C.length=n) (hia:ia=(A.length:Int)) (him:im=(A.length:Int)+X.length) (hib:ib=(A.length:Int)+X.length+Y.length) (hX:Srt c X) (hY:Srt c Y):Con prog 303 [.raw (.slice (some ⟨b,off,none⟩) n cap),.int .i64 ia,.int .i64 im,.int .i64 ib,.fn (.func fid) [] caps] [.arr (.slice (some ⟨b,off,none⟩) n cap) 7 ((A++X++Y++C).map zB)] (fun x M'=> ∃Z:List MendS,x= .tup []/\(Z.Perm (X++Y)/\Srt c Z)/\M'=[.arr (.slice (some ⟨b,off,none⟩) n cap) 7 ((A++Z++C).map zB)]):=by
 induction N using Nat.strongRecOn generalizing A X Y C ia im ib with
 |ind N ih=>
   exact zoE hca hp hc hx0 hy0 hN hn hia him hib hX hY hl (fun a1 a2 a3 a4 a5 a6 a7 a8 a9=>ih _ a3 a1 a2 (Ae _) a4 a5 a6 a7 a8 a9)
theorem znd [Tracks] {l:List MendS} {n0:Int} {n b off cap:Nat} {fid:FuncId} {caps:List HVal} {c:MendS->MendS->Int} (hca:Callable prog fid) (hp: ∀x y,ConP prog fid ([zB x,zB y]++caps) (.int .i64 (c x y))) (hc:Cmp c fun _=>True) (hn:l.length=n) (hn0:n0=(n:Int)) (hl:n<=1000000):Con prog 245 [.raw (.slice (some ⟨b,off,none⟩) n cap),.int .i64 n0,.fn (.func fid) [] caps] [.arr (.slice (some ⟨b,off,none⟩) n cap) 7 ((l).map zB)] (fun x M'=> ∃Z:List MendS,x= .tup []/\(Z.Perm l/\Srt c Z)/\M'=[.arr (.slice (some ⟨b,off,none⟩) n cap) 7 ((Z).map zB)]):=by
 refine uOb func245 ntmps245 ?_;refine zaD ?_;refine uV3 [7,2,11,12] (fun (a0:Nat) (k:Nat) (Z:List MendS)=>[(7,.int .i64 (a0:Int)),(8,.int .i64 ((a0+20:Nat):Int))]) (fun (a0:Nat) (k:Nat) (Z:List MendS)=>[.arr (.slice (some ⟨b,off,none⟩) n cap) 7 ((Z++l.drop a0).map zB)]) (fun (a0:Nat) (k:Nat) (Z:List MendS)=>a0=20*k/\a0<=n/\Blk c 20 Z/\Z.length=a0/\Z.Perm (l.take a0)) (fun (a0:Nat) (k:Nat) (Z:List MendS)=>n-a0) (0) (0) ([]) ?_ ?_ ?_ ?_;exact ⟨rfl,Ad _,Blk.nil,rfl,by simp⟩;exact ⟨rfl,rfl,trivial⟩;exact zm (by simp)
 intro a0 k Z hinv
 obtain ⟨ha0,ha1,hZ,hZl,hZp⟩:=hinv;refine gz6 ?_;refine uCo (fun h1=> ?_) fun h2=> ?_
 refine gz3 ?_;refine zf (zP (M':=[.arr (.slice (some ⟨b,off,none⟩) n cap) 7 ((Z++(l.drop a0).take 20++l.drop (a0+20)).map zB)]) (by rw [An Z,<-win])) ?_;refine gz5 ?_;refine de rfl (za (i:=0) zs6 rfl (WeakL.refl _) rfl (zjN (A:=Z) (X:=((l.drop a0).take 20)) (C:=(l.drop (a0+20))) (n:=n) hca hp (by simp;omega) uO (by simp;omega) hl) ?_)
 rintro _ _ ⟨rfl,rfl⟩;refine zcc ?_;exact ⟨a0+20,k+1,Z++zX c ((l.drop a0).take 20),⟨by omega,by omega,hZ.add (k:=k) uO (zbW hc _) (by rw [zay,Ag];omega),by rw [Af,zay,Ag,Au];omega,by rw [zcJ];exact hZp.append (zaU c _)⟩,uD,⟨zg uO,zg uO,trivial⟩,uK,Ab _⟩;refine gz2 ?_;refine zbX ?_;refine gz2 ?_;refine zf (zP (M':=[.arr (.slice (some ⟨b,off,none⟩) n cap) 7 ((Z++l.drop a0++[]).map zB)]) (by simp)) ?_;refine gz5 ?_;refine de rfl (za (i:=0) zs6 rfl (WeakL.refl _) rfl (zjN (A:=Z) (X:=(l.drop a0)) (C:=[]) (n:=n) hca hp (by simp;omega) uO (by simp;omega) hl) ?_)
 rintro _ _ ⟨rfl,rfl⟩;refine gz2 ?_;refine uV2 [6,4,28,35] (fun (bs:Nat) (D:List MendS)=>[(6,.int .i64 (bs:Int))]) (fun (bs:Nat) (D:List MendS)=>[.arr (.slice (some ⟨b,off,none⟩) n cap) 7 ((D).map zB)]) (fun (bs:Nat) (D:List MendS)=>20<=bs/\bs<=2*n+20/\Blk c bs D/\D.Perm l) (fun (bs:Nat) (D:List MendS)=>n-bs) (20) (Z++zX c (l.drop a0)) ?_ ?_ ?_ ?_;refine ⟨Ae _,by omega,hZ.add (k:=k) uO (zbW hc _) (by rw [zay,Au];omega),?_⟩
 have:=hZp.append (zaU c (l.drop a0))
 rwa [Am] at this
 exact ⟨rfl,trivial⟩;exact zm (by simp)
 intro bs D hinv
 obtain ⟨hb1,hb2,hD,hDp⟩:=hinv;have hDl:D.length=n:=by rw [hDp.length_eq];exact hn
 refine gz1 ?_
 skip
 refine gz5 ?_;refine uCo (fun h3=> ?_) fun h4=> ?_
 refine gz5 ?_;refine dq (zbP rfl rfl uO uO) ?_;refine gz5 ?_;refine uV3 [7,2,33,16] (fun (a0:Nat) (k:Nat) (Z:List MendS)=>[(7,.int .i64 (a0:Int)),(8,.int .i64 ((a0+bs+bs:Nat):Int))]) (fun (a0:Nat) (k:Nat) (Z:List MendS)=>[.arr (.slice (some ⟨b,off,none⟩) n cap) 7 ((Z++D.drop a0).map zB)]) (fun (a0:Nat) (k:Nat) (Z:List MendS)=>a0=2*bs*k/\a0<=n/\Blk c (bs+bs) Z/\Z.length=a0/\Z.Perm (D.take a0)) (fun (a0:Nat) (k:Nat) (Z:List MendS)=>n-a0) (0) (0) ([]) ?_ ?_ ?_ ?_;exact ⟨by simp,Ad _,Blk.nil,rfl,by simp⟩;exact ⟨rfl,zg uO,trivial⟩;exact zm (by simp)
 intro a0 k Z hinv
 obtain ⟨ha0,ha1,hZ,hZl,hZp⟩:=hinv;refine gz6 ?_;refine uCo (fun h5=> ?_) fun h6=> ?_
 refine gz3 ?_;refine zf (zP (M':=[.arr (.slice (some ⟨b,off,none⟩) n cap) 7 ((Z++(D.drop a0).take bs++(D.drop (a0+bs)).take bs++D.drop (a0+bs+bs)).map zB)]) (by rw [An (Z++_),<-win,An Z,<-win])) ?_;refine gz8 ?_;refine de rfl (za (i:=0) zqM rfl (WeakL.refl _) rfl (zkO (A:=Z) (X:=((D.drop a0).take bs)) (Y:=((D.drop (a0+bs)).take bs)) (C:=(D.drop (a0+bs+bs))) (n:=n) hca hp hc hl (by simp;omega) (by simp;omega) (Ae _) (by simp;omega) uO (by simp;omega) (by simp;omega) (hD.at (q:=2*k) (by rw [ha0,A2,AM])) (hD.at (q:=2*k+1) (by rw [ha0,BA,Bm,A2,AM]))) ?_)
 rintro _ _ ⟨Z43,rfl,⟨hz1,hz2⟩,rfl⟩;refine gz8 ?_;refine dq (zbP rfl rfl uO uO) ?_;refine gz4 ?_;refine ⟨a0+bs+bs,k+1,Z++Z43,⟨?_,by omega,hZ.add (k:=k) ?_ hz2 ?_,?_,?_⟩,uD,⟨zg uO,zg uO,trivial⟩,uK,zm (by simp)⟩
 rw [BA,Bm,<-ha0];omega;rw [hZl,ha0,BB];rw [hz1.length_eq];simp only [Af,Ag];omega;rw [Af,hz1.length_eq];simp only [Af,Ag,Au];omega;rw [AG,zcJ];refine hZp.append (hz1.trans ?_)
 rw [zcJ,AN];refine gz2 ?_;refine zbX ?_;refine gz2 ?_;refine uVj [9,1,49,12] (fun (D2:List MendS)=>[]) (fun (D2:List MendS)=>[.arr (.slice (some ⟨b,off,none⟩) n cap) 7 ((D2).map zB)]) (fun (D2:List MendS)=>Blk c (bs+bs) D2/\D2.Perm l) ?_ ?_
 skip
 refine zbo ?_;refine uCo (fun h7=> ?_) fun h8=> ?_
 refine zf (zP (M':=[.arr (.slice (some ⟨b,off,none⟩) n cap) 7 ((Z++(D.drop a0).take bs++D.drop (a0+bs)++[]).map zB)]) (by rw [AW,An Z,<-win])) ?_;refine gz6 ?_;refine de rfl (za (i:=0) zqM rfl (WeakL.refl _) rfl (zkO (A:=Z) (X:=((D.drop a0).take bs)) (Y:=(D.drop (a0+bs))) (C:=[]) (n:=n) hca hp hc hl (by simp;omega) (by simp;omega) (Ae _) (by simp;omega) uO (by simp;omega) (by simp;omega) (hD.at (q:=2*k) (by rw [ha0,A2,AM])) (hD.last (q:=2*k+1) (by rw [ha0,BA,Bm,A2,AM]) uO)) ?_)
 rintro _ _ ⟨Z60,rfl,⟨hz1,hz2⟩,rfl⟩;refine gz1 ?_;refine ⟨Z++Z60,⟨hZ.add (k:=k) ?_ hz2 ?_,?_⟩,trivial,uK,zm (by simp)⟩
 rw [hZl,ha0,BB];rw [hz1.length_eq];simp only [Af,Ag,Au];omega;have h9:=hZp.append hz1;rw [<-win,Am] at h9;exact h9.trans hDp;refine gz1 ?_;refine ⟨Z++D.drop a0,⟨hZ.add (k:=k) ?_ (hD.last (q:=2*k) (by rw [ha0,A2,AM]) uO) ?_,?_⟩,trivial,uK,Ab _⟩
 rw [hZl,ha0,BB];simp only [Au];omega;have h9:=hZp.append_right (D.drop a0);rw [Am] at h9;exact h9.trans hDp
 intro D2 hD2
 refine gz2 ?_;refine dq (zbP rfl rfl uO uO) ?_;refine gz3 ?_;exact ⟨bs+bs,D2,⟨by omega,by omega,hD2.1,hD2.2⟩,uD,⟨zg uO,trivial⟩,uK,Ab _⟩;have hDs:=hD.all uO;refine gz2 ?_;refine zM ?_;refine gz1 ?_;exact zT rfl ⟨D,rfl,⟨hDp,hDs⟩,rfl⟩
theorem zox [Tracks] {v:Value} {fid:FuncId} {caps:List HVal}:Con prog 302 [.raw v,.int .i64 0,.int .i64 0,.fn (.func fid) [] caps] [.arr v 7 []] (fun x M'=>x= .tup []/\M'=[.arr v 7 []]):=by
 refine uOb func302 ntmps302 ?_;refine gz6 ?_;refine uV1 [8,2,12,41] (fun (u:Unit)=>[(8,.int .i64 1)]) (fun (u:Unit)=>[.arr v 7 []]) (fun (u:Unit)=>True) (fun (u:Unit)=>0) (()) ?_ ?_ ?_ ?_
 ·trivial
 ·exact ⟨rfl,trivial⟩
 ·exact Ab _
 ·intro u hu
  refine gz6 ?_;refine zaf rfl (fun h1=> ?_) (fun h1=> ?_)
  ·exfalso
   try simp at h1
   all_goals omega
  ·try simp at h1
   refine gz2 ?_;refine zp ?_;refine gz1 ?_;exact zT rfl ⟨rfl,rfl⟩
theorem zmr [Tracks] {v:Value} {fid:FuncId} {caps:List HVal}:Con prog 245 [.raw v,.int .i64 0,.fn (.func fid) [] caps] [.arr v 7 []] (fun x M'=>x= .tup []/\M'=[.arr v 7 []]):=by
 refine uOb func245 ntmps245 ?_;refine zaD ?_;refine uV1 [7,2,11,12] (fun (u:Unit)=>[(7,.int .i64 0),(8,.int .i64 20)]) (fun (u:Unit)=>[.arr v 7 []]) (fun (u:Unit)=>True) (fun (u:Unit)=>0) (()) ?_ ?_ ?_ ?_
 ·trivial
 ·exact ⟨rfl,rfl,trivial⟩
 ·exact Ab _
 ·intro u hu
  refine gz6 ?_;refine zaf rfl (fun h1=> ?_) (fun h1=> ?_)
  ·exfalso
   try simp at h1
   all_goals omega
  ·try simp at h1
   refine gz2 ?_;refine zp ?_;refine gz7 ?_;refine de rfl (za (i:=0) zs6 rfl (WeakL.refl _) rfl zox ?_)
   rintro _ _ ⟨rfl,rfl⟩;refine gz2 ?_;refine uV1 [6,4,28,35] (fun (u:Unit)=>[(6,.int .i64 20)]) (fun (u:Unit)=>[.arr v 7 []]) (fun (u:Unit)=>True) (fun (u:Unit)=>0) (()) ?_ ?_ ?_ ?_
   ·trivial
   ·exact ⟨rfl,trivial⟩
   ·exact Ab _
   ·intro u hu
    refine gz6 ?_;refine zaf rfl (fun h2=> ?_) (fun h2=> ?_)
    ·exfalso
     try simp at h2
     all_goals omega
    ·try simp at h2
     refine gz2 ?_;refine zp ?_;refine gz1 ?_;exact zT rfl ⟨rfl,rfl⟩
theorem zlY [Tracks] {fid:FuncId} {caps:List HVal}:Con prog 172 [.raw (.slice none 0 0),.fn (.func fid) [] caps] [.arr (.slice none 0 0) 7 []] (fun x M'=>x= .tup []/\M'=[.arr (.slice none 0 0) 7 []]):=by
 refine uOb func172 ntmps172 ?_;refine gz3 ?_;refine dq (zar zak rfl) ?_;refine gz1 ?_;refine de rfl (za (i:=0) zwi rfl (WeakL.refl _) rfl zmr ?_)
 rintro _ _ ⟨rfl,rfl⟩;refine gz1 ?_;exact zT rfl ⟨rfl,rfl⟩
theorem zl1 [Tracks] {l:List MendS} {n b off cap:Nat} {fid:FuncId} {caps:List HVal} {c:MendS->MendS->Int} (hca:Callable prog fid) (hp: ∀x y,ConP prog fid ([zB x,zB y]++caps) (.int .i64 (c x y))) (hc:Cmp c fun _=>True) (hn:l.length=n) (hl:n<=1000000):Con prog 172 [.raw (.slice (some ⟨b,off,none⟩) n cap),.fn (.func fid) [] caps] [.arr (.slice (some ⟨b,off,none⟩) n cap) 7 ((l).map zB)] (fun x M'=> ∃Z:List MendS,x= .tup []/\(Z.Perm l/\Srt c Z)/\M'=[.arr (.slice (some ⟨b,off,none⟩) n cap) 7 ((Z).map zB)]):=by
 refine uOb func172 ntmps172 ?_;refine gz3 ?_;refine dq (zar zak rfl) ?_;refine gz1 ?_;refine de rfl (za (i:=0) zwi rfl (WeakL.refl _) rfl (znd hca hp hc hn rfl hl) ?_)
 rintro _ _ ⟨Z,rfl,hz,rfl⟩;refine gz1 ?_;exact zT rfl ⟨Z,rfl,hz,rfl⟩
theorem zmo [Tracks] {l:List MendS} {v:Value} {fid:FuncId} {caps:List HVal} {c:MendS->MendS->Int} (hca:Callable prog fid) (hp: ∀x y,ConP prog fid ([zB x,zB y]++caps) (.int .i64 (c x y))) (hc:Cmp c fun _=>True) (hl:l.length<=1000000):Con prog 172 [.raw v,.fn (.func fid) [] caps] [.arr v 7 (l.map zB)] fun x M'=> ∃Z:List MendS,x= .tup []/\(Z.Perm l/\Srt c Z)/\M'=[.arr v 7 (Z.map zB)]:=
 zhH (fun h1 h2=>by
  have h3:l=[]:=by first|exact List.map_eq_nil_iff.1 h2|simpa using h2
  subst h1 h3;exact zlY.mono fun x M' ⟨e1,e2⟩=>⟨[],e1,⟨Ab _,Srt.nil⟩,e2⟩)
  fun b off cap h1=>by
   rw [Aj] at h1;subst h1;exact zl1 hca hp hc rfl hl
end
end Go.Proofs.YtbbpommdmnjfmaaGreatDoor
namespace Go.HL
section
section
variable {P:Program} {e:Env} {dst:Option Tmp} {ty:TypeId} {pos:String} {af:Array Edge} {g:Option (Nat×Bool)} {M:List MObj} {K:HVal->List MObj->Prop}
theorem zcW [Tracks] {x:Operand} {t el:TypeId} {size bytes:Nat} {zero:Value} {p:Option Addr} {n c:Nat} (hf:Fits P t (.slice el) size bytes zero) (hx:zn e x=some (.raw (.slice p n c))):
 POp P e ⟨dst,.call ⟨.builtin .cap,#[x],#[t]⟩,ty,pos,af,g⟩ (.int .i64 c):=
 zL fun I a w ho=>by
  have h1:=(ho.one (x:=x) (by simp [Op.operands,Call.operands]) hx).raw_inv;exact ⟨_,by simp [execOp,resolve,invoke,builtin,Builtin.cap_,h1,run_underlying hf.slice,goInt],.int _ _⟩
theorem zik [Tracks] {x y:Operand} {t el:TypeId} {size bytes s2 b2:Nat} {zero z2:Value} {d:TD} (hf:Fits P t (.slice el) size bytes zero) (hel:Fits P el d s2 b2 z2) (hx:zn e x=some (.raw (.slice none 0 0))) (hy:zn e y=some (.int .i64 0)):
 POp P e ⟨dst,.slice t x none (some y) none,ty,pos,af,g⟩ (.raw (.slice none 0 0)):=
 zL fun I a w ho=>by
  have h1:=(ho.one (x:=x) (by simp [Op.operands]) hx).raw_inv;have h2:=(ho.one (x:=y) (by simp [Op.operands]) hy).int_inv;exact ⟨_,by simp [execOp,h1,h2,Instr.sliceAt,Instr.slice,Instr.sliceBounds,Instr.sliceBound,asIntOf,run_underlying hf.slice,hel.run_sizeOf],.raw _ rfl⟩
theorem zfI [Tracks] {x y:Operand} {t el it:TypeId} {size bytes sz b2 s3 b3 n:Nat} {zero z2 z3:Value} {d:TD} {q:Int}
 (hf:Fits P t (.slice el) size bytes zero) (hel:Fits P el d sz b2 z2) (hit:Fits P it (.int .i64) s3 b3 z3) (hz:z2.cells.size=sz) (hby:Nat.ble b2 100000=true)
 (hx:zn e x=some (.raw (.slice none 0 0))) (hy:zn e y=some (.int .i64 q)) (hq:q=(n:Int)) (hn:n<=1000000) (h0:0<n)
 (hk: ∀b nc cells,n<=nc->nc<=9223372036854775807->cells.size=nc*sz->K (.raw (.slice (some ⟨b,0,none⟩) n nc)) (.obj b (.cells cells el (0,0))::M)):
 EOp P e M ⟨dst,.call ⟨.builtin .append,#[x,y],#[t,it]⟩,ty,pos,af,g⟩ K:=
 EOp.of_run fun I F a w ho hs=>by
  subst hq;have h1:=(ho.one (x:=x) (by simp [Op.operands,Call.operands]) hx).raw_inv;have h2:=(ho.one (x:=y) (by simp [Op.operands,Call.operands]) hy).int_inv
  let nc:=(Question.appendCap n 0 el).cut (w.tape w.drawn (.appendCap n 0 el))
  have hnc:n<=nc:=by simp only [nc,Question.cut];omega
  have hnm:nc<=9223372036854775807:=by
   simp only [nc,Question.cut];have:=BN (w.tape w.drawn (.appendCap n 0 el)) (show 0<2^63-n by omega)
   omega
  let cells:Array Value:= #[]++Builtin.zeroCells z2.cells n++Builtin.zeroCells z2.cells (nc-n)
  have hcs:cells.size=nc*sz:=by
   simp only [cells,Array.size_append,zf7,hz,Bo,Aq];rw [A7,<-AJ];congr 1;omega
  have hsz0: ¬n*sz=0\/Builtin.zeroCells z2.cells n= #[]:=by
   by_cases h:n*sz=0
   right;apply BH;rw [zf7,hz,h]
   exact .inl h
  obtain ⟨ti,t1,t2,t3,t4⟩:=hel.typeInfo;have hti: ∀w1,(Go.typeInfo el).run P w1= .ok ti w1:=fun w1=>by simp [Go.typeInfo,t1]
  have hwr:IntKind.i64.wrap (n:Int)=(n:Int):=zjA (by omega) (by omega);have hb0: ¬((n:Int)*(b2:Int)>2^48):=by
   have e2:b2<=100000:=Ah hby;have:n*b2<=1000000*100000:=Nat.mul_le_mul hn e2;have h9:((n*b2:Nat):Int)=(n:Int)*(b2:Int):=Int.natCast_mul _ _
   omega
  have hb2: ¬((n:Int)>IntKind.i64.max):=by
   have:IntKind.i64.max=9223372036854775807:=by decide
   rw [this];omega
  have hb3: ¬Builtin.nextslicecap n 0*b2>2^48:=by
   have e1:=zj1 (need:=n) (cap:=0) h0;have e2:b2<=100000:=Ah hby;have:Builtin.nextslicecap n 0*b2<=(2*1000000+192)*100000:=Nat.mul_le_mul (by omega) e2
   omega
  have hch:(choose (.appendCap n 0 el)).run P w= .ok nc {w with drawn:=w.drawn+1}:=by simp [Question.forced,nc]
  refine ⟨.slice (some ⟨w.heap.size,0,none⟩) n nc,_,_,{w with heap:=w.heap.push (.cells cells el (0,0)),drawn:=w.drawn+1},I,?_,.refl I,hk w.heap.size nc cells hnc hnm hcs,.raw _ rfl,?_⟩
  have hap: ∀w1:World,((if n*sz=0 then pure #[] else do pure (Builtin.zeroCells (<-zeroValue el).cells n):Sem (Array Value))).run P w1= .ok (Builtin.zeroCells z2.cells n) w1:=fun w1=>by
   rcases hsz0 with h|h
   rw [if_neg h];simp [hel.run_zero]
   by_cases h':n*sz=0
   rw [if_pos h',h];simp;rw [if_neg h'];simp [hel.run_zero]
  rw [ziR];simp only [B5,As,AH,h1,h2,Builtin.append_,BK,A8,A5,Sem.run_bind,run_underlying hf.slice,run_underlying hit.intD,Result.andThen_ok,
   hel.run_sizeOf,Sem.run_pure,if_true,asInt,hwr,hti,t3]
  have hai: ∀w1:World,(asIntOf (Value.int IntKind.i64 (n:Int))).run P w1= .ok (.i64,(n:Int)) w1:=fun w1=>by simp [asIntOf]
  simp only [hai,Result.andThen_ok,hwr];rw [if_neg (show ¬(n:Int)<0 by omega)];simp only [Sem.run_bind,hti,Result.andThen_ok,t3,Sem.run_pure];rw [if_neg hb0];simp only [Sem.run_bind,hti,Result.andThen_ok,t3,Sem.run_pure,Int.toNat_natCast,A7];rw [if_neg (show ¬n<=0 by omega)];simp only [Sem.run_bind,hti,Result.andThen_ok,t3,Sem.run_pure];rw [if_neg (fun h=>hb2 h.1)];simp only [Sem.run_bind,hti,Result.andThen_ok,t3,Sem.run_pure];rw [if_neg hb3];simp only [Sem.run_bind,Sem.run_pure,hch,Result.andThen_ok,hti,run_askRoom,Builtin.firstCells,Bool.not_true,AQ,if_false,hap,hel.run_zero,newRow,run_newObj]
  rfl
  have hs1:Sat P I (M++F) {w with drawn:=w.drawn+1}:=hs.of_same (fun _ _=>rfl) (fun _ _=>rfl) rfl rfl rfl;exact hs1.new_own (.cells cells el (0,0)) (.obj w.heap.size (.cells cells el (0,0))) rfl (by simp [MSat,push])
end
theorem zfp [Tracks] {e:Env} {M:List MObj} {b nc sz:Nat} {cells:Array Value} {el:TypeId} (hc:cells.size=nc*sz) (hn:nc<=9223372036854775807):Ghost e (.obj b (.cells cells el (0,0))::M) e (.arr (.slice (some ⟨b,0,none⟩) 0 nc) sz []::M):=fun _ I F tmps w h1 hs=>by
 refine ⟨I,.refl I,h1,Sat.change (m:= .obj b (.cells cells el (0,0))) hs (fun _ _ _=>rfl) (fun x hx=> .inl hx) (by simp [MObj.blocks]) ?_ rfl rfl rfl⟩
 have:=hs.obj (.obj b (.cells cells el (0,0))) (by simp);exact .inr ⟨b,0,nc,cells,el,(0,0),rfl,this,Free.zero _,by simp,⟨Ad _,hn⟩,by omega,by simp⟩
theorem za2 {α:Type} {LL:List (List α)} {i:Nat} {x:List α} (hx:LL[i]? =some x):(LL.take (i+1)).flatten.length=(LL.take i).flatten.length+x.length:=by
 rw [List.take_add_one,hx];simp
theorem ze2 {α:Type} {LL:List (List α)} {i:Nat} {x:List α} (hx:LL[i]? =some x):(LL.take (i+1)).flatten=(LL.take i).flatten++x:=by
 rw [List.take_add_one,hx];simp
theorem zcl {α:Type} (LL:List (List α)) (i:Nat):(LL.take i).flatten.length<=LL.flatten.length:=by
 have:=congrArg (fun q=>q.flatten.length) (Am i LL);simp only [List.flatten_append,Af] at this
 omega
end
end Go.HL
namespace Go.Proofs.YtbbpommdmnjfmaaGreatDoor
set_option maxRecDepth 100000
set_option linter.unusedVariables false
set_option linter.unusedSimpArgs false
section
open Go.Proofs.Tryz
open Go.HL
theorem zr2 [Tracks] {n:Nat} (hn:n<=1000000):Con prog 240 [.raw (.slice none 0 0),.int .i64 (n:Int)] [] (fun x M'=> ∃u,x= .raw u/\M'=[.arr u 4 []]):=by
 refine uOb func240 ntmps240 ?_;refine gz8 ?_;refine zaf rfl (fun h1=> ?_) (fun h1=> ?_)
 exfalso
 try simp at h1
 omega
 try simp at h1
 refine gz6 ?_;refine dq (zcW zaZ rfl) ?_;refine gz1 ?_;refine dq (zar zaZ rfl) ?_;refine gz8 ?_;refine uCo (fun h2=> ?_) fun h3=> ?_
 refine gz3 ?_;refine dq (zcW zaZ rfl) ?_;refine dq (zik zaZ zaR rfl rfl) ?_;refine gz1 ?_;refine de rfl (zfI (n:=n) zaZ zaR ty3 rfl rfl rfl rfl uO uO uO fun b nc cells hnc hnm hcs=> ?_)
 refine gz1 ?_;refine dq (zar zaZ rfl) ?_;refine dq (zb5 (h:=0) zaZ zaR rfl ⟨_,_,rfl,rfl⟩ uO) ?_;refine gz8 ?_;exact zag (zfp hcs hnm) rfl ⟨_,rfl,rfl⟩;refine gz7 ?_;exact zag (zG 4) rfl ⟨_,rfl,rfl⟩
theorem zlM [Tracks] {LL:List (List MoveS)} (hl:LL.length<=1000) (hs:LL.flatten.length<=100000):zeK prog 166 [.slice 1 (LL.map fun l=>HVal.slice 4 (l.map zaS))] 4 (LL.flatten.map zaS):=by
 refine uOb func166 ntmps166 ?_;refine gz9 ?_;refine dq (zaq (f:=fun l:List MoveS=>HVal.slice 4 (l.map zaS)) (l:=LL) zm3 rfl) ?_;refine gz3 ?_;refine uV1 [3,1,5,1,11,12] (fun (i:Nat)=>[(11,.int .i64 i),(3,.int .i64 ((LL.take i).flatten.length:Int))]) (fun (i:Nat)=>[]) (fun (i:Nat)=>i<=LL.length/\(True)) (fun (i:Nat)=>LL.length-i) (0) ?_ ?_ ?_ ?_;exact ⟨Ad _,trivial⟩;exact ⟨rfl,rfl,trivial⟩;exact Ab _
 intro i hinv
 obtain ⟨hi,-⟩:=hinv;refine gz4 ?_;refine uCo (fun h1=> ?_) fun h2=> ?_
 obtain ⟨x,hx⟩: ∃x,LL[i]? =some x:=⟨_,Aa h1⟩
 have hdx:=zi hx;refine gz5 ?_;refine dq (zl (f:=fun l:List MoveS=>HVal.slice 4 (l.map zaS)) (l:=LL) (j:=i) (a:=x) zm3 zaZ rfl rfl rfl hx) ?_;refine gz7 ?_;have hfl:=zcl LL (i+1);have hfs:=za2 hx;refine gz7 ?_;refine zaf rfl (fun h3=> ?_) (fun h3=> ?_)
 exfalso
 try simp at h3
 omega
 try simp at h3
 refine gz7 ?_;exact ⟨i+1,⟨by omega,trivial⟩,uD,⟨rfl,zg (by rw [za2 hx];simp),trivial⟩,uK,Ab _⟩;have hni:LL.length<=i:=by omega
 obtain rfl:i=LL.length:=by omega
 refine gz2 ?_;refine zp ?_;refine gz2 ?_;rw [Al];refine gz2 ?_;refine de rfl (zeG (M1:=[]) (R:=[]) zyX rfl (WeakL.refl _) (Ab _) (zr2 (n:=LL.flatten.length) uO) ?_)
 rintro _ _ ⟨u24,rfl,rfl⟩;refine gz5 ?_;refine dq (zaq (f:=fun l:List MoveS=>HVal.slice 4 (l.map zaS)) (l:=LL) zm3 rfl) ?_;refine gz3 ?_;refine uV2 [6,1,8,1,27,8] (fun (j:Nat) (u:Value)=>[(27,.int .i64 j),(6,.raw u)]) (fun (j:Nat) (u:Value)=>[.arr u 4 ((LL.take j).flatten.map zaS)]) (fun (j:Nat) (u:Value)=>j<=LL.length/\(True)) (fun (j:Nat) (u:Value)=>LL.length-j) (0) (u24) ?_ ?_ ?_ ?_;exact ⟨Ad _,trivial⟩;exact ⟨rfl,rfl,trivial⟩;exact Ab _
 intro j u hinv
 obtain ⟨hj,-⟩:=hinv;refine gz4 ?_;refine uCo (fun h4=> ?_) fun h5=> ?_
 obtain ⟨y,hy⟩: ∃y,LL[j]? =some y:=⟨_,Aa h4⟩
 have hdy:=zi hy;refine gz5 ?_;refine dq (zl (f:=fun l:List MoveS=>HVal.slice 4 (l.map zaS)) (l:=LL) (j:=j) (a:=y) zm3 zaZ rfl rfl rfl hy) ?_;refine gz6 ?_;refine de rfl (zC (i:=0) zaZ zaR rfl rfl rfl rfl rfl (by simp [zal,zd]) (by have h1:=zcl LL (j+1);have h2:=za2 hy;simp only [Aj];omega) fun v33=> ?_)
 refine gz8 ?_;exact ⟨j+1,v33,⟨by omega,trivial⟩,uD,⟨rfl,rfl,trivial⟩,uK,zm (by dsimp only;rw [ze2 hy,Ap];rfl)⟩;have hnj:LL.length<=j:=by omega
 obtain rfl:j=LL.length:=by omega
 refine gz2 ?_;refine zM ?_;refine gz7 ?_;refine zdU rfl ?_;rw [Al]
theorem zr5 [Tracks] {c:MoveS->MoveS->Int} (hO:Go.Sort.SWO (Go.Proofs.ltOf c)) {g:FuncId} (hg:Callable prog g) {cap:List HVal} (hc: ∀x y, @ConP zda prog g (zaS x::zaS y::cap) (.int .i64 (c x y))) {l:List MoveS} (hl:l.length<=1000000) {v:Value}:
 Con prog 167 [.raw v,.fn (.func g) [] cap] [.arr v 4 (l.map zaS)] fun x M'=> ∃l':List MoveS,x= .tup []/\l'.Perm l/\l'.Pairwise (fun a b=> ¬c b a<0)/\M'=[.arr v 4 (l'.map zaS)]:=
 zfH (e:=zaS) zpV (Tryz.isAgg72) (Tryz.sizeOf72) (fun _=>rfl) (fun _=>rfl) (fun _=>rfl) hO hg hc hl
theorem zcb [Tracks] {l:List MoveS} {v:Value} (hl:l.length<=1000000):Con prog 29 [.raw v] [.arr v 4 (l.map zaS)] (fun x M'=> ∃u,x= .raw u/\M'=[.arr u 4 ((zv none l).map zaS)]):=by
 refine uOb func29 ntmps29 ?_;refine gz6 ?_;refine de rfl (zaT (i:=0) zaZ rfl rfl ?_)
 refine gz2 ?_;refine uCo (fun h1=> ?_) fun h2=> ?_
 refine gz5 ?_
 (refine zT rfl ⟨_,rfl,?_⟩
  rw [zdx uO])
 refine gz3 ?_;refine zb1 (i:=0) rfl (fun h0 he=> ?_) (fun b off cap hv hcap=> ?_)
 exfalso;have:=congrArg List.length he;simp at this;subst this;simp at h2
 rw [Aj] at hv hcap;subst hv;refine gz4 ?_;refine uV1 [2,4,10,50] (fun (k:Nat)=>[(3,.int .i64 (k:Int))]) (fun (k:Nat)=>[.arr (.slice (some ⟨b,off,none⟩) l.length cap) 4 (l.map zaS)]) (fun (k:Nat)=>(1<=k/\k<=l.length)/\zv none (l.take k)=l.take k) (fun (k:Nat)=>l.length-k) (1) ?_ ?_ ?_ ?_;exact ⟨⟨by omega,by omega⟩,zdx (by simp;omega)⟩;exact ⟨rfl,trivial⟩;exact Ab _
 intro k hinv
 obtain ⟨⟨hk1,hk⟩,hu⟩:=hinv;refine gz4 ?_;refine de rfl (zaT (i:=0) zaZ rfl rfl ?_)
 refine gz2 ?_;refine uCo (fun h3=> ?_) fun h4=> ?_
 obtain ⟨x,hx⟩: ∃x,l[k]? =some x:=⟨_,Aa uO⟩
 obtain ⟨y,hy⟩: ∃y,l[k-1]? =some y:=⟨_,Aa uO⟩
 refine gz4 ?_;refine zw (fun M=>M=[.arr (.slice (some ⟨b,off,none⟩) l.length cap) 4 (l.map zaS)]) [3,8] mixed ?_;refine gz2 ?_;refine uB 2 rfl (ze (j:=k) zaZ zaR rfl rfl rfl uO) ?_;refine uM 3 rfl rfl (uW (zj (i:=0) (j:=k) zaR rfl uO rfl hx rfl rfl rfl ⟨rfl,rfl⟩)) ?_;refine gz3 ?_;refine uB 7 rfl (ze (j:=k-1) zaZ zaR rfl rfl uO uO) ?_;refine uM 8 rfl rfl (uW (zj (i:=0) (j:=k-1) zaR rfl uO rfl hy rfl rfl rfl ⟨rfl,rfl⟩)) ?_;refine uB 9 rfl (zgT zaR zuZ rfl rfl ⟨rfl,⟨_,_,_,_,ty3,rfl⟩,⟨rfl,⟨_,_,_,_,ty3,rfl⟩,⟨rfl,⟨_,_,_,_,ty9,rfl⟩,⟨rfl,⟨_,_,_,_,ty9,rfl⟩,trivial⟩⟩⟩⟩) ?_;refine gz1 ?_;refine uCo (fun h5=> ?_) fun h6=> ?_
 have hxy:x=y:=(zg4 _ _).1 (by simpa using h5);obtain ⟨hC0,hU0⟩:=CmpA.start hx hy uO hxy hu;refine gz3 ?_;refine dq (zcf (l:=k) (h:=l.length) zaZ zaR rfl ⟨_,_,rfl,rfl⟩ rfl uO uO hcap) ?_;refine gz2 ?_;rw [zg6 uO];refine gz5 ?_;refine uV2 [3,1,5,1,29,25] (fun (k2:Nat) (D:List MoveS)=>[(5,.int .i64 (k2:Int)),(3,.int .i64 ((zv none (l.take (k+k2))).length:Int))]) (fun (k2:Nat) (D:List MoveS)=>[.arr (.slice (some ⟨b,off,none⟩) l.length cap) 4 (D.map zaS)]) (fun (k2:Nat) (D:List MoveS)=>(1<=k2/\k+k2<=l.length)/\CmpA l (k+k2) D) (fun (k2:Nat) (D:List MoveS)=>l.length-k2) (1) (l) ?_ ?_ ?_ ?_;exact ⟨⟨by omega,by have:=zo hx;omega⟩,hC0⟩;exact ⟨rfl,zg (by rw [hU0]),trivial⟩;exact Ab _
 intro k2 D hinv
 obtain ⟨⟨hk2,hkk⟩,hD⟩:=hinv;have hlt0:=hD.lt;have hle0:=hD.len;refine gz4 ?_;refine dq (zar zaZ rfl) ?_;refine gz2 ?_;refine uCo (fun h7=> ?_) fun h8=> ?_
 obtain ⟨x2,hx2⟩: ∃x,l[k+k2]? =some x:=⟨_,Aa uO⟩
 obtain ⟨y2,hy2⟩: ∃y,l[k+k2-1]? =some y:=⟨_,Aa uO⟩
 have hDx:D[k+k2]? =some x2:=by rw [hD.hi _ uO,hx2]
 have hDy:D[k+k2-1]? =some y2:=by rw [hD.hi _ uO,hy2]
 refine gz4 ?_;refine zw (fun M=>M=[.arr (.slice (some ⟨b,off,none⟩) l.length cap) 4 (D.map zaS)]) [3,8] mixed ?_;refine gz2 ?_;refine uB 2 rfl (ze (j:=k2) zaZ zaR rfl rfl rfl uO) ?_;refine uM 3 rfl rfl (uW (zj (i:=0) (j:=(k+k2)) zaR rfl uO rfl hDx rfl rfl rfl ⟨rfl,rfl⟩)) ?_;refine gz3 ?_;refine uB 7 rfl (ze (j:=k2-1) zaZ zaR rfl rfl uO uO) ?_;refine uM 8 rfl rfl (uW (zj (i:=0) (j:=(k+k2-1)) zaR rfl uO rfl hDy rfl rfl rfl ⟨rfl,rfl⟩)) ?_;refine uB 9 rfl (zbQ zaR zuZ rfl rfl ⟨rfl,⟨_,_,_,_,ty3,rfl⟩,⟨rfl,⟨_,_,_,_,ty3,rfl⟩,⟨rfl,⟨_,_,_,_,ty9,rfl⟩,⟨rfl,⟨_,_,_,_,ty9,rfl⟩,trivial⟩⟩⟩⟩) ?_;refine gz1 ?_;refine uCo (fun h9=> ?_) fun h10=> ?_
 refine gz5 ?_;refine dq (ze (j:=k2) zaZ zaR rfl rfl rfl uO) ?_;refine de rfl (zj (i:=0) (j:=(k+k2)) zaR rfl uO rfl hDx rfl rfl rfl ?_)
 refine dq (ze (j:=(zv none (l.take (k+k2))).length) zaZ zaR rfl rfl rfl uO) ?_;refine de0 (zO (i:=0) (j:=(zv none (l.take (k+k2))).length) (y:=D[(zv none (l.take (k+k2))).length]'uO) (y':=x2) zaR rfl rfl rfl rfl (Aa _) rfl rfl rfl ?_)
 refine zfL ?_;have hxy:x2≠y2:=fun q=>by have q2:=(zg4 _ _).2 q;simp_all
 obtain ⟨hC1,hU1⟩:=hD.more hx2 hy2 hxy;exact ⟨k2+1,_,⟨⟨by omega,by omega⟩,hC1⟩,uD,⟨rfl,zg (by rw [<-AG,hU1];rfl),trivial⟩,uK,Ab _⟩;refine gz8 ?_;have hxy:x2=y2:=(zg4 _ _).1 (by simpa using h10);obtain ⟨hC1,hU1⟩:=hD.same hx2 hy2 hxy;exact ⟨k2+1,D,⟨⟨by omega,by omega⟩,hC1⟩,uD,⟨rfl,zg (by rw [<-AG,hU1]),trivial⟩,uK,Ab _⟩;have hkl:k+k2=l.length:=by omega
 refine gz2 ?_;refine zM ?_;refine gz5 ?_;refine dq (zcf (l:=(zv none (l.take (k+k2))).length) (h:=l.length) zaZ zaR rfl ⟨_,_,rfl,rfl⟩ rfl uO uO hcap) ?_;refine de0 (zc3 (i:=0) (m:=(zv none (l.take (k+k2))).length) ((zv none (l.take (k+k2))).length) zaZ zaR rfl rfl rfl (zfS uO hcap) rfl uO (Ae _) (by rw [Aj,hD.len];omega) ?_)
 refine gz4 ?_;refine dq (zb5 (h:=(zv none (l.take (k+k2))).length) zaZ zaR rfl ⟨_,_,rfl,rfl⟩ uO) ?_;refine gz3 ?_
 (refine zT rfl ⟨_,rfl,?_⟩
  have hlo:=hD.lo;rw [hkl,Al] at hlo⊢;rw [<-Bq,hlo];rfl)
 refine gz8 ?_;have hxy:x≠y:=fun q=>by have q2:=(zg4 _ _).2 q;simp_all
 exact ⟨k+1,⟨⟨by omega,by omega⟩,by rw [zee hx hy uO,if_neg hxy,hu,zV hx]⟩,uD,⟨rfl,trivial⟩,uK,Ab _⟩;have hkl:k=l.length:=by omega
 rw [hkl,Al] at hu;refine gz2 ?_;refine zp ?_;refine gz7 ?_
 (refine zT rfl ⟨_,rfl,?_⟩
  rw [hu])
theorem zrh [Tracks] {l:List MoveS} (hb: ∀x∈l,MovB x) (hl:l.length<=1000000) {v:Value}:
 Con prog 167 [.raw v,.fn (.func 28) [] []] [.arr v 4 (l.map zaS)] fun x M'=> ∃l':List MoveS,x= .tup []/\l'.Perm l/\l'.Pairwise (fun a b=> ¬zdl b a<0)/\M'=[.arr v 4 (l'.map zaS)]:=by
 have h:=zfH (e:=fun x:{m:MoveS//MovB m}=>zaS x.1) zpV (Tryz.isAgg72) (Tryz.sizeOf72) (fun _=>rfl) (fun _=>rfl) (fun _=>rfl) (c:=fun x y=>zdl x.1 y.1) (zhT zot) zuN (fun x y=> @zev zda x.1 y.1 x.2 y.2) (l:=l.attachWith _ hb) (by simpa using hl) (v:=v);rw [zk0 hb zaS] at h;refine h.mono fun x M' ⟨l',e1,hp,hw,e2⟩=>⟨l'.map Subtype.val,e1,?_,?_,?_⟩
 have h9:=hp.map Subtype.val;rw [ziC hb] at h9;exact h9;exact List.pairwise_map.2 hw;rw [e2,Bg];rfl
theorem zqy [Tracks] {n:Nat} (hn:n<=1000000):Con prog 246 [.raw (.slice none 0 0),.int .i64 (n:Int)] [] (fun x M'=> ∃u,x= .raw u/\M'=[.arr u 4 []]):=by
 refine uOb func246 ntmps246 ?_;refine gz8 ?_;refine zaf rfl (fun h1=> ?_) (fun h1=> ?_)
 exfalso
 try simp at h1
 omega
 try simp at h1
 refine gz6 ?_;refine dq (zcW zaL rfl) ?_;refine gz1 ?_;refine dq (zar zaL rfl) ?_;refine gz8 ?_;refine uCo (fun h2=> ?_) fun h3=> ?_
 refine gz3 ?_;refine dq (zcW zaL rfl) ?_;refine dq (zik zaL zU rfl rfl) ?_;refine gz1 ?_;refine de rfl (zfI (n:=n) zaL zU ty3 rfl rfl rfl rfl uO uO uO fun b nc cells hnc hnm hcs=> ?_)
 refine gz1 ?_;refine dq (zar zaL rfl) ?_;refine dq (zb5 (h:=0) zaL zU rfl ⟨_,_,rfl,rfl⟩ uO) ?_;refine gz8 ?_;exact zag (zfp hcs hnm) rfl ⟨_,rfl,rfl⟩;refine gz7 ?_;exact zag (zG 4) rfl ⟨_,rfl,rfl⟩
theorem zow [Tracks] {LL:List (List HealthS)} (hl:LL.length<=1000) (hs:LL.flatten.length<=100000):zeK prog 174 [.slice 1 (LL.map fun l=>HVal.slice 4 (l.map zD))] 4 (LL.flatten.map zD):=by
 refine uOb func174 ntmps174 ?_;refine gz9 ?_;refine dq (zaq (f:=fun l:List HealthS=>HVal.slice 4 (l.map zD)) (l:=LL) zpc rfl) ?_;refine gz3 ?_;refine uV1 [3,1,5,1,11,12] (fun (i:Nat)=>[(11,.int .i64 i),(3,.int .i64 ((LL.take i).flatten.length:Int))]) (fun (i:Nat)=>[]) (fun (i:Nat)=>i<=LL.length/\(True)) (fun (i:Nat)=>LL.length-i) (0) ?_ ?_ ?_ ?_;exact ⟨Ad _,trivial⟩;exact ⟨rfl,rfl,trivial⟩;exact Ab _
 intro i hinv
 obtain ⟨hi,-⟩:=hinv;refine gz4 ?_;refine uCo (fun h1=> ?_) fun h2=> ?_
 obtain ⟨x,hx⟩: ∃x,LL[i]? =some x:=⟨_,Aa h1⟩
 have hdx:=zi hx;refine gz5 ?_;refine dq (zl (f:=fun l:List HealthS=>HVal.slice 4 (l.map zD)) (l:=LL) (j:=i) (a:=x) zpc zaL rfl rfl rfl hx) ?_;refine gz7 ?_;have hfl:=zcl LL (i+1);have hfs:=za2 hx;refine gz7 ?_;refine zaf rfl (fun h3=> ?_) (fun h3=> ?_)
 exfalso
 try simp at h3
 omega
 try simp at h3
 refine gz7 ?_;exact ⟨i+1,⟨by omega,trivial⟩,uD,⟨rfl,zg (by rw [za2 hx];simp),trivial⟩,uK,Ab _⟩;have hni:LL.length<=i:=by omega
 obtain rfl:i=LL.length:=by omega
 refine gz2 ?_;refine zp ?_;refine gz2 ?_;rw [Al];refine gz2 ?_;refine de rfl (zeG (M1:=[]) (R:=[]) zy0 rfl (WeakL.refl _) (Ab _) (zqy (n:=LL.flatten.length) uO) ?_)
 rintro _ _ ⟨u24,rfl,rfl⟩;refine gz5 ?_;refine dq (zaq (f:=fun l:List HealthS=>HVal.slice 4 (l.map zD)) (l:=LL) zpc rfl) ?_;refine gz3 ?_;refine uV2 [6,1,8,1,27,8] (fun (j:Nat) (u:Value)=>[(27,.int .i64 j),(6,.raw u)]) (fun (j:Nat) (u:Value)=>[.arr u 4 ((LL.take j).flatten.map zD)]) (fun (j:Nat) (u:Value)=>j<=LL.length/\(True)) (fun (j:Nat) (u:Value)=>LL.length-j) (0) (u24) ?_ ?_ ?_ ?_;exact ⟨Ad _,trivial⟩;exact ⟨rfl,rfl,trivial⟩;exact Ab _
 intro j u hinv
 obtain ⟨hj,-⟩:=hinv;refine gz4 ?_;refine uCo (fun h4=> ?_) fun h5=> ?_
 obtain ⟨y,hy⟩: ∃y,LL[j]? =some y:=⟨_,Aa h4⟩
 have hdy:=zi hy;refine gz5 ?_;refine dq (zl (f:=fun l:List HealthS=>HVal.slice 4 (l.map zD)) (l:=LL) (j:=j) (a:=y) zpc zaL rfl rfl rfl hy) ?_;refine gz6 ?_;refine de rfl (zC (i:=0) zaL zU rfl rfl rfl rfl rfl (by simp [zal,zd]) (by have h1:=zcl LL (j+1);have h2:=za2 hy;simp only [Aj];omega) fun v33=> ?_)
 refine gz8 ?_;exact ⟨j+1,v33,⟨by omega,trivial⟩,uD,⟨rfl,rfl,trivial⟩,uK,zm (by dsimp only;rw [ze2 hy,Ap];rfl)⟩;have hnj:LL.length<=j:=by omega
 obtain rfl:j=LL.length:=by omega
 refine gz2 ?_;refine zM ?_;refine gz7 ?_;refine zdU rfl ?_;rw [Al]
theorem zqA [Tracks] {c:HealthS->HealthS->Int} (hO:Go.Sort.SWO (Go.Proofs.ltOf c)) {g:FuncId} (hg:Callable prog g) {cap:List HVal} (hc: ∀x y, @ConP zda prog g (zD x::zD y::cap) (.int .i64 (c x y))) {l:List HealthS} (hl:l.length<=1000000) {v:Value}:
 Con prog 175 [.raw v,.fn (.func g) [] cap] [.arr v 4 (l.map zD)] fun x M'=> ∃l':List HealthS,x= .tup []/\l'.Perm l/\l'.Pairwise (fun a b=> ¬c b a<0)/\M'=[.arr v 4 (l'.map zD)]:=
 zfH (e:=zD) ztJ (Tryz.isAgg118) (Tryz.sizeOf118) (fun _=>rfl) (fun _=>rfl) (fun _=>rfl) hO hg hc hl
theorem zfg [Tracks] {l:List HealthS} {v:Value} (hl:l.length<=1000000):Con prog 177 [.raw v] [.arr v 4 (l.map zD)] (fun x M'=> ∃u,x= .raw u/\M'=[.arr u 4 ((zv none l).map zD)]):=by
 refine uOb func177 ntmps177 ?_;refine gz6 ?_;refine de rfl (zaT (i:=0) zaL rfl rfl ?_)
 refine gz2 ?_;refine uCo (fun h1=> ?_) fun h2=> ?_
 refine gz5 ?_
 (refine zT rfl ⟨_,rfl,?_⟩
  rw [zdx uO])
 refine gz3 ?_;refine zb1 (i:=0) rfl (fun h0 he=> ?_) (fun b off cap hv hcap=> ?_)
 exfalso;have:=congrArg List.length he;simp at this;subst this;simp at h2
 rw [Aj] at hv hcap;subst hv;refine gz4 ?_;refine uV1 [2,4,10,50] (fun (k:Nat)=>[(3,.int .i64 (k:Int))]) (fun (k:Nat)=>[.arr (.slice (some ⟨b,off,none⟩) l.length cap) 4 (l.map zD)]) (fun (k:Nat)=>(1<=k/\k<=l.length)/\zv none (l.take k)=l.take k) (fun (k:Nat)=>l.length-k) (1) ?_ ?_ ?_ ?_;exact ⟨⟨by omega,by omega⟩,zdx (by simp;omega)⟩;exact ⟨rfl,trivial⟩;exact Ab _
 intro k hinv
 obtain ⟨⟨hk1,hk⟩,hu⟩:=hinv;refine gz4 ?_;refine de rfl (zaT (i:=0) zaL rfl rfl ?_)
 refine gz2 ?_;refine uCo (fun h3=> ?_) fun h4=> ?_
 obtain ⟨x,hx⟩: ∃x,l[k]? =some x:=⟨_,Aa uO⟩
 obtain ⟨y,hy⟩: ∃y,l[k-1]? =some y:=⟨_,Aa uO⟩
 refine gz4 ?_;refine zw (fun M=>M=[.arr (.slice (some ⟨b,off,none⟩) l.length cap) 4 (l.map zD)]) [3,8] mixed ?_;refine gz2 ?_;refine uB 2 rfl (ze (j:=k) zaL zU rfl rfl rfl uO) ?_;refine uM 3 rfl rfl (uW (zj (i:=0) (j:=k) zU rfl uO rfl hx rfl rfl rfl ⟨rfl,rfl⟩)) ?_;refine gz3 ?_;refine uB 7 rfl (ze (j:=k-1) zaL zU rfl rfl uO uO) ?_;refine uM 8 rfl rfl (uW (zj (i:=0) (j:=k-1) zU rfl uO rfl hy rfl rfl rfl ⟨rfl,rfl⟩)) ?_;refine uB 9 rfl (zgT zU zqQ rfl rfl ⟨rfl,⟨_,_,_,_,ty9,rfl⟩,⟨rfl,⟨_,_,_,_,ty3,rfl⟩,⟨rfl,⟨_,_,_,_,ty3,rfl⟩,⟨rfl,⟨_,_,_,_,ty3,rfl⟩,trivial⟩⟩⟩⟩) ?_;refine gz1 ?_;refine uCo (fun h5=> ?_) fun h6=> ?_
 have hxy:x=y:=(zdt _ _).1 (by simpa using h5);obtain ⟨hC0,hU0⟩:=CmpA.start hx hy uO hxy hu;refine gz3 ?_;refine dq (zcf (l:=k) (h:=l.length) zaL zU rfl ⟨_,_,rfl,rfl⟩ rfl uO uO hcap) ?_;refine gz2 ?_;rw [zg6 uO];refine gz5 ?_;refine uV2 [3,1,5,1,29,25] (fun (k2:Nat) (D:List HealthS)=>[(5,.int .i64 (k2:Int)),(3,.int .i64 ((zv none (l.take (k+k2))).length:Int))]) (fun (k2:Nat) (D:List HealthS)=>[.arr (.slice (some ⟨b,off,none⟩) l.length cap) 4 (D.map zD)]) (fun (k2:Nat) (D:List HealthS)=>(1<=k2/\k+k2<=l.length)/\CmpA l (k+k2) D) (fun (k2:Nat) (D:List HealthS)=>l.length-k2) (1) (l) ?_ ?_ ?_ ?_;exact ⟨⟨by omega,by have:=zo hx;omega⟩,hC0⟩;exact ⟨rfl,zg (by rw [hU0]),trivial⟩;exact Ab _
 intro k2 D hinv
 obtain ⟨⟨hk2,hkk⟩,hD⟩:=hinv;have hlt0:=hD.lt;have hle0:=hD.len;refine gz4 ?_;refine dq (zar zaL rfl) ?_;refine gz2 ?_;refine uCo (fun h7=> ?_) fun h8=> ?_
 obtain ⟨x2,hx2⟩: ∃x,l[k+k2]? =some x:=⟨_,Aa uO⟩
 obtain ⟨y2,hy2⟩: ∃y,l[k+k2-1]? =some y:=⟨_,Aa uO⟩
 have hDx:D[k+k2]? =some x2:=by rw [hD.hi _ uO,hx2]
 have hDy:D[k+k2-1]? =some y2:=by rw [hD.hi _ uO,hy2]
 refine gz4 ?_;refine zw (fun M=>M=[.arr (.slice (some ⟨b,off,none⟩) l.length cap) 4 (D.map zD)]) [3,8] mixed ?_;refine gz2 ?_;refine uB 2 rfl (ze (j:=k2) zaL zU rfl rfl rfl uO) ?_;refine uM 3 rfl rfl (uW (zj (i:=0) (j:=(k+k2)) zU rfl uO rfl hDx rfl rfl rfl ⟨rfl,rfl⟩)) ?_;refine gz3 ?_;refine uB 7 rfl (ze (j:=k2-1) zaL zU rfl rfl uO uO) ?_;refine uM 8 rfl rfl (uW (zj (i:=0) (j:=(k+k2-1)) zU rfl uO rfl hDy rfl rfl rfl ⟨rfl,rfl⟩)) ?_;refine uB 9 rfl (zbQ zU zqQ rfl rfl ⟨rfl,⟨_,_,_,_,ty9,rfl⟩,⟨rfl,⟨_,_,_,_,ty3,rfl⟩,⟨rfl,⟨_,_,_,_,ty3,rfl⟩,⟨rfl,⟨_,_,_,_,ty3,rfl⟩,trivial⟩⟩⟩⟩) ?_;refine gz1 ?_;refine uCo (fun h9=> ?_) fun h10=> ?_
 refine gz5 ?_;refine dq (ze (j:=k2) zaL zU rfl rfl rfl uO) ?_;refine de rfl (zj (i:=0) (j:=(k+k2)) zU rfl uO rfl hDx rfl rfl rfl ?_)
 refine dq (ze (j:=(zv none (l.take (k+k2))).length) zaL zU rfl rfl rfl uO) ?_;refine de0 (zO (i:=0) (j:=(zv none (l.take (k+k2))).length) (y:=D[(zv none (l.take (k+k2))).length]'uO) (y':=x2) zU rfl rfl rfl rfl (Aa _) rfl rfl rfl ?_)
 refine zfL ?_;have hxy:x2≠y2:=fun q=>by have q2:=(zdt _ _).2 q;simp_all
 obtain ⟨hC1,hU1⟩:=hD.more hx2 hy2 hxy;exact ⟨k2+1,_,⟨⟨by omega,by omega⟩,hC1⟩,uD,⟨rfl,zg (by rw [<-AG,hU1];rfl),trivial⟩,uK,Ab _⟩;refine gz8 ?_;have hxy:x2=y2:=(zdt _ _).1 (by simpa using h10);obtain ⟨hC1,hU1⟩:=hD.same hx2 hy2 hxy;exact ⟨k2+1,D,⟨⟨by omega,by omega⟩,hC1⟩,uD,⟨rfl,zg (by rw [<-AG,hU1]),trivial⟩,uK,Ab _⟩;have hkl:k+k2=l.length:=by omega
 refine gz2 ?_;refine zM ?_;refine gz5 ?_;refine dq (zcf (l:=(zv none (l.take (k+k2))).length) (h:=l.length) zaL zU rfl ⟨_,_,rfl,rfl⟩ rfl uO uO hcap) ?_;refine de0 (zc3 (i:=0) (m:=(zv none (l.take (k+k2))).length) ((zv none (l.take (k+k2))).length) zaL zU rfl rfl rfl (zfS uO hcap) rfl uO (Ae _) (by rw [Aj,hD.len];omega) ?_)
 refine gz4 ?_;refine dq (zb5 (h:=(zv none (l.take (k+k2))).length) zaL zU rfl ⟨_,_,rfl,rfl⟩ uO) ?_;refine gz3 ?_
 (refine zT rfl ⟨_,rfl,?_⟩
  have hlo:=hD.lo;rw [hkl,Al] at hlo⊢;rw [<-Bq,hlo];rfl)
 refine gz8 ?_;have hxy:x≠y:=fun q=>by have q2:=(zdt _ _).2 q;simp_all
 exact ⟨k+1,⟨⟨by omega,by omega⟩,by rw [zee hx hy uO,if_neg hxy,hu,zV hx]⟩,uD,⟨rfl,trivial⟩,uK,Ab _⟩;have hkl:k=l.length:=by omega
 rw [hkl,Al] at hu;refine gz2 ?_;refine zp ?_;refine gz7 ?_
 (refine zT rfl ⟨_,rfl,?_⟩
  rw [hu])
theorem zqx [Tracks] {n:Nat} (hn:n<=1000000):Con prog 248 [.raw (.slice none 0 0),.int .i64 (n:Int)] [] (fun x M'=> ∃u,x= .raw u/\M'=[.arr u 5 []]):=by
 refine uOb func248 ntmps248 ?_;refine gz8 ?_;refine zaf rfl (fun h1=> ?_) (fun h1=> ?_)
 exfalso
 try simp at h1
 omega
 try simp at h1
 refine gz6 ?_;refine dq (zcW zaa rfl) ?_;refine gz1 ?_;refine dq (zar zaa rfl) ?_;refine gz8 ?_;refine uCo (fun h2=> ?_) fun h3=> ?_
 refine gz3 ?_;refine dq (zcW zaa rfl) ?_;refine dq (zik zaa zR rfl rfl) ?_;refine gz1 ?_;refine de rfl (zfI (n:=n) zaa zR ty3 rfl rfl rfl rfl uO uO uO fun b nc cells hnc hnm hcs=> ?_)
 refine gz1 ?_;refine dq (zar zaa rfl) ?_;refine dq (zb5 (h:=0) zaa zR rfl ⟨_,_,rfl,rfl⟩ uO) ?_;refine gz8 ?_;exact zag (zfp hcs hnm) rfl ⟨_,rfl,rfl⟩;refine gz7 ?_;exact zag (zG 5) rfl ⟨_,rfl,rfl⟩
theorem zov [Tracks] {LL:List (List ChoiceS)} (hl:LL.length<=1000) (hs:LL.flatten.length<=100000):zeK prog 178 [.slice 1 (LL.map fun l=>HVal.slice 5 (l.map zk))] 5 (LL.flatten.map zk):=by
 refine uOb func178 ntmps178 ?_;refine gz9 ?_;refine dq (zaq (f:=fun l:List ChoiceS=>HVal.slice 5 (l.map zk)) (l:=LL) zpd rfl) ?_;refine gz3 ?_;refine uV1 [3,1,5,1,11,12] (fun (i:Nat)=>[(11,.int .i64 i),(3,.int .i64 ((LL.take i).flatten.length:Int))]) (fun (i:Nat)=>[]) (fun (i:Nat)=>i<=LL.length/\(True)) (fun (i:Nat)=>LL.length-i) (0) ?_ ?_ ?_ ?_;exact ⟨Ad _,trivial⟩;exact ⟨rfl,rfl,trivial⟩;exact Ab _
 intro i hinv
 obtain ⟨hi,-⟩:=hinv;refine gz4 ?_;refine uCo (fun h1=> ?_) fun h2=> ?_
 obtain ⟨x,hx⟩: ∃x,LL[i]? =some x:=⟨_,Aa h1⟩
 have hdx:=zi hx;refine gz5 ?_;refine dq (zl (f:=fun l:List ChoiceS=>HVal.slice 5 (l.map zk)) (l:=LL) (j:=i) (a:=x) zpd zaa rfl rfl rfl hx) ?_;refine gz7 ?_;have hfl:=zcl LL (i+1);have hfs:=za2 hx;refine gz7 ?_;refine zaf rfl (fun h3=> ?_) (fun h3=> ?_)
 exfalso
 try simp at h3
 omega
 try simp at h3
 refine gz7 ?_;exact ⟨i+1,⟨by omega,trivial⟩,uD,⟨rfl,zg (by rw [za2 hx];simp),trivial⟩,uK,Ab _⟩;have hni:LL.length<=i:=by omega
 obtain rfl:i=LL.length:=by omega
 refine gz2 ?_;refine zp ?_;refine gz2 ?_;rw [Al];refine gz2 ?_;refine de rfl (zeG (M1:=[]) (R:=[]) zy1 rfl (WeakL.refl _) (Ab _) (zqx (n:=LL.flatten.length) uO) ?_)
 rintro _ _ ⟨u24,rfl,rfl⟩;refine gz5 ?_;refine dq (zaq (f:=fun l:List ChoiceS=>HVal.slice 5 (l.map zk)) (l:=LL) zpd rfl) ?_;refine gz3 ?_;refine uV2 [6,1,8,1,27,8] (fun (j:Nat) (u:Value)=>[(27,.int .i64 j),(6,.raw u)]) (fun (j:Nat) (u:Value)=>[.arr u 5 ((LL.take j).flatten.map zk)]) (fun (j:Nat) (u:Value)=>j<=LL.length/\(True)) (fun (j:Nat) (u:Value)=>LL.length-j) (0) (u24) ?_ ?_ ?_ ?_;exact ⟨Ad _,trivial⟩;exact ⟨rfl,rfl,trivial⟩;exact Ab _
 intro j u hinv
 obtain ⟨hj,-⟩:=hinv;refine gz4 ?_;refine uCo (fun h4=> ?_) fun h5=> ?_
 obtain ⟨y,hy⟩: ∃y,LL[j]? =some y:=⟨_,Aa h4⟩
 have hdy:=zi hy;refine gz5 ?_;refine dq (zl (f:=fun l:List ChoiceS=>HVal.slice 5 (l.map zk)) (l:=LL) (j:=j) (a:=y) zpd zaa rfl rfl rfl hy) ?_;refine gz6 ?_;refine de rfl (zC (i:=0) zaa zR rfl rfl rfl rfl rfl (by simp [zal,zd]) (by have h1:=zcl LL (j+1);have h2:=za2 hy;simp only [Aj];omega) fun v33=> ?_)
 refine gz8 ?_;exact ⟨j+1,v33,⟨by omega,trivial⟩,uD,⟨rfl,rfl,trivial⟩,uK,zm (by dsimp only;rw [ze2 hy,Ap];rfl)⟩;have hnj:LL.length<=j:=by omega
 obtain rfl:j=LL.length:=by omega
 refine gz2 ?_;refine zM ?_;refine gz7 ?_;refine zdU rfl ?_;rw [Al]
theorem zqz [Tracks] {c:ChoiceS->ChoiceS->Int} (hO:Go.Sort.SWO (Go.Proofs.ltOf c)) {g:FuncId} (hg:Callable prog g) {cap:List HVal} (hc: ∀x y, @ConP zda prog g (zk x::zk y::cap) (.int .i64 (c x y))) {l:List ChoiceS} (hl:l.length<=1000000) {v:Value}:
 Con prog 200 [.raw v,.fn (.func g) [] cap] [.arr v 5 (l.map zk)] fun x M'=> ∃l':List ChoiceS,x= .tup []/\l'.Perm l/\l'.Pairwise (fun a b=> ¬c b a<0)/\M'=[.arr v 5 (l'.map zk)]:=
 zfH (e:=zk) ztM (Tryz.isAgg59) (Tryz.sizeOf59) (fun _=>rfl) (fun _=>rfl) (fun _=>rfl) hO hg hc hl
theorem zew [Tracks] {l:List ChoiceS} {v:Value} {fid:FuncId} {caps:List HVal} (hca:Callable prog fid) (hp: ∀x∈l,∀y∈l,ConP prog fid ([zk x,zk y]++caps) (.bool (zfo x y))) (hl:l.length<=1000000):Con prog 180 [.raw v,.fn (.func fid) [] caps] [.arr v 5 (l.map zk)] (fun x M'=> ∃u,x= .raw u/\M'=[.arr u 5 ((zv none l).map zk)]):=by
 refine uOb func180 ntmps180 ?_;refine gz6 ?_;refine de rfl (zaT (i:=0) zaa rfl rfl ?_)
 refine gz2 ?_;refine uCo (fun h1=> ?_) fun h2=> ?_
 refine gz5 ?_
 (refine zT rfl ⟨_,rfl,?_⟩
  rw [zdx uO])
 refine gz3 ?_;refine zb1 (i:=0) rfl (fun h0 he=> ?_) (fun b off cap hv hcap=> ?_)
 exfalso;have:=congrArg List.length he;simp at this;subst this;simp at h2
 rw [Aj] at hv hcap;subst hv;refine gz4 ?_;refine uV1 [4,4,12,53] (fun (k:Nat)=>[(5,.int .i64 (k:Int))]) (fun (k:Nat)=>[.arr (.slice (some ⟨b,off,none⟩) l.length cap) 5 (l.map zk)]) (fun (k:Nat)=>(1<=k/\k<=l.length)/\zv none (l.take k)=l.take k) (fun (k:Nat)=>l.length-k) (1) ?_ ?_ ?_ ?_;exact ⟨⟨by omega,by omega⟩,zdx (by simp;omega)⟩;exact ⟨rfl,trivial⟩;exact Ab _
 intro k hinv
 obtain ⟨⟨hk1,hk⟩,hu⟩:=hinv;refine gz4 ?_;refine de rfl (zaT (i:=0) zaa rfl rfl ?_)
 refine gz2 ?_;refine uCo (fun h3=> ?_) fun h4=> ?_
 obtain ⟨x,hx⟩: ∃x,l[k]? =some x:=⟨_,Aa uO⟩
 obtain ⟨y,hy⟩: ∃y,l[k-1]? =some y:=⟨_,Aa uO⟩
 refine gz4 ?_;refine zw (fun M=>M=[.arr (.slice (some ⟨b,off,none⟩) l.length cap) 5 (l.map zk)]) [4,9] mixed ?_;refine gz3 ?_;refine uB 3 rfl (ze (j:=k) zaa zR rfl rfl rfl uO) ?_;refine uM 4 rfl rfl (uW (zj (i:=0) (j:=k) zR rfl uO rfl hx rfl rfl rfl ⟨rfl,rfl⟩)) ?_;refine gz3 ?_;refine uB 8 rfl (ze (j:=k-1) zaa zR rfl rfl uO uO) ?_;refine uM 9 rfl rfl (uW (zj (i:=0) (j:=k-1) zR rfl uO rfl hy rfl rfl rfl ⟨rfl,rfl⟩)) ?_;refine uB 10 rfl (z7 hca rfl rfl (WeakL.refl _) (hp _ (Ac hx) _ (Ac hy))) ?_;refine gz1 ?_;refine uCo (fun h5=> ?_) fun h6=> ?_
 have hxy:x=y:=(zfR _ _).1 (by simpa using h5);obtain ⟨hC0,hU0⟩:=CmpA.start hx hy uO hxy hu;refine gz3 ?_;refine dq (zcf (l:=k) (h:=l.length) zaa zR rfl ⟨_,_,rfl,rfl⟩ rfl uO uO hcap) ?_;refine gz2 ?_;rw [zg6 uO];refine gz5 ?_;refine uV2 [5,1,7,1,32,27] (fun (k2:Nat) (D:List ChoiceS)=>[(7,.int .i64 (k2:Int)),(5,.int .i64 ((zv none (l.take (k+k2))).length:Int))]) (fun (k2:Nat) (D:List ChoiceS)=>[.arr (.slice (some ⟨b,off,none⟩) l.length cap) 5 (D.map zk)]) (fun (k2:Nat) (D:List ChoiceS)=>(1<=k2/\k+k2<=l.length)/\CmpA l (k+k2) D) (fun (k2:Nat) (D:List ChoiceS)=>l.length-k2) (1) (l) ?_ ?_ ?_ ?_;exact ⟨⟨by omega,by have:=zo hx;omega⟩,hC0⟩;exact ⟨rfl,zg (by rw [hU0]),trivial⟩;exact Ab _
 intro k2 D hinv
 obtain ⟨⟨hk2,hkk⟩,hD⟩:=hinv;have hlt0:=hD.lt;have hle0:=hD.len;refine gz4 ?_;refine dq (zar zaa rfl) ?_;refine gz2 ?_;refine uCo (fun h7=> ?_) fun h8=> ?_
 obtain ⟨x2,hx2⟩: ∃x,l[k+k2]? =some x:=⟨_,Aa uO⟩
 obtain ⟨y2,hy2⟩: ∃y,l[k+k2-1]? =some y:=⟨_,Aa uO⟩
 have hDx:D[k+k2]? =some x2:=by rw [hD.hi _ uO,hx2]
 have hDy:D[k+k2-1]? =some y2:=by rw [hD.hi _ uO,hy2]
 refine gz4 ?_;refine zw (fun M=>M=[.arr (.slice (some ⟨b,off,none⟩) l.length cap) 5 (D.map zk)]) [4,9] mixed ?_;refine gz3 ?_;refine uB 3 rfl (ze (j:=k2) zaa zR rfl rfl rfl uO) ?_;refine uM 4 rfl rfl (uW (zj (i:=0) (j:=(k+k2)) zR rfl uO rfl hDx rfl rfl rfl ⟨rfl,rfl⟩)) ?_;refine gz3 ?_;refine uB 8 rfl (ze (j:=k2-1) zaa zR rfl rfl uO uO) ?_;refine uM 9 rfl rfl (uW (zj (i:=0) (j:=(k+k2-1)) zR rfl uO rfl hDy rfl rfl rfl ⟨rfl,rfl⟩)) ?_;refine uB 10 rfl (z7 hca rfl rfl (WeakL.refl _) (hp _ (Ac hx2) _ (Ac hy2))) ?_;refine gz2 ?_;refine uCo (fun h9=> ?_) fun h10=> ?_
 refine gz5 ?_;refine dq (ze (j:=k2) zaa zR rfl rfl rfl uO) ?_;refine de rfl (zj (i:=0) (j:=(k+k2)) zR rfl uO rfl hDx rfl rfl rfl ?_)
 refine dq (ze (j:=(zv none (l.take (k+k2))).length) zaa zR rfl rfl rfl uO) ?_;refine de0 (zO (i:=0) (j:=(zv none (l.take (k+k2))).length) (y:=D[(zv none (l.take (k+k2))).length]'uO) (y':=x2) zR rfl rfl rfl rfl (Aa _) rfl rfl rfl ?_)
 refine zfL ?_;have hxy:x2≠y2:=fun q=>by have q2:=(zfR _ _).2 q;simp_all
 obtain ⟨hC1,hU1⟩:=hD.more hx2 hy2 hxy;exact ⟨k2+1,_,⟨⟨by omega,by omega⟩,hC1⟩,uD,⟨rfl,zg (by rw [<-AG,hU1];rfl),trivial⟩,uK,Ab _⟩;refine gz8 ?_;have hxy:x2=y2:=(zfR _ _).1 (by simpa using h10);obtain ⟨hC1,hU1⟩:=hD.same hx2 hy2 hxy;exact ⟨k2+1,D,⟨⟨by omega,by omega⟩,hC1⟩,uD,⟨rfl,zg (by rw [<-AG,hU1]),trivial⟩,uK,Ab _⟩;have hkl:k+k2=l.length:=by omega
 refine gz2 ?_;refine zM ?_;refine gz5 ?_;refine dq (zcf (l:=(zv none (l.take (k+k2))).length) (h:=l.length) zaa zR rfl ⟨_,_,rfl,rfl⟩ rfl uO uO hcap) ?_;refine de0 (zc3 (i:=0) (m:=(zv none (l.take (k+k2))).length) ((zv none (l.take (k+k2))).length) zaa zR rfl rfl rfl (zfS uO hcap) rfl uO (Ae _) (by rw [Aj,hD.len];omega) ?_)
 refine gz4 ?_;refine dq (zb5 (h:=(zv none (l.take (k+k2))).length) zaa zR rfl ⟨_,_,rfl,rfl⟩ uO) ?_;refine gz3 ?_
 (refine zT rfl ⟨_,rfl,?_⟩
  have hlo:=hD.lo;rw [hkl,Al] at hlo⊢;rw [<-Bq,hlo];rfl)
 refine gz8 ?_;have hxy:x≠y:=fun q=>by have q2:=(zfR _ _).2 q;simp_all
 exact ⟨k+1,⟨⟨by omega,by omega⟩,by rw [zee hx hy uO,if_neg hxy,hu,zV hx]⟩,uD,⟨rfl,trivial⟩,uK,Ab _⟩;have hkl:k=l.length:=by omega
 rw [hkl,Al] at hu;refine gz2 ?_;refine zp ?_;refine gz7 ?_
 (refine zT rfl ⟨_,rfl,?_⟩
  rw [hu])
theorem zgg [Tracks] {A X B Y C:List ChoiceS} {ia ib k0:Int} {n b off cap:Nat} {f:HVal} (hxy:X.length=Y.length) (hn:A.length+X.length+B.length+Y.length+C.length=n) (hia:ia=(A.length:Int)) (hib:ib=(A.length:Int)+X.length+B.length) (hk0:k0=(X.length:Int)) (hl:n<=1000000):Con prog 385 [.raw (.slice (some ⟨b,off,none⟩) n cap),.int .i64 ia,.int .i64 ib,.int .i64 k0,f] [.arr (.slice (some ⟨b,off,none⟩) n cap) 5 ((A++X++B++Y++C).map zk)] (fun x M'=>x= .tup []/\M'=[.arr (.slice (some ⟨b,off,none⟩) n cap) 5 ((A++Y++B++X++C).map zk)]):=by
 refine uOb func385 ntmps385 ?_;refine gz4 ?_;refine uV1 [10,28] (fun (k:Nat)=>[(10,.int .i64 (k:Int))]) (fun (k:Nat)=>[.arr (.slice (some ⟨b,off,none⟩) n cap) 5 ((swR A X B Y C k).map zk)]) (fun (k:Nat)=>k<=X.length) (fun (k:Nat)=>X.length-k) (0) ?_ ?_ ?_ ?_;exact Ad _;exact ⟨rfl,trivial⟩;exact zm (by rw [zoe])
 intro k hk
 refine gz6 ?_;refine uCo (fun h1=> ?_) fun h2=> ?_
 obtain ⟨x,hx⟩: ∃x,X[k]? =some x:=⟨_,Aa uO⟩
 obtain ⟨y,hy⟩: ∃y,Y[k]? =some y:=⟨_,Aa uO⟩
 refine gz4 ?_;refine zaC (fun M=>M=[.arr (.slice (some ⟨b,off,none⟩) n cap) 5 ((swR A X B Y C k).map zk)]) [13,19] mixed ?_;refine zcc ?_;refine uB 12 rfl (ze (j:=A.length+X.length+B.length+k) zaa zR rfl rfl uO uO) ?_;refine uM 13 rfl rfl (uW (zj (i:=0) (j:=A.length+X.length+B.length+k) zR rfl rfl rfl (zlE hx hy) rfl rfl rfl ⟨rfl,rfl⟩)) ?_;refine gz4 ?_;refine uB 18 rfl (ze (j:=A.length+k) zaa zR rfl rfl uO uO) ?_;refine uM 19 rfl rfl (uW (zj (i:=0) (j:=A.length+k) zR rfl rfl rfl (zhR hx hy) rfl rfl rfl ⟨rfl,rfl⟩)) ?_;refine uB 20 rfl (ze (j:=A.length+k) zaa zR rfl rfl uO uO) ?_;refine uF 21 ?_;refine zF (zO (i:=0) (j:=A.length+k) (y:=x) (y':=y) zR rfl rfl rfl rfl (zhR hx hy) rfl rfl rfl ?_)
 refine ⟨fun _=> .inr (by simp [zS,Region.binds]),?_⟩
 refine uB 22 rfl (ze (j:=A.length+X.length+B.length+k) zaa zR rfl rfl uO uO) ?_;refine uF 23 ?_;refine zF (zO (i:=0) (j:=A.length+X.length+B.length+k) (y:=y) (y':=x) zR rfl rfl rfl rfl (zmQ hx hy) rfl rfl rfl ?_)
 refine ⟨fun _=> .inr (by simp [zS,Region.binds]),?_⟩
 refine gz8 ?_;exact ⟨k+1,by omega,uD,⟨rfl,trivial⟩,uK,zm (by rw [zpO hx hy];rfl)⟩;obtain rfl:k=X.length:=by omega
 rw [zpN hxy];refine gz2 ?_;refine zp ?_;refine gz1 ?_;exact zT rfl ⟨rfl,rfl⟩
theorem zlX [Tracks] {P U W Q:List ChoiceS} {ia im ib:Int} {n b off cap:Nat} {f:HVal} (hu:0<U.length) (hw:0<W.length) (hn:P.length+U.length+W.length+Q.length=n) (hia:ia=(P.length:Int)) (him:im=(P.length:Int)+U.length) (hib:ib=(P.length:Int)+U.length+W.length) (hl:n<=1000000):Con prog 362 [.raw (.slice (some ⟨b,off,none⟩) n cap),.int .i64 ia,.int .i64 im,.int .i64 ib,f] [.arr (.slice (some ⟨b,off,none⟩) n cap) 5 ((P++U++W++Q).map zk)] (fun x M'=>x= .tup []/\M'=[.arr (.slice (some ⟨b,off,none⟩) n cap) 5 ((P++W++U++Q).map zk)]):=by
 refine uOb func362 ntmps362 ?_;refine zrx ?_;refine zjW [10,11,18,19,20,21,22,23,24,25,26,27,28,29,30,31,32,33,34,35,36,37,38,39,40,41,42,43,44,45,46,47,48,49] (fun (P1:List ChoiceS) (U1:List ChoiceS) (W1:List ChoiceS) (Q1:List ChoiceS)=>[(10,.int .i64 (U1.length:Int)),(11,.int .i64 (W1.length:Int))]) (fun (P1:List ChoiceS) (U1:List ChoiceS) (W1:List ChoiceS) (Q1:List ChoiceS)=>[.arr (.slice (some ⟨b,off,none⟩) n cap) 5 ((P1++U1++W1++Q1).map zk)]) (fun (P1:List ChoiceS) (U1:List ChoiceS) (W1:List ChoiceS) (Q1:List ChoiceS)=>P1++W1++U1++Q1=P++W++U++Q/\P1.length+U1.length=P.length+U.length/\0<U1.length/\0<W1.length/\P1.length+U1.length+W1.length+Q1.length=n) (fun (P1:List ChoiceS) (U1:List ChoiceS) (W1:List ChoiceS) (Q1:List ChoiceS)=>U1.length+W1.length) (P) (U) (W) (Q) ?_ ?_ ?_ ?_;exact ⟨rfl,rfl,hu,hw,hn⟩;exact ⟨zg uO,zg uO,trivial⟩;exact Ab _
 intro P1 U1 W1 Q1 hinv
 obtain ⟨hf,hpu,hu1,hw1,hn1⟩:=hinv;refine gz6 ?_;refine uCo (fun h1=> ?_) fun h2=> ?_
 refine gz8 ?_;refine uCo (fun h3=> ?_) fun h4=> ?_
 obtain ⟨Ua,Ub,rfl,hUa⟩: ∃Ua Ub,U1=Ua++Ub/\Ua.length=W1.length:=⟨U1.take W1.length,U1.drop W1.length,(Am _ _).symm,by rw [Ag];omega⟩
 rw [Af] at*;refine zf (zP (M':=[.arr (.slice (some ⟨b,off,none⟩) n cap) 5 ((P1++Ua++Ub++W1++Q1).map zk)]) (by simp)) ?_;refine gz8 ?_;refine de rfl (za (i:=0) ztc rfl (WeakL.refl _) rfl (zgg (A:=P1) (X:=Ua) (B:=Ub) (Y:=W1) (C:=Q1) (n:=n) uO uO uO uO uO hl) ?_)
 rintro _ _ ⟨rfl,rfl⟩;refine gz8 ?_;exact ⟨P1++W1,Ub,Ua,Q1,⟨by rw [<-hf];simp,by simp only [Af] at*;omega,by omega,by omega,by simp only [Af] at*;omega⟩,by dsimp only;simp only [Af] at*;omega,⟨zg uO,zg uO,trivial⟩,uK,Ab _⟩;obtain ⟨Wa,Wb,rfl,hWb⟩: ∃Wa Wb,W1=Wa++Wb/\Wb.length=U1.length:=⟨W1.take (W1.length-U1.length),W1.drop (W1.length-U1.length),(Am _ _).symm,by rw [Au];omega⟩
 rw [Af] at*;refine zf (zP (M':=[.arr (.slice (some ⟨b,off,none⟩) n cap) 5 ((P1++U1++Wa++Wb++Q1).map zk)]) (by simp)) ?_;refine zcc ?_;refine de rfl (za (i:=0) ztc rfl (WeakL.refl _) rfl (zgg (A:=P1) (X:=U1) (B:=Wa) (Y:=Wb) (C:=Q1) (n:=n) uO uO uO uO uO hl) ?_)
 rintro _ _ ⟨rfl,rfl⟩;refine gz8 ?_;exact ⟨P1,Wb,Wa,U1++Q1,⟨by rw [<-hf];simp,by omega,by omega,by omega,by simp only [Af] at*;omega⟩,by dsimp only;simp only [Af] at*;omega,⟨zg uO,zg uO,trivial⟩,uK,zm (by simp)⟩;refine gz2 ?_;refine zlt ?_;refine gz2 ?_;refine zf (zP (M':=[.arr (.slice (some ⟨b,off,none⟩) n cap) 5 ((P1++U1++[]++W1++Q1).map zk)]) (by simp)) ?_;refine gz8 ?_;refine de rfl (za (i:=0) ztc rfl (WeakL.refl _) rfl (zgg (A:=P1) (X:=U1) (B:=[]) (Y:=W1) (C:=Q1) (n:=n) uO uO uO (by simp only [Aq];omega) uO hl) ?_)
 rintro _ _ ⟨rfl,rfl⟩;refine gz1 ?_;exact zT rfl ⟨rfl,by simp only [AW] at*;rw [<-hf];rfl⟩
theorem ziy [Tracks] {A X C:List ChoiceS} {ia ib:Int} {n b off cap:Nat} {fid:FuncId} {caps:List HVal} {c:ChoiceS->ChoiceS->Int} (hca:Callable prog fid) (hp: ∀x y,ConP prog fid ([zk x,zk y]++caps) (.int .i64 (c x y))) (hn:A.length+X.length+C.length=n) (hia:ia=(A.length:Int)) (hib:ib=(A.length:Int)+X.length) (hl:n<=1000000):Con prog 312 [.raw (.slice (some ⟨b,off,none⟩) n cap),.int .i64 ia,.int .i64 ib,.fn (.func fid) [] caps] [.arr (.slice (some ⟨b,off,none⟩) n cap) 5 ((A++X++C).map zk)] (fun x M'=>x= .tup []/\M'=[.arr (.slice (some ⟨b,off,none⟩) n cap) 5 ((A++zX c X++C).map zk)]):=by
 refine uOb func312 ntmps312 ?_;refine gz6 ?_;refine uV1 [8,2,12,41] (fun (k:Nat)=>[(8,.int .i64 ((A.length+k:Nat):Int))]) (fun (k:Nat)=>[.arr (.slice (some ⟨b,off,none⟩) n cap) 5 ((A++(zX c (X.take k)++X.drop k)++C).map zk)]) (fun (k:Nat)=>1<=k) (fun (k:Nat)=>X.length-k) (1) ?_ ?_ ?_ ?_;exact Ae _;exact ⟨zg uO,trivial⟩;exact zm (by rw [zfb])
 intro k hk
 refine gz6 ?_;refine uCo (fun h1=> ?_) fun h2=> ?_
 obtain ⟨x,hx⟩: ∃x,X[k]? =some x:=⟨_,Aa uO⟩
 refine gz9 ?_;refine uV2 [9,1,18,35] (fun (D:List ChoiceS) (B:List ChoiceS)=>[(9,.int .i64 ((A.length+D.length:Nat):Int))]) (fun (D:List ChoiceS) (B:List ChoiceS)=>[.arr (.slice (some ⟨b,off,none⟩) n cap) 5 (((A++D)++x::(B++X.drop (k+1)++C)).map zk)]) (fun (D:List ChoiceS) (B:List ChoiceS)=>D.length+B.length=k/\zct c x (zX c (X.take k))=zct c x D++B) (fun (D:List ChoiceS) (B:List ChoiceS)=>D.length) (zX c (X.take k)) ([]) ?_ ?_ ?_ ?_;exact ⟨by simp [zay];omega,by simp⟩;exact ⟨zg (by simp [zay];omega),trivial⟩;exact zm (by rw [zi hx];simp)
 intro D B hinv
 obtain ⟨hA,hB⟩:=hinv;have hlA:D.length<X.length:=by omega
 refine gz1 ?_;refine zw (fun M=>M=[.arr (.slice (some ⟨b,off,none⟩) n cap) 5 (((A++D)++x::(B++X.drop (k+1)++C)).map zk)]) [8,13] mixed ?_;refine gz7 ?_;refine ahg 7 rfl rfl (by kernel_rfl) (by kernel_rfl) rfl (fun hc=>by
  have hq:0<D.length:=by simp at hc;omega
  exact ⟨_,OpenTo.upd (t:=24) rfl (hc) (OpenTo.upd (t:=23) rfl (hc) (OpenTo.refl _)),ze (j:=(A++D).length) zaa zR rfl rfl (by simp) (by simp;omega)⟩) ?_
 refine zin 8 rfl rfl (by kernel_rfl) (by kernel_rfl) (by simp) rfl rfl (fun hc=>⟨_,OpenTo.upd (t:=25) rfl (hc) (OpenTo.refl _),fun M hM=>by
  subst hM;exact zj (i:=0) (j:=(A++D).length) zR rfl rfl rfl zci rfl rfl rfl ⟨rfl,rfl⟩
  ⟩) ?_
 refine gz2 ?_;refine ahg 11 rfl rfl (by kernel_rfl) (by kernel_rfl) rfl (fun hc=>by
  have hq:0<D.length:=by simp at hc;omega
  exact ⟨_,OpenTo.upd (t:=28) rfl (hc) (OpenTo.refl _),zdv rfl rfl uO uO⟩) ?_
 refine ahg 12 rfl rfl (by kernel_rfl) (by kernel_rfl) rfl (fun hc=>by
  have hq:0<D.length:=by simp at hc;omega
  exact ⟨_,OpenTo.upd (t:=29) rfl (hc) (OpenTo.upd (t:=27) rfl (hc) (OpenTo.refl _)),ze (j:=(A++D).length-1) zaa zR rfl rfl (by simp;omega) (by simp;omega)⟩) ?_
 refine zin 13 rfl rfl (by kernel_rfl) (by kernel_rfl) (by simp) rfl rfl (fun hc=>⟨_,OpenTo.upd (t:=30) rfl (hc) (OpenTo.refl _),fun M hM=>by
  have hq:0<D.length:=by simp at hc;omega
  subst hM;exact zj (i:=0) (j:=(A++D).length-1) zR rfl rfl rfl (zf3 (by simp;omega)) rfl rfl rfl ⟨rfl,rfl⟩
  ⟩) ?_
 refine ahg 14 rfl rfl (by kernel_rfl) (by kernel_rfl) rfl (fun hc=>⟨_,OpenTo.upd (t:=31) rfl (hc) (OpenTo.upd (t:=26) rfl (hc) (OpenTo.upd (t:=22) rfl (hc) (OpenTo.refl _))),z7 hca rfl rfl (WeakL.refl _) (hp _ _)⟩) ?_;refine gz3 ?_;refine uCo (fun h3=> ?_) fun h4=> ?_
 obtain ⟨hA0,hcx⟩:=h3;obtain ⟨D1,y,rfl⟩:=zhQ (A:=D) uO;rw [zhM] at hcx;have hD1:(D1++[y]).length=D1.length+1:=by simp
 refine gz4 ?_;refine zaC (fun M=>M=[.arr (.slice (some ⟨b,off,none⟩) n cap) 5 (((A++(D1++[y]))++x::(B++X.drop (k+1)++C)).map zk)]) [9,13] mixed ?_;refine gz8 ?_;refine uB 8 rfl (ze (j:=(A++(D1++[y])).length-1) zaa zR rfl rfl (by simp;omega) (by simp;omega)) ?_;refine uM 9 rfl rfl (uW (zj (i:=0) (j:=(A++(D1++[y])).length-1) zR rfl rfl rfl (zde) rfl rfl rfl ⟨rfl,rfl⟩)) ?_;refine gz2 ?_;refine uB 12 rfl (ze (j:=(A++(D1++[y])).length) zaa zR rfl rfl (by simp) (by simp;omega)) ?_;refine uM 13 rfl rfl (uW (zj (i:=0) (j:=(A++(D1++[y])).length) zR rfl rfl rfl zci rfl rfl rfl ⟨rfl,rfl⟩)) ?_;refine uB 14 rfl (ze (j:=(A++(D1++[y])).length) zaa zR rfl rfl (by simp) (by simp;omega)) ?_;refine uF 15 ?_;refine zF (zO (i:=0) (j:=(A++(D1++[y])).length) (y:=x) (y':=y) zR rfl rfl rfl rfl zci rfl rfl rfl ?_)
 refine ⟨fun _=> .inr (by simp [zS,Region.binds]),?_⟩
 refine uB 16 rfl (ze (j:=(A++(D1++[y])).length-1) zaa zR rfl rfl (by simp;omega) (by simp;omega)) ?_;refine uF 17 ?_;refine zF (zO (i:=0) (j:=(A++(D1++[y])).length-1) (y:=y) (y':=x) zR rfl rfl rfl rfl (by rw [AP (by simp)];exact zde) rfl rfl rfl ?_)
 refine ⟨fun _=> .inr (by simp [zS,Region.binds]),?_⟩
 refine gz8 ?_;exact ⟨D1,y::B,⟨by simp at hA⊢;omega,zhL hB hcx⟩,uD,⟨zg uO,trivial⟩,uK,zm (by rw [<-An,zhS];simp)⟩;have hins:=zhK (l:=X) (k:=k) hx hB (by intro h0;have h9:=h4 uO;rw [zfO h0] at h9;omega);refine gz2 ?_;refine zM ?_;refine gz8 ?_;exact ⟨k+1,by omega,uD,⟨zg uO,trivial⟩,uK,zm (by rw [ziY hins])⟩;have hend:zX c (X.take k)++X.drop k=zX c X:=by rw [AF uO,zz uO];simp
 refine gz2 ?_;refine zp ?_;refine gz1 ?_;exact zT rfl ⟨rfl,by rw [hend]⟩
theorem zng [Tracks] {A X Y C:List ChoiceS} {ia im ib:Int} {N:Nat} {n b off cap:Nat} {fid:FuncId} {caps:List HVal} {c:ChoiceS->ChoiceS->Int} (hca:Callable prog fid) (hp: ∀x y,ConP prog fid ([zk x,zk y]++caps) (.int .i64 (c x y))) (hc:Cmp c fun _=>True) (hx0:0<X.length) (hy0:0<Y.length) (hN:X.length+Y.length<=N) (hn:A.length+X.length+Y.length+C.length=n) (hia:ia=(A.length:Int)) (him:im=(A.length:Int)+X.length) (hib:ib=(A.length:Int)+X.length+Y.length) (hX:Srt c X) (hY:Srt c Y) (hl:n<=1000000) (ih: ∀{A X Y C:List ChoiceS} {ia im ib:Int},0<X.length->0<Y.length->X.length+Y.length<N->A.length+X.length+Y.length+C.length=n->ia=(A.length:Int)->im=(A.length:Int)+X.length->ib=(A.length:Int)+X.length+Y.length->Srt c X->Srt c Y->Con prog 313 [.raw (.slice (some ⟨b,off,none⟩) n cap),.int .i64 ia,.int .i64 im,.int .i64 ib,.fn (.func fid) [] caps] [.arr (.slice (some ⟨b,off,none⟩) n cap) 5 ((A++X++Y++C).map zk)] (fun x M'=> ∃Z:List ChoiceS,x= .tup []/\(Z.Perm (X++Y)/\Srt c Z)/\M'=[.arr (.slice (some ⟨b,off,none⟩) n cap) 5 ((A++Z++C).map zk)])):Con prog 313 [.raw (.slice (some ⟨b,off,none⟩) n cap),.int .i64 ia,.int .i64 im,.int .i64 ib,.fn (.func fid) [] caps] [.arr (.slice (some ⟨b,off,none⟩) n cap) 5 ((A++X++Y++C).map zk)] (fun x M'=> ∃Z:List ChoiceS,x= .tup []/\(Z.Perm (X++Y)/\Srt c Z)/\M'=[.arr (.slice (some ⟨b,off,none⟩) n cap) 5 ((A++Z++C).map zk)]):=by
 refine uOb func313 ntmps313 ?_;refine gz7 ?_;refine uCo (fun h1=> ?_) fun h2=> ?_
 obtain ⟨x,rfl⟩: ∃x,X=[x]:=List.length_eq_one_iff.1 uO
 simp only [Ao,Aq,A7] at*;refine zaD ?_;refine uV2 [10,3,31,23] (fun (p:Nat) (q:Nat)=>[(10,.int .i64 ((A.length+1+p:Nat):Int)),(11,.int .i64 ((A.length+1+q:Nat):Int))]) (fun (p:Nat) (q:Nat)=>[.arr (.slice (some ⟨b,off,none⟩) n cap) 5 ((A++[x]++Y++C).map zk)]) (fun (p:Nat) (q:Nat)=>p<=q/\q<=Y.length/\(∀y,Y[p-1]? =some y->0<p->c y x<0)/\(∀y,Y[q]? =some y->¬c y x<0)) (fun (p:Nat) (q:Nat)=>q-p) (0) (Y.length) ?_ ?_ ?_ ?_;exact ⟨Ad _,Ae _,fun y _ h=>absurd h (A1 _),fun y h=>by have:=zo h;omega⟩;exact ⟨zg uO,zg uO,trivial⟩;exact Ab _
 intro p q hinv
 obtain ⟨hpq,hqY,hP,hQ⟩:=hinv;refine gz6 ?_;refine uCo (fun h3=> ?_) fun h4=> ?_
 refine gz7 ?_;refine dq (zaY ty3 zch rfl) ?_;refine dq (zdB rfl rfl uO) ?_;refine dq (zae (zaY zch ty3 rfl) (zey (i:=A.length+1+p) (j:=A.length+1+q) uO)) ?_;refine gz2 ?_;obtain ⟨r,hr⟩: ∃r,(A.length+1+p+(A.length+1+q))/2=A.length+1+r:=⟨(A.length+1+p+(A.length+1+q))/2-(A.length+1),by omega⟩
 obtain ⟨y,hy⟩: ∃y,Y[r]? =some y:=⟨_,Aa uO⟩
 refine zw (fun M=>M=[.arr (.slice (some ⟨b,off,none⟩) n cap) 5 ((A++[x]++Y++C).map zk)]) [4,8] mixed ?_;refine gz3 ?_;refine uB 3 rfl (ze (j:=A.length+[x].length+r) zaa zR rfl rfl (by simp;omega) (by simp;omega)) ?_;refine uM 4 rfl rfl (uW (zj (i:=0) (j:=A.length+[x].length+r) zR rfl rfl rfl (zeV hy) rfl rfl rfl ⟨rfl,rfl⟩)) ?_;refine gz2 ?_;refine uB 7 rfl (ze (j:=A.length+0) zaa zR rfl rfl uO uO) ?_;refine uM 8 rfl rfl (uW (zj (i:=0) (j:=A.length+0) zR rfl rfl rfl (zeU (X:=[x]) rfl) rfl rfl rfl ⟨rfl,rfl⟩)) ?_;refine uB 9 rfl (z7 hca rfl rfl (WeakL.refl _) (hp _ _)) ?_;refine gz2 ?_;refine uCo (fun h5=> ?_) fun h6=> ?_
 refine gz6 ?_;exact ⟨r+1,q,⟨by omega,hqY,fun z hz _=>by rw [AU,hy] at hz;rw [<-Ak hz];assumption,hQ⟩,uD,⟨zg uO,rfl,trivial⟩,uK,Ab _⟩;refine gz5 ?_;exact ⟨p,r,⟨by omega,by omega,hP,fun z hz=>by rw [hy] at hz;rw [<-Ak hz];omega⟩,uD,⟨rfl,zg uO,trivial⟩,uK,Ab _⟩;obtain rfl:p=q:=by omega
 refine gz2 ?_;refine zM ?_;refine gz8 ?_;refine uV1 [13,1,55,22] (fun (t:Nat)=>[(13,.int .i64 ((A.length+t:Nat):Int))]) (fun (t:Nat)=>[.arr (.slice (some ⟨b,off,none⟩) n cap) 5 ((wan A Y x C t).map zk)]) (fun (t:Nat)=>t<=p) (fun (t:Nat)=>p-t) (0) ?_ ?_ ?_ ?_;exact Ad _;exact ⟨zg uO,trivial⟩;exact zm (by rw [zon])
 intro t ht
 refine gz7 ?_;refine uCo (fun h7=> ?_) fun h8=> ?_
 obtain ⟨y,hy⟩: ∃y,Y[t]? =some y:=⟨_,Aa uO⟩
 refine gz4 ?_;refine zaC (fun M=>M=[.arr (.slice (some ⟨b,off,none⟩) n cap) 5 ((wan A Y x C t).map zk)]) [9,13] mixed ?_;refine gz8 ?_;refine uB 8 rfl (ze (j:=A.length+t+1) zaa zR rfl rfl uO uO) ?_;refine uM 9 rfl rfl (uW (zj (i:=0) (j:=A.length+t+1) zR rfl rfl rfl (zlJ hy) rfl rfl rfl ⟨rfl,rfl⟩)) ?_;refine gz2 ?_;refine uB 12 rfl (ze (j:=A.length+t) zaa zR rfl rfl uO uO) ?_;refine uM 13 rfl rfl (uW (zj (i:=0) (j:=A.length+t) zR rfl rfl rfl (zhU hy) rfl rfl rfl ⟨rfl,rfl⟩)) ?_;refine uB 14 rfl (ze (j:=A.length+t) zaa zR rfl rfl uO uO) ?_;refine uF 15 ?_;refine zF (zO (i:=0) (j:=A.length+t) (y:=x) (y':=y) zR rfl rfl rfl rfl (zhU hy) rfl rfl rfl ?_)
 refine ⟨fun _=> .inr (by simp [zS,Region.binds]),?_⟩
 refine uB 16 rfl (ze (j:=A.length+t+1) zaa zR rfl rfl uO uO) ?_;refine uF 17 ?_;refine zF (zO (i:=0) (j:=A.length+t+1) (y:=y) (y':=x) zR rfl rfl rfl rfl (zmT hy) rfl rfl rfl ?_)
 refine ⟨fun _=> .inr (by simp [zS,Region.binds]),?_⟩
 refine gz8 ?_;exact ⟨t+1,by omega,uD,⟨zg uO,trivial⟩,uK,zm (by rw [zpT hy];rfl)⟩;obtain rfl:t=p:=by omega
 refine gz2 ?_;refine zp ?_;refine gz3 ?_;exact zT rfl ⟨_,rfl,zn1 hc hY hqY (fun y hy=>by have h1:=hQ y hy;have:=hc.flip y x trivial trivial;have:=hc.flip x y trivial trivial;omega) (fun y hy h0=>by have:=hP y hy h0;omega),by simp [wan]⟩;refine gz9 ?_;refine uCo (fun h9=> ?_) fun h10=> ?_
 obtain ⟨y,rfl⟩: ∃y,Y=[y]:=List.length_eq_one_iff.1 uO
 simp only [Ao,Aq,A7] at*;refine zaD ?_;refine uV2 [14,3,83,24] (fun (p:Nat) (q:Nat)=>[(14,.int .i64 ((A.length+p:Nat):Int)),(15,.int .i64 ((A.length+q:Nat):Int))]) (fun (p:Nat) (q:Nat)=>[.arr (.slice (some ⟨b,off,none⟩) n cap) 5 ((A++X++[y]++C).map zk)]) (fun (p:Nat) (q:Nat)=>p<=q/\q<=X.length/\(∀x,X[p-1]? =some x->0<p->¬c y x<0)/\(∀x,X[q]? =some x->c y x<0)) (fun (p:Nat) (q:Nat)=>q-p) (0) (X.length) ?_ ?_ ?_ ?_;exact ⟨Ad _,Ae _,fun x _ h=>absurd h (A1 _),fun x h=>by have:=zo h;omega⟩;exact ⟨zg uO,zg uO,trivial⟩;exact Ab _
 intro p q hinv
 obtain ⟨hpq,hqX,hP,hQ⟩:=hinv;refine gz6 ?_;refine uCo (fun h11=> ?_) fun h12=> ?_
 refine gz7 ?_;refine dq (zaY ty3 zch rfl) ?_;refine dq (zdB rfl rfl uO) ?_;refine dq (zae (zaY zch ty3 rfl) (zey (i:=A.length+p) (j:=A.length+q) uO)) ?_;refine gz2 ?_;obtain ⟨r,hr⟩: ∃r,(A.length+p+(A.length+q))/2=A.length+r:=⟨(A.length+p+(A.length+q))/2-A.length,by omega⟩
 obtain ⟨x,hx⟩: ∃x,X[r]? =some x:=⟨_,Aa uO⟩
 refine zw (fun M=>M=[.arr (.slice (some ⟨b,off,none⟩) n cap) 5 ((A++X++[y]++C).map zk)]) [4,8] mixed ?_;refine gz3 ?_;refine uB 3 rfl (ze (j:=A.length+X.length+0) zaa zR rfl rfl uO (by simp at hn⊢;omega)) ?_;refine uM 4 rfl rfl (uW (zj (i:=0) (j:=A.length+X.length+0) zR rfl rfl rfl (zeV (Y:=[y]) rfl) rfl rfl rfl ⟨rfl,rfl⟩)) ?_;refine gz2 ?_;refine uB 7 rfl (ze (j:=A.length+r) zaa zR rfl rfl uO uO) ?_;refine uM 8 rfl rfl (uW (zj (i:=0) (j:=A.length+r) zR rfl rfl rfl (zeU hx) rfl rfl rfl ⟨rfl,rfl⟩)) ?_;refine uB 9 rfl (z7 hca rfl rfl (WeakL.refl _) (hp _ _)) ?_;refine gz3 ?_;refine uCo (fun h13=> ?_) fun h14=> ?_
 refine gz6 ?_;exact ⟨r+1,q,⟨by omega,hqX,fun z hz _=>by rw [AU,hx] at hz;rw [<-Ak hz];omega,hQ⟩,uD,⟨zg uO,rfl,trivial⟩,uK,Ab _⟩;refine gz5 ?_;exact ⟨p,r,⟨by omega,by omega,hP,fun z hz=>by rw [hx] at hz;rw [<-Ak hz];omega⟩,uD,⟨rfl,zg uO,trivial⟩,uK,Ab _⟩;obtain rfl:p=q:=by omega
 refine gz2 ?_;refine zM ?_;refine gz8 ?_;refine uV1 [17,1,108,21] (fun (t:Nat)=>[(17,.int .i64 ((A.length+t:Nat):Int))]) (fun (t:Nat)=>[.arr (.slice (some ⟨b,off,none⟩) n cap) 5 ((wan A X y C t).map zk)]) (fun (t:Nat)=>p<=t/\t<=X.length) (fun (t:Nat)=>t) (X.length) ?_ ?_ ?_ ?_;exact ⟨by omega,Ae _⟩;exact ⟨zg uO,trivial⟩;exact zm (by rw [zpS])
 intro t hinv
 obtain ⟨ht,htX⟩:=hinv;refine gz6 ?_;refine uCo (fun h15=> ?_) fun h16=> ?_
 obtain ⟨s,rfl⟩: ∃s,t=s+1:=⟨t-1,by omega⟩
 obtain ⟨x,hx⟩: ∃x,X[s]? =some x:=⟨_,Aa uO⟩
 refine gz4 ?_;refine zaC (fun M=>M=[.arr (.slice (some ⟨b,off,none⟩) n cap) 5 ((wan A X y C (s+1)).map zk)]) [9,13] mixed ?_;refine gz8 ?_;refine uB 8 rfl (ze (j:=A.length+s) zaa zR rfl rfl uO uO) ?_;refine uM 9 rfl rfl (uW (zj (i:=0) (j:=A.length+s) zR rfl rfl rfl (zgu hx).2 rfl rfl rfl ⟨rfl,rfl⟩)) ?_;refine gz2 ?_;refine uB 12 rfl (ze (j:=A.length+s+1) zaa zR rfl rfl uO uO) ?_;refine uM 13 rfl rfl (uW (zj (i:=0) (j:=A.length+s+1) zR rfl rfl rfl (zgu hx).1 rfl rfl rfl ⟨rfl,rfl⟩)) ?_;refine uB 14 rfl (ze (j:=A.length+s+1) zaa zR rfl rfl uO uO) ?_;refine uF 15 ?_;refine zF (zO (i:=0) (j:=A.length+s+1) (y:=y) (y':=x) zR rfl rfl rfl rfl (zgu hx).1 rfl rfl rfl ?_)
 refine ⟨fun _=> .inr (by simp [zS,Region.binds]),?_⟩
 refine uB 16 rfl (ze (j:=A.length+s) zaa zR rfl rfl uO uO) ?_;refine uF 17 ?_;refine zF (zO (i:=0) (j:=A.length+s) (y:=x) (y':=y) zR rfl rfl rfl rfl (zpR hx) rfl rfl rfl ?_)
 refine ⟨fun _=> .inr (by simp [zS,Region.binds]),?_⟩
 refine gz8 ?_;exact ⟨s,⟨by omega,by omega⟩,uD,⟨zg uO,trivial⟩,uK,zm (by rw [zol hx];rfl)⟩;obtain rfl:t=p:=by omega
 refine gz2 ?_;refine zp ?_;refine gz3 ?_;exact zT rfl ⟨_,rfl,zmK hc hX hqX (fun x hx h0=>by have h1:=hP x hx h0;have:=hc.flip y x trivial trivial;have:=hc.flip x y trivial trivial;omega) (fun x hx=>by have:=hQ x hx;omega),by simp [wan]⟩;refine gz6 ?_;refine dq (zaY ty3 zch rfl) ?_;refine dq (zdB rfl rfl uO) ?_;refine dq (zae (h':= .int .i64 (((A.length+(A.length+X.length+Y.length))/2:Nat):Int)) (zaY zch ty3 rfl) (by have e9:ia+ib=((A.length:Nat):Int)+((A.length+X.length+Y.length:Nat):Int):=uO;rw [e9];exact zey uO)) ?_;refine gz2 ?_;obtain ⟨d,hd⟩: ∃d:Nat,(A.length+(A.length+X.length+Y.length))/2=d:=⟨_,rfl⟩
 rw [hd];refine zaD ?_;refine uVj [20,2,138,9] (fun (s:Nat×Nat)=>[(20,.int .i64 (s.1:Int)),(21,.int .i64 (s.2:Int))]) (fun (s:Nat×Nat)=>[.arr (.slice (some ⟨b,off,none⟩) n cap) 5 ((A++X++Y++C).map zk)]) (fun (s:Nat×Nat)=>(A.length<=s.1/\s.1<=s.2/\s.2<=A.length+X.length/\s.2<=d/\d<=s.1+Y.length)/\(s.1=A.length\/d=s.1+Y.length)/\(s.2=A.length+X.length\/s.2=d)) ?_ ?_
 skip
 refine gz5 ?_;refine uCo (fun h17=> ?_) fun h18=> ?_
 refine zaD ?_;exact ⟨(d-Y.length,d),⟨⟨uD,uD,uD,uD,uD⟩,uD,uD⟩,⟨zg uO,rfl,trivial⟩,uK,Ab _⟩;refine gz8 ?_;exact ⟨(A.length,A.length+X.length),⟨⟨uD,uD,uD,uD,uD⟩,uD,uD⟩,⟨zg uO,zg uO,trivial⟩,uK,Ab _⟩
 intro s hs
 obtain ⟨s1,s2⟩:=s;dsimp only at hs⊢;obtain ⟨⟨hs3,hs4,hs5,hs6,hs7⟩,hs1,hs2⟩:=hs;refine gz7 ?_;refine uV2 [20,2,23,1,149,26] (fun (p:Nat) (q:Nat)=>[(20,.int .i64 (p:Int)),(21,.int .i64 (q:Int))]) (fun (p:Nat) (q:Nat)=>[.arr (.slice (some ⟨b,off,none⟩) n cap) 5 ((A++X++Y++C).map zk)]) (fun (p:Nat) (q:Nat)=>s1<=p/\p<=q/\q<=s2/\(∀x y,X[p-1-A.length]? =some x->Y[d-p]? =some y->s1<p->¬c y x<0)/\(∀x y,X[q-A.length]? =some x->Y[d-1-q]? =some y->q<s2->c y x<0)) (fun (p:Nat) (q:Nat)=>q-p) (s1) (s2) ?_ ?_ ?_ ?_;exact ⟨Ae _,by omega,Ae _,fun x y _ _ h=>absurd h (A1 _),fun x y _ _ h=>absurd h (A1 _)⟩;exact ⟨rfl,rfl,trivial⟩;exact Ab _
 intro p q hinv
 obtain ⟨hsp,hpq,hqs,hP,hQ⟩:=hinv;refine gz6 ?_;refine uCo (fun h19=> ?_) fun h20=> ?_
 refine gz7 ?_;refine dq (zaY ty3 zch rfl) ?_;refine dq (zdB rfl rfl uO) ?_;refine dq (zae (zaY zch ty3 rfl) (zey (i:=p) (j:=q) uO)) ?_;refine gz2 ?_;obtain ⟨g,hg⟩: ∃g,(p+q)/2=g:=⟨_,rfl⟩
 obtain ⟨u,hu⟩: ∃u,g=A.length+u:=⟨g-A.length,by omega⟩
 obtain ⟨r,hr⟩: ∃r,d=r+1+g:=⟨d-1-g,by omega⟩
 obtain ⟨x,hx⟩: ∃x,X[u]? =some x:=⟨_,Aa uO⟩
 obtain ⟨y,hy⟩: ∃y,Y[r]? =some y:=⟨_,Aa uO⟩
 refine zw (fun M=>M=[.arr (.slice (some ⟨b,off,none⟩) n cap) 5 ((A++X++Y++C).map zk)]) [6,10] mixed ?_;refine gz5 ?_;refine uB 5 rfl (ze (j:=A.length+X.length+r) zaa zR rfl rfl uO uO) ?_;refine uM 6 rfl rfl (uW (zj (i:=0) (j:=A.length+X.length+r) zR rfl rfl rfl (zeV hy) rfl rfl rfl ⟨rfl,rfl⟩)) ?_;refine gz2 ?_;refine uB 9 rfl (ze (j:=A.length+u) zaa zR rfl rfl uO uO) ?_;refine uM 10 rfl rfl (uW (zj (i:=0) (j:=A.length+u) zR rfl rfl rfl (zeU hx) rfl rfl rfl ⟨rfl,rfl⟩)) ?_;refine uB 11 rfl (z7 hca rfl rfl (WeakL.refl _) (hp _ _)) ?_;refine gz3 ?_;refine uCo (fun h21=> ?_) fun h22=> ?_
 refine gz6 ?_;exact ⟨g+1,q,⟨by omega,by omega,hqs,fun x2 y2 h1 h2 _=>by
  rw [show g+1-1-A.length=u by omega,hx] at h1;rw [show d-(g+1)=r by omega,hy] at h2;rw [<-Ak h1,<-Ak h2];omega,hQ⟩,uD,⟨zg uO,rfl,trivial⟩,uK,Ab _⟩
 refine gz5 ?_;exact ⟨p,g,⟨hsp,by omega,by omega,hP,fun x2 y2 h1 h2 _=>by
  rw [show g-A.length=u by omega,hx] at h1;rw [show d-1-g=r by omega,hy] at h2;rw [<-Ak h1,<-Ak h2];omega⟩,uD,⟨rfl,zg uO,trivial⟩,uK,Ab _⟩
 obtain rfl:p=q:=by omega
 have hpA:A.length<=p:=by omega
 refine gz2 ?_;refine zM ?_;refine gz2 ?_;obtain ⟨hk1,hk2⟩:=zof hc hP hQ hs1 hs2 hsp hqs hpA;refine gz6 ?_;refine uVj [178,14] (fun (z:Unit)=>[]) (fun (z:Unit)=>[.arr (.slice (some ⟨b,off,none⟩) n cap) 5 (((A++X.take (p-A.length))++Y.take (d-p)++X.drop (p-A.length)++(Y.drop (d-p)++C)).map zk)]) (fun (z:Unit)=>True) ?_ ?_
 skip
 refine zaD ?_;refine uCo (fun h23=> ?_) fun h24=> ?_
 refine zf (zP (M':=[.arr (.slice (some ⟨b,off,none⟩) n cap) 5 (((A++X.take (p-A.length))++X.drop (p-A.length)++Y.take (d-p)++(Y.drop (d-p)++C)).map zk)]) (by rw [zpP (k:=p-A.length) (j:=d-p)])) ?_;refine gz6 ?_;refine de rfl (za (i:=0) zzp rfl (WeakL.refl _) rfl (zlX (P:=A++X.take (p-A.length)) (U:=X.drop (p-A.length)) (W:=Y.take (d-p)) (Q:=Y.drop (d-p)++C) (n:=n) (by simp;omega) (by simp;omega) (by simp;omega) (by simp;omega) (by simp;omega) (by simp;omega) hl) ?_)
 rintro _ _ ⟨rfl,rfl⟩;refine gz1 ?_;exact ⟨(),trivial,trivial,uK,Ab _⟩;refine gz1 ?_;exact ⟨(),trivial,trivial,uK,zm (by rw [zlF (k:=p-A.length) (j:=d-p) (by rcases Az p (A.length+X.length) with q|q;(have:=h24 uO;omega);omega)])⟩
 intro z _
 refine uVj [192,14] (fun (Z1:List ChoiceS)=>[]) (fun (Z1:List ChoiceS)=>[.arr (.slice (some ⟨b,off,none⟩) n cap) 5 ((A++Z1++(X.drop (p-A.length)++(Y.drop (d-p)++C))).map zk)]) (fun (Z1:List ChoiceS)=>Z1.Perm (X.take (p-A.length)++Y.take (d-p))/\Srt c Z1) ?_ ?_
 skip
 refine zaD ?_;refine uCo (fun h25=> ?_) fun h26=> ?_
 refine zf (zP (M':=[.arr (.slice (some ⟨b,off,none⟩) n cap) 5 ((A++X.take (p-A.length)++Y.take (d-p)++(X.drop (p-A.length)++(Y.drop (d-p)++C))).map zk)]) (by simp)) ?_;refine gz6 ?_;refine de rfl (za (i:=0) zqN rfl (WeakL.refl _) rfl (ih (A:=A) (X:=X.take (p-A.length)) (Y:=Y.take (d-p)) (C:=X.drop (p-A.length)++(Y.drop (d-p)++C)) (by simp;omega) (by simp;omega) (by simp;omega) (by simp;omega) uO (by simp;omega) (by simp;omega) (hX.take _) (hY.take _)) ?_)
 rintro _ _ ⟨Z1,rfl,⟨hz1,hz2⟩,rfl⟩;refine gz1 ?_;exact ⟨Z1,⟨hz1,hz2⟩,trivial,uK,Ab _⟩;refine gz1 ?_;exact ⟨X.take (p-A.length)++Y.take (d-p),⟨Ab _,zog hX hY (by rcases Az A.length p with q|q;(have:=h26 uO;omega);omega)⟩,trivial,uK,zm (by simp)⟩
 intro Z1 hinv
 obtain ⟨hz1,hz2⟩:=hinv;refine zaD ?_;refine uCo (fun h27=> ?_) fun h28=> ?_
 have hzl:=hz1.length_eq;simp only [Af,Ag] at hzl;refine zf (zP (M':=[.arr (.slice (some ⟨b,off,none⟩) n cap) 5 (((A++Z1)++X.drop (p-A.length)++Y.drop (d-p)++C).map zk)]) (by simp)) ?_;refine gz6 ?_;refine de rfl (za (i:=0) zqN rfl (WeakL.refl _) rfl (ih (A:=A++Z1) (X:=X.drop (p-A.length)) (Y:=Y.drop (d-p)) (C:=C) (by simp;omega) (by simp;omega) (by simp;omega) (by simp;omega) (by simp;omega) (by simp;omega) (by simp;omega) (hX.drop _) (hY.drop _)) ?_)
 rintro _ _ ⟨Z2,rfl,⟨hz3,hz4⟩,rfl⟩;refine gz1 ?_;exact zT rfl ⟨Z1++Z2,rfl,zgW hc hX hY uO uO hk1 hk2 hz1 hz3 hz2 hz4,by simp⟩;refine gz1 ?_;exact zT rfl ⟨Z1++(X.drop (p-A.length)++Y.drop (d-p)),rfl,zgW hc hX hY uO uO hk1 hk2 hz1 (Ab _) hz2 (zmR hX hY (by rcases Az p (A.length+X.length) with q|q;(have:=h28 uO;omega);omega)),by simp⟩
theorem zjm [Tracks] {N:Nat} {n b off cap:Nat} {fid:FuncId} {caps:List HVal} {c:ChoiceS->ChoiceS->Int} {A X Y C:List ChoiceS} {ia im ib:Int} (hca:Callable prog fid) (hp: ∀x y,ConP prog fid ([zk x,zk y]++caps) (.int .i64 (c x y))) (hc:Cmp c fun _=>True) (hl:n<=1000000) (hx0:0<X.length) (hy0:0<Y.length) (hN:X.length+Y.length<=N) (hn:A.length+X.length+Y.length+C.length=n) (hia:ia=(A.length:Int)) (him:im=(A.length:Int)+X.length) (hib:ib=(A.length:Int)+X.length+Y.length) (hX:Srt c X) (hY:Srt c Y):Con prog 313 [.raw (.slice (some ⟨b,off,none⟩) n cap),.int .i64 ia,.int .i64 im,.int .i64 ib,.fn (.func fid) [] caps] [.arr (.slice (some ⟨b,off,none⟩) n cap) 5 ((A++X++Y++C).map zk)] (fun x M'=> ∃Z:List ChoiceS,x= .tup []/\(Z.Perm (X++Y)/\Srt c Z)/\M'=[.arr (.slice (some ⟨b,off,none⟩) n cap) 5 ((A++Z++C).map zk)]):=by
 induction N using Nat.strongRecOn generalizing A X Y C ia im ib with
 |ind N ih=>
   exact zng hca hp hc hx0 hy0 hN hn hia him hib hX hY hl (fun a1 a2 a3 a4 a5 a6 a7 a8 a9=>ih _ a3 a1 a2 (Ae _) a4 a5 a6 a7 a8 a9)
theorem zl4 [Tracks] {l:List ChoiceS} {n0:Int} {n b off cap:Nat} {fid:FuncId} {caps:List HVal} {c:ChoiceS->ChoiceS->Int} (hca:Callable prog fid) (hp: ∀x y,ConP prog fid ([zk x,zk y]++caps) (.int .i64 (c x y))) (hc:Cmp c fun _=>True) (hn:l.length=n) (hn0:n0=(n:Int)) (hl:n<=1000000):Con prog 249 [.raw (.slice (some ⟨b,off,none⟩) n cap),.int .i64 n0,.fn (.func fid) [] caps] [.arr (.slice (some ⟨b,off,none⟩) n cap) 5 ((l).map zk)] (fun x M'=> ∃Z:List ChoiceS,x= .tup []/\(Z.Perm l/\Srt c Z)/\M'=[.arr (.slice (some ⟨b,off,none⟩) n cap) 5 ((Z).map zk)]):=by
 refine uOb func249 ntmps249 ?_;refine zaD ?_;refine uV3 [7,2,11,12] (fun (a0:Nat) (k:Nat) (Z:List ChoiceS)=>[(7,.int .i64 (a0:Int)),(8,.int .i64 ((a0+20:Nat):Int))]) (fun (a0:Nat) (k:Nat) (Z:List ChoiceS)=>[.arr (.slice (some ⟨b,off,none⟩) n cap) 5 ((Z++l.drop a0).map zk)]) (fun (a0:Nat) (k:Nat) (Z:List ChoiceS)=>a0=20*k/\a0<=n/\Blk c 20 Z/\Z.length=a0/\Z.Perm (l.take a0)) (fun (a0:Nat) (k:Nat) (Z:List ChoiceS)=>n-a0) (0) (0) ([]) ?_ ?_ ?_ ?_;exact ⟨rfl,Ad _,Blk.nil,rfl,by simp⟩;exact ⟨rfl,rfl,trivial⟩;exact zm (by simp)
 intro a0 k Z hinv
 obtain ⟨ha0,ha1,hZ,hZl,hZp⟩:=hinv;refine gz6 ?_;refine uCo (fun h1=> ?_) fun h2=> ?_
 refine gz3 ?_;refine zf (zP (M':=[.arr (.slice (some ⟨b,off,none⟩) n cap) 5 ((Z++(l.drop a0).take 20++l.drop (a0+20)).map zk)]) (by rw [An Z,<-win])) ?_;refine gz5 ?_;refine de rfl (za (i:=0) zs8 rfl (WeakL.refl _) rfl (ziy (A:=Z) (X:=((l.drop a0).take 20)) (C:=(l.drop (a0+20))) (n:=n) hca hp (by simp;omega) uO (by simp;omega) hl) ?_)
 rintro _ _ ⟨rfl,rfl⟩;refine zcc ?_;exact ⟨a0+20,k+1,Z++zX c ((l.drop a0).take 20),⟨by omega,by omega,hZ.add (k:=k) uO (zbW hc _) (by rw [zay,Ag];omega),by rw [Af,zay,Ag,Au];omega,by rw [zcJ];exact hZp.append (zaU c _)⟩,uD,⟨zg uO,zg uO,trivial⟩,uK,Ab _⟩;refine gz2 ?_;refine zbX ?_;refine gz2 ?_;refine zf (zP (M':=[.arr (.slice (some ⟨b,off,none⟩) n cap) 5 ((Z++l.drop a0++[]).map zk)]) (by simp)) ?_;refine gz5 ?_;refine de rfl (za (i:=0) zs8 rfl (WeakL.refl _) rfl (ziy (A:=Z) (X:=(l.drop a0)) (C:=[]) (n:=n) hca hp (by simp;omega) uO (by simp;omega) hl) ?_)
 rintro _ _ ⟨rfl,rfl⟩;refine gz2 ?_;refine uV2 [6,4,28,35] (fun (bs:Nat) (D:List ChoiceS)=>[(6,.int .i64 (bs:Int))]) (fun (bs:Nat) (D:List ChoiceS)=>[.arr (.slice (some ⟨b,off,none⟩) n cap) 5 ((D).map zk)]) (fun (bs:Nat) (D:List ChoiceS)=>20<=bs/\bs<=2*n+20/\Blk c bs D/\D.Perm l) (fun (bs:Nat) (D:List ChoiceS)=>n-bs) (20) (Z++zX c (l.drop a0)) ?_ ?_ ?_ ?_;refine ⟨Ae _,by omega,hZ.add (k:=k) uO (zbW hc _) (by rw [zay,Au];omega),?_⟩
 have:=hZp.append (zaU c (l.drop a0))
 rwa [Am] at this
 exact ⟨rfl,trivial⟩;exact zm (by simp)
 intro bs D hinv
 obtain ⟨hb1,hb2,hD,hDp⟩:=hinv;have hDl:D.length=n:=by rw [hDp.length_eq];exact hn
 refine gz1 ?_
 skip
 refine gz5 ?_;refine uCo (fun h3=> ?_) fun h4=> ?_
 refine gz5 ?_;refine dq (zbP rfl rfl uO uO) ?_;refine gz5 ?_;refine uV3 [7,2,33,16] (fun (a0:Nat) (k:Nat) (Z:List ChoiceS)=>[(7,.int .i64 (a0:Int)),(8,.int .i64 ((a0+bs+bs:Nat):Int))]) (fun (a0:Nat) (k:Nat) (Z:List ChoiceS)=>[.arr (.slice (some ⟨b,off,none⟩) n cap) 5 ((Z++D.drop a0).map zk)]) (fun (a0:Nat) (k:Nat) (Z:List ChoiceS)=>a0=2*bs*k/\a0<=n/\Blk c (bs+bs) Z/\Z.length=a0/\Z.Perm (D.take a0)) (fun (a0:Nat) (k:Nat) (Z:List ChoiceS)=>n-a0) (0) (0) ([]) ?_ ?_ ?_ ?_;exact ⟨by simp,Ad _,Blk.nil,rfl,by simp⟩;exact ⟨rfl,zg uO,trivial⟩;exact zm (by simp)
 intro a0 k Z hinv
 obtain ⟨ha0,ha1,hZ,hZl,hZp⟩:=hinv;refine gz6 ?_;refine uCo (fun h5=> ?_) fun h6=> ?_
 refine gz3 ?_;refine zf (zP (M':=[.arr (.slice (some ⟨b,off,none⟩) n cap) 5 ((Z++(D.drop a0).take bs++(D.drop (a0+bs)).take bs++D.drop (a0+bs+bs)).map zk)]) (by rw [An (Z++_),<-win,An Z,<-win])) ?_;refine gz8 ?_;refine de rfl (za (i:=0) zqN rfl (WeakL.refl _) rfl (zjm (A:=Z) (X:=((D.drop a0).take bs)) (Y:=((D.drop (a0+bs)).take bs)) (C:=(D.drop (a0+bs+bs))) (n:=n) hca hp hc hl (by simp;omega) (by simp;omega) (Ae _) (by simp;omega) uO (by simp;omega) (by simp;omega) (hD.at (q:=2*k) (by rw [ha0,A2,AM])) (hD.at (q:=2*k+1) (by rw [ha0,BA,Bm,A2,AM]))) ?_)
 rintro _ _ ⟨Z43,rfl,⟨hz1,hz2⟩,rfl⟩;refine gz8 ?_;refine dq (zbP rfl rfl uO uO) ?_;refine gz4 ?_;refine ⟨a0+bs+bs,k+1,Z++Z43,⟨?_,by omega,hZ.add (k:=k) ?_ hz2 ?_,?_,?_⟩,uD,⟨zg uO,zg uO,trivial⟩,uK,zm (by simp)⟩
 rw [BA,Bm,<-ha0];omega;rw [hZl,ha0,BB];rw [hz1.length_eq];simp only [Af,Ag];omega;rw [Af,hz1.length_eq];simp only [Af,Ag,Au];omega;rw [AG,zcJ];refine hZp.append (hz1.trans ?_)
 rw [zcJ,AN];refine gz2 ?_;refine zbX ?_;refine gz2 ?_;refine uVj [9,1,49,12] (fun (D2:List ChoiceS)=>[]) (fun (D2:List ChoiceS)=>[.arr (.slice (some ⟨b,off,none⟩) n cap) 5 ((D2).map zk)]) (fun (D2:List ChoiceS)=>Blk c (bs+bs) D2/\D2.Perm l) ?_ ?_
 skip
 refine zbo ?_;refine uCo (fun h7=> ?_) fun h8=> ?_
 refine zf (zP (M':=[.arr (.slice (some ⟨b,off,none⟩) n cap) 5 ((Z++(D.drop a0).take bs++D.drop (a0+bs)++[]).map zk)]) (by rw [AW,An Z,<-win])) ?_;refine gz6 ?_;refine de rfl (za (i:=0) zqN rfl (WeakL.refl _) rfl (zjm (A:=Z) (X:=((D.drop a0).take bs)) (Y:=(D.drop (a0+bs))) (C:=[]) (n:=n) hca hp hc hl (by simp;omega) (by simp;omega) (Ae _) (by simp;omega) uO (by simp;omega) (by simp;omega) (hD.at (q:=2*k) (by rw [ha0,A2,AM])) (hD.last (q:=2*k+1) (by rw [ha0,BA,Bm,A2,AM]) uO)) ?_)
 rintro _ _ ⟨Z60,rfl,⟨hz1,hz2⟩,rfl⟩;refine gz1 ?_;refine ⟨Z++Z60,⟨hZ.add (k:=k) ?_ hz2 ?_,?_⟩,trivial,uK,zm (by simp)⟩
 rw [hZl,ha0,BB];rw [hz1.length_eq];simp only [Af,Ag,Au];omega;have h9:=hZp.append hz1;rw [<-win,Am] at h9;exact h9.trans hDp;refine gz1 ?_;refine ⟨Z++D.drop a0,⟨hZ.add (k:=k) ?_ (hD.last (q:=2*k) (by rw [ha0,A2,AM]) uO) ?_,?_⟩,trivial,uK,Ab _⟩
 rw [hZl,ha0,BB];simp only [Au];omega;have h9:=hZp.append_right (D.drop a0);rw [Am] at h9;exact h9.trans hDp
 intro D2 hD2
 refine gz2 ?_;refine dq (zbP rfl rfl uO uO) ?_;refine gz3 ?_;exact ⟨bs+bs,D2,⟨by omega,by omega,hD2.1,hD2.2⟩,uD,⟨zg uO,trivial⟩,uK,Ab _⟩;have hDs:=hD.all uO;refine gz2 ?_;refine zM ?_;refine gz1 ?_;exact zT rfl ⟨D,rfl,⟨hDp,hDs⟩,rfl⟩
theorem zm5 [Tracks] {v:Value} {fid:FuncId} {caps:List HVal}:Con prog 312 [.raw v,.int .i64 0,.int .i64 0,.fn (.func fid) [] caps] [.arr v 5 []] (fun x M'=>x= .tup []/\M'=[.arr v 5 []]):=by
 refine uOb func312 ntmps312 ?_;refine gz6 ?_;refine uV1 [8,2,12,41] (fun (u:Unit)=>[(8,.int .i64 1)]) (fun (u:Unit)=>[.arr v 5 []]) (fun (u:Unit)=>True) (fun (u:Unit)=>0) (()) ?_ ?_ ?_ ?_
 ·trivial
 ·exact ⟨rfl,trivial⟩
 ·exact Ab _
 ·intro u hu
  refine gz6 ?_;refine zaf rfl (fun h1=> ?_) (fun h1=> ?_)
  ·exfalso
   try simp at h1
   all_goals omega
  ·try simp at h1
   refine gz2 ?_;refine zp ?_;refine gz1 ?_;exact zT rfl ⟨rfl,rfl⟩
theorem zld [Tracks] {v:Value} {fid:FuncId} {caps:List HVal}:Con prog 249 [.raw v,.int .i64 0,.fn (.func fid) [] caps] [.arr v 5 []] (fun x M'=>x= .tup []/\M'=[.arr v 5 []]):=by
 refine uOb func249 ntmps249 ?_;refine zaD ?_;refine uV1 [7,2,11,12] (fun (u:Unit)=>[(7,.int .i64 0),(8,.int .i64 20)]) (fun (u:Unit)=>[.arr v 5 []]) (fun (u:Unit)=>True) (fun (u:Unit)=>0) (()) ?_ ?_ ?_ ?_
 ·trivial
 ·exact ⟨rfl,rfl,trivial⟩
 ·exact Ab _
 ·intro u hu
  refine gz6 ?_;refine zaf rfl (fun h1=> ?_) (fun h1=> ?_)
  ·exfalso
   try simp at h1
   all_goals omega
  ·try simp at h1
   refine gz2 ?_;refine zp ?_;refine gz7 ?_;refine de rfl (za (i:=0) zs8 rfl (WeakL.refl _) rfl zm5 ?_)
   rintro _ _ ⟨rfl,rfl⟩;refine gz2 ?_;refine uV1 [6,4,28,35] (fun (u:Unit)=>[(6,.int .i64 20)]) (fun (u:Unit)=>[.arr v 5 []]) (fun (u:Unit)=>True) (fun (u:Unit)=>0) (()) ?_ ?_ ?_ ?_
   ·trivial
   ·exact ⟨rfl,trivial⟩
   ·exact Ab _
   ·intro u hu
    refine gz6 ?_;refine zaf rfl (fun h2=> ?_) (fun h2=> ?_)
    ·exfalso
     try simp at h2
     all_goals omega
    ·try simp at h2
     refine gz2 ?_;refine zp ?_;refine gz1 ?_;exact zT rfl ⟨rfl,rfl⟩
theorem zkH [Tracks] {fid:FuncId} {caps:List HVal}:Con prog 179 [.raw (.slice none 0 0),.fn (.func fid) [] caps] [.arr (.slice none 0 0) 5 []] (fun x M'=>x= .tup []/\M'=[.arr (.slice none 0 0) 5 []]):=by
 refine uOb func179 ntmps179 ?_;refine gz3 ?_;refine dq (zar zaa rfl) ?_;refine gz1 ?_;refine de rfl (za (i:=0) zwj rfl (WeakL.refl _) rfl zld ?_)
 rintro _ _ ⟨rfl,rfl⟩;refine gz1 ?_;exact zT rfl ⟨rfl,rfl⟩
theorem zkJ [Tracks] {l:List ChoiceS} {n b off cap:Nat} {fid:FuncId} {caps:List HVal} {c:ChoiceS->ChoiceS->Int} (hca:Callable prog fid) (hp: ∀x y,ConP prog fid ([zk x,zk y]++caps) (.int .i64 (c x y))) (hc:Cmp c fun _=>True) (hn:l.length=n) (hl:n<=1000000):Con prog 179 [.raw (.slice (some ⟨b,off,none⟩) n cap),.fn (.func fid) [] caps] [.arr (.slice (some ⟨b,off,none⟩) n cap) 5 ((l).map zk)] (fun x M'=> ∃Z:List ChoiceS,x= .tup []/\(Z.Perm l/\Srt c Z)/\M'=[.arr (.slice (some ⟨b,off,none⟩) n cap) 5 ((Z).map zk)]):=by
 refine uOb func179 ntmps179 ?_;refine gz3 ?_;refine dq (zar zaa rfl) ?_;refine gz1 ?_;refine de rfl (za (i:=0) zwj rfl (WeakL.refl _) rfl (zl4 hca hp hc hn rfl hl) ?_)
 rintro _ _ ⟨Z,rfl,hz,rfl⟩;refine gz1 ?_;exact zT rfl ⟨Z,rfl,hz,rfl⟩
theorem zlb [Tracks] {l:List ChoiceS} {v:Value} {fid:FuncId} {caps:List HVal} {c:ChoiceS->ChoiceS->Int} (hca:Callable prog fid) (hp: ∀x y,ConP prog fid ([zk x,zk y]++caps) (.int .i64 (c x y))) (hc:Cmp c fun _=>True) (hl:l.length<=1000000):Con prog 179 [.raw v,.fn (.func fid) [] caps] [.arr v 5 (l.map zk)] fun x M'=> ∃Z:List ChoiceS,x= .tup []/\(Z.Perm l/\Srt c Z)/\M'=[.arr v 5 (Z.map zk)]:=
 zhH (fun h1 h2=>by
  have h3:l=[]:=by first|exact List.map_eq_nil_iff.1 h2|simpa using h2
  subst h1 h3;exact zkH.mono fun x M' ⟨e1,e2⟩=>⟨[],e1,⟨Ab _,Srt.nil⟩,e2⟩)
  fun b off cap h1=>by
   rw [Aj] at h1;subst h1;exact zkJ hca hp hc rfl hl
theorem ziz [Tracks] {A X C:List HealthS} {ia ib:Int} {n b off cap:Nat} {fid:FuncId} {caps:List HVal} {c:HealthS->HealthS->Int} (hca:Callable prog fid) (hp: ∀x y,ConP prog fid ([zD x,zD y]++caps) (.int .i64 (c x y))) (hn:A.length+X.length+C.length=n) (hia:ia=(A.length:Int)) (hib:ib=(A.length:Int)+X.length) (hl:n<=1000000):Con prog 304 [.raw (.slice (some ⟨b,off,none⟩) n cap),.int .i64 ia,.int .i64 ib,.fn (.func fid) [] caps] [.arr (.slice (some ⟨b,off,none⟩) n cap) 4 ((A++X++C).map zD)] (fun x M'=>x= .tup []/\M'=[.arr (.slice (some ⟨b,off,none⟩) n cap) 4 ((A++zX c X++C).map zD)]):=by
 refine uOb func304 ntmps304 ?_;refine gz6 ?_;refine uV1 [8,2,12,41] (fun (k:Nat)=>[(8,.int .i64 ((A.length+k:Nat):Int))]) (fun (k:Nat)=>[.arr (.slice (some ⟨b,off,none⟩) n cap) 4 ((A++(zX c (X.take k)++X.drop k)++C).map zD)]) (fun (k:Nat)=>1<=k) (fun (k:Nat)=>X.length-k) (1) ?_ ?_ ?_ ?_;exact Ae _;exact ⟨zg uO,trivial⟩;exact zm (by rw [zfb])
 intro k hk
 refine gz6 ?_;refine uCo (fun h1=> ?_) fun h2=> ?_
 obtain ⟨x,hx⟩: ∃x,X[k]? =some x:=⟨_,Aa uO⟩
 refine gz9 ?_;refine uV2 [9,1,18,35] (fun (D:List HealthS) (B:List HealthS)=>[(9,.int .i64 ((A.length+D.length:Nat):Int))]) (fun (D:List HealthS) (B:List HealthS)=>[.arr (.slice (some ⟨b,off,none⟩) n cap) 4 (((A++D)++x::(B++X.drop (k+1)++C)).map zD)]) (fun (D:List HealthS) (B:List HealthS)=>D.length+B.length=k/\zct c x (zX c (X.take k))=zct c x D++B) (fun (D:List HealthS) (B:List HealthS)=>D.length) (zX c (X.take k)) ([]) ?_ ?_ ?_ ?_;exact ⟨by simp [zay];omega,by simp⟩;exact ⟨zg (by simp [zay];omega),trivial⟩;exact zm (by rw [zi hx];simp)
 intro D B hinv
 obtain ⟨hA,hB⟩:=hinv;have hlA:D.length<X.length:=by omega
 refine gz1 ?_;refine zw (fun M=>M=[.arr (.slice (some ⟨b,off,none⟩) n cap) 4 (((A++D)++x::(B++X.drop (k+1)++C)).map zD)]) [8,13] mixed ?_;refine gz7 ?_;refine ahg 7 rfl rfl (by kernel_rfl) (by kernel_rfl) rfl (fun hc=>by
  have hq:0<D.length:=by simp at hc;omega
  exact ⟨_,OpenTo.upd (t:=24) rfl (hc) (OpenTo.upd (t:=23) rfl (hc) (OpenTo.refl _)),ze (j:=(A++D).length) zaL zU rfl rfl (by simp) (by simp;omega)⟩) ?_
 refine zin 8 rfl rfl (by kernel_rfl) (by kernel_rfl) (by simp) rfl rfl (fun hc=>⟨_,OpenTo.upd (t:=25) rfl (hc) (OpenTo.refl _),fun M hM=>by
  subst hM;exact zj (i:=0) (j:=(A++D).length) zU rfl rfl rfl zci rfl rfl rfl ⟨rfl,rfl⟩
  ⟩) ?_
 refine gz2 ?_;refine ahg 11 rfl rfl (by kernel_rfl) (by kernel_rfl) rfl (fun hc=>by
  have hq:0<D.length:=by simp at hc;omega
  exact ⟨_,OpenTo.upd (t:=28) rfl (hc) (OpenTo.refl _),zdv rfl rfl uO uO⟩) ?_
 refine ahg 12 rfl rfl (by kernel_rfl) (by kernel_rfl) rfl (fun hc=>by
  have hq:0<D.length:=by simp at hc;omega
  exact ⟨_,OpenTo.upd (t:=29) rfl (hc) (OpenTo.upd (t:=27) rfl (hc) (OpenTo.refl _)),ze (j:=(A++D).length-1) zaL zU rfl rfl (by simp;omega) (by simp;omega)⟩) ?_
 refine zin 13 rfl rfl (by kernel_rfl) (by kernel_rfl) (by simp) rfl rfl (fun hc=>⟨_,OpenTo.upd (t:=30) rfl (hc) (OpenTo.refl _),fun M hM=>by
  have hq:0<D.length:=by simp at hc;omega
  subst hM;exact zj (i:=0) (j:=(A++D).length-1) zU rfl rfl rfl (zf3 (by simp;omega)) rfl rfl rfl ⟨rfl,rfl⟩
  ⟩) ?_
 refine ahg 14 rfl rfl (by kernel_rfl) (by kernel_rfl) rfl (fun hc=>⟨_,OpenTo.upd (t:=31) rfl (hc) (OpenTo.upd (t:=26) rfl (hc) (OpenTo.upd (t:=22) rfl (hc) (OpenTo.refl _))),z7 hca rfl rfl (WeakL.refl _) (hp _ _)⟩) ?_;refine gz3 ?_;refine uCo (fun h3=> ?_) fun h4=> ?_
 obtain ⟨hA0,hcx⟩:=h3;obtain ⟨D1,y,rfl⟩:=zhQ (A:=D) uO;rw [zhM] at hcx;have hD1:(D1++[y]).length=D1.length+1:=by simp
 refine gz4 ?_;refine zaC (fun M=>M=[.arr (.slice (some ⟨b,off,none⟩) n cap) 4 (((A++(D1++[y]))++x::(B++X.drop (k+1)++C)).map zD)]) [9,13] mixed ?_;refine gz8 ?_;refine uB 8 rfl (ze (j:=(A++(D1++[y])).length-1) zaL zU rfl rfl (by simp;omega) (by simp;omega)) ?_;refine uM 9 rfl rfl (uW (zj (i:=0) (j:=(A++(D1++[y])).length-1) zU rfl rfl rfl (zde) rfl rfl rfl ⟨rfl,rfl⟩)) ?_;refine gz2 ?_;refine uB 12 rfl (ze (j:=(A++(D1++[y])).length) zaL zU rfl rfl (by simp) (by simp;omega)) ?_;refine uM 13 rfl rfl (uW (zj (i:=0) (j:=(A++(D1++[y])).length) zU rfl rfl rfl zci rfl rfl rfl ⟨rfl,rfl⟩)) ?_;refine uB 14 rfl (ze (j:=(A++(D1++[y])).length) zaL zU rfl rfl (by simp) (by simp;omega)) ?_;refine uF 15 ?_;refine zF (zO (i:=0) (j:=(A++(D1++[y])).length) (y:=x) (y':=y) zU rfl rfl rfl rfl zci rfl rfl rfl ?_)
 refine ⟨fun _=> .inr (by simp [zS,Region.binds]),?_⟩
 refine uB 16 rfl (ze (j:=(A++(D1++[y])).length-1) zaL zU rfl rfl (by simp;omega) (by simp;omega)) ?_;refine uF 17 ?_;refine zF (zO (i:=0) (j:=(A++(D1++[y])).length-1) (y:=y) (y':=x) zU rfl rfl rfl rfl (by rw [AP (by simp)];exact zde) rfl rfl rfl ?_)
 refine ⟨fun _=> .inr (by simp [zS,Region.binds]),?_⟩
 refine gz8 ?_;exact ⟨D1,y::B,⟨by simp at hA⊢;omega,zhL hB hcx⟩,uD,⟨zg uO,trivial⟩,uK,zm (by rw [<-An,zhS];simp)⟩;have hins:=zhK (l:=X) (k:=k) hx hB (by intro h0;have h9:=h4 uO;rw [zfO h0] at h9;omega);refine gz2 ?_;refine zM ?_;refine gz8 ?_;exact ⟨k+1,by omega,uD,⟨zg uO,trivial⟩,uK,zm (by rw [ziY hins])⟩;have hend:zX c (X.take k)++X.drop k=zX c X:=by rw [AF uO,zz uO];simp
 refine gz2 ?_;refine zp ?_;refine gz1 ?_;exact zT rfl ⟨rfl,by rw [hend]⟩
theorem zl5 [Tracks] {l:List HealthS} {n0:Int} {n b off cap:Nat} {fid:FuncId} {caps:List HVal} {c:HealthS->HealthS->Int} (hca:Callable prog fid) (hp: ∀x y,ConP prog fid ([zD x,zD y]++caps) (.int .i64 (c x y))) (hc:Cmp c fun _=>True) (hn:l.length=n) (hn0:n0=(n:Int)) (hl:n<=20):Con prog 260 [.raw (.slice (some ⟨b,off,none⟩) n cap),.int .i64 n0,.fn (.func fid) [] caps] [.arr (.slice (some ⟨b,off,none⟩) n cap) 4 ((l).map zD)] (fun x M'=> ∃Z:List HealthS,x= .tup []/\(Z.Perm l/\Srt c Z)/\M'=[.arr (.slice (some ⟨b,off,none⟩) n cap) 4 ((Z).map zD)]):=by
 refine uOb func260 ntmps260 ?_;refine zaD ?_;refine uV3 [7,2,11,12] (fun (a0:Nat) (k:Nat) (Z:List HealthS)=>[(7,.int .i64 (a0:Int)),(8,.int .i64 ((a0+20:Nat):Int))]) (fun (a0:Nat) (k:Nat) (Z:List HealthS)=>[.arr (.slice (some ⟨b,off,none⟩) n cap) 4 ((Z++l.drop a0).map zD)]) (fun (a0:Nat) (k:Nat) (Z:List HealthS)=>a0=20*k/\a0<=n/\Blk c 20 Z/\Z.length=a0/\Z.Perm (l.take a0)) (fun (a0:Nat) (k:Nat) (Z:List HealthS)=>n-a0) (0) (0) ([]) ?_ ?_ ?_ ?_
 ·exact ⟨rfl,Ad _,Blk.nil,rfl,by simp⟩
 ·exact ⟨rfl,rfl,trivial⟩
 ·exact zm (by simp)
 ·intro a0 k Z hinv
  obtain ⟨ha0,ha1,hZ,hZl,hZp⟩:=hinv;refine gz6 ?_;refine uCo (fun h1=> ?_) fun h2=> ?_
  ·refine gz3 ?_;refine zf (zP (M':=[.arr (.slice (some ⟨b,off,none⟩) n cap) 4 ((Z++(l.drop a0).take 20++l.drop (a0+20)).map zD)]) (by rw [An Z,<-win])) ?_;refine gz5 ?_;refine de rfl (za (i:=0) zs7 rfl (WeakL.refl _) rfl (ziz (A:=Z) (X:=((l.drop a0).take 20)) (C:=(l.drop (a0+20))) (n:=n) hca hp (by first|omega|(simp;omega)) uO (by first|omega|(simp;omega)) uO) ?_)
   rintro _ _ ⟨rfl,rfl⟩;refine zcc ?_;exact ⟨a0+20,k+1,Z++zX c ((l.drop a0).take 20),⟨by omega,by omega,hZ.add (k:=k) uO (zbW hc _) (by rw [zay,Ag];omega),by rw [Af,zay,Ag,Au];omega,by rw [zcJ];exact hZp.append (zaU c _)⟩,uD,⟨zg uO,zg uO,trivial⟩,uK,Ab _⟩
  ·refine gz2 ?_;refine zbX ?_;refine gz2 ?_;refine zf (zP (M':=[.arr (.slice (some ⟨b,off,none⟩) n cap) 4 ((Z++l.drop a0++[]).map zD)]) (by simp)) ?_;refine gz5 ?_;refine de rfl (za (i:=0) zs7 rfl (WeakL.refl _) rfl (ziz (A:=Z) (X:=(l.drop a0)) (C:=[]) (n:=n) hca hp (by first|omega|(simp;omega)) uO (by first|omega|(simp;omega)) uO) ?_)
   rintro _ _ ⟨rfl,rfl⟩;refine gz2 ?_;refine uV2 [6,4,28,35] (fun (bs:Nat) (D:List HealthS)=>[(6,.int .i64 (bs:Int))]) (fun (bs:Nat) (D:List HealthS)=>[.arr (.slice (some ⟨b,off,none⟩) n cap) 4 ((D).map zD)]) (fun (bs:Nat) (D:List HealthS)=>20<=bs/\bs<=2*n+20/\Blk c bs D/\D.Perm l) (fun (bs:Nat) (D:List HealthS)=>n-bs) (20) (Z++zX c (l.drop a0)) ?_ ?_ ?_ ?_
   ·refine ⟨Ae _,by omega,hZ.add (k:=k) uO (zbW hc _) (by rw [zay,Au];omega),?_⟩
    have:=hZp.append (zaU c (l.drop a0))
    rwa [Am] at this
   ·exact ⟨rfl,trivial⟩
   ·exact zm (by simp)
   ·intro bs D hinv
    obtain ⟨hb1,hb2,hD,hDp⟩:=hinv;have hDl:D.length=n:=by rw [hDp.length_eq];exact hn
    refine gz6 ?_;refine zaf rfl (fun h3=> ?_) (fun h3=> ?_)
    ·exfalso
     try simp at h3
     all_goals omega
    ·try simp at h3
     refine gz2 ?_;refine zM ?_;refine gz1 ?_;have hDs:=hD.all uO;exact zT rfl ⟨D,rfl,⟨hDp,hDs⟩,rfl⟩
theorem zm6 [Tracks] {v:Value} {fid:FuncId} {caps:List HVal}:Con prog 304 [.raw v,.int .i64 0,.int .i64 0,.fn (.func fid) [] caps] [.arr v 4 []] (fun x M'=>x= .tup []/\M'=[.arr v 4 []]):=by
 refine uOb func304 ntmps304 ?_;refine gz6 ?_;refine uV1 [8,2,12,41] (fun (u:Unit)=>[(8,.int .i64 1)]) (fun (u:Unit)=>[.arr v 4 []]) (fun (u:Unit)=>True) (fun (u:Unit)=>0) (()) ?_ ?_ ?_ ?_
 ·trivial
 ·exact ⟨rfl,trivial⟩
 ·exact Ab _
 ·intro u hu
  refine gz6 ?_;refine zaf rfl (fun h1=> ?_) (fun h1=> ?_)
  ·exfalso
   try simp at h1
   all_goals omega
  ·try simp at h1
   refine gz2 ?_;refine zp ?_;refine gz1 ?_;exact zT rfl ⟨rfl,rfl⟩
theorem zle [Tracks] {v:Value} {fid:FuncId} {caps:List HVal}:Con prog 260 [.raw v,.int .i64 0,.fn (.func fid) [] caps] [.arr v 4 []] (fun x M'=>x= .tup []/\M'=[.arr v 4 []]):=by
 refine uOb func260 ntmps260 ?_;refine zaD ?_;refine uV1 [7,2,11,12] (fun (u:Unit)=>[(7,.int .i64 0),(8,.int .i64 20)]) (fun (u:Unit)=>[.arr v 4 []]) (fun (u:Unit)=>True) (fun (u:Unit)=>0) (()) ?_ ?_ ?_ ?_
 ·trivial
 ·exact ⟨rfl,rfl,trivial⟩
 ·exact Ab _
 ·intro u hu
  refine gz6 ?_;refine zaf rfl (fun h1=> ?_) (fun h1=> ?_)
  ·exfalso
   try simp at h1
   all_goals omega
  ·try simp at h1
   refine gz2 ?_;refine zp ?_;refine gz7 ?_;refine de rfl (za (i:=0) zs7 rfl (WeakL.refl _) rfl zm6 ?_)
   rintro _ _ ⟨rfl,rfl⟩;refine gz2 ?_;refine uV1 [6,4,28,35] (fun (u:Unit)=>[(6,.int .i64 20)]) (fun (u:Unit)=>[.arr v 4 []]) (fun (u:Unit)=>True) (fun (u:Unit)=>0) (()) ?_ ?_ ?_ ?_
   ·trivial
   ·exact ⟨rfl,trivial⟩
   ·exact Ab _
   ·intro u hu
    refine gz6 ?_;refine zaf rfl (fun h2=> ?_) (fun h2=> ?_)
    ·exfalso
     try simp at h2
     all_goals omega
    ·try simp at h2
     refine gz2 ?_;refine zp ?_;refine gz1 ?_;exact zT rfl ⟨rfl,rfl⟩
theorem zkI [Tracks] {fid:FuncId} {caps:List HVal}:Con prog 196 [.raw (.slice none 0 0),.fn (.func fid) [] caps] [.arr (.slice none 0 0) 4 []] (fun x M'=>x= .tup []/\M'=[.arr (.slice none 0 0) 4 []]):=by
 refine uOb func196 ntmps196 ?_;refine gz3 ?_;refine dq (zar zaL rfl) ?_;refine gz1 ?_;refine de rfl (za (i:=0) zwk rfl (WeakL.refl _) rfl zle ?_)
 rintro _ _ ⟨rfl,rfl⟩;refine gz1 ?_;exact zT rfl ⟨rfl,rfl⟩
theorem zkK [Tracks] {l:List HealthS} {n b off cap:Nat} {fid:FuncId} {caps:List HVal} {c:HealthS->HealthS->Int} (hca:Callable prog fid) (hp: ∀x y,ConP prog fid ([zD x,zD y]++caps) (.int .i64 (c x y))) (hc:Cmp c fun _=>True) (hn:l.length=n) (hl:n<=20):Con prog 196 [.raw (.slice (some ⟨b,off,none⟩) n cap),.fn (.func fid) [] caps] [.arr (.slice (some ⟨b,off,none⟩) n cap) 4 ((l).map zD)] (fun x M'=> ∃Z:List HealthS,x= .tup []/\(Z.Perm l/\Srt c Z)/\M'=[.arr (.slice (some ⟨b,off,none⟩) n cap) 4 ((Z).map zD)]):=by
 refine uOb func196 ntmps196 ?_;refine gz3 ?_;refine dq (zar zaL rfl) ?_;refine gz1 ?_;refine de rfl (za (i:=0) zwk rfl (WeakL.refl _) rfl (zl5 hca hp hc hn rfl hl) ?_)
 rintro _ _ ⟨Z,rfl,hz,rfl⟩;refine gz1 ?_;exact zT rfl ⟨Z,rfl,hz,rfl⟩
theorem zlc [Tracks] {l:List HealthS} {v:Value} {fid:FuncId} {caps:List HVal} {c:HealthS->HealthS->Int} (hca:Callable prog fid) (hp: ∀x y,ConP prog fid ([zD x,zD y]++caps) (.int .i64 (c x y))) (hc:Cmp c fun _=>True) (hl:l.length<=20):Con prog 196 [.raw v,.fn (.func fid) [] caps] [.arr v 4 (l.map zD)] fun x M'=> ∃Z:List HealthS,x= .tup []/\(Z.Perm l/\Srt c Z)/\M'=[.arr v 4 (Z.map zD)]:=
 zhH (fun h1 h2=>by
  have h3:l=[]:=by first|exact List.map_eq_nil_iff.1 h2|simpa using h2
  subst h1 h3;exact zkI.mono fun x M' ⟨e1,e2⟩=>⟨[],e1,⟨Ab _,Srt.nil⟩,e2⟩)
  fun b off cap h1=>by
   rw [Aj] at h1;subst h1;exact zkK hca hp hc rfl hl
theorem zfE [Tracks] {l:List HealthS} {y:HealthS} (hl:l.length<=1000000):ConP prog 259 [.slice 4 (l.map zD),zD y] (.int .i64 (zap (fun z=>zbI zD y z) l 0)):=by
 refine uOb func259 ntmps259 ?_;refine zbo ?_;refine uV1 [4,2,8,11] (fun (k:Nat)=>[(8,.int .i64 k)]) (fun (k:Nat)=>[]) (fun (k:Nat)=>k<=l.length/\(zap (fun z=>zbI zD y z) l 0=zap (fun z=>zbI zD y z) (l.drop k) k)) (fun (k:Nat)=>l.length-k) (0) ?_ ?_ ?_ ?_;exact ⟨Ad _,rfl⟩;exact ⟨rfl,trivial⟩;exact Ab _
 intro k hinv
 obtain ⟨hk,hg⟩:=hinv;refine gz4 ?_;refine uCo (fun h1=> ?_) fun h2=> ?_
 obtain ⟨x,hx⟩: ∃x,l[k]? =some x:=⟨_,Aa h1⟩
 have hdx:=zi hx;rw [hdx] at hg;refine gz8 ?_;refine zw (fun _=>True) [] mixed ?_;refine gz3 ?_;refine uB 3 rfl (zl zaL zU rfl rfl rfl (by assumption)) ?_;refine gz1 ?_;refine uB 5 rfl (zgT zU zqQ rfl rfl ⟨rfl,⟨_,_,_,_,ty9,rfl⟩,⟨rfl,⟨_,_,_,_,ty3,rfl⟩,⟨rfl,⟨_,_,_,_,ty3,rfl⟩,⟨rfl,⟨_,_,_,_,ty3,rfl⟩,trivial⟩⟩⟩⟩) ?_;refine gz1 ?_;refine uCo (fun h3=> ?_) fun h4=> ?_
 refine gz5 ?_;refine uRp ?_
 (rw [hg,zap,if_pos (show zbI zD y x=true from h3)])
 refine gz7 ?_;refine ⟨k+1,?_,?_,⟨rfl,trivial⟩,uK,Ab _⟩
 refine ⟨by omega,?_⟩
 rw [hg,zap,if_neg (by rw [show zbI zD y x=false from h4];simp)];rfl
 dsimp only;omega
 have hnk:l.length<=k:=by omega
 obtain rfl:k=l.length:=by omega
 rw [zz (Ae _)] at hg;refine gz2 ?_;refine zp ?_;refine gz6 ?_;refine uRp ?_
 (rw [hg];rfl)
theorem ze0 [Tracks] {l:List HealthS} {y:HealthS} (hl:l.length<=1000000):ConP prog 195 [.slice 4 (l.map zD),zD y] (.bool (decide (y∈l))):=by
 refine uOb func195 ntmps195 ?_;refine gz7 ?_;refine dq (uCl zy9 rfl (zfE (by assumption))) ?_;refine gz4 ?_;refine zx rfl ?_
 show HVal.bool _=_
 rw [<-ztm,<-zcu _ l 0 uO]
theorem zeO [Tracks] {l:List HealthS} {fid:FuncId} {caps:List HVal} {p:HealthS->Bool} (hca:Callable prog fid) (hp: ∀x,ConP prog fid ([zD x]++caps) (.bool (p x))) (hl:l.length<=1000000):ConP prog 279 [.slice 4 (l.map zD),.fn (.func fid) [] caps] (.int .i64 (zap p l 0)):=by
 refine uOb func279 ntmps279 ?_;refine zaD ?_;refine uV1 [4,2,8,11] (fun (k:Nat)=>[(8,.int .i64 k)]) (fun (k:Nat)=>[]) (fun (k:Nat)=>k<=l.length/\(zap p l 0=zap p (l.drop k) k)) (fun (k:Nat)=>l.length-k) (0) ?_ ?_ ?_ ?_;exact ⟨Ad _,rfl⟩;exact ⟨rfl,trivial⟩;exact Ab _
 intro k hinv
 obtain ⟨hk,hg⟩:=hinv;refine gz4 ?_;refine uCo (fun h1=> ?_) fun h2=> ?_
 obtain ⟨x,hx⟩: ∃x,l[k]? =some x:=⟨_,Aa h1⟩
 have hdx:=zi hx;rw [hdx] at hg;refine zcc ?_;refine dq (zl zaL zU rfl rfl rfl (by assumption)) ?_;refine gz1 ?_;refine dq (z7 hca rfl rfl (WeakL.refl _) (hp _)) ?_;refine gz1 ?_;refine uCo (fun h3=> ?_) fun h4=> ?_
 refine gz5 ?_;refine uRp ?_
 (rw [hg];simp_all [zap])
 refine gz7 ?_;refine ⟨k+1,?_,?_,⟨rfl,trivial⟩,uK,Ab _⟩
 refine ⟨by omega,?_⟩
 rw [hg,zap,if_neg (by simp_all)];rfl
 dsimp only;omega
 have hnk:l.length<=k:=by omega
 obtain rfl:k=l.length:=by omega
 rw [zz (Ae _)] at hg;refine gz2 ?_;refine zp ?_;refine gz6 ?_;refine uRp ?_
 (rw [hg];rfl)
theorem zc2 [Tracks] {l:List HealthS} (hl:l.length<=1000000):zeK prog 186 [.slice 4 (l.map zD)] 4 (l.map zD):=by
 refine uOb func186 ntmps186 ?_;refine gz6 ?_;refine de rfl (zcp zaL rfl rfl fun b4 hb4=> ?_)
 refine gz1 ?_;refine uCo (fun h1=> ?_) fun h2=> ?_
 refine gz4 ?_;exact zag (zG 4) rfl ⟨_,rfl,by simp_all⟩;refine gz3 ?_;refine de rfl (zdz zaL zU fun v5=> ?_)
 refine gz1 ?_;refine de rfl (zC (i:=0) zaL zU rfl rfl rfl rfl rfl (by simp [zal,zd]) (by simp;omega) fun v7=> ?_)
 refine gz3 ?_;exact zdU rfl rfl
theorem zeN [Tracks] {l:List ChoiceS} {fid:FuncId} {caps:List HVal} {p:ChoiceS->Bool} (hca:Callable prog fid) (hp: ∀x,ConP prog fid ([zk x]++caps) (.bool (p x))) (hl:l.length<=1000000):ConP prog 198 [.slice 5 (l.map zk),.fn (.func fid) [] caps] (.int .i64 (zap p l 0)):=by
 refine uOb func198 ntmps198 ?_;refine zaD ?_;refine uV1 [4,2,8,11] (fun (k:Nat)=>[(8,.int .i64 k)]) (fun (k:Nat)=>[]) (fun (k:Nat)=>k<=l.length/\(zap p l 0=zap p (l.drop k) k)) (fun (k:Nat)=>l.length-k) (0) ?_ ?_ ?_ ?_;exact ⟨Ad _,rfl⟩;exact ⟨rfl,trivial⟩;exact Ab _
 intro k hinv
 obtain ⟨hk,hg⟩:=hinv;refine gz4 ?_;refine uCo (fun h1=> ?_) fun h2=> ?_
 obtain ⟨x,hx⟩: ∃x,l[k]? =some x:=⟨_,Aa h1⟩
 have hdx:=zi hx;rw [hdx] at hg;refine zcc ?_;refine dq (zl zaa zR rfl rfl rfl (by assumption)) ?_;refine gz1 ?_;refine dq (z7 hca rfl rfl (WeakL.refl _) (hp _)) ?_;refine gz1 ?_;refine uCo (fun h3=> ?_) fun h4=> ?_
 refine gz5 ?_;refine uRp ?_
 (rw [hg];simp_all [zap])
 refine gz7 ?_;refine ⟨k+1,?_,?_,⟨rfl,trivial⟩,uK,Ab _⟩
 refine ⟨by omega,?_⟩
 rw [hg,zap,if_neg (by simp_all)];rfl
 dsimp only;omega
 have hnk:l.length<=k:=by omega
 obtain rfl:k=l.length:=by omega
 rw [zz (Ae _)] at hg;refine gz2 ?_;refine zp ?_;refine gz6 ?_;refine uRp ?_
 (rw [hg];rfl)
theorem zbV [Tracks] {l:List ChoiceS} (hl:l.length<=1000000):zeK prog 16 [.slice 5 (l.map zk)] 5 (l.map zk):=by
 refine uOb func16 ntmps16 ?_;refine gz6 ?_;refine de rfl (zcp zaa rfl rfl fun b4 hb4=> ?_)
 refine gz1 ?_;refine uCo (fun h1=> ?_) fun h2=> ?_
 refine gz4 ?_;exact zag (zG 5) rfl ⟨_,rfl,by simp_all⟩;refine gz3 ?_;refine de rfl (zdz zaa zR fun v5=> ?_)
 refine gz1 ?_;refine de rfl (zC (i:=0) zaa zR rfl rfl rfl rfl rfl (by simp [zal,zd]) (by simp;omega) fun v7=> ?_)
 refine gz3 ?_;exact zdU rfl rfl
end
section
open Go.Proofs.Tryz
open Go.HL
theorem zhE [Tracks] {b:Nat} {l:List Int} {a:Nat} {lo hi:Int} (ha:a<=900000) (hlh:lo<=hi) (h0: -1000000000<=lo) (h1:hi<=1000000000):Con prog 108 [pAt b,.int .i64 lo,.int .i64 hi] [St b l a] (fun x M'=> ∃y:Int,x= .int .i64 y/\(-2000000000000<=y/\y<=2000000000000)/\M'=[St b l (a+2)]):=by
 refine uOb func108 ntmps108 ?_;refine gz6 ?_;refine de rfl (za (i:=0) zdK rfl (WeakL.refl _) rfl (zK uS uS) ?_)
 rintro _ _ ⟨y8,rfl,rfl⟩;refine gz1 ?_;refine uCo (fun h1=> ?_) fun h2=> ?_
 refine gz8 ?_;refine dq (zb (hs:=[_,_,_,_,_,_]) zac ty3 rfl rfl (by decide) (by decide) rfl) ?_;refine de rfl (za (i:=0) za8 rfl (WeakL.refl _) rfl (zh (L:=[_,_,_,_,_,_]) uS uS uS) ?_)
 rintro _ _ ⟨y17,rfl,hy17,rfl⟩;refine gz3 ?_;exact zT rfl ⟨_,rfl,by simp at hy17;rcases hy17 with rfl|rfl|rfl|rfl|rfl|rfl<;>omega,rfl⟩;refine gz6 ?_;refine de rfl (za (i:=0) zgh rfl (WeakL.refl _) rfl (zY uS uS uS uS) ?_)
 rintro _ _ ⟨y21,rfl,hy21,rfl⟩;refine gz3 ?_;exact zT rfl ⟨_,rfl,by omega,rfl⟩
theorem zeE [Tracks] {l:List HealthS} {fid:FuncId} {caps:List HVal} {p:HealthS->Bool} {v:Value} (hca:Callable prog fid) (hp: ∀x,ConP prog fid ([zD x]++caps) (.bool (p x))) (hl:l.length<=1000000):Con prog 218 [.raw v,.fn (.func fid) [] caps] [.arr v 4 (l.map zD)] (fun x M'=> ∃u,x= .raw u/\M'=[.arr u 4 ((l.filter (fun x=> !p x)).map zD)]):=by
 refine uOb func218 ntmps218 ?_;refine gz6 ?_;refine de rfl (zp2 (hs':=[.slice 4 (l.map zD),.fn (.func fid) [] caps]) zze rfl ⟨.arr (i:=0) rfl,.weak (Weak.refl _),trivial⟩ (zeO (p:=p) hca hp hl) rfl ?_)
 refine gz7 ?_;refine uCo (fun h1=> ?_) fun h2=> ?_
 ·refine gz5 ?_
  (refine zT rfl ⟨_,rfl,?_⟩
   rw [zmC p l 0 uO h1]
   done)
 ·refine gz3 ?_;obtain ⟨i0,hi0,hil,⟨x0,hx0,hp0⟩,hb0⟩:=zf4 p l 0 uO h2;rw [Ca] at hi0;obtain ⟨hD0,hn0⟩:=DelInv.start (p:=p) hil hx0 hp0 hb0;refine zb1 (i:=0) rfl (fun h0 he=> ?_) (fun b off cap hv hcap=> ?_)
  ·exfalso;have:=congrArg List.length he;simp at this;subst this;simp at hil
  rw [Aj] at hv hcap;subst hv;refine gz2 ?_;refine dq (zae (zcI rfl rfl (by rw [hi0];omega) (by rw [hi0];omega)) (congrArg _ (by rw [hi0]))) ?_;refine gz3 ?_;refine uV2 [5,3,16,20] (fun (j:Nat) (D:List HealthS)=>[(6,.int .i64 (j:Int)),(5,.int .i64 (((l.take j).filter (fun x=> !p x)).length:Int))]) (fun (j:Nat) (D:List HealthS)=>[.arr (.slice (some ⟨b,off,none⟩) l.length cap) 4 (D.map zD)]) (fun (j:Nat) (D:List HealthS)=>DelInv p l j D) (fun (j:Nat) (D:List HealthS)=>l.length-j) (i0+1) (l) ?_ ?_ ?_ ?_
  ·exact hD0
  ·exact ⟨rfl,zg (by rw [hn0,hi0]),trivial⟩
  ·exact Ab _
  ·intro j D hD
   have hlt0:=hD.lt;have hle0:=hD.len;refine gz4 ?_;refine de rfl (zaT (i:=0) zaL rfl rfl ?_)
   refine gz2 ?_;refine uCo (fun h3=> ?_) fun h4=> ?_
   ·obtain ⟨x,hx⟩: ∃x,l[j]? =some x:=⟨_,Aa uO⟩
    refine gz7 ?_;refine dq (ze (j:=j) zaL zU rfl rfl rfl uO) ?_;refine de rfl (zj (i:=0) (j:=j) zU rfl rfl rfl (hD.get hx) rfl rfl rfl ?_)
    refine de rfl (zq zU rfl fun b7=> ?_)
    refine de0 (zJ zU rfl rfl rfl rfl rfl ?_)
    refine gz1 ?_;refine zf (zA 7 rfl) ?_;refine gz3 ?_;refine dq (z7 hca rfl rfl (WeakL.refl _) (hp _)) ?_;refine gz2 ?_;refine uCo (fun h5=> ?_) fun h6=> ?_
    ·refine gz4 ?_;refine dq (ze (j:=((l.take j).filter (fun x=> !p x)).length) zaL zU rfl rfl rfl (by have:=hD.lt;omega)) ?_;refine de0 (zO (i:=0) (j:=((l.take j).filter (fun x=> !p x)).length) (y:=D[((l.take j).filter (fun x=> !p x)).length]'(by have:=hD.lt;have:=hD.len;omega)) (y':=x) zU rfl rfl rfl rfl (Aa _) rfl rfl rfl ?_)
     refine gz3 ?_;refine dq (zcI rfl rfl uO (by have:=hD.lt;omega)) ?_;refine gz9 ?_;exact ⟨j+1,_,(hD.keep hx (by simp_all)).1,uD,⟨rfl,zg (by rw [(hD.keep hx (by simp_all)).2];rfl),trivial⟩,uK,Ab _⟩
    ·refine gz8 ?_;exact ⟨j+1,_,(hD.skip hx (by simp_all)).1,uD,⟨rfl,zg (by rw [(hD.skip hx (by simp_all)).2]),trivial⟩,uK,Ab _⟩
   ·obtain rfl:j=l.length:=by have:=hD.jle;omega
    have hend:=hD.done;refine gz2 ?_;refine zM ?_;refine gz5 ?_;refine dq (zcf (l:=((l.take l.length).filter (fun x=> !p x)).length) zaL zU rfl ⟨_,_,rfl,rfl⟩ rfl uO uO hcap) ?_;refine de0 (zc3 (i:=0) (m:=((l.take l.length).filter (fun x=> !p x)).length) (((l.take l.length).filter (fun x=> !p x)).length) zaL zU rfl rfl rfl (zfS uO hcap) rfl uO (Ae _) (by rw [Aj,hD.len];omega) ?_)
    refine gz4 ?_;refine dq (zb5 (h:=((l.take l.length).filter (fun x=> !p x)).length) zaL zU rfl ⟨_,_,rfl,rfl⟩ uO) ?_;refine gz3 ?_
    (refine zT rfl ⟨_,rfl,?_⟩
     rw [Al,<-Bq,hend];rfl)
theorem zfh [Tracks] {l:List StintS} {fid:FuncId} {caps:List HVal} {p:StintS->Bool} (hca:Callable prog fid) (hp: ∀x,ConP prog fid ([zbx x]++caps) (.bool (p x))) (hl:l.length<=1000000):ConP prog 339 [.slice 3 (l.map zbx),.fn (.func fid) [] caps] (.int .i64 (zap p l 0)):=by
 refine uOb func339 ntmps339 ?_;refine zaD ?_;refine uV1 [4,2,8,11] (fun (k:Nat)=>[(8,.int .i64 k)]) (fun (k:Nat)=>[]) (fun (k:Nat)=>k<=l.length/\(zap p l 0=zap p (l.drop k) k)) (fun (k:Nat)=>l.length-k) (0) ?_ ?_ ?_ ?_;exact ⟨Ad _,rfl⟩;exact ⟨rfl,trivial⟩;exact Ab _
 intro k hinv
 obtain ⟨hk,hg⟩:=hinv;refine gz4 ?_;refine uCo (fun h1=> ?_) fun h2=> ?_
 obtain ⟨x,hx⟩: ∃x,l[k]? =some x:=⟨_,Aa h1⟩
 have hdx:=zi hx;rw [hdx] at hg;refine zcc ?_;refine dq (zl zcL zbF rfl rfl rfl (by assumption)) ?_;refine gz1 ?_;refine dq (z7 hca rfl rfl (WeakL.refl _) (hp _)) ?_;refine gz1 ?_;refine uCo (fun h3=> ?_) fun h4=> ?_
 refine gz5 ?_;refine uRp ?_
 (rw [hg];simp_all [zap])
 refine gz7 ?_;refine ⟨k+1,?_,?_,⟨rfl,trivial⟩,uK,Ab _⟩
 refine ⟨by omega,?_⟩
 rw [hg,zap,if_neg (by simp_all)];rfl
 dsimp only;omega
 have hnk:l.length<=k:=by omega
 obtain rfl:k=l.length:=by omega
 rw [zz (Ae _)] at hg;refine gz2 ?_;refine zp ?_;refine gz6 ?_;refine uRp ?_
 (rw [hg];rfl)
theorem ze1 [Tracks] {l:List StintS} {fid:FuncId} {caps:List HVal} {p:StintS->Bool} {v:Value} (hca:Callable prog fid) (hp: ∀x,ConP prog fid ([zbx x]++caps) (.bool (p x))) (hl:l.length<=1000000):Con prog 265 [.raw v,.fn (.func fid) [] caps] [.arr v 3 (l.map zbx)] (fun x M'=> ∃u,x= .raw u/\M'=[.arr u 3 ((l.filter (fun x=> !p x)).map zbx)]):=by
 refine uOb func265 ntmps265 ?_;refine gz6 ?_;refine de rfl (zp2 (hs':=[.slice 3 (l.map zbx),.fn (.func fid) [] caps]) zzm rfl ⟨.arr (i:=0) rfl,.weak (Weak.refl _),trivial⟩ (zfh (p:=p) hca hp hl) rfl ?_)
 refine gz7 ?_;refine uCo (fun h1=> ?_) fun h2=> ?_
 ·refine gz5 ?_
  (refine zT rfl ⟨_,rfl,?_⟩
   rw [zmC p l 0 uO h1]
   done)
 ·refine gz3 ?_;obtain ⟨i0,hi0,hil,⟨x0,hx0,hp0⟩,hb0⟩:=zf4 p l 0 uO h2;rw [Ca] at hi0;obtain ⟨hD0,hn0⟩:=DelInv.start (p:=p) hil hx0 hp0 hb0;refine zb1 (i:=0) rfl (fun h0 he=> ?_) (fun b off cap hv hcap=> ?_)
  ·exfalso;have:=congrArg List.length he;simp at this;subst this;simp at hil
  rw [Aj] at hv hcap;subst hv;refine gz2 ?_;refine dq (zae (zcI rfl rfl (by rw [hi0];omega) (by rw [hi0];omega)) (congrArg _ (by rw [hi0]))) ?_;refine gz3 ?_;refine uV2 [5,3,16,20] (fun (j:Nat) (D:List StintS)=>[(6,.int .i64 (j:Int)),(5,.int .i64 (((l.take j).filter (fun x=> !p x)).length:Int))]) (fun (j:Nat) (D:List StintS)=>[.arr (.slice (some ⟨b,off,none⟩) l.length cap) 3 (D.map zbx)]) (fun (j:Nat) (D:List StintS)=>DelInv p l j D) (fun (j:Nat) (D:List StintS)=>l.length-j) (i0+1) (l) ?_ ?_ ?_ ?_
  ·exact hD0
  ·exact ⟨rfl,zg (by rw [hn0,hi0]),trivial⟩
  ·exact Ab _
  ·intro j D hD
   have hlt0:=hD.lt;have hle0:=hD.len;refine gz4 ?_;refine de rfl (zaT (i:=0) zcL rfl rfl ?_)
   refine gz2 ?_;refine uCo (fun h3=> ?_) fun h4=> ?_
   ·obtain ⟨x,hx⟩: ∃x,l[j]? =some x:=⟨_,Aa uO⟩
    refine gz7 ?_;refine dq (ze (j:=j) zcL zbF rfl rfl rfl uO) ?_;refine de rfl (zj (i:=0) (j:=j) zbF rfl rfl rfl (hD.get hx) rfl rfl rfl ?_)
    refine de rfl (zq zbF rfl fun b7=> ?_)
    refine de0 (zJ zbF rfl rfl rfl rfl rfl ?_)
    refine gz1 ?_;refine zf (zA 7 rfl) ?_;refine gz3 ?_;refine dq (z7 hca rfl rfl (WeakL.refl _) (hp _)) ?_;refine gz2 ?_;refine uCo (fun h5=> ?_) fun h6=> ?_
    ·refine gz4 ?_;refine dq (ze (j:=((l.take j).filter (fun x=> !p x)).length) zcL zbF rfl rfl rfl (by have:=hD.lt;omega)) ?_;refine de0 (zO (i:=0) (j:=((l.take j).filter (fun x=> !p x)).length) (y:=D[((l.take j).filter (fun x=> !p x)).length]'(by have:=hD.lt;have:=hD.len;omega)) (y':=x) zbF rfl rfl rfl rfl (Aa _) rfl rfl rfl ?_)
     refine gz3 ?_;refine dq (zcI rfl rfl uO (by have:=hD.lt;omega)) ?_;refine gz9 ?_;exact ⟨j+1,_,(hD.keep hx (by simp_all)).1,uD,⟨rfl,zg (by rw [(hD.keep hx (by simp_all)).2];rfl),trivial⟩,uK,Ab _⟩
    ·refine gz8 ?_;exact ⟨j+1,_,(hD.skip hx (by simp_all)).1,uD,⟨rfl,zg (by rw [(hD.skip hx (by simp_all)).2]),trivial⟩,uK,Ab _⟩
   ·obtain rfl:j=l.length:=by have:=hD.jle;omega
    have hend:=hD.done;refine gz2 ?_;refine zM ?_;refine gz5 ?_;refine dq (zcf (l:=((l.take l.length).filter (fun x=> !p x)).length) zcL zbF rfl ⟨_,_,rfl,rfl⟩ rfl uO uO hcap) ?_;refine de0 (zc3 (i:=0) (m:=((l.take l.length).filter (fun x=> !p x)).length) (((l.take l.length).filter (fun x=> !p x)).length) zcL zbF rfl rfl rfl (zfS uO hcap) rfl uO (Ae _) (by rw [Aj,hD.len];omega) ?_)
    refine gz4 ?_;refine dq (zb5 (h:=((l.take l.length).filter (fun x=> !p x)).length) zcL zbF rfl ⟨_,_,rfl,rfl⟩ uO) ?_;refine gz3 ?_
    (refine zT rfl ⟨_,rfl,?_⟩
     rw [Al,<-Bq,hend];rfl)
theorem zei [Tracks] {x:HealthS}:ConP prog 110 [zD x] (.str x.Player):=by
 refine uOb func110 ntmps110 ?_;refine zaD ?_;refine zx rfl ?_
 rfl
theorem zmk [Tracks] {L:List PlayerS} {x:HealthS} (hL:L.length<=1000000):ConP prog 219 [zD x,.vptr [zbd L] 0,.vptr [.fn (.func 110) [] []] 0] (.bool (ofB L x.Player)):=by
 refine uOb func219 ntmps219 ?_;refine gz4 ?_;refine zw (fun _=>True) [] mixed ?_;refine gz3 ?_;refine uB 3 rfl (z7 zvJ rfl rfl (WeakL.refl _) (zei (x:=x))) ?_;refine uB 4 rfl (uCl zqI rfl (zdn (l:=L) (s:=x.Player) hL)) ?_;refine gz4 ?_;refine ahg 9 rfl rfl (by kernel_rfl) (by kernel_rfl) rfl (fun hc=>⟨_,OpenTo.upd (t:=13) rfl (hc) (OpenTo.upd (t:=12) rfl (hc) (OpenTo.refl _)),z7 zvJ rfl rfl (WeakL.refl _) (zei (x:=x))⟩) ?_;refine gz5 ?_;refine zx rfl ?_;refine congrArg _ ?_;unfold ofB
 cases decide (zap (fun x_1:PlayerS=>x_1.Key==x.Player) L 0<0)
 rfl
 rfl
theorem znG [Tracks] {L:List PlayerS} {l:List HealthS} {v:Value} (hL:L.length<=1000000) (hl:l.length<=1000000):Con prog 109 [zbd L,.raw v,.fn (.func 110) [] []] [.arr v 4 (l.map zD)] (fun x M'=> ∃u,x= .raw u/\M'=[.arr u 4 ((l.filter fun x=> !(ofB L x.Player)).map zD)]):=by
 refine uOb func109 ntmps109 ?_;refine gz8 ?_;refine de rfl (za (i:=0) zyJ rfl (WeakL.refl _) rfl (zeE (l:=l) (p:=fun x=>ofB L x.Player) zyK (fun _=>zmk hL) hl) ?_)
 rintro _ _ ⟨u9,rfl,rfl⟩;refine gz3 ?_;exact zT rfl ⟨u9,rfl,rfl⟩
theorem zek [Tracks] {x:StintS}:ConP prog 211 [zbx x] (.str x.Player):=by
 refine uOb func211 ntmps211 ?_;refine zaD ?_;refine zx rfl ?_
 rfl
theorem zm8 [Tracks] {L:List PlayerS} {x:StintS} (hL:L.length<=1000000):ConP prog 266 [zbx x,.vptr [zbd L] 0,.vptr [.fn (.func 211) [] []] 0] (.bool (ofB L x.Player)):=by
 refine uOb func266 ntmps266 ?_;refine gz4 ?_;refine zw (fun _=>True) [] mixed ?_;refine gz3 ?_;refine uB 3 rfl (z7 zv8 rfl rfl (WeakL.refl _) (zek (x:=x))) ?_;refine uB 4 rfl (uCl zqI rfl (zdn (l:=L) (s:=x.Player) hL)) ?_;refine gz4 ?_;refine ahg 9 rfl rfl (by kernel_rfl) (by kernel_rfl) rfl (fun hc=>⟨_,OpenTo.upd (t:=13) rfl (hc) (OpenTo.upd (t:=12) rfl (hc) (OpenTo.refl _)),z7 zv8 rfl rfl (WeakL.refl _) (zek (x:=x))⟩) ?_;refine gz5 ?_;refine zx rfl ?_;refine congrArg _ ?_;unfold ofB
 cases decide (zap (fun x_1:PlayerS=>x_1.Key==x.Player) L 0<0)
 rfl
 rfl
theorem zoA [Tracks] {L:List PlayerS} {l:List StintS} {v:Value} (hL:L.length<=1000000) (hl:l.length<=1000000):Con prog 209 [zbd L,.raw v,.fn (.func 211) [] []] [.arr v 3 (l.map zbx)] (fun x M'=> ∃u,x= .raw u/\M'=[.arr u 3 ((l.filter fun x=> !(ofB L x.Player)).map zbx)]):=by
 refine uOb func209 ntmps209 ?_;refine gz8 ?_;refine de rfl (za (i:=0) zzc rfl (WeakL.refl _) rfl (ze1 (l:=l) (p:=fun x=>ofB L x.Player) zzd (fun _=>zm8 hL) hl) ?_)
 rintro _ _ ⟨u9,rfl,rfl⟩;refine gz3 ?_;exact zT rfl ⟨u9,rfl,rfl⟩
theorem zh3 [Tracks] {b:Nat} {l:List Int} {a:Nat} {L:List PlayerS} (ha:a<=700000) (hL:L.length<=1000000):Con prog 30 [pAt b,zbd L] [St b l a] (fun x M'=> ∃k a',x=za1 k/\GoodHes k/\a'<=a+150/\M'=[St b l a']):=by
 refine uOb func30 ntmps30 ?_;refine gz6 ?_;refine zf (zG 4) ?_;refine gz2 ?_;refine dq (zb (hs:=[_,_,_,_,_]) zH ty9 rfl rfl (by decide) (by decide) rfl) ?_;refine dq (zaq (f:=HVal.str) (l:=nm5) zH rfl) ?_;refine gz3 ?_;refine uV2 [5,1,7,3,12,47] (fun (k:Nat) (q:GL HealthS)=>[(12,.int .i64 k),(5,.raw q.u)]) (fun (k:Nat) (q:GL HealthS)=>[St b l q.a,.arr q.u 4 (q.out.map zD)]) (fun (k:Nat) (q:GL HealthS)=>k<=nm5.length/\(GLok zqZ (2*k) (a+24*k) q)) (fun (k:Nat) (q:GL HealthS)=>nm5.length-k) (0) (⟨.slice none 0 0,[],a⟩) ?_ ?_ ?_ ?_;exact ⟨Ad _,⟨by simp,by simp,uD⟩⟩;exact ⟨rfl,rfl,trivial⟩;exact uP
 intro k q hinv
 obtain ⟨hk,hq⟩:=hinv;have hlen:nm5.length=5:=rfl;obtain ⟨u,out,a2⟩:=q;obtain ⟨g1,g2,g3⟩:=id hq;dsimp only at g1 g2 g3;refine gz4 ?_;refine uCo (fun h1=> ?_) fun h2=> ?_
 obtain ⟨x,hx⟩: ∃x,nm5[k]? =some x:=⟨_,Aa h1⟩
 have hdx:=zi hx;refine gz5 ?_;refine dq (zl (f:=HVal.str) (l:=nm5) (j:=k) (a:=x) zH ty9 rfl rfl rfl hx) ?_;refine gz5 ?_;refine de rfl (za (i:=0) zgh rfl (WeakL.refl _) rfl (zY uS uS uS uS) ?_)
 rintro _ _ ⟨y17,rfl,hy17,rfl⟩;refine gz4 ?_;refine de rfl (za (i:=0) zgh rfl (WeakL.refl _) rfl (zY uS uS uS uS) ?_)
 rintro _ _ ⟨y19,rfl,hy19,rfl⟩;refine gz3 ?_;refine uV3 [5,1,8,2,20,38] (fun (n:Nat) (wk:Int) (q2:GL HealthS)=>[(20,.int .i64 (n:Int)),(8,.int .i64 wk),(5,.raw q2.u)]) (fun (n:Nat) (wk:Int) (q2:GL HealthS)=>[St b l q2.a,.arr q2.u 4 (q2.out.map zD)]) (fun (n:Nat) (wk:Int) (q2:GL HealthS)=>(n:Int)<=y19/\(1<=wk/\wk<=3+4*n)/\GLok zqZ (2*k+n) (a+24*k+2+11*n) q2) (fun (n:Nat) (wk:Int) (q2:GL HealthS)=>y19.toNat-n) (0) (y17) (⟨u,out,a2+2⟩) ?_ ?_ ?_ ?_;exact ⟨by omega,by omega,⟨uD,g2,uD⟩⟩;exact ⟨rfl,rfl,rfl,trivial⟩;exact uP
 intro n wk q2 hinv
 obtain ⟨hn,hw,hq2⟩:=hinv;obtain ⟨u,out,a2⟩:=q2;obtain ⟨g1,g2,g3⟩:=id hq2;dsimp only at g1 g2 g3;refine gz4 ?_;refine uCo (fun h3=> ?_) fun h4=> ?_
 refine gz9 ?_;refine de rfl (za (i:=0) zgh rfl (WeakL.refl _) rfl (zY uS uS uS uS) ?_)
 rintro _ _ ⟨y26,rfl,hy26,rfl⟩;refine gz2 ?_;refine dq (zb (hs:=[_,_]) zac ty3 rfl rfl (by decide) (by decide) rfl) ?_;refine de rfl (za (i:=0) za8 rfl (WeakL.refl _) rfl (zh (L:=[_,_]) uS uS uS) ?_)
 rintro _ _ ⟨y30,rfl,hy30,rfl⟩;refine dq (zas (cs:=[_,_,_,_]) zU zzy rfl) ?_;refine de rfl (zq zU rfl fun b9=> ?_)
 refine de0 (uY 0 ?_)
 refine gz1 ?_;refine zw (fun M=> ∃i:Nat,M[i]? =some (.cells b9 (zd (zD (⟨x,wk,wk+y26,y30⟩:HealthS))))) [1] mixed ?_;refine gz1 ?_;refine uM 1 rfl ⟨0,rfl⟩ (fun M hM=>by obtain ⟨i,hi⟩:=hM;exact zao (i:=i) (h:= .int .i64 (wk+y26)) ty3 rfl hi (.inl ⟨rfl,rfl⟩) ⟨rfl,rfl⟩) ?_;refine gz1 ?_;refine uF 3 ?_;refine zy rfl (za (i:=1) zgh rfl (WeakL.refl _) rfl (zY uS uS uS uS) ?_)
 rintro _ _ ⟨y35,rfl,hy35,rfl⟩;refine ⟨uE,?_⟩
 refine gz3 ?_;refine uVj [37,16] (fun (q4:HealthS×Nat)=>[]) (fun (q4:HealthS×Nat)=>[St b l q4.2,.arr u 4 (out.map zD),.cells b9 (zd (zD q4.1))]) (fun (q4:HealthS×Nat)=>zqZ q4.1/\q4.2<=a2+11) ?_ ?_
 skip
 refine gz2 ?_;refine de rfl (za (i:=0) zdK rfl (WeakL.refl _) rfl (zK uS uS) ?_)
 rintro _ _ ⟨y38,rfl,rfl⟩;refine gz1 ?_;refine uCo (fun h5=> ?_) fun h6=> ?_
 refine gz3 ?_;refine dq (zb (hs:=[_,_]) zH ty9 rfl rfl (by decide) (by decide) rfl) ?_;refine de rfl (za (i:=0) zck rfl (WeakL.refl _) rfl (zt (L:=[_,_]) uS uS uS) ?_)
 rintro _ _ ⟨y42,rfl,hy42,rfl⟩;refine gz1 ?_;refine de rfl (za (i:=0) zlg rfl (WeakL.refl _) rfl (zhE uS uS uS uS) ?_)
 rintro _ _ ⟨y44,rfl,hy44,rfl⟩;refine gz1 ?_;refine de rfl (za (i:=0) zlg rfl (WeakL.refl _) rfl (zhE uS uS uS uS) ?_)
 rintro _ _ ⟨y46,rfl,hy46,rfl⟩;refine gz1 ?_;refine de rfl (za (i:=0) zlg rfl (WeakL.refl _) rfl (zhE uS uS uS uS) ?_)
 rintro _ _ ⟨y48,rfl,hy48,rfl⟩;refine gz1 ?_;refine de0 (uY 1 ?_)
 refine gz1 ?_;refine de0 (uY 1 ?_)
 refine gz1 ?_;refine de0 (uY 1 ?_)
 refine gz1 ?_;refine de0 (uY 1 ?_)
 refine gz1 ?_;exact ⟨((⟨y42,y44,y46,y48⟩:HealthS),a2+11),⟨⟨uD,uD⟩,uD⟩,trivial,uK,uP⟩;refine gz1 ?_;exact ⟨((⟨x,wk,wk+y26,y30⟩:HealthS),a2+4),⟨⟨uD,uD⟩,uD⟩,trivial,uK,uP⟩
 intro q4 hq4
 obtain ⟨x5,a5⟩:=q4;obtain ⟨hx5,ha5⟩:=hq4;dsimp only at hx5 ha5;refine zf (zca 9 (i:=2) rfl rfl) ?_;refine gz3 ?_;refine dq (zb (hs:=[_]) zaL zU rfl rfl (by decide) (by decide) rfl) ?_;refine de rfl (zC (i:=1) zaL zU rfl rfl rfl rfl rfl (by simp [zal,zd,zce,zbp]) (by simp;omega) fun v56=> ?_)
 refine gz8 ?_;exact ⟨n+1,wk+y26+y35,⟨v56,out++[x5],a5⟩,⟨by omega,⟨by omega,by omega⟩,hq2.add (x:=x5) hx5 uO⟩,uD,⟨rfl,rfl,rfl,trivial⟩,uK,uP⟩;refine gz2 ?_;refine zbX ?_;refine gz7 ?_;exact ⟨k+1,⟨u,out,a2⟩,⟨by omega,hq2.mono uO uO⟩,uD,⟨rfl,rfl,trivial⟩,uK,uP⟩;have hnk:nm5.length<=k:=by omega
 obtain rfl:k=nm5.length:=by omega
 refine gz2 ?_;refine zM ?_;refine gz5 ?_;refine de rfl (za (i:=1) zxR rfl (WeakL.refl _) rfl (znG (L:=L) (l:=out) hL uO) ?_)
 rintro _ _ ⟨u61,rfl,rfl⟩;refine gz3 ?_;exact zag (zaP 4 (i:=0) rfl rfl) rfl ⟨_,a2,rfl,GoodHes.filter uO g2,by omega,rfl⟩
theorem ziD [Tracks] {b:Nat} {l:List Int} {a:Nat} (ha:a<=700000):Con prog 210 [pAt b] [St b l a] (fun x M'=> ∃(u:Value) (k:List StintS) (a':Nat),x= .raw u/\k.length<=10/\a'<=a+100/\M'=[.arr u 3 (k.map zbx),St b l a']):=by
 refine uOb func210 ntmps210 ?_;refine gz6 ?_;refine zf (zG 3) ?_;refine gz2 ?_;refine dq (zb (hs:=[_,_,_,_,_]) zH ty9 rfl rfl (by decide) (by decide) rfl) ?_;refine dq (zaq (f:=HVal.str) (l:=nm5) zH rfl) ?_;refine gz3 ?_;refine uV2 [3,1,5,3,10,40] (fun (k:Nat) (q:GL StintS)=>[(10,.int .i64 k),(3,.raw q.u)]) (fun (k:Nat) (q:GL StintS)=>[St b l q.a,.arr q.u 3 (q.out.map zbx)]) (fun (k:Nat) (q:GL StintS)=>k<=nm5.length/\(GLok (fun _=>True) (2*k) (a+20*k) q)) (fun (k:Nat) (q:GL StintS)=>nm5.length-k) (0) (⟨.slice none 0 0,[],a⟩) ?_ ?_ ?_ ?_
 ·exact ⟨Ad _,⟨by simp,by simp,uD⟩⟩
 ·exact ⟨rfl,rfl,trivial⟩
 ·exact uP
 ·intro k q hinv
  obtain ⟨hk,hq⟩:=hinv;have hlen:nm5.length=5:=rfl;obtain ⟨u,out,a2⟩:=q;obtain ⟨g1,g2,g3⟩:=id hq;dsimp only at g1 g2 g3;refine gz4 ?_;refine uCo (fun h1=> ?_) fun h2=> ?_
  ·obtain ⟨x,hx⟩: ∃x,nm5[k]? =some x:=⟨_,Aa h1⟩
   have hdx:=zi hx;refine gz5 ?_;refine dq (zl (f:=HVal.str) (l:=nm5) (j:=k) (a:=x) zH ty9 rfl rfl rfl hx) ?_;refine gz5 ?_;refine de rfl (za (i:=0) zgh rfl (WeakL.refl _) rfl (zY uS uS uS uS) ?_)
   rintro _ _ ⟨y15,rfl,hy15,rfl⟩;refine gz4 ?_;refine de rfl (za (i:=0) zgh rfl (WeakL.refl _) rfl (zY uS uS uS uS) ?_)
   rintro _ _ ⟨y17,rfl,hy17,rfl⟩;refine gz3 ?_;refine uV3 [3,1,6,2,18,31] (fun (n:Nat) (wk:Int) (q2:GL StintS)=>[(18,.int .i64 (n:Int)),(6,.int .i64 wk),(3,.raw q2.u)]) (fun (n:Nat) (wk:Int) (q2:GL StintS)=>[St b l q2.a,.arr q2.u 3 (q2.out.map zbx)]) (fun (n:Nat) (wk:Int) (q2:GL StintS)=>(n:Int)<=y17/\(1<=wk/\wk<=2+3*n)/\GLok (fun _=>True) (2*k+n) (a+20*k+2+9*n) q2) (fun (n:Nat) (wk:Int) (q2:GL StintS)=>y17.toNat-n) (0) (y15) (⟨u,out,a2+2⟩) ?_ ?_ ?_ ?_
   ·exact ⟨by omega,by omega,⟨uD,g2,uD⟩⟩
   ·exact ⟨rfl,rfl,rfl,trivial⟩
   ·exact uP
   ·intro n wk q2 hinv
    obtain ⟨hn,hw,hq2⟩:=hinv;obtain ⟨u,out,a2⟩:=q2;obtain ⟨g1,g2,g3⟩:=id hq2;dsimp only at g1 g2 g3;refine gz4 ?_;refine uCo (fun h3=> ?_) fun h4=> ?_
    ·refine gz7 ?_;refine dq (zb (hs:=[_,_,_,_]) zH ty9 rfl rfl (by decide) (by decide) rfl) ?_;refine de rfl (za (i:=0) zck rfl (WeakL.refl _) rfl (zt (L:=[_,_,_,_]) uS uS uS) ?_)
     rintro _ _ ⟨y23,rfl,hy23,rfl⟩;refine gz1 ?_;refine dq (zas (cs:=[_,_,_]) zbF zzA rfl) ?_;refine de rfl (zq zbF rfl fun b7=> ?_)
     refine de0 (uY 0 ?_)
     refine gz1 ?_;refine uVj [26,14] (fun (q4:StintS×Nat)=>[]) (fun (q4:StintS×Nat)=>[St b l q4.2,.arr u 3 (out.map zbx),.cells b7 (zd (zbx q4.1))]) (fun (q4:StintS×Nat)=>q4.2<=a2+8) ?_ ?_
     ·skip
      refine gz2 ?_;refine de rfl (za (i:=1) zdK rfl (WeakL.refl _) rfl (zK uS uS) ?_)
      rintro _ _ ⟨y27,rfl,rfl⟩;refine gz1 ?_;refine uCo (fun h5=> ?_) fun h6=> ?_
      ·refine gz3 ?_;refine dq (zb (hs:=[_,_,_]) zH ty9 rfl rfl (by decide) (by decide) rfl) ?_;refine de rfl (za (i:=0) zck rfl (WeakL.refl _) rfl (zt (L:=[_,_,_]) uS uS uS) ?_)
       rintro _ _ ⟨y31,rfl,hy31,rfl⟩;refine gz1 ?_;refine dq (zb (hs:=[_,_]) zH ty9 rfl rfl (by decide) (by decide) rfl) ?_;refine de rfl (za (i:=0) zck rfl (WeakL.refl _) rfl (zt (L:=[_,_]) uS uS uS) ?_)
       rintro _ _ ⟨y34,rfl,hy34,rfl⟩;refine gz1 ?_;refine de rfl (za (i:=0) zlg rfl (WeakL.refl _) rfl (zhE uS uS uS uS) ?_)
       rintro _ _ ⟨y36,rfl,hy36,rfl⟩;refine gz1 ?_;refine de0 (uY 1 ?_)
       refine gz1 ?_;refine de0 (uY 1 ?_)
       refine gz1 ?_;refine de0 (uY 1 ?_)
       refine gz1 ?_;exact ⟨((⟨y31,y34,y36⟩:StintS),a2+6),uD,trivial,uK,uP⟩
      ·refine gz1 ?_;exact ⟨((⟨x,y23,wk⟩:StintS),a2+2),uD,trivial,uK,uP⟩
     ·intro q4 ha5
      obtain ⟨x5,a5⟩:=q4;dsimp only at ha5;refine zf (zca 7 (i:=2) rfl rfl) ?_;refine gz3 ?_;refine dq (zb (hs:=[_]) zcL zbF rfl rfl (by decide) (by decide) rfl) ?_;refine de rfl (zC (i:=1) zcL zbF rfl rfl rfl rfl rfl (by simp [zal,zd,zce,zbp]) (by simp;omega) fun v43=> ?_)
      refine gz5 ?_;refine de rfl (za (i:=0) zgh rfl (WeakL.refl _) rfl (zY uS uS uS uS) ?_)
      rintro _ _ ⟨y46,rfl,hy46,rfl⟩;refine gz9 ?_;exact ⟨n+1,wk+y46,⟨v43,out++[x5],a5+1⟩,⟨by omega,⟨by omega,by omega⟩,hq2.add (x:=x5) trivial uO⟩,uD,⟨rfl,rfl,rfl,trivial⟩,uK,uP⟩
    ·refine gz2 ?_;refine zbX ?_;refine gz7 ?_;exact ⟨k+1,⟨u,out,a2⟩,⟨by omega,hq2.mono uO uO⟩,uD,⟨rfl,rfl,trivial⟩,uK,uP⟩
  ·have hnk:nm5.length<=k:=by omega
   obtain rfl:k=nm5.length:=by omega
   refine gz2 ?_;refine zM ?_;refine gz7 ?_;exact zag (Ghost.perm (List.Perm.swap _ _ _)) rfl ⟨_,out,a2,rfl,by omega,by omega,rfl⟩
theorem zh5 [Tracks] {b:Nat} {l:List Int} {a:Nat} {L:List PlayerS} (ha:a<=700000) (hL:L.length<=1000000):Con prog 100 [pAt b,zbd L] [St b l a] (fun x M'=> ∃k a',x=zbZ k/\k.length<=10/\a'<=a+100/\M'=[St b l a']):=by
 refine uOb func100 ntmps100 ?_;refine gz6 ?_;refine de rfl (za (i:=0) zyH rfl (WeakL.refl _) rfl (ziD (b:=b) (l:=l) (a:=a) ha) ?_)
 rintro _ _ ⟨u7,k7,a7,rfl,hk7,ha7,rfl⟩;refine de rfl (za (i:=0) zyG rfl (WeakL.refl _) rfl (zoA (L:=L) (l:=k7) hL uO) ?_)
 rintro _ _ ⟨u8,rfl,rfl⟩;refine gz3 ?_;exact zag (zaP 4 (i:=0) rfl rfl) rfl ⟨_,a7,rfl,AA (Bu _ _) hk7,by omega,rfl⟩
end
section
open Go.Proofs.Tryz
open Go.HL
theorem zmg [Tracks] {n d:Int} (hn: -1000000<=n/\n<=1000000) (hd:1<=d/\d<=1000000):ConP prog 264 [.int .i64 n,.int .i64 d] (.agg [.int .i64 (n.tdiv (zhk n d)),.int .i64 (d.tdiv (zhk n d))]):=by
 have hg0:=zwU (n:=n) hd.1;refine zbU func264 rfl ntmps264 rfl rfl ?_;refine gz1 ?_;refine de rfl (zq zb6 rfl fun b4=> ?_)
 refine gz4 ?_;refine dq (uCl zwc rfl (zhA (n:=n) (d:=d) uO uO)) ?_;refine gz2 ?_;refine zw (fun _=>True) [] mixed ?_;refine gz2 ?_;refine uB 2 rfl (zij (n:=zhk n d) rfl rfl uO uO uO) ?_;refine gz2 ?_;refine uB 5 rfl (zij (n:=zhk n d) rfl rfl uO uO uO) ?_;refine uB 6 rfl (zas (cs:=[_,_]) zb6 zn3 rfl) ?_;refine uF 7 ?_;refine zF (uY 0 ?_)
 refine ⟨fun _=> .inl trivial,?_⟩
 refine gz2 ?_;exact ⟨_,_,zA 4 rfl,[_],_,⟨⟨_,_,_,_,_,rfl,zb6,.inr ⟨rfl,rfl,rfl⟩⟩,trivial⟩,Weak.refl _,rfl,rfl⟩
theorem zjg [Tracks] {n:Int} (hn: -1000000<=n/\n<=1000000):ConP prog 207 [.int .i64 n] (.agg [.int .i64 (n.tdiv (zhk n 100)),.int .i64 ((100:Int).tdiv (zhk n 100))]):=by
 refine zbU func207 rfl ntmps207 rfl rfl ?_;refine gz1 ?_;refine de rfl (zq zb6 rfl fun b2=> ?_)
 refine gz3 ?_;refine dq (uCl zzb rfl (zmg (n:=n) (d:=100) hn uO)) ?_;refine de0 (uY 0 ?_)
 refine gz2 ?_;exact ⟨_,_,zA 2 rfl,[_],_,⟨⟨_,_,_,_,_,rfl,zb6,.inr ⟨rfl,rfl,rfl⟩⟩,trivial⟩,Weak.refl _,rfl,rfl⟩
theorem zpk [Tracks] {b:Nat} {l:List Int} {a:Nat} (ha:a<=700000):Con prog 96 [pAt b] [St b l a] (fun x M'=> ∃(u:Value) (k:List SlotS) (a':Nat),x= .raw u/\GoodS4s k/\0<k.length/\a'<=a+25/\M'=[.arr u 2 (k.map za4),St b l a']):=by
 refine uOb func96 ntmps96 ?_;refine gz6 ?_;refine zf (zG 2) ?_;refine gz2 ?_;refine dq (zb (hs:=[_,_,_,_]) zH ty9 rfl rfl (by decide) (by decide) rfl) ?_;refine gz1 ?_;refine de rfl (za (i:=1) zgh rfl (WeakL.refl _) rfl (zY uS uS uS uS) ?_)
 rintro _ _ ⟨y8,rfl,hy8,rfl⟩;refine dq (zbq (es:=sl4) (f:=HVal.str) (h:=y8.toNat) zH ty9 rfl rfl ⟨_,_,rfl,by omega⟩ uO (by simp [sl4];omega)) ?_;refine dq (zaq (f:=HVal.str) (l:=(sl4.take y8.toNat)) zH rfl) ?_;refine gz2 ?_;have hlen:(sl4.take y8.toNat).length=y8.toNat:=by simp [sl4];omega
 refine gz1 ?_;refine uV2 [3,1,5,1,11,12] (fun (k:Nat) (q:GL SlotS)=>[(11,.int .i64 k),(3,.raw q.u)]) (fun (k:Nat) (q:GL SlotS)=>[St b l q.a,.arr q.u 2 (q.out.map za4)]) (fun (k:Nat) (q:GL SlotS)=>k<=(sl4.take y8.toNat).length/\(q.out.length=k/\GLok zkz k (a+1+5*k) q)) (fun (k:Nat) (q:GL SlotS)=>(sl4.take y8.toNat).length-k) (0) (⟨.slice none 0 0,[],a+1⟩) ?_ ?_ ?_ ?_
 ·exact ⟨Ad _,rfl,⟨by simp,by simp,uD⟩⟩
 ·exact ⟨rfl,rfl,trivial⟩
 ·exact uP
 ·intro k q hinv
  obtain ⟨hk,⟨hn,hq⟩⟩:=hinv;obtain ⟨u,out,a2⟩:=q;obtain ⟨g1,g2,g3⟩:=id hq;dsimp only at g1 g2 g3;dsimp only at hn;refine gz4 ?_;refine uCo (fun h1=> ?_) fun h2=> ?_
  ·obtain ⟨x,hx⟩: ∃x,(sl4.take y8.toNat)[k]? =some x:=⟨_,Aa (by simpa using h1)⟩
   have hdx:=zi hx;refine gz5 ?_;refine dq (zl (f:=HVal.str) (l:=(sl4.take y8.toNat)) (j:=k) (a:=x) zH ty9 rfl rfl rfl hx) ?_;refine gz7 ?_;refine de rfl (za (i:=0) zs3 rfl (WeakL.refl _) rfl (zdF uS) ?_)
   rintro _ _ ⟨t18,a18,rfl,ht18,ha18,rfl⟩;refine dq (zas (cs:=[_,_]) zbE ztv rfl) ?_;refine dq (zb (hs:=[_]) zcn zbE rfl rfl (by decide) (by decide) rfl) ?_;refine de rfl (zC (i:=1) zcn zbE rfl rfl rfl rfl rfl (by simp [zal,zd,zce,zbp]) (by simp;omega) fun v21=> ?_)
   refine gz8 ?_;exact ⟨k+1,⟨v21,out++[(⟨x,t18⟩:SlotS)],a18⟩,⟨by omega,by simp;omega,hq.add (x:=(⟨x,t18⟩:SlotS)) (by show t18.length<=4;omega) (by dsimp only at ha18;omega)⟩,uD,⟨rfl,rfl,trivial⟩,uK,zm (by dsimp only;first|rfl|(rw [Ap];rfl))⟩
  ·have hnk:(sl4.take y8.toNat).length<=k:=by simpa using h2
   obtain rfl:k=(sl4.take y8.toNat).length:=by omega
   refine gz2 ?_;refine zM ?_;refine gz7 ?_;exact zag (Ghost.perm (List.Perm.swap _ _ _)) rfl ⟨_,out,a2,rfl,⟨by omega,g2⟩,by omega,by omega,rfl⟩
theorem zbT [Tracks] {b:Nat} {l:List Int} {a:Nat} (ha:a<=700000):Con prog 95 [pAt b] [St b l a] (fun x M'=> ∃k a',x=zdk k/\GoodRus k/\a'<=a+40/\M'=[St b l a']):=by
 refine uOb func95 ntmps95 ?_;refine gz6 ?_;refine zf (zG 7) ?_;refine gz2 ?_;refine dq (zb (hs:=[_,_,_,_,_]) zH ty9 rfl rfl (by decide) (by decide) rfl) ?_;refine dq (zaq (f:=HVal.str) (l:=ru5) zH rfl) ?_;refine gz3 ?_;refine uV2 [3,1,5,2,9,37] (fun (k:Nat) (q:GL RuleS)=>[(9,.int .i64 k),(3,.raw q.u)]) (fun (k:Nat) (q:GL RuleS)=>[St b l q.a,.arr q.u 7 (q.out.map zfl)]) (fun (k:Nat) (q:GL RuleS)=>k<=ru5.length/\(GLok zuE k (a+8*k) q)) (fun (k:Nat) (q:GL RuleS)=>ru5.length-k) (0) (⟨.slice none 0 0,[],a⟩) ?_ ?_ ?_ ?_;exact ⟨Ad _,⟨by simp,by simp,uD⟩⟩;exact ⟨rfl,rfl,trivial⟩;exact uP
 intro k q hinv
 obtain ⟨hk,hq⟩:=hinv;have hlen:ru5.length=5:=rfl;obtain ⟨u,out,a2⟩:=q;obtain ⟨g1,g2,g3⟩:=id hq;dsimp only at g1 g2 g3;refine gz4 ?_;refine uCo (fun h1=> ?_) fun h2=> ?_
 obtain ⟨x,hx⟩: ∃x,ru5[k]? =some x:=⟨_,Aa h1⟩
 have hdx:=zi hx;refine gz5 ?_;refine dq (zl (f:=HVal.str) (l:=ru5) (j:=k) (a:=x) zH ty9 rfl rfl rfl hx) ?_;refine gz6 ?_;refine de rfl (za (i:=0) zdK rfl (WeakL.refl _) rfl (zK uS uS) ?_)
 rintro _ _ ⟨y14,rfl,rfl⟩;refine gz1 ?_;refine uCo (fun h3=> ?_) fun h4=> ?_
 refine gz8 ?_;exact ⟨k+1,⟨u,out,a2+1⟩,⟨by omega,hq.same uO⟩,uD,⟨rfl,rfl,trivial⟩,uK,uP⟩;refine gz5 ?_;refine dq (zb (hs:=[_,_,_,_]) zH ty9 rfl rfl (by decide) (by decide) rfl) ?_;refine de rfl (za (i:=0) zck rfl (WeakL.refl _) rfl (zt (L:=[_,_,_,_]) uS uS uS) ?_)
 rintro _ _ ⟨y18,rfl,hy18,rfl⟩;refine gz1 ?_;refine dq (zb (hs:=[_,_,_,_]) zH ty9 rfl rfl (by decide) (by decide) rfl) ?_;refine de rfl (za (i:=0) zck rfl (WeakL.refl _) rfl (zt (L:=[_,_,_,_]) uS uS uS) ?_)
 rintro _ _ ⟨y21,rfl,hy21,rfl⟩;refine gz1 ?_;refine de rfl (za (i:=0) zgh rfl (WeakL.refl _) rfl (zY uS uS uS uS) ?_)
 rintro _ _ ⟨y23,rfl,hy23,rfl⟩;refine gz1 ?_;refine dq (zb (hs:=[_,_,_,_,_,_]) zac ty3 rfl rfl (by decide) (by decide) rfl) ?_;refine de rfl (za (i:=0) za8 rfl (WeakL.refl _) rfl (zh (L:=[_,_,_,_,_,_]) uS uS uS) ?_)
 rintro _ _ ⟨y26,rfl,hy26,rfl⟩;refine dq (uCl zyF rfl (zjg (n:=y26) (by simp at hy26;omega))) ?_;refine dq (zas (cs:=[_,_,_,_,_,_,_]) zed zzC rfl) ?_;refine de rfl (zq zed rfl fun b6=> ?_)
 refine de0 (uY 0 ?_)
 refine gz1 ?_;have hb1:=zsn (n:=y26) (g:=zhk y26 100) (by simp at hy26;omega);have hb2:=zsn (n:=100) (g:=zhk y26 100) uO;refine uVj [29,12] (fun (q4:RuleS×Nat)=>[]) (fun (q4:RuleS×Nat)=>[St b l q4.2,.arr u 7 (out.map zfl),.cells b6 (zd (zfl q4.1))]) (fun (q4:RuleS×Nat)=>zuE q4.1/\q4.2<=a2+7) ?_ ?_
 skip
 refine gz2 ?_;refine de rfl (uZ 0 ?_)
 refine gz3 ?_;refine dgl rfl rfl (fun hc=>⟨_,OpenTo.upd (t:=33) rfl (hc) (OpenTo.refl _),zao (i:=0) ty3 rfl rfl (.inl ⟨rfl,rfl⟩) ⟨rfl,rfl⟩⟩) ?_;refine gz3 ?_;refine uCo (fun h5=> ?_) fun h6=> ?_
 refine gz2 ?_;refine dq (zb (hs:=[_,_,_,_,_]) zac ty3 rfl rfl (by decide) (by decide) rfl) ?_;refine de rfl (za (i:=1) za8 rfl (WeakL.refl _) rfl (zh (L:=[_,_,_,_,_]) uS uS uS) ?_)
 rintro _ _ ⟨y39,rfl,hy39,rfl⟩;refine gz1 ?_;refine de0 (uY 1 ?_)
 refine gz1 ?_;exact ⟨((⟨x,y18,y21,y23,y39,y26.tdiv (zhk y26 100),(100:Int).tdiv (zhk y26 100)⟩:RuleS),a2+6),⟨⟨hb1,hb2⟩,uD⟩,trivial,uK,uP⟩;refine gz1 ?_;exact ⟨((⟨x,y18,y21,y23,0,y26.tdiv (zhk y26 100),(100:Int).tdiv (zhk y26 100)⟩:RuleS),a2+5),⟨⟨hb1,hb2⟩,uD⟩,trivial,uK,uP⟩
 intro q4 hq4
 obtain ⟨x5,a5⟩:=q4;obtain ⟨hx5,ha5⟩:=hq4;dsimp only at hx5 ha5;refine zf (zca 6 (i:=2) rfl rfl) ?_;refine gz3 ?_;refine dq (zb (hs:=[_]) zfU zed rfl rfl (by decide) (by decide) rfl) ?_;refine de rfl (zC (i:=1) zfU zed rfl rfl rfl rfl rfl (by simp [zal,zd,zce,zbp]) (by simp;omega) fun v44=> ?_)
 refine gz8 ?_;exact ⟨k+1,⟨v44,out++[x5],a5⟩,⟨by omega,hq.add (x:=x5) hx5 uO⟩,uD,⟨rfl,rfl,trivial⟩,uK,uP⟩;have hnk:ru5.length<=k:=by omega
 obtain rfl:k=ru5.length:=by omega
 refine gz2 ?_;refine zM ?_;refine gz7 ?_;exact zag (zaP 2 (i:=1) rfl rfl) rfl ⟨out,a2,rfl,⟨by omega,g2⟩,by omega,rfl⟩
theorem zjb [Tracks] {b:Nat} {l:List Int} {a:Nat} (ha:a<=600000):Con prog 104 [pAt b] [St b l a] (fun x M'=> ∃k a',x=zgq k/\GoodSlos k/\a'<=a+40/\M'=[St b l a']):=by
 refine uOb func104 ntmps104 ?_;refine gz5 ?_;refine de rfl (za (i:=0) zpr rfl (WeakL.refl _) rfl (zpk uS) ?_)
 rintro _ _ ⟨u6,k6,a6,rfl,hk6,hn6,ha6,rfl⟩;refine gz2 ?_;have hl6:=hk6.len;have hg6:=hk6.all;refine zf (zP (M':=[.arr u6 2 (k6.map za4),St b l a6]) rfl) ?_;refine zf (Ghost.perm (List.Perm.swap _ _ _)) ?_;refine uVj [4,1,7,31] (fun (q:List SlotS×Nat)=>[]) (fun (q:List SlotS×Nat)=>[St b l q.2,.arr u6 2 (q.1.map za4)]) (fun (q:List SlotS×Nat)=>GoodSlos q.1/\q.2<=a6+5) ?_ ?_
 ·skip
  refine gz2 ?_;refine de rfl (za (i:=0) zdK rfl (WeakL.refl _) rfl (zK uS uS) ?_)
  rintro _ _ ⟨y8,rfl,rfl⟩;refine gz1 ?_;refine uCo (fun h1=> ?_) fun h2=> ?_
  ·refine zb1 (i:=1) rfl (fun h0 he=> ?_) (fun ob off cap hv hcap=> ?_)
   ·exfalso;have:=congrArg List.length he;simp at this;subst this;simp at hn6
   subst hv;refine gz4 ?_;refine de rfl (zaT (i:=1) (es:=k6) zcn rfl rfl ?_)
   refine de rfl (za (i:=0) zfF rfl (WeakL.refl _) rfl (zW uS uS) ?_)
   rintro _ _ ⟨y13,rfl,hy13,rfl⟩;refine dq (ze (j:=y13) zcn zbE rfl rfl rfl (by simp;omega)) ?_;refine gz2 ?_;obtain ⟨x,hx⟩: ∃x,k6[y13]? =some x:=⟨_,Aa uO⟩
   have hgx:=hg6 x (Ac hx);dsimp only [zkz] at hgx;refine zaC (fun M=> ∃i:Nat,M[i]? =some (.arr (.slice (some ⟨ob,off,none⟩) (k6.map za4).length cap) 2 (k6.map za4))) [6,12] mixed ?_;refine gz6 ?_;refine uM 6 rfl ⟨1,rfl⟩ (fun M hM=>by obtain ⟨i,hi⟩:=hM;exact zaJ (i:=i) (j:=y13) 0 ty9 rfl uO hi hx rfl rfl ⟨rfl,rfl⟩) ?_;refine uB 7 rfl (zb (hs:=[_,_,_]) zH ty9 rfl rfl (by decide) (by decide) rfl) ?_;refine uA 9 ?_;refine gz2 ?_;refine uM 12 rfl ⟨1,rfl⟩ (fun M hM=>by obtain ⟨i,hi⟩:=hM;exact zaJ (i:=i) (j:=y13) 1 zH rfl uO hi hx rfl rfl ⟨rfl,rfl⟩) ?_;refine uA 14 ?_;refine uB 15 rfl (zb (hs:=[_,_,_]) zH ty9 rfl rfl (by decide) (by decide) rfl) ?_;refine uF 8 ?_;refine zy rfl (za (i:=0) zck rfl (WeakL.refl _) rfl (zt (L:=[_,_,_]) uS uS uS) ?_)
   rintro _ _ ⟨y23,rfl,hy23,rfl⟩;refine ⟨uE,?_⟩
   refine uF 13 ?_;refine zy rfl (zaA zli rfl (WeakL.refl _) (zaG uO) fun v28=> ?_)
   refine ⟨uE,?_⟩
   refine uF 16 ?_;refine zy rfl (za (i:=1) zck rfl (WeakL.refl _) rfl (zt (L:=[_,_,_]) uS uS uS) ?_)
   rintro _ _ ⟨y31,rfl,hy31,rfl⟩;refine ⟨uE,?_⟩
   refine uB 17 rfl (zb (hs:=[_]) zH ty9 rfl rfl (by decide) (by decide) rfl) ?_;refine uF 18 ?_;refine zy rfl (zmU (N:=[St b l (a6+1+1+1+1),.arr (.slice (some ⟨ob,off,none⟩) (k6.map za4).length cap) 2 (k6.map za4)]) (sz:=1) (es:=(x.Positions++[y31]).map .str) 1 (zC (i:=1) zH ty9 rfl rfl rfl rfl rfl (by simp [zal,zd]) (by simp;omega) fun v=>⟨v,rfl,by simp,rfl⟩) ?_)
   refine ⟨fun _=> .inl ⟨1,rfl⟩,?_⟩
   refine gz2 ?_;refine uF 21 ?_;refine zF (z8 (i:=1) (j:=y13) (f:=0) (y:=za4 x) (y':=za4 ⟨y23,x.Positions⟩) ty9 rfl uO rfl rfl (za5 hx) rfl rfl (by simp [zd]) rfl ?_)
   refine ⟨fun _=> .inr (by simp [zS,Region.binds]),?_⟩
   refine gz2 ?_;refine uF 24 ?_;refine zF (z8 (i:=1) (j:=y13) (f:=1) (y:=za4 ⟨y23,x.Positions⟩) (y':=za4 ⟨y23,x.Positions++[y31]⟩) zH rfl uO rfl rfl (za7 (za5 hx)) rfl rfl (by simp [zd]) rfl ?_)
   refine ⟨fun _=> .inr (by simp [zS,Region.binds]),?_⟩
   refine gz1 ?_;exact ⟨(k6.set y13 ⟨y23,x.Positions++[y31]⟩,a6+4),⟨⟨by simp;omega,zes (P:=zmV) hk6.up.all (by dsimp only [zmV];simp;omega)⟩,uD⟩,trivial,uK,uP⟩
  ·refine gz1 ?_;exact ⟨(k6,a6+1),⟨hk6.up,uD⟩,trivial,uK,uP⟩
 ·intro q hq3
  obtain ⟨k1,a4⟩:=q;obtain ⟨q1,q3⟩:=hq3;dsimp only at q1 q3;refine gz3 ?_;refine de rfl (za (i:=0) zdK rfl (WeakL.refl _) rfl (zK uS uS) ?_)
  rintro _ _ ⟨y39,rfl,rfl⟩;refine gz1 ?_;refine uCo (fun h3=> ?_) fun h4=> ?_
  ·refine gz4 ?_;exact ⟨_,_,(zP (M':=[St b l (a4+1),.arr u6 2 (k1.map za4)]) rfl).trans ((Ghost.perm (List.Perm.swap _ _ _)).trans Ghost.drop),_,.slice 2 [],rfl,zbY 2,[],a4+1,rfl,⟨by simp,by simp⟩,by omega,rfl⟩
  ·refine gz7 ?_;exact zag (zaP 2 (i:=1) rfl rfl) rfl ⟨k1,a4+1,rfl,q1,by omega,rfl⟩
theorem za0 [Tracks] {b:Nat} {l:List Int} {a:Nat} (ha:a<=600000):Con prog 98 [pAt b] [St b l a] (fun x M'=> ∃k a',x=eIs k/\k.length<=6/\a'<=a+20/\M'=[St b l a']):=by
 refine uOb func98 ntmps98 ?_;refine gz6 ?_;refine zf (zG 1) ?_;refine gz3 ?_;refine de rfl (za (i:=1) zv7 rfl (WeakL.refl _) rfl (zfs (n:=5) uO uO uO) ?_)
 rintro _ _ ⟨L7,a7,rfl,hL7,ha7,rfl⟩;refine gz1 ?_;refine de rfl (za (i:=0) zgh rfl (WeakL.refl _) rfl (zY uS uS uS uS) ?_)
 rintro _ _ ⟨y9,rfl,hy9,rfl⟩;refine dq (zbq (es:=L7) (f:=HVal.int .i64) (h:=y9.toNat) zac ty3 rfl rfl ⟨_,_,rfl,by omega⟩ uO (by have:=hL7.1;omega)) ?_;refine dq (zaq (f:=HVal.int .i64) (l:=L7.take y9.toNat) zac rfl) ?_;refine gz2 ?_;obtain ⟨hLn,hLb⟩:=hL7;have hlen:(L7.take y9.toNat).length=y9.toNat:=by simp;omega
 refine gz1 ?_;refine uV2 [3,1,5,1,12,10] (fun (k:Nat) (q:GL Int)=>[(12,.int .i64 k),(3,.raw q.u)]) (fun (k:Nat) (q:GL Int)=>[St b l (a7+1),.arr q.u 1 (q.out.map (.int .i64))]) (fun (k:Nat) (q:GL Int)=>k<=(L7.take y9.toNat).length/\(q.out.length<=k)) (fun (k:Nat) (q:GL Int)=>(L7.take y9.toNat).length-k) (0) (⟨.slice none 0 0,[],a⟩) ?_ ?_ ?_ ?_;exact ⟨Ad _,by simp⟩;exact ⟨rfl,rfl,trivial⟩;exact uP
 intro k q hinv
 obtain ⟨hk,hq⟩:=hinv;obtain ⟨u,out,a2⟩:=q;dsimp only at hq;refine gz4 ?_;refine uCo (fun h1=> ?_) fun h2=> ?_
 obtain ⟨y,hy⟩: ∃y,(L7.take y9.toNat)[k]? =some y:=⟨_,Aa (by simpa using h1)⟩
 have hdy:=zi hy;refine gz5 ?_;refine dq (zl (f:=HVal.int .i64) (l:=L7.take y9.toNat) (j:=k) (a:=y) zac ty3 rfl rfl rfl hy) ?_;refine gz6 ?_;refine dq (zcI rfl rfl (by have:=hLb y (Bh (Ac hy));omega) (by have:=hLb y (Bh (Ac hy));omega)) ?_;refine dq (zb (hs:=[_]) zac ty3 rfl rfl (by decide) (by decide) rfl) ?_;refine de rfl (zC (i:=1) zac ty3 rfl rfl rfl rfl rfl (by simp [zal,zd,zce,zbp]) (by simp;omega) fun v20=> ?_)
 refine gz8 ?_;exact ⟨k+1,⟨v20,out++[y+1],a⟩,⟨by omega,by simp;omega⟩,uD,⟨rfl,rfl,trivial⟩,uK,uP⟩;have hnk:(L7.take y9.toNat).length<=k:=by simpa using h2
 obtain rfl:k=(L7.take y9.toNat).length:=by omega
 refine gz2 ?_;refine zM ?_;refine gz5 ?_;refine de rfl (za (i:=0) zdK rfl (WeakL.refl _) rfl (zK uS uS) ?_)
 rintro _ _ ⟨y23,rfl,rfl⟩;refine gz1 ?_;refine uCo (fun h3=> ?_) fun h4=> ?_
 refine gz3 ?_;refine de rfl (za (i:=0) zlg rfl (WeakL.refl _) rfl (zhE uS uS uS uS) ?_)
 rintro _ _ ⟨y26,rfl,hy26,rfl⟩;refine dq (zb (hs:=[_]) zac ty3 rfl rfl (by decide) (by decide) rfl) ?_;refine de rfl (zC (i:=1) zac ty3 rfl rfl rfl rfl rfl (by simp [zal,zd,zce,zbp]) (by simp;omega) fun v28=> ?_)
 refine gz8 ?_;exact zag (zaP 2 (i:=1) rfl rfl) rfl ⟨out++[y26],_,by simp,by simp;omega,by omega,rfl⟩;refine gz7 ?_;exact zag (zaP 2 (i:=1) rfl rfl) rfl ⟨out,_,rfl,by omega,by omega,rfl⟩
end
end Go.Proofs.YtbbpommdmnjfmaaGreatDoor
namespace Go.HL
section
open Op
def onI (W p n:Int):Int:=if 0<p then 1+((p-1-(W-1)).tmod (n-1)+(n-1)).tmod (n-1) else p
def onS (T:List Str) (W p n:Int):Str:=if T.length<=onI W p n then [] else T.getD (onI W p n).toNat []
theorem zzw {W p n:Int} (hp:0<=p/\p<=10) (hn:2<=n/\n<=10):(-10<=(p-1-(W-1)).tmod (n-1)/\(p-1-(W-1)).tmod (n-1)<=10)/\(0<=((p-1-(W-1)).tmod (n-1)+(n-1)).tmod (n-1)/\((p-1-(W-1)).tmod (n-1)+(n-1)).tmod (n-1)<=10)/\0<=onI W p n:=by
 obtain ⟨m1,m2,_⟩:=zrW (a:=p-1-(W-1)) (b:=n-1) (by omega);have h0:0<=(p-1-(W-1)).tmod (n-1)+(n-1):=by omega
 have h1:=Int.tmod_nonneg (n-1) h0;have h2:=BW ((p-1-(W-1)).tmod (n-1)+(n-1)) (show 0<n-1 by omega);refine ⟨⟨by omega,by omega⟩,⟨h1,by omega⟩,?_⟩
 unfold onI
 split<;>omega
def zgP:List Str->List Str->Int
 |[],[]=>0
 |[],_::_=> -1
 |_::_,[]=>1
 |a::l,b::m=>if zai a b≠0 then zai a b else zgP l m
theorem zuX {l m:List Str} (h:m.length<=0\/m=[]) (hl:l≠[]):zgP l m=1:=by
 have hm:m=[]:=by
  rcases h with h|h
  cases m with
  |nil=>rfl
  |cons _ _=>simp at h
  exact h
 subst hm
 cases l with
 |nil=>exact absurd rfl hl
 |cons _ _=>rfl
theorem ztW {a b:Str} {l m:List Str} (h:zai a b=0):zgP (a::l) (b::m)=zgP l m:=by rw [zgP,if_neg (by simp [h])]
theorem ztX {a b:Str} {l m:List Str} (h:zai a b≠0):zgP (a::l) (b::m)=zai a b:=by rw [zgP,if_pos h]
theorem zll {m:List Str} {k:Nat} (h:k<m.length):m.drop k=m.getD k []::m.drop (k+1):=by
 rw [List.drop_eq_getElem_cons h,Ai,Aa h];rfl
theorem zrn {m:List Str} (k:Nat):zgP [] (m.drop k)=if k<m.length then-1 else 0:=by
 split
 rename_i h;rw [zll h];rfl
 rename_i h;rw [Bs (by omega)];rfl
def znC (x y:FixS):Int:=if zfi [x.Week,x.At] [y.Week,y.At]≠0 then zfi [x.Week,x.At] [y.Week,y.At] else zgP [x.Home] [y.Home]
theorem zuK:Cmp znC fun _=>True:=by
 have h:=zcD (zdy FixS.Week) (zcD (zdy FixS.At) (ze9 FixS.Home));have e:znC=fun a b=>if zam a.Week b.Week≠0 then zam a.Week b.Week else if zam a.At b.At≠0 then zam a.At b.At else zai a.Home b.Home:=by
  funext a b
  unfold znC;have e1:zfi [a.Week,a.At] [b.Week,b.At]=if zam a.Week b.Week≠0 then zam a.Week b.Week else zam a.At b.At:=by
   rw [zfi,zfi,zfi]
   by_cases h2:zam a.At b.At≠0
   rw [if_pos h2];rw [if_neg h2];simp at h2;rw [h2]
  have e2:zgP [a.Home] [b.Home]=zai a.Home b.Home:=by
   rw [zgP,zgP]
   by_cases h2:zai a.Home b.Home≠0
   rw [if_pos h2];rw [if_neg h2];simp at h2;rw [h2]
  rw [e1,e2]
  by_cases h1:zam a.Week b.Week≠0
  rw [if_pos h1,if_pos h1,if_pos h1];rw [if_neg h1,if_neg h1]
 rw [e];exact h
def nOf (T:List Str):Int:=(T.length:Int)+(T.length:Int).tmod 2
def mOf (T:List Str):Int:=(nOf T).tdiv 2
theorem zxt {T:List Str} (h:2<=T.length/\T.length<=4):(0<=(T.length:Int).tmod 2/\(T.length:Int).tmod 2<=1)/\(2<=nOf T/\nOf T<=4)/\(1<=mOf T/\mOf T<=2)/\2*mOf T=nOf T:=by
 have h3:T.length=2\/T.length=3\/T.length=4:=by omega
 unfold mOf nOf
 rcases h3 with e|e|e<;>(rw [e];decide)
theorem zsq {w:Nat} {x y:Str} (h:w<=10):GamB ⟨(w:Int)+1,x,y,false,0,0,0,0⟩:=⟨by dsimp only;omega,by dsimp only;omega,by dsimp only;omega⟩
structure GoodGas (l:List GameS):Prop where
 len:l.length<=6
 all: ∀x∈l,GamB x
def tm4:List Str:=[[116,97],[116,98],[116,99],[116,100]]
structure LeaC (g:LeagueS):Prop where
 lea:LeaB g
 gw: ∀x∈g.Games,GamB x
 tr: ∀s∈g.Trust,Sh s
 sl:g.Slots.length<=4
 tm:g.Teams.length<=5
 pl:g.Players.length<=5
theorem zi0 {g:LeagueS} (h1:GoodPys g.Players) (h2:g.Stints.length<=10) (h3:g.Fixtures.length<=12) (h4:GoodRus g.Rules) (h5:GoodSlos g.Slots) (h6:g.Teams.length<=5) (h7:g.Games.length<=6/\∀x∈g.Games,GamB x)
 (h8:g.Breaks.length<=6) (h9:g.Trust.length<=100/\∀s∈g.Trust,Sh s) (h10: -1<=g.Start/\g.Start<=1000000000000):LeaC g:=by
 have l1:=h1.len;have l4:=h4.len;have l5:=h5.len;refine ⟨⟨by omega,fun p hp=>(h1.all p hp).name,fun p hp=>by have:=(h1.all p hp).pos;omega,by omega,by omega,by omega,fun x hx=>h4.all x hx,by omega,fun x hx=>by have:=h5.all x hx;dsimp only [zmV] at this;omega,by omega,by omega,
  fun x hx=>⟨(h7.2 x hx).fr,(h7.2 x hx).ot⟩,by omega,by omega,by omega⟩,h7.2,h9.2,l5,h6,l1⟩
structure LeaD (g:LeagueS):Prop where
 pl:GoodPys g.Players
 fx:g.Fixtures.length<=12
 ru:GoodRus g.Rules
 sl:GoodS4s g.Slots
 tm:2<=g.Teams.length/\g.Teams.length<=4
 br:g.Breaks.length<=6
 tr:GoodTr g.Trust
 sta: -1<=g.Start/\g.Start<=1000000000000
end
end Go.HL
namespace Go.Proofs.YtbbpommdmnjfmaaGreatDoor
set_option maxRecDepth 100000
set_option linter.unusedVariables false
set_option linter.unusedSimpArgs false
section
open Go.Proofs.Tryz
open Go.HL
theorem zmn [Tracks] {l:List GameS} (hb: ∀x∈l,GamB x) (hl:l.length<=1000000) {v:Value}:
 Con prog 102 [.raw v,.fn (.func 103) [] []] [.arr v 8 (l.map zaO)] fun x M'=> ∃l':List GameS,x= .tup []/\l'.Perm l/\l'.Pairwise (fun a b=> ¬zfY b a<0)/\M'=[.arr v 8 (l'.map zaO)]:=by
 have h:=zfH (e:=fun x:{m:GameS//GamB m}=>zaO x.1) ztI (Tryz.isAgg92) (Tryz.sizeOf92) (fun _=>rfl) (fun _=>rfl) (fun _=>rfl) (c:=fun x y=>zfY x.1 y.1) (zhT zsR) zvH (fun x y=> @zg0 zda x.1 y.1 x.2.week y.2.week) (l:=l.attachWith _ hb) (by simpa using hl) (v:=v);rw [zk0 hb zaO] at h;refine h.mono fun x M' ⟨l',e1,hp,hw,e2⟩=>⟨l'.map Subtype.val,e1,?_,?_,?_⟩
 have h9:=hp.map Subtype.val;rw [ziC hb] at h9;exact h9;exact List.pairwise_map.2 hw;rw [e2,Bg];rfl
theorem zfv [Tracks] {T:List Str} {W p n:Int} (hT:T.length<=1000000) (hW:1<=W/\W<=10) (hp:0<=p/\p<=10) (hn:2<=n/\n<=10):ConP prog 212 [.int .i64 W,.int .i64 p,.vptr [.int .i64 n] 0,.vptr [eSs T] 0] (.str (onS T W p n)):=by
 obtain ⟨o1,o2,o3⟩:=zzw (W:=W) hp hn;refine uOb func212 ntmps212 ?_;refine gz7 ?_;refine uVj [7,1,9,17] (fun (i1:Int)=>[(7,.int .i64 i1)]) (fun (i1:Int)=>[]) (fun (i1:Int)=>i1=onI W p n) ?_ ?_
 skip
 refine gz4 ?_;refine uCo (fun h1=> ?_) fun h2=> ?_
 refine zaC (fun _=>True) [] mixed ?_;refine gz7 ?_;refine uB 7 rfl (zeB (n:=n-1) rfl rfl uO) ?_;refine gz5 ?_;refine uB 13 rfl (zeB (n:=n-1) rfl rfl uO) ?_;refine gz3 ?_;exact ⟨1+((p-1-(W-1)).tmod (n-1)+(n-1)).tmod (n-1),by rw [onI,if_pos h1],⟨rfl,trivial⟩,uK,Ab _⟩;refine gz1 ?_;exact ⟨p,by rw [onI,if_neg uO],⟨rfl,trivial⟩,uK,Ab _⟩
 intro i1 hi1
 have hi0:0<=i1:=by rw [hi1];exact o3
 refine gz7 ?_;refine uCo (fun h3=> ?_) fun h4=> ?_
 refine gz4 ?_;refine zx rfl ?_
 show HVal.str _=_
 (rw [onS,if_pos uO])
 refine gz5 ?_;refine dq (zl (f:=HVal.str) (l:=T) (j:=i1.toNat) (a:=T.getD i1.toNat []) zH ty9 rfl rfl uO (getD_some uO)) ?_;refine gz4 ?_;refine zx rfl ?_
 show HVal.str _=_
 (rw [onS,if_neg uO,<-hi1])
theorem zkf [Tracks] {T:List Str} (hT:2<=T.length/\T.length<=4):Con prog 101 [eSs T,.int .i64 3] [] (fun x M'=> ∃k,x=zdN k/\GoodGas k/\M'=[]):=by
 obtain ⟨n1,n2,n3,n4⟩:=zxt hT;refine uOb func101 ntmps101 ?_;refine gz9 ?_;refine dq (zeB rfl rfl uO) ?_;refine dq (zae (h':= .int .i64 (nOf T)) (zcI rfl rfl uO uO) rfl) ?_;refine de rfl (zq ty3 rfl fun b5=> ?_)
 refine de0 (uY 0 ?_)
 refine gz1 ?_;refine zf (zca 5 (i:=0) rfl rfl) ?_;refine gz7 ?_;refine zf (zG 8) ?_;refine gz5 ?_;refine uV2 [7,5,19,56] (fun (w:Nat) (q:GL GameS)=>[(8,.int .i64 ((w:Int)+1)),(7,.raw q.u)]) (fun (w:Nat) (q:GL GameS)=>[.arr q.u 8 (q.out.map zaO)]) (fun (w:Nat) (q:GL GameS)=>w<=3/\GLok GamB (2*w) 0 q) (fun (w:Nat) (q:GL GameS)=>3-w) (0) (⟨.slice none 0 0,[],0⟩) ?_ ?_ ?_ ?_;exact ⟨by omega,⟨by simp,by simp,by simp⟩⟩;exact ⟨zg uO,rfl,trivial⟩;exact Ab _
 intro w q hinv
 obtain ⟨hw,hq⟩:=hinv;obtain ⟨u,out,a2⟩:=q;obtain ⟨g1,g2,g3⟩:=id hq;dsimp only at g1 g2 g3;refine gz6 ?_;refine uCo (fun h1=> ?_) fun h2=> ?_
 refine gz6 ?_;refine dq (zae (h':= .int .i64 (mOf T)) (zij rfl rfl uO uO uO) rfl) ?_;refine gz3 ?_;refine uV2 [7,1,9,3,26,49] (fun (j:Nat) (q2:GL GameS)=>[(26,.int .i64 (j:Int)),(7,.raw q2.u)]) (fun (j:Nat) (q2:GL GameS)=>[.arr q2.u 8 (q2.out.map zaO)]) (fun (j:Nat) (q2:GL GameS)=>(j:Int)<=mOf T/\GLok GamB (2*w+j) 0 q2) (fun (j:Nat) (q2:GL GameS)=>(mOf T).toNat-j) (0) (⟨u,out,0⟩) ?_ ?_ ?_ ?_;exact ⟨by omega,⟨uD,g2,by simp⟩⟩;exact ⟨rfl,rfl,trivial⟩;exact Ab _
 intro j q2 hinv
 obtain ⟨hj,hq2⟩:=hinv;obtain ⟨u,out,a2⟩:=q2;obtain ⟨g1,g2,g3⟩:=id hq2;dsimp only at g1 g2 g3;refine gz4 ?_;refine uCo (fun h3=> ?_) fun h4=> ?_
 refine gz8 ?_;refine zw (fun _=>True) [] mixed ?_;refine gz4 ?_;refine uB 4 rfl (z7 zv9 rfl rfl (WeakL.refl _) (zfv (T:=T) (W:=((w:Int)+1)) (p:=(j:Int)) (n:=nOf T) uO uO uO uO)) ?_;refine gz3 ?_;refine uB 8 rfl (zdv (m:=nOf T) rfl rfl uO uO) ?_;refine gz1 ?_;refine uB 10 rfl (zdv (m:=nOf T-1) rfl rfl uO uO) ?_;refine uB 11 rfl (z7 zv9 rfl rfl (WeakL.refl _) (zfv (T:=T) (W:=((w:Int)+1)) (p:=(nOf T-1-j)) (n:=nOf T) uO uO uO uO)) ?_;refine uB 12 rfl (zas (cs:=[_,_,_,_,_,_,_,_]) zb7 pl92 rfl) ?_;refine uF 13 ?_;refine zy rfl (zq zb7 rfl fun b10=> ?_)
 refine ⟨fun _=> .inl trivial,?_⟩
 refine uF 14 ?_;refine zF (uY 0 ?_)
 refine ⟨fun _=> .inl trivial,?_⟩
 refine gz3 ?_;refine dq (zeB rfl rfl uO) ?_;refine gz3 ?_;refine uVj [11,1,45,10] (fun (tn:Bool)=>[(11,.bool tn)]) (fun (tn:Bool)=>[.cells b10 (zd (zaO (⟨(w:Int)+1,onS T ((w:Int)+1) j (nOf T),onS T ((w:Int)+1) (nOf T-1-j) (nOf T),false,0,0,0,0⟩:GameS))),.arr u 8 (out.map zaO)]) (fun (tn:Bool)=>True) ?_ ?_
 skip
 refine gz4 ?_;refine uCo (fun h5=> ?_) fun h6=> ?_
 refine gz4 ?_;refine dq (zdv (m:=nOf T) rfl rfl uO uO) ?_;refine dq (zij (n:=nOf T-1) rfl rfl uO uO uO) ?_;refine dq (zeB rfl rfl uO) ?_;refine gz1 ?_;refine dq (zrO ty4 rfl rfl) ?_;refine gz2 ?_;exact ⟨_,trivial,⟨rfl,trivial⟩,uK,zm rfl⟩;refine gz1 ?_;exact ⟨_,trivial,⟨rfl,trivial⟩,uK,zm rfl⟩
 intro tn _
 refine uVj [55,7] (fun (g5:GameS)=>[]) (fun (g5:GameS)=>[.cells b10 (zd (zaO g5)),.arr u 8 (out.map zaO)]) (fun (g5:GameS)=>GamB g5) ?_ ?_
 skip
 refine gz3 ?_;refine uCo (fun h7=> ?_) fun h8=> ?_
 refine gz2 ?_;refine de rfl (uZ 0 ?_)
 refine gz1 ?_;refine de rfl (uZ 0 ?_)
 refine gz1 ?_;refine de0 (uY 0 ?_)
 refine gz1 ?_;refine de0 (uY 0 ?_)
 refine gz1 ?_;exact ⟨(⟨(w:Int)+1,onS T ((w:Int)+1) (nOf T-1-j) (nOf T),onS T ((w:Int)+1) j (nOf T),false,0,0,0,0⟩:GameS),zsq uO,trivial,uK,zm rfl⟩;refine gz1 ?_;exact ⟨(⟨(w:Int)+1,onS T ((w:Int)+1) j (nOf T),onS T ((w:Int)+1) (nOf T-1-j) (nOf T),false,0,0,0,0⟩:GameS),zsq uO,trivial,uK,zm rfl⟩
 intro g5 hg5
 refine gz2 ?_;refine de rfl (uZ 0 ?_)
 refine gz3 ?_;refine dgl rfl rfl (fun hc=>⟨_,OpenTo.upd (t:=66) rfl (hc) (OpenTo.refl _),zao (i:=0) ty9 rfl rfl (.inl ⟨rfl,rfl⟩) ⟨rfl,rfl⟩⟩) ?_;refine gz3 ?_;refine uCo (fun h9=> ?_) fun h10=> ?_
 refine gz2 ?_;refine de rfl (zbO (i:=0) (h:=zaO g5) zb7 rfl rfl rfl rfl rfl ?_)
 refine dq (zb (hs:=[_]) zco zb7 rfl rfl (by decide) (by decide) rfl) ?_;refine de rfl (zC (i:=1) zco zb7 rfl rfl rfl rfl rfl (by simp [zal,zd,zce,zbp]) (by simp;omega) fun v73=> ?_)
 refine gz4 ?_;refine zf Ghost.drop ?_;refine gz4 ?_;exact ⟨j+1,⟨v73,out++[g5],0⟩,⟨by omega,hq2.add (x:=g5) hg5 uO⟩,uD,⟨rfl,rfl,trivial⟩,uK,zm (by dsimp only;rw [Ap];rfl)⟩;refine gz3 ?_;refine zf Ghost.drop ?_;refine gz4 ?_;exact ⟨j+1,⟨u,out,0⟩,⟨by omega,hq2.same uO⟩,uD,⟨rfl,rfl,trivial⟩,uK,zm rfl⟩;refine gz2 ?_;refine zM ?_;refine gz8 ?_;exact ⟨w+1,⟨u,out,0⟩,⟨by omega,⟨uD,g2,by simp⟩⟩,uD,⟨zg uO,rfl,trivial⟩,uK,zm rfl⟩;refine gz2 ?_;refine zM ?_;refine gz4 ?_;refine de rfl (za (i:=0) zvG rfl (WeakL.refl _) rfl (zmn (l:=out) g2 uO) ?_)
 rintro _ _ ⟨Z,rfl,hz1,hz2,rfl⟩;have hzl:=hz1.length_eq;refine gz6 ?_;exact zag (zaP 4 (i:=0) rfl rfl) rfl ⟨Z,rfl,⟨by omega,fun x hx=>g2 x (hz1.mem_iff.1 hx)⟩,rfl⟩
end
section
open Go.Proofs.Tryz
open Go.HL
theorem zk5 [Tracks] {a b:Str}:ConP prog 263 [.str a,.str b] (.int .i64 (zai a b)):=by
 refine uOb func263 ntmps263 ?_;refine gz5 ?_;refine dq (uCl zwm rfl zic) ?_;refine gz4 ?_;refine dq (uCl zwm rfl zic) ?_;refine gz6 ?_;refine zjV rfl ?_;refine gz6 ?_;refine zjV rfl ?_;refine gz8 ?_;refine uCo (fun h1=> ?_) fun h2=> ?_
 refine gz4 ?_;refine uRp ?_;rw [zg3]
 (rw [if_pos (by assumption)])
 refine gz8 ?_;refine uCo (fun h3=> ?_) fun h4=> ?_
 refine gz4 ?_;refine uRp ?_;rw [zg3]
 (rw [if_neg (by simp_all),if_neg (by simp_all)])
 refine gz6 ?_;refine uRp ?_;rw [zg3]
 (rw [if_neg (by simp_all)];simp_all)
theorem zhc [Tracks] {l m:List Str} (hl:l.length<=1000000) (hm:m.length<=1000000):ConP prog 204 [eSs l,eSs m] (.int .i64 (zgP l m)):=by
 refine uOb func204 ntmps204 ?_;refine zaD ?_;refine uV1 [4,5,11,20] (fun (k:Nat)=>[(11,.int .i64 k)]) (fun (k:Nat)=>[]) (fun (k:Nat)=>k<=l.length/\(k<=m.length/\zgP l m=zgP (l.drop k) (m.drop k))) (fun (k:Nat)=>l.length-k) (0) ?_ ?_ ?_ ?_;exact ⟨Ad _,Ad _,rfl⟩;exact ⟨rfl,trivial⟩;exact Ab _
 intro k hinv
 obtain ⟨hk,⟨hkm,hg⟩⟩:=hinv;refine gz4 ?_;refine uCo (fun h1=> ?_) fun h2=> ?_
 obtain ⟨x,hx⟩: ∃x,l[k]? =some x:=⟨_,Aa h1⟩
 have hdx:=zi hx;rw [hdx] at hg;refine gz6 ?_;refine dq (zl zH ty9 rfl rfl rfl (by assumption)) ?_;refine zbo ?_;refine uCo (fun h3=> ?_) fun h4=> ?_
 refine gz4 ?_;refine uRp ?_
 (rw [hg,zuX (.inr (Bs uO)) (by simp)])
 refine gz5 ?_;refine dq (zl (j:=k) (a:=m.getD k []) zH ty9 rfl rfl rfl (getD_some uO)) ?_;refine gz6 ?_;refine dq (uCl zza rfl zk5) ?_;refine gz6 ?_;refine uCo (fun h5=> ?_) fun h6=> ?_
 refine gz5 ?_;refine uRp ?_
 (rw [hg,zll (m:=m) (k:=k) h4,ztX (by rw [Ai];exact h5)])
 refine gz7 ?_;refine ⟨k+1,?_,?_,⟨rfl,trivial⟩,uK,Ab _⟩
 refine ⟨by omega,by omega,?_⟩
 rw [hg,zll (m:=m) (k:=k) h4];exact ztW (by rw [Ai];exact h6)
 dsimp only;omega
 have hnk:l.length<=k:=by omega
 obtain rfl:k=l.length:=by omega
 rw [zz (Ae _)] at hg;refine gz2 ?_;refine zp ?_;refine zaD ?_;refine uCo (fun h7=> ?_) fun h8=> ?_
 refine gz4 ?_;refine uRp ?_
 (rw [hg,zrn,if_pos uO])
 refine gz6 ?_;refine uRp ?_
 (rw [hg,zrn,if_neg uO])
theorem zk4 [Tracks] {l:List FixS} {v:Value} {fid:FuncId} {caps:List HVal} {p:FixS->FixS->Bool} (hca:Callable prog fid) (hp: ∀x y,ConP prog fid ([zaV x,zaV y]++caps) (.bool (p x y))) (hl:l.length<=1000000):Con prog 205 [.raw v,.fn (.func fid) [] caps] [.arr v 4 (l.map zaV)] (fun x M'=> ∃(u:Value) (D:List FixS),x= .raw u/\(D.length<=l.length/\∀x∈D,x∈l)/\M'=[.arr u 4 (D.map zaV)]):=by
 refine uOb func205 ntmps205 ?_;refine gz6 ?_;refine de rfl (zaT (i:=0) zbG rfl rfl ?_)
 refine gz2 ?_;refine uCo (fun h1=> ?_) fun h2=> ?_
 refine gz5 ?_;exact zT rfl ⟨_,l,rfl,⟨Ae _,fun _ q=>q⟩,rfl⟩;refine gz3 ?_;refine zb1 (i:=0) rfl (fun h0 he=> ?_) (fun b off cap hv hcap=> ?_)
 exfalso;have:=congrArg List.length he;simp at this;subst this;simp at h2
 rw [Aj] at hv hcap;subst hv;refine gz4 ?_;refine uV1 [4,4,12,53] (fun (k:Nat)=>[(5,.int .i64 (k:Int))]) (fun (k:Nat)=>[.arr (.slice (some ⟨b,off,none⟩) l.length cap) 4 (l.map zaV)]) (fun (k:Nat)=>1<=k/\k<=l.length) (fun (k:Nat)=>l.length-k) (1) ?_ ?_ ?_ ?_;exact ⟨by omega,by omega⟩;exact ⟨rfl,trivial⟩;exact Ab _
 intro k hinv
 obtain ⟨hk1,hk⟩:=hinv;refine gz4 ?_;refine de rfl (zaT (i:=0) zbG rfl rfl ?_)
 refine gz2 ?_;refine uCo (fun h3=> ?_) fun h4=> ?_
 obtain ⟨x,hx⟩: ∃x,l[k]? =some x:=⟨_,Aa uO⟩
 obtain ⟨y,hy⟩: ∃y,l[k-1]? =some y:=⟨_,Aa uO⟩
 refine gz4 ?_;refine zw (fun M=>M=[.arr (.slice (some ⟨b,off,none⟩) l.length cap) 4 (l.map zaV)]) [4,9] mixed ?_;refine gz3 ?_;refine uB 3 rfl (ze (j:=k) zbG zaM rfl rfl rfl uO) ?_;refine uM 4 rfl rfl (uW (zj (i:=0) (j:=k) zaM rfl uO rfl hx rfl rfl rfl ⟨rfl,rfl⟩)) ?_;refine gz3 ?_;refine uB 8 rfl (ze (j:=k-1) zbG zaM rfl rfl uO uO) ?_;refine uM 9 rfl rfl (uW (zj (i:=0) (j:=k-1) zaM rfl uO rfl hy rfl rfl rfl ⟨rfl,rfl⟩)) ?_;refine uB 10 rfl (z7 hca rfl rfl (WeakL.refl _) (hp x y)) ?_;refine gz1 ?_;refine uCo (fun h5=> ?_) fun h6=> ?_
 refine gz3 ?_;refine dq (zcf (l:=k) (h:=l.length) zbG zaM rfl ⟨_,_,rfl,rfl⟩ rfl uO uO hcap) ?_;refine gz2 ?_;rw [zg6 uO];refine gz5 ?_;refine uV3 [5,1,7,1,32,27] (fun (k2:Nat) (kk:Nat) (D:List FixS)=>[(7,.int .i64 (k2:Int)),(5,.int .i64 (kk:Int))]) (fun (k2:Nat) (kk:Nat) (D:List FixS)=>[.arr (.slice (some ⟨b,off,none⟩) l.length cap) 4 (D.map zaV)]) (fun (k2:Nat) (kk:Nat) (D:List FixS)=>(1<=k2/\k+k2<=l.length)/\(k<=kk/\kk+1<=k+k2)/\D.length=l.length/\∀x∈D,x∈l) (fun (k2:Nat) (kk:Nat) (D:List FixS)=>l.length-k2) (1) (k) (l) ?_ ?_ ?_ ?_;exact ⟨⟨by omega,by have:=zo hx;omega⟩,⟨by omega,by omega⟩,rfl,fun _ q=>q⟩;exact ⟨rfl,rfl,trivial⟩;exact Ab _
 intro k2 kk D hinv
 obtain ⟨⟨hk2,hkk⟩,⟨hc1,hc2⟩,hDl,hDm⟩:=hinv;refine gz4 ?_;refine dq (zar zbG rfl) ?_;refine gz2 ?_;refine uCo (fun h7=> ?_) fun h8=> ?_
 obtain ⟨x2,hDx⟩: ∃x,D[k+k2]? =some x:=⟨_,Aa uO⟩
 obtain ⟨y2,hDy⟩: ∃y,D[k+k2-1]? =some y:=⟨_,Aa uO⟩
 refine gz4 ?_;refine zw (fun M=>M=[.arr (.slice (some ⟨b,off,none⟩) l.length cap) 4 (D.map zaV)]) [4,9] mixed ?_;refine gz3 ?_;refine uB 3 rfl (ze (j:=k2) zbG zaM rfl rfl rfl uO) ?_;refine uM 4 rfl rfl (uW (zj (i:=0) (j:=(k+k2)) zaM rfl uO rfl hDx rfl rfl rfl ⟨rfl,rfl⟩)) ?_;refine gz3 ?_;refine uB 8 rfl (ze (j:=k2-1) zbG zaM rfl rfl uO uO) ?_;refine uM 9 rfl rfl (uW (zj (i:=0) (j:=(k+k2-1)) zaM rfl uO rfl hDy rfl rfl rfl ⟨rfl,rfl⟩)) ?_;refine uB 10 rfl (z7 hca rfl rfl (WeakL.refl _) (hp x2 y2)) ?_;refine gz2 ?_;refine uCo (fun h9=> ?_) fun h10=> ?_
 refine gz5 ?_;refine dq (ze (j:=k2) zbG zaM rfl rfl rfl uO) ?_;refine de rfl (zj (i:=0) (j:=(k+k2)) zaM rfl uO rfl hDx rfl rfl rfl ?_)
 refine dq (ze (j:=kk) zbG zaM rfl rfl rfl uO) ?_;refine de0 (zO (i:=0) (j:=kk) (y:=D[kk]'uO) (y':=x2) zaM rfl rfl rfl rfl (Aa _) rfl rfl rfl ?_)
 refine zfL ?_;exact ⟨k2+1,kk+1,D.set kk x2,⟨⟨by omega,by omega⟩,⟨by omega,by omega⟩,by simp;omega,fun z hz=>(BT hz).elim (hDm z) (fun q=>by rw [q];exact hDm x2 (Ac hDx))⟩,uD,⟨rfl,zg uO,trivial⟩,uK,Ab _⟩;refine gz8 ?_;exact ⟨k2+1,kk,D,⟨⟨by omega,by omega⟩,⟨by omega,by omega⟩,hDl,hDm⟩,uD,⟨rfl,rfl,trivial⟩,uK,Ab _⟩;refine gz2 ?_;refine zbX ?_;refine gz5 ?_;refine dq (zcf (l:=kk) (h:=l.length) zbG zaM rfl ⟨_,_,rfl,rfl⟩ rfl uO uO hcap) ?_;refine de0 (zc3 (i:=0) (m:=kk) (kk) zbG zaM rfl rfl rfl (zfS uO hcap) rfl uO (Ae _) (by rw [Aj,hDl];omega) ?_)
 refine gz4 ?_;refine dq (zb5 (h:=kk) zbG zaM rfl ⟨_,_,rfl,rfl⟩ uO) ?_;refine gz3 ?_;exact zT rfl ⟨_,D.take kk,rfl,⟨by simp;omega,fun z hz=>hDm z (Bh hz)⟩,by rw [Bq];rfl⟩;refine gz8 ?_;exact ⟨k+1,⟨by omega,by omega⟩,uD,⟨rfl,trivial⟩,uK,Ab _⟩;refine gz2 ?_;refine zp ?_;refine gz7 ?_;exact zT rfl ⟨_,l,rfl,⟨Ae _,fun _ q=>q⟩,rfl⟩
theorem zid [Tracks] {A X C:List FixS} {ia ib:Int} {n b off cap:Nat} {fid:FuncId} {caps:List HVal} {c:FixS->FixS->Int} (hca:Callable prog fid) (hp: ∀x y,ConP prog fid ([zaV x,zaV y]++caps) (.int .i64 (c x y))) (hn:A.length+X.length+C.length=n) (hia:ia=(A.length:Int)) (hib:ib=(A.length:Int)+X.length) (hl:n<=1000000):Con prog 336 [.raw (.slice (some ⟨b,off,none⟩) n cap),.int .i64 ia,.int .i64 ib,.fn (.func fid) [] caps] [.arr (.slice (some ⟨b,off,none⟩) n cap) 4 ((A++X++C).map zaV)] (fun x M'=>x= .tup []/\M'=[.arr (.slice (some ⟨b,off,none⟩) n cap) 4 ((A++zX c X++C).map zaV)]):=by
 refine uOb func336 ntmps336 ?_;refine gz6 ?_;refine uV1 [8,2,12,41] (fun (k:Nat)=>[(8,.int .i64 ((A.length+k:Nat):Int))]) (fun (k:Nat)=>[.arr (.slice (some ⟨b,off,none⟩) n cap) 4 ((A++(zX c (X.take k)++X.drop k)++C).map zaV)]) (fun (k:Nat)=>1<=k) (fun (k:Nat)=>X.length-k) (1) ?_ ?_ ?_ ?_;exact Ae _;exact ⟨zg uO,trivial⟩;exact zm (by rw [zfb])
 intro k hk
 refine gz6 ?_;refine uCo (fun h1=> ?_) fun h2=> ?_
 obtain ⟨x,hx⟩: ∃x,X[k]? =some x:=⟨_,Aa uO⟩
 refine gz9 ?_;refine uV2 [9,1,18,35] (fun (D:List FixS) (B:List FixS)=>[(9,.int .i64 ((A.length+D.length:Nat):Int))]) (fun (D:List FixS) (B:List FixS)=>[.arr (.slice (some ⟨b,off,none⟩) n cap) 4 (((A++D)++x::(B++X.drop (k+1)++C)).map zaV)]) (fun (D:List FixS) (B:List FixS)=>D.length+B.length=k/\zct c x (zX c (X.take k))=zct c x D++B) (fun (D:List FixS) (B:List FixS)=>D.length) (zX c (X.take k)) ([]) ?_ ?_ ?_ ?_;exact ⟨by simp [zay];omega,by simp⟩;exact ⟨zg (by simp [zay];omega),trivial⟩;exact zm (by rw [zi hx];simp)
 intro D B hinv
 obtain ⟨hA,hB⟩:=hinv;have hlA:D.length<X.length:=by omega
 refine gz1 ?_;refine zw (fun M=>M=[.arr (.slice (some ⟨b,off,none⟩) n cap) 4 (((A++D)++x::(B++X.drop (k+1)++C)).map zaV)]) [8,13] mixed ?_;refine gz7 ?_;refine ahg 7 rfl rfl (by kernel_rfl) (by kernel_rfl) rfl (fun hc=>by
  have hq:0<D.length:=by simp at hc;omega
  exact ⟨_,OpenTo.upd (t:=24) rfl (hc) (OpenTo.upd (t:=23) rfl (hc) (OpenTo.refl _)),ze (j:=(A++D).length) zbG zaM rfl rfl (by simp) (by simp;omega)⟩) ?_
 refine zin 8 rfl rfl (by kernel_rfl) (by kernel_rfl) (by simp) rfl rfl (fun hc=>⟨_,OpenTo.upd (t:=25) rfl (hc) (OpenTo.refl _),fun M hM=>by
  subst hM;exact zj (i:=0) (j:=(A++D).length) zaM rfl rfl rfl zci rfl rfl rfl ⟨rfl,rfl⟩
  ⟩) ?_
 refine gz2 ?_;refine ahg 11 rfl rfl (by kernel_rfl) (by kernel_rfl) rfl (fun hc=>by
  have hq:0<D.length:=by simp at hc;omega
  exact ⟨_,OpenTo.upd (t:=28) rfl (hc) (OpenTo.refl _),zdv rfl rfl uO uO⟩) ?_
 refine ahg 12 rfl rfl (by kernel_rfl) (by kernel_rfl) rfl (fun hc=>by
  have hq:0<D.length:=by simp at hc;omega
  exact ⟨_,OpenTo.upd (t:=29) rfl (hc) (OpenTo.upd (t:=27) rfl (hc) (OpenTo.refl _)),ze (j:=(A++D).length-1) zbG zaM rfl rfl (by simp;omega) (by simp;omega)⟩) ?_
 refine zin 13 rfl rfl (by kernel_rfl) (by kernel_rfl) (by simp) rfl rfl (fun hc=>⟨_,OpenTo.upd (t:=30) rfl (hc) (OpenTo.refl _),fun M hM=>by
  have hq:0<D.length:=by simp at hc;omega
  subst hM;exact zj (i:=0) (j:=(A++D).length-1) zaM rfl rfl rfl (zf3 (by simp;omega)) rfl rfl rfl ⟨rfl,rfl⟩
  ⟩) ?_
 refine ahg 14 rfl rfl (by kernel_rfl) (by kernel_rfl) rfl (fun hc=>⟨_,OpenTo.upd (t:=31) rfl (hc) (OpenTo.upd (t:=26) rfl (hc) (OpenTo.upd (t:=22) rfl (hc) (OpenTo.refl _))),z7 hca rfl rfl (WeakL.refl _) (hp _ _)⟩) ?_;refine gz3 ?_;refine uCo (fun h3=> ?_) fun h4=> ?_
 obtain ⟨hA0,hcx⟩:=h3;obtain ⟨D1,y,rfl⟩:=zhQ (A:=D) uO;rw [zhM] at hcx;have hD1:(D1++[y]).length=D1.length+1:=by simp
 refine gz4 ?_;refine zaC (fun M=>M=[.arr (.slice (some ⟨b,off,none⟩) n cap) 4 (((A++(D1++[y]))++x::(B++X.drop (k+1)++C)).map zaV)]) [9,13] mixed ?_;refine gz8 ?_;refine uB 8 rfl (ze (j:=(A++(D1++[y])).length-1) zbG zaM rfl rfl (by simp;omega) (by simp;omega)) ?_;refine uM 9 rfl rfl (uW (zj (i:=0) (j:=(A++(D1++[y])).length-1) zaM rfl rfl rfl (zde) rfl rfl rfl ⟨rfl,rfl⟩)) ?_;refine gz2 ?_;refine uB 12 rfl (ze (j:=(A++(D1++[y])).length) zbG zaM rfl rfl (by simp) (by simp;omega)) ?_;refine uM 13 rfl rfl (uW (zj (i:=0) (j:=(A++(D1++[y])).length) zaM rfl rfl rfl zci rfl rfl rfl ⟨rfl,rfl⟩)) ?_;refine uB 14 rfl (ze (j:=(A++(D1++[y])).length) zbG zaM rfl rfl (by simp) (by simp;omega)) ?_;refine uF 15 ?_;refine zF (zO (i:=0) (j:=(A++(D1++[y])).length) (y:=x) (y':=y) zaM rfl rfl rfl rfl zci rfl rfl rfl ?_)
 refine ⟨fun _=> .inr (by simp [zS,Region.binds]),?_⟩
 refine uB 16 rfl (ze (j:=(A++(D1++[y])).length-1) zbG zaM rfl rfl (by simp;omega) (by simp;omega)) ?_;refine uF 17 ?_;refine zF (zO (i:=0) (j:=(A++(D1++[y])).length-1) (y:=y) (y':=x) zaM rfl rfl rfl rfl (by rw [AP (by simp)];exact zde) rfl rfl rfl ?_)
 refine ⟨fun _=> .inr (by simp [zS,Region.binds]),?_⟩
 refine gz8 ?_;exact ⟨D1,y::B,⟨by simp at hA⊢;omega,zhL hB hcx⟩,uD,⟨zg uO,trivial⟩,uK,zm (by rw [<-An,zhS];simp)⟩;have hins:=zhK (l:=X) (k:=k) hx hB (by intro h0;have h9:=h4 uO;rw [zfO h0] at h9;omega);refine gz2 ?_;refine zM ?_;refine gz8 ?_;exact ⟨k+1,by omega,uD,⟨zg uO,trivial⟩,uK,zm (by rw [ziY hins])⟩;have hend:zX c (X.take k)++X.drop k=zX c X:=by rw [AF uO,zz uO];simp
 refine gz2 ?_;refine zp ?_;refine gz1 ?_;exact zT rfl ⟨rfl,by rw [hend]⟩
theorem zlf [Tracks] {l:List FixS} {n0:Int} {n b off cap:Nat} {fid:FuncId} {caps:List HVal} {c:FixS->FixS->Int} (hca:Callable prog fid) (hp: ∀x y,ConP prog fid ([zaV x,zaV y]++caps) (.int .i64 (c x y))) (hc:Cmp c fun _=>True) (hn:l.length=n) (hn0:n0=(n:Int)) (hl:n<=20):Con prog 262 [.raw (.slice (some ⟨b,off,none⟩) n cap),.int .i64 n0,.fn (.func fid) [] caps] [.arr (.slice (some ⟨b,off,none⟩) n cap) 4 ((l).map zaV)] (fun x M'=> ∃Z:List FixS,x= .tup []/\(Z.Perm l/\Srt c Z)/\M'=[.arr (.slice (some ⟨b,off,none⟩) n cap) 4 ((Z).map zaV)]):=by
 refine uOb func262 ntmps262 ?_;refine zaD ?_;refine uV3 [7,2,11,12] (fun (a0:Nat) (k:Nat) (Z:List FixS)=>[(7,.int .i64 (a0:Int)),(8,.int .i64 ((a0+20:Nat):Int))]) (fun (a0:Nat) (k:Nat) (Z:List FixS)=>[.arr (.slice (some ⟨b,off,none⟩) n cap) 4 ((Z++l.drop a0).map zaV)]) (fun (a0:Nat) (k:Nat) (Z:List FixS)=>a0=20*k/\a0<=n/\Blk c 20 Z/\Z.length=a0/\Z.Perm (l.take a0)) (fun (a0:Nat) (k:Nat) (Z:List FixS)=>n-a0) (0) (0) ([]) ?_ ?_ ?_ ?_
 ·exact ⟨rfl,Ad _,Blk.nil,rfl,by simp⟩
 ·exact ⟨rfl,rfl,trivial⟩
 ·exact zm (by simp)
 ·intro a0 k Z hinv
  obtain ⟨ha0,ha1,hZ,hZl,hZp⟩:=hinv;refine gz6 ?_;refine uCo (fun h1=> ?_) fun h2=> ?_
  ·refine gz3 ?_;refine zf (zP (M':=[.arr (.slice (some ⟨b,off,none⟩) n cap) 4 ((Z++(l.drop a0).take 20++l.drop (a0+20)).map zaV)]) (by rw [An Z,<-win])) ?_;refine gz5 ?_;refine de rfl (za (i:=0) zs9 rfl (WeakL.refl _) rfl (zid (A:=Z) (X:=((l.drop a0).take 20)) (C:=(l.drop (a0+20))) (n:=n) hca hp (by first|omega|(simp;omega)) uO (by first|omega|(simp;omega)) uO) ?_)
   rintro _ _ ⟨rfl,rfl⟩;refine zcc ?_;exact ⟨a0+20,k+1,Z++zX c ((l.drop a0).take 20),⟨by omega,by omega,hZ.add (k:=k) uO (zbW hc _) (by rw [zay,Ag];omega),by rw [Af,zay,Ag,Au];omega,by rw [zcJ];exact hZp.append (zaU c _)⟩,uD,⟨zg uO,zg uO,trivial⟩,uK,Ab _⟩
  ·refine gz2 ?_;refine zbX ?_;refine gz2 ?_;refine zf (zP (M':=[.arr (.slice (some ⟨b,off,none⟩) n cap) 4 ((Z++l.drop a0++[]).map zaV)]) (by simp)) ?_;refine gz5 ?_;refine de rfl (za (i:=0) zs9 rfl (WeakL.refl _) rfl (zid (A:=Z) (X:=(l.drop a0)) (C:=[]) (n:=n) hca hp (by first|omega|(simp;omega)) uO (by first|omega|(simp;omega)) uO) ?_)
   rintro _ _ ⟨rfl,rfl⟩;refine gz2 ?_;refine uV2 [6,4,28,35] (fun (bs:Nat) (D:List FixS)=>[(6,.int .i64 (bs:Int))]) (fun (bs:Nat) (D:List FixS)=>[.arr (.slice (some ⟨b,off,none⟩) n cap) 4 ((D).map zaV)]) (fun (bs:Nat) (D:List FixS)=>20<=bs/\bs<=2*n+20/\Blk c bs D/\D.Perm l) (fun (bs:Nat) (D:List FixS)=>n-bs) (20) (Z++zX c (l.drop a0)) ?_ ?_ ?_ ?_
   ·refine ⟨Ae _,by omega,hZ.add (k:=k) uO (zbW hc _) (by rw [zay,Au];omega),?_⟩
    have:=hZp.append (zaU c (l.drop a0))
    rwa [Am] at this
   ·exact ⟨rfl,trivial⟩
   ·exact zm (by simp)
   ·intro bs D hinv
    obtain ⟨hb1,hb2,hD,hDp⟩:=hinv;have hDl:D.length=n:=by rw [hDp.length_eq];exact hn
    refine gz6 ?_;refine zaf rfl (fun h3=> ?_) (fun h3=> ?_)
    ·exfalso
     try simp at h3
     all_goals omega
    ·try simp at h3
     refine gz2 ?_;refine zM ?_;refine gz1 ?_;have hDs:=hD.all uO;exact zT rfl ⟨D,rfl,⟨hDp,hDs⟩,rfl⟩
theorem zmh [Tracks] {v:Value} {fid:FuncId} {caps:List HVal}:Con prog 336 [.raw v,.int .i64 0,.int .i64 0,.fn (.func fid) [] caps] [.arr v 4 []] (fun x M'=>x= .tup []/\M'=[.arr v 4 []]):=by
 refine uOb func336 ntmps336 ?_;refine gz6 ?_;refine uV1 [8,2,12,41] (fun (u:Unit)=>[(8,.int .i64 1)]) (fun (u:Unit)=>[.arr v 4 []]) (fun (u:Unit)=>True) (fun (u:Unit)=>0) (()) ?_ ?_ ?_ ?_
 ·trivial
 ·exact ⟨rfl,trivial⟩
 ·exact Ab _
 ·intro u hu
  refine gz6 ?_;refine zaf rfl (fun h1=> ?_) (fun h1=> ?_)
  ·exfalso
   try simp at h1
   all_goals omega
  ·try simp at h1
   refine gz2 ?_;refine zp ?_;refine gz1 ?_;exact zT rfl ⟨rfl,rfl⟩
theorem zkM [Tracks] {v:Value} {fid:FuncId} {caps:List HVal}:Con prog 262 [.raw v,.int .i64 0,.fn (.func fid) [] caps] [.arr v 4 []] (fun x M'=>x= .tup []/\M'=[.arr v 4 []]):=by
 refine uOb func262 ntmps262 ?_;refine zaD ?_;refine uV1 [7,2,11,12] (fun (u:Unit)=>[(7,.int .i64 0),(8,.int .i64 20)]) (fun (u:Unit)=>[.arr v 4 []]) (fun (u:Unit)=>True) (fun (u:Unit)=>0) (()) ?_ ?_ ?_ ?_
 ·trivial
 ·exact ⟨rfl,rfl,trivial⟩
 ·exact Ab _
 ·intro u hu
  refine gz6 ?_;refine zaf rfl (fun h1=> ?_) (fun h1=> ?_)
  ·exfalso
   try simp at h1
   all_goals omega
  ·try simp at h1
   refine gz2 ?_;refine zp ?_;refine gz7 ?_;refine de rfl (za (i:=0) zs9 rfl (WeakL.refl _) rfl zmh ?_)
   rintro _ _ ⟨rfl,rfl⟩;refine gz2 ?_;refine uV1 [6,4,28,35] (fun (u:Unit)=>[(6,.int .i64 20)]) (fun (u:Unit)=>[.arr v 4 []]) (fun (u:Unit)=>True) (fun (u:Unit)=>0) (()) ?_ ?_ ?_ ?_
   ·trivial
   ·exact ⟨rfl,trivial⟩
   ·exact Ab _
   ·intro u hu
    refine gz6 ?_;refine zaf rfl (fun h2=> ?_) (fun h2=> ?_)
    ·exfalso
     try simp at h2
     all_goals omega
    ·try simp at h2
     refine gz2 ?_;refine zp ?_;refine gz1 ?_;exact zT rfl ⟨rfl,rfl⟩
theorem zkn [Tracks] {fid:FuncId} {caps:List HVal}:Con prog 202 [.raw (.slice none 0 0),.fn (.func fid) [] caps] [.arr (.slice none 0 0) 4 []] (fun x M'=>x= .tup []/\M'=[.arr (.slice none 0 0) 4 []]):=by
 refine uOb func202 ntmps202 ?_;refine gz3 ?_;refine dq (zar zbG rfl) ?_;refine gz1 ?_;refine de rfl (za (i:=0) zwl rfl (WeakL.refl _) rfl zkM ?_)
 rintro _ _ ⟨rfl,rfl⟩;refine gz1 ?_;exact zT rfl ⟨rfl,rfl⟩
theorem zko [Tracks] {l:List FixS} {n b off cap:Nat} {fid:FuncId} {caps:List HVal} {c:FixS->FixS->Int} (hca:Callable prog fid) (hp: ∀x y,ConP prog fid ([zaV x,zaV y]++caps) (.int .i64 (c x y))) (hc:Cmp c fun _=>True) (hn:l.length=n) (hl:n<=20):Con prog 202 [.raw (.slice (some ⟨b,off,none⟩) n cap),.fn (.func fid) [] caps] [.arr (.slice (some ⟨b,off,none⟩) n cap) 4 ((l).map zaV)] (fun x M'=> ∃Z:List FixS,x= .tup []/\(Z.Perm l/\Srt c Z)/\M'=[.arr (.slice (some ⟨b,off,none⟩) n cap) 4 ((Z).map zaV)]):=by
 refine uOb func202 ntmps202 ?_;refine gz3 ?_;refine dq (zar zbG rfl) ?_;refine gz1 ?_;refine de rfl (za (i:=0) zwl rfl (WeakL.refl _) rfl (zlf hca hp hc hn rfl hl) ?_)
 rintro _ _ ⟨Z,rfl,hz,rfl⟩;refine gz1 ?_;exact zT rfl ⟨Z,rfl,hz,rfl⟩
theorem zkL [Tracks] {l:List FixS} {v:Value} {fid:FuncId} {caps:List HVal} {c:FixS->FixS->Int} (hca:Callable prog fid) (hp: ∀x y,ConP prog fid ([zaV x,zaV y]++caps) (.int .i64 (c x y))) (hc:Cmp c fun _=>True) (hl:l.length<=20):Con prog 202 [.raw v,.fn (.func fid) [] caps] [.arr v 4 (l.map zaV)] fun x M'=> ∃Z:List FixS,x= .tup []/\(Z.Perm l/\Srt c Z)/\M'=[.arr v 4 (Z.map zaV)]:=
 zhH (fun h1 h2=>by
  have h3:l=[]:=by first|exact List.map_eq_nil_iff.1 h2|simpa using h2
  subst h1 h3;exact zkn.mono fun x M' ⟨e1,e2⟩=>⟨[],e1,⟨Ab _,Srt.nil⟩,e2⟩)
  fun b off cap h1=>by
   rw [Aj] at h1;subst h1;exact zko hca hp hc rfl hl
theorem zhu [Tracks] {x y:FixS}:ConP prog 203 [zaV x,zaV y] (.int .i64 (znC x y)):=by
 refine uOb func203 ntmps203 ?_;refine zbo ?_;refine dq (zb (hs:=[_,_]) zac ty3 rfl rfl (by decide) (by decide) rfl) ?_;refine gz4 ?_;refine dq (zb (hs:=[_,_]) zac ty3 rfl rfl (by decide) (by decide) rfl) ?_;refine dq (uCl zvM rfl (zfy (a:=[x.Week,x.At]) (b:=[y.Week,y.At]) (by simp) (by simp))) ?_;refine gz6 ?_;refine uCo (fun h1=> ?_) fun h2=> ?_
 refine gz5 ?_;refine uRp ?_
 (rw [znC,if_pos (by assumption)])
 refine gz5 ?_;refine dq (zb (hs:=[_]) zH ty9 rfl rfl (by decide) (by decide) rfl) ?_;refine gz2 ?_;refine dq (zb (hs:=[_]) zH ty9 rfl rfl (by decide) (by decide) rfl) ?_;refine dq (uCl zyC rfl (zhc (l:=[x.Home]) (m:=[y.Home]) (by simp) (by simp))) ?_;refine gz3 ?_;refine uRp ?_
 (rw [znC,if_neg uO])
theorem zhv [Tracks] {x y:FixS}:ConP prog 206 [zaV x,zaV y] (.bool (bif (bif x.Week==y.Week then x.At==y.At else false) then x.Home==y.Home else false)):=by
 refine uOb func206 ntmps206 ?_;refine gz28 ?_;refine zx rfl ?_
 rfl
theorem zc0 [Tracks] {b:Nat} {l:List Int} {a:Nat} (ha:a<=700000):Con prog 94 [pAt b] [St b l a] (fun x M'=> ∃k a',x=zeo k/\k.length<=12/\a'<=a+150/\M'=[St b l a']):=by
 refine uOb func94 ntmps94 ?_;refine gz6 ?_;refine zf (zG 4) ?_;refine gz5 ?_;refine uV2 [3,58] (fun (w:Nat) (q:GL FixS)=>[(4,.int .i64 ((w:Int)+1)),(3,.raw q.u)]) (fun (w:Nat) (q:GL FixS)=>[St b l q.a,.arr q.u 4 (q.out.map zaV)]) (fun (w:Nat) (q:GL FixS)=>w<=4/\GLok (fun _=>True) (3*w) (a+32*w) q) (fun (w:Nat) (q:GL FixS)=>4-w) (0) (⟨.slice none 0 0,[],a⟩) ?_ ?_ ?_ ?_;exact ⟨by omega,⟨by simp,by simp,uD⟩⟩;exact ⟨zg uO,rfl,trivial⟩;exact uP
 intro w q hinv
 obtain ⟨hw,hq⟩:=hinv;obtain ⟨u,out,a2⟩:=q;obtain ⟨g1,g2,g3⟩:=id hq;dsimp only at g1 g2 g3;refine gz5 ?_;refine uCo (fun h1=> ?_) fun h2=> ?_
 refine gz6 ?_;refine dq (zbP rfl rfl uO uO) ?_;refine gz4 ?_;refine de rfl (za (i:=0) zgh rfl (WeakL.refl _) rfl (zY uS uS uS uS) ?_)
 rintro _ _ ⟨y14,rfl,hy14,rfl⟩;refine gz3 ?_;refine uV3 [3,1,5,2,15,46] (fun (n:Nat) (at1:Int) (q2:GL FixS)=>[(15,.int .i64 (n:Int)),(5,.int .i64 at1),(3,.raw q2.u)]) (fun (n:Nat) (at1:Int) (q2:GL FixS)=>[St b l q2.a,.arr q2.u 4 (q2.out.map zaV)]) (fun (n:Nat) (at1:Int) (q2:GL FixS)=>(n:Int)<=y14/\(0<=at1/\at1<=1000+20*n)/\GLok (fun _=>True) (3*w+n) (a+32*w+1+10*n) q2) (fun (n:Nat) (at1:Int) (q2:GL FixS)=>y14.toNat-n) (0) (100*((w:Int)+1)) (⟨u,out,a2+1⟩) ?_ ?_ ?_ ?_;exact ⟨by omega,by omega,⟨uD,g2,uD⟩⟩;exact ⟨rfl,rfl,rfl,trivial⟩;exact uP
 intro n at1 q2 hinv
 obtain ⟨hn,hat,hq2⟩:=hinv;obtain ⟨u,out,a2⟩:=q2;obtain ⟨g1,g2,g3⟩:=id hq2;dsimp only at g1 g2 g3;refine gz4 ?_;refine uCo (fun h3=> ?_) fun h4=> ?_
 refine gz7 ?_;refine dq (zb (hs:=[_,_,_]) zac ty3 rfl rfl (by decide) (by decide) rfl) ?_;refine de rfl (za (i:=0) za8 rfl (WeakL.refl _) rfl (zh (L:=[_,_,_]) uS uS uS) ?_)
 rintro _ _ ⟨y20,rfl,hy20,rfl⟩;refine dq (zcI rfl rfl (by simp at hy20;omega) (by simp at hy20;omega)) ?_;refine gz6 ?_;refine dq (zb (hs:=[_,_,_]) zH ty9 rfl rfl (by decide) (by decide) rfl) ?_;refine de rfl (za (i:=0) zck rfl (WeakL.refl _) rfl (zt (L:=[_,_,_]) uS uS uS) ?_)
 rintro _ _ ⟨y26,rfl,hy26,rfl⟩;refine gz1 ?_;refine dq (zb (hs:=[_,_,_]) zH ty9 rfl rfl (by decide) (by decide) rfl) ?_;refine de rfl (za (i:=0) zck rfl (WeakL.refl _) rfl (zt (L:=[_,_,_]) uS uS uS) ?_)
 rintro _ _ ⟨y29,rfl,hy29,rfl⟩;refine dq (zas (cs:=[_,_,_,_]) zaM zzB rfl) ?_;refine de rfl (zq zaM rfl fun b6=> ?_)
 refine de0 (uY 0 ?_)
 refine gz1 ?_;refine uVj [31,11] (fun (q3:FixS×Nat)=>[]) (fun (q3:FixS×Nat)=>[St b l q3.2,.arr u 4 (out.map zaV),.cells b6 (zd (zaV q3.1))]) (fun (q3:FixS×Nat)=>q3.2<=a2+4) ?_ ?_
 skip
 refine zf (Ghost.perm (M':=[St b l (a2+3),.cells b6 (zd (zaV (⟨(w:Int)+1,at1+y20,y26,y29⟩:FixS))),.arr u 4 (out.map zaV)]) uP) ?_;refine gz2 ?_;refine de rfl (uZ 1 ?_)
 refine gz1 ?_;refine de rfl (uZ 1 ?_)
 refine gz3 ?_;refine dgx (fun xq M'=> ∃(y:Bool) (a4:Nat),xq= .bool y/\a4<=a2+4/\M'=[St b l a4,.cells b6 (zd (zaV (⟨(w:Int)+1,at1+y20,y26,y29⟩:FixS))),.arr u 4 (out.map zaV)]) rfl rfl (fun hc=>⟨_,false,a2+3,rfl,by omega,rfl⟩) (fun hc=>⟨_,OpenTo.upd (t:=37) rfl (hc) (OpenTo.refl _),za (i:=0) zdK rfl (WeakL.refl _) rfl (zK (a:=a2+3) uO uO) (fun h M' hh=>by
  obtain ⟨y,h1,h2⟩:=hh;exact ⟨y,a2+4,h1,by omega,by rw [h2];rfl⟩)⟩) ?_
 rintro _ _ ⟨y38,a4,rfl,ha4,rfl⟩;refine gz3 ?_;refine uCo (fun h5=> ?_) fun h6=> ?_
 refine gz2 ?_;refine de0 (uY 1 ?_)
 refine gz1 ?_;exact ⟨((⟨(w:Int)+1,at1+y20,y26,[112,105,110,107]⟩:FixS),a4),ha4,trivial,uK,uP⟩;refine gz1 ?_;exact ⟨((⟨(w:Int)+1,at1+y20,y26,y29⟩:FixS),a4),ha4,trivial,uK,uP⟩
 intro q3 ha4
 obtain ⟨x4,a4⟩:=q3;dsimp only at ha4;refine uVj [42,14] (fun (q4:FixS×Nat)=>[]) (fun (q4:FixS×Nat)=>[St b l q4.2,.arr u 4 (out.map zaV),.cells b6 (zd (zaV q4.1))]) (fun (q4:FixS×Nat)=>q4.2<=a2+10) ?_ ?_
 skip
 refine gz2 ?_;refine de rfl (za (i:=0) zdK rfl (WeakL.refl _) rfl (zK uS uS) ?_)
 rintro _ _ ⟨y43,rfl,rfl⟩;refine gz1 ?_;refine uCo (fun h7=> ?_) fun h8=> ?_
 refine zaC (fun M=> ∃i:Nat,M[i]? =some (.cells b6 (zd (zaV x4)))) [6] mixed ?_;refine gz1 ?_;refine gx2 [2,4] ?_;refine gz1 ?_;refine uM 6 rfl (⟨2,rfl⟩) (fun M hM=>by obtain ⟨i,hi⟩:=hM;exact zao (i:=i) ty9 rfl hi (.inl ⟨rfl,rfl⟩) ⟨rfl,rfl⟩) ?_;refine uB 7 rfl (zb (hs:=[_,_]) zH ty9 rfl rfl (by decide) (by decide) rfl) ?_;refine uF 1 ?_;refine zy rfl (za (i:=0) zlg rfl (WeakL.refl _) rfl (zhE uS uS uS uS) ?_)
 rintro _ _ ⟨y45,rfl,hy45,rfl⟩;refine ⟨uE,?_⟩
 refine uA 9 ?_;refine uF 3 ?_;refine zy rfl (za (i:=0) zlg rfl (WeakL.refl _) rfl (zhE uS uS uS uS) ?_)
 rintro _ _ ⟨y47,rfl,hy47,rfl⟩;refine ⟨uE,?_⟩
 refine uF 8 ?_;refine zy rfl (za (i:=0) zck rfl (WeakL.refl _) rfl (zt (L:=[_,_]) uS uS uS) ?_)
 rintro _ _ ⟨y52,rfl,hy52,rfl⟩;refine ⟨uE,?_⟩
 refine uF 10 ?_;refine zF (uY 2 ?_)
 refine ⟨uE,?_⟩
 refine gz1 ?_;refine uF 12 ?_;refine zF (uY 2 ?_)
 refine ⟨uE,?_⟩
 refine gz1 ?_;refine uF 14 ?_;refine zF (uY 2 ?_)
 refine ⟨uE,?_⟩
 refine gz1 ?_;exact ⟨((⟨y45,y47,y52,x4.Away⟩:FixS),a4+6),uD,trivial,uK,uP⟩;refine gz1 ?_;exact ⟨(x4,a4+1),uD,trivial,uK,uP⟩
 intro q4 ha5
 obtain ⟨x5,a5⟩:=q4;dsimp only at ha5;refine zf (zca 6 (i:=2) rfl rfl) ?_;refine gz3 ?_;refine dq (zb (hs:=[_]) zbG zaM rfl rfl (by decide) (by decide) rfl) ?_;refine de rfl (zC (i:=1) zbG zaM rfl rfl rfl rfl rfl (by simp [zal,zd,zce,zbp]) (by simp;omega) fun v59=> ?_)
 refine gz8 ?_;exact ⟨n+1,at1+y20,⟨v59,out++[x5],a5⟩,⟨by omega,by simp at hy20;omega,hq2.add (x:=x5) trivial uO⟩,uD,⟨rfl,rfl,rfl,trivial⟩,uK,uP⟩;refine gz2 ?_;refine zbX ?_;refine gz8 ?_;exact ⟨w+1,⟨u,out,a2⟩,⟨by omega,hq2.mono uO uO⟩,uD,⟨zg uO,rfl,trivial⟩,uK,uP⟩;refine gz2 ?_;refine zM ?_;refine gz4 ?_;refine de rfl (za (i:=1) zyA rfl (WeakL.refl _) rfl (zkL (l:=out) (c:=znC) zyB (fun _ _=>zhu) zuK uO) ?_)
 rintro _ _ ⟨Z,rfl,⟨hz1,hz2⟩,rfl⟩;have hzl:=hz1.length_eq;refine gz3 ?_;refine de rfl (za (i:=0) zyD rfl (WeakL.refl _) rfl (zk4 (l:=Z) zyE (fun _ _=>zhv) uO) ?_)
 rintro _ _ ⟨u64,D64,rfl,⟨hD1,hD2⟩,rfl⟩;refine gz3 ?_;exact zag (zaP 2 (i:=0) rfl rfl) rfl ⟨D64,a2,rfl,by omega,by omega,rfl⟩
end
end Go.Proofs.YtbbpommdmnjfmaaGreatDoor
namespace Go.HL
section
open Go
theorem zbD {e:Env} {places:List (Nat×Nat)} {cs cs' out:List HVal} {i off sz:Nat} {x:Operand} {h:HVal} {r:List (Nat×Operand)} (h1:places[i]? =some (off,sz)) (h2:zn e x=some h) (h3:zeb sz h=true)
 (h4:Nat.ble (off+sz) cs.length=true) (h5:zaW cs off (zd h)=cs') (k:zf2 e places cs' r=some out):zf2 e places cs ((i,x)::r)=some out:=by
 rw [zf2,h1,h2];simp only [h3,h4];rw [h5];exact k
theorem zln {e:Env} {places:List (Nat×Nat)} {cs:List HVal}:zf2 e places cs []=some cs:=rfl
theorem zlA [Tracks] {P:Program} {e:Env} {dst:Option Tmp} {ty:TypeId} {pos:String} {af:Array Edge} {g:Option (Nat×Bool)} {t:TypeId} {fs:List (Nat×Nat)} {size bytes:Nat} {zs:Array Value} {parts:Array (Nat×Operand)} {ps:List (Nat×Operand)} {places:List (Nat×Nat)} {cs zc:List HVal}
 (hf:Fits P t (.struct fs) size bytes (.agg zs)) (hp:Places P fs places) (hz:zs.toList.map zbp=zc) (hps:parts.toList=ps)
 (hr:zf2 e places zc ps=some cs):POp P e ⟨dst,.build t parts,ty,pos,af,g⟩ (.agg cs):=
 zas hf hp (by rw [hz,hps];exact hr)
theorem zhZ [Tracks] {P:Program} {e:Env} {dst:Option Tmp} {ty:TypeId} {pos:String} {af:Array Edge} {g:Option (Nat×Bool)} {t:TypeId} {fs:List (Nat×Nat)} {size bytes:Nat} {zs:Array Value} {parts:Array (Nat×Operand)} {ps:List (Nat×Operand)} {places:List (Nat×Nat)} {cs zc:List HVal}
 (hf:Fits P t (.struct fs) size bytes (.agg zs)) (hp:Places P fs places) (hz:zs.toList.map zbp=zc:=by exact (show _=[_,_,_,_,_,_,_,_,_,_,_,_,_,_] from rfl)) (hps:parts.toList=ps:=by exact (show _=[_,_,_,_,_,_,_,_,_] from rfl))
 (hr:zf2 e places zc ps=some cs:=by exact zbD (cs':=[_,_,_,_,_,_,_,_,_,_,_,_,_,_]) rfl rfl rfl rfl rfl (zbD (cs':=[_,_,_,_,_,_,_,_,_,_,_,_,_,_]) rfl rfl rfl rfl rfl (zbD (cs':=[_,_,_,_,_,_,_,_,_,_,_,_,_,_]) rfl rfl rfl rfl rfl (zbD (cs':=[_,_,_,_,_,_,_,_,_,_,_,_,_,_]) rfl rfl rfl rfl rfl (zbD (cs':=[_,_,_,_,_,_,_,_,_,_,_,_,_,_]) rfl rfl rfl rfl rfl (zbD (cs':=[_,_,_,_,_,_,_,_,_,_,_,_,_,_]) rfl rfl rfl rfl rfl (zbD (cs':=[_,_,_,_,_,_,_,_,_,_,_,_,_,_]) rfl rfl rfl rfl rfl (zbD (cs':=[_,_,_,_,_,_,_,_,_,_,_,_,_,_]) rfl rfl rfl rfl rfl (zbD (cs':=[_,_,_,_,_,_,_,_,_,_,_,_,_,_]) rfl rfl rfl rfl rfl (zln)))))))))):POp P e ⟨dst,.build t parts,ty,pos,af,g⟩ (.agg cs):=zlA hf hp hz hps hr
theorem zzI [Tracks] {P:Program} {e:Env} {dst:Option Tmp} {ty:TypeId} {pos:String} {af:Array Edge} {g:Option (Nat×Bool)} {t:TypeId} {fs:List (Nat×Nat)} {size bytes:Nat} {zs:Array Value} {parts:Array (Nat×Operand)} {ps:List (Nat×Operand)} {places:List (Nat×Nat)} {cs zc:List HVal}
 (hf:Fits P t (.struct fs) size bytes (.agg zs)) (hp:Places P fs places) (hz:zs.toList.map zbp=zc:=by exact (show _=[_,_,_,_,_,_,_,_,_,_,_,_,_,_] from rfl)) (hps:parts.toList=ps:=by exact (show _=[_,_,_] from rfl))
 (hr:zf2 e places zc ps=some cs:=by exact zbD (cs':=[_,_,_,_,_,_,_,_,_,_,_,_,_,_]) rfl rfl rfl rfl rfl (zbD (cs':=[_,_,_,_,_,_,_,_,_,_,_,_,_,_]) rfl rfl rfl rfl rfl (zbD (cs':=[_,_,_,_,_,_,_,_,_,_,_,_,_,_]) rfl rfl rfl rfl rfl (zln)))):POp P e ⟨dst,.build t parts,ty,pos,af,g⟩ (.agg cs):=zlA hf hp hz hps hr
theorem zzH [Tracks] {P:Program} {e:Env} {dst:Option Tmp} {ty:TypeId} {pos:String} {af:Array Edge} {g:Option (Nat×Bool)} {t:TypeId} {fs:List (Nat×Nat)} {size bytes:Nat} {zs:Array Value} {parts:Array (Nat×Operand)} {ps:List (Nat×Operand)} {places:List (Nat×Nat)} {cs zc:List HVal}
 (hf:Fits P t (.struct fs) size bytes (.agg zs)) (hp:Places P fs places) (hz:zs.toList.map zbp=zc:=by exact (show _=[_,_,_,_,_,_,_,_,_,_,_,_,_,_,_,_,_,_,_] from rfl)) (hps:parts.toList=ps:=by exact (show _=[_,_,_] from rfl))
 (hr:zf2 e places zc ps=some cs:=by exact zbD (cs':=[_,_,_,_,_,_,_,_,_,_,_,_,_,_,_,_,_,_,_]) rfl rfl rfl rfl rfl (zbD (cs':=[_,_,_,_,_,_,_,_,_,_,_,_,_,_,_,_,_,_,_]) rfl rfl rfl rfl rfl (zbD (cs':=[_,_,_,_,_,_,_,_,_,_,_,_,_,_,_,_,_,_,_]) rfl rfl rfl rfl rfl (zln)))):POp P e ⟨dst,.build t parts,ty,pos,af,g⟩ (.agg cs):=zlA hf hp hz hps hr
end
section
open Op
abbrev zr0:List HVal:=[.raw (.slice none 0 0),.raw (.slice none 0 0),.raw (.slice none 0 0),.raw (.slice none 0 0),.raw (.slice none 0 0),.int .i64 0,.int .i64 0,.int .i64 0,.int .i64 0,.raw (.slice none 0 0),.raw (.slice none 0 0),.raw (.slice none 0 0),.raw (.slice none 0 0),.int .i64 0]
abbrev zgX:List HVal:=[.raw (.slice none 0 0),.raw (.slice none 0 0),.raw (.slice none 0 0),.raw (.slice none 0 0),.raw (.slice none 0 0),.int .i64 0,.int .i64 0,.int .i64 0,.int .i64 0,.raw (.slice none 0 0),.raw (.slice none 0 0),.raw (.slice none 0 0),.raw (.slice none 0 0),.int .i64 0,.raw (.slice none 0 0),.raw (.slice none 0 0),.raw (.slice none 0 0),.raw (.slice none 0 0),.raw (.slice none 0 0)]
abbrev lgC (p:List PlayerS) (st:HVal) (f:List FixS) (r:List RuleS) (s:List SlotS) (b:BoundS) (t:List Str) (ga:HVal) (br:List Int) (tr:List Str) (w:Int):List HVal:=[zbd p,st,zeo f,zdk r,zgq s,.int .i64 b.Most,.int .i64 b.Hurt,.int .i64 b.Adds,.int .i64 b.Hold,eSs t,ga,eIs br,eSs tr,.int .i64 w]
abbrev bkC (g:LeagueS) (mv pl me he ch:HVal):List HVal:=[zbd g.Players,zbZ g.Stints,zeo g.Fixtures,zdk g.Rules,zgq g.Slots,.int .i64 g.Bounds.Most,.int .i64 g.Bounds.Hurt,.int .i64 g.Bounds.Adds,.int .i64 g.Bounds.Hold,eSs g.Teams,zdN g.Games,eIs g.Breaks,eSs g.Trust,.int .i64 g.Start,mv,pl,me,he,ch]
end
end Go.HL
namespace Go.Proofs.YtbbpommdmnjfmaaGreatDoor
set_option maxRecDepth 100000
set_option linter.unusedVariables false
set_option linter.unusedSimpArgs false
section
open Go.Proofs.Tryz
open Go.HL
theorem zh4 [Tracks] {b:Nat} {l:List Int} {a:Nat} (ha:a<=500000):Con prog 21 [pAt b] [St b l a] (fun x M'=> ∃g a',x=zaE g/\LeaC g/\a'<=a+500/\M'=[St b l a']):=by
 refine zbU func21 rfl ntmps21 rfl rfl ?_;refine gz1 ?_;refine de rfl (zq zax rfl fun b2=> ?_)
 refine gz1 ?_;refine uVj [3,1,6,23] (fun (q:Nat×LeagueS×Nat)=>[(3,pAt q.1)]) (fun (q:Nat×LeagueS×Nat)=>[.cells q.1 (lgC q.2.1.Players (.raw (.slice none 0 0)) q.2.1.Fixtures q.2.1.Rules q.2.1.Slots q.2.1.Bounds q.2.1.Teams (.raw (.slice none 0 0)) q.2.1.Breaks q.2.1.Trust q.2.1.Start),.cells b2 zr0,St b l q.2.2]) (fun (q:Nat×LeagueS×Nat)=>LeaD q.2.1/\q.2.2<=a+300) ?_ ?_
 ·skip
  refine zaC (fun _=>True) [] mixed ?_;refine gz1 ?_;refine gx4 [2,4,6,8] ?_;refine uB 10 rfl (zb (hs:=[_,_,_,_]) zH ty9 rfl rfl (by decide) (by decide) rfl) ?_;refine gz1 ?_;refine uB 12 rfl (zb (hs:=[_,_,_]) zac ty3 rfl rfl (by decide) (by decide) rfl) ?_;refine gx3 [15,17,19] ?_;refine uB 20 rfl (zb (hs:=[_,_,_]) zac ty3 rfl rfl (by decide) (by decide) rfl) ?_;refine zim 1 23 rfl rfl (by kernel_rfl) ?_ ?_
  ·skip
   refine zy rfl (za (i:=1) ca93 rfl (WeakL.refl _) rfl (zdW uS) ?_)
   rintro _ _ ⟨k7,a7,rfl,hk7,ha7,rfl⟩;refine ⟨fun _=> .inl trivial,?_⟩
   refine zim 3 23 rfl rfl (by kernel_rfl) ?_ ?_
   ·skip
    refine zy rfl (za (i:=0) zuS rfl (WeakL.refl _) rfl (zc0 uS) ?_)
    rintro _ _ ⟨k9,a9,rfl,hk9,ha9,rfl⟩;refine ⟨fun _=> .inl trivial,?_⟩
    refine zim 5 23 rfl rfl (by kernel_rfl) ?_ ?_
    ·skip
     refine zy rfl (za (i:=0) zte rfl (WeakL.refl _) rfl (zbT uS) ?_)
     rintro _ _ ⟨k11,a11,rfl,hk11,ha11,rfl⟩;refine ⟨fun _=> .inl trivial,?_⟩
     refine zim 7 23 rfl rfl (by kernel_rfl) ?_ ?_
     ·skip
      refine zy rfl (za (i:=0) zpr rfl (WeakL.refl _) rfl (zbu uS) ?_)
      rintro _ _ ⟨k13,a13,rfl,hk13,hn13,ha13,rfl⟩;refine ⟨fun _=> .inl trivial,?_⟩
      refine zim 9 23 rfl rfl (by kernel_rfl) ?_ ?_
      ·skip
       refine zy rfl (za (i:=0) zps rfl (WeakL.refl _) rfl (zbb uS) ?_)
       rintro _ _ ⟨y15,rfl,rfl⟩;refine ⟨fun _=> .inl trivial,?_⟩
       refine zim 13 23 rfl rfl (by kernel_rfl) ?_ ?_
       ·skip
        refine zy rfl (za (i:=0) za8 rfl (WeakL.refl _) rfl (zh (L:=[_,_,_]) uS uS uS) ?_)
        rintro _ _ ⟨y19,rfl,hy19,rfl⟩;refine ⟨fun _=> .inl trivial,?_⟩
        refine uB 14 rfl (zbq (es:=tm4) (f:=HVal.str) (h:=y19.toNat) zH ty9 rfl rfl ⟨_,_,rfl,by simp at hy19;omega⟩ uO (by simp [tm4];simp at hy19;omega)) ?_;refine zim 16 23 rfl rfl (by kernel_rfl) ?_ ?_
        ·skip
         refine zy rfl (za (i:=0) zmu rfl (WeakL.refl _) rfl (za0 uS) ?_)
         rintro _ _ ⟨k22,a22,rfl,hk22,ha22,rfl⟩;refine ⟨fun _=> .inl trivial,?_⟩
         refine zim 18 23 rfl rfl (by kernel_rfl) ?_ ?_
         ·skip
          refine zy rfl (za (i:=0) zlk rfl (WeakL.refl _) rfl (zaK uS) ?_)
          rintro _ _ ⟨t24,a24,rfl,ht24,ha24,rfl⟩;refine ⟨fun _=> .inl trivial,?_⟩
          refine zim 21 23 rfl rfl (by kernel_rfl) ?_ ?_
          ·skip
           refine zy rfl (za (i:=0) za8 rfl (WeakL.refl _) rfl (zh (L:=[_,_,_]) uS uS uS) ?_)
           rintro _ _ ⟨y27,rfl,hy27,rfl⟩;refine ⟨fun _=> .inl trivial,?_⟩
           refine uB 22 rfl (zhZ zax zju) ?_;refine uF 23 ?_;refine zy rfl (zq zax rfl fun b3=> ?_)
           refine ⟨fun _=> .inl trivial,?_⟩
           refine uF 24 ?_;refine zF (uY 0 ?_)
           refine ⟨fun _=> .inl trivial,?_⟩
           refine uAz ?_;refine ⟨(b3,⟨k7,[],k9,k11,k13,y15,(tm4.take y19.toNat),[],k22,t24,y27⟩,a24+1),?_,⟨rfl,trivial⟩,uK,?_⟩
           ·exact ⟨⟨hk7,hk9,hk11,hk13,⟨by dsimp only;simp [tm4];simp at hy19;omega,by dsimp only;simp [tm4];simp at hy19;omega⟩,hk22,ht24,by simp at hy27;dsimp only;omega⟩,uD⟩
           ·exact uP
          ·skip
           refine zy rfl (zq zax rfl fun b3=> ?_)
           refine ⟨fun _=> .inl trivial,?_⟩
           refine uF 21 ?_;refine zy rfl (za (i:=1) za8 rfl (WeakL.refl _) rfl (zh (L:=[_,_,_]) uS uS uS) ?_)
           rintro _ _ ⟨y27,rfl,hy27,rfl⟩;refine ⟨fun _=> .inl trivial,?_⟩
           refine uB 22 rfl (zhZ zax zju) ?_;refine uF 24 ?_;refine zF (uY 1 ?_)
           refine ⟨fun _=> .inl trivial,?_⟩
           refine uAz ?_;refine ⟨(b3,⟨k7,[],k9,k11,k13,y15,(tm4.take y19.toNat),[],k22,t24,y27⟩,a24+1),?_,⟨rfl,trivial⟩,uK,?_⟩
           ·exact ⟨⟨hk7,hk9,hk11,hk13,⟨by dsimp only;simp [tm4];simp at hy19;omega,by dsimp only;simp [tm4];simp at hy19;omega⟩,hk22,ht24,by simp at hy27;dsimp only;omega⟩,uD⟩
           ·exact uP
         ·skip
          refine zy rfl (zq zax rfl fun b3=> ?_)
          refine ⟨fun _=> .inl trivial,?_⟩
          refine uF 18 ?_;refine zy rfl (za (i:=1) zlk rfl (WeakL.refl _) rfl (zaK uS) ?_)
          rintro _ _ ⟨t24,a24,rfl,ht24,ha24,rfl⟩;refine ⟨fun _=> .inl trivial,?_⟩
          refine uF 21 ?_;refine zy rfl (za (i:=0) za8 rfl (WeakL.refl _) rfl (zh (L:=[_,_,_]) uS uS uS) ?_)
          rintro _ _ ⟨y27,rfl,hy27,rfl⟩;refine ⟨fun _=> .inl trivial,?_⟩
          refine uB 22 rfl (zhZ zax zju) ?_;refine uF 24 ?_;refine zF (uY 1 ?_)
          refine ⟨fun _=> .inl trivial,?_⟩
          refine uAz ?_;refine ⟨(b3,⟨k7,[],k9,k11,k13,y15,(tm4.take y19.toNat),[],k22,t24,y27⟩,a24+1),?_,⟨rfl,trivial⟩,uK,?_⟩
          ·exact ⟨⟨hk7,hk9,hk11,hk13,⟨by dsimp only;simp [tm4];simp at hy19;omega,by dsimp only;simp [tm4];simp at hy19;omega⟩,hk22,ht24,by simp at hy27;dsimp only;omega⟩,uD⟩
          ·exact uP
        ·skip
         refine zy rfl (zq zax rfl fun b3=> ?_)
         refine ⟨fun _=> .inl trivial,?_⟩
         refine uF 16 ?_;refine zy rfl (za (i:=1) zmu rfl (WeakL.refl _) rfl (za0 uS) ?_)
         rintro _ _ ⟨k22,a22,rfl,hk22,ha22,rfl⟩;refine ⟨fun _=> .inl trivial,?_⟩
         refine uF 18 ?_;refine zy rfl (za (i:=0) zlk rfl (WeakL.refl _) rfl (zaK uS) ?_)
         rintro _ _ ⟨t24,a24,rfl,ht24,ha24,rfl⟩;refine ⟨fun _=> .inl trivial,?_⟩
         refine uF 21 ?_;refine zy rfl (za (i:=0) za8 rfl (WeakL.refl _) rfl (zh (L:=[_,_,_]) uS uS uS) ?_)
         rintro _ _ ⟨y27,rfl,hy27,rfl⟩;refine ⟨fun _=> .inl trivial,?_⟩
         refine uB 22 rfl (zhZ zax zju) ?_;refine uF 24 ?_;refine zF (uY 1 ?_)
         refine ⟨fun _=> .inl trivial,?_⟩
         refine uAz ?_;refine ⟨(b3,⟨k7,[],k9,k11,k13,y15,(tm4.take y19.toNat),[],k22,t24,y27⟩,a24+1),?_,⟨rfl,trivial⟩,uK,?_⟩
         ·exact ⟨⟨hk7,hk9,hk11,hk13,⟨by dsimp only;simp [tm4];simp at hy19;omega,by dsimp only;simp [tm4];simp at hy19;omega⟩,hk22,ht24,by simp at hy27;dsimp only;omega⟩,uD⟩
         ·exact uP
       ·skip
        refine zy rfl (zq zax rfl fun b3=> ?_)
        refine ⟨fun _=> .inl trivial,?_⟩
        refine uF 13 ?_;refine zy rfl (za (i:=1) za8 rfl (WeakL.refl _) rfl (zh (L:=[_,_,_]) uS uS uS) ?_)
        rintro _ _ ⟨y19,rfl,hy19,rfl⟩;refine ⟨fun _=> .inl trivial,?_⟩
        refine uB 14 rfl (zbq (es:=tm4) (f:=HVal.str) (h:=y19.toNat) zH ty9 rfl rfl ⟨_,_,rfl,by simp at hy19;omega⟩ uO (by simp [tm4];simp at hy19;omega)) ?_;refine uF 16 ?_;refine zy rfl (za (i:=0) zmu rfl (WeakL.refl _) rfl (za0 uS) ?_)
        rintro _ _ ⟨k22,a22,rfl,hk22,ha22,rfl⟩;refine ⟨fun _=> .inl trivial,?_⟩
        refine uF 18 ?_;refine zy rfl (za (i:=0) zlk rfl (WeakL.refl _) rfl (zaK uS) ?_)
        rintro _ _ ⟨t24,a24,rfl,ht24,ha24,rfl⟩;refine ⟨fun _=> .inl trivial,?_⟩
        refine uF 21 ?_;refine zy rfl (za (i:=0) za8 rfl (WeakL.refl _) rfl (zh (L:=[_,_,_]) uS uS uS) ?_)
        rintro _ _ ⟨y27,rfl,hy27,rfl⟩;refine ⟨fun _=> .inl trivial,?_⟩
        refine uB 22 rfl (zhZ zax zju) ?_;refine uF 24 ?_;refine zF (uY 1 ?_)
        refine ⟨fun _=> .inl trivial,?_⟩
        refine uAz ?_;refine ⟨(b3,⟨k7,[],k9,k11,k13,y15,(tm4.take y19.toNat),[],k22,t24,y27⟩,a24+1),?_,⟨rfl,trivial⟩,uK,?_⟩
        ·exact ⟨⟨hk7,hk9,hk11,hk13,⟨by dsimp only;simp [tm4];simp at hy19;omega,by dsimp only;simp [tm4];simp at hy19;omega⟩,hk22,ht24,by simp at hy27;dsimp only;omega⟩,uD⟩
        ·exact uP
      ·skip
       refine zy rfl (zq zax rfl fun b3=> ?_)
       refine ⟨fun _=> .inl trivial,?_⟩
       refine uF 9 ?_;refine zy rfl (za (i:=1) zps rfl (WeakL.refl _) rfl (zbb uS) ?_)
       rintro _ _ ⟨y15,rfl,rfl⟩;refine ⟨fun _=> .inl trivial,?_⟩
       refine uF 13 ?_;refine zy rfl (za (i:=0) za8 rfl (WeakL.refl _) rfl (zh (L:=[_,_,_]) uS uS uS) ?_)
       rintro _ _ ⟨y19,rfl,hy19,rfl⟩;refine ⟨fun _=> .inl trivial,?_⟩
       refine uB 14 rfl (zbq (es:=tm4) (f:=HVal.str) (h:=y19.toNat) zH ty9 rfl rfl ⟨_,_,rfl,by simp at hy19;omega⟩ uO (by simp [tm4];simp at hy19;omega)) ?_;refine uF 16 ?_;refine zy rfl (za (i:=0) zmu rfl (WeakL.refl _) rfl (za0 uS) ?_)
       rintro _ _ ⟨k22,a22,rfl,hk22,ha22,rfl⟩;refine ⟨fun _=> .inl trivial,?_⟩
       refine uF 18 ?_;refine zy rfl (za (i:=0) zlk rfl (WeakL.refl _) rfl (zaK uS) ?_)
       rintro _ _ ⟨t24,a24,rfl,ht24,ha24,rfl⟩;refine ⟨fun _=> .inl trivial,?_⟩
       refine uF 21 ?_;refine zy rfl (za (i:=0) za8 rfl (WeakL.refl _) rfl (zh (L:=[_,_,_]) uS uS uS) ?_)
       rintro _ _ ⟨y27,rfl,hy27,rfl⟩;refine ⟨fun _=> .inl trivial,?_⟩
       refine uB 22 rfl (zhZ zax zju) ?_;refine uF 24 ?_;refine zF (uY 1 ?_)
       refine ⟨fun _=> .inl trivial,?_⟩
       refine uAz ?_;refine ⟨(b3,⟨k7,[],k9,k11,k13,y15,(tm4.take y19.toNat),[],k22,t24,y27⟩,a24+1),?_,⟨rfl,trivial⟩,uK,?_⟩
       ·exact ⟨⟨hk7,hk9,hk11,hk13,⟨by dsimp only;simp [tm4];simp at hy19;omega,by dsimp only;simp [tm4];simp at hy19;omega⟩,hk22,ht24,by simp at hy27;dsimp only;omega⟩,uD⟩
       ·exact uP
     ·skip
      refine zy rfl (zq zax rfl fun b3=> ?_)
      refine ⟨fun _=> .inl trivial,?_⟩
      refine uF 7 ?_;refine zy rfl (za (i:=1) zpr rfl (WeakL.refl _) rfl (zbu uS) ?_)
      rintro _ _ ⟨k13,a13,rfl,hk13,hn13,ha13,rfl⟩;refine ⟨fun _=> .inl trivial,?_⟩
      refine uF 9 ?_;refine zy rfl (za (i:=0) zps rfl (WeakL.refl _) rfl (zbb uS) ?_)
      rintro _ _ ⟨y15,rfl,rfl⟩;refine ⟨fun _=> .inl trivial,?_⟩
      refine uF 13 ?_;refine zy rfl (za (i:=0) za8 rfl (WeakL.refl _) rfl (zh (L:=[_,_,_]) uS uS uS) ?_)
      rintro _ _ ⟨y19,rfl,hy19,rfl⟩;refine ⟨fun _=> .inl trivial,?_⟩
      refine uB 14 rfl (zbq (es:=tm4) (f:=HVal.str) (h:=y19.toNat) zH ty9 rfl rfl ⟨_,_,rfl,by simp at hy19;omega⟩ uO (by simp [tm4];simp at hy19;omega)) ?_;refine uF 16 ?_;refine zy rfl (za (i:=0) zmu rfl (WeakL.refl _) rfl (za0 uS) ?_)
      rintro _ _ ⟨k22,a22,rfl,hk22,ha22,rfl⟩;refine ⟨fun _=> .inl trivial,?_⟩
      refine uF 18 ?_;refine zy rfl (za (i:=0) zlk rfl (WeakL.refl _) rfl (zaK uS) ?_)
      rintro _ _ ⟨t24,a24,rfl,ht24,ha24,rfl⟩;refine ⟨fun _=> .inl trivial,?_⟩
      refine uF 21 ?_;refine zy rfl (za (i:=0) za8 rfl (WeakL.refl _) rfl (zh (L:=[_,_,_]) uS uS uS) ?_)
      rintro _ _ ⟨y27,rfl,hy27,rfl⟩;refine ⟨fun _=> .inl trivial,?_⟩
      refine uB 22 rfl (zhZ zax zju) ?_;refine uF 24 ?_;refine zF (uY 1 ?_)
      refine ⟨fun _=> .inl trivial,?_⟩
      refine uAz ?_;refine ⟨(b3,⟨k7,[],k9,k11,k13,y15,(tm4.take y19.toNat),[],k22,t24,y27⟩,a24+1),?_,⟨rfl,trivial⟩,uK,?_⟩
      ·exact ⟨⟨hk7,hk9,hk11,hk13,⟨by dsimp only;simp [tm4];simp at hy19;omega,by dsimp only;simp [tm4];simp at hy19;omega⟩,hk22,ht24,by simp at hy27;dsimp only;omega⟩,uD⟩
      ·exact uP
    ·skip
     refine zy rfl (zq zax rfl fun b3=> ?_)
     refine ⟨fun _=> .inl trivial,?_⟩
     refine uF 5 ?_;refine zy rfl (za (i:=1) zte rfl (WeakL.refl _) rfl (zbT uS) ?_)
     rintro _ _ ⟨k11,a11,rfl,hk11,ha11,rfl⟩;refine ⟨fun _=> .inl trivial,?_⟩
     refine uF 7 ?_;refine zy rfl (za (i:=0) zpr rfl (WeakL.refl _) rfl (zbu uS) ?_)
     rintro _ _ ⟨k13,a13,rfl,hk13,hn13,ha13,rfl⟩;refine ⟨fun _=> .inl trivial,?_⟩
     refine uF 9 ?_;refine zy rfl (za (i:=0) zps rfl (WeakL.refl _) rfl (zbb uS) ?_)
     rintro _ _ ⟨y15,rfl,rfl⟩;refine ⟨fun _=> .inl trivial,?_⟩
     refine uF 13 ?_;refine zy rfl (za (i:=0) za8 rfl (WeakL.refl _) rfl (zh (L:=[_,_,_]) uS uS uS) ?_)
     rintro _ _ ⟨y19,rfl,hy19,rfl⟩;refine ⟨fun _=> .inl trivial,?_⟩
     refine uB 14 rfl (zbq (es:=tm4) (f:=HVal.str) (h:=y19.toNat) zH ty9 rfl rfl ⟨_,_,rfl,by simp at hy19;omega⟩ uO (by simp [tm4];simp at hy19;omega)) ?_;refine uF 16 ?_;refine zy rfl (za (i:=0) zmu rfl (WeakL.refl _) rfl (za0 uS) ?_)
     rintro _ _ ⟨k22,a22,rfl,hk22,ha22,rfl⟩;refine ⟨fun _=> .inl trivial,?_⟩
     refine uF 18 ?_;refine zy rfl (za (i:=0) zlk rfl (WeakL.refl _) rfl (zaK uS) ?_)
     rintro _ _ ⟨t24,a24,rfl,ht24,ha24,rfl⟩;refine ⟨fun _=> .inl trivial,?_⟩
     refine uF 21 ?_;refine zy rfl (za (i:=0) za8 rfl (WeakL.refl _) rfl (zh (L:=[_,_,_]) uS uS uS) ?_)
     rintro _ _ ⟨y27,rfl,hy27,rfl⟩;refine ⟨fun _=> .inl trivial,?_⟩
     refine uB 22 rfl (zhZ zax zju) ?_;refine uF 24 ?_;refine zF (uY 1 ?_)
     refine ⟨fun _=> .inl trivial,?_⟩
     refine uAz ?_;refine ⟨(b3,⟨k7,[],k9,k11,k13,y15,(tm4.take y19.toNat),[],k22,t24,y27⟩,a24+1),?_,⟨rfl,trivial⟩,uK,?_⟩
     ·exact ⟨⟨hk7,hk9,hk11,hk13,⟨by dsimp only;simp [tm4];simp at hy19;omega,by dsimp only;simp [tm4];simp at hy19;omega⟩,hk22,ht24,by simp at hy27;dsimp only;omega⟩,uD⟩
     ·exact uP
   ·skip
    refine zy rfl (zq zax rfl fun b3=> ?_)
    refine ⟨fun _=> .inl trivial,?_⟩
    refine uF 3 ?_;refine zy rfl (za (i:=1) zuS rfl (WeakL.refl _) rfl (zc0 uS) ?_)
    rintro _ _ ⟨k9,a9,rfl,hk9,ha9,rfl⟩;refine ⟨fun _=> .inl trivial,?_⟩
    refine uF 5 ?_;refine zy rfl (za (i:=0) zte rfl (WeakL.refl _) rfl (zbT uS) ?_)
    rintro _ _ ⟨k11,a11,rfl,hk11,ha11,rfl⟩;refine ⟨fun _=> .inl trivial,?_⟩
    refine uF 7 ?_;refine zy rfl (za (i:=0) zpr rfl (WeakL.refl _) rfl (zbu uS) ?_)
    rintro _ _ ⟨k13,a13,rfl,hk13,hn13,ha13,rfl⟩;refine ⟨fun _=> .inl trivial,?_⟩
    refine uF 9 ?_;refine zy rfl (za (i:=0) zps rfl (WeakL.refl _) rfl (zbb uS) ?_)
    rintro _ _ ⟨y15,rfl,rfl⟩;refine ⟨fun _=> .inl trivial,?_⟩
    refine uF 13 ?_;refine zy rfl (za (i:=0) za8 rfl (WeakL.refl _) rfl (zh (L:=[_,_,_]) uS uS uS) ?_)
    rintro _ _ ⟨y19,rfl,hy19,rfl⟩;refine ⟨fun _=> .inl trivial,?_⟩
    refine uB 14 rfl (zbq (es:=tm4) (f:=HVal.str) (h:=y19.toNat) zH ty9 rfl rfl ⟨_,_,rfl,by simp at hy19;omega⟩ uO (by simp [tm4];simp at hy19;omega)) ?_;refine uF 16 ?_;refine zy rfl (za (i:=0) zmu rfl (WeakL.refl _) rfl (za0 uS) ?_)
    rintro _ _ ⟨k22,a22,rfl,hk22,ha22,rfl⟩;refine ⟨fun _=> .inl trivial,?_⟩
    refine uF 18 ?_;refine zy rfl (za (i:=0) zlk rfl (WeakL.refl _) rfl (zaK uS) ?_)
    rintro _ _ ⟨t24,a24,rfl,ht24,ha24,rfl⟩;refine ⟨fun _=> .inl trivial,?_⟩
    refine uF 21 ?_;refine zy rfl (za (i:=0) za8 rfl (WeakL.refl _) rfl (zh (L:=[_,_,_]) uS uS uS) ?_)
    rintro _ _ ⟨y27,rfl,hy27,rfl⟩;refine ⟨fun _=> .inl trivial,?_⟩
    refine uB 22 rfl (zhZ zax zju) ?_;refine uF 24 ?_;refine zF (uY 1 ?_)
    refine ⟨fun _=> .inl trivial,?_⟩
    refine uAz ?_;refine ⟨(b3,⟨k7,[],k9,k11,k13,y15,(tm4.take y19.toNat),[],k22,t24,y27⟩,a24+1),?_,⟨rfl,trivial⟩,uK,?_⟩
    ·exact ⟨⟨hk7,hk9,hk11,hk13,⟨by dsimp only;simp [tm4];simp at hy19;omega,by dsimp only;simp [tm4];simp at hy19;omega⟩,hk22,ht24,by simp at hy27;dsimp only;omega⟩,uD⟩
    ·exact uP
  ·skip
   refine zy rfl (zq zax rfl fun b3=> ?_)
   refine ⟨fun _=> .inl trivial,?_⟩
   refine uF 1 ?_;refine zy rfl (za (i:=2) ca93 rfl (WeakL.refl _) rfl (zdW uS) ?_)
   rintro _ _ ⟨k7,a7,rfl,hk7,ha7,rfl⟩;refine ⟨fun _=> .inl trivial,?_⟩
   refine uF 3 ?_;refine zy rfl (za (i:=0) zuS rfl (WeakL.refl _) rfl (zc0 uS) ?_)
   rintro _ _ ⟨k9,a9,rfl,hk9,ha9,rfl⟩;refine ⟨fun _=> .inl trivial,?_⟩
   refine uF 5 ?_;refine zy rfl (za (i:=0) zte rfl (WeakL.refl _) rfl (zbT uS) ?_)
   rintro _ _ ⟨k11,a11,rfl,hk11,ha11,rfl⟩;refine ⟨fun _=> .inl trivial,?_⟩
   refine uF 7 ?_;refine zy rfl (za (i:=0) zpr rfl (WeakL.refl _) rfl (zbu uS) ?_)
   rintro _ _ ⟨k13,a13,rfl,hk13,hn13,ha13,rfl⟩;refine ⟨fun _=> .inl trivial,?_⟩
   refine uF 9 ?_;refine zy rfl (za (i:=0) zps rfl (WeakL.refl _) rfl (zbb uS) ?_)
   rintro _ _ ⟨y15,rfl,rfl⟩;refine ⟨fun _=> .inl trivial,?_⟩
   refine uF 13 ?_;refine zy rfl (za (i:=0) za8 rfl (WeakL.refl _) rfl (zh (L:=[_,_,_]) uS uS uS) ?_)
   rintro _ _ ⟨y19,rfl,hy19,rfl⟩;refine ⟨fun _=> .inl trivial,?_⟩
   refine uB 14 rfl (zbq (es:=tm4) (f:=HVal.str) (h:=y19.toNat) zH ty9 rfl rfl ⟨_,_,rfl,by simp at hy19;omega⟩ uO (by simp [tm4];simp at hy19;omega)) ?_;refine uF 16 ?_;refine zy rfl (za (i:=0) zmu rfl (WeakL.refl _) rfl (za0 uS) ?_)
   rintro _ _ ⟨k22,a22,rfl,hk22,ha22,rfl⟩;refine ⟨fun _=> .inl trivial,?_⟩
   refine uF 18 ?_;refine zy rfl (za (i:=0) zlk rfl (WeakL.refl _) rfl (zaK uS) ?_)
   rintro _ _ ⟨t24,a24,rfl,ht24,ha24,rfl⟩;refine ⟨fun _=> .inl trivial,?_⟩
   refine uF 21 ?_;refine zy rfl (za (i:=0) za8 rfl (WeakL.refl _) rfl (zh (L:=[_,_,_]) uS uS uS) ?_)
   rintro _ _ ⟨y27,rfl,hy27,rfl⟩;refine ⟨fun _=> .inl trivial,?_⟩
   refine uB 22 rfl (zhZ zax zju) ?_;refine uF 24 ?_;refine zF (uY 1 ?_)
   refine ⟨fun _=> .inl trivial,?_⟩
   refine uAz ?_;refine ⟨(b3,⟨k7,[],k9,k11,k13,y15,(tm4.take y19.toNat),[],k22,t24,y27⟩,a24+1),?_,⟨rfl,trivial⟩,uK,?_⟩
   ·exact ⟨⟨hk7,hk9,hk11,hk13,⟨by dsimp only;simp [tm4];simp at hy19;omega,by dsimp only;simp [tm4];simp at hy19;omega⟩,hk22,ht24,by simp at hy27;dsimp only;omega⟩,uD⟩
   ·exact uP
 ·intro q hq0
  obtain ⟨b3,⟨k7,kst,k9,k11,k13,y15,T,kga,k22,t24,y27⟩,a27⟩:=q;obtain ⟨⟨hk7,hk9,hk11,hk13,htl,hk22,ht24,hst⟩,ha27⟩:=hq0;dsimp only at hk7 hk9 hk11 hk13 htl hk22 ht24 hst ha27⊢;have hp5:=hk7.len;have htr:t24.length<=100/\∀s∈t24,Sh s:=⟨by have:=ht24.len;omega,ht24.all⟩
  refine gz3 ?_;refine de rfl (uZ 0 ?_)
  refine de rfl (za (i:=2) zxO rfl (WeakL.refl _) rfl (zh5 (a:=a27) (L:=k7) uO uO) ?_)
  rintro _ _ ⟨k32,a32,rfl,hk32,ha32,rfl⟩;refine gz1 ?_;refine de0 (uY 1 ?_)
  refine gz4 ?_;refine de rfl (uZ 1 ?_)
  refine de rfl (zeG (M1:=[]) (R:=[_,_,_]) zxP rfl (WeakL.refl _) (Ab _) (zkf (T:=T) htl) ?_)
  rintro _ _ ⟨k36,rfl,hk36,rfl⟩;refine gz3 ?_;have hl36:=hk36.len;have hg36:=hk36.all;refine zf (zG 8) ?_;refine gz1 ?_;refine uV2 [5,1,38,14] (fun (k:Nat) (q:GL GameS)=>[(38,.int .i64 k)]) (fun (k:Nat) (q:GL GameS)=>[St b l q.a,.cells b2 zr0,.cells b3 (lgC k7 (zbZ k32) k9 k11 k13 y15 T (.raw q.u) k22 t24 y27),.arr q.u 8 (q.out.map zaO)]) (fun (k:Nat) (q:GL GameS)=>k<=k36.length/\(GLok GamB k (a32+k) q)) (fun (k:Nat) (q:GL GameS)=>k36.length-k) (0) (⟨.slice none 0 0,[],a32⟩) ?_ ?_ ?_ ?_
  ·exact ⟨Ad _,⟨by simp,by simp,uD⟩⟩
  ·exact ⟨rfl,trivial⟩
  ·exact uP
  ·intro k q hinv
   obtain ⟨hk,hq⟩:=hinv;obtain ⟨u,out,a2⟩:=q;obtain ⟨g1,g2,g3⟩:=id hq;dsimp only at g1 g2 g3;refine gz4 ?_;refine uCo (fun h1=> ?_) fun h2=> ?_
   ·obtain ⟨x,hx⟩: ∃x,k36[k]? =some x:=⟨_,Aa h1⟩
    have hdx:=zi hx;refine gz5 ?_;refine dq (zl zco zb7 rfl rfl rfl (by assumption)) ?_;refine gz1 ?_;refine de rfl (zq zb7 rfl fun b5=> ?_)
    refine de0 (uY 0 ?_)
    refine gz3 ?_;refine de rfl (za (i:=1) zdK rfl (WeakL.refl _) rfl (zK uS uS) ?_)
    rintro _ _ ⟨y43,rfl,rfl⟩;refine gz2 ?_;refine uCo (fun h3=> ?_) fun h4=> ?_
    ·refine gz2 ?_;refine de rfl (uZ 3 ?_)
     refine de rfl (zbO (i:=1) (h:=zaO x) zb7 rfl rfl rfl rfl rfl ?_)
     refine dq (zb (hs:=[_]) zco zb7 rfl rfl (by decide) (by decide) rfl) ?_;refine de rfl (zC (i:=4) zco zb7 rfl rfl rfl rfl rfl (by simp [zal,zd,zce,zbp]) (by simp;omega) fun v49=> ?_)
     refine gz1 ?_;refine de0 (uY 3 ?_)
     refine gz3 ?_;refine zf (zca 5 (i:=1) rfl rfl) ?_;refine gz4 ?_;exact ⟨k+1,⟨v49,out++[x],a2+1⟩,⟨by omega,hq.add (x:=x) (hg36 x (Ac hx)) uO⟩,uD,⟨rfl,trivial⟩,uK,zm (by dsimp only;rw [Ap];rfl)⟩
    ·refine gz3 ?_;refine zf (zca 5 (i:=1) rfl rfl) ?_;refine gz4 ?_;exact ⟨k+1,⟨u,out,a2+1⟩,⟨by omega,hq.same uO⟩,uD,⟨rfl,trivial⟩,uK,zm rfl⟩
   ·have hnk:k36.length<=k:=by omega
    obtain rfl:k=k36.length:=by omega
    refine gz2 ?_;refine zM ?_;refine gz4 ?_;refine de rfl (uZ 2 ?_)
    refine de rfl (za (i:=3) zvG rfl (WeakL.refl _) rfl (zmn (l:=out) g2 uO) ?_)
    rintro _ _ ⟨Z,rfl,hz1,hz2,rfl⟩;have hzl:=hz1.length_eq;refine gz1 ?_;have hgz:Z.length<=6/\∀x∈Z,GamB x:=⟨by omega,fun x hx=>g2 x (hz1.mem_iff.1 hx)⟩
    refine uVj [55,44] (fun (q5:LeagueS×Nat)=>[]) (fun (q5:LeagueS×Nat)=>[St b l q5.2,.cells b2 zr0,.cells b3 (lgC q5.1.Players (zbZ q5.1.Stints) q5.1.Fixtures q5.1.Rules q5.1.Slots q5.1.Bounds q5.1.Teams (.raw u) q5.1.Breaks q5.1.Trust q5.1.Start),.arr u 8 (q5.1.Games.map zaO)]) (fun (q5:LeagueS×Nat)=>LeaC q5.1/\q5.2<=a+500) ?_ ?_
    ·skip
     refine gz2 ?_;refine de rfl (za (i:=1) zdK rfl (WeakL.refl _) rfl (zK uS uS) ?_)
     rintro _ _ ⟨y56,rfl,rfl⟩;refine gz1 ?_;refine uCo (fun h5=> ?_) fun h6=> ?_
     ·refine gz2 ?_;refine de rfl (za (i:=0) zfF rfl (WeakL.refl _) rfl (zW uS uS) ?_)
      rintro _ _ ⟨y58,rfl,hy58,rfl⟩;refine gz6 ?_;refine uCo (fun h7=> ?_) fun h8=> ?_
      ·refine gz2 ?_;refine dq (zb (hs:=[_,_,_]) zac ty3 rfl rfl (by decide) (by decide) rfl) ?_;refine de rfl (za (i:=0) za8 rfl (WeakL.refl _) rfl (zh (L:=[_,_,_]) uS uS uS) ?_)
       rintro _ _ ⟨y81,rfl,hy81,rfl⟩;refine gz1 ?_;refine de0 (uY 3 ?_)
       refine gz2 ?_;exact ⟨((⟨k7,k32,k9,k11,k13,y15,T,Z,k22,t24,y81⟩:LeagueS),a2+3),⟨zi0 (h1:=hk7) (h2:=by dsimp only;omega) (h3:=by dsimp only;omega) (h4:=hk11) (h5:=hk13.up) (h6:=by dsimp only;omega) (h7:=hgz) (h8:=by dsimp only;omega) (h9:=htr) (h10:=by simp at hy81;dsimp only;omega),uD⟩,trivial,uK,uP⟩
      ·refine gz4 ?_;refine uCo (fun h9=> ?_) fun h10=> ?_
       ·refine gz2 ?_;refine de rfl (uZ 3 ?_)
        refine de rfl (zaA zli rfl (WeakL.refl _) (zaG uO) fun v87=> ?_)
        refine gz1 ?_;refine dq (zb (hs:=[_,_]) zH ty9 rfl rfl (by decide) (by decide) rfl) ?_;refine de rfl (za (i:=1) zck rfl (WeakL.refl _) rfl (zt (L:=[_,_]) uS uS uS) ?_)
        rintro _ _ ⟨y90,rfl,hy90,rfl⟩;refine dq (zb (hs:=[_]) zH ty9 rfl rfl (by decide) (by decide) rfl) ?_;refine de rfl (zmU (N:=[St b l (a2+3),.arr u 8 (Z.map zaO),.cells b2 zr0,.cells b3 (lgC k7 (zbZ k32) k9 k11 k13 y15 T (.raw u) k22 t24 y27)]) (sz:=1) (es:=(T++[y90]).map .str) 1 (zC (i:=1) zH ty9 rfl rfl rfl rfl rfl (by simp [zal,zd]) (by simp;omega) fun v=>⟨v,rfl,by simp,rfl⟩) ?_)
        refine gz1 ?_;refine de0 (uY 3 ?_)
        refine gz2 ?_;exact ⟨((⟨k7,k32,k9,k11,k13,y15,T++[y90],Z,k22,t24,y27⟩:LeagueS),a2+3),⟨zi0 (h1:=hk7) (h2:=by dsimp only;omega) (h3:=by dsimp only;omega) (h4:=hk11) (h5:=hk13.up) (h6:=by dsimp only;rw [Af];simp only [Ao,Aq];omega) (h7:=hgz) (h8:=by dsimp only;omega) (h9:=htr) (h10:=hst),uD⟩,trivial,uK,uP⟩
       ·refine gz4 ?_;refine uCo (fun h11=> ?_) fun h12=> ?_
        ·refine gz2 ?_;refine de rfl (za (i:=0) zxQ rfl (WeakL.refl _) rfl (zjb uS) ?_)
         rintro _ _ ⟨k97,a97,rfl,hk97,ha97,rfl⟩;refine gz1 ?_;refine de0 (uY 3 ?_)
         refine gz2 ?_;exact ⟨((⟨k7,k32,k9,k11,k97,y15,T,Z,k22,t24,y27⟩:LeagueS),a97),⟨zi0 (h1:=hk7) (h2:=by dsimp only;omega) (h3:=by dsimp only;omega) (h4:=hk11) (h5:=hk97) (h6:=by dsimp only;omega) (h7:=hgz) (h8:=by dsimp only;omega) (h9:=htr) (h10:=hst),by dsimp only at ha97⊢;omega⟩,trivial,uK,uP⟩
        ·refine gz2 ?_;refine de rfl (uZ 3 ?_)
         refine de rfl (zaT (i:=1) zco rfl rfl ?_)
         refine gz2 ?_;refine uCo (fun h13=> ?_) fun h14=> ?_
         ·have hz0:0<Z.length:=by first|assumption|omega|simp_all
          obtain ⟨x0,hx0⟩: ∃x,Z[0]? =some x:=⟨_,Aa hz0⟩
          refine zb1 (i:=1) rfl (fun h0 he=> ?_) (fun ob off cap hv hcap=> ?_)
          ·exfalso;have:=congrArg List.length he;simp at this;subst this;simp at hz0
          subst hv;refine zaC (fun M=> ∃i:Nat,M[i]? =some (.cells b3 (lgC k7 (zbZ k32) k9 k11 k13 y15 T (.raw (.slice (some ⟨ob,off,none⟩) (Z.map zaO).length cap)) k22 t24 y27))) [1,3,5] mixed ?_;refine gz1 ?_;refine uM 1 rfl (⟨3,rfl⟩) (fun M hM=>by obtain ⟨i,hi⟩:=hM;exact zao (i:=i) zco rfl hi (.inl ⟨rfl,rfl⟩) ⟨rfl,rfl⟩) ?_;refine gz1 ?_;refine uM 3 rfl (⟨3,rfl⟩) (fun M hM=>by obtain ⟨i,hi⟩:=hM;exact zao (i:=i) zco rfl hi (.inl ⟨rfl,rfl⟩) ⟨rfl,rfl⟩) ?_;refine gz1 ?_;refine uM 5 rfl (⟨3,rfl⟩) (fun M hM=>by obtain ⟨i,hi⟩:=hM;exact zao (i:=i) zco rfl hi (.inl ⟨rfl,rfl⟩) ⟨rfl,rfl⟩) ?_;refine uB 6 rfl (zas (cs:=[_,_]) zb6 zn3 rfl) ?_;refine uB 7 rfl (zas (cs:=[_,_]) zb6 zn3 rfl) ?_;refine uB 8 rfl (ze (j:=0) zco zb7 rfl rfl rfl (by simp;omega)) ?_;refine gz1 ?_;refine uF 10 ?_;refine zF (z8 (i:=1) (j:=0) (f:=3) (y:=zaO x0) (y':=zaO (⟨x0.Week,x0.Home,x0.Away,true,x0.FNum,x0.FDen,x0.ONum,x0.ODen⟩:GameS)) ty4 rfl uO rfl rfl (za5 hx0) rfl rfl (by simp [zd]) rfl ?_)
          refine ⟨fun _=> .inl ⟨3,rfl⟩,?_⟩
          refine uB 11 rfl (ze (j:=0) zco zb7 rfl rfl rfl (by simp;omega)) ?_;refine gz1 ?_;refine uF 13 ?_;refine zF (z8 (i:=1) (j:=0) (f:=4) (y:=zaO (⟨x0.Week,x0.Home,x0.Away,true,x0.FNum,x0.FDen,x0.ONum,x0.ODen⟩:GameS)) (y':=zaO (⟨x0.Week,x0.Home,x0.Away,true,1,1,x0.ONum,x0.ODen⟩:GameS)) zb6 rfl uO rfl rfl (za7 (za5 hx0)) rfl rfl (by simp [zd]) rfl ?_)
          refine ⟨fun _=> .inl ⟨3,rfl⟩,?_⟩
          refine uB 14 rfl (ze (j:=0) zco zb7 rfl rfl rfl (by simp;omega)) ?_;refine gz1 ?_;refine uF 16 ?_;refine zF (z8 (i:=1) (j:=0) (f:=6) (y:=zaO (⟨x0.Week,x0.Home,x0.Away,true,1,1,x0.ONum,x0.ODen⟩:GameS)) (y':=zaO (⟨x0.Week,x0.Home,x0.Away,true,1,1,1,1⟩:GameS)) zb6 rfl uO rfl rfl (za7 (za7 (za5 hx0))) rfl rfl (by simp [zd]) rfl ?_)
          refine ⟨fun _=> .inl ⟨3,rfl⟩,?_⟩
          refine gz2 ?_;exact ⟨((⟨k7,k32,k9,k11,k13,y15,T,Z.set 0 (⟨x0.Week,x0.Home,x0.Away,true,1,1,1,1⟩:GameS),k22,t24,y27⟩:LeagueS),a2+2),⟨zi0 (h1:=hk7) (h2:=by dsimp only;omega) (h3:=by dsimp only;omega) (h4:=hk11) (h5:=hk13.up) (h6:=by dsimp only;omega) (h7:=⟨by dsimp only;rw [List.length_set];omega,zes (P:=GamB) hgz.2 ⟨(hgz.2 x0 (Ac hx0)).week,uD,uD⟩⟩) (h8:=by dsimp only;omega) (h9:=htr) (h10:=hst),uD⟩,trivial,uK,uP⟩
         ·refine gz2 ?_;exact ⟨((⟨k7,k32,k9,k11,k13,y15,T,Z,k22,t24,y27⟩:LeagueS),a2+2),⟨zi0 (h1:=hk7) (h2:=by dsimp only;omega) (h3:=by dsimp only;omega) (h4:=hk11) (h5:=hk13.up) (h6:=by dsimp only;omega) (h7:=hgz) (h8:=by dsimp only;omega) (h9:=htr) (h10:=hst),uD⟩,trivial,uK,uP⟩
     ·refine gz1 ?_;exact ⟨((⟨k7,k32,k9,k11,k13,y15,T,Z,k22,t24,y27⟩:LeagueS),a2+1),⟨zi0 (h1:=hk7) (h2:=by dsimp only;omega) (h3:=by dsimp only;omega) (h4:=hk11) (h5:=hk13.up) (h6:=by dsimp only;omega) (h7:=hgz) (h8:=by dsimp only;omega) (h9:=htr) (h10:=hst),uD⟩,trivial,uK,uP⟩
    ·intro q5 hq5
     obtain ⟨g5,a5⟩:=q5;obtain ⟨hg5,ha5⟩:=hq5;dsimp only at hg5 ha5;refine zf (zbM (i:=3) (k:=2) (j:=10) rfl rfl rfl) ?_;refine zf (Ghost.perm (M':=[.cells b2 zr0,St b l a5,.cells b3 (zd (zaE g5))]) uP) ?_;refine gz1 ?_;refine de rfl (zbO (i:=2) (h:=zaE g5) zax rfl rfl rfl rfl rfl ?_)
     refine de0 (zJ (h:=zaE g5) zax rfl rfl rfl rfl rfl ?_)
     refine gz2 ?_;exact ⟨_,_,(zA 2 rfl).trans ((Ghost.perm (List.Perm.swap _ _ _)).trans Ghost.drop),[_],_,⟨⟨_,_,_,_,_,rfl,zax,.inr ⟨rfl,rfl,rfl⟩⟩,trivial⟩,Weak.refl _,g5,a5,rfl,hg5,ha5,rfl⟩
end
end Go.Proofs.YtbbpommdmnjfmaaGreatDoor
namespace Go.HL
section
structure Half (a b l:List Play):Prop where
 sa:a.Sublist l
 sb:b.Sublist l
 all: ∀x∈l,x∈a\/x∈b
theorem Half.nil:Half [] [] []:=⟨AZ _,AZ _,fun x h=>by cases h⟩
theorem Half.both {a b l:List Play} (h:Half a b l) (x:Play):Half (a++[x]) (b++[x]) (l++[x]):=
 ⟨h.sa.append (AZ _),h.sb.append (AZ _),fun y hy=>by
  rcases List.mem_append.1 hy with hy|hy
  rcases h.all y hy with q|q
  exact .inl (Ar _ q);exact .inr (Ar _ q);exact .inl (Bd _ hy)⟩
theorem Half.left {a b l:List Play} (h:Half a b l) (x:Play):Half (a++[x]) b (l++[x]):=
 ⟨h.sa.append (AZ _),h.sb.trans (BD _ _),fun y hy=>by
  rcases List.mem_append.1 hy with hy|hy
  rcases h.all y hy with q|q
  exact .inl (Ar _ q);exact .inr q;exact .inl (Bd _ hy)⟩
theorem Half.right {a b l:List Play} (h:Half a b l) (x:Play):Half a (b++[x]) (l++[x]):=
 ⟨h.sa.trans (BD _ _),h.sb.append (AZ _),fun y hy=>by
  rcases List.mem_append.1 hy with hy|hy
  rcases h.all y hy with q|q
  exact .inl q;exact .inr (Ar _ q);exact .inr (Bd _ hy)⟩
end
section

end
end Go.HL
namespace Go.Proofs.YtbbpommdmnjfmaaGreatDoor
set_option maxRecDepth 100000
set_option linter.unusedVariables false
set_option linter.unusedSimpArgs false
section
open Go.Proofs.Tryz
open Go.HL
theorem zh8 [Tracks] {b:Nat} {l:List Int} {a:Nat} {L:List Play} (ha:a<=700000) (hL:L.length<=100):Con prog 70 [pAt b,zbk L] [St b l a] (fun x M'=> ∃u A B,x= .tup [zbk A,.raw u]/\Half A B L/\M'=[St b l (a+L.length),.arr u 9 (B.map zu)]):=by
 refine uOb func70 ntmps70 ?_;refine gz4 ?_;refine zf (zG 9) ?_;refine zf (zG 9) ?_;refine gz7 ?_;refine uV2 [4,2,7,2,11,19] (fun (k:Nat) (q:(Value×List Play)×(Value×List Play))=>[(11,.int .i64 k),(4,.raw q.1.1),(5,.raw q.2.1)]) (fun (k:Nat) (q:(Value×List Play)×(Value×List Play))=>[St b l (a+k),.arr q.1.1 9 (q.1.2.map zu),.arr q.2.1 9 (q.2.2.map zu)]) (fun (k:Nat) (q:(Value×List Play)×(Value×List Play))=>k<=L.length/\(Half q.1.2 q.2.2 (L.take k))) (fun (k:Nat) (q:(Value×List Play)×(Value×List Play))=>L.length-k) (0) (((.slice none 0 0,[]),(.slice none 0 0,[]))) ?_ ?_ ?_ ?_
 ·exact ⟨Ad _,Half.nil⟩
 ·exact ⟨rfl,rfl,rfl,trivial⟩
 ·exact by exact (List.Perm.swap _ _ _).trans ((List.Perm.cons _ (List.Perm.swap _ _ _)).trans (List.Perm.swap _ _ _))
 ·intro k q hinv
  obtain ⟨hk,hh⟩:=hinv;obtain ⟨⟨ua,A⟩,⟨ub,B0⟩⟩:=q;dsimp only at hh⊢;refine gz4 ?_;refine uCo (fun h1=> ?_) fun h2=> ?_
  ·obtain ⟨x,hx⟩: ∃x,L[k]? =some x:=⟨_,Aa h1⟩
   have hdx:=zi hx;refine gz5 ?_;refine dq (zl zaj zI rfl rfl rfl (by assumption)) ?_;refine gz1 ?_;refine de rfl (zq zI rfl fun b7=> ?_)
   refine de0 (zJ zI rfl rfl rfl rfl rfl ?_)
   refine gz1 ?_;refine zf (zA 7 rfl) ?_;refine gz2 ?_;refine de rfl (za (i:=0) zfF rfl (WeakL.refl _) rfl (zW uS uS) ?_)
   rintro _ _ ⟨y16,rfl,hy16,rfl⟩;refine gz7 ?_;refine uCo (fun h3=> ?_) fun h4=> ?_
   ·refine gz3 ?_;refine dq (zb (hs:=[_]) zaj zI rfl rfl (by decide) (by decide) rfl) ?_;refine de rfl (zC (i:=1) zaj zI rfl rfl rfl rfl rfl (by simp [zal,zd]) (by have:=hh.sa.length_le;have:=hh.sb.length_le;simp only [Aj,Ao,Aq,Ag] at*;omega) fun v22=> ?_)
    refine gz7 ?_;refine uCo (fun h5=> ?_) fun h6=> ?_
    ·refine gz3 ?_;refine dq (zb (hs:=[_]) zaj zI rfl rfl (by decide) (by decide) rfl) ?_;refine de rfl (zC (i:=2) zaj zI rfl rfl rfl rfl rfl (by simp [zal,zd]) (by have:=hh.sa.length_le;have:=hh.sb.length_le;simp only [Aj,Ao,Aq,Ag] at*;omega) fun v28=> ?_)
     refine gz8 ?_;exact ⟨k+1,((v22,A++[x]),(v28,B0++[x])),⟨by omega,by rw [zV hx];exact hh.both x⟩,uD,⟨rfl,rfl,rfl,trivial⟩,uK,zm (by dsimp only;simp only [Ap,As,AH];rfl)⟩
    ·refine gz7 ?_;exact ⟨k+1,((v22,A++[x]),(ub,B0)),⟨by omega,by rw [zV hx];exact hh.left x⟩,uD,⟨rfl,rfl,rfl,trivial⟩,uK,zm (by dsimp only;simp only [Ap,As,AH];rfl)⟩
   ·refine gz6 ?_;refine uCo (fun h7=> ?_) fun h8=> ?_
    ·refine gz3 ?_;refine dq (zb (hs:=[_]) zaj zI rfl rfl (by decide) (by decide) rfl) ?_;refine de rfl (zC (i:=2) zaj zI rfl rfl rfl rfl rfl (by simp [zal,zd]) (by have:=hh.sa.length_le;have:=hh.sb.length_le;simp only [Aj,Ao,Aq,Ag] at*;omega) fun v28=> ?_)
     refine gz8 ?_;exact ⟨k+1,((ua,A),(v28,B0++[x])),⟨by omega,by rw [zV hx];exact hh.right x⟩,uD,⟨rfl,rfl,rfl,trivial⟩,uK,zm (by dsimp only;simp only [Ap,As,AH];rfl)⟩
    ·refine gz7 ?_
     exfalso
     omega
  ·have hnk:L.length<=k:=by omega
   obtain rfl:k=L.length:=by omega
   rw [Al] at hh;refine gz2 ?_;refine zM ?_;refine gz9 ?_;exact zag (zaP 4 (i:=1) rfl rfl) rfl ⟨ub,A,B0,rfl,hh,rfl⟩
end
end Go.Proofs.YtbbpommdmnjfmaaGreatDoor
namespace Go.HL
section
open Op
structure HalfG {α:Type} (a b l:List α):Prop where
 sa:List.Sublist a l
 sb:List.Sublist b l
theorem HalfG.nil {α:Type}:HalfG ([]:List α) [] []:=⟨AZ _,AZ _⟩
theorem HalfG.both {α:Type} {a b l:List α} (h:HalfG a b l) (x:α):HalfG (a++[x]) (b++[x]) (l++[x]):=
 ⟨h.sa.append (AZ _),h.sb.append (AZ _)⟩
theorem HalfG.left {α:Type} {a b l:List α} (h:HalfG a b l) (x:α):HalfG (a++[x]) b (l++[x]):=
 ⟨h.sa.append (AZ _),h.sb.trans (BD _ _)⟩
theorem HalfG.right {α:Type} {a b l:List α} (h:HalfG a b l) (x:α):HalfG a (b++[x]) (l++[x]):=
 ⟨h.sa.trans (BD _ _),h.sb.append (AZ _)⟩
abbrev MvS:={m:MoveS//MovB m}
abbrev zdd (x:MvS):HVal:=zaS x.1
def zvF (x y:MvS):Int:=zdl x.1 y.1
theorem ztR:Cmp zvF fun _=>True:=zot
end
end Go.HL
namespace Go.Proofs.YtbbpommdmnjfmaaGreatDoor
set_option maxRecDepth 100000
set_option linter.unusedVariables false
set_option linter.unusedSimpArgs false
section
open Go.Proofs.Tryz
open Go.HL
theorem zh7 [Tracks] {b:Nat} {l:List Int} {a:Nat} {L:List MoveS} (ha:a<=700000) (hL:L.length<=100):Con prog 69 [pAt b,zbB L] [St b l a] (fun x M'=> ∃u A B,x= .tup [zbB A,.raw u]/\HalfG A B L/\M'=[St b l (a+L.length),.arr u 4 (B.map zaS)]):=by
 refine uOb func69 ntmps69 ?_;refine gz4 ?_;refine zf (zG 4) ?_;refine zf (zG 4) ?_;refine gz7 ?_;refine uV2 [4,2,7,2,11,19] (fun (k:Nat) (q:(Value×List MoveS)×(Value×List MoveS))=>[(11,.int .i64 k),(4,.raw q.1.1),(5,.raw q.2.1)]) (fun (k:Nat) (q:(Value×List MoveS)×(Value×List MoveS))=>[St b l (a+k),.arr q.1.1 4 (q.1.2.map zaS),.arr q.2.1 4 (q.2.2.map zaS)]) (fun (k:Nat) (q:(Value×List MoveS)×(Value×List MoveS))=>k<=L.length/\(HalfG q.1.2 q.2.2 (L.take k))) (fun (k:Nat) (q:(Value×List MoveS)×(Value×List MoveS))=>L.length-k) (0) (((.slice none 0 0,[]),(.slice none 0 0,[]))) ?_ ?_ ?_ ?_
 ·exact ⟨Ad _,HalfG.nil⟩
 ·exact ⟨rfl,rfl,rfl,trivial⟩
 ·exact by exact (List.Perm.swap _ _ _).trans ((List.Perm.cons _ (List.Perm.swap _ _ _)).trans (List.Perm.swap _ _ _))
 ·intro k q hinv
  obtain ⟨hk,hh⟩:=hinv;obtain ⟨⟨ua,A⟩,⟨ub,B0⟩⟩:=q;dsimp only at hh⊢;refine gz4 ?_;refine uCo (fun h1=> ?_) fun h2=> ?_
  ·obtain ⟨x,hx⟩: ∃x,L[k]? =some x:=⟨_,Aa h1⟩
   have hdx:=zi hx;refine gz5 ?_;refine dq (zl zaZ zaR rfl rfl rfl (by assumption)) ?_;refine gz1 ?_;refine de rfl (zq zaR rfl fun b7=> ?_)
   refine de0 (zJ zaR rfl rfl rfl rfl rfl ?_)
   refine gz1 ?_;refine zf (zA 7 rfl) ?_;refine gz2 ?_;refine de rfl (za (i:=0) zfF rfl (WeakL.refl _) rfl (zW uS uS) ?_)
   rintro _ _ ⟨y16,rfl,hy16,rfl⟩;refine gz7 ?_;refine uCo (fun h3=> ?_) fun h4=> ?_
   ·refine gz3 ?_;refine dq (zb (hs:=[_]) zaZ zaR rfl rfl (by decide) (by decide) rfl) ?_;refine de rfl (zC (i:=1) zaZ zaR rfl rfl rfl rfl rfl (by simp [zal,zd]) (by have:=hh.sa.length_le;have:=hh.sb.length_le;simp only [Aj,Ao,Aq,Ag] at*;omega) fun v22=> ?_)
    refine gz7 ?_;refine uCo (fun h5=> ?_) fun h6=> ?_
    ·refine gz3 ?_;refine dq (zb (hs:=[_]) zaZ zaR rfl rfl (by decide) (by decide) rfl) ?_;refine de rfl (zC (i:=2) zaZ zaR rfl rfl rfl rfl rfl (by simp [zal,zd]) (by have:=hh.sa.length_le;have:=hh.sb.length_le;simp only [Aj,Ao,Aq,Ag] at*;omega) fun v28=> ?_)
     refine gz8 ?_;exact ⟨k+1,((v22,A++[x]),(v28,B0++[x])),⟨by omega,by rw [zV hx];exact hh.both x⟩,uD,⟨rfl,rfl,rfl,trivial⟩,uK,zm (by dsimp only;simp only [Ap,As,AH];rfl)⟩
    ·refine gz7 ?_;exact ⟨k+1,((v22,A++[x]),(ub,B0)),⟨by omega,by rw [zV hx];exact hh.left x⟩,uD,⟨rfl,rfl,rfl,trivial⟩,uK,zm (by dsimp only;simp only [Ap,As,AH];rfl)⟩
   ·refine gz6 ?_;refine uCo (fun h7=> ?_) fun h8=> ?_
    ·refine gz3 ?_;refine dq (zb (hs:=[_]) zaZ zaR rfl rfl (by decide) (by decide) rfl) ?_;refine de rfl (zC (i:=2) zaZ zaR rfl rfl rfl rfl rfl (by simp [zal,zd]) (by have:=hh.sa.length_le;have:=hh.sb.length_le;simp only [Aj,Ao,Aq,Ag] at*;omega) fun v28=> ?_)
     refine gz8 ?_;exact ⟨k+1,((ua,A),(v28,B0++[x])),⟨by omega,by rw [zV hx];exact hh.right x⟩,uD,⟨rfl,rfl,rfl,trivial⟩,uK,zm (by dsimp only;simp only [Ap,As,AH];rfl)⟩
    ·refine gz7 ?_
     exfalso
     omega
  ·have hnk:L.length<=k:=by omega
   obtain rfl:k=L.length:=by omega
   rw [Al] at hh;refine gz2 ?_;refine zM ?_;refine gz9 ?_;exact zag (zaP 4 (i:=1) rfl rfl) rfl ⟨ub,A,B0,rfl,hh,rfl⟩
theorem zh6 [Tracks] {b:Nat} {l:List Int} {a:Nat} {L:List MendS} (ha:a<=700000) (hL:L.length<=100):Con prog 71 [pAt b,zbj L] [St b l a] (fun x M'=> ∃u A B,x= .tup [zbj A,.raw u]/\HalfG A B L/\M'=[St b l (a+L.length),.arr u 7 (B.map zB)]):=by
 refine uOb func71 ntmps71 ?_;refine gz4 ?_;refine zf (zG 7) ?_;refine zf (zG 7) ?_;refine gz7 ?_;refine uV2 [4,2,7,2,11,19] (fun (k:Nat) (q:(Value×List MendS)×(Value×List MendS))=>[(11,.int .i64 k),(4,.raw q.1.1),(5,.raw q.2.1)]) (fun (k:Nat) (q:(Value×List MendS)×(Value×List MendS))=>[St b l (a+k),.arr q.1.1 7 (q.1.2.map zB),.arr q.2.1 7 (q.2.2.map zB)]) (fun (k:Nat) (q:(Value×List MendS)×(Value×List MendS))=>k<=L.length/\(HalfG q.1.2 q.2.2 (L.take k))) (fun (k:Nat) (q:(Value×List MendS)×(Value×List MendS))=>L.length-k) (0) (((.slice none 0 0,[]),(.slice none 0 0,[]))) ?_ ?_ ?_ ?_
 ·exact ⟨Ad _,HalfG.nil⟩
 ·exact ⟨rfl,rfl,rfl,trivial⟩
 ·exact by exact (List.Perm.swap _ _ _).trans ((List.Perm.cons _ (List.Perm.swap _ _ _)).trans (List.Perm.swap _ _ _))
 ·intro k q hinv
  obtain ⟨hk,hh⟩:=hinv;obtain ⟨⟨ua,A⟩,⟨ub,B0⟩⟩:=q;dsimp only at hh⊢;refine gz4 ?_;refine uCo (fun h1=> ?_) fun h2=> ?_
  ·obtain ⟨x,hx⟩: ∃x,L[k]? =some x:=⟨_,Aa h1⟩
   have hdx:=zi hx;refine gz5 ?_;refine dq (zl zak zN rfl rfl rfl (by assumption)) ?_;refine gz1 ?_;refine de rfl (zq zN rfl fun b7=> ?_)
   refine de0 (zJ zN rfl rfl rfl rfl rfl ?_)
   refine gz1 ?_;refine zf (zA 7 rfl) ?_;refine gz2 ?_;refine de rfl (za (i:=0) zfF rfl (WeakL.refl _) rfl (zW uS uS) ?_)
   rintro _ _ ⟨y16,rfl,hy16,rfl⟩;refine gz7 ?_;refine uCo (fun h3=> ?_) fun h4=> ?_
   ·refine gz3 ?_;refine dq (zb (hs:=[_]) zak zN rfl rfl (by decide) (by decide) rfl) ?_;refine de rfl (zC (i:=1) zak zN rfl rfl rfl rfl rfl (by simp [zal,zd]) (by have:=hh.sa.length_le;have:=hh.sb.length_le;simp only [Aj,Ao,Aq,Ag] at*;omega) fun v22=> ?_)
    refine gz7 ?_;refine uCo (fun h5=> ?_) fun h6=> ?_
    ·refine gz3 ?_;refine dq (zb (hs:=[_]) zak zN rfl rfl (by decide) (by decide) rfl) ?_;refine de rfl (zC (i:=2) zak zN rfl rfl rfl rfl rfl (by simp [zal,zd]) (by have:=hh.sa.length_le;have:=hh.sb.length_le;simp only [Aj,Ao,Aq,Ag] at*;omega) fun v28=> ?_)
     refine gz8 ?_;exact ⟨k+1,((v22,A++[x]),(v28,B0++[x])),⟨by omega,by rw [zV hx];exact hh.both x⟩,uD,⟨rfl,rfl,rfl,trivial⟩,uK,zm (by dsimp only;simp only [Ap,As,AH];rfl)⟩
    ·refine gz7 ?_;exact ⟨k+1,((v22,A++[x]),(ub,B0)),⟨by omega,by rw [zV hx];exact hh.left x⟩,uD,⟨rfl,rfl,rfl,trivial⟩,uK,zm (by dsimp only;simp only [Ap,As,AH];rfl)⟩
   ·refine gz6 ?_;refine uCo (fun h7=> ?_) fun h8=> ?_
    ·refine gz3 ?_;refine dq (zb (hs:=[_]) zak zN rfl rfl (by decide) (by decide) rfl) ?_;refine de rfl (zC (i:=2) zak zN rfl rfl rfl rfl rfl (by simp [zal,zd]) (by have:=hh.sa.length_le;have:=hh.sb.length_le;simp only [Aj,Ao,Aq,Ag] at*;omega) fun v28=> ?_)
     refine gz8 ?_;exact ⟨k+1,((ua,A),(v28,B0++[x])),⟨by omega,by rw [zV hx];exact hh.right x⟩,uD,⟨rfl,rfl,rfl,trivial⟩,uK,zm (by dsimp only;simp only [Ap,As,AH];rfl)⟩
    ·refine gz7 ?_
     exfalso
     omega
  ·have hnk:L.length<=k:=by omega
   obtain rfl:k=L.length:=by omega
   rw [Al] at hh;refine gz2 ?_;refine zM ?_;refine gz9 ?_;exact zag (zaP 4 (i:=1) rfl rfl) rfl ⟨ub,A,B0,rfl,hh,rfl⟩
theorem zhz [Tracks] {b:Nat} {l:List Int} {a:Nat} {L:List HealthS} (ha:a<=700000) (hL:L.length<=100):Con prog 72 [pAt b,za1 L] [St b l a] (fun x M'=> ∃u A B,x= .tup [za1 A,.raw u]/\HalfG A B L/\M'=[St b l (a+L.length),.arr u 4 (B.map zD)]):=by
 refine uOb func72 ntmps72 ?_;refine gz4 ?_;refine zf (zG 4) ?_;refine zf (zG 4) ?_;refine gz7 ?_;refine uV2 [4,2,7,2,11,19] (fun (k:Nat) (q:(Value×List HealthS)×(Value×List HealthS))=>[(11,.int .i64 k),(4,.raw q.1.1),(5,.raw q.2.1)]) (fun (k:Nat) (q:(Value×List HealthS)×(Value×List HealthS))=>[St b l (a+k),.arr q.1.1 4 (q.1.2.map zD),.arr q.2.1 4 (q.2.2.map zD)]) (fun (k:Nat) (q:(Value×List HealthS)×(Value×List HealthS))=>k<=L.length/\(HalfG q.1.2 q.2.2 (L.take k))) (fun (k:Nat) (q:(Value×List HealthS)×(Value×List HealthS))=>L.length-k) (0) (((.slice none 0 0,[]),(.slice none 0 0,[]))) ?_ ?_ ?_ ?_
 ·exact ⟨Ad _,HalfG.nil⟩
 ·exact ⟨rfl,rfl,rfl,trivial⟩
 ·exact by exact (List.Perm.swap _ _ _).trans ((List.Perm.cons _ (List.Perm.swap _ _ _)).trans (List.Perm.swap _ _ _))
 ·intro k q hinv
  obtain ⟨hk,hh⟩:=hinv;obtain ⟨⟨ua,A⟩,⟨ub,B0⟩⟩:=q;dsimp only at hh⊢;refine gz4 ?_;refine uCo (fun h1=> ?_) fun h2=> ?_
  ·obtain ⟨x,hx⟩: ∃x,L[k]? =some x:=⟨_,Aa h1⟩
   have hdx:=zi hx;refine gz5 ?_;refine dq (zl zaL zU rfl rfl rfl (by assumption)) ?_;refine gz1 ?_;refine de rfl (zq zU rfl fun b7=> ?_)
   refine de0 (zJ zU rfl rfl rfl rfl rfl ?_)
   refine gz1 ?_;refine zf (zA 7 rfl) ?_;refine gz2 ?_;refine de rfl (za (i:=0) zfF rfl (WeakL.refl _) rfl (zW uS uS) ?_)
   rintro _ _ ⟨y16,rfl,hy16,rfl⟩;refine gz7 ?_;refine uCo (fun h3=> ?_) fun h4=> ?_
   ·refine gz3 ?_;refine dq (zb (hs:=[_]) zaL zU rfl rfl (by decide) (by decide) rfl) ?_;refine de rfl (zC (i:=1) zaL zU rfl rfl rfl rfl rfl (by simp [zal,zd]) (by have:=hh.sa.length_le;have:=hh.sb.length_le;simp only [Aj,Ao,Aq,Ag] at*;omega) fun v22=> ?_)
    refine gz7 ?_;refine uCo (fun h5=> ?_) fun h6=> ?_
    ·refine gz3 ?_;refine dq (zb (hs:=[_]) zaL zU rfl rfl (by decide) (by decide) rfl) ?_;refine de rfl (zC (i:=2) zaL zU rfl rfl rfl rfl rfl (by simp [zal,zd]) (by have:=hh.sa.length_le;have:=hh.sb.length_le;simp only [Aj,Ao,Aq,Ag] at*;omega) fun v28=> ?_)
     refine gz8 ?_;exact ⟨k+1,((v22,A++[x]),(v28,B0++[x])),⟨by omega,by rw [zV hx];exact hh.both x⟩,uD,⟨rfl,rfl,rfl,trivial⟩,uK,zm (by dsimp only;simp only [Ap,As,AH];rfl)⟩
    ·refine gz7 ?_;exact ⟨k+1,((v22,A++[x]),(ub,B0)),⟨by omega,by rw [zV hx];exact hh.left x⟩,uD,⟨rfl,rfl,rfl,trivial⟩,uK,zm (by dsimp only;simp only [Ap,As,AH];rfl)⟩
   ·refine gz6 ?_;refine uCo (fun h7=> ?_) fun h8=> ?_
    ·refine gz3 ?_;refine dq (zb (hs:=[_]) zaL zU rfl rfl (by decide) (by decide) rfl) ?_;refine de rfl (zC (i:=2) zaL zU rfl rfl rfl rfl rfl (by simp [zal,zd]) (by have:=hh.sa.length_le;have:=hh.sb.length_le;simp only [Aj,Ao,Aq,Ag] at*;omega) fun v28=> ?_)
     refine gz8 ?_;exact ⟨k+1,((ua,A),(v28,B0++[x])),⟨by omega,by rw [zV hx];exact hh.right x⟩,uD,⟨rfl,rfl,rfl,trivial⟩,uK,zm (by dsimp only;simp only [Ap,As,AH];rfl)⟩
    ·refine gz7 ?_
     exfalso
     omega
  ·have hnk:L.length<=k:=by omega
   obtain rfl:k=L.length:=by omega
   rw [Al] at hh;refine gz2 ?_;refine zM ?_;refine gz9 ?_;exact zag (zaP 4 (i:=1) rfl rfl) rfl ⟨ub,A,B0,rfl,hh,rfl⟩
theorem zhy [Tracks] {b:Nat} {l:List Int} {a:Nat} {L:List ChoiceS} (ha:a<=700000) (hL:L.length<=100):Con prog 73 [pAt b,zdM L] [St b l a] (fun x M'=> ∃u A B,x= .tup [zdM A,.raw u]/\HalfG A B L/\M'=[St b l (a+L.length),.arr u 5 (B.map zk)]):=by
 refine uOb func73 ntmps73 ?_;refine gz4 ?_;refine zf (zG 5) ?_;refine zf (zG 5) ?_;refine gz7 ?_;refine uV2 [4,2,7,2,11,19] (fun (k:Nat) (q:(Value×List ChoiceS)×(Value×List ChoiceS))=>[(11,.int .i64 k),(4,.raw q.1.1),(5,.raw q.2.1)]) (fun (k:Nat) (q:(Value×List ChoiceS)×(Value×List ChoiceS))=>[St b l (a+k),.arr q.1.1 5 (q.1.2.map zk),.arr q.2.1 5 (q.2.2.map zk)]) (fun (k:Nat) (q:(Value×List ChoiceS)×(Value×List ChoiceS))=>k<=L.length/\(HalfG q.1.2 q.2.2 (L.take k))) (fun (k:Nat) (q:(Value×List ChoiceS)×(Value×List ChoiceS))=>L.length-k) (0) (((.slice none 0 0,[]),(.slice none 0 0,[]))) ?_ ?_ ?_ ?_
 ·exact ⟨Ad _,HalfG.nil⟩
 ·exact ⟨rfl,rfl,rfl,trivial⟩
 ·exact by exact (List.Perm.swap _ _ _).trans ((List.Perm.cons _ (List.Perm.swap _ _ _)).trans (List.Perm.swap _ _ _))
 ·intro k q hinv
  obtain ⟨hk,hh⟩:=hinv;obtain ⟨⟨ua,A⟩,⟨ub,B0⟩⟩:=q;dsimp only at hh⊢;refine gz4 ?_;refine uCo (fun h1=> ?_) fun h2=> ?_
  ·obtain ⟨x,hx⟩: ∃x,L[k]? =some x:=⟨_,Aa h1⟩
   have hdx:=zi hx;refine gz5 ?_;refine dq (zl zaa zR rfl rfl rfl (by assumption)) ?_;refine gz1 ?_;refine de rfl (zq zR rfl fun b7=> ?_)
   refine de0 (zJ zR rfl rfl rfl rfl rfl ?_)
   refine gz1 ?_;refine zf (zA 7 rfl) ?_;refine gz2 ?_;refine de rfl (za (i:=0) zfF rfl (WeakL.refl _) rfl (zW uS uS) ?_)
   rintro _ _ ⟨y16,rfl,hy16,rfl⟩;refine gz7 ?_;refine uCo (fun h3=> ?_) fun h4=> ?_
   ·refine gz3 ?_;refine dq (zb (hs:=[_]) zaa zR rfl rfl (by decide) (by decide) rfl) ?_;refine de rfl (zC (i:=1) zaa zR rfl rfl rfl rfl rfl (by simp [zal,zd]) (by have:=hh.sa.length_le;have:=hh.sb.length_le;simp only [Aj,Ao,Aq,Ag] at*;omega) fun v22=> ?_)
    refine gz7 ?_;refine uCo (fun h5=> ?_) fun h6=> ?_
    ·refine gz3 ?_;refine dq (zb (hs:=[_]) zaa zR rfl rfl (by decide) (by decide) rfl) ?_;refine de rfl (zC (i:=2) zaa zR rfl rfl rfl rfl rfl (by simp [zal,zd]) (by have:=hh.sa.length_le;have:=hh.sb.length_le;simp only [Aj,Ao,Aq,Ag] at*;omega) fun v28=> ?_)
     refine gz8 ?_;exact ⟨k+1,((v22,A++[x]),(v28,B0++[x])),⟨by omega,by rw [zV hx];exact hh.both x⟩,uD,⟨rfl,rfl,rfl,trivial⟩,uK,zm (by dsimp only;simp only [Ap,As,AH];rfl)⟩
    ·refine gz7 ?_;exact ⟨k+1,((v22,A++[x]),(ub,B0)),⟨by omega,by rw [zV hx];exact hh.left x⟩,uD,⟨rfl,rfl,rfl,trivial⟩,uK,zm (by dsimp only;simp only [Ap,As,AH];rfl)⟩
   ·refine gz6 ?_;refine uCo (fun h7=> ?_) fun h8=> ?_
    ·refine gz3 ?_;refine dq (zb (hs:=[_]) zaa zR rfl rfl (by decide) (by decide) rfl) ?_;refine de rfl (zC (i:=2) zaa zR rfl rfl rfl rfl rfl (by simp [zal,zd]) (by have:=hh.sa.length_le;have:=hh.sb.length_le;simp only [Aj,Ao,Aq,Ag] at*;omega) fun v28=> ?_)
     refine gz8 ?_;exact ⟨k+1,((ua,A),(v28,B0++[x])),⟨by omega,by rw [zV hx];exact hh.right x⟩,uD,⟨rfl,rfl,rfl,trivial⟩,uK,zm (by dsimp only;simp only [Ap,As,AH];rfl)⟩
    ·refine gz7 ?_
     exfalso
     omega
  ·have hnk:L.length<=k:=by omega
   obtain rfl:k=L.length:=by omega
   rw [Al] at hh;refine gz2 ?_;refine zM ?_;refine gz9 ?_;exact zag (zaP 4 (i:=1) rfl rfl) rfl ⟨ub,A,B0,rfl,hh,rfl⟩
theorem zhx [Tracks] {b:Nat} {l:List Int} {a:Nat} (ha:a<=800000):Con prog 5 [pAt b] [St b l a] (fun x M'=> ∃y:Int,x= .int .i64 y/\(-1<=y/\y<=1000000000000)/\M'=[St b l (a+1+1)]):=by
 refine uOb func5 ntmps5 ?_;refine gz6 ?_;refine dq (zb (hs:=[_,_]) zac ty3 rfl rfl (by decide) (by decide) rfl) ?_;refine de rfl (za (i:=0) za8 rfl (WeakL.refl _) rfl (zh (L:=[_,_]) uS uS uS) ?_)
 rintro _ _ ⟨y6,rfl,hy6,rfl⟩;refine dq (zb (hs:=[_,_,_,_,_,_,_,_]) zac ty3 rfl rfl (by decide) (by decide) rfl) ?_;refine de rfl (za (i:=0) za8 rfl (WeakL.refl _) rfl (zh (L:=[_,_,_,_,_,_,_,_]) uS uS uS) ?_)
 rintro _ _ ⟨y8,rfl,hy8,rfl⟩;refine gz3 ?_;exact zT rfl ⟨_,rfl,by simp at hy6 hy8;omega,rfl⟩
theorem zjO [Tracks] {A X C:List MvS} {ia ib:Int} {n b off cap:Nat} {fid:FuncId} {caps:List HVal} {c:MvS->MvS->Int} (hca:Callable prog fid) (hp: ∀x y,ConP prog fid ([zdd x,zdd y]++caps) (.int .i64 (c x y))) (hn:A.length+X.length+C.length=n) (hia:ia=(A.length:Int)) (hib:ib=(A.length:Int)+X.length) (hl:n<=1000000):Con prog 215 [.raw (.slice (some ⟨b,off,none⟩) n cap),.int .i64 ia,.int .i64 ib,.fn (.func fid) [] caps] [.arr (.slice (some ⟨b,off,none⟩) n cap) 4 ((A++X++C).map zdd)] (fun x M'=>x= .tup []/\M'=[.arr (.slice (some ⟨b,off,none⟩) n cap) 4 ((A++zX c X++C).map zdd)]):=by
 refine uOb func215 ntmps215 ?_;refine gz6 ?_;refine uV1 [8,2,12,41] (fun (k:Nat)=>[(8,.int .i64 ((A.length+k:Nat):Int))]) (fun (k:Nat)=>[.arr (.slice (some ⟨b,off,none⟩) n cap) 4 ((A++(zX c (X.take k)++X.drop k)++C).map zdd)]) (fun (k:Nat)=>1<=k) (fun (k:Nat)=>X.length-k) (1) ?_ ?_ ?_ ?_;exact Ae _;exact ⟨zg uO,trivial⟩;exact zm (by rw [zfb])
 intro k hk
 refine gz6 ?_;refine uCo (fun h1=> ?_) fun h2=> ?_
 obtain ⟨x,hx⟩: ∃x,X[k]? =some x:=⟨_,Aa uO⟩
 refine gz9 ?_;refine uV2 [9,1,18,35] (fun (D:List MvS) (B:List MvS)=>[(9,.int .i64 ((A.length+D.length:Nat):Int))]) (fun (D:List MvS) (B:List MvS)=>[.arr (.slice (some ⟨b,off,none⟩) n cap) 4 (((A++D)++x::(B++X.drop (k+1)++C)).map zdd)]) (fun (D:List MvS) (B:List MvS)=>D.length+B.length=k/\zct c x (zX c (X.take k))=zct c x D++B) (fun (D:List MvS) (B:List MvS)=>D.length) (zX c (X.take k)) ([]) ?_ ?_ ?_ ?_;exact ⟨by simp [zay];omega,by simp⟩;exact ⟨zg (by simp [zay];omega),trivial⟩;exact zm (by rw [zi hx];simp)
 intro D B hinv
 obtain ⟨hA,hB⟩:=hinv;have hlA:D.length<X.length:=by omega
 refine gz1 ?_;refine zw (fun M=>M=[.arr (.slice (some ⟨b,off,none⟩) n cap) 4 (((A++D)++x::(B++X.drop (k+1)++C)).map zdd)]) [8,13] mixed ?_;refine gz7 ?_;refine ahg 7 rfl rfl (by kernel_rfl) (by kernel_rfl) rfl (fun hc=>by
  have hq:0<D.length:=by simp at hc;omega
  exact ⟨_,OpenTo.upd (t:=24) rfl (hc) (OpenTo.upd (t:=23) rfl (hc) (OpenTo.refl _)),ze (j:=(A++D).length) zaZ zaR rfl rfl (by simp) (by simp;omega)⟩) ?_
 refine zin 8 rfl rfl (by kernel_rfl) (by kernel_rfl) (by simp) rfl rfl (fun hc=>⟨_,OpenTo.upd (t:=25) rfl (hc) (OpenTo.refl _),fun M hM=>by
  subst hM;exact zj (i:=0) (j:=(A++D).length) zaR rfl rfl rfl zci rfl rfl rfl ⟨rfl,rfl⟩
  ⟩) ?_
 refine gz2 ?_;refine ahg 11 rfl rfl (by kernel_rfl) (by kernel_rfl) rfl (fun hc=>by
  have hq:0<D.length:=by simp at hc;omega
  exact ⟨_,OpenTo.upd (t:=28) rfl (hc) (OpenTo.refl _),zdv rfl rfl uO uO⟩) ?_
 refine ahg 12 rfl rfl (by kernel_rfl) (by kernel_rfl) rfl (fun hc=>by
  have hq:0<D.length:=by simp at hc;omega
  exact ⟨_,OpenTo.upd (t:=29) rfl (hc) (OpenTo.upd (t:=27) rfl (hc) (OpenTo.refl _)),ze (j:=(A++D).length-1) zaZ zaR rfl rfl (by simp;omega) (by simp;omega)⟩) ?_
 refine zin 13 rfl rfl (by kernel_rfl) (by kernel_rfl) (by simp) rfl rfl (fun hc=>⟨_,OpenTo.upd (t:=30) rfl (hc) (OpenTo.refl _),fun M hM=>by
  have hq:0<D.length:=by simp at hc;omega
  subst hM;exact zj (i:=0) (j:=(A++D).length-1) zaR rfl rfl rfl (zf3 (by simp;omega)) rfl rfl rfl ⟨rfl,rfl⟩
  ⟩) ?_
 refine ahg 14 rfl rfl (by kernel_rfl) (by kernel_rfl) rfl (fun hc=>⟨_,OpenTo.upd (t:=31) rfl (hc) (OpenTo.upd (t:=26) rfl (hc) (OpenTo.upd (t:=22) rfl (hc) (OpenTo.refl _))),z7 hca rfl rfl (WeakL.refl _) (hp _ _)⟩) ?_;refine gz3 ?_;refine uCo (fun h3=> ?_) fun h4=> ?_
 obtain ⟨hA0,hcx⟩:=h3;obtain ⟨D1,y,rfl⟩:=zhQ (A:=D) uO;rw [zhM] at hcx;have hD1:(D1++[y]).length=D1.length+1:=by simp
 refine gz4 ?_;refine zaC (fun M=>M=[.arr (.slice (some ⟨b,off,none⟩) n cap) 4 (((A++(D1++[y]))++x::(B++X.drop (k+1)++C)).map zdd)]) [9,13] mixed ?_;refine gz8 ?_;refine uB 8 rfl (ze (j:=(A++(D1++[y])).length-1) zaZ zaR rfl rfl (by simp;omega) (by simp;omega)) ?_;refine uM 9 rfl rfl (uW (zj (i:=0) (j:=(A++(D1++[y])).length-1) zaR rfl rfl rfl (zde) rfl rfl rfl ⟨rfl,rfl⟩)) ?_;refine gz2 ?_;refine uB 12 rfl (ze (j:=(A++(D1++[y])).length) zaZ zaR rfl rfl (by simp) (by simp;omega)) ?_;refine uM 13 rfl rfl (uW (zj (i:=0) (j:=(A++(D1++[y])).length) zaR rfl rfl rfl zci rfl rfl rfl ⟨rfl,rfl⟩)) ?_;refine uB 14 rfl (ze (j:=(A++(D1++[y])).length) zaZ zaR rfl rfl (by simp) (by simp;omega)) ?_;refine uF 15 ?_;refine zF (zO (i:=0) (j:=(A++(D1++[y])).length) (y:=x) (y':=y) zaR rfl rfl rfl rfl zci rfl rfl rfl ?_)
 refine ⟨fun _=> .inr (by simp [zS,Region.binds]),?_⟩
 refine uB 16 rfl (ze (j:=(A++(D1++[y])).length-1) zaZ zaR rfl rfl (by simp;omega) (by simp;omega)) ?_;refine uF 17 ?_;refine zF (zO (i:=0) (j:=(A++(D1++[y])).length-1) (y:=y) (y':=x) zaR rfl rfl rfl rfl (by rw [AP (by simp)];exact zde) rfl rfl rfl ?_)
 refine ⟨fun _=> .inr (by simp [zS,Region.binds]),?_⟩
 refine gz8 ?_;exact ⟨D1,y::B,⟨by simp at hA⊢;omega,zhL hB hcx⟩,uD,⟨zg uO,trivial⟩,uK,zm (by rw [<-An,zhS];simp)⟩;have hins:=zhK (l:=X) (k:=k) hx hB (by intro h0;have h9:=h4 uO;rw [zfO h0] at h9;omega);refine gz2 ?_;refine zM ?_;refine gz8 ?_;exact ⟨k+1,by omega,uD,⟨zg uO,trivial⟩,uK,zm (by rw [ziY hins])⟩;have hend:zX c (X.take k)++X.drop k=zX c X:=by rw [AF uO,zz uO];simp
 refine gz2 ?_;refine zp ?_;refine gz1 ?_;exact zT rfl ⟨rfl,by rw [hend]⟩
theorem zne [Tracks] {l:List MvS} {n0:Int} {n b off cap:Nat} {fid:FuncId} {caps:List HVal} {c:MvS->MvS->Int} (hca:Callable prog fid) (hp: ∀x y,ConP prog fid ([zdd x,zdd y]++caps) (.int .i64 (c x y))) (hc:Cmp c fun _=>True) (hn:l.length=n) (hn0:n0=(n:Int)) (hl:n<=20):Con prog 105 [.raw (.slice (some ⟨b,off,none⟩) n cap),.int .i64 n0,.fn (.func fid) [] caps] [.arr (.slice (some ⟨b,off,none⟩) n cap) 4 ((l).map zdd)] (fun x M'=> ∃Z:List MvS,x= .tup []/\(Z.Perm l/\Srt c Z)/\M'=[.arr (.slice (some ⟨b,off,none⟩) n cap) 4 ((Z).map zdd)]):=by
 refine uOb func105 ntmps105 ?_;refine zaD ?_;refine uV3 [7,2,11,12] (fun (a0:Nat) (k:Nat) (Z:List MvS)=>[(7,.int .i64 (a0:Int)),(8,.int .i64 ((a0+20:Nat):Int))]) (fun (a0:Nat) (k:Nat) (Z:List MvS)=>[.arr (.slice (some ⟨b,off,none⟩) n cap) 4 ((Z++l.drop a0).map zdd)]) (fun (a0:Nat) (k:Nat) (Z:List MvS)=>a0=20*k/\a0<=n/\Blk c 20 Z/\Z.length=a0/\Z.Perm (l.take a0)) (fun (a0:Nat) (k:Nat) (Z:List MvS)=>n-a0) (0) (0) ([]) ?_ ?_ ?_ ?_
 ·exact ⟨rfl,Ad _,Blk.nil,rfl,by simp⟩
 ·exact ⟨rfl,rfl,trivial⟩
 ·exact zm (by simp)
 ·intro a0 k Z hinv
  obtain ⟨ha0,ha1,hZ,hZl,hZp⟩:=hinv;refine gz6 ?_;refine uCo (fun h1=> ?_) fun h2=> ?_
  ·refine gz3 ?_;refine zf (zP (M':=[.arr (.slice (some ⟨b,off,none⟩) n cap) 4 ((Z++(l.drop a0).take 20++l.drop (a0+20)).map zdd)]) (by rw [An Z,<-win])) ?_;refine gz5 ?_;refine de rfl (za (i:=0) zs4 rfl (WeakL.refl _) rfl (zjO (A:=Z) (X:=((l.drop a0).take 20)) (C:=(l.drop (a0+20))) (n:=n) hca hp (by first|omega|(simp;omega)) uO (by first|omega|(simp;omega)) uO) ?_)
   rintro _ _ ⟨rfl,rfl⟩;refine zcc ?_;exact ⟨a0+20,k+1,Z++zX c ((l.drop a0).take 20),⟨by omega,by omega,hZ.add (k:=k) uO (zbW hc _) (by rw [zay,Ag];omega),by rw [Af,zay,Ag,Au];omega,by rw [zcJ];exact hZp.append (zaU c _)⟩,uD,⟨zg uO,zg uO,trivial⟩,uK,Ab _⟩
  ·refine gz2 ?_;refine zbX ?_;refine gz2 ?_;refine zf (zP (M':=[.arr (.slice (some ⟨b,off,none⟩) n cap) 4 ((Z++l.drop a0++[]).map zdd)]) (by simp)) ?_;refine gz5 ?_;refine de rfl (za (i:=0) zs4 rfl (WeakL.refl _) rfl (zjO (A:=Z) (X:=(l.drop a0)) (C:=[]) (n:=n) hca hp (by first|omega|(simp;omega)) uO (by first|omega|(simp;omega)) uO) ?_)
   rintro _ _ ⟨rfl,rfl⟩;refine gz2 ?_;refine uV2 [6,4,28,35] (fun (bs:Nat) (D:List MvS)=>[(6,.int .i64 (bs:Int))]) (fun (bs:Nat) (D:List MvS)=>[.arr (.slice (some ⟨b,off,none⟩) n cap) 4 ((D).map zdd)]) (fun (bs:Nat) (D:List MvS)=>20<=bs/\bs<=2*n+20/\Blk c bs D/\D.Perm l) (fun (bs:Nat) (D:List MvS)=>n-bs) (20) (Z++zX c (l.drop a0)) ?_ ?_ ?_ ?_
   ·refine ⟨Ae _,by omega,hZ.add (k:=k) uO (zbW hc _) (by rw [zay,Au];omega),?_⟩
    have:=hZp.append (zaU c (l.drop a0))
    rwa [Am] at this
   ·exact ⟨rfl,trivial⟩
   ·exact zm (by simp)
   ·intro bs D hinv
    obtain ⟨hb1,hb2,hD,hDp⟩:=hinv;have hDl:D.length=n:=by rw [hDp.length_eq];exact hn
    refine gz6 ?_;refine zaf rfl (fun h3=> ?_) (fun h3=> ?_)
    ·exfalso
     try simp at h3
     all_goals omega
    ·try simp at h3
     refine gz2 ?_;refine zM ?_;refine gz1 ?_;have hDs:=hD.all uO;exact zT rfl ⟨D,rfl,⟨hDp,hDs⟩,rfl⟩
theorem zoy [Tracks] {v:Value} {fid:FuncId} {caps:List HVal}:Con prog 215 [.raw v,.int .i64 0,.int .i64 0,.fn (.func fid) [] caps] [.arr v 4 []] (fun x M'=>x= .tup []/\M'=[.arr v 4 []]):=by
 refine uOb func215 ntmps215 ?_;refine gz6 ?_;refine uV1 [8,2,12,41] (fun (u:Unit)=>[(8,.int .i64 1)]) (fun (u:Unit)=>[.arr v 4 []]) (fun (u:Unit)=>True) (fun (u:Unit)=>0) (()) ?_ ?_ ?_ ?_
 ·trivial
 ·exact ⟨rfl,trivial⟩
 ·exact Ab _
 ·intro u hu
  refine gz6 ?_;refine zaf rfl (fun h1=> ?_) (fun h1=> ?_)
  ·exfalso
   try simp at h1
   all_goals omega
  ·try simp at h1
   refine gz2 ?_;refine zp ?_;refine gz1 ?_;exact zT rfl ⟨rfl,rfl⟩
theorem zms [Tracks] {v:Value} {fid:FuncId} {caps:List HVal}:Con prog 105 [.raw v,.int .i64 0,.fn (.func fid) [] caps] [.arr v 4 []] (fun x M'=>x= .tup []/\M'=[.arr v 4 []]):=by
 refine uOb func105 ntmps105 ?_;refine zaD ?_;refine uV1 [7,2,11,12] (fun (u:Unit)=>[(7,.int .i64 0),(8,.int .i64 20)]) (fun (u:Unit)=>[.arr v 4 []]) (fun (u:Unit)=>True) (fun (u:Unit)=>0) (()) ?_ ?_ ?_ ?_
 ·trivial
 ·exact ⟨rfl,rfl,trivial⟩
 ·exact Ab _
 ·intro u hu
  refine gz6 ?_;refine zaf rfl (fun h1=> ?_) (fun h1=> ?_)
  ·exfalso
   try simp at h1
   all_goals omega
  ·try simp at h1
   refine gz2 ?_;refine zp ?_;refine gz7 ?_;refine de rfl (za (i:=0) zs4 rfl (WeakL.refl _) rfl zoy ?_)
   rintro _ _ ⟨rfl,rfl⟩;refine gz2 ?_;refine uV1 [6,4,28,35] (fun (u:Unit)=>[(6,.int .i64 20)]) (fun (u:Unit)=>[.arr v 4 []]) (fun (u:Unit)=>True) (fun (u:Unit)=>0) (()) ?_ ?_ ?_ ?_
   ·trivial
   ·exact ⟨rfl,trivial⟩
   ·exact Ab _
   ·intro u hu
    refine gz6 ?_;refine zaf rfl (fun h2=> ?_) (fun h2=> ?_)
    ·exfalso
     try simp at h2
     all_goals omega
    ·try simp at h2
     refine gz2 ?_;refine zp ?_;refine gz1 ?_;exact zT rfl ⟨rfl,rfl⟩
theorem zlZ [Tracks] {fid:FuncId} {caps:List HVal}:Con prog 27 [.raw (.slice none 0 0),.fn (.func fid) [] caps] [.arr (.slice none 0 0) 4 []] (fun x M'=>x= .tup []/\M'=[.arr (.slice none 0 0) 4 []]):=by
 refine uOb func27 ntmps27 ?_;refine gz3 ?_;refine dq (zar zaZ rfl) ?_;refine gz1 ?_;refine de rfl (za (i:=0) zvI rfl (WeakL.refl _) rfl zms ?_)
 rintro _ _ ⟨rfl,rfl⟩;refine gz1 ?_;exact zT rfl ⟨rfl,rfl⟩
theorem zl2 [Tracks] {l:List MvS} {n b off cap:Nat} {fid:FuncId} {caps:List HVal} {c:MvS->MvS->Int} (hca:Callable prog fid) (hp: ∀x y,ConP prog fid ([zdd x,zdd y]++caps) (.int .i64 (c x y))) (hc:Cmp c fun _=>True) (hn:l.length=n) (hl:n<=20):Con prog 27 [.raw (.slice (some ⟨b,off,none⟩) n cap),.fn (.func fid) [] caps] [.arr (.slice (some ⟨b,off,none⟩) n cap) 4 ((l).map zdd)] (fun x M'=> ∃Z:List MvS,x= .tup []/\(Z.Perm l/\Srt c Z)/\M'=[.arr (.slice (some ⟨b,off,none⟩) n cap) 4 ((Z).map zdd)]):=by
 refine uOb func27 ntmps27 ?_;refine gz3 ?_;refine dq (zar zaZ rfl) ?_;refine gz1 ?_;refine de rfl (za (i:=0) zvI rfl (WeakL.refl _) rfl (zne hca hp hc hn rfl hl) ?_)
 rintro _ _ ⟨Z,rfl,hz,rfl⟩;refine gz1 ?_;exact zT rfl ⟨Z,rfl,hz,rfl⟩
theorem zmp [Tracks] {l:List MvS} {v:Value} {fid:FuncId} {caps:List HVal} {c:MvS->MvS->Int} (hca:Callable prog fid) (hp: ∀x y,ConP prog fid ([zdd x,zdd y]++caps) (.int .i64 (c x y))) (hc:Cmp c fun _=>True) (hl:l.length<=20):Con prog 27 [.raw v,.fn (.func fid) [] caps] [.arr v 4 (l.map zdd)] fun x M'=> ∃Z:List MvS,x= .tup []/\(Z.Perm l/\Srt c Z)/\M'=[.arr v 4 (Z.map zdd)]:=
 zhH (fun h1 h2=>by
  have h3:l=[]:=by first|exact List.map_eq_nil_iff.1 h2|simpa using h2
  subst h1 h3;exact zlZ.mono fun x M' ⟨e1,e2⟩=>⟨[],e1,⟨Ab _,Srt.nil⟩,e2⟩)
  fun b off cap h1=>by
   rw [Aj] at h1;subst h1;exact zl2 hca hp hc rfl hl
theorem zoC [Tracks] {l:List MoveS} (hb: ∀x∈l,MovB x) (hl:l.length<=20) {v:Value}:
 Con prog 27 [.raw v,.fn (.func 28) [] []] [.arr v 4 (l.map zaS)] fun x M'=> ∃l':List MoveS,x= .tup []/\l'.Perm l/\M'=[.arr v 4 (l'.map zaS)]:=by
 have h:=zmp (l:=l.attachWith _ hb) (v:=v) (c:=zvF) (caps:=[]) zuN (fun x y=>zev (a:=x.1) (b:=y.1) x.2 y.2) ztR (by simpa using hl);rw [show ((l.attachWith _ hb).map zdd)=l.map zaS from zk0 hb zaS] at h;refine h.mono fun x M' ⟨l',e1,⟨hp,hw⟩,e2⟩=>⟨l'.map Subtype.val,e1,?_,?_⟩
 have h9:=hp.map Subtype.val;rw [ziC hb] at h9;exact h9;rw [e2,Bg];rfl
end
end Go.Proofs.YtbbpommdmnjfmaaGreatDoor
