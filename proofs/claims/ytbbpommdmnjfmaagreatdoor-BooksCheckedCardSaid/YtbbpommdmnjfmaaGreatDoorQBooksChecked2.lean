/- Part 2 of the proof: a program logic, contracts of functions and plain facts; no conditions. -/
import Derived.Test.YtbbpommdmnjfmaaGreatDoorQBooksChecked1
import Derived.Carry
import Derived.Ground.GgzProg
import Derived.Ground.Names2Prog
import Derived.Ground.SlgmProg
import Derived.Ground.SlmcProg
import Derived.Ground.SlsfProg
import Derived.KernelRfl
import Derived.Laws.MakeOwn
import Derived.Lib.Bytealg
import Derived.Lib.LaidTab
import Derived.OpenShut
import Derived.Shelf.SlIter.Collect
import Derived.Shelf.SlIter.Keys
import Derived.Shelf.SlIter.Sorted
import Derived.Shelf.SlMaps.Clone
import Derived.Shelf.SlSortCmp.Insertion
import Derived.Shelf.SlSortCmp.NoneTotal
import Derived.Shelf.Slices.CompactI
import Derived.Shelf.Slices.CompactS
import Derived.Shelf.Slices.Delete
import Derived.Shelf.Slices.In.SortNone
import Derived.Shelf.Sort.Plain
import Derived.Shelf.SortM.Plain
import Derived.Shelf.SortM.SortNone
import Derived.Shelf.Strconv.Atoi
import Derived.Shelf.Strconv.Itoa3
import Derived.Shelf.Strings.Prefix
import Derived.Test.YtbbpommdmnjfmaaGreatDoorProg
import Derived.WideKeyRuns
import GoSem.ClaimJoined
set_option linter.unusedVariables false
set_option linter.unusedSimpArgs false
set_option maxHeartbeats 16000000
namespace Go.HL
section
open Op (bytesLess)
def zam (a b:Int):Int:=if a<b then-1 else if b<a then 1 else 0
def orI:List Int->Int
 |[]=>0
 |x::r=>if x≠0 then x else orI r
abbrev zai (a b:Str):Int:=Lib.compareBytes a b
theorem zbr: ∀a:Str,bytesLess a a=false
 |[]=>rfl
 |x::r=>by simp [bytesLess,zbr r]
theorem zf5: ∀{a b c:Str},bytesLess a b=true->bytesLess b c=true->bytesLess a c=true
 |_,[],_,h,_=>by simp [bytesLess] at h
 |_,_::_,[],_,h=>by simp [bytesLess] at h
 |[],_::_,_::_,_,_=>by simp [bytesLess]
 |x::a,y::b,z::c,h1,h2=>by
   simp only [bytesLess,Bool.or_eq_true,decide_eq_true_eq,A9,beq_iff_eq] at h1 h2⊢
   rcases h1 with h1|⟨rfl,h1⟩
   rcases h2 with h2|⟨rfl,h2⟩
   exact .inl (UInt8.lt_trans h1 h2);exact .inl h1
   rcases h2 with h2|⟨rfl,h2⟩
   exact .inl h2;exact .inr ⟨rfl,zf5 h1 h2⟩
theorem zd9: ∀a b:Str,bytesLess a b=true\/a=b\/bytesLess b a=true
 |[],[]=> .inr (.inl rfl)
 |[],_::_=> .inl (by simp [bytesLess])
 |_::_,[]=> .inr (.inr (by simp [bytesLess]))
 |x::a,y::b=>by
   rcases UInt8.lt_or_lt_of_ne' x y with h|h|h
   exact .inl (by simp [bytesLess,h]);subst h
   rcases zd9 a b with h|h|h
   exact .inl (by simp [bytesLess,h]);exact .inr (.inl (by rw [h]));exact .inr (.inr (by simp [bytesLess,h]));exact .inr (.inr (by simp [bytesLess,h]))
where
 UInt8.lt_or_lt_of_ne' (x y:UInt8):x<y\/x=y\/y<x:=by
  rcases Bp x.toNat y.toNat with h|h|h
  exact .inl (UInt8.lt_iff_toNat_lt.2 h);exact .inr (.inl (UInt8.toNat_inj.1 h));exact .inr (.inr (UInt8.lt_iff_toNat_lt.2 h))
theorem zdo {a b:Str} (h:bytesLess a b=true):bytesLess b a=false:=by
 cases h2:bytesLess b a with
 |false=>rfl
 |true=>have:=zf5 h h2;rw [zbr] at this;cases this
theorem zg3: ∀a b:Str,zai a b=if bytesLess a b then-1 else if a=b then 0 else 1
 |[],[]=>rfl
 |[],_::_=>rfl
 |_::_,[]=>rfl
 |x::a,y::b=>by
   have ih:=zg3 a b;simp only [zai,Lib.compareBytes] at ih⊢
   by_cases h1:x<y
   simp [bytesLess,h1]
   by_cases h2:y<x
   have hne: ¬x=y:=fun e=>by subst e;exact absurd h2 h1
   simp [bytesLess,h1,h2,hne]
   have he:x=y:=by
    rcases Bp x.toNat y.toNat with h|h|h
    exact absurd (UInt8.lt_iff_toNat_lt.2 h) h1;exact UInt8.toNat_inj.1 h;exact absurd (UInt8.lt_iff_toNat_lt.2 h) h2
   subst he
   simp [bytesLess,h1,ih]
theorem zey {i j:Nat} (h:i+j<=2000000):HVal.int .i64 (IntKind.wrap .i64 ((IntKind.wrap .u64 ((i:Int)+(j:Int))).fdiv (2^min (Int.toNat 1) (IntKind.bits .u64))))= .int .i64 (((i+j)/2:Nat):Int):=by
 have h1:IntKind.wrap .u64 ((i:Int)+(j:Int))=((i+j:Nat):Int):=by simp [IntKind.wrap,IntKind.bits,IntKind.signed];omega
 have h2:min (Int.toNat 1) (IntKind.bits .u64)=1:=by decide
 rw [h1,h2];have h3:(((i+j:Nat):Int).fdiv (2^1))=(((i+j)/2:Nat):Int):=by
  rw [Int.fdiv_eq_ediv_of_nonneg _ (by decide)];rfl
 rw [h3,zjA (by omega) (by omega)]
def SortedS (l:List Str):Prop:=List.Pairwise (fun a b=>bytesLess a b=true) l
theorem SortedS.get {l:List Str} (h:SortedS l) {i j:Nat} {a b:Str} (hij:i<j) (ha:l[i]? =some a) (hb:l[j]? =some b):bytesLess a b=true:=by
 have h1:=zo ha;have h2:=zo hb;have:=List.pairwise_iff_getElem.1 h i j h1 h2 hij;rw [Aa h1] at ha;rw [Aa h2] at hb
 simp at ha hb
 rw [<-ha,<-hb];exact this
theorem zxM {l:List Str} (hs:SortedS l) {s x:Str} {m:Nat} (hx:l[m]? =some x) (h:Op.bytesLess x s=true): ∀(k:Nat) (y:Str),k<m+1->l[k]? =some y->Op.bytesLess y s=true:=fun k y hk hy=>by
 by_cases e:k=m
 subst e;rw [hx] at hy;cases hy;exact h;exact zf5 (hs.get (by omega:k<m) hy hx) h
theorem zxL {l:List Str} (hs:SortedS l) {s x:Str} {m:Nat} (hx:l[m]? =some x) (h:Op.bytesLess x s=false): ∀(k:Nat) (y:Str),m<=k->l[k]? =some y->Op.bytesLess y s=false:=fun k y hk hy=>by
 by_cases e:k=m
 subst e;rw [hx] at hy;cases hy;exact h
 cases hq:Op.bytesLess y s with
 |false=>rfl
 |true=>have:=zf5 (hs.get (by omega:m<k) hx hy) hq;rw [h] at this;cases this
def zty (l:List Str) (s:Str):Nat:=l.countP fun x=>bytesLess x s
theorem zw9 {l:List Str} {s:Str} {i:Nat} (hi:i<=l.length) (h1: ∀(k:Nat) (x:Str),k<i->l[k]? =some x->bytesLess x s=true) (h2: ∀(k:Nat) (x:Str),i<=k->l[k]? =some x->bytesLess x s=false):
 zty l s=i:=by
 unfold zty;have e:l=l.take i++l.drop i:=(Am i l).symm;rw [e,List.countP_append];have a1:(l.take i).countP (fun x=>bytesLess x s)=(l.take i).length:=by
  rw [List.countP_eq_length]
  intro x hx
  obtain ⟨k,hk,rfl⟩:=BQ hx;simp only [Ag] at hk;refine h1 k _ (by omega) ?_;rw [List.getElem_take];exact Aa (by omega)
 have a2:(l.drop i).countP (fun x=>bytesLess x s)=0:=by
  rw [List.countP_eq_zero]
  intro x hx
  obtain ⟨k,hk,rfl⟩:=BQ hx
  simp at hk
  have:=h2 (i+k) (l[i+k]) (by omega) (Aa (by omega));rw [List.getElem_drop]
  simp [this]
 rw [a1,a2]
 simp;omega
theorem zu1 {l:List Str} {s:Str} (hs:SortedS l) {i:Nat} (hi:i<=l.length) (h1: ∀(k:Nat) (x:Str),k<i->l[k]? =some x->bytesLess x s=true) (h2: ∀(k:Nat) (x:Str),i<=k->l[k]? =some x->bytesLess x s=false):
 (l[i]? ==some s)=l.contains s:=by
 rw [AS]
 simp
 constructor
 intro h;exact Ac h
 intro h
 obtain ⟨k,hk,rfl⟩:=BQ h;have hk':=Aa hk
 rcases Bp k i with h3|h3|h3
 have:=h1 k _ h3 hk';rw [zbr] at this;cases this;subst h3;exact hk';have hii:i<l.length:=by omega
 have hlt:=hs.get h3 (Aa hii) hk';have:=h2 i _ (Ae _) (Aa hii);rw [hlt] at this;cases this
def zap {α:Type} (p:α->Bool):List α->Int->Int
 |[],_=> -1
 |x::r,k=>if p x then k else zap p r (k+1)
theorem zcu {α:Type} (p:α->Bool): ∀(l:List α) (k:Int),0<=k->decide (0<=zap p l k)=l.any p
 |[],k,h=>by simp [zap]
 |x::r,k,h=>by
   have ih:=zcu p r (k+1) (by omega)
   by_cases hx:p x=true
   simp [zap,hx,h]
   have e1:zap p (x::r) k=zap p r (k+1):=by simp [zap,hx]
   rw [e1,ih];simp [hx]
end
end Go.HL
namespace Go.Proofs.YtbbpommdmnjfmaaGreatDoor
set_option maxRecDepth 100000
set_option linter.unusedVariables false
set_option linter.unusedSimpArgs false
section
open Go.Proofs.Tryz
open Go.HL
theorem zjM [Tracks] {n:Int}:ConP prog 236 [.int .i64 n] (.bool false):=by
 refine uOb func236 ntmps236 ?_;refine zaD ?_;refine zx rfl ?_
 simp
theorem zic [Tracks] {s:Str}:ConP prog 338 [.str s] (.bool false):=by
 refine uOb func338 ntmps338 ?_;refine zaD ?_;refine zx rfl ?_
 simp
theorem zZ [Tracks] {a b:Int}:ConP prog 135 [.int .i64 a,.int .i64 b] (.int .i64 (zam a b)):=by
 refine uOb func135 ntmps135 ?_;refine gz5 ?_;refine dq (uCl zwf rfl zjM) ?_;refine gz4 ?_;refine dq (uCl zwf rfl zjM) ?_;refine gz6 ?_;refine zjV rfl ?_;refine gz6 ?_;refine zjV rfl ?_;refine gz8 ?_;refine uCo (fun h1=> ?_) fun h2=> ?_
 refine gz4 ?_;refine uRp ?_;unfold zam;(repeat' split)<;>first|rfl|omega
 refine gz8 ?_;refine uCo (fun h3=> ?_) fun h4=> ?_
 refine gz4 ?_;refine uRp ?_;unfold zam;(repeat' split)<;>first|rfl|omega
 refine gz6 ?_;refine uRp ?_;unfold zam;(repeat' split)<;>first|rfl|omega
theorem zbw [Tracks] {l:List Int} (hl:l.length<=1000000):ConP prog 134 [eIs l] (.int .i64 (orI l)):=by
 refine uOb func134 ntmps134 ?_;refine zfL ?_;refine uV1 [2,1,5,1,8,9] (fun (k:Nat)=>[(8,.int .i64 k)]) (fun (k:Nat)=>[]) (fun (k:Nat)=>k<=l.length/\(orI l=orI (l.drop k))) (fun (k:Nat)=>l.length-k) (0) ?_ ?_ ?_ ?_;exact ⟨Ad _,by simp_all⟩;exact ⟨rfl,trivial⟩;exact Ab _
 intro k hinv
 obtain ⟨hk,hg⟩:=hinv;refine gz4 ?_;refine uCo (fun h1=> ?_) fun h2=> ?_
 obtain ⟨x,hx⟩: ∃x,l[k]? =some x:=⟨_,Aa h1⟩
 have hdx:=zi hx;rw [hdx] at hg;refine gz5 ?_;refine dq (zl zac ty3 rfl rfl rfl (by assumption)) ?_;refine gz8 ?_;refine uCo (fun h3=> ?_) fun h4=> ?_
 refine gz5 ?_;refine uRp ?_;rw [hg];simp_all [orI];refine gz7 ?_;refine ⟨k+1,?_,?_,⟨rfl,trivial⟩,uK,Ab _⟩
 refine ⟨by omega,?_⟩
 rw [hg];simp_all [orI]
 dsimp only;omega
 have hnk:l.length<=k:=by omega
 obtain rfl:k=l.length:=by omega
 rw [zz (Ae _)] at hg;refine gz2 ?_;refine zp ?_;refine gz7 ?_;refine uRp ?_;rw [hg];simp_all [orI]
theorem zc1 [Tracks] {l:List Int} (hl:l.length<=1000000):ConP prog 11 [eIs l] (.int .i64 (orI l)):=by
 refine uOb func11 ntmps11 ?_;refine zfL ?_;refine uV1 [2,1,5,1,8,9] (fun (k:Nat)=>[(8,.int .i64 k)]) (fun (k:Nat)=>[]) (fun (k:Nat)=>k<=l.length/\(orI l=orI (l.drop k))) (fun (k:Nat)=>l.length-k) (0) ?_ ?_ ?_ ?_;exact ⟨Ad _,by simp_all⟩;exact ⟨rfl,trivial⟩;exact Ab _
 intro k hinv
 obtain ⟨hk,hg⟩:=hinv;refine gz4 ?_;refine uCo (fun h1=> ?_) fun h2=> ?_
 obtain ⟨x,hx⟩: ∃x,l[k]? =some x:=⟨_,Aa h1⟩
 have hdx:=zi hx;rw [hdx] at hg;refine gz5 ?_;refine dq (zl zdr zds rfl rfl rfl (by assumption)) ?_;refine gz8 ?_;refine uCo (fun h3=> ?_) fun h4=> ?_
 refine gz5 ?_;refine uRp ?_;rw [hg];simp_all [orI];refine gz7 ?_;refine ⟨k+1,?_,?_,⟨rfl,trivial⟩,uK,Ab _⟩
 refine ⟨by omega,?_⟩
 rw [hg];simp_all [orI]
 dsimp only;omega
 have hnk:l.length<=k:=by omega
 obtain rfl:k=l.length:=by omega
 rw [zz (Ae _)] at hg;refine gz2 ?_;refine zp ?_;refine gz7 ?_;refine uRp ?_;rw [hg];simp_all [orI]
theorem zcw [Tracks] {l:List Int} (hl:l.length<=1000000):ConP prog 45 [eIs l] (.int .i64 (orI l)):=by
 refine uOb func45 ntmps45 ?_;refine zaD ?_;refine uV1 [2,1,4,1,7,8] (fun (k:Nat)=>[(7,.int .i64 k)]) (fun (k:Nat)=>[]) (fun (k:Nat)=>k<=l.length/\(orI l=orI (l.drop k))) (fun (k:Nat)=>l.length-k) (0) ?_ ?_ ?_ ?_;exact ⟨Ad _,by simp_all⟩;exact ⟨rfl,trivial⟩;exact Ab _
 intro k hinv
 obtain ⟨hk,hg⟩:=hinv;refine gz4 ?_;refine uCo (fun h1=> ?_) fun h2=> ?_
 obtain ⟨x,hx⟩: ∃x,l[k]? =some x:=⟨_,Aa h1⟩
 have hdx:=zi hx;rw [hdx] at hg;refine gz5 ?_;refine dq (zl zdr zds rfl rfl rfl (by assumption)) ?_;refine gz7 ?_;refine uCo (fun h3=> ?_) fun h4=> ?_
 refine gz5 ?_;refine uRp ?_;rw [hg];simp_all [orI];refine gz7 ?_;refine ⟨k+1,?_,?_,⟨rfl,trivial⟩,uK,Ab _⟩
 refine ⟨by omega,?_⟩
 rw [hg];simp_all [orI]
 dsimp only;omega
 have hnk:l.length<=k:=by omega
 obtain rfl:k=l.length:=by omega
 rw [zz (Ae _)] at hg;refine gz2 ?_;refine zp ?_;refine gz6 ?_;refine uRp ?_;rw [hg];simp_all [orI]
theorem zgD [Tracks] {a b:Str}:ConP prog 217 [.str a,.str b] (.int .i64 (zai a b)):=by
 refine uOb func217 ntmps217 ?_;refine gz6 ?_;refine dq (ztw func278 (by kernel_rfl) (by kernel_rfl) (by kernel_rfl) (by kernel_rfl) rfl rfl rfl) ?_;refine gz3 ?_;refine zx rfl ?_
 rfl
theorem z6 [Tracks] {a b:Str}:ConP prog 107 [.str a,.str b] (.int .i64 (zai a b)):=by
 refine uOb func107 ntmps107 ?_;refine gz6 ?_;refine dq (uCl zyI rfl zgD) ?_;refine gz3 ?_;refine zx rfl ?_
 rfl
theorem zaw [Tracks] {l m:List Str} (hl:l.length<=1000000):ConP prog 158 [eSs l,eSs m] (.bool (l==m)):=by
 refine uOb func158 ntmps158 ?_;refine zbo ?_;refine uCo (fun h1=> ?_) fun h2=> ?_
 refine gz4 ?_;refine zx rfl ?_
 show HVal.bool _=_
 (congr 1;symm;rw [beq_eq_false_iff_ne];intro h;subst h;omega)
 refine gz9 ?_;refine uV1 [4,2,13,13] (fun (k:Nat)=>[(13,.int .i64 k)]) (fun (k:Nat)=>[]) (fun (k:Nat)=>k<=l.length/\(l.length=m.length/\(l==m)=(l.drop k==m.drop k))) (fun (k:Nat)=>l.length-k) (0) ?_ ?_ ?_ ?_;refine ⟨Ad _,?_,rfl⟩
 omega
 exact ⟨rfl,trivial⟩;exact Ab _
 intro k hinv
 obtain ⟨hk,hg⟩:=hinv;refine gz4 ?_;refine uCo (fun h3=> ?_) fun h4=> ?_
 obtain ⟨x,hx⟩: ∃x,l[k]? =some x:=⟨_,Aa h3⟩
 have hdx:=zi hx;obtain ⟨y,hy⟩: ∃y,m[k]? =some y:=⟨_,Aa uO⟩
 rw [hdx,zi hy] at hg;refine gz8 ?_;refine zw (fun _=>True) [] mixed ?_;refine gz2 ?_;refine uB 2 rfl (zl zH ty9 rfl rfl rfl (by assumption)) ?_;refine gz3 ?_;refine uB 6 rfl (zl zH ty9 rfl rfl rfl (by assumption)) ?_;refine gz3 ?_;refine uCo (fun h5=> ?_) fun h6=> ?_
 refine gz4 ?_;refine zx rfl ?_
 show HVal.bool _=_
 (rw [hg.2];simp_all)
 refine gz7 ?_;refine ⟨k+1,?_,?_,⟨rfl,trivial⟩,uK,Ab _⟩
 refine ⟨by omega,hg.1,?_⟩
 rw [hg.2];simp_all
 dsimp only;omega
 have hnk:l.length<=k:=by omega
 obtain rfl:k=l.length:=by omega
 rw [zz (Ae _)] at hg;refine gz2 ?_;refine zp ?_;refine gz6 ?_;refine zx rfl ?_
 show HVal.bool _=_
 (rw [hg.2];simp_all)
end
end Go.Proofs.YtbbpommdmnjfmaaGreatDoor
namespace Go.HL
section

end
section

end
section

end
section
def asciiSet (l:List UInt8):List HVal:=(List.range 256).map fun i=> .bool (l.contains (UInt8.ofNat i))
theorem zdE (l:List UInt8):(asciiSet l).length=256:=by simp [asciiSet]
theorem zl9 (l:List UInt8) (c:UInt8):(asciiSet l)[c.toNat]? =some (.bool (l.contains c)):=by
 have:=c.toNat_lt
 simp [asciiSet,BP,this]
theorem zoI {α:Type} (f:α->Bool): ∀l:List α,zal (l.map fun i=> .bool (f i))=true
 |[]=>rfl
 |x::l=>by simp only [As,zal];exact zoI f l
theorem zqs (l:List UInt8):zal (asciiSet l)=true:=zoI _ _
theorem zrd (l:List UInt8) (c:UInt8):zaW (asciiSet l) (0+c.toNat*1) [.bool true]=asciiSet (l++[c]):=by
 have hc:=c.toNat_lt;have hl:0+c.toNat*1=c.toNat:=by omega
 rw [hl]
 apply List.ext_getElem?
 intro i
 have hlen:=zdE l;simp only [zaW,B8]
 by_cases hi:i<c.toNat
 rw [Ax (by simp;omega),Ax (by simp [hlen];omega),AD hi];have h256:i<256:=by omega
 have hne:UInt8.ofNat i≠c:=fun h=>by
  have:=congrArg UInt8.toNat h;rw [UInt8.toNat_ofNat_of_lt' (by simpa [UInt8.size] using h256)] at this;omega
 simp [asciiSet,BP,h256,hne]
 by_cases he:i=c.toNat
 subst he;rw [Ax (by simp [hlen];omega),Ay (by simp [hlen];omega)];rw [zl9]
 simp [hlen,Nat.min_eq_left (Nat.le_of_lt hc)]
 rw [Ay (by simp [hlen];omega),AI];have e1:c.toNat+1+(i-((asciiSet l).take c.toNat++[HVal.bool true]).length)=i:=by simp [hlen];omega
 rw [e1]
 by_cases h256:i<256
 have hne:UInt8.ofNat i≠c:=fun h=>by
  have:=congrArg UInt8.toNat h;rw [UInt8.toNat_ofNat_of_lt' (by simpa [UInt8.size] using h256)] at this;omega
 simp [asciiSet,BP,h256,hne]
 rw [AR (by rw [zdE];omega),AR (by rw [zdE];omega)]
def zdp (p:UInt8->Bool) (s:Str):Str:=(s.reverse.dropWhile p).reverse
theorem zf6 (p:UInt8->Bool) (s:Str) (c:UInt8):zdp p (s++[c])=if p c then zdp p s else s++[c]:=by
 unfold zdp;rw [List.reverse_append];simp only [List.reverse_cons,List.reverse_nil,Bn,Bv,Bb]
 split<;>simp
theorem zt1 (p:UInt8->Bool): ∀s:Str,(s.dropWhile p).length<=s.length
 |[]=>Ae _
 |x::s=>by
   rw [Bb]
   split
   exact Nat.le_succ_of_le (zt1 p s);exact Ae _
theorem zql (p:UInt8->Bool) (s:Str):(zdp p s).length<=s.length:=by
 unfold zdp;rw [List.length_reverse];have:=zt1 p s.reverse
 rwa [List.length_reverse] at this
theorem zt2 (p:UInt8->Bool): ∀s:Str,s.dropWhile p=[]->∀c∈s,p c=true
 |[],_,c,h=>by cases h
 |x::s,h,c,hc=>by
   rw [Bb] at h
   by_cases hx:p x=true
   rw [if_pos hx] at h
   rcases List.mem_cons.1 hc with rfl|hc
   exact hx;exact zt2 p s h c hc;rw [if_neg hx] at h;cases h
theorem zvz (p:UInt8->Bool) (s:Str):((zdp p s).dropWhile p==[])=s.all p:=by
 induction s using List.reverseRecOn' with
 |nil=>rfl
 |snoc s c ih=>
   rw [zf6]
   by_cases hc:p c=true
   rw [if_pos hc,ih];simp [hc];rw [if_neg hc];have:(s++[c]).all p=false:=by simp [hc]
   rw [this]
   cases hd:(s++[c]).dropWhile p with
   |nil=>exact absurd (zt2 _ _ hd c (by simp)) hc
   |cons _ _=>rfl
where
 List.reverseRecOn' {motive:Str->Prop} (nil:motive []) (snoc: ∀s c,motive s->motive (s++[c])) (l:Str):motive l:=by
  have: ∀n (l:Str),l.length=n->motive l:=by
   intro n
   induction n with
   |zero=>intro l h;rw [List.length_eq_zero_iff.1 h];exact nil
   |succ n ih=>
     intro l h
     have hne:l≠[]:=fun h0=>by subst h0;simp at h
     rw [<-Br hne];exact snoc _ _ (ih _ (by simp [h]))
  exact this l.length l rfl
def zgv:Str:=[97,98,99,100,101,102,103,104,105,106,107,108,109,110,111,112,113,114,115,116,117,118,119,120,121,122,48,49,50,51,52,53,54,55,56,57,45,95]
def zi1:Str:=[97,98,99,100,101,102,103,104,105,106,107,108,109,110,111,112,113,114,115,116,117,118,119,120,121,122]
theorem zq9 {p:UInt8->Bool} (h:(List.range 256).all (fun i=>p (UInt8.ofNat i))=true) (c:UInt8):p c=true:=by
 have:=List.all_eq_true.1 h c.toNat (List.mem_range.2 c.toNat_lt)
 simpa using this
theorem zuY (c:UInt8):zgv.contains c=zgw c:=by
 have:=zq9 (p:=fun c=>zgv.contains c==zgw c) (by kernel_rfl) c
 simpa using this
theorem zo5 (c:UInt8):decide (0<=Lib.indexByte zi1 c)=(decide (97<=c.toNat)&&decide (c.toNat<=122)):=by
 have:=zq9 (p:=fun c=>decide (0<=Lib.indexByte zi1 c)==(decide (97<=c.toNat)&&decide (c.toNat<=122))) (by kernel_rfl) c
 simpa using this
theorem zwR (s:Str):key s=((!(out s.length 1 40)&&((zdp (zgv.contains ·) s).dropWhile (zgv.contains ·)==[]))&&decide (0<=Lib.indexByte zi1 (s.headD 0))):=by
 rw [zvz,zo5];have:(fun x=>zgv.contains x)=zgw:=funext zuY;rw [this];unfold key zjX
 cases s with
 |nil=>simp [out]
 |cons x r=>
   simp only [List.headD_cons];have h1:(!(out ((x::r).length:Int) 1 40))=decide ((x::r).length<=40):=by
    simp only [out,Ao];rw [AS];simp;omega
   rw [h1];have h2:((x::r) !=[])=true:=rfl;rw [h2];have hb: ∀a b c d:Bool,(true&&a&&c&&d&&b)=(a&&b&&(c&&d)):=by decide
   exact hb _ _ _ _
theorem ztr (n:Int):(if out n 0 345686399999 then (1:Int) else 0)=if zau n then 0 else 1:=by
 have:out n 0 345686399999= !(zau n):=by
  simp only [out,zau];rw [AS];simp;try omega
 rw [this];cases zau n<;>rfl
end
section

end
section
open Op (bytesLess)
theorem zjS (a b:Int):zam a b= -zam b a:=by
 unfold zam;split<;>split<;>(try split)<;>omega
theorem zfG (a b:Str):zai a b= -zai b a:=by
 rw [zg3,zg3]
 rcases zd9 a b with h|h|h
 have hne:a≠b:=fun e=>by subst e;rw [zbr] at h;cases h
 simp [h,zdo h,hne.symm]
 subst h;simp [zbr];have hne:a≠b:=fun e=>by subst e;rw [zbr] at h;cases h
 simp [h,zdo h,hne]
theorem zrK (a b:Int):orI [-a,-b]= -orI [a,b]:=by
 by_cases h1:a=0<;>by_cases h2:b=0<;>simp [orI,h1,h2]
end
section
section
variable {α:Type} (c:α->α->Int)
def zls (x:α):List α->List α
 |[]=>[x]
 |y::t=>if c x y<0 then y::zls x t else x::y::t
def zct (x:α) (S:List α):List α:=(zls c x S.reverse).reverse
def zX (l:List α):List α:=l.foldl (fun S x=>zct c x S) []
theorem zvd (x:α):zct c x []=[x]:=rfl
theorem zqd (x y:α) (S:List α):zct c x (S++[y])=if c x y<0 then zct c x S++[y] else S++[y,x]:=by
 unfold zct;rw [List.reverse_append];simp only [List.reverse_cons,List.reverse_nil,Bn,Bv,zls]
 split<;>simp
theorem zoL (l:List α) (x:α):zX c (l++[x])=zct c x (zX c l):=by simp [zX,List.foldl_append]
theorem zmE (x:α): ∀l,(zls c x l).Perm (x::l)
 |[]=> .refl _
 |y::t=>by
   simp only [zls];split
   ·exact ((zmE x t).cons y).trans (.swap _ _ _)
   ·exact .refl _
theorem zub (x:α) (S:List α):(zct c x S).Perm (x::S):=by
 unfold zct;exact (List.reverse_perm _).trans ((zmE c x _).trans ((List.reverse_perm S).cons x))
theorem zoJ: ∀(l S:List α),(l.foldl (fun S x=>zct c x S) S).Perm (S++l)
 |[],S=>by simp
 |x::l,S=>by
   simp only [Cc];refine (zoJ l _).trans ?_;refine ((zub c x S).append_right l).trans ?_;exact (List.perm_middle (a:=x) (l₁:=S) (l₂:=l)).symm
theorem zaU (l:List α):(zX c l).Perm l:=by
 have:=zoJ c l []
 simpa [zX] using this
theorem zay (l:List α):(zX c l).length=l.length:=(zaU c l).length_eq
theorem zg5 {l:List α} {x:α}:x∈zX c l↔x∈l:=(zaU c l).mem_iff
structure Cmp (s:α->Prop):Prop where
 flip: ∀x y,s x->s y->(c x y<0↔0<c y x)
 trans: ∀x y z,s x->s y->s z->c x y<=0->c y z<=0->c x z<=0
variable {c}
theorem znp {s:α->Prop} (hc:Cmp c s) {x:α} (hx:s x): ∀{l:List α},(∀y∈l,s y)->l.Pairwise (fun a b=>c b a<=0)->(zls c x l).Pairwise (fun a b=>c b a<=0)
 |[],_,_=>by simp [zls]
 |y::t,hs,hp=>by
   have hy:=hs y (by simp);have ht: ∀z∈t,s z:=fun z hz=>hs z (AK _ hz)
   obtain ⟨h1,h2⟩:=List.pairwise_cons.1 hp;simp only [zls]
   split
   rename_i hlt
   refine List.pairwise_cons.2 ⟨fun z hz=> ?_,znp hc hx ht h2⟩
   rcases List.mem_cons.1 ((zmE c x t).mem_iff.1 hz) with rfl|hz
   omega
   exact h1 z hz
   rename_i hge
   have hyx:c y x<=0:=by
    have:=(hc.flip x y hx hy)
    omega
   refine List.pairwise_cons.2 ⟨fun z hz=> ?_,hp⟩
   rcases List.mem_cons.1 hz with rfl|hz
   exact hyx;exact hc.trans z y x (ht z hz) hy hx (h1 z hz) hyx
theorem zsc {s:α->Prop} (hc:Cmp c s) {x:α} (hx:s x) {l:List α} (hs: ∀y∈l,s y) (hp:l.Pairwise (fun a b=>c a b<=0)):(zct c x l).Pairwise (fun a b=>c a b<=0):=by
 unfold zct;rw [List.pairwise_reverse];exact znp hc hx (fun y hy=>hs y (List.mem_reverse.1 hy)) (List.pairwise_reverse.2 hp)
theorem zjs {s:α->Prop} (hc:Cmp c s) {l:List α} (hs: ∀y∈l,s y):(zX c l).Pairwise (fun a b=>c a b<=0):=by
 have key: ∀(n:Nat),n<=l.length->(zX c (l.take n)).Pairwise (fun a b=>c a b<=0):=by
  intro n
  induction n with
  |zero=>intro _;simp [zX]
  |succ n ih=>
    intro hn
    have hx:=Aa (l:=l) (i:=n) (by omega);rw [zV hx,zoL];exact zsc hc (hs _ (Ac hx)) (fun y hy=>hs y (Bh ((zaU c _).mem_iff.1 hy))) (ih (by omega))
 have:=key l.length (Ae _)
 rwa [Al] at this
end
end
section
abbrev pAt (b:Nat):HVal:= .raw (.pointer (some ⟨b,0,none⟩))
abbrev St (b:Nat) (l:List Int) (a:Nat):MObj:= .cells b [.slice 1 (l.map (.int .i64)),.int .i64 (a:Int)]
def below (x n:Int):Int:=if n<1 then 0 else if x.tmod n<0 then x.tmod n+n else x.tmod n
theorem zma (x n:Int): ∃y:Nat,below x n=(y:Int)/\(y:Int)<max n 1:=by
 have h:0<=below x n/\below x n<max n 1:=by
  unfold below
  split
  omega
  have h1:=BW x (show 0<n by omega);have h2: -n<x.tmod n:=by
   have:=Int.neg_lt_tmod_of_pos' x n (by omega);exact this
  split<;>omega
 exact ⟨(below x n).toNat,by omega,by omega⟩
where
 Int.neg_lt_tmod_of_pos' (x n:Int) (h:0<n): -n<x.tmod n:=by
  rcases Int.le_total 0 x with hx|hx
  have:=Int.tmod_nonneg n hx;omega;have e:x.tmod n= -((-x).tmod n):=by rw [Int.neg_tmod];simp
  have:=BW (-x) h
  omega
theorem getI {L:List Int} {y:Nat} (h:(y:Int)<max (L.length:Int) 1) (h0:0<L.length): ∃z,L[y]? =some z/\z∈L:=
 ⟨L[y]'(by omega),Aa _,BC _⟩
theorem getS {L:List Str} {y:Nat} (h:(y:Int)<max (L.length:Int) 1) (h0:0<L.length): ∃z,L[y]? =some z/\z∈L:=
 ⟨L[y]'(by omega),Aa _,BC _⟩
theorem zrX (a b:Nat):((a:Int)).tmod (b:Int)=((a%b:Nat):Int):=by
 exact (Int.ofNat_tmod a b).symm
end
section

end
section
open Op (bytesLess)
end
section
def Sh (s:Str):Prop:=s.length<=1000000
structure KLs where
 u:Value
 out:List Keep
 lv:Value
 left:List Str
 a:Nat
structure KLok (n a:Nat) (q:KLs):Prop where
 out:q.out.length<=n
 left:q.left.length<=20
 ls: ∀s∈q.left,Sh s
 os: ∀x∈q.out,Sh x.Team/\Sh x.Player
 a:q.a<=a+2*n
theorem KLok.add {n a:Nat} {u u' lv lv':Value} {out:List Keep} {left:List Str} {a1 a2 k:Nat} {t p:Str} {rd:Int} (h:KLok n a ⟨u,out,lv,left,a1⟩) (h1:a2<=a1+2) (ht:Sh t) (hp:left[k]? =some p):
 KLok (n+1) a ⟨u',out++[⟨t,p,rd⟩],lv',left.eraseIdx k,a2⟩:=
 ⟨by have:=h.out;simp at*;omega,by have:=h.left;have:=List.length_eraseIdx_le left k;dsimp only at*;omega,fun s hs=>h.ls s (List.mem_of_mem_eraseIdx hs),fun x hx=>by
  rcases List.mem_append.1 hx with hx|hx
  exact h.os x hx
  simp at hx;subst hx;exact ⟨ht,h.ls p (Ac hp)⟩,by have:=h.a;dsimp only at*;omega⟩
theorem za7 {α:Type} {l:List α} {j:Nat} {x y:α} (h:l[j]? =some y):(l.set j x)[j]? =some x:=by
 rw [B2 (zo h)]
theorem za5 {α β:Type} {f:α->β} {l:List α} {j:Nat} {x:α} (h:l[j]? =some x):(l.map f)[j]? =some (f x):=by
 rw [Av,h];rfl
theorem ztp {α:Type} {l:List α} {j:Nat} {x y:α} (h:x∈l.set j y):x=y\/x∈l:=by
 rcases BT h with h|h
 exact .inr h;exact .inl h
structure SLs where
 u:Value
 out:List Swap
 row:List Str
 a:Nat
structure SLok (n a:Nat) (q:SLs):Prop where
 out:q.out.length<=n
 row:q.row.length<=4
 rs: ∀s∈q.row,Sh s
 os: ∀x∈q.out,Sh x.Of/\Sh x.Team
 a:q.a<=a+2*n
theorem SLok.mono {n m a:Nat} {q:SLs} (h:SLok n a q) (hm:n<=m):SLok m a q:=
 ⟨by have:=h.out;omega,h.row,h.rs,h.os,by have:=h.a;omega⟩
theorem KLok.mono {n m a:Nat} {q:KLs} (h:KLok n a q) (hm:n<=m):KLok m a q:=
 ⟨by have:=h.out;omega,h.left,h.ls,h.os,by have:=h.a;omega⟩
theorem SLok.add {n a:Nat} {u u':Value} {out:List Swap} {row:List Str} {a1 a2:Nat} {t p:Str} {rd:Int} (h:SLok n a ⟨u,out,row,a1⟩) (h1:a2<=a1+2) (ht:Sh t) (hp:Sh p):
 SLok (n+1) a ⟨u',out++[⟨rd,t,p⟩],row,a2⟩:=
 ⟨by have:=h.out;simp at*;omega,h.row,h.rs,fun x hx=>by
  rcases List.mem_append.1 hx with hx|hx
  exact h.os x hx
  simp at hx;subst hx;exact ⟨ht,hp⟩,by have:=h.a;dsimp only at*;omega⟩
end
section
open Op (bytesLess)
end
section
open Op (bytesLess)
theorem zmY {a b:Str}:zai a b<=0↔bytesLess b a=false:=by
 rw [zg3]
 rcases zd9 a b with h|h|h
 simp [h,zdo h]
 subst h;simp [zbr];have hne:a≠b:=fun e=>by subst e;rw [zbr] at h;cases h
 simp [h,zdo h,hne]
theorem zbA {a b:Str}:zai a b=0↔a=b:=by
 rw [zg3]
 rcases zd9 a b with h|h|h
 have hne:a≠b:=fun e=>by subst e;rw [zbr] at h;cases h
 simp [h,hne]
 subst h;simp [zbr];have hne:a≠b:=fun e=>by subst e;rw [zbr] at h;cases h
 simp [zdo h,hne]
theorem zhg {a b c:Str} (h1:zai a b<=0) (h2:zai b c<=0):zai a c<=0:=by
 rw [zmY] at*
 rcases zd9 a b with h|h|h
 rcases zd9 b c with h'|h'|h'
 exact zdo (zf5 h h');subst h';exact zdo h;rw [h'] at h2;cases h2;subst h;exact h2;rw [h] at h1;cases h1
theorem zcz (a b:Int):orI [a,b]=if a≠0 then a else b:=by
 simp only [orI]
 by_cases ha:a=0<;>by_cases hb:b=0<;>simp [ha,hb]
theorem zkR {a b:Int}:zam a b<=0↔a<=b:=by unfold zam;split<;>(try split)<;>omega
theorem zbf {a b:Int}:zam a b=0↔a=b:=by unfold zam;split<;>(try split)<;>omega
end
section
variable {P:Program}
section
variable {P:Program} {e:Env} {dst:Option Tmp} {ty:TypeId} {pos:String} {af:Array Edge} {g:Option (Nat×Bool)} {M:List MObj} {K:HVal->List MObj->Prop}
theorem zj [Tracks] {α:Type} {f:α->HVal} {x:Operand} {t:TypeId} {d:TD} {size bytes:Nat} {zero:Value} {i b off cap n sz j o:Nat} {es:List α} {y:α} (hf:Fits P t d size bytes zero)
 (hx:zn e x=some (.raw (.pointer (some ⟨b,o,none⟩)))) (ho':o=off+j*sz) (hm:M[i]? =some (.arr (.slice (some ⟨b,off,none⟩) n cap) sz (es.map f))) (hj:es[j]? =some y)
 (hd:d.isAgg=true) (hs:size=(zd (f y)).length) (hv:f y= .agg (zd (f y))) (hk:K (f y) M):EOp P e M ⟨dst,.load t x,ty,pos,af,g⟩ K:=
 zmv (j:=j) (f:=0) (y:=f y) hf hx (by omega) hm (by rw [Av,hj];rfl) (.inr ⟨hd,by omega,by rw [BZ,hs,Al];exact hv⟩) hk
theorem zO [Tracks] {α:Type} {f:α->HVal} {x z:Operand} {t:TypeId} {d:TD} {size bytes:Nat} {zero:Value} {i b off cap n sz j o:Nat} {es:List α} {y y':α} (hf:Fits P t d size bytes zero)
 (hx:zn e x=some (.raw (.pointer (some ⟨b,o,none⟩)))) (ho':o=off+j*sz) (hz:zn e z=some (f y')) (hm:M[i]? =some (.arr (.slice (some ⟨b,off,none⟩) n cap) sz (es.map f))) (hj:es[j]? =some y)
 (hok:zeb size (f y')=true) (hfl:zal (zd (f y'))=true) (hle:(zd (f y')).length=(zd (f y)).length)
 (hk:K .junk (M.set i (.arr (.slice (some ⟨b,off,none⟩) n cap) sz ((es.set j y').map f)))):EOp P e M ⟨dst,.store t x z,ty,pos,af,g⟩ K:=by
 have h0:=(zdR hok).1;refine z8 (j:=j) (f:=0) (y:=f y) (y':=f y') hf hx (by omega) hz hm (by rw [Av,hj];rfl) hok hfl (by omega) ?_ ?_;rw [zrS hle];rw [List.map_set] at hk;exact hk
end
theorem Sat.arr_take [Tracks] {I:Imm} {F:List MObj} {w:World} {b off n cap sz m:Nat} {es:List HVal} (hm:m<=es.length) (h:Sat P I (.arr (.slice (some ⟨b,off,none⟩) n cap) sz es::F) w):
 Sat P I (.arr (.slice (some ⟨b,off,none⟩) m cap) sz (es.take m)::F) w:=by
 obtain ⟨_,rc,el,fr,h2,h3,h4,h5,h6,h7⟩:=znA h;refine h.change (m':= .arr (.slice (some ⟨b,off,none⟩) m cap) sz (es.take m)) (fun _ _ _=>rfl) (fun c hc=> .inl hc) (by simp [MObj.blocks]) ?_ rfl rfl rfl
 have hl:(es.take m).length=m:=by simp;omega
 refine .inr ⟨b,off,cap,rc,el,fr,by rw [hl],h2,h3,fun e he=>h4 e (Bh he),by omega,h6,fun i j e c v a1 a2 a3=> ?_⟩
 have hi:=zo a1;rw [AD (by omega)] at a1;exact h7 i j e c v a1 a2 a3
theorem Ghost.take [Tracks] {e:Env} {M:List MObj} {b off n cap sz m:Nat} {es:List HVal} (hm:m<=es.length):Ghost e (.arr (.slice (some ⟨b,off,none⟩) n cap) sz es::M) e (.arr (.slice (some ⟨b,off,none⟩) m cap) sz (es.take m)::M):=
 fun _ I F tmps w h1 h2=>⟨I,.refl I,h1,h2.arr_take hm⟩
def zhY (cap off sz lo:Nat):Nat:=if cap=lo then off else off+lo*sz
section
variable {P:Program} {e:Env} {dst:Option Tmp} {ty:TypeId} {pos:String} {af:Array Edge} {g:Option (Nat×Bool)} {M:List MObj} {K:HVal->List MObj->Prop}
theorem zcf [Tracks] {x:Operand} {lo hi:Option Operand} {t el:TypeId} {size bytes sz b2:Nat} {zero z2:Value} {d:TD} {b off n cap l h:Nat}
 (hf:Fits P t (.slice el) size bytes zero) (hel:Fits P el d sz b2 z2) (hx:zn e x=some (.raw (.slice (some ⟨b,off,none⟩) n cap))) (hlo:zbL e lo 0 l) (hhi:zbL e hi n h) (h1:l<=h) (h2:h<=n) (hc:n<=cap):
 POp P e ⟨dst,.slice t x lo hi none,ty,pos,af,g⟩ (.raw (.slice (some ⟨b,zhY cap off sz l,none⟩) (h-l) (cap-l))):=
 zL fun I a w ho=>by
  have h3:=(ho.one (x:=x) (by simp [Op.operands]) hx).raw_inv;have hb:(Instr.sliceBounds true n cap (Option.map a.eval lo) (Option.map a.eval hi) none).run P w= .ok (l,h,cap) w:=
   zhr (P:=P) (e:=e) (lo:=lo) (hi:=hi) (l:=l) (h:=h) (len:=n) (cap:=cap) ho (by intro y hy;simp [Op.operands,hy]) (by intro y hy;simp [Op.operands,hy]) hlo hhi h1 h2 hc true w
  refine ⟨_,?_,.raw _ rfl⟩
  simp [execOp,Instr.sliceAt,run_underlying hf.slice,h3,Instr.slice,hb,hel.run_sizeOf,zhY]
  try (split<;>simp_all [zdD])
  try omega
theorem zc3 [Tracks] {x:Operand} {t el:TypeId} {size bytes sz b2:Nat} {zero z2:Value} {d:TD} {i b off n cap m q o c2:Nat} {es:List HVal} (m':Nat)
 (hf:Fits P t (.slice el) size bytes zero) (hel:Fits P el d sz b2 z2) (hz:z2.cells.size=sz) (hz1:z2.cells.toList.all Value.oneCell'=true)
 (hx:zn e x=some (.raw (.slice (some ⟨b,o,none⟩) q c2))) (ho':q=0\/o=off+m*sz) (hm:M[i]? =some (.arr (.slice (some ⟨b,off,none⟩) n cap) sz es)) (hmq:m+q<=cap) (hmm:m'<=m) (hme:m'<=es.length)
 (hk:K .junk (M.set i (.arr (.slice (some ⟨b,off,none⟩) m' cap) sz (es.take m')))):EOp P e M ⟨dst,.call ⟨.builtin .clear,#[x],#[t]⟩,ty,pos,af,g⟩ K:=
 EOp.of_run fun I F a w ho hs=>by
  have h1:=(ho.one (x:=x) (by simp [Op.operands,Call.operands]) hx).raw_inv;have hp:=hs.pull hm;obtain ⟨_,rc,el',fr,h2,h3,h4,h5,h6,h7⟩:=znA hp;have hrun:(execOp a.eval ⟨dst,.call ⟨.builtin .clear,#[x],#[t]⟩,ty,pos,af,g⟩).run P w=((Builtin.clear_ #[t] ty #[a.eval x]).run P w).andThen fun v w=> .ok (.value v) w:=by
   simp [execOp,resolve,invoke,builtin]
  rcases Bl q with h0|h0
  refine ⟨.tuple #[],.junk,_,w,I,?_,.refl I,hk,.junk _,?_⟩
  rw [hrun,h1,h0]
  simp [Builtin.clear_,run_underlying hf.slice]
  exact zd4 hm (hp.arr_take hme);have hso:o=off+m*sz:=by rcases ho' with h|h;omega;exact h
  have hmul:(m+q)*sz<=cap*sz:=Aw _ hmq;rw [AJ] at hmul;have hlen:(Builtin.zeroCells z2.cells q).toList.length=q*sz:=by rw [AX,zf7,hz]
  have hone: ∀v∈(Builtin.zeroCells z2.cells q).toList,v.oneCell'=true:=fun v hv=>by
   simp only [Builtin.zeroCells,Array.toList_map,List.mem_map] at hv;obtain ⟨r,hr,rfl⟩:=hv;have hq':r<q*z2.cells.size:=by simpa using hr
   have hpos:0<z2.cells.size:=by
    rcases Bl z2.cells.size with h|h
    rw [h] at hq';simp at hq';exact h
   have hlt:r%z2.cells.size<z2.cells.size:=BN _ hpos;rw [getElem!_pos z2.cells _ hlt];exact List.all_eq_true.1 hz1 _ (by simp)
  obtain ⟨w',rc',g1,g2,g3,g4,g5,g6,g7,g8,g9⟩:=zeC (P:=P) b el' fr (off+m*sz) (Builtin.zeroCells z2.cells q).toList 0 w rc h2 h3 hone (by rw [hlen];omega);refine ⟨.tuple #[],.junk,_,w',I,?_,.refl I,hk,.junk _,?_⟩
  rw [hrun,h1,hso];obtain ⟨r,rfl⟩: ∃r,q=r+1:=⟨q-1,by omega⟩
  simp [Builtin.clear_,run_underlying hf.slice,hel.run_zero,g1]
  refine zd4 hm (hp.change (m':= .arr (.slice (some ⟨b,off,none⟩) m' cap) sz (es.take m')) (fun k hk hnk=>g5 k (by simpa [MObj.blocks] using hnk)) (fun k hk=> .inl hk) (by simp [MObj.blocks]) ?_ g7 g8 g9.1 (fun _=>AV g9.2.symm))
  have hl:(es.take m').length=m':=by simp;omega
  refine .inr ⟨b,off,cap,rc',el',fr,by rw [hl],g2,by rw [g3];exact h3,fun e he=>h4 e (Bh he),by omega,by rw [g3];exact h6,fun p q' y c v a1 a2 a3=> ?_⟩
  have hi:=zo a1;rw [AD (by omega)] at a1;have hq:=zo a2;rw [h4 y (Ac a1)] at hq;have hpm:(p+1)*sz<=m*sz:=Aw _ (by omega);rw [AJ] at hpm;rw [g4,if_neg (by omega)] at a3;exact h7 p q' y c v a1 a2 a3
theorem zsg [Tracks] {I:Imm} {a:Act} {o:Oper} (ho:Opds I e a o) {lo hi:Option Operand} (hlo: ∀x,lo=some x->x∈o.op.operands) (hhi: ∀x,hi=some x->x∈o.op.operands)
 {len cap l h:Nat} (h1:zbL e lo 0 l) (h2:zbL e hi len h) (h3:l<=h) (h4:h<=cap) (b:Bool) (w:World):
 (Instr.sliceBounds b len cap (lo.map a.eval) (hi.map a.eval) none).run P w= .ok (l,h,cap) w:=by
 unfold Instr.sliceBounds
 cases lo with
 |none=>
   simp only [zbL] at h1;subst h1
   cases hi with
   |none=>simp only [zbL] at h2;subst h2;simp
   |some y=>
     obtain ⟨k,i,h6,rfl⟩:=h2;have h7:=(ho.one (hhi y rfl) h6).int_inv
     simp [h7,zcr h4]
 |some x=>
   obtain ⟨k',i',h8,rfl⟩:=h1;have h9:=(ho.one (hlo x rfl) h8).int_inv
   cases hi with
   |none=>simp only [zbL] at h2;subst h2;simp [h9,zcr h3]
   |some y=>
     obtain ⟨k,i,h6,rfl⟩:=h2;have h7:=(ho.one (hhi y rfl) h6).int_inv
     simp [h7,h9,zcr h4,zcr h3]
theorem ztx [Tracks] {x:Operand} {lo hi:Option Operand} {t el:TypeId} {size bytes sz b2:Nat} {zero z2:Value} {d:TD} {b off n cap l h:Nat}
 (hf:Fits P t (.slice el) size bytes zero) (hel:Fits P el d sz b2 z2) (hx:zn e x=some (.raw (.slice (some ⟨b,off,none⟩) n cap))) (hlo:zbL e lo 0 l) (hhi:zbL e hi n h) (h1:l<=h) (h2:h<=cap):
 POp P e ⟨dst,.slice t x lo hi none,ty,pos,af,g⟩ (.raw (.slice (some ⟨b,zhY cap off sz l,none⟩) (h-l) (cap-l))):=
 zL fun I a w ho=>by
  have h3:=(ho.one (x:=x) (by simp [Op.operands]) hx).raw_inv;have hb:(Instr.sliceBounds true n cap (Option.map a.eval lo) (Option.map a.eval hi) none).run P w= .ok (l,h,cap) w:=
   zsg (P:=P) (e:=e) (lo:=lo) (hi:=hi) (l:=l) (h:=h) (len:=n) (cap:=cap) ho (by intro y hy;simp [Op.operands,hy]) (by intro y hy;simp [Op.operands,hy]) hlo hhi h1 h2 true w
  refine ⟨_,?_,.raw _ rfl⟩
  simp [execOp,Instr.sliceAt,run_underlying hf.slice,h3,Instr.slice,hb,hel.run_sizeOf,zhY]
  try (split<;>simp_all [zdD])
  try omega
theorem zb5 [Tracks] {x:Operand} {hi:Option Operand} {t el:TypeId} {size bytes sz b2:Nat} {zero z2:Value} {d:TD} {b off n cap h:Nat}
 (hf:Fits P t (.slice el) size bytes zero) (hel:Fits P el d sz b2 z2) (hx:zn e x=some (.raw (.slice (some ⟨b,off,none⟩) n cap))) (hhi:zbL e hi n h) (h2:h<=cap):
 POp P e ⟨dst,.slice t x none hi none,ty,pos,af,g⟩ (.raw (.slice (some ⟨b,off,none⟩) h cap)):=by
 have:=ztx (P:=P) (dst:=dst) (ty:=ty) (pos:=pos) (af:=af) (g:=g) (lo:=none) (l:=0) hf hel hx rfl hhi (Ad _) h2;have e1:zhY cap off sz 0=off:=by unfold zhY;split<;>omega
 rwa [e1,Nat.sub_zero,Nat.sub_zero] at this
end
end
section
variable {P:Program}
open Go.ChangeShapes Go.WideShapes Go.RowKit
theorem zmb [Tracks] {W W':World} {J:Imm} {M:List MObj} (hl:Le (zcs W) J) (hs:Sat P J M W'):Below W.heap.size W W':=by
 have hb: ∀k,k<W.heap.size->W'.heap[k]? =W.heap[k]?:=fun k hk=>by
  have h1:W.heap[k]? =some W.heap[k]:=by simp [hk]
  rw [h1];exact hs.imm _ _ (hl.heap _ _ h1)
 exact {
  os:=hs.os.trans hl.os
  tape:=hs.tape.trans hl.tape
  output:=hs.output.trans hl.output
  size:=by
   rcases Bl W.heap.size with h|h
   omega
   have h1:=hb (W.heap.size-1) (by omega);have h2:W.heap[W.heap.size-1]? =some (W.heap[W.heap.size-1]'(by omega)):=by simp
   rw [h2] at h1
   rcases Az (W.heap.size-1) W'.heap.size with h3|h3
   omega
   rw [AB h3] at h1;cases h1
  block:=hb}
theorem zsF [Tracks] {W:World} (ht:TabI P (zcs W)):Sat P (zcs W) [] W:=⟨fun _ _ h=>h,fun _ h=>by simp at h,by simp [blocks],fun _ h=>by simp [blocks] at h,rfl,rfl,rfl,ht,fun _=>Ae _⟩
theorem zrq [Tracks] {P:Program} {f:FuncId} {l:List Int} (hc:ConP P f [.slice 1 (l.map (.int .i64))] (.bool true)) {W:World} (ht:TabI P (zcs W)) {v:Value} (hv:V (zcs W) (.slice 1 (l.map (.int .i64))) v):
 Calls P f #[v] W fun e W'=>e= .returned (.bool true)/\Below W.heap.size W W':=by
 refine (hc (zcs W) [] W [v] (VL.cons hv VL.nil) (zsF ht)).mono ?_;rintro e W' ⟨u,h,M',J,rfl,hle,⟨rfl,rfl⟩,hV,hs⟩;exact ⟨by rw [hV.bool_inv],zmb hle hs⟩
theorem zxD [Tracks] {W:World} {a:Addr} {len cap:Nat} {zs:List Int} (hcell: ∀i,i<zs.length->W.cell? (a.add i)=some (.int .i64 (zs.getD i 0))) (hl:len<=zs.length) (hc:len<=cap):
 V (zcs W) (.slice 1 ((zs.take len).map (.int .i64))) (.slice (some a) len cap):=by
 rcases Bl len with h0|h0
 subst h0;exact .slice0 _ _ _;obtain ⟨b,off,rfl,hj⟩:=ints_at hcell (by omega);have hc0:=hj 0 (by omega);unfold World.cell? at hc0
 cases hh:W.heap[b]? with
 |none=>rw [hh] at hc0;simp at hc0
 |some o=>
   cases o with
   |cells rc el fr=>
     have hrc: ∀j,j<zs.length->rc[off+j]? =some (.int .i64 (zs.getD j 0)):=fun j hj'=>by
      have:=hj j hj';unfold World.cell? at this
      simpa [hh] using this
     have hlen:((zs.take len).map (HVal.int .i64)).length=len:=by simp;omega
     have hsz:off+zs.length<=rc.size:=by
      have:=hrc (zs.length-1) (by omega)
      rcases Az (off+(zs.length-1)) rc.size with h3|h3
      omega
      rw [AB h3] at this;cases this
     have:=V.slice (I:=zcs W) (sz:=1) (es:=(zs.take len).map (.int .i64)) (b:=b) (off:=off) (cap:=cap) (rc:=rc) (el:=el) (fr:=fr) hh
      (fun e he=>by obtain ⟨n,_,rfl⟩:=List.mem_map.1 he;rfl) (by omega) (by omega) (fun i j e c v h1 h2 h3=>by
        have hi:=zo h1;rw [hlen] at hi;rw [Av,AD hi] at h1;have e1:zs[i]? =some zs[i]:=Aa (by omega);rw [e1] at h1;simp only [AT,AC] at h1;subst h1
        cases j with
        |succ j=>simp [zd] at h2
        |zero=>
          simp only [zd,A8,AC] at h2;subst h2;have h4:=hrc i (by omega);rw [Bm,BE,h4] at h3;simp only [AC] at h3;subst h3;have:zs.getD i 0=zs[i]:=by simp [List.getD,e1]
          rw [this];exact .int _ _)
     rw [hlen] at this;exact this
   |_=>rw [hh] at hc0;simp at hc0
end
section
open Go.Sort Go.Proofs Go.RowKit
variable {P:Program}
theorem zpy {w:World} {name:String} {d:DataW Unit}: ∀{laid:List (String×DataW Unit)} {ps:List MemPlace},DataW.LaidVars P w laid ps->∀(i:Nat),laid[i]? =some (name,d)->
 ∃g t cs fuel p,P.globalNamed name=some g/\(P.globals[g]?).map (·.type)=some t/\w.var? P name=some cs/\DataW.trod (fun _=>()) P w 0 (fun _=>true) false fuel t cs.toList=some (d,p)
 |[],_,_,i,h=>by simp at h
 |(n,x)::r,ps,h,0,hi=>by
   simp at hi
   obtain ⟨rfl,rfl⟩:=hi;obtain ⟨g,t,cs,fuel,p,q,h1,h2,h3,h4,_,_⟩:=h;exact ⟨g,t,cs,fuel,p,h1,h2,h3,h4⟩
 |(n,x)::r,ps,h,i+1,hi=>by
   obtain ⟨g,t,cs,fuel,p,q,_,_,_,_,h5,_⟩:=h;exact zpy h5 i (by simpa using hi)
theorem Sat.maxLen [Tracks] {I:Imm} {M:List MObj} {w:World} (hs:Sat P I M w) {g:Nat} (hg:P.globalNamed "internal/bytealg.MaxLen" =some g): ∃m,w.cell? ⟨g,0,none⟩=some (.int .i64 m):=by
 obtain ⟨c,t,fr,m,h1,h2⟩:=hs.tab.2.1 g hg;have h3:=hs.imm _ _ h1;exact ⟨m,by rw [zc8 h3];exact h2⟩
theorem Sat.utf8 [Tracks] {I:Imm} {M:List MObj} {w:World} (hs:Sat P I M w) {g3 g4:Nat} (h3:P.globalNamed "unicode/utf8.first" =some g3) (h4:P.globalNamed "unicode/utf8.acceptRanges" =some g4):
 (∀c,c<256->w.cell? ⟨g3,c,none⟩=some (.int .u8 (Lib.firstT c)))/\(∀i,i<16->w.cell? ⟨g4,2*i,none⟩=some (.int .u8 (Lib.accLo i))/\w.cell? ⟨g4,2*i+1,none⟩=some (.int .u8 (Lib.accHi i))):=by
 obtain ⟨c3,t3,f3,c4,t4,f4,e3,e4,u1,u2⟩:=hs.tab.2.2 g3 g4 h3 h4;exact ⟨fun c hc=>by rw [zc8 (hs.imm _ _ e3)];exact u1 c hc,fun i hi=>⟨by rw [zc8 (hs.imm _ _ e4)];exact (u2 i hi).1,by rw [zc8 (hs.imm _ _ e4)];exact (u2 i hi).2⟩⟩
theorem Sat.lt [Tracks] {I:Imm} {M:List MObj} {w:World} (hs:Sat P I M w):(∀b,(∃o,I.heap b=some o)->b<w.heap.size)/\∀b∈blocks M,b<w.heap.size:=by
 have key: ∀b o,w.heap[b]? =some o->b<w.heap.size:=fun b o h=>by
  rcases Az b w.heap.size with h'|h'
  exact h'
  simp [AB h'] at h
 refine ⟨fun b ⟨o,h⟩=>key b o (hs.imm b o h),fun b hb=> ?_⟩
 simp only [blocks,Bk] at hb;obtain ⟨m,hm,hb⟩:=hb;obtain ⟨o,ho⟩:=(hs.obj m hm).lies hb;exact key b o ho
end
section
section
variable {P:Program} {e:Env} {dst:Option Tmp} {ty:TypeId} {pos:String} {af:Array Edge} {g:Option (Nat×Bool)} {M:List MObj} {K:HVal->List MObj->Prop}
end
end
section
section
variable {P:Program} {e:Env} {dst:Option Tmp} {ty:TypeId} {pos:String} {af:Array Edge} {g:Option (Nat×Bool)} {M:List MObj} {K:HVal->List MObj->Prop}
theorem ztN [Tracks] {I:Imm} {c d:HVal} {u v:Value} (h1:V I c u) (h2:V I d v):V I (.tup [c,d]) (.tuple #[u,v]):=
 .tup (by simp) (fun j c v h3 h4=>(VL.cons h1 (VL.cons h2 VL.nil)).2 j c v h3 (by simpa using h4))
theorem zr8 [Tracks] {x y:Operand} {t kt et:TypeId} {size bytes s2 b2 s3 b3:Nat} {zero z2 z3:Value} {d:TD} {i b:Nat} {ls:List (List UInt8×HVal)} {s:List UInt8}
 (hf:Fits P t (.map kt et) size bytes zero) (hkt:Fits P kt .str s2 b2 z2) (het:Fits P et d s3 b3 z3) (hx:zn e x=some (.raw (.map (some b)))) (hy:zn e y=some (.str s)) (hm:M[i]? =some (.map b (sk ls)))
 (hk:K (.tup [match zat s ls with|some p=>p.2|none=>zce z3,.bool (zat s ls).isSome]) M):EOp P e M ⟨dst,.lookup t x y true,ty,pos,af,g⟩ K:=
 EOp.of_run fun I F a w ho hs=>by
  have h1:=(ho.one (x:=x) (by simp [Op.operands]) hx).raw_inv;have h2:=(ho.one (x:=y) (by simp [Op.operands]) hy).str_inv;obtain ⟨es,clk,h3,h4,h5⟩:=hs.obj _ (Ar _ (Ac hm));obtain ⟨h6,h7⟩:=zjt h4.1 h5;obtain ⟨n1,n2⟩:=zjU (I:=I) (s:=s) es.toList ls 0 h6 h7
  cases hq:zat s ls with
  |none=>
    rw [hq] at hk;refine ⟨.tuple #[z3,.bool false],_,M,w,I,?_,.refl I,hk,ztN (zkA I z3) (.bool _),hs⟩
    simp only [execOp,h1,h2,Instr.lookup,Sem.run_bind,run_underlying hf.mapD,Result.andThen_ok,zcB h3,Sem.run_pure,zdC hkt.strD,Instr.findKey,run_underlying hkt.strD,n1 hq,het.run_zero]
    simp
  |some p=>
    obtain ⟨j,h⟩:=p;rw [hq] at hk;obtain ⟨v,g1,g2⟩:=n2 j h hq;refine ⟨.tuple #[v,.bool true],_,M,w,I,?_,.refl I,hk,ztN g2 (.bool _),hs⟩
    simp only [execOp,h1,h2,Instr.lookup,Sem.run_bind,run_underlying hf.mapD,Result.andThen_ok,zcB h3,Sem.run_pure,zdC hkt.strD,Instr.findKey,run_underlying hkt.strD,g1]
    simp
end
section
variable {P:Program}
end
end
section
section
variable {κ:Type} [DecidableEq κ]
def kk (ek:κ->HVal) (l:List (κ×HVal)):List (HVal×HVal):=l.map fun p=>(ek p.1,p.2)
def zfN (x:κ):List (κ×HVal)->Option Nat
 |[]=>none
 |p::r=>if x=p.1 then some 0 else (zfN x r).map (· +1)
def klk (x:κ):List (κ×HVal)->Option HVal
 |[]=>none
 |p::r=>if x=p.1 then some p.2 else klk x r
def zeT (x:κ) (h:HVal):List (κ×HVal)->List (κ×HVal)
 |[]=>[(x,h)]
 |p::r=>if x=p.1 then (x,h)::r else p::zeT x h r
theorem zmG {x:κ}: ∀{l:List (κ×HVal)} {j:Nat},zfN x l=some j->∃h,l[j]? =some (x,h)/\klk x l=some h/\∀h',zeT x h' l=l.set j (x,h')
 |[],j,h=>by simp [zfN] at h
 |p::r,j,h=>by
   simp only [zfN] at h
   by_cases e:x=p.1
   rw [if_pos e] at h
   simp at h;subst h
   exact ⟨p.2,by simp [e],by simp [klk,e],fun h'=>by simp [zeT,e]⟩;rw [if_neg e] at h
   cases hr:zfN x r with
   |none=>rw [hr] at h;simp at h
   |some j'=>
     rw [hr] at h;simp at h;subst h;obtain ⟨y,h1,h2,h3⟩:=zmG hr;exact ⟨y,by simpa using h1,by simp [klk,e,h2],fun h'=>by simp [zeT,e,h3]⟩
theorem zmF {x:κ}: ∀{l:List (κ×HVal)},zfN x l=none->klk x l=none/\∀h',zeT x h' l=l++[(x,h')]
 |[],_=>⟨rfl,fun _=>rfl⟩
 |p::r,h=>by
   simp only [zfN] at h
   by_cases e:x=p.1
   rw [if_pos e] at h;simp at h;rw [if_neg e] at h;have hr:zfN x r=none:=by cases hq:zfN x r with|none=>rfl|some j=>rw [hq] at h;simp at h
   obtain ⟨h1,h2⟩:=zmF hr;exact ⟨by simp [klk,e,h1],fun h'=>by simp [zeT,e,h2]⟩
def KNodup (l:List (κ×HVal)):Prop:=(l.map (·.1)).Nodup
theorem zqe {x y:κ} {h:HVal}: ∀{l:List (κ×HVal)},y∈(zeT x h l).map (·.1)↔y=x\/y∈l.map (·.1)
 |[]=>by simp [zeT]
 |p::r=>by
   simp only [zeT]
   split
   rename_i e;subst e;simp
   simp only [As,BG,zqe]
   constructor
   rintro (a|a|a);exact .inr (.inl a);exact .inl a;exact .inr (.inr a);rintro (a|a|a);exact .inr (.inl a);exact .inl a;exact .inr (.inr a)
theorem KNodup.put {x:κ} {h:HVal}: ∀{l:List (κ×HVal)},KNodup l->KNodup (zeT x h l)
 |[],_=>by simp [KNodup,zeT]
 |p::r,hn=>by
   unfold KNodup at*;simp only [As,Ce] at hn;simp only [zeT]
   split
   rename_i e;subst e;simpa using hn
   rename_i e
   simp only [As,Ce];refine ⟨fun q=> ?_,KNodup.put (l:=r) hn.2⟩
   rcases zqe.1 q with q|q
   exact e q.symm;exact hn.1 q
structure KeyOk (P:Program) (kt:TypeId) (ek:κ->HVal):Prop where
 check: ∀(I:Imm) (x:κ) (v:Value) (b:Bool) (w:World),V I (ek x) v->(Instr.checkKey b 10000 kt v).run P w= .ok () w
 eq: ∀(I:Imm) (x y:κ) (u v:Value) (w:World),V I (ek x) u->V I (ek y) v->(Op.equal kt u v).run P w= .ok (decide (x=y)) w
 find: ∀(I:Imm) (x:κ) (v:Value) (es:List MapEntry) (w:World),V I (ek x) v->(∀m∈es,∃y,V I (ek y) m.key)->(Instr.findKey kt v es).run P w=(Instr.findAsking kt v es).run P w
 same: ∀(I:Imm) (x:κ) (u v:Value),V I (ek x) u->V I (ek x) v->Instr.sameBits 10000 u v=true
variable {P:Program} {kt:TypeId} {ek:κ->HVal}
theorem KeyOk.run_key (ok:KeyOk P kt ek) {I:Imm} {x:κ} {v:Value} (hv:V I (ek x) v) (w:World) (es:List MapEntry) (ls:List (κ×HVal)) (hl:es.length=ls.length)
 (hV: ∀(j:Nat) (p:κ×HVal) (m:MapEntry),ls[j]? =some p->es[j]? =some m->V I (ek p.1) m.key/\V I p.2 m.val):(Instr.findKey kt v es).run P w=(Instr.findAsking kt v es).run P w:=
 ok.find I x v es w hv fun m hm=>by
  obtain ⟨j,hj⟩:=AO hm;have h1:=zo hj;exact ⟨_,(hV j _ m (Aa (by omega)) hj).1⟩
theorem zn7 (ok:KeyOk P kt ek) {I:Imm} {x:κ} {v:Value} (hv:V I (ek x) v) (w:World): ∀(es:List MapEntry) (ls:List (κ×HVal)) (i:Nat),es.length=ls.length->
 (∀(j:Nat) (p:κ×HVal) (m:MapEntry),ls[j]? =some p->es[j]? =some m->V I (ek p.1) m.key/\V I p.2 m.val)->
 (zfN x ls=none->(Instr.findAsking kt v es i).run P w= .ok none w)/\∀j,zfN x ls=some j->∃m h,es[j]? =some m/\ls[j]? =some (x,h)/\V I h m.val/\(Instr.findAsking kt v es i).run P w= .ok (some (i+j,m.val)) w
 |[],[],i,_,_=>⟨fun _=>by simp [Instr.findAsking],fun j h=>by simp [zfN] at h⟩
 |[],_::_,i,hl,_=>by simp at hl
 |_::_,[],i,hl,_=>by simp at hl
 |m::es,p::ls,i,hl,hV=>by
   obtain ⟨h1,h2⟩:=hV 0 p m rfl rfl;obtain ⟨ih1,ih2⟩:=zn7 ok hv w es ls (i+1) (by simpa using hl) fun j q n a b=>hV (j+1) q n (by simpa using a) (by simpa using b)
   simp only [Instr.findAsking,Sem.run_bind,ok.eq I x p.1 v m.key w hv h1,Result.andThen_ok,zfN]
   by_cases e:x=p.1
   rw [if_pos e];simp only [e,decide_true,if_true,Sem.run_pure];refine ⟨fun h=>by simp at h,fun j h=> ?_⟩
   simp at h;subst h
   exact ⟨m,p.2,rfl,by simp,h2,by simp⟩;rw [if_neg e];simp only [e,decide_false,AQ,if_false];refine ⟨fun h=>ih1 (by cases hq:zfN x ls with|none=>rfl|some j=>rw [hq] at h;simp at h),fun j h=> ?_⟩
   cases hq:zfN x ls with
   |none=>rw [hq] at h;simp at h
   |some j'=>
     rw [hq] at h;simp at h;subst h;obtain ⟨n,y,g1,g2,g3,g4⟩:=ih2 j' hq;exact ⟨n,y,by simpa using g1,by simpa using g2,g3,by rw [g4];congr 3;omega⟩
theorem zud {A:Type} {eA:A->HVal} {I:Imm} {ls:List (A×HVal)} {es:Array MapEntry} (hl:es.size=(kk eA ls).length)
 (hv: ∀(i:Nat) (p:HVal×HVal) (m:MapEntry),(kk eA ls)[i]? =some p->es[i]? =some m->V I p.1 m.key/\V I p.2 m.val):
 es.toList.length=ls.length/\∀(j:Nat) (p:A×HVal) (m:MapEntry),ls[j]? =some p->es.toList[j]? =some m->V I (eA p.1) m.key/\V I p.2 m.val:=by
 refine ⟨by simpa [kk] using hl,fun j p m a b=> ?_⟩
 exact hv j (eA p.1,p.2) m (by simp [kk,a]) (by simpa using b)
variable [Tracks] {e:Env} {dst:Option Tmp} {ty:TypeId} {pos:String} {af:Array Edge} {g:Option (Nat×Bool)} {M:List MObj} {K:HVal->List MObj->Prop}
theorem zr9 {x y:Operand} {t et:TypeId} {size bytes s3 b3:Nat} {zero z3:Value} {d:TD} {i b:Nat} {ls:List (κ×HVal)} {s:κ}
 (hf:Fits P t (.map kt et) size bytes zero) (ok:KeyOk P kt ek) (het:Fits P et d s3 b3 z3) (hx:zn e x=some (.raw (.map (some b)))) (hy:zn e y=some (ek s)) (hm:M[i]? =some (.map b (kk ek ls)))
 (hk:K ((klk s ls).getD (zce z3)) M):EOp P e M ⟨dst,.lookup t x y false,ty,pos,af,g⟩ K:=
 EOp.of_run fun I F a w ho hs=>by
  have h1:=(ho.one (x:=x) (by simp [Op.operands]) hx).raw_inv;have h2:=ho.one (x:=y) (by simp [Op.operands]) hy;obtain ⟨es,clk,h3,h4,h5⟩:=hs.obj _ (Ar _ (Ac hm));obtain ⟨h6,h7⟩:=zud h4.1 h5;obtain ⟨n1,n2⟩:=zn7 ok h2 w es.toList ls 0 h6 h7;have hfk:=ok.run_key h2 w es.toList ls h6 h7
  cases hq:zfN s ls with
  |none=>
    rw [(zmF hq).1] at hk;refine ⟨z3,_,M,w,I,?_,.refl I,hk,zkA I z3,hs⟩
    simp only [execOp,h1,Instr.lookup,Sem.run_bind,run_underlying hf.mapD,Result.andThen_ok,zcB h3,Sem.run_pure,ok.check I s _ _ w h2,hfk,n1 hq,het.run_zero]
    simp
  |some j=>
    obtain ⟨m,h,g1,g2,g3,g4⟩:=n2 j hq;obtain ⟨h',g5,g6,_⟩:=zmG hq;rw [g5] at g2;cases g2;rw [g6] at hk;refine ⟨m.val,_,M,w,I,?_,.refl I,hk,g3,hs⟩
    simp only [execOp,h1,Instr.lookup,Sem.run_bind,run_underlying hf.mapD,Result.andThen_ok,zcB h3,Sem.run_pure,ok.check I s _ _ w h2,hfk,g4]
    simp
theorem zsa {x y z:Operand} {t et:TypeId} {size bytes:Nat} {zero:Value} {i b:Nat} {ls:List (κ×HVal)} {s:κ} {h:HVal}
 (hf:Fits P t (.map kt et) size bytes zero) (ok:KeyOk P kt ek) (hx:zn e x=some (.raw (.map (some b)))) (hy:zn e y=some (ek s)) (hz:zn e z=some h) (hm:M[i]? =some (.map b (kk ek ls)))
 (hk:K .junk (M.set i (.map b (kk ek (zeT s h ls))))):EOp P e M ⟨dst,.mapUpdate t x y z,ty,pos,af,g⟩ K:=
 zhV fun I F a w ho hs=>by
  have h1:=(ho.one (x:=x) (by simp [Op.operands]) hx).raw_inv;have h2:=ho.one (x:=y) (by simp [Op.operands]) hy;have h0:=ho.one (x:=z) (by simp [Op.operands]) hz;have hp:=hs.pull hm;obtain ⟨es,clk,h3,h4,h5⟩:=hp.obj _ AE;obtain ⟨h6,h7⟩:=zud h4.1 h5;obtain ⟨n1,n2⟩:=zn7 ok h2 w es.toList ls 0 h6 h7;have hfk:=ok.run_key h2 w es.toList ls h6 h7;have hlt:b<w.heap.size:=by
   rcases Az b w.heap.size with h'|h'
   exact h'
   simp [AB h'] at h3
  have hsz:es.size=ls.length:=by simpa using h6
  have fin: ∀(es':Array MapEntry) (clk':Nat),es'.size=(kk ek (zeT s h ls)).length/\BornOk es' clk'->
   (∀(i:Nat) (p:HVal×HVal) (m:MapEntry),(kk ek (zeT s h ls))[i]? =some p->es'[i]? =some m->V I p.1 m.key/\V I p.2 m.val)->
   Sat P I (M.set i (.map b (kk ek (zeT s h ls)))++F) {w with heap:=w.heap.setIfInBounds b (.map es' clk')}:=fun es' clk' e1 e2=>by
   refine zd4 hm (hp.change (m':= .map b (kk ek (zeT s h ls))) (fun k hk hnk=> ?_) (fun k hk=> .inl hk) (by simp [MObj.blocks]) ⟨es',clk',by simp [hlt],e1,e2⟩ rfl rfl rfl)
   have:k≠b:=by simpa [MObj.blocks] using hnk
   simp [Ba (Ne.symm this)]
  cases hq:zfN s ls with
  |none=>
    have hput:=(zmF hq).2 h;refine ⟨_,_,I,?_,.refl I,hk,fin (es.push ⟨a.eval y,a.eval z,clk⟩) (clk+1) ⟨by rw [hput];simp [kk,hsz],h4.2.push rfl⟩ fun j p m a1 a2=> ?_⟩
    simp only [execOp,h1,Instr.mapUpdate,Sem.run_bind,run_underlying hf.mapD,Result.andThen_ok,zcB h3,ok.check I s _ _ w h2,hfk,n1 hq,Sem.run_pure,ziS h3];rw [hput] at a1;simp only [kk,Ap,As,AH] at a1
    by_cases hj:j<ls.length
    rw [Ax (by simpa using hj)] at a1;rw [A6,if_neg (by omega)] at a2;exact h5 j p m (by simpa [kk] using a1) a2;rw [Ay (by simp;omega)] at a1;rw [A6] at a2
    by_cases hje:j=es.size
    rw [if_pos hje] at a2
    simp at a2
    subst a2;have:j-(ls.map fun p=>(ek p.1,p.2)).length=0:=by simp;omega
    rw [this] at a1
    simp at a1
    subst a1;exact ⟨h2,h0⟩;rw [if_neg hje,AB (by omega)] at a2
    cases a2
  |some j0=>
    obtain ⟨m0,h',g1,g2,g3,g4⟩:=n2 j0 hq;obtain ⟨_,_,_,hput⟩:=zmG hq;have hm0:es[j0]? =some m0:=by simpa using g1
    have hjl:=zo g2;have hkey:=(h7 j0 (s,h') m0 g2 g1).1;refine ⟨_,_,I,?_,.refl I,hk,fin (es.modify j0 fun e=>{e with key:=a.eval y,val:=a.eval z}) clk ⟨by rw [hput];simp [kk,hsz],h4.2.modify _ fun _=>rfl⟩ fun j p m a1 a2=> ?_⟩
    have hstay:(Instr.keyThatStays (((es[j0]?).map (·.key)).getD (a.eval y)) (a.eval y)).run P w= .ok (a.eval y) w:=by
     rw [hm0];simp only [AT,Option.getD_some,Instr.keyThatStays];rw [if_pos (ok.same I s _ _ hkey h2)];rfl
    simp only [execOp,h1,Instr.mapUpdate,Sem.run_bind,run_underlying hf.mapD,Result.andThen_ok,zcB h3,ok.check I s _ _ w h2,hfk,g4,Sem.run_pure,A7,hstay,ziS h3];rw [hput] at a1;simp only [kk] at a1;rw [Bc] at a2;rw [Av,List.getElem?_set] at a1
    by_cases hj:j0=j
    subst hj;rw [if_pos rfl,hm0] at a2;rw [if_pos rfl,if_pos hjl] at a1
    simp at a1 a2
    subst a1 a2;exact ⟨h2,h0⟩;rw [if_neg hj] at a1 a2;exact h5 j p m (by simp only [kk,Av];exact a1) a2
end
end
section
def zmO:List HVal->Bool
 |[]=>true
 | .int _ _::r=>zmO r
 | .str _::r=>zmO r
 | .bool _::r=>zmO r
 |_=>false
theorem zrR: ∀{cs:List HVal} {j:Nat} {c:HVal},zmO cs=true->cs[j]? =some c->(∃k n,c= .int k n)\/(∃s,c= .str s)\/∃b,c= .bool b
 |[],j,c,_,h=>by simp at h
 |x::r,0,c,hs,h=>by
   simp at h;subst h
   cases x<;>simp [zmO] at hs
   exact .inr (.inr ⟨_,rfl⟩);exact .inl ⟨_,_,rfl⟩;exact .inr (.inl ⟨_,rfl⟩)
 |x::r,j+1,c,hs,h=>by
   simp at h
   cases x<;>simp [zmO] at hs<;>exact zrR hs h
theorem zuw {I:Imm} {cs:List HVal} {xs ys:List Value} (hs:zmO cs=true) (hx:VL I cs xs) (hy:VL I cs ys):xs=ys/\∀v∈xs,∀n,Instr.sameBits n v v=true:=by
 have key: ∀(j:Nat) (u v:Value),xs[j]? =some u->ys[j]? =some v->u=v/\∀n,Instr.sameBits n u u=true:=fun j u v h1 h2=>by
  have hj:j<cs.length:=by rw [<-hx.1];exact zo h1
  have hc:=Aa hj;have hu:=hx.2 j _ u hc h1;have hv:=hy.2 j _ v hc h2
  rcases zrR hs hc with ⟨k,n,e⟩|⟨s,e⟩|⟨b,e⟩
  rw [e] at hu hv
  haveI:Tracks:=⟨true⟩
  rw [hu.int_inv,hv.int_inv];exact ⟨rfl,fun m=>by cases m<;>simp [Instr.sameBits]⟩;rw [e] at hu hv
  haveI:Tracks:=⟨true⟩
  rw [hu.str_inv,hv.str_inv];exact ⟨rfl,fun m=>by cases m<;>simp [Instr.sameBits,zmc]⟩;rw [e] at hu hv
  haveI:Tracks:=⟨true⟩
  rw [hu.bool_inv,hv.bool_inv];exact ⟨rfl,fun m=>by cases m<;>simp [Instr.sameBits]⟩
 have hl:xs.length=ys.length:=by rw [hx.1,hy.1]
 refine ⟨List.ext_getElem? fun j=> ?_,fun v hv n=> ?_⟩
 rcases Az j xs.length with h|h
 rw [Aa h,Aa (by omega)]
 congr 1
 exact (key j _ _ (Aa h) (Aa (by omega))).1;rw [AR h,AR (by omega)];obtain ⟨j,hj⟩:=AO hv;have hlt:=zo hj;exact (key j v _ hj (Aa (by omega))).2 n
section
variable {P:Program}
theorem zn6 {t:TypeId} {d:TD} {s by':Nat} {z:Value} (hf:Fits P t d s by' z) {a:HVal} (hk:zeW d a a=true) {I:Imm} {u:Value} (hu:V I a u) (em:Bool) (n:Nat) (w:World):(Instr.checkKey em (n+1) t u).run P w= .ok () w:=by
 haveI:Tracks:=⟨true⟩
 cases d<;>cases a<;>focus first|(simp [zeW] at hk;done)|skip
 rw [hu.bool_inv];simp [Instr.checkKey,run_underlying hf.boolD];rw [hu.int_inv];simp [Instr.checkKey,run_underlying hf.intD];rw [hu.str_inv];simp [Instr.checkKey,run_underlying hf.strD]
theorem zoH {I:Imm} {xs:Array Value} {cs:List HVal} (hx:VL I cs xs.toList) (em:Bool) (n:Nat) (w:World):
 ∀(fs:List Field) (k:Nat),ziM P (fs.map fun f=>(f.offset,f.type)) k (cs.drop k) (cs.drop k)->∀f∈fs,∃a,(part f.type xs f.offset).run P w= .ok a w/\(Instr.checkKey em (n+1) f.type a).run P w= .ok () w
 |[],k,_,f,hf=>by simp at hf
 |g::fs,k,hk,f,hf=>by
   haveI:Tracks:=⟨true⟩
   simp only [As] at hk
   cases hc:cs.drop k with
   |nil=>rw [hc] at hk;exact hk.elim
   |cons a r=>
     rw [hc] at hk;obtain ⟨h1,⟨d,s,by',z,h2,h3⟩,h4⟩:=hk;simp only at h1 h2;have ha:cs[k]? =some a:=by have:=congrArg (fun l:List HVal=>l[0]?) hc;simpa using this
     have hr:cs.drop (k+1)=r:=by rw [<-AN (i:=1),hc];rfl
     rcases List.mem_cons.1 hf with rfl|hf
     obtain ⟨u,hu,hu'⟩:=hx.get ha;exact ⟨u,zjy h2 (zht h3) (by rw [h1];simpa using hu) w,zn6 h2 h3 hu' em n w⟩;exact zoH hx em n w fs (k+1) (by rw [hr];exact h4) f hf
theorem zrA {κ:Type} [DecidableEq κ] {kt:TypeId} {fs:List (Nat×Nat)} {s by':Nat} {z:Value} {cs:κ->List HVal} (hf:Fits P kt (.struct fs) s by' z) (hq:EqOk P kt) (hk: ∀x y,ziM P fs 0 (cs x) (cs y))
 (he: ∀x y,zbl (cs x) (cs y)=decide (x=y)) (hs: ∀x,zmO (cs x)=true):KeyOk P kt (fun x=> .agg (cs x)):=by
 haveI:Tracks:=⟨true⟩
 obtain ⟨gs,h1,h2⟩:=hf.structD;have hn: ∀f∈gs.toList,f.name≠ "_" :=fun f hf=>by
  have:=hq.names;rw [show P.fieldsOf kt=gs by simp [Program.fieldsOf,h1]] at this;have:=List.all_eq_true.1 this f hf;simpa using this
 refine ⟨fun I x v b w hv=> ?_,fun I x y u v w hu hv=> ?_,fun I x v es w hv hes=>run_findKey_eq w (by rw [h1]) v es,fun I x u v hu hv=> ?_⟩
 obtain ⟨xs,rfl,hx⟩:=hv.agg_inv;have each:=zoH (P:=P) hx b 9998 w gs.toList 0 (by rw [h2];exact hk x x);rw [show (10000:Nat)=9999+1 from rfl,Instr.checkKey];simp only [Sem.run_bind,run_underlying h1,Result.andThen_ok];rw [<-Array.forIn_toList]
 clear h1 h2
 generalize gs.toList=L at each hn
 induction L with
 |nil=>simp
 |cons f L ih=>
   obtain ⟨a,p1,p2⟩:=each f (by simp);have hn1:=hn f (by simp);simp only [List.forIn_cons,Sem.run_bind,hn1,ne_eq,not_false_eq_true,if_true,Result.andThen_ok,p1,p2,Sem.run_pure];exact ih (fun y hy=>each y (by simp [hy])) (fun y hy=>hn y (by simp [hy]))
 obtain ⟨xs,rfl,hx⟩:=hu.agg_inv;obtain ⟨ys,rfl,hy⟩:=hv.agg_inv;rw [zgU hf hq hx hy (hk x y) w,he];obtain ⟨xs,rfl,hx⟩:=hu.agg_inv;obtain ⟨ys,rfl,hy⟩:=hv.agg_inv;obtain ⟨e1,e2⟩:=zuw (hs x) hx hy;have e3:xs=ys:=by have:=congrArg List.toArray e1;simpa using this
 subst e3
 show Instr.sameBits (9999+1) _ _=true
 simp only [Instr.sameBits,beq_self_eq_true,Bool.true_and,List.all_eq_true]
 intro p hp
 have h9: ∀(l:List Value) (p:Value×Value),p∈l.zip l->p.1∈l/\p.1=p.2:=fun l=>by
  induction l with
  |nil=>intro p hp;simp at hp
  |cons a l ih=>
    intro p hp
    simp only [List.zip_cons_cons,BG] at hp
    rcases hp with rfl|hp
    exact ⟨by simp,rfl⟩;exact ⟨by simp [(ih p hp).1],(ih p hp).2⟩
 obtain ⟨q1,q2⟩:=h9 _ p hp;obtain ⟨u,v⟩:=p;simp only at q1 q2;subst q2;exact e2 u q1 9999
end
/-! ranges-/
section
variable {P:Program} {e:Env} {dst:Option Tmp} {ty:TypeId} {pos:String} {af:Array Edge} {g:Option (Nat×Bool)} {M:List MObj} {K:HVal->List MObj->Prop}
end
end
section
section
variable {P:Program} {e:Env} {dst:Option Tmp} {ty:TypeId} {pos:String} {af:Array Edge} {g:Option (Nat×Bool)} {M:List MObj} {K:HVal->List MObj->Prop}
end
section
variable {κ:Type} [DecidableEq κ]
variable {P:Program} {kt:TypeId} {ek:κ->HVal} {e:Env} {dst:Option Tmp} {ty:TypeId} {pos:String} {af:Array Edge} {g:Option (Nat×Bool)} {M:List MObj} {K:HVal->List MObj->Prop}
end
end
section
section
variable {κ:Type} [DecidableEq κ] {α:Type}
def alk (x:κ):List (κ×α)->Option α
 |[]=>none
 |p::r=>if x=p.1 then some p.2 else alk x r
def zab (x:κ) (v:α):List (κ×α)->List (κ×α)
 |[]=>[(x,v)]
 |p::r=>if x=p.1 then (x,v)::r else p::zab x v r
abbrev em (f:α->HVal) (L:List (κ×α)):List (κ×HVal):=L.map fun p=>(p.1,f p.2)
theorem zue (f:α->HVal) (x:κ): ∀L:List (κ×α),klk x (em f L)=(alk x L).map f
 |[]=>rfl
 |p::r=>by
   have ih:=zue f x r;simp only [As,klk,alk] at ih⊢
   by_cases h:x=p.1
   rw [if_pos h,if_pos h];rfl;rw [if_neg h,if_neg h];exact ih
theorem zsw (f:α->HVal) (x:κ) (v:α): ∀L:List (κ×α),zeT x (f v) (em f L)=em f (zab x v L)
 |[]=>rfl
 |p::r=>by
   have ih:=zsw f x v r;simp only [As,zeT,zab] at ih⊢
   by_cases h:x=p.1
   rw [if_pos h,if_pos h];rfl;rw [if_neg h,if_neg h,ih];rfl
theorem zgY (x y:κ) (v:α): ∀(l:List (κ×α)),alk y (zab x v l)=if y=x then some v else alk y l
 |[]=>by simp [zab,alk]
 |p::r=>by
   have ih:=zgY x y v r;simp only [zab]
   by_cases h:x=p.1
   subst h;rw [if_pos rfl];simp only [alk]
   by_cases hy:y=p.1
   rw [if_pos hy,if_pos hy];rw [if_neg hy,if_neg hy,if_neg hy];rw [if_neg h];simp only [alk]
   by_cases hy:y=p.1
   have: ¬y=x:=fun e=>h (e▸hy)
   rw [if_pos hy,if_neg this,if_pos hy];rw [if_neg hy,ih,if_neg hy]
theorem zi6 {x:κ}: ∀{l:List (κ×α)},alk x l=none↔x∉l.map (·.1)
 |[]=>by simp [alk]
 |p::r=>by
   have ih:=zi6 (x:=x) (l:=r);simp only [alk,As,BG,not_or]
   by_cases h:x=p.1
   rw [if_pos h];simp [h];rw [if_neg h,ih];simp [h]
theorem zrc {x:κ} {v:α}: ∀{l:List (κ×α)},alk x l=none->zab x v l=l++[(x,v)]
 |[],_=>rfl
 |p::r,h=>by
   simp only [alk] at h
   by_cases hx:x=p.1
   rw [if_pos hx] at h;cases h;rw [if_neg hx] at h;simp only [zab,if_neg hx,A3,zrc h]
theorem zl7 {x y:κ} {v:α}: ∀{l:List (κ×α)},y∈(zab x v l).map (·.1)↔y=x\/y∈l.map (·.1)
 |[]=>by simp [zab]
 |p::r=>by
   have ih:=zl7 (x:=x) (y:=y) (v:=v) (l:=r);simp only [zab]
   by_cases h:x=p.1
   subst h;rw [if_pos rfl];simp;rw [if_neg h];simp only [As,BG,ih]
   constructor
   rintro (h|h|h);exact .inr (.inl h);exact .inl h;exact .inr (.inr h);rintro (h|h|h);exact .inr (.inl h);exact .inl h;exact .inr (.inr h)
def ANodup (l:List (κ×α)):Prop:=(l.map (·.1)).Nodup
theorem ANodup.nil {A B:Type}:ANodup ([]:List (A×B)):=BL
theorem ANodup.put {x:κ} {v:α}: ∀{l:List (κ×α)},ANodup l->ANodup (zab x v l)
 |[],_=>by simp [ANodup,zab]
 |p::r,hn=>by
   have h1:=(List.nodup_cons.1 hn)
   by_cases h:x=p.1
   subst h;have e:zab p.1 v (p::r)=(p.1,v)::r:=by simp [zab]
   rw [e];exact List.nodup_cons.2 h1;have e:zab x v (p::r)=p::zab x v r:=by simp [zab,h]
   rw [e];refine List.nodup_cons.2 ⟨fun hm=> ?_,ANodup.put (l:=r) h1.2⟩
   rcases zl7.1 hm with e|e
   exact h e.symm;exact h1.1 e
theorem zkB {x:κ} {v:α}: ∀{l:List (κ×α)},ANodup l->((x,v)∈l↔alk x l=some v)
 |[],_=>by simp [alk]
 |p::r,hn=>by
   have h1:=(List.nodup_cons.1 hn);have ih:=zkB (x:=x) (v:=v) (l:=r) h1.2;simp only [BG,alk]
   by_cases h:x=p.1
   subst h;rw [if_pos rfl]
   constructor
   rintro (h|h);rw [<-h];exact absurd (List.mem_map_of_mem (f:=(·.1)) h) h1.1
   intro h;left;simp at h;rw [<-h]
   rw [if_neg h,<-ih]
   constructor
   rintro (h'|h');exact absurd (by rw [<-h']) h;exact h';exact .inr
theorem zcv {x:κ} {v:α}: ∀{l:List (κ×α)},alk x l=some v->(x,v)∈l
 |[],h=>by simp [alk] at h
 |p::r,h=>by
   simp only [alk] at h
   by_cases hx:x=p.1
   rw [if_pos hx] at h;cases h;rw [hx];exact AE;rw [if_neg hx] at h;exact AK _ (zcv h)
theorem zrb (x:κ) (v:α): ∀(l:List (κ×α)),(zab x v l).length=if (alk x l).isSome then l.length else l.length+1
 |[]=>by simp [zab,alk]
 |p::r=>by
   have ih:=zrb x v r
   by_cases h:x=p.1
   have e1:zab x v (p::r)=(x,v)::r:=by simp [zab,h]
   have e2:alk x (p::r)=some p.2:=by simp [alk,h]
   rw [e1,e2];simp;have e1:zab x v (p::r)=p::zab x v r:=by simp [zab,h]
   have e2:alk x (p::r)=alk x r:=by simp [alk,h]
   rw [e1,e2,Ao,ih];split<;>simp
theorem zpi (x:κ) (v:α) (l:List (κ×α)):(zab x v l).length<=l.length+1:=by rw [zrb];split<;>omega
theorem zdP {x:κ} {v:α} {p:κ×α}: ∀{l:List (κ×α)},p∈zab x v l->p=(x,v)\/p∈l
 |[],hp=>by simp [zab] at hp;exact .inl hp
 |q::r,hp=>by
   simp only [zab] at hp
   by_cases h:x=q.1
   rw [if_pos h] at hp
   rcases List.mem_cons.1 hp with e|e
   exact .inl e;exact .inr (AK _ e);rw [if_neg h] at hp
   rcases List.mem_cons.1 hp with e|e
   exact .inr (e▸AE)
   rcases zdP e with e|e
   exact .inl e;exact .inr (AK _ e)
theorem zoa (f:α->HVal) (s:Str): ∀L:List (Str×α),(zat s (em f L)).map (·.2)=(alk s L).map f
 |[]=>rfl
 |p::r=>by
   have ih:=zoa f s r;obtain ⟨k,v⟩:=p;simp only [As,zat,alk] at ih⊢
   by_cases h:s=k
   rw [if_pos h,if_pos h];rfl;rw [if_neg h,if_neg h,<-ih];cases zat s (r.map fun p=>(p.1,f p.2))<;>rfl
theorem zsH (f:α->HVal) (s:Str) (v:α): ∀L:List (Str×α),sput s (f v) (em f L)=em f (zab s v L)
 |[]=>rfl
 |p::r=>by
   have ih:=zsH f s v r;obtain ⟨k,u⟩:=p;simp only [sput,As,zat,zab] at ih⊢
   by_cases h:s=k
   subst h;rw [if_pos rfl,if_pos rfl];rfl;rw [if_neg h,if_neg h]
   cases hq:zat s (r.map fun p=>(p.1,f p.2)) with
   |none=>rw [hq] at ih;simp only [BV,A3,As,<-ih]
   |some q=>rw [hq] at ih;simp only [AT,BY,As,<-ih]
end
section
variable {κ:Type} [DecidableEq κ] {α:Type}
variable {P:Program} {e:Env} {dst:Option Tmp} {ty:TypeId} {pos:String} {af:Array Edge} {g:Option (Nat×Bool)} {M:List MObj} {K:HVal->List MObj->Prop}
theorem zrv {f:α->HVal} {o:Option α} {z0:α}:f (o.getD z0)=(o.map f).getD (f z0):=by cases o<;>rfl
theorem znn [Tracks] {x y:Operand} {t kt et:TypeId} {size bytes s2 b2 s3 b3:Nat} {zero z2 z3:Value} {d:TD} {i b:Nat} {f:α->HVal} {L:List (Str×α)} {s:Str} {z0:α}
 (hf:Fits P t (.map kt et) size bytes zero) (hkt:Fits P kt .str s2 b2 z2) (het:Fits P et d s3 b3 z3) (hx:zn e x=some (.raw (.map (some b)))) (hy:zn e y=some (.str s)) (hm:M[i]? =some (.map b (sk (em f L)))) (hz:zce z3=f z0)
 (hk:K (f ((alk s L).getD z0)) M):EOp P e M ⟨dst,.lookup t x y false,ty,pos,af,g⟩ K:=by
 refine zth hf hkt het hx hy hm ?_;rw [zrv (f:=f),<-zoa,<-hz] at hk
 cases h:zat s (em f L) with
 |none=>rw [h] at hk;exact hk
 |some p=>rw [h] at hk;exact hk
theorem zrs [Tracks] {x y:Operand} {t kt et:TypeId} {size bytes s2 b2 s3 b3:Nat} {zero z2 z3:Value} {d:TD} {i b:Nat} {f:α->HVal} {L:List (Str×α)} {s:Str} {z0:α}
 (hf:Fits P t (.map kt et) size bytes zero) (hkt:Fits P kt .str s2 b2 z2) (het:Fits P et d s3 b3 z3) (hx:zn e x=some (.raw (.map (some b)))) (hy:zn e y=some (.str s)) (hm:M[i]? =some (.map b (sk (em f L)))) (hz:zce z3=f z0)
 (hk:K (.tup [f ((alk s L).getD z0),.bool (alk s L).isSome]) M):EOp P e M ⟨dst,.lookup t x y true,ty,pos,af,g⟩ K:=by
 refine zr8 hf hkt het hx hy hm ?_;have h1:(alk s L).isSome=((alk s L).map f).isSome:=by cases alk s L<;>rfl
 rw [zrv (f:=f),h1,<-zoa,<-hz] at hk
 cases h:zat s (em f L) with
 |none=>rw [h] at hk;exact hk
 |some p=>rw [h] at hk;exact hk
theorem zkr [Tracks] {x y z:Operand} {t kt et:TypeId} {size bytes s2 b2:Nat} {zero z2:Value} {i b:Nat} {f:α->HVal} {L:List (Str×α)} {s:Str} {v:α}
 (hf:Fits P t (.map kt et) size bytes zero) (hkt:Fits P kt .str s2 b2 z2) (hx:zn e x=some (.raw (.map (some b)))) (hy:zn e y=some (.str s)) (hz:zn e z=some (f v)) (hm:M[i]? =some (.map b (sk (em f L))))
 (hk:K .junk (M.set i (.map b (sk (em f (zab s v L)))))):EOp P e M ⟨dst,.mapUpdate t x y z,ty,pos,af,g⟩ K:=by
 refine zlP hf hkt hx hy hz hm ?_;rw [zsH];exact hk
variable {kt:TypeId} {ek:κ->HVal}
theorem zrt [Tracks] {x y:Operand} {t et:TypeId} {size bytes s3 b3:Nat} {zero z3:Value} {d:TD} {i b:Nat} {f:α->HVal} {L:List (κ×α)} {s:κ} {z0:α}
 (hf:Fits P t (.map kt et) size bytes zero) (ok:KeyOk P kt ek) (het:Fits P et d s3 b3 z3) (hx:zn e x=some (.raw (.map (some b)))) (hy:zn e y=some (ek s)) (hm:M[i]? =some (.map b (kk ek (em f L)))) (hz:zce z3=f z0)
 (hk:K (f ((alk s L).getD z0)) M):EOp P e M ⟨dst,.lookup t x y false,ty,pos,af,g⟩ K:=by
 refine zr9 hf ok het hx hy hm ?_;rw [zrv (f:=f),<-hz] at hk;rw [zue];exact hk
theorem zru [Tracks] {x y z:Operand} {t et:TypeId} {size bytes:Nat} {zero:Value} {i b:Nat} {f:α->HVal} {L:List (κ×α)} {s:κ} {v:α}
 (hf:Fits P t (.map kt et) size bytes zero) (ok:KeyOk P kt ek) (hx:zn e x=some (.raw (.map (some b)))) (hy:zn e y=some (ek s)) (hz:zn e z=some (f v)) (hm:M[i]? =some (.map b (kk ek (em f L))))
 (hk:K .junk (M.set i (.map b (kk ek (em f (zab s v L)))))):EOp P e M ⟨dst,.mapUpdate t x y z,ty,pos,af,g⟩ K:=by
 refine zsa hf ok hx hy hz hm ?_;rw [zsw];exact hk
theorem ziL [Tracks] {x:Operand} {t kt' et:TypeId} {size bytes:Nat} {zero:Value} {i b:Nat} {l:List (HVal×HVal)} (hf:Fits P t (.map kt' et) size bytes zero) (hx:zn e x=some (.raw (.map (some b)))) (hm:M[i]? =some (.map b l))
 (hk:K (.int .i64 (l.length:Int)) M):EOp P e M ⟨dst,.call ⟨.builtin .len,#[x],#[t]⟩,ty,pos,af,g⟩ K:=
 EOp.of_run fun I F a w ho hs=>by
  have h1:=(ho.one (x:=x) (by simp [Op.operands,Call.operands]) hx).raw_inv;obtain ⟨es,clk,h3,h4,h5⟩:=hs.obj _ (Ar _ (Ac hm));exact ⟨.int .i64 (es.size:Int),_,M,w,I,by rw [zkU (ats:= #[])];simp [h1,Builtin.len_,run_underlying hf.mapD,zcB h3,goInt],.refl I,hk,by rw [h4.1];exact .int _ _,hs⟩
end
end
section
open Go.Sort Go.Proofs
structure Play where
 Source:Str
 No:Int
 At:Int
 Week:Int
 Match:Str
 Player:Str
 Stat:Str
 Count:Int
 Undo:Int
structure StatS where
 Name:Str
 Count:Int
structure LineS where
 Player:Str
 Week:Int
 Stats:List StatS
abbrev zu (x:Play):HVal:= .agg [.str x.Source,.int .i64 x.No,.int .i64 x.At,.int .i64 x.Week,.str x.Match,.str x.Player,.str x.Stat,.int .i64 x.Count,.int .i64 x.Undo]
abbrev zbk (l:List Play):HVal:= .slice 9 (l.map zu)
abbrev Num:=Str×Int
abbrev Of2:=Str×Str
abbrev ztg (x:Num):HVal:= .agg [.str x.1,.int .i64 x.2]
def zm2:Play:=⟨[],0,0,0,[],[],[],0,0⟩
def zef (n:Int):Bool:= !(out n 1 60)
def playFault (p:Play):Int:=
 if !(key p.Source) then 5 else if out p.No 1 3000|| !(zau p.At)|| !(zef p.Week) then 1
 else if !(key p.Match)|| !(key p.Player)|| !(key p.Stat) then 5
 else if out p.Count (-100000) 100000||out p.Undo 0 (p.No-1) then 1
 else if decide (0<p.Undo)&&decide (p.Count≠0) then 3 else 0
def byNo (a b:Play):Int:=orI [zai a.Source b.Source,zam a.No b.No]
def zb4 (l:List Play):Nat->List Play->Int
 |_,[]=>0
 |k,p::r=>if playFault p≠0 then playFault p else if 0<k/\byNo p (l.getD (k-1) zm2)<=0 then 7 else zb4 l (k+1) r
structure ChkS where
 S:List Str
 W:List (Str×Int)
 c:Bool
def zhG (q:ChkS) (p:Play):ChkS:=
 ⟨zdq p.Source q.S,zab p.Match p.Week q.W,q.c||((alk p.Match q.W).isSome&&((alk p.Match q.W).getD 0 !=p.Week))⟩
def zbz (l:List Play):ChkS:=l.foldl zhG ⟨[],[],false⟩
theorem zeQ {l:List Play} {k:Nat} {x:Play} (h:l[k]? =some x):zbz (l.take (k+1))=zhG (zbz (l.take k)) x:=by
 rw [zV h];simp [zbz,List.foldl_append]
def zeJ (q:ChkS):Int:=if 20<q.S.length\/400<q.W.length then 2 else if q.c then 13 else 0
def zbJ (l:List Play):Int:=if 3000<l.length then 2 else if zb4 l 0 l≠0 then zb4 l 0 l else zeJ (zbz l)
theorem zlz {l:List Play} {k:Nat} {x:Play} {r:List Play} (h1:playFault x=0) (h2:0<k->¬byNo x (l.getD (k-1) zm2)<=0):zb4 l k (x::r)=zb4 l (k+1) r:=by
 rw [zb4,if_neg (by simp [h1]),if_neg (fun h=>h2 h.1 h.2)]
theorem zj2 {l:List Play} {c:Int} (h1:l.length<=3000) (h:zb4 l 0 l=c) (hc:c≠0):zbJ l=c:=by
 rw [zbJ,if_neg (by omega),if_pos (by rw [h];exact hc),h]
theorem zfc {l:List Play} (h1:l.length<=3000) (h:zb4 l 0 l=0):zbJ l=zeJ (zbz l):=by
 rw [zbJ,if_neg (by omega),if_neg (by simp [h])]
theorem zup {l:List Play} (h:zbJ l=0):l.length<=3000/\zb4 l 0 l=0:=by
 unfold zbJ at h
 split at h
 omega
 split at h
 contradiction
 rename_i h1 h2;exact ⟨by omega,by simpa using h2⟩
theorem zhn {p:Play} (h:playFault p=0):key p.Source=true/\(1<=p.No/\p.No<=3000)/\zau p.At=true/\zef p.Week=true/\(key p.Match=true/\key p.Player=true/\key p.Stat=true)/\(-100000<=p.Count/\p.Count<=100000)/\(0<=p.Undo/\p.Undo<=p.No-1):=by
 unfold playFault at h
 split at h
 omega
 split at h
 omega
 split at h
 omega
 split at h
 omega
 rename_i h1 h2 h3 h4
 simp only [Bool.or_eq_true,Bool.not_eq_true',not_or,Bool.not_eq_false,Bool.not_eq_true] at h1 h2 h3 h4;exact ⟨h1,zhX h2.1.1,h2.1.2,h2.2,⟨h3.1.1,h3.1.2,h3.2⟩,zhX h4.1,zhX h4.2⟩
def zuI (trust:List Str) (at':Int) (B:List (Str×Int)) (p:Play):List (Str×Int):=
 if at'<p.At\/zeS p.Source trust 0<0 then B
 else if (alk p.Match B).isSome=false\/zeS p.Source trust 0<(alk p.Match B).getD 0 then zab p.Match (zeS p.Source trust 0) B else B
def zxK (l:List Play) (trust:List Str) (at':Int):List (Str×Int):=l.foldl (zuI trust at') []
def zzE (l:List Play) (trust:List Str) (at':Int) (m:Str):Option Str:=(alk m (zxK l trust at')).map fun k=>trust.getD k.toNat []
/-! what is taken back-/
structure LnS where
 S:List Str
 c:List (Of2×Int)
def zzv (q:LnS) (p:Play):LnS:=⟨zdq p.Player q.S,zab (p.Player,p.Stat) ((alk (p.Player,p.Stat) q.c).getD 0+p.Count) q.c⟩
def zhD (a b:StatS):Int:=zai a.Name b.Name
def zlB (c:List (Of2×Int)) (s:Str):List StatS:=(c.filter fun e=>e.1.1==s&&e.2 !=0).map fun e=>⟨e.1.2,e.2⟩
def zd1 (l:List Str):Nat->List Str->Int
 |_,[]=>0
 |k,s::r=>if !(key s) then 5 else if (l.take k).contains s then 6 else zd1 l (k+1) r
def ze6 (l:List Str):Int:=if 20<l.length then 2 else zd1 l 0 l
theorem zsv {s:Str} (h:key s=true):s.length<=40:=by
 simp only [key,zjX,A9,decide_eq_true_eq] at h;exact h.1.1.1.2
theorem zfn {α:Type} {c:α->α->Int} (hc:Cmp c fun _=>True) {l l':List α} (he: ∀x y,x∈l->y∈l->c x y=0->x=y) (hp:l'.Perm l) (hw:l'.Pairwise fun a b=> ¬c b a<0):l'=zX c l:=by
 have hs:=zjs hc (l:=l) (fun _ _=>trivial);have hw':l'.Pairwise fun a b=>c a b<=0:=hw.imp fun {a b} h=>by
  have:=hc.flip b a trivial trivial
  omega
 refine List.Perm.eq_of_pairwise (le:=fun a b=>c a b<=0) (fun a b ha hb h1 h2=> ?_) hw' hs (hp.trans (zaU c l).symm)
 have f1:=hc.flip a b trivial trivial;exact he a b (hp.mem_iff.1 ha) ((zaU c l).mem_iff.1 hb) (by omega)
theorem zk3:Cmp zhD fun _=>True where
 flip x y _ _:=by unfold zhD;rw [zfG x.Name y.Name];omega
 trans x y z _ _ _ h1 h2:=zhg h1 h2
theorem zhT {α:Type} {c:α->α->Int} (hc:Cmp c fun _=>True):SWO (ltOf c):=by
 have h: ∀a b,ltOf c a b=decide (c a b<0):=fun a b=>rfl
 refine ⟨fun x=> ?_,fun x y z h1 h2=> ?_,fun x y z h1 h2=> ?_⟩
 rw [h];have:=hc.flip x x trivial trivial;simp;omega;rw [h] at*;simp only [decide_eq_true_eq] at*;have a1:=hc.trans x y z trivial trivial trivial (by omega) (by omega)
 rcases Int.lt_or_eq_of_le a1 with e|e
 exact e
 exfalso
 have f1:=hc.flip x z trivial trivial;have a2:=hc.trans z x y trivial trivial trivial (by have:=hc.flip z x trivial trivial;omega) (by omega);have f2:=hc.flip y z trivial trivial
 omega
 rw [h] at*;simp only [decide_eq_false_iff_not] at*;have f1:=hc.flip x y trivial trivial;have f2:=hc.flip y z trivial trivial;have f3:=hc.flip x z trivial trivial;have g1:=hc.flip y x trivial trivial;have g2:=hc.flip z y trivial trivial;have g3:=hc.flip z x trivial trivial;have:=hc.trans z y x trivial trivial trivial (by omega) (by omega)
 omega
end
section
theorem zvk {α:Type} {l:List α} (h:l.Nodup) {i j:Nat} {a:α} (hi:l[i]? =some a) (hj:l[j]? =some a):i=j:=by
 have key: ∀(i j:Nat),i<j->l[i]? =some a->l[j]? =some a->False:=fun i j hij h1 h2=>by
  have hi:=zo h1;have hj:=zo h2;rw [Aa hi] at h1;rw [Aa hj] at h2;exact List.pairwise_iff_getElem.1 h i j hi hj hij (Ak (h1.trans h2.symm))
 rcases Bp i j with h'|h'|h'
 exact (key i j h' hi hj).elim;exact h';exact (key j i h' hj hi).elim
/-! what a range has come to-/
structure VisOk {β:Type} (L:List β) (vis:List Nat) (E:List β):Prop where
 nd:vis.Nodup
 lt: ∀j∈vis,j<L.length
 eq:E.map some=vis.map fun j=>L[j]?
theorem VisOk.nil {β:Type} (L:List β):VisOk L [] []:=⟨BL,(fun j h=>by cases h),rfl⟩
theorem VisOk.step {β:Type} {L E:List β} {vis:List Nat} (h:VisOk L vis E) {j:Nat} {q:β} (hj:L[j]? =some q) (hn:j∉vis):VisOk L (vis++[j]) (E++[q]) where
 nd:=List.nodup_append.2 ⟨h.nd,by simp,fun a ha b hb=>by simp at hb;subst hb;exact fun e=>hn (e▸ha)⟩
 lt k hk:=by
  rcases List.mem_append.1 hk with hk|hk
  exact h.lt k hk
  simp at hk;subst hk;exact zo hj
 eq:=by simp only [Ap,h.eq,As,AH,hj]
theorem VisOk.len {β:Type} {L E:List β} {vis:List Nat} (h:VisOk L vis E):E.length=vis.length:=by
 have:=congrArg List.length h.eq;simpa using this
def NextOk {β:Type} (L:List β) (vis:List Nat) (c:Bool) (vis':List Nat):Prop:=
 (c=false/\vis'=vis/\vis.length=L.length)\/(c=true/\∃j q,L[j]? =some q/\j∉vis/\vis'=vis++[j])
theorem NextOk.t {β:Type} {L:List β} {vis vis':List Nat} {c:Bool} (h:NextOk L vis c vis') (hc:c=true): ∃j q,L[j]? =some q/\j∉vis/\vis'=vis++[j]:=by
 rcases h with ⟨h,_⟩|⟨_,h⟩
 rw [hc] at h;cases h;exact h
theorem NextOk.f {β:Type} {L:List β} {vis vis':List Nat} {c:Bool} (h:NextOk L vis c vis') (hc:c=false):vis'=vis/\vis.length=L.length:=by
 rcases h with ⟨_,h⟩|⟨h,_⟩
 exact h;rw [hc] at h;cases h
section
variable {P:Program} {e:Env} {dst:Option Tmp} {ty:TypeId} {pos:String} {af:Array Edge} {g:Option (Nat×Bool)} {M:List MObj} {K:HVal->List MObj->Prop}
end
section
variable {β:Type}
abbrev Grp (β:Type):=List (Str×(Value×List β))
abbrev gZ (β:Type):Value×List β:=(.slice none 0 0,[])
def gL (s:Str) (G:Grp β):List β:=((alk s G).getD (gZ β)).2
end
section
variable {P:Program} {e:Env} {dst:Option Tmp} {ty:TypeId} {pos:String} {af:Array Edge} {g:Option (Nat×Bool)} {M:List MObj} {K:HVal->List MObj->Prop} {β:Type} {eb:β->HVal}
theorem zsj [Tracks] {I:Imm} {M:List MObj} {w:World} (sz:Nat) (hs:Sat P I M w):Sat P I (.arr (.slice none 0 0) sz []::M) w where
 imm:=hs.imm
 obj m hm:=by
  rcases List.mem_cons.1 hm with rfl|hm
  exact .inl ⟨rfl,rfl⟩;exact hs.obj m hm
 nodup:=by simp only [blocks,AL,MObj.blocks,Bn];exact hs.nodup
 apart b hb:=hs.apart b (by simpa only [blocks,AL,MObj.blocks,Bn] using hb)
 os:=hs.os
 output:=hs.output
 tape:=hs.tape
 tab:=hs.tab
 low:=hs.low
end
end
section
section
variable {κ α γ:Type} [DecidableEq κ]
theorem ANodup.perm {A B:Type} {E L:List (A×B)} (hn:ANodup L) (hp:E.Perm L):ANodup E:=(hp.map (fun p:A×B=>p.1)).nodup_iff.2 hn
theorem zuG {E L:List (κ×α)} (hp:E.Perm L) (hn:ANodup L) (m:κ):alk m E=alk m L:=by
 have hne:ANodup E:=hn.perm hp
 cases h:alk m L with
 |none=>
   rw [zi6] at h⊢;exact fun hm=>h ((hp.map (·.1)).mem_iff.1 hm)
 |some v=>exact (zkB hne).1 (hp.mem_iff.2 ((zkB hn).2 h))
theorem ANodup.map {A B C:Type} (g:B->C) {E:List (A×B)} (h:ANodup E):ANodup (E.map fun q=>(q.1,g q.2)):=by
 unfold ANodup at*;rw [Bg];exact h
end
structure GOk (E:List (Of2×Int)) (G:Grp StatS):Prop where
 nd:ANodup G
 raw: ∀s,gL s G=zlB E s
theorem GOk.nil:GOk [] []:=⟨ANodup.nil,fun s=>rfl⟩
theorem zlQ (E:List (Of2×Int)) (q:Of2×Int) (s:Str):zlB (E++[q]) s=zlB E s++if q.1.1=s/\q.2≠0 then [⟨q.1.2,q.2⟩] else []:=by
 unfold zlB;rw [Bt,Ap,Be]
 by_cases h:q.1.1=s/\q.2≠0
 rw [if_pos h,if_pos (by simpa using h)];rfl;rw [if_neg h,if_neg (by simpa using h)];rfl
theorem GOk.skip {E:List (Of2×Int)} {G:Grp StatS} (h:GOk E G) {q:Of2×Int} (hq:q.2=0):GOk (E++[q]) G:=
 ⟨h.nd,fun s=>by rw [zlQ,if_neg (by simp [hq]),AW,h.raw]⟩
theorem zxi (s t:Str) (v:Value) (l:List StatS) (G:Grp StatS):gL t (zab s (v,l) G)=if t=s then l else gL t G:=by
 unfold gL;rw [zgY];split<;>rfl
theorem GOk.put {E:List (Of2×Int)} {G:Grp StatS} (h:GOk E G) {q:Of2×Int} (hq: ¬q.2=0) (v:Value):GOk (E++[q]) (zab q.1.1 (v,gL q.1.1 G++[⟨q.1.2,q.2⟩]) G):=by
 refine ⟨h.nd.put,fun s=> ?_⟩
 rw [zxi,zlQ]
 by_cases hs:s=q.1.1
 rw [if_pos hs,if_pos ⟨hs.symm,hq⟩,hs,h.raw];rw [if_neg hs,if_neg (fun e=>hs e.1.symm),AW,h.raw]
theorem zlu {s t:Str} {S:List Str}:t∈zdq s S↔t=s\/t∈S:=by
 unfold zdq
 by_cases h:S.contains s=true
 rw [if_pos h];have:s∈S:=by simpa using h
 constructor
 exact .inr;rintro (rfl|h);exact this;exact h;rw [if_neg h];simp;exact Or.comm
theorem ziT {s:Str} {S:List Str} (h:S.Nodup):(zdq s S).Nodup:=by
 unfold zdq
 by_cases hc:S.contains s=true
 rw [if_pos hc];exact h;rw [if_neg hc];exact List.nodup_append.2 ⟨h,by simp,fun a ha b hb=>by simp at hb;subst hb;intro e;subst e;simp at hc;exact hc ha⟩
theorem zsE (s:Str) (S:List Str):(zdq s S).length<=S.length+1:=by
 unfold zdq;split
 omega
 simp
structure LnOk (q:LnS) (n:Nat):Prop where
 c:ANodup q.c
 S:q.S.Nodup
 k: ∀s∈q.S,s.length<=40
 cl:q.c.length<=n
 Sl:q.S.length<=n
 bd: ∀e∈q.c,-(100000*(n:Int))<=e.2/\e.2<=100000*(n:Int)
theorem LnOk.val {q:LnS} {n:Nat} (h:LnOk q n) (s:Of2): -(100000*(n:Int))<=(alk s q.c).getD 0/\(alk s q.c).getD 0<=100000*(n:Int):=by
 cases hq:alk s q.c with
 |none=>simp;omega
 |some v=>exact h.bd _ (zcv hq)
theorem LnOk.put {q:LnS} {n:Nat} (h:LnOk q n) {p:Play} (hp:playFault p=0):LnOk (zzv q p) (n+1):=by
 obtain ⟨_,_,_,_,⟨_,k2,_⟩,hb,_⟩:=zhn hp;have hv:=h.val (p.Player,p.Stat);refine ⟨h.c.put,ziT h.S,fun s hs=> ?_,AA (zpi _ _ _) (by have:=h.cl;omega),AA (zsE _ _) (by have:=h.Sl;omega),fun e he=> ?_⟩
 rcases zlu.1 hs with rfl|hs
 exact zsv k2;exact h.k s hs
 rcases zdP he with rfl|he
 dsimp only;omega
 have:=h.bd e he;omega
theorem LnOk.up {q:LnS} {n:Nat} (h:LnOk q n):LnOk q (n+1):=
 ⟨h.c,h.S,h.k,by have:=h.cl;omega,by have:=h.Sl;omega,fun e he=>by have:=h.bd e he;omega⟩
end
end Go.HL
section
namespace Go.HL
end Go.HL
namespace Go.HL
end Go.HL
namespace Go.HL
end Go.HL
end
namespace Go.HL
section
structure GL (α:Type) where
 u:Value
 out:List α
 a:Nat
structure GLok {α:Type} (P:α->Prop) (n m:Nat) (q:GL α):Prop where
 len:q.out.length<=n
 all: ∀x∈q.out,P x
 a:q.a<=m
section
variable {α:Type} {P:α->Prop}
theorem GLok.add {n m m':Nat} {u u':Value} {out:List α} {a1 a2:Nat} {x:α} (h:GLok P n m ⟨u,out,a1⟩) (hx:P x) (ha:a2<=m'):GLok P (n+1) m' ⟨u',out++[x],a2⟩:=
 ⟨by have:=h.len;simp at*;omega,fun y hy=>by
  rcases List.mem_append.1 hy with hy|hy
  exact h.all y hy
  simp at hy;subst hy;exact hx,ha⟩
theorem GLok.same {n m m':Nat} {u:Value} {out:List α} {a1 a2:Nat} (h:GLok P n m ⟨u,out,a1⟩) (ha:a2<=m'):GLok P (n+1) m' ⟨u,out,a2⟩:=
 ⟨by have:=h.len;dsimp only at*;omega,h.all,ha⟩
theorem zes {l:List α} {j:Nat} {y:α} (h: ∀x∈l,P x) (hy:P y): ∀x∈l.set j y,P x:=fun x hx=>by
 rcases ztp hx with rfl|hx
 exact hy;exact h x hx
end
theorem zoS:Sh []:=by simp [Sh]
end
section
structure PairS where
 Name:Str
 Val:Str
end
section

end
section
open Op (bytesLess)
end
section

end
section

end
section

end
section

end
section

end
section
def zbI {α:Type} (e:α->HVal) (a b:α):Bool:=zbl (zd (e a)) (zd (e b))
def zah {α:Type} (e:α->HVal):List α->List α->Bool
 |[],[]=>true
 |a::l,b::m=>zbI e a b&&zah e l m
 |_,_=>false
theorem zdu {α:Type} {e:α->HVal}: ∀{l m:List α},l.length≠m.length->zah e l m=false
 |[],[],h=>absurd rfl h
 |[],_::_,_=>rfl
 |_::_,[],_=>rfl
 |a::l,b::m,h=>by
   rw [zah,zdu (by intro q;apply h;simp [q])];simp
end
section

end
section
structure Hall where
 Teams:List Str
 Players:List Str
 Budget:Int
 Places:Int
structure Sale where
 Player:Str
 Team:Str
 Price:Int
def zlD:List Sale->Str->Int
 |[],_=>0
 |x::r,t=>(if x.Team=t then x.Price else 0)+zlD r t
def ziu:List Sale->Str->Int
 |[],_=>0
 |x::r,t=>(if x.Team=t then 1 else 0)+ziu r t
theorem ztA (l:List Sale) (x:Sale) (t:Str):zlD (l++[x]) t=zlD l t+(if x.Team=t then x.Price else 0):=by
 induction l with
 |nil=>simp [zlD]
 |cons y r ih=>simp only [A3,zlD,ih];omega
theorem zuh (l:List Sale) (x:Sale) (t:Str):ziu (l++[x]) t=ziu l t+(if x.Team=t then 1 else 0):=by
 induction l with
 |nil=>simp [ziu]
 |cons y r ih=>simp only [A3,ziu,ih];omega
abbrev zga:=List (Str×HVal)
def lkI (L:zga) (t:Str):HVal:=match zat t L with|some p=>p.2|none=> .int .i64 0
theorem ziB {s t:Str} {v:HVal}: ∀{L:zga},zat s L=none->zat t (L++[(s,v)])=if t=s then some (L.length,v) else zat t L
 |[],_=>by by_cases h:t=s<;>simp [zat,h]
 |(k,h)::r,hn=>by
   simp only [zat] at hn
   by_cases hk:s=k
   rw [if_pos hk] at hn;cases hn;rw [if_neg hk] at hn;have hr:zat s r=none:=by cases hq:zat s r with
    |none=>rfl
    |some p=>rw [hq] at hn;cases hn
   have ih:=ziB (t:=t) (v:=v) hr;simp only [A3,zat]
   by_cases ht:t=k
   have: ¬t=s:=fun e=>hk (e▸ht)
   rw [if_pos ht,if_neg this,if_pos ht];rw [if_neg ht,ih]
   by_cases hs:t=s
   rw [if_pos hs,if_pos hs];simp;rw [if_neg hs,if_neg hs,if_neg ht]
theorem zqp {s t:Str} {v:HVal}: ∀{L:zga} {j:Nat} {h:HVal},zat s L=some (j,h)->(zat t (L.set j (s,v)))=if t=s then some (j,v) else zat t L
 |[],j,h,hh=>by simp [zat] at hh
 |(k,x)::r,j,h,hh=>by
   simp only [zat] at hh
   by_cases hk:s=k
   rw [if_pos hk] at hh;simp only [AC,Prod.mk.injEq] at hh;obtain ⟨rfl,rfl⟩:=hh;subst hk;simp only [List.set_cons_zero,zat]
   by_cases ht:t=s
   rw [if_pos ht,if_pos ht];rw [if_neg ht,if_neg ht,if_neg ht];rw [if_neg hk] at hh
   cases hq:zat s r with
   |none=>rw [hq] at hh;cases hh
   |some p=>
     rw [hq] at hh;simp only [AT,AC,Prod.mk.injEq] at hh;obtain ⟨rfl,rfl⟩:=hh;have ih:=zqp (t:=t) (v:=v) (L:=r) (j:=p.1) (h:=p.2) (by rw [hq]);simp only [BY,zat]
     by_cases ht:t=k
     have: ¬t=s:=fun e=>hk (e▸ht)
     rw [if_pos ht,if_neg this,if_pos ht];rw [if_neg ht,ih,if_neg ht]
     by_cases hs:t=s
     rw [if_pos hs,if_pos hs];rfl;rw [if_neg hs,if_neg hs]
theorem zqo (s t:Str) (v:HVal) (L:zga):(zat t (sput s v L)).map (·.2)=if t=s then some v else (zat t L).map (·.2):=by
 unfold sput
 cases hq:zat s L with
 |none=>simp only [];rw [ziB hq];split<;>rfl
 |some p=>obtain ⟨j,h⟩:=p;simp only [];rw [zqp hq];split<;>rfl
theorem zug (L:zga) (t:Str):lkI L t=((zat t L).map (·.2)).getD (.int .i64 0):=by
 unfold lkI;cases zat t L<;>rfl
theorem zsz (s t:Str) (v:HVal) (L:zga):lkI (sput s v L) t=if t=s then v else lkI L t:=by
 rw [zug,zqo,zug];split<;>rfl
theorem zpK (L:zga) (t:Str):(zat t L).isSome=((zat t L).map (·.2)).isSome:=by cases zat t L<;>rfl
structure AucOk (h:Hall) (l:List Sale) (S:List Str) (L H:zga):Prop where
 sold: ∀s,S.contains s=l.any (fun y=>y.Player==s)
 left: ∀t,h.Teams.contains t=true->lkI L t= .int .i64 (h.Budget-zlD l t)
 got: ∀t,lkI H t= .int .i64 (ziu l t)
theorem zlR (s t:Str) (l:List Str):(zdq s l).contains t=(l.contains t||s==t):=by
 unfold zdq
 by_cases hc:l.contains s=true
 rw [if_pos hc]
 by_cases h:s=t
 subst h;rw [hc];simp;have:(s==t)=false:=by simpa using h
 simp [this]
 rw [if_neg hc,List.contains_eq_any_beq,Cb,<-List.contains_eq_any_beq]
 congr 1
 simp only [Bx,List.any_nil,Bj];rw [AS,beq_iff_eq,beq_iff_eq];exact eq_comm
theorem AucOk.add {h:Hall} {l:List Sale} {S:List Str} {L H:zga} (ok:AucOk h l S L H) (x:Sale) (hx:h.Teams.contains x.Team=true):
 AucOk h (l++[x]) (zdq x.Player S) (sput x.Team (.int .i64 (h.Budget-zlD l x.Team-x.Price)) L) (sput x.Team (.int .i64 (ziu l x.Team+1)) H) where
 sold s:=by rw [zlR,ok.sold,Cb];simp
 left t ht:=by
  rw [zsz,ztA]
  by_cases e:t=x.Team
  subst e;rw [if_pos rfl,if_pos rfl];congr 1;omega;rw [if_neg e,if_neg (fun q=>e q.symm),ok.left t ht];congr 1;omega
 got t:=by
  rw [zsz,zuh]
  by_cases e:t=x.Team
  subst e;rw [if_pos rfl,if_pos rfl];rw [if_neg e,if_neg (fun q=>e q.symm),ok.got t];congr 1;omega
end
section
/-! numbers in decimal-/
def dig (c:UInt8):Bool:=decide (48<=c.toNat)&&decide (c.toNat<=57)
def zhI (s:Str):Str:=match s with|45::r=>r|_=>s
def numC (s:Str) (n:Int):Bool:=decide ((zhI s=[]\/n<((zhI s).length:Int))\/((((zhI s).head?).getD 0).toNat:Int)=48/\((1:Int)<((zhI s).length:Int)\/(zhI s).length<s.length))
def numB (s:Str) (n:Int):Bool:= !(numC s n)&&(zhI s).all dig
def numV (s:Str):Int:=(Lib.atoi s).getD 0
def numR (s:Str) (n:Int):Int:=if numB s n then numV s else 0
def LimOk (l:List PairS) (L:zga):Prop:= ∀t,(zat t L).map (·.2)=(l.find? (fun p=>p.Name==t)).map (fun p=> .int .i64 (numR p.Val 9))
theorem LimOk.add {l:List PairS} {L:zga} (ok:LimOk l L) (x:PairS) (hx:l.any (fun y=>y.Name==x.Name)=false):LimOk (l++[x]) (sput x.Name (.int .i64 (numR x.Val 9)) L):=fun t=>by
 rw [zqo,List.find?_append,ok t]
 by_cases e:t=x.Name
 subst e;rw [if_pos rfl];have:l.find? (fun p=>p.Name==x.Name)=none:=by
  rw [List.find?_eq_none];intro y hy;have:=List.any_eq_false.1 hx y hy
  simpa using this
 rw [this];simp;rw [if_neg e];have hn:(x.Name==t)=false:=by simpa using fun q=>e q.symm
 cases l.find? (fun p=>p.Name==t) with
 |none=>simp [List.find?,hn]
 |some p=>simp
theorem zzL {l:List PairS} {L:zga} (ok:LimOk l L) (t:Str):(zat t L).isSome=l.any (fun y=>y.Name==t):=by
 rw [zpK,ok t];rw [AS];simp
structure Top where
 team:Str
 first:Int
 second:Int
def Top.step (q:Top) (t:Str) (n:Int):Top:=if q.first<n then ⟨t,n,q.first⟩ else ⟨q.team,q.first,max q.second n⟩
end
section
section
variable {h:Hall} {l:List Sale} {x:Sale} (h6:x.Player∈h.Players/\x.Team∈h.Teams) (h8: ∀y∈l,¬y.Player=x.Player)
include h6 h8
end
end
section

end
section
theorem Ghost.clear [Tracks] {e:Env}: ∀{M:List MObj},Ghost e M e []
 |[]=>Ghost.perm (Ab _)
 |_::_=>Ghost.trans Ghost.drop Ghost.clear
theorem Ghost.last [Tracks] {e:Env} {m:MObj}: ∀{R:List MObj},Ghost e (R++[m]) e [m]
 |[]=>Ghost.perm (Ab _)
 |x::R=>Ghost.trans (M':=R++[m]) Ghost.drop Ghost.last
theorem Ghost.only [Tracks] {e:Env} {M:List MObj} {i:Nat} {m:MObj} (h:M[i]? =some m):Ghost e M e [m]:=
 Ghost.trans (Ghost.perm ((ziO h).trans (B9 (l₁:=[m]) (l₂:=M.eraseIdx i)))) Ghost.last
end
section
section
variable {P:Program} {e:Env} {dst:Option Tmp} {ty:TypeId} {pos:String} {af:Array Edge} {g:Option (Nat×Bool)} {M:List MObj} {K:HVal->List MObj->Prop}
end
end
end Go.HL
namespace Go.Proofs.YtbbpommdmnjfmaaGreatDoor
set_option maxRecDepth 100000
set_option linter.unusedVariables false
set_option linter.unusedSimpArgs false
section
open Go.Proofs.Tryz
open Go.HL
theorem ze8 [Tracks] {n:Int}:ConP prog 133 [.int .i64 n] (.bool (zef n)):=by
 refine uOb func133 ntmps133 ?_;refine gz5 ?_;refine dq (uCl zc7 rfl zba) ?_;refine gz4 ?_;refine zx rfl ?_
 rfl
theorem znH [Tracks] {p:Play}:ConP prog 144 [zu p] (.int .i64 (playFault p)):=by
 refine uOb func144 ntmps144 ?_;refine gz9 ?_;refine dq (uCl zc6 rfl za9) ?_;refine gz3 ?_;refine uCo (fun h1=> ?_) fun h2=> ?_
 refine gz4 ?_;refine uRp ?_
 simp_all [playFault]
 refine gz3 ?_;refine dq (uCl zc7 rfl zba) ?_;refine gz3 ?_;refine dg rfl rfl (fun hc=>⟨_,OpenTo.upd (t:=14) rfl (hc) (OpenTo.refl _),uCl znI rfl zdc⟩) ?_;refine gz5 ?_;refine dg rfl rfl (fun hc=>⟨_,OpenTo.upd (t:=20) rfl (hc) (OpenTo.refl _),uCl zmX rfl ze8⟩) ?_;refine gz4 ?_;refine uCo (fun h3=> ?_) fun h4=> ?_
 refine gz4 ?_;refine uRp ?_
 simp_all [playFault]
 refine gz3 ?_;refine dq (uCl zc6 rfl za9) ?_;refine gz4 ?_;refine dg rfl rfl (fun hc=>⟨_,OpenTo.upd (t:=31) rfl (hc) (OpenTo.refl _),uCl zc6 rfl za9⟩) ?_;refine gz5 ?_;refine dg rfl rfl (fun hc=>⟨_,OpenTo.upd (t:=37) rfl (hc) (OpenTo.refl _),uCl zc6 rfl za9⟩) ?_;refine gz4 ?_;refine uCo (fun h5=> ?_) fun h6=> ?_
 refine gz4 ?_;refine uRp ?_
 simp_all [playFault]
 refine gz3 ?_;refine dq (uCl zc7 rfl zba) ?_;refine gz5 ?_;have hN:=zhX (n:=p.No) (lo:=1) (hi:=3000) (by simp_all);refine gz1 ?_;refine dg rfl rfl (fun hc=>⟨_,OpenTo.upd (t:=50) rfl (hc) (OpenTo.upd (t:=47) rfl (hc) (OpenTo.refl _)),uCl zc7 rfl zba⟩) ?_;refine gz3 ?_;refine uCo (fun h7=> ?_) fun h8=> ?_
 refine gz4 ?_;refine uRp ?_
 simp_all [playFault]
 refine zbo ?_;refine uCo (fun h9=> ?_) fun h10=> ?_
 refine gz4 ?_;refine uRp ?_
 simp_all [playFault]
 refine gz7 ?_;refine uRp ?_
 simp_all [playFault]
theorem zkj [Tracks] {a b:Play}:ConP prog 145 [zu a,zu b] (.int .i64 (byNo a b)):=by
 refine uOb func145 ntmps145 ?_;refine gz5 ?_;refine zw (fun _=>True) [] mixed ?_;refine gz4 ?_;refine uB 4 rfl (uCl zcM rfl z6) ?_;refine gz4 ?_;refine uB 9 rfl (uCl zcN rfl zZ) ?_;refine uB 10 rfl (zb (hs:=[_,_]) zac ty3 rfl rfl (by decide) (by decide) rfl) ?_;refine uB 11 rfl (uCl zf0 rfl (zbw (l:=[_,_]) (by simp))) ?_;refine gz3 ?_;refine zx rfl ?_
 rfl
theorem zen [Tracks] {l:List Play} (hl:l.length<=1000000):ConP prog 57 [zbk l] (.int .i64 (zbJ l)):=by
 refine uOb func57 ntmps57 ?_;refine gz9 ?_;refine uCo (fun h1=> ?_) fun h2=> ?_
 refine gz4 ?_;refine zag Ghost.clear rfl ⟨?_,rfl⟩
 show HVal.int .i64 _=_
 (rw [zbJ,if_pos uO])
 refine gz3 ?_;refine de rfl (zgr fun m14=> ?_)
 refine de rfl (zgr fun m15=> ?_)
 refine zfL ?_;refine uV1 [2,1,5,6,18,45] (fun (k:Nat)=>[(18,.int .i64 k),(5,.bool (zbz (l.take k)).c)]) (fun (k:Nat)=>[.map m15 (sk (em (.int .i64) (zbz (l.take k)).W)),.map m14 (sk (zez (zbz (l.take k)).S))]) (fun (k:Nat)=>k<=l.length/\(zb4 l 0 l=zb4 l k (l.drop k))) (fun (k:Nat)=>l.length-k) (0) ?_ ?_ ?_ ?_;exact ⟨Ad _,rfl⟩;exact ⟨rfl,rfl,trivial⟩;exact Ab _
 intro k hinv
 obtain ⟨hk,hg⟩:=hinv;refine gz4 ?_;refine uCo (fun h3=> ?_) fun h4=> ?_
 obtain ⟨x,hx⟩: ∃x,l[k]? =some x:=⟨_,Aa h3⟩
 have hdx:=zi hx;rw [hdx] at hg;refine gz6 ?_;refine dq (zl zaj zI rfl rfl rfl (by assumption)) ?_;refine gz1 ?_;refine de rfl (zq zI rfl fun b7=> ?_)
 refine gz1 ?_;refine de0 (zJ zI rfl rfl rfl rfl rfl ?_)
 refine gz1 ?_;refine zf (zA 7 rfl) ?_;refine gz3 ?_;refine dq (uCl zx1 rfl znH) ?_;refine gz6 ?_;refine uCo (fun h5=> ?_) fun h6=> ?_
 refine gz5 ?_;refine zag Ghost.clear rfl ⟨?_,rfl⟩
 show HVal.int .i64 _=_
 (rw [zj2 uO (by rw [hg,zb4,if_pos (by simpa using h5)]) (by simpa using h5)])
 refine gz3 ?_;refine zw (fun _=>True) [] mixed ?_;refine gz7 ?_;refine ahg 7 rfl rfl (by kernel_rfl) (by kernel_rfl) rfl (fun hc=>by have hq:=hc;(try simp at hq);exact ⟨_,OpenTo.upd (t:=34) rfl (hc) (OpenTo.upd (t:=32) rfl (hc) (OpenTo.refl _)),zl (j:=k-1) (a:=l.getD (k-1) zm2) zaj zI rfl rfl uO (getD_some uO)⟩) ?_;refine gz1 ?_;refine ahg 9 rfl rfl (by kernel_rfl) (by kernel_rfl) rfl (fun hc=>⟨_,OpenTo.upd (t:=36) rfl (hc) (OpenTo.upd (t:=31) rfl (hc) (OpenTo.refl _)),uCl zsY rfl zkj⟩) ?_;refine gz3 ?_;refine uCo (fun h7=> ?_) fun h8=> ?_
 refine gz4 ?_;refine zag Ghost.clear rfl ⟨?_,rfl⟩
 show HVal.int .i64 _=_
 (rw [zj2 (c:=7) uO (by rw [hg,zb4,if_neg (by simpa using h6),if_pos (by obtain ⟨qa,qb⟩:=h7;exact ⟨by omega,by simpa using qb⟩)]) (by decide)])
 refine gz6 ?_;refine de0 (zkS (i:=1) zqX ty9 rfl rfl rfl rfl ?_)
 refine gz6 ?_;refine de rfl (zrs (i:=0) (z0:=(0:Int)) zj4 ty9 ty3 rfl rfl rfl rfl ?_)
 refine zlq ?_;refine uCo (fun h9=> ?_) fun h10=> ?_
 refine zaD ?_;refine de0 (zkr (i:=0) zj4 ty9 rfl rfl rfl rfl ?_)
 refine gz7 ?_;refine ⟨k+1,⟨by omega,?_⟩,uD,⟨rfl,?_,trivial⟩,uK,?_⟩
 rw [hg,zlz (by simpa using h6) (fun hk0=>by simp_all)];rw [zeQ hx];exact congrArg (fun b=>some (HVal.bool b)) (by simp_all [zhG]);exact zm (by dsimp only;rw [zeQ hx];rfl);refine gz8 ?_;refine de0 (zkr (i:=0) zj4 ty9 rfl rfl rfl rfl ?_)
 refine gz7 ?_;refine ⟨k+1,⟨by omega,?_⟩,uD,⟨rfl,?_,trivial⟩,uK,?_⟩
 rw [hg,zlz (by simpa using h6) (fun hk0=>by simp_all)];rw [zeQ hx];exact congrArg (fun b=>some (HVal.bool b)) (by simp_all [zhG]);exact zm (by dsimp only;rw [zeQ hx];rfl);have hnk:l.length<=k:=by omega
 obtain rfl:k=l.length:=by omega
 rw [zz (Ae _)] at hg;rw [Al];refine gz2 ?_;refine zp ?_;refine gz4 ?_;have e1:(sk (zez (zbz l).S)).length=(zbz l).S.length:=by simp [sk,zez]
 have e2:(sk (em (HVal.int .i64) (zbz l).W)).length=(zbz l).W.length:=by simp [sk]
 refine gz2 ?_;refine de rfl (ziL (i:=1) zqX rfl rfl ?_)
 refine gz3 ?_;refine dgl rfl rfl (fun hc=>⟨_,OpenTo.upd (t:=68) rfl (hc) (OpenTo.refl _),ziL (i:=0) zj4 rfl rfl ⟨rfl,rfl⟩⟩) ?_;refine gz4 ?_;refine uCo (fun h11=> ?_) fun h12=> ?_
 refine gz4 ?_;refine zag Ghost.clear rfl ⟨?_,rfl⟩
 show HVal.int .i64 _=_
 (rw [zfc uO hg,zeJ,if_pos uO])
 refine gz4 ?_;refine uCo (fun h13=> ?_) fun h14=> ?_
 refine gz4 ?_;refine zag Ghost.clear rfl ⟨?_,rfl⟩
 show HVal.int .i64 _=_
 (rw [zfc uO hg,zeJ,if_neg uO,if_pos (by assumption)])
 refine gz7 ?_;refine zag Ghost.clear rfl ⟨?_,rfl⟩
 show HVal.int .i64 _=_
 (rw [zfc uO hg,zeJ,if_neg uO,if_neg (by simp_all)])
theorem zm9 [Tracks] {l:List Str} (hl:l.length<=1000000):ConP prog 54 [eSs l] (.int .i64 (ze6 l)):=by
 refine uOb func54 ntmps54 ?_;refine gz9 ?_;refine uCo (fun h1=> ?_) fun h2=> ?_
 refine gz4 ?_;refine uRp ?_
 (rw [ze6,if_pos uO])
 refine gz9 ?_;refine uV1 [2,3,10,14] (fun (k:Nat)=>[(10,.int .i64 k)]) (fun (k:Nat)=>[]) (fun (k:Nat)=>k<=l.length/\(ze6 l=zd1 l k (l.drop k))) (fun (k:Nat)=>l.length-k) (0) ?_ ?_ ?_ ?_;refine ⟨Ad _,?_⟩
 rw [ze6,if_neg uO];rfl;exact ⟨rfl,trivial⟩;exact Ab _
 intro k hinv
 obtain ⟨hk,hg⟩:=hinv;refine gz4 ?_;refine uCo (fun h3=> ?_) fun h4=> ?_
 obtain ⟨x,hx⟩: ∃x,l[k]? =some x:=⟨_,Aa h3⟩
 have hdx:=zi hx;rw [hdx] at hg;refine gz6 ?_;refine dq (zl zH ty9 rfl rfl rfl (by assumption)) ?_;refine gz7 ?_;refine dq (uCl zc6 rfl za9) ?_;refine gz2 ?_;refine uCo (fun h5=> ?_) fun h6=> ?_
 refine gz4 ?_;refine uRp ?_
 (rw [hg];simp_all [zd1])
 refine gz5 ?_;refine dq (zbq zH ty9 rfl rfl ⟨_,_,rfl,rfl⟩ uO uO) ?_;refine gz1 ?_;refine dq (uCl zjR rfl (zaH (by simp;omega))) ?_;refine gz1 ?_;refine uCo (fun h7=> ?_) fun h8=> ?_
 refine gz4 ?_;refine uRp ?_
 (rw [hg];simp_all [zd1])
 refine gz7 ?_;refine ⟨k+1,?_,?_,⟨rfl,trivial⟩,uK,Ab _⟩
 refine ⟨by omega,?_⟩
 rw [hg];simp_all [zd1]
 dsimp only;omega
 have hnk:l.length<=k:=by omega
 obtain rfl:k=l.length:=by omega
 rw [zz (Ae _)] at hg;refine gz2 ?_;refine zp ?_;refine gz6 ?_;refine uRp ?_
 (rw [hg];simp_all [zd1])
end
end Go.Proofs.YtbbpommdmnjfmaaGreatDoor
namespace Go.Proofs
section
open Go.Shelf
def Tryz.g102_ren:Go.Shelf.Ren:=⟨fun|6=>102|15=>214|14=>213|28=>275|29=>276|20=>267|21=>268|22=>269|23=>270|24=>271|25=>272|26=>273|27=>274|46=>340|47=>341|48=>342|49=>343|50=>344|57=>374|n=>n,fun|22=>34|24=>92|25=>152|3=>3|39=>235|0=>0|53=>294|55=>296|4=>4|46=>288|45=>287|50=>186|5=>5|9=>9|66=>350|70=>354|76=>371|77=>372|n=>n,fun|n=>n⟩
theorem ztI:Go.Proofs.SlLaysF0.n6 Tryz.prog Tryz.g102_ren:={
 mixed:=by kernel_rfl
 f6:=⟨Tryz.f102.name,by decide,Tryz.func102.trans (congrArg some (by kernel_rfl))⟩
 f14:=⟨Tryz.f213.name,by decide,Tryz.func213.trans (congrArg some (by kernel_rfl))⟩
 f15:=Tryz.func214.trans (congrArg some (by kernel_rfl))
 f20:=⟨Tryz.f267.name,by decide,Tryz.func267.trans (congrArg some (by kernel_rfl))⟩
 f21:=⟨Tryz.f268.name,by decide,Tryz.func268.trans (congrArg some (by kernel_rfl))⟩
 f22:=⟨Tryz.f269.name,by decide,Tryz.func269.trans (congrArg some (by kernel_rfl))⟩
 f23:=⟨Tryz.f270.name,by decide,Tryz.func270.trans (congrArg some (by kernel_rfl))⟩
 f24:=⟨Tryz.f271.name,by decide,Tryz.func271.trans (congrArg some (by kernel_rfl))⟩
 f25:=⟨Tryz.f272.name,by decide,Tryz.func272.trans (congrArg some (by kernel_rfl))⟩
 f26:=⟨Tryz.f273.name,by decide,Tryz.func273.trans (congrArg some (by kernel_rfl))⟩
 f27:=⟨Tryz.f274.name,by decide,Tryz.func274.trans (congrArg some (by kernel_rfl))⟩
 f28:=Tryz.func275.trans (congrArg some (by kernel_rfl))
 f29:=Tryz.func276.trans (congrArg some (by kernel_rfl))
 f46:=⟨Tryz.f340.name,by decide,Tryz.func340.trans (congrArg some (by kernel_rfl))⟩
 f47:=Tryz.func341.trans (congrArg some (by kernel_rfl))
 f48:=Tryz.func342.trans (congrArg some (by kernel_rfl))
 f49:=⟨Tryz.f343.name,by decide,Tryz.func343.trans (congrArg some (by kernel_rfl))⟩
 f50:=⟨Tryz.f344.name,by decide,Tryz.func344.trans (congrArg some (by kernel_rfl))⟩
 f57:=⟨Tryz.f374.name,by decide,Tryz.func374.trans (congrArg some (by kernel_rfl))⟩
 t0:=Tryz.underlying0
 a0:=Tryz.isAgg0
 z0:=Tryz.sizeOf0
 v0:=Tryz.zeroValue0
 t3:=Tryz.underlying3
 a3:=Tryz.isAgg3
 z3:=Tryz.sizeOf3
 v3:=Tryz.zeroValue3
 t4:=Tryz.underlying4
 a4:=Tryz.isAgg4
 z4:=Tryz.sizeOf4
 v4:=Tryz.zeroValue4
 t5:=Tryz.underlying5
 a5:=Tryz.isAgg5
 z5:=Tryz.sizeOf5
 v5:=Tryz.zeroValue5
 t9:=Tryz.underlying9
 a9:=Tryz.isAgg9
 z9:=Tryz.sizeOf9
 v9:=Tryz.zeroValue9
 t22:=Tryz.underlying34
 a22:=Tryz.isAgg34
 z22:=Tryz.sizeOf34
 v22:=Tryz.zeroValue34
 t25:=Tryz.underlying152
 a25:=Tryz.isAgg152
 z25:=Tryz.sizeOf152
 v25:=Tryz.zeroValue152
 t39:=Tryz.underlying235
 a39:=Tryz.isAgg235
 z39:=Tryz.sizeOf235
 v39:=Tryz.zeroValue235
 t45:=Tryz.underlying287
 a45:=Tryz.isAgg287
 z45:=Tryz.sizeOf287
 v45:=Tryz.zeroValue287
 t46:=Tryz.underlying288
 a46:=Tryz.isAgg288
 z46:=Tryz.sizeOf288
 v46:=Tryz.zeroValue288
 t50:=Tryz.underlying186
 a50:=Tryz.isAgg186
 z50:=Tryz.sizeOf186
 v50:=Tryz.zeroValue186
 t53:=Tryz.underlying294
 a53:=Tryz.isAgg294
 z53:=Tryz.sizeOf294
 v53:=Tryz.zeroValue294
 t55:=Tryz.underlying296
 a55:=Tryz.isAgg296
 z55:=Tryz.sizeOf296
 v55:=Tryz.zeroValue296
 t66:=Tryz.underlying350
 a66:=Tryz.isAgg350
 z66:=Tryz.sizeOf350
 v66:=Tryz.zeroValue350
 t70:=Tryz.underlying354
 a70:=Tryz.isAgg354
 z70:=Tryz.sizeOf354
 v70:=Tryz.zeroValue354
 t76:=Tryz.underlying371
 a76:=Tryz.isAgg371
 z76:=Tryz.sizeOf371
 v76:=Tryz.zeroValue371
 t77:=Tryz.underlying372
 a77:=Tryz.isAgg372
 z77:=Tryz.sizeOf372
 v77:=Tryz.zeroValue372}
def Tryz.g167_ren:Go.Shelf.Ren:=⟨fun|6=>167|15=>214|14=>241|28=>275|29=>276|20=>215|21=>293|22=>294|23=>295|24=>296|25=>297|26=>298|27=>299|46=>354|47=>341|48=>342|49=>355|50=>356|57=>381|n=>n,fun|22=>37|24=>72|25=>74|3=>3|39=>235|0=>0|53=>294|55=>296|4=>4|46=>288|45=>287|50=>186|5=>5|9=>9|66=>350|70=>354|76=>371|77=>372|n=>n,fun|n=>n⟩
theorem zpV:Go.Proofs.SlLaysF0.n6 Tryz.prog Tryz.g167_ren:={
 mixed:=by kernel_rfl
 f6:=⟨Tryz.f167.name,by decide,Tryz.func167.trans (congrArg some (by kernel_rfl))⟩
 f14:=⟨Tryz.f241.name,by decide,Tryz.func241.trans (congrArg some (by kernel_rfl))⟩
 f15:=Tryz.func214.trans (congrArg some (by kernel_rfl))
 f20:=⟨Tryz.f215.name,by decide,Tryz.func215.trans (congrArg some (by kernel_rfl))⟩
 f21:=⟨Tryz.f293.name,by decide,Tryz.func293.trans (congrArg some (by kernel_rfl))⟩
 f22:=⟨Tryz.f294.name,by decide,Tryz.func294.trans (congrArg some (by kernel_rfl))⟩
 f23:=⟨Tryz.f295.name,by decide,Tryz.func295.trans (congrArg some (by kernel_rfl))⟩
 f24:=⟨Tryz.f296.name,by decide,Tryz.func296.trans (congrArg some (by kernel_rfl))⟩
 f25:=⟨Tryz.f297.name,by decide,Tryz.func297.trans (congrArg some (by kernel_rfl))⟩
 f26:=⟨Tryz.f298.name,by decide,Tryz.func298.trans (congrArg some (by kernel_rfl))⟩
 f27:=⟨Tryz.f299.name,by decide,Tryz.func299.trans (congrArg some (by kernel_rfl))⟩
 f28:=Tryz.func275.trans (congrArg some (by kernel_rfl))
 f29:=Tryz.func276.trans (congrArg some (by kernel_rfl))
 f46:=⟨Tryz.f354.name,by decide,Tryz.func354.trans (congrArg some (by kernel_rfl))⟩
 f47:=Tryz.func341.trans (congrArg some (by kernel_rfl))
 f48:=Tryz.func342.trans (congrArg some (by kernel_rfl))
 f49:=⟨Tryz.f355.name,by decide,Tryz.func355.trans (congrArg some (by kernel_rfl))⟩
 f50:=⟨Tryz.f356.name,by decide,Tryz.func356.trans (congrArg some (by kernel_rfl))⟩
 f57:=⟨Tryz.f381.name,by decide,Tryz.func381.trans (congrArg some (by kernel_rfl))⟩
 t0:=Tryz.underlying0
 a0:=Tryz.isAgg0
 z0:=Tryz.sizeOf0
 v0:=Tryz.zeroValue0
 t3:=Tryz.underlying3
 a3:=Tryz.isAgg3
 z3:=Tryz.sizeOf3
 v3:=Tryz.zeroValue3
 t4:=Tryz.underlying4
 a4:=Tryz.isAgg4
 z4:=Tryz.sizeOf4
 v4:=Tryz.zeroValue4
 t5:=Tryz.underlying5
 a5:=Tryz.isAgg5
 z5:=Tryz.sizeOf5
 v5:=Tryz.zeroValue5
 t9:=Tryz.underlying9
 a9:=Tryz.isAgg9
 z9:=Tryz.sizeOf9
 v9:=Tryz.zeroValue9
 t22:=Tryz.underlying37
 a22:=Tryz.isAgg37
 z22:=Tryz.sizeOf37
 v22:=Tryz.zeroValue37
 t25:=Tryz.underlying74
 a25:=Tryz.isAgg74
 z25:=Tryz.sizeOf74
 v25:=Tryz.zeroValue74
 t39:=Tryz.underlying235
 a39:=Tryz.isAgg235
 z39:=Tryz.sizeOf235
 v39:=Tryz.zeroValue235
 t45:=Tryz.underlying287
 a45:=Tryz.isAgg287
 z45:=Tryz.sizeOf287
 v45:=Tryz.zeroValue287
 t46:=Tryz.underlying288
 a46:=Tryz.isAgg288
 z46:=Tryz.sizeOf288
 v46:=Tryz.zeroValue288
 t50:=Tryz.underlying186
 a50:=Tryz.isAgg186
 z50:=Tryz.sizeOf186
 v50:=Tryz.zeroValue186
 t53:=Tryz.underlying294
 a53:=Tryz.isAgg294
 z53:=Tryz.sizeOf294
 v53:=Tryz.zeroValue294
 t55:=Tryz.underlying296
 a55:=Tryz.isAgg296
 z55:=Tryz.sizeOf296
 v55:=Tryz.zeroValue296
 t66:=Tryz.underlying350
 a66:=Tryz.isAgg350
 z66:=Tryz.sizeOf350
 v66:=Tryz.zeroValue350
 t70:=Tryz.underlying354
 a70:=Tryz.isAgg354
 z70:=Tryz.sizeOf354
 v70:=Tryz.zeroValue354
 t76:=Tryz.underlying371
 a76:=Tryz.isAgg371
 z76:=Tryz.sizeOf371
 v76:=Tryz.zeroValue371
 t77:=Tryz.underlying372
 a77:=Tryz.isAgg372
 z77:=Tryz.sizeOf372
 v77:=Tryz.zeroValue372}
def Tryz.g175_ren:Go.Shelf.Ren:=⟨fun|6=>175|15=>214|14=>247|28=>275|29=>276|20=>304|21=>305|22=>306|23=>307|24=>308|25=>309|26=>310|27=>311|46=>359|47=>341|48=>342|49=>360|50=>361|57=>384|n=>n,fun|22=>40|24=>118|25=>209|3=>3|39=>235|0=>0|53=>294|55=>296|4=>4|46=>288|45=>287|50=>186|5=>5|9=>9|66=>350|70=>354|76=>371|77=>372|n=>n,fun|n=>n⟩
theorem ztJ:Go.Proofs.SlLaysF0.n6 Tryz.prog Tryz.g175_ren:={
 mixed:=by kernel_rfl
 f6:=⟨Tryz.f175.name,by decide,Tryz.func175.trans (congrArg some (by kernel_rfl))⟩
 f14:=⟨Tryz.f247.name,by decide,Tryz.func247.trans (congrArg some (by kernel_rfl))⟩
 f15:=Tryz.func214.trans (congrArg some (by kernel_rfl))
 f20:=⟨Tryz.f304.name,by decide,Tryz.func304.trans (congrArg some (by kernel_rfl))⟩
 f21:=⟨Tryz.f305.name,by decide,Tryz.func305.trans (congrArg some (by kernel_rfl))⟩
 f22:=⟨Tryz.f306.name,by decide,Tryz.func306.trans (congrArg some (by kernel_rfl))⟩
 f23:=⟨Tryz.f307.name,by decide,Tryz.func307.trans (congrArg some (by kernel_rfl))⟩
 f24:=⟨Tryz.f308.name,by decide,Tryz.func308.trans (congrArg some (by kernel_rfl))⟩
 f25:=⟨Tryz.f309.name,by decide,Tryz.func309.trans (congrArg some (by kernel_rfl))⟩
 f26:=⟨Tryz.f310.name,by decide,Tryz.func310.trans (congrArg some (by kernel_rfl))⟩
 f27:=⟨Tryz.f311.name,by decide,Tryz.func311.trans (congrArg some (by kernel_rfl))⟩
 f28:=Tryz.func275.trans (congrArg some (by kernel_rfl))
 f29:=Tryz.func276.trans (congrArg some (by kernel_rfl))
 f46:=⟨Tryz.f359.name,by decide,Tryz.func359.trans (congrArg some (by kernel_rfl))⟩
 f47:=Tryz.func341.trans (congrArg some (by kernel_rfl))
 f48:=Tryz.func342.trans (congrArg some (by kernel_rfl))
 f49:=⟨Tryz.f360.name,by decide,Tryz.func360.trans (congrArg some (by kernel_rfl))⟩
 f50:=⟨Tryz.f361.name,by decide,Tryz.func361.trans (congrArg some (by kernel_rfl))⟩
 f57:=⟨Tryz.f384.name,by decide,Tryz.func384.trans (congrArg some (by kernel_rfl))⟩
 t0:=Tryz.underlying0
 a0:=Tryz.isAgg0
 z0:=Tryz.sizeOf0
 v0:=Tryz.zeroValue0
 t3:=Tryz.underlying3
 a3:=Tryz.isAgg3
 z3:=Tryz.sizeOf3
 v3:=Tryz.zeroValue3
 t4:=Tryz.underlying4
 a4:=Tryz.isAgg4
 z4:=Tryz.sizeOf4
 v4:=Tryz.zeroValue4
 t5:=Tryz.underlying5
 a5:=Tryz.isAgg5
 z5:=Tryz.sizeOf5
 v5:=Tryz.zeroValue5
 t9:=Tryz.underlying9
 a9:=Tryz.isAgg9
 z9:=Tryz.sizeOf9
 v9:=Tryz.zeroValue9
 t22:=Tryz.underlying40
 a22:=Tryz.isAgg40
 z22:=Tryz.sizeOf40
 v22:=Tryz.zeroValue40
 t25:=Tryz.underlying209
 a25:=Tryz.isAgg209
 z25:=Tryz.sizeOf209
 v25:=Tryz.zeroValue209
 t39:=Tryz.underlying235
 a39:=Tryz.isAgg235
 z39:=Tryz.sizeOf235
 v39:=Tryz.zeroValue235
 t45:=Tryz.underlying287
 a45:=Tryz.isAgg287
 z45:=Tryz.sizeOf287
 v45:=Tryz.zeroValue287
 t46:=Tryz.underlying288
 a46:=Tryz.isAgg288
 z46:=Tryz.sizeOf288
 v46:=Tryz.zeroValue288
 t50:=Tryz.underlying186
 a50:=Tryz.isAgg186
 z50:=Tryz.sizeOf186
 v50:=Tryz.zeroValue186
 t53:=Tryz.underlying294
 a53:=Tryz.isAgg294
 z53:=Tryz.sizeOf294
 v53:=Tryz.zeroValue294
 t55:=Tryz.underlying296
 a55:=Tryz.isAgg296
 z55:=Tryz.sizeOf296
 v55:=Tryz.zeroValue296
 t66:=Tryz.underlying350
 a66:=Tryz.isAgg350
 z66:=Tryz.sizeOf350
 v66:=Tryz.zeroValue350
 t70:=Tryz.underlying354
 a70:=Tryz.isAgg354
 z70:=Tryz.sizeOf354
 v70:=Tryz.zeroValue354
 t76:=Tryz.underlying371
 a76:=Tryz.isAgg371
 z76:=Tryz.sizeOf371
 v76:=Tryz.zeroValue371
 t77:=Tryz.underlying372
 a77:=Tryz.isAgg372
 z77:=Tryz.sizeOf372
 v77:=Tryz.zeroValue372}
def Tryz.g191_ren:Go.Shelf.Ren:=⟨fun|6=>191|15=>214|14=>257|28=>275|29=>276|20=>300|21=>314|22=>315|23=>316|24=>317|25=>318|26=>319|27=>320|46=>363|47=>341|48=>342|49=>364|50=>365|57=>386|n=>n,fun|22=>38|24=>110|25=>185|3=>3|39=>235|0=>0|53=>294|55=>296|4=>4|46=>288|45=>287|50=>186|5=>5|9=>9|66=>350|70=>354|76=>371|77=>372|n=>n,fun|n=>n⟩
theorem ztK:Go.Proofs.SlLaysF0.n6 Tryz.prog Tryz.g191_ren:={
 mixed:=by kernel_rfl
 f6:=⟨Tryz.f191.name,by decide,Tryz.func191.trans (congrArg some (by kernel_rfl))⟩
 f14:=⟨Tryz.f257.name,by decide,Tryz.func257.trans (congrArg some (by kernel_rfl))⟩
 f15:=Tryz.func214.trans (congrArg some (by kernel_rfl))
 f20:=⟨Tryz.f300.name,by decide,Tryz.func300.trans (congrArg some (by kernel_rfl))⟩
 f21:=⟨Tryz.f314.name,by decide,Tryz.func314.trans (congrArg some (by kernel_rfl))⟩
 f22:=⟨Tryz.f315.name,by decide,Tryz.func315.trans (congrArg some (by kernel_rfl))⟩
 f23:=⟨Tryz.f316.name,by decide,Tryz.func316.trans (congrArg some (by kernel_rfl))⟩
 f24:=⟨Tryz.f317.name,by decide,Tryz.func317.trans (congrArg some (by kernel_rfl))⟩
 f25:=⟨Tryz.f318.name,by decide,Tryz.func318.trans (congrArg some (by kernel_rfl))⟩
 f26:=⟨Tryz.f319.name,by decide,Tryz.func319.trans (congrArg some (by kernel_rfl))⟩
 f27:=⟨Tryz.f320.name,by decide,Tryz.func320.trans (congrArg some (by kernel_rfl))⟩
 f28:=Tryz.func275.trans (congrArg some (by kernel_rfl))
 f29:=Tryz.func276.trans (congrArg some (by kernel_rfl))
 f46:=⟨Tryz.f363.name,by decide,Tryz.func363.trans (congrArg some (by kernel_rfl))⟩
 f47:=Tryz.func341.trans (congrArg some (by kernel_rfl))
 f48:=Tryz.func342.trans (congrArg some (by kernel_rfl))
 f49:=⟨Tryz.f364.name,by decide,Tryz.func364.trans (congrArg some (by kernel_rfl))⟩
 f50:=⟨Tryz.f365.name,by decide,Tryz.func365.trans (congrArg some (by kernel_rfl))⟩
 f57:=⟨Tryz.f386.name,by decide,Tryz.func386.trans (congrArg some (by kernel_rfl))⟩
 t0:=Tryz.underlying0
 a0:=Tryz.isAgg0
 z0:=Tryz.sizeOf0
 v0:=Tryz.zeroValue0
 t3:=Tryz.underlying3
 a3:=Tryz.isAgg3
 z3:=Tryz.sizeOf3
 v3:=Tryz.zeroValue3
 t4:=Tryz.underlying4
 a4:=Tryz.isAgg4
 z4:=Tryz.sizeOf4
 v4:=Tryz.zeroValue4
 t5:=Tryz.underlying5
 a5:=Tryz.isAgg5
 z5:=Tryz.sizeOf5
 v5:=Tryz.zeroValue5
 t9:=Tryz.underlying9
 a9:=Tryz.isAgg9
 z9:=Tryz.sizeOf9
 v9:=Tryz.zeroValue9
 t22:=Tryz.underlying38
 a22:=Tryz.isAgg38
 z22:=Tryz.sizeOf38
 v22:=Tryz.zeroValue38
 t25:=Tryz.underlying185
 a25:=Tryz.isAgg185
 z25:=Tryz.sizeOf185
 v25:=Tryz.zeroValue185
 t39:=Tryz.underlying235
 a39:=Tryz.isAgg235
 z39:=Tryz.sizeOf235
 v39:=Tryz.zeroValue235
 t45:=Tryz.underlying287
 a45:=Tryz.isAgg287
 z45:=Tryz.sizeOf287
 v45:=Tryz.zeroValue287
 t46:=Tryz.underlying288
 a46:=Tryz.isAgg288
 z46:=Tryz.sizeOf288
 v46:=Tryz.zeroValue288
 t50:=Tryz.underlying186
 a50:=Tryz.isAgg186
 z50:=Tryz.sizeOf186
 v50:=Tryz.zeroValue186
 t53:=Tryz.underlying294
 a53:=Tryz.isAgg294
 z53:=Tryz.sizeOf294
 v53:=Tryz.zeroValue294
 t55:=Tryz.underlying296
 a55:=Tryz.isAgg296
 z55:=Tryz.sizeOf296
 v55:=Tryz.zeroValue296
 t66:=Tryz.underlying350
 a66:=Tryz.isAgg350
 z66:=Tryz.sizeOf350
 v66:=Tryz.zeroValue350
 t70:=Tryz.underlying354
 a70:=Tryz.isAgg354
 z70:=Tryz.sizeOf354
 v70:=Tryz.zeroValue354
 t76:=Tryz.underlying371
 a76:=Tryz.isAgg371
 z76:=Tryz.sizeOf371
 v76:=Tryz.zeroValue371
 t77:=Tryz.underlying372
 a77:=Tryz.isAgg372
 z77:=Tryz.sizeOf372
 v77:=Tryz.zeroValue372}
def Tryz.g194_ren:Go.Shelf.Ren:=⟨fun|6=>194|15=>214|14=>258|28=>275|29=>276|20=>302|21=>321|22=>322|23=>323|24=>324|25=>325|26=>326|27=>327|46=>366|47=>341|48=>342|49=>367|50=>368|57=>387|n=>n,fun|22=>39|24=>114|25=>187|3=>3|39=>235|0=>0|53=>294|55=>296|4=>4|46=>288|45=>287|50=>186|5=>5|9=>9|66=>350|70=>354|76=>371|77=>372|n=>n,fun|n=>n⟩
theorem ztL:Go.Proofs.SlLaysF0.n6 Tryz.prog Tryz.g194_ren:={
 mixed:=by kernel_rfl
 f6:=⟨Tryz.f194.name,by decide,Tryz.func194.trans (congrArg some (by kernel_rfl))⟩
 f14:=⟨Tryz.f258.name,by decide,Tryz.func258.trans (congrArg some (by kernel_rfl))⟩
 f15:=Tryz.func214.trans (congrArg some (by kernel_rfl))
 f20:=⟨Tryz.f302.name,by decide,Tryz.func302.trans (congrArg some (by kernel_rfl))⟩
 f21:=⟨Tryz.f321.name,by decide,Tryz.func321.trans (congrArg some (by kernel_rfl))⟩
 f22:=⟨Tryz.f322.name,by decide,Tryz.func322.trans (congrArg some (by kernel_rfl))⟩
 f23:=⟨Tryz.f323.name,by decide,Tryz.func323.trans (congrArg some (by kernel_rfl))⟩
 f24:=⟨Tryz.f324.name,by decide,Tryz.func324.trans (congrArg some (by kernel_rfl))⟩
 f25:=⟨Tryz.f325.name,by decide,Tryz.func325.trans (congrArg some (by kernel_rfl))⟩
 f26:=⟨Tryz.f326.name,by decide,Tryz.func326.trans (congrArg some (by kernel_rfl))⟩
 f27:=⟨Tryz.f327.name,by decide,Tryz.func327.trans (congrArg some (by kernel_rfl))⟩
 f28:=Tryz.func275.trans (congrArg some (by kernel_rfl))
 f29:=Tryz.func276.trans (congrArg some (by kernel_rfl))
 f46:=⟨Tryz.f366.name,by decide,Tryz.func366.trans (congrArg some (by kernel_rfl))⟩
 f47:=Tryz.func341.trans (congrArg some (by kernel_rfl))
 f48:=Tryz.func342.trans (congrArg some (by kernel_rfl))
 f49:=⟨Tryz.f367.name,by decide,Tryz.func367.trans (congrArg some (by kernel_rfl))⟩
 f50:=⟨Tryz.f368.name,by decide,Tryz.func368.trans (congrArg some (by kernel_rfl))⟩
 f57:=⟨Tryz.f387.name,by decide,Tryz.func387.trans (congrArg some (by kernel_rfl))⟩
 t0:=Tryz.underlying0
 a0:=Tryz.isAgg0
 z0:=Tryz.sizeOf0
 v0:=Tryz.zeroValue0
 t3:=Tryz.underlying3
 a3:=Tryz.isAgg3
 z3:=Tryz.sizeOf3
 v3:=Tryz.zeroValue3
 t4:=Tryz.underlying4
 a4:=Tryz.isAgg4
 z4:=Tryz.sizeOf4
 v4:=Tryz.zeroValue4
 t5:=Tryz.underlying5
 a5:=Tryz.isAgg5
 z5:=Tryz.sizeOf5
 v5:=Tryz.zeroValue5
 t9:=Tryz.underlying9
 a9:=Tryz.isAgg9
 z9:=Tryz.sizeOf9
 v9:=Tryz.zeroValue9
 t22:=Tryz.underlying39
 a22:=Tryz.isAgg39
 z22:=Tryz.sizeOf39
 v22:=Tryz.zeroValue39
 t25:=Tryz.underlying187
 a25:=Tryz.isAgg187
 z25:=Tryz.sizeOf187
 v25:=Tryz.zeroValue187
 t39:=Tryz.underlying235
 a39:=Tryz.isAgg235
 z39:=Tryz.sizeOf235
 v39:=Tryz.zeroValue235
 t45:=Tryz.underlying287
 a45:=Tryz.isAgg287
 z45:=Tryz.sizeOf287
 v45:=Tryz.zeroValue287
 t46:=Tryz.underlying288
 a46:=Tryz.isAgg288
 z46:=Tryz.sizeOf288
 v46:=Tryz.zeroValue288
 t50:=Tryz.underlying186
 a50:=Tryz.isAgg186
 z50:=Tryz.sizeOf186
 v50:=Tryz.zeroValue186
 t53:=Tryz.underlying294
 a53:=Tryz.isAgg294
 z53:=Tryz.sizeOf294
 v53:=Tryz.zeroValue294
 t55:=Tryz.underlying296
 a55:=Tryz.isAgg296
 z55:=Tryz.sizeOf296
 v55:=Tryz.zeroValue296
 t66:=Tryz.underlying350
 a66:=Tryz.isAgg350
 z66:=Tryz.sizeOf350
 v66:=Tryz.zeroValue350
 t70:=Tryz.underlying354
 a70:=Tryz.isAgg354
 z70:=Tryz.sizeOf354
 v70:=Tryz.zeroValue354
 t76:=Tryz.underlying371
 a76:=Tryz.isAgg371
 z76:=Tryz.sizeOf371
 v76:=Tryz.zeroValue371
 t77:=Tryz.underlying372
 a77:=Tryz.isAgg372
 z77:=Tryz.sizeOf372
 v77:=Tryz.zeroValue372}
def Tryz.g200_ren:Go.Shelf.Ren:=⟨fun|6=>200|15=>214|14=>261|28=>275|29=>276|20=>312|21=>329|22=>330|23=>331|24=>332|25=>333|26=>334|27=>335|46=>370|47=>341|48=>342|49=>371|50=>372|57=>389|n=>n,fun|22=>41|24=>59|25=>188|3=>3|39=>235|0=>0|53=>294|55=>296|4=>4|46=>288|45=>287|50=>186|5=>5|9=>9|66=>350|70=>354|76=>371|77=>372|n=>n,fun|n=>n⟩
theorem ztM:Go.Proofs.SlLaysF0.n6 Tryz.prog Tryz.g200_ren:={
 mixed:=by kernel_rfl
 f6:=⟨Tryz.f200.name,by decide,Tryz.func200.trans (congrArg some (by kernel_rfl))⟩
 f14:=⟨Tryz.f261.name,by decide,Tryz.func261.trans (congrArg some (by kernel_rfl))⟩
 f15:=Tryz.func214.trans (congrArg some (by kernel_rfl))
 f20:=⟨Tryz.f312.name,by decide,Tryz.func312.trans (congrArg some (by kernel_rfl))⟩
 f21:=⟨Tryz.f329.name,by decide,Tryz.func329.trans (congrArg some (by kernel_rfl))⟩
 f22:=⟨Tryz.f330.name,by decide,Tryz.func330.trans (congrArg some (by kernel_rfl))⟩
 f23:=⟨Tryz.f331.name,by decide,Tryz.func331.trans (congrArg some (by kernel_rfl))⟩
 f24:=⟨Tryz.f332.name,by decide,Tryz.func332.trans (congrArg some (by kernel_rfl))⟩
 f25:=⟨Tryz.f333.name,by decide,Tryz.func333.trans (congrArg some (by kernel_rfl))⟩
 f26:=⟨Tryz.f334.name,by decide,Tryz.func334.trans (congrArg some (by kernel_rfl))⟩
 f27:=⟨Tryz.f335.name,by decide,Tryz.func335.trans (congrArg some (by kernel_rfl))⟩
 f28:=Tryz.func275.trans (congrArg some (by kernel_rfl))
 f29:=Tryz.func276.trans (congrArg some (by kernel_rfl))
 f46:=⟨Tryz.f370.name,by decide,Tryz.func370.trans (congrArg some (by kernel_rfl))⟩
 f47:=Tryz.func341.trans (congrArg some (by kernel_rfl))
 f48:=Tryz.func342.trans (congrArg some (by kernel_rfl))
 f49:=⟨Tryz.f371.name,by decide,Tryz.func371.trans (congrArg some (by kernel_rfl))⟩
 f50:=⟨Tryz.f372.name,by decide,Tryz.func372.trans (congrArg some (by kernel_rfl))⟩
 f57:=⟨Tryz.f389.name,by decide,Tryz.func389.trans (congrArg some (by kernel_rfl))⟩
 t0:=Tryz.underlying0
 a0:=Tryz.isAgg0
 z0:=Tryz.sizeOf0
 v0:=Tryz.zeroValue0
 t3:=Tryz.underlying3
 a3:=Tryz.isAgg3
 z3:=Tryz.sizeOf3
 v3:=Tryz.zeroValue3
 t4:=Tryz.underlying4
 a4:=Tryz.isAgg4
 z4:=Tryz.sizeOf4
 v4:=Tryz.zeroValue4
 t5:=Tryz.underlying5
 a5:=Tryz.isAgg5
 z5:=Tryz.sizeOf5
 v5:=Tryz.zeroValue5
 t9:=Tryz.underlying9
 a9:=Tryz.isAgg9
 z9:=Tryz.sizeOf9
 v9:=Tryz.zeroValue9
 t22:=Tryz.underlying41
 a22:=Tryz.isAgg41
 z22:=Tryz.sizeOf41
 v22:=Tryz.zeroValue41
 t25:=Tryz.underlying188
 a25:=Tryz.isAgg188
 z25:=Tryz.sizeOf188
 v25:=Tryz.zeroValue188
 t39:=Tryz.underlying235
 a39:=Tryz.isAgg235
 z39:=Tryz.sizeOf235
 v39:=Tryz.zeroValue235
 t45:=Tryz.underlying287
 a45:=Tryz.isAgg287
 z45:=Tryz.sizeOf287
 v45:=Tryz.zeroValue287
 t46:=Tryz.underlying288
 a46:=Tryz.isAgg288
 z46:=Tryz.sizeOf288
 v46:=Tryz.zeroValue288
 t50:=Tryz.underlying186
 a50:=Tryz.isAgg186
 z50:=Tryz.sizeOf186
 v50:=Tryz.zeroValue186
 t53:=Tryz.underlying294
 a53:=Tryz.isAgg294
 z53:=Tryz.sizeOf294
 v53:=Tryz.zeroValue294
 t55:=Tryz.underlying296
 a55:=Tryz.isAgg296
 z55:=Tryz.sizeOf296
 v55:=Tryz.zeroValue296
 t66:=Tryz.underlying350
 a66:=Tryz.isAgg350
 z66:=Tryz.sizeOf350
 v66:=Tryz.zeroValue350
 t70:=Tryz.underlying354
 a70:=Tryz.isAgg354
 z70:=Tryz.sizeOf354
 v70:=Tryz.zeroValue354
 t76:=Tryz.underlying371
 a76:=Tryz.isAgg371
 z76:=Tryz.sizeOf371
 v76:=Tryz.zeroValue371
 t77:=Tryz.underlying372
 a77:=Tryz.isAgg372
 z77:=Tryz.sizeOf372
 v77:=Tryz.zeroValue372}
end
end Go.Proofs
namespace Go.HL
section
variable {P:Program}
open Go.Sort Go.Proofs Go.Shelf Go.RowKit
theorem zrw [Tracks] {w w':World} {J:Imm} {M:List MObj} (hT:Tracks.on=true) (hl:Le (zcs w) J) (hs:Sat P J M w'): ∃q os,w'=grow (w.drewN q) os:=by
 have hb:=zmb hl hs;have hd:w.drawn<=w'.drawn:=AA (hl.low hT) (hs.low hT);refine ⟨w'.drawn-w.drawn,w'.heap.extract w.heap.size w'.heap.size,?_⟩
 have hh:w'.heap=w.heap++w'.heap.extract w.heap.size w'.heap.size:=by
  apply Array.ext_getElem?
  intro i
  by_cases hi:i<w.heap.size
  rw [AY hi];exact hb.block i hi;rw [Array.getElem?_append_right (by omega),Array.getElem?_extract];have:=hb.size
  split
  congr 1;omega
  rw [AB (by omega)]
 have h1:=hb.os;have h2:=hb.tape;have h3:=hb.output;obtain ⟨a1,a2,a3,a4,a5⟩:=w';obtain ⟨b1,b2,b3,b4,b5⟩:=w;simp only at h1 h2 h3 hd hh;subst h1 h2 h3;simp only [grow,World.drewN,World.mk.injEq];exact ⟨hh,trivial,by omega,trivial,trivial⟩
theorem ConP.calls [Tracks] {f:FuncId} {hargs:List HVal} {h:HVal} (hT:Tracks.on=true) (hc:ConP P f hargs h) {w:World} (ht:TabI P (zcs w)) {args:List Value} (ha:VL (zcs w) hargs args):
 Calls P f args.toArray w fun e w'=> ∃v,e= .returned v/\V (zcs w') h v/\∃q os,w'=grow (w.drewN q) os:=by
 refine (hc (zcs w) [] w args ha (zsF ht)).mono ?_;rintro e w' ⟨v,x,M',J,rfl,hle,⟨rfl,rfl⟩,hV,hs⟩;exact ⟨v,rfl,hV.mono hs.le_all,zrw hT hle hs⟩
@[reducible] def zda:Tracks:=⟨true⟩
abbrev zfd {A:Type} (I:Imm) (e:A->HVal) (k:Nat):Type:={p:A×List Value//p.2.length=k/\(∀v∈p.2,v.oneCell'=true)/\VL I (zd (e p.1)) p.2}
theorem zsD [Tracks] {A:Type} {I:Imm} {e:A->HVal} {k:Nat} (hk: ∀x,(zd (e x)).length=k) (hf: ∀x,zal (zd (e x))=true) {rc:Array Value}: ∀(l:List A) (off:Nat),off+l.length*k<=rc.size->
 (∀(i j:Nat) (x:A) (c:HVal) (v:Value),l[i]? =some x->(zd (e x))[j]? =some c->rc[off+i*k+j]? =some v->V I c v)->
 ∃d:List (zfd I e k),d.map (·.1.1)=l/\∀(i j:Nat) (p:zfd I e k),d[i]? =some p->j<k->rc[off+i*k+j]? =p.1.2[j]?
 |[],off,_,_=>⟨[],rfl,fun i j p h=>by simp at h⟩
 |x::l,off,hb,hV=>by
   have hb':off+k+l.length*k<=rc.size:=by simp [AJ] at hb;omega
   obtain ⟨d,h1,h2⟩:=zsD hk hf l (off+k) hb' fun i j y c v a1 a2 a3=>hV (i+1) j y c v (by simpa using a1) a2 (by rw [AJ,Nat.one_mul];rw [show off+(i*k+k)+j=off+k+i*k+j by omega];exact a3)
   have hlen:(rc.extract off (off+k)).toList.length=k:=by simp;omega
   have hg: ∀j,j<k->(rc.extract off (off+k)).toList[j]? =rc[off+j]?:=fun j hj=>by
    rw [A4,Array.getElem?_extract,if_pos (by omega)]
   have hvl:VL I (zd (e x)) (rc.extract off (off+k)).toList:=⟨by rw [hlen,hk],fun j c v a1 a2=>by
    have hj:j<k:=by have:=zo a1;rw [hk] at this;exact this
    rw [hg j hj] at a2;exact hV 0 j x c v rfl a1 (by simpa using a2)⟩
   refine ⟨⟨(x,(rc.extract off (off+k)).toList),hlen,zlp hvl (hf x),hvl⟩::d,by simp [h1],fun i j p hp hj=> ?_⟩
   cases i with
   |zero=>
     simp only [A8,AC] at hp;subst hp;simp only [Nat.zero_mul,BE];exact (hg j hj).symm
   |succ i=>
     simp only [A5] at hp;rw [<-h2 i j p hp hj,AJ,Nat.one_mul]
     congr 1;omega
section
variable {A:Type} {e:A->HVal} {k:Nat}
theorem zqq {α:Type} [Inhabited α] {enc:α->List Value} {w:World} {b off m:Nat} {dk:Array α} {os:Array Obj} {c:Nat} (hc:c<w.heap.size) (hb:c≠b):(sortWorldK enc k w b off m dk os).heap[c]? =w.heap[c]?:=by
 simp only [sortWorldK,grow,putRowK,putRow,mapBlock,Sort.ahead];rw [AY (by simpa using hc),Bc,if_neg (Ne.symm hb)]
theorem zmP {α:Type} [Inhabited α] {enc:α->List Value} {w:World} {b off m:Nat} {dk:Array α} {os:Array Obj} {rc:Array Value} {el:TypeId} {fr:Nat×Nat} (hb:w.heap[b]? =some (.cells rc el fr)):
 (sortWorldK enc k w b off m dk os).heap[b]? =some (.cells (putCells id off (flatK enc k dk) rc) el fr):=by
 have hlt:b<w.heap.size:=lt_of_get' hb;simp only [sortWorldK,grow,putRowK,putRow,mapBlock,Sort.ahead];rw [AY (by simpa using hlt),Bc,if_pos rfl,hb]
 rfl
where
 lt_of_get' {α:Type} {a:Array α} {i:Nat} {x:α} (h:a[i]? =some x):i<a.size:=by
  rcases Az i a.size with h'|h'
  exact h'
  simp [AB h'] at h
theorem zp6 {α:Type} [Inhabited α] {enc:α->List Value} (hk: ∀x,(enc x).length=k) {dk:Array α} {i j:Nat} {x:α} (hx:dk[i]? =some x) (hj:j<k):some ((flatK enc k dk)[i*k+j]!)=(enc x)[j]?:=by
 have hi:i<dk.size:=by
  rcases Az i dk.size with h'|h'
  exact h'
  simp [AB h'] at hx
 have hle:(i+1)*k<=dk.size*k:=Aw _ hi;rw [AJ,Nat.one_mul] at hle;rw [get_flatK enc k dk _ (by omega)];have e1:(i*k+j)/k=i:=by rw [BF,Nat.mul_add_div (by omega),Nat.div_eq_of_lt hj];rfl
 have e2:(i*k+j)%k=j:=by rw [BF,Nat.mul_add_mod,Nat.mod_eq_of_lt hj]
 rw [e1,e2];have e3:dk[i]! =x:=by rw [getElem!_pos dk i hi];rw [A0 hi] at hx;exact Ak hx
 rw [e3];have hjl:j<(enc x).length:=by rw [hk];exact hj
 rw [Aa hjl,getElem!_pos (enc x) j hjl]
theorem zfH [Tracks] {ρ:Ren} (L:SlLaysF0.n6 P ρ) (aE: ∀w,(isAgg (ρ.t 24)).run P w= .ok true w) (zE: ∀w,(Go.sizeOf (ρ.t 24)).run P w= .ok k w) (hk: ∀x,(zd (e x)).length=k) (ha: ∀x,e x= .agg (zd (e x))) (hf: ∀x,zal (zd (e x))=true)
 {c:A->A->Int} (hO:SWO (ltOf c)) {g:FuncId} (hg:Callable P g) {cap:List HVal} (hc: ∀x y, @ConP zda P g (e x::e y::cap) (.int .i64 (c x y))) {l:List A} (hl:l.length<=1000000) {v:Value}:
 Con P (ρ.f 6) [.raw v,.fn (.func g) [] cap] [.arr v k (l.map e)] fun x M'=> ∃l':List A,x= .tup []/\l'.Perm l/\l'.Pairwise (fun a b=> ¬c b a<0)/\M'=[.arr v k (l'.map e)]:=by
 intro I F w args hargs hs
 obtain ⟨n1,n2⟩:=hargs
 match args,n1,n2 with
 |[u,fv],_,n2=>
   obtain rfl:u=v:=(n2 0 _ _ rfl rfl).raw_inv;obtain ⟨f1,cb,rfl,f2,f3⟩:=(n2 1 _ _ rfl rfl).fn_inv;have hf1:f1= #[]:=by have:=f2.1;simp at this;exact this
   subst hf1
   by_cases h0:l=[]
   subst h0;have hu: ∃p cp,u= .slice p 0 cp:=by
    rcases hs.obj (.arr u k (([]:List A).map e)) (by simp) with ⟨rfl,_⟩|⟨b,off,cp,rc,el,fr,rfl,_⟩
    exact ⟨_,_,rfl⟩;exact ⟨_,_,rfl⟩
   obtain ⟨p,cp,rfl⟩:=hu;refine (AnyF.slices_SortFunc_none L p cp _ w).mono ?_;rintro _ _ ⟨rfl,rfl⟩;exact ⟨_,.tup [],_,I,rfl,.refl I,⟨[],rfl,.refl _,.nil,rfl⟩,.tup (by simp) (fun j c v h _=>by simp at h),hs⟩
   rcases hs.obj (.arr u k (l.map e)) (by simp) with ⟨_,hn⟩|⟨b,off,cp,rc,el,fr,rfl,_⟩
   simp at hn;exact absurd hn h0
   rw [Aj] at hs⊢;obtain ⟨_,rc,el,fr,h2,h3,h4,h5,h6,h7⟩:=znA hs;rw [Aj] at h5;have hblt:b<w.heap.size:=zmP.lt_of_get' h2;have hsz:off+l.length*k<=rc.size:=by
    have:l.length*k<=cp*k:=Aw _ h5.1
    omega
   obtain ⟨d,d1,d2⟩:=zsD (I:=I) (e:=e) hk hf (rc:=rc) l off hsz fun i j x c v a1 a2 a3=>h7 i j (e x) c v (by simp [a1]) a2 a3
   have dl:d.length=l.length:=by rw [<-d1];simp
   obtain ⟨p0,hp0⟩: ∃p,d[0]? =some p:=⟨_,Aa (by have:=List.length_pos_iff.2 h0;omega)⟩
   haveI:Inhabited (zfd I e k):=⟨p0⟩
   have hkr: ∀x:zfd I e k,(x.1.2).length=k:=fun x=>x.2.1
   have hH:HoldsK (fun x:zfd I e k=>x.1.2) k w b off d.toArray:=fun j hj=>by
    simp only [size_flatK,Bo,dl] at hj;have hk0:0<k:=by rcases Bl k with h|h;(subst h;simp at hj);exact h
    have hi:j/k<d.length:=by rw [dl];exact Nat.div_lt_of_lt_mul (by rw [BF];exact hj)
    have hjk:=BN j hk0;have hdj:j/k*k+j%k=j:=by rw [BF];exact Nat.div_add_mod j k
    have hg1:=d2 (j/k) (j%k) d[j/k] (Aa hi) hjk;have hg2:=zp6 (enc:=fun x:zfd I e k=>x.1.2) (k:=k) hkr (dk:=d.toArray) (i:=j/k) (j:=j%k) (x:=d[j/k]) (by simp [hi]) hjk;rw [hdj] at hg2
    constructor
    rw [zc8 h2];rw [show off+j=off+j/k*k+j%k by omega,hg1,<-hg2];rfl;simp only [World.frozen?,h2];have:=h3 (off+j) (by omega)
    simpa using this
   have hle: ∀(m:Nat) (dk:Array (zfd I e k)) (os:Array Obj),Le I (zcs (sortWorldK (fun x:zfd I e k=>x.1.2) k w b off m dk os)):=fun m dk os=>
    ⟨fun c o ho=>by
     have hcb:c≠b:=fun hh=>by
      subst hh;have:=hs.apart c (by simp [blocks,MObj.blocks]);rw [this] at ho;cases ho
     have h9:=hs.imm c o ho
     show (sortWorldK _ k w b off m dk os).heap[c]? =some o
     rw [zqq (zmP.lt_of_get' h9) hcb];exact h9,hs.os,hs.output,hs.tape,fun ht=>AA (hs.low ht) (B6 _ _)⟩
   have hcmp:CmpLays P g cb (fun x:zfd I e k=>x.1.2) k (fun x y=>c x.1.1 y.1.1) b off d.toArray.size w:=fun m os dk _ x y=>by
    have hI:=hle m dk os;have hxa: ∀z:zfd I e k,V (zcs (sortWorldK (fun x:zfd I e k=>x.1.2) k w b off m dk os)) (e z.1.1) (.agg z.1.2.toArray):=fun z=>by
     rw [ha];exact zkY (by simpa using z.2.2.2.mono hI)
    have e9:(#[Value.agg x.1.2.toArray,.agg y.1.2.toArray]++cb)=(Value.agg x.1.2.toArray:: .agg y.1.2.toArray::cb.toList).toArray:=by simp
    rw [e9];refine (@ConP.calls P zda g _ _ rfl (hc x.1.1 y.1.1) _ (hs.tab.mono hI) _ (VL.cons (hxa x) (VL.cons (hxa y) (f3.mono hI)))).mono ?_;rintro _ w' ⟨u,rfl,hu,q,os',rfl⟩;exact ⟨by rw [hu.int_inv],q,os',rfl⟩
   have hO':SWO (ltOf fun x y:zfd I e k=>c x.1.1 y.1.1):=⟨fun x=>hO.irrefl x.1.1,fun x y z=>hO.trans x.1.1 y.1.1 z.1.1,fun x y z=>hO.ntrans x.1.1 y.1.1 z.1.1⟩;have hrun:=AnyQ.slices_SortFunc L k aE zE (fun x:zfd I e k=>x.1.2) hkr (fun x=>x.2.2.1) (fun x y=>c x.1.1 y.1.1) hO' g cb b off cp d.toArray w (zhs hg) hcmp hH hblt (by simp;omega);rw [Bo,dl] at hrun;refine hrun.mono ?_;rintro _ w' ⟨rfl,d',m,os,⟨q1,_,q3⟩,q4,rfl⟩;simp only [Bo,dl] at q1;have q3':d'.toList.Perm d:=by
    have e1:(d'.extract 0 l.length)=d':=by rw [<-q1];exact Array.extract_size
    have e2:(d.toArray.extract 0 l.length)=d.toArray:=by have:=Array.extract_size (xs:=d.toArray);rw [Bo,dl] at this;exact this
    rw [e1,e2] at q3;simpa using q3
   refine ⟨_,.tup [],[.arr (.slice (some ⟨b,off,none⟩) l.length cp) k ((d'.toList.map (·.1.1)).map e)],I,rfl,.refl I,⟨d'.toList.map (·.1.1),rfl,by rw [<-d1];exact q3'.map _,?_,rfl⟩,.tup (by simp) (fun j c v h _=>by simp at h),?_⟩
   refine List.pairwise_iff_getElem.2 fun i j hi hj hij=> ?_
   simp only [Aj,AX] at hi hj;have:=q4 i j (Ad _) hij (by omega);rw [getElem!_pos d' i hi,getElem!_pos d' j hj] at this;simp only [ltOf,decide_eq_false_iff_not] at this
   simpa using this
   have hchg: ∀x,x<w.heap.size->x∉(MObj.arr (.slice (some ⟨b,off,none⟩) l.length cp) k (l.map e)).blocks->(sortWorldK (fun x:zfd I e k=>x.1.2) k w b off m d' os).heap[x]? =w.heap[x]?:=fun x hx hnx=>zqq hx fun hh=>hnx (by rw [hh];simp [MObj.blocks])
   refine hs.change (m':= .arr (.slice (some ⟨b,off,none⟩) l.length cp) k ((d'.toList.map (·.1.1)).map e)) hchg (fun x hx=> .inl hx) (by simp [MObj.blocks]) ?_ rfl rfl rfl (fun _=>B6 _ _)
   refine .inr ⟨b,off,cp,putCells id off (flatK (fun x:zfd I e k=>x.1.2) k d') rc,el,fr,by simp [q1],zmP h2,by simpa [putCells] using h3,?_,by simp [q1];exact h5,by simpa [putCells] using h6,?_⟩
   intro y hy;obtain ⟨z,_,rfl⟩:=List.mem_map.1 hy;exact hk z
   intro i j y z v a1 a2 a3
   rw [Bg,Av] at a1
   cases hq:d'.toList[i]? with
   |none=>rw [hq] at a1;simp at a1
   |some r=>
     rw [hq] at a1;simp only [AT,Function.comp_apply,AC] at a1;subst a1;have hj:j<k:=by have:=zo a2;rw [hk] at this;exact this
     have hi:i<l.length:=by have:=zo hq;simp at this;omega
     have hle:(i+1)*k<=l.length*k:=Aw _ hi;rw [AJ,Nat.one_mul] at hle;have hr:off+i*k+j<rc.size:=by omega
     rw [putCells,Array.getElem?_mapIdx,A0 hr,AT,if_pos ⟨by omega,by rw [size_flatK,q1];omega⟩] at a3;rw [show off+i*k+j-off=i*k+j by omega] at a3;have hg2:=zp6 (enc:=fun x:zfd I e k=>x.1.2) (k:=k) hkr (dk:=d') (i:=i) (j:=j) (x:=r) (by simpa using hq) hj;rw [show (id (flatK (fun x:zfd I e k=>x.1.2) k d')[i*k+j]!)=(flatK (fun x:zfd I e k=>x.1.2) k d')[i*k+j]! from rfl,hg2] at a3;exact r.2.2.2.2 j z v a2 a3
end
end
section
open Go.Proofs Go.RowKit Go.Maps Go.Sort Go.Shelf
section
variable {P:Program}
end
end
section
variable {P:Program}
abbrev hsm (L:zga):HVal:= .hmap (L.map fun p=> .str p.1) (L.map (·.2))
abbrev hset (S:List (List UInt8)):HVal:=hsm (zez S)
theorem zxA (L:zga):(sk L).map (·.1)=L.map fun p=>HVal.str p.1:=by simp [sk,Function.comp_def]
theorem zxB (L:zga):(sk L).map (·.2)=L.map (·.2):=by simp [sk,Function.comp_def]
section
variable {e:Env} {dst:Option Tmp} {ty:TypeId} {pos:String} {af:Array Edge} {g:Option (Nat×Bool)}
end
inductive Bow (M:List MObj):HVal->HVal->Prop
 |weak {h h':HVal} (hw:Weak h h'):Bow M h h'
 |arr {i:Nat} {v:Value} {sz:Nat} {es:List HVal} (hm:M[i]? =some (.arr v sz es)):Bow M (.raw v) (.slice sz es)
 |cells {i b off:Nat} {cs cs':List HVal} (hm:M[i]? =some (.cells b cs)) (hl:cs.length=cs'.length) (h: ∀(j:Nat) (c c':HVal),cs[j]? =some c->cs'[j]? =some c'->Bow M c c'):Bow M (.raw (.pointer (some ⟨b,off,none⟩))) (.vptr cs' off)
 |map {i b:Nat} {L:zga} (hm:M[i]? =some (.map b (sk L))):Bow M (.raw (.map (some b))) (hsm L)
 |vptr {off:Nat} {l l':List HVal} (hl:l.length=l'.length) (h: ∀(j:Nat) (c c':HVal),l[j]? =some c->l'[j]? =some c'->Bow M c c'):Bow M (.vptr l off) (.vptr l' off)
 |fn {f:Fn} {c1 l l':List HVal} (hl:l.length=l'.length) (h: ∀(j:Nat) (c c':HVal),l[j]? =some c->l'[j]? =some c'->Bow M c c'):Bow M (.fn f c1 l) (.fn f c1 l')
theorem Bow.refl {M:List MObj} {h:HVal}:Bow M h h:= .weak (Weak.refl _)
theorem V.vptr_inv' {I:Imm} {cs:List HVal} {off:Nat} {v:Value} (h:V I (.vptr cs off) v): ∃b base rc el fr,v= .pointer (some ⟨b,base+off,none⟩)/\I.heap b=some (.cells rc el fr)/\base+cs.length<=rc.size/\
 ∀(j:Nat) (c:HVal) (v:Value),cs[j]? =some c->rc[base+j]? =some v->V I c v:=by
 cases h with
 |vptr h1 h2 h3=>exact ⟨_,_,_,_,_,rfl,h1,h2,h3⟩
theorem Bow.v [Tracks] {M:List MObj} {I:Imm} {F:List MObj} {w:World} {h h':HVal} (hb:Bow M h h') (hs:Sat P I (M++F) w): ∀{v:Value},V I h v->V (zcs w) h' v:=by
 induction hb with
 |weak hw=>intro v hv;exact hw _ _ (hv.mono hs.le_all)
 |arr hm=>intro v hv;exact (Bor.arr hm).v hs hv
 | @cells i b off cs cs' hm hl _ ih=>
   intro v hv
   rw [hv.raw_inv];obtain ⟨rc,el,fr,h2,h3,h4⟩:=hs.obj _ (Ar _ (Ac hm));have:=V.vptr (I:=zcs w) (cs:=cs') (off:=off) (base:=0) h2 (by have:=h4.1;simp at this;omega) fun j c v a1 a2=>by
    have hj:=zo a1;have hj':=Aa (l:=cs) (i:=j) (by omega);exact ih j _ c hj' a1 (h4.2 j _ v hj' (by simpa using a2))
   rwa [A7] at this
 | @map i b L hm=>
   intro v hv
   rw [hv.raw_inv];obtain ⟨es,clk,h1,h2,h3⟩:=hs.obj _ (Ar _ (Ac hm));have hn:es.size=L.length:=by simpa [sk] using h2.1
   refine .hmap (I:=zcs w) h1 (by simp [hn]) (by simp [hn]) (fun j c m a1 a2=> ?_) (fun j c m a1 a2=> ?_)
   rw [<-zxA,Av] at a1
   cases hq:(sk L)[j]? with
   |none=>rw [hq] at a1;simp at a1
   |some p=>rw [hq] at a1;simp at a1;subst a1;exact ((h3 j p m hq a2).1).mono hs.le_all
   rw [<-zxB,Av] at a1
   cases hq:(sk L)[j]? with
   |none=>rw [hq] at a1;simp at a1
   |some p=>rw [hq] at a1;simp at a1;subst a1;exact ((h3 j p m hq a2).2).mono hs.le_all
 | @vptr off l l' hl _ ih=>
   intro v hv
   obtain ⟨b,base,rc,el,fr,rfl,h1,h2,h3⟩:=hv.vptr_inv';refine .vptr (I:=zcs w) (hs.imm _ _ h1) (by omega) fun j c u a1 a2=> ?_
   have hj:=zo a1;have hj':=Aa (l:=l) (i:=j) (by omega);exact ih j _ c hj' a1 (h3 j _ u hj' a2)
 | @fn f c1 l l' hl _ ih=>
   intro v hv
   cases hv with
   |fn g1 g2 g3 g4=>
     refine .fn g1 (by omega) (fun j c u a1 a2=>(g3 j c u a1 a2).mono hs.le_all) fun j c u a1 a2=> ?_
     have hj:=zo a1;have hj':=Aa (l:=l) (i:=j) (by omega);exact ih j _ c hj' a1 (g4 j _ u hj' a2)
end
section
variable {P:Program}
theorem zd2 [Tracks] {e:Env} {M:List MObj} {o:Oper} {K:HVal->List MObj->Prop} {sz:Nat} {es:List HVal} (h:EOp P e M o fun x M'=> ∃v,x= .raw v/\M'= .arr v sz es::M) (hk:K (.slice sz es) M):EOp P e M o K:=fun I F a w ho hs=>
 zbN (fun _ _ ⟨v,x,M',J,h1,h2,⟨u,h3,h4⟩,h5,h6⟩=>by
  subst h3 h4;obtain ⟨J',g1,g2,g3⟩:=Sat.freeze_arr (M:=M++F) h6;exact ⟨v,_,M,J',h1,h2.trans g1,hk,by rw [h5.raw_inv];exact g3,g2⟩) (h I F a w ho hs)
theorem zmU [Tracks] {e:Env} {M N:List MObj} {o:Oper} {K:HVal->List MObj->Prop} {sz:Nat} {es:List HVal} (i:Nat) (h:EOp P e M o fun x M'=> ∃v,x= .raw v/\M'[i]? =some (.arr v sz es)/\M'.eraseIdx i=N) (hk:K (.slice sz es) N):EOp P e M o K:=fun I F a w ho hs=>
 zbN (fun _ _ ⟨v,x,M',J,h1,h2,⟨u,h3,h4,h5⟩,h6,h7⟩=>by
  subst h3 h5;obtain ⟨J',g1,g2,g3⟩:=(h7.pull h4).freeze_arr;exact ⟨v,_,_,J',h1,h2.trans g1,hk,by rw [h6.raw_inv];exact g3,g2⟩) (h I F a w ho hs)
end
end Go.HL
namespace Go.Proofs.YtbbpommdmnjfmaaGreatDoor
set_option maxRecDepth 100000
set_option linter.unusedVariables false
set_option linter.unusedSimpArgs false
section
open Go.HL
set_option linter.unusedSimpArgs false
end
section
open Go.HL
set_option linter.unusedSimpArgs false
end
section
open Go.HL
set_option linter.unusedSimpArgs false
end
section
open Go.Proofs.Tryz
open Go.HL
theorem zaG [Tracks] {l:List Str} (hl:l.length<=1000000):zeK prog 32 [eSs l] 1 (l.map .str):=by
 refine uOb func32 ntmps32 ?_;refine gz6 ?_;refine de rfl (zcp zH rfl rfl fun b4 hb4=> ?_)
 refine gz1 ?_;refine uCo (fun h1=> ?_) fun h2=> ?_
 refine gz4 ?_;exact zag (zG 1) rfl ⟨_,rfl,by simp_all⟩;refine gz3 ?_;refine de rfl (zdz zH ty9 fun v5=> ?_)
 refine gz1 ?_;refine de rfl (zC (i:=0) zH ty9 rfl rfl rfl rfl rfl (by simp [zal,zd]) (by simp;omega) fun v7=> ?_)
 refine gz3 ?_;exact zdU rfl rfl
end
section
open Go.HL
set_option linter.unusedSimpArgs false
end
section
open Go.Proofs.Tryz
open Go.HL
theorem zkp [Tracks] {l:Str} (hl:l.length<=1000000) (ha: ∀c∈l,c.toNat<128):ConP prog 286 [.str l] (.tup [.agg (asciiSet l),.bool true]):=by
 refine zbU func286 rfl ntmps286 rfl rfl ?_;refine gz1 ?_;refine de rfl (zq zj5 rfl fun b2=> ?_)
 refine gz7 ?_;refine uV1 [3,17] (fun (k:Nat)=>[(4,.int .i64 k)]) (fun (k:Nat)=>[.cells b2 (asciiSet (l.take k))]) (fun (k:Nat)=>k<=l.length/\(True)) (fun (k:Nat)=>l.length-k) (0) ?_ ?_ ?_ ?_;exact ⟨Ad _,by simp_all⟩;exact ⟨rfl,trivial⟩;exact zm rfl
 intro k hinv
 obtain ⟨hk,-⟩:=hinv;refine gz4 ?_;refine dq (zby ty9 rfl) ?_;refine gz2 ?_;refine uCo (fun h1=> ?_) fun h2=> ?_
 obtain ⟨x,hx⟩: ∃x,l[k]? =some x:=⟨_,Aa h1⟩
 have hdx:=zi hx;have hc:=ha x (Ac hx);refine gz7 ?_;refine dq (zbh ty9 rfl rfl rfl (by assumption)) ?_;refine gz7 ?_;refine zaf rfl (fun h3=> ?_) (fun h3=> ?_)
 exfalso
 try simp at h3
 omega
 try simp at h3
 refine gz4 ?_;refine dq (zeA zj5 ty4 rfl rfl rfl uO) ?_;refine de0 (zeH (i:=0) ty4 rfl rfl rfl rfl rfl (by rw [zdE];omega) ?_)
 refine gz8 ?_;refine ⟨k+1,?_,?_,⟨rfl,trivial⟩,uK,zm (by show [MObj.cells b2 (zaW _ (0+x.toNat*1) [.bool true])]=_;rw [zrd];dsimp only;rw [List.take_add_one,hx];rfl)⟩
 exact ⟨by omega,trivial⟩
 dsimp only;omega
 have hnk:l.length<=k:=by omega
 obtain rfl:k=l.length:=by omega
 refine gz2 ?_;refine zp ?_;refine gz2 ?_;refine zf (zP (M':=[.cells b2 (asciiSet l)]) (by rw [Al])) ?_;refine gz1 ?_;refine de rfl (zbO (i:=0) (h:= .agg (asciiSet l)) zj5 rfl rfl rfl rfl (zdE l) ?_)
 refine de0 (zJ (h:= .agg (asciiSet l)) zj5 rfl rfl (by simp [zeb,zdE]) (zqs l) (zdE l) ?_)
 refine gz3 ?_;refine ⟨_,_,zA 2 rfl,[_,_],_,⟨⟨_,_,_,_,_,rfl,zj5,.inr ⟨rfl,rfl,rfl⟩⟩,⟨rfl,trivial⟩⟩,Weak.refl _,?_,rfl⟩
 rfl
theorem zeF [Tracks] {l:Str} {c:UInt8}:ConP prog 348 [.vptr (asciiSet l) 0,.int .u8 c.toNat] (.bool (l.contains c)):=by
 have hc:=c.toNat_lt;refine uOb func348 ntmps348 ?_;refine gz7 ?_;refine dq (zvp zj5 ty4 rfl rfl rfl uO) ?_;refine dq (zbm ty4 rfl rfl (by rw [show 0+c.toNat*1=c.toNat from by omega];exact zl9 l c)) ?_;refine gz3 ?_;refine zx rfl ?_
 rfl
theorem zjJ [Tracks] {s l:Str} (hl:s.length<=1000000):ConP prog 287 [.str s,.vptr (asciiSet l) 0] (.str (s.dropWhile (l.contains ·))):=by
 refine uOb func287 ntmps287 ?_;refine gz5 ?_;refine uV1 [0,1,5,10] (fun (t:Str)=>[(0,.str t)]) (fun (t:Str)=>[]) (fun (t:Str)=>t.length<=s.length/\s.dropWhile (l.contains ·)=t.dropWhile (l.contains ·)) (fun (t:Str)=>t.length) (s) ?_ ?_ ?_ ?_;exact ⟨Ae _,rfl⟩;exact ⟨rfl,trivial⟩;exact Ab _
 intro t hinv
 obtain ⟨ht,hg⟩:=hinv;refine gz3 ?_;refine dq (zby ty9 rfl) ?_;refine gz2 ?_;refine uCo (fun h1=> ?_) fun h2=> ?_
 obtain ⟨x,u,rfl⟩: ∃x u,t=x::u:=by cases t with|nil=>simp at h1|cons x u=>exact ⟨x,u,rfl⟩
 have hlen:(x::u).length=u.length+1:=rfl;refine gz7 ?_;refine dq (zbh (j:=0) (b:=x) ty9 rfl rfl rfl rfl) ?_;refine dq (uCl zwn rfl zeF) ?_;refine gz2 ?_;refine uCo (fun h3=> ?_) fun h4=> ?_
 refine gz3 ?_;refine zp ?_;refine gz7 ?_;refine zx rfl ?_
 show HVal.str _=_
 rw [hg];simp_all [Bb];refine gz4 ?_;refine dq (zho (l:=1) ty9 rfl ⟨_,_,rfl,rfl⟩ rfl uO uO) ?_;refine gz3 ?_;refine ⟨_,?_,?_,⟨rfl,trivial⟩,uK,Ab _⟩
 refine ⟨by simp at ht⊢;omega,?_⟩
 rw [hg];simp_all [Bb]
 dsimp only;simp
 obtain rfl:t=[]:=by simpa using h2
 refine gz2 ?_;refine zp ?_;refine gz7 ?_;refine zx rfl ?_
 show HVal.str _=_
 rw [hg];simp_all [Bb]
theorem zjl [Tracks] {s l:Str} (hl:s.length<=1000000):ConP prog 288 [.str s,.vptr (asciiSet l) 0] (.str (zdp (l.contains ·) s)):=by
 refine uOb func288 ntmps288 ?_;refine gz5 ?_;refine uV1 [0,1,5,16] (fun (t:Str)=>[(0,.str t)]) (fun (t:Str)=>[]) (fun (t:Str)=>t.length<=s.length/\zdp (l.contains ·) s=zdp (l.contains ·) t) (fun (t:Str)=>t.length) (s) ?_ ?_ ?_ ?_;exact ⟨Ae _,rfl⟩;exact ⟨rfl,trivial⟩;exact Ab _
 intro t hinv
 obtain ⟨ht,hg⟩:=hinv;refine gz3 ?_;refine dq (zby ty9 rfl) ?_;refine gz2 ?_;refine uCo (fun h1=> ?_) fun h2=> ?_
 obtain ⟨u,x,rfl⟩: ∃u x,t=u++[x]:=⟨_,_,(Br (by intro h0;subst h0;simp at h1)).symm⟩
 have hlen:(u++[x]).length=u.length+1:=by simp
 refine gz8 ?_;refine dq (zby ty9 rfl) ?_;refine gz1 ?_;refine dq (zbh (j:=u.length) (b:=x) ty9 rfl rfl uO (by simp)) ?_;refine dq (uCl zwn rfl zeF) ?_;refine gz2 ?_;refine uCo (fun h3=> ?_) fun h4=> ?_
 refine gz3 ?_;refine zp ?_;refine gz7 ?_;refine zx rfl ?_
 show HVal.str _=_
 rw [hg];first|rfl|(rw [zf6,if_neg (by simp_all)])
 refine gz5 ?_;refine dq (zby ty9 rfl) ?_;refine gz1 ?_;refine dq (zho (l:=0) (h:=u.length) ty9 rfl rfl ⟨_,_,rfl,by omega⟩ uO uO) ?_;refine gz3 ?_;refine ⟨_,?_,?_,⟨rfl,trivial⟩,uK,Ab _⟩
 refine ⟨by simp at ht⊢;omega,?_⟩
 rw [hg,zf6,if_pos (by simp_all)];simp
 dsimp only;simp
 obtain rfl:t=[]:=by simpa using h2
 refine gz2 ?_;refine zp ?_;refine gz7 ?_;refine zx rfl ?_
 show HVal.str _=_
 rw [hg];first|rfl|(rw [zf6,if_neg (by simp_all)])
theorem zpq [Tracks] {s l:Str} (hs:s.length<=1000000) (hl:l.length<=1000000) (h2l:2<=l.length) (ha: ∀c∈l,c.toNat<128):ConP prog 231 [.str s,.str l] (.str ((zdp (l.contains ·) s).dropWhile (l.contains ·))):=by
 refine uOb func231 ntmps231 ?_;refine zcc ?_;refine uCo (fun h1=> ?_) fun h2=> ?_
 refine gz5 ?_;refine zx rfl ?_
 show HVal.str _=_
 focus (rcases h1 with rfl|rfl<;>first|(simp at h2l;done)|(simp [zdp];done))
 refine gz5 ?_;refine dq (zby ty9 rfl) ?_;refine gz3 ?_;refine dg rfl rfl (fun hc=>⟨_,OpenTo.upd (t:=18) rfl (hc) (OpenTo.refl _),zbh (j:=0) (b:=l.headD 0) ty9 rfl rfl rfl (hd0 (by intro h0;subst h0;simp at h2l))⟩) ?_;refine gz3 ?_;refine zaf rfl (fun h3=> ?_) (fun h3=> ?_)
 exfalso
 try simp at h3
 omega
 try simp at h3
 refine gz5 ?_;refine dq (uCl zzh rfl (zkp (by assumption) (by assumption))) ?_;refine gz3 ?_;refine de rfl (zq zj5 rfl fun b5=> ?_)
 refine de0 (zJ zj5 rfl rfl rfl rfl rfl ?_)
 refine gz2 ?_;refine zf (zA 5 rfl) ?_;refine gz3 ?_;refine zt6 rfl ?_;refine gz2 ?_;refine dq (uCl zzj rfl (zjl (by assumption))) ?_;refine dq (uCl zzi rfl (zjJ (AA (zql _ _) hs))) ?_;refine gz3 ?_;refine zx rfl ?_
 show HVal.str _=_
 rfl
theorem zgE [Tracks] {s:Str} {c:Int}:ConP prog 291 [.str s,.int .u8 c] (.int .i64 (Lib.indexByte s c.toNat.toUInt8)):=by
 refine uOb func291 ntmps291 ?_;refine gz6 ?_;refine dq (zqF func352 (by kernel_rfl) (by kernel_rfl) (by kernel_rfl) (by kernel_rfl) rfl rfl rfl) ?_;refine gz3 ?_;refine zx rfl ?_
 rfl
theorem zhB [Tracks] {s:Str} {c:Int}:ConP prog 232 [.str s,.int .u8 c] (.int .i64 (Lib.indexByte s c.toNat.toUInt8)):=by
 refine uOb func232 ntmps232 ?_;refine gz6 ?_;refine dq (uCl zzk rfl zgE) ?_;refine gz3 ?_;refine zx rfl ?_
 rfl
theorem zcS [Tracks] {n lo hi:Int}:ConP prog 151 [.int .i64 n,.int .i64 lo,.int .i64 hi] (.bool (!(out n lo hi))):=by
 refine uOb func151 ntmps151 ?_;refine zlq ?_;refine zx rfl ?_
 show HVal.bool _=_
 congr 1;simp [out];rw [AS];simp;try omega
theorem zbR [Tracks] {s:Str} (hs:s.length<=1000000):ConP prog 129 [.str s] (.bool (key s)):=by
 refine uOb func129 ntmps129 ?_;refine gz5 ?_;refine dq (zby ty9 rfl) ?_;refine dq (uCl zlh rfl zcS) ?_;refine gz2 ?_;refine dg rfl rfl (fun hc=>⟨_,OpenTo.upd (t:=7) rfl (hc) (OpenTo.refl _),uCl zwd rfl (zpq (l:=zgv) hs (by decide) (by decide) (by decide))⟩) ?_;refine gz4 ?_;refine dg rfl rfl (fun hc=>⟨_,OpenTo.upd (t:=12) rfl (hc) (OpenTo.refl _),zbh (j:=0) (b:=s.headD 0) ty9 rfl rfl rfl (hd0 (by rintro rfl;simp [out] at hc))⟩) ?_;refine dg rfl rfl (fun hc=>⟨_,OpenTo.upd (t:=13) rfl (hc) (OpenTo.refl _),uCl zwe rfl zhB⟩) ?_;refine gz5 ?_;refine zx rfl ?_
 show HVal.bool _=_
 rw [zwR]
 simp [zgv,zi1]
theorem zgZ [Tracks] {n lo hi:Int}:ConP prog 67 [.int .i64 n,.int .i64 lo,.int .i64 hi] (.int .i64 (if out n lo hi then 1 else 0)):=by
 refine uOb func67 ntmps67 ?_;refine gz8 ?_;refine dq (uCl zlh rfl zcS) ?_;refine gz2 ?_;refine uCo (fun h1=> ?_) fun h2=> ?_
 refine gz4 ?_;refine uRp ?_
 simp_all
 refine gz6 ?_;refine uRp ?_
 simp_all
theorem zb8 [Tracks] {n:Int}:ConP prog 12 [.int .i64 n] (.int .i64 (if zau n then 0 else 1)):=by
 refine uOb func12 ntmps12 ?_;refine gz5 ?_;refine dq (uCl ca67 rfl zgZ) ?_;refine gz3 ?_;refine uRp ?_;rw [ztr]
end
end Go.Proofs.YtbbpommdmnjfmaaGreatDoor
namespace Go.Proofs
section
open Go.Shelf
end
end Go.Proofs
namespace Go.Proofs.YtbbpommdmnjfmaaGreatDoor
set_option maxRecDepth 100000
set_option linter.unusedVariables false
set_option linter.unusedSimpArgs false
section
open Go.HL
set_option linter.unusedSimpArgs false
end
section
open Go.Proofs.Tryz
open Go.HL
theorem zgb [Tracks] {x n:Int} (hn:n<=4000000000):ConP prog 111 [.int .i64 x,.int .i64 n] (.int .i64 (below x n)):=by
 refine uOb func111 ntmps111 ?_;refine gz8 ?_;refine uCo (fun h1=> ?_) fun h2=> ?_
 refine gz4 ?_;refine uRp ?_
 simp_all [below]
 try omega
 refine gz5 ?_;refine dq (zeB rfl rfl uO) ?_;refine gz7 ?_;refine uCo (fun h3=> ?_) fun h4=> ?_
 refine gz3 ?_;have hm:=BW x (show 0<n by omega);obtain ⟨y,hy1,hy2⟩:=zma x n;have hb:below x n=x.tmod n+n:=by unfold below;rw [if_neg uO,if_pos uO]
 refine gz9 ?_;refine uRp ?_
 simp_all [below]
 try omega
 refine gz7 ?_;refine uRp ?_
 simp_all [below]
 try omega
theorem zW [Tracks] {b:Nat} {l:List Int} {a:Nat} {n:Int} (ha:a<=1000000) (hn:n<=4000000000):Con prog 31 [pAt b,.int .i64 n] [St b l a] (fun x M'=> ∃y:Nat,x= .int .i64 (y:Int)/\(y:Int)<max n 1/\M'=[St b l (a+1)]):=by
 refine uOb func31 ntmps31 ?_;refine gz7 ?_;refine de rfl (uZ 0 ?_)
 refine gz3 ?_;refine de0 (uY 0 ?_)
 refine gz6 ?_;refine de rfl (uZ 0 ?_)
 refine gz3 ?_;refine uCo (fun h1=> ?_) fun h2=> ?_
 refine gz4 ?_;refine de rfl (uZ 0 ?_)
 refine dq (zpE rfl rfl) ?_;refine gz1 ?_;refine dq (uCl zsU rfl (zgb (by assumption))) ?_;refine gz3 ?_;refine zT rfl ?_;obtain ⟨y,h1,h2⟩:=zma _ n;exact ⟨y,congrArg _ h1,h2,rfl⟩;refine gz2 ?_;have hl0:0<l.length:=List.length_pos_iff.2 (by simpa using h2);refine zw (fun M=> ∃i:Nat,M[i]? =some (St b l (a+1))) [3,8] mixed ?_;refine gz3 ?_;refine uM 3 rfl (⟨0,rfl⟩) (fun M hM=>by obtain ⟨i,hi⟩:=hM;exact zao (i:=i) ty3 rfl hi (.inl ⟨rfl,rfl⟩) ⟨rfl,rfl⟩) ?_;refine gz4 ?_;refine uM 8 rfl (⟨0,rfl⟩) (fun M hM=>by obtain ⟨i,hi⟩:=hM;exact zao (i:=i) zac rfl hi (.inl ⟨rfl,rfl⟩) ⟨rfl,rfl⟩) ?_;refine gz1 ?_;refine uB 10 rfl (zae (h':= .int .i64 ((a%l.length:Nat):Int)) (zeB rfl rfl uO) (by show HVal.int .i64 (((a:Int)+1-1).tmod _)=_;rw [show ((a:Int)+1-1)=(a:Int) by omega];exact congrArg _ (zrX _ _))) ?_;refine gz2 ?_;refine zw (fun M=> ∃i:Nat,M[i]? =some (St b l (a+1))) [3,8] mixed ?_;refine gz3 ?_;refine uM 3 rfl (⟨0,rfl⟩) (fun M hM=>by obtain ⟨i,hi⟩:=hM;exact zao (i:=i) ty3 rfl hi (.inl ⟨rfl,rfl⟩) ⟨rfl,rfl⟩) ?_;refine gz4 ?_;refine uM 8 rfl (⟨0,rfl⟩) (fun M hM=>by obtain ⟨i,hi⟩:=hM;exact zao (i:=i) zac rfl hi (.inl ⟨rfl,rfl⟩) ⟨rfl,rfl⟩) ?_;refine gz1 ?_;refine uB 10 rfl (zsC rfl rfl uO) ?_;refine gz6 ?_;refine de rfl (uZ 0 ?_)
 refine gz1 ?_;refine dq (zl (j:=a%l.length) (a:=l[a%l.length]'(BN _ uO)) zac ty3 rfl rfl rfl (Aa _)) ?_;refine gz1 ?_;refine dq (uCl zsU rfl (zgb uO)) ?_;refine gz2 ?_;refine dq (zpC rfl rfl) ?_;refine dq (zpE rfl rfl) ?_;refine dq (zpC rfl rfl) ?_;refine gz1 ?_;refine dq (uCl zsU rfl (zgb (by assumption))) ?_;refine gz3 ?_;refine zT rfl ?_;obtain ⟨y,h1,h2⟩:=zma _ n;exact ⟨y,congrArg _ h1,h2,rfl⟩
theorem zY [Tracks] {b:Nat} {l:List Int} {a:Nat} {lo hi:Int} (ha:a<=1000000) (hlh:lo<=hi) (h0: -1000000000<=lo) (h1:hi<=1000000000):Con prog 24 [pAt b,.int .i64 lo,.int .i64 hi] [St b l a] (fun x M'=> ∃y:Int,x= .int .i64 y/\(lo<=y/\y<=hi)/\M'=[St b l (a+1)]):=by
 refine uOb func24 ntmps24 ?_;refine gz9 ?_;refine zaf rfl (fun h1=> ?_) (fun h1=> ?_)
 exfalso
 try simp at h1
 omega
 try simp at h1
 refine gz9 ?_;refine de rfl (za (i:=0) zfF rfl (WeakL.refl _) rfl (zW (by assumption) uO) ?_)
 rintro _ _ ⟨y17,rfl,hy17,rfl⟩;refine gz4 ?_;exact zT rfl ⟨_,rfl,by omega,rfl⟩
theorem zK [Tracks] {b:Nat} {l:List Int} {a:Nat} {n:Int} (ha:a<=1000000) (hn:n<=4000000000):Con prog 15 [pAt b,.int .i64 n] [St b l a] (fun x M'=> ∃y:Bool,x= .bool y/\M'=[St b l (a+1)]):=by
 refine uOb func15 ntmps15 ?_;refine gz6 ?_;refine de rfl (za (i:=0) zfF rfl (WeakL.refl _) rfl (zW (by assumption) (by assumption)) ?_)
 rintro _ _ ⟨y7,rfl,hy7,rfl⟩;refine gz4 ?_;exact zT rfl ⟨_,rfl,rfl⟩
theorem zh [Tracks] {b:Nat} {l:List Int} {a:Nat} {L:List Int} (ha:a<=1000000) (h0:0<L.length) (h1:L.length<=1000000):Con prog 25 [pAt b,.slice 1 (L.map (.int .i64))] [St b l a] (fun x M'=> ∃y:Int,x= .int .i64 y/\y∈L/\M'=[St b l (a+1)]):=by
 refine uOb func25 ntmps25 ?_;refine gz8 ?_;refine de rfl (za (i:=0) zfF rfl (WeakL.refl _) rfl (zW (by assumption) uO) ?_)
 rintro _ _ ⟨y9,rfl,hy9,rfl⟩;obtain ⟨z,hz,hm⟩:=getI hy9 h0;refine dq (zl (j:=y9) (a:=z) zac ty3 rfl rfl rfl hz) ?_;refine gz4 ?_;exact zT rfl ⟨_,rfl,hm,rfl⟩
theorem zt [Tracks] {b:Nat} {l:List Int} {a:Nat} {L:List Str} (ha:a<=1000000) (h0:0<L.length) (h1:L.length<=1000000):Con prog 26 [pAt b,eSs L] [St b l a] (fun x M'=> ∃y:Str,x= .str y/\y∈L/\M'=[St b l (a+1)]):=by
 refine uOb func26 ntmps26 ?_;refine gz8 ?_;refine de rfl (za (i:=0) zfF rfl (WeakL.refl _) rfl (zW (by assumption) uO) ?_)
 rintro _ _ ⟨y9,rfl,hy9,rfl⟩;obtain ⟨z,hz,hm⟩:=getS hy9 h0;refine dq (zl (j:=y9) (a:=z) zH ty9 rfl rfl rfl hz) ?_;refine gz4 ?_;exact zT rfl ⟨_,rfl,hm,rfl⟩
end
section
open Go.HL
set_option linter.unusedSimpArgs false
end
section
open Go.HL
set_option linter.unusedSimpArgs false
end
section
open Go.HL
set_option linter.unusedSimpArgs false
end
section
open Go.HL
set_option linter.unusedSimpArgs false
end
end Go.Proofs.YtbbpommdmnjfmaaGreatDoor
namespace Go.HL
section

end
section
open Op (bytesLess)
theorem zus {α:Type} {R:α->α->Prop}: ∀{l:List α},l.Pairwise R->∀x∈l,∀y∈l,x=y\/R x y\/R y x
 |[],_,x,hx,_,_=>by simp at hx
 |a::l,h,x,hx,y,hy=>by
   obtain ⟨h1,h2⟩:=List.pairwise_cons.1 h
   rcases List.mem_cons.1 hx with e|hx'<;>rcases List.mem_cons.1 hy with e'|hy'
   exact .inl (e.trans e'.symm);exact .inr (.inl (e▸h1 y hy'));exact .inr (.inr (e'▸h1 x hx'));exact zus h2 x hx' y hy'
/-! keeps that are right-/
def kLt (a b:Keep):Prop:=bytesLess a.Team b.Team=true\/(a.Team=b.Team/\a.Round<b.Round)
structure KeepsOk (r:Room) (k:List Keep):Prop where
 all: ∀x∈k,x.Team∈r.Teams/\x.Player∈r.Players/\1<=x.Round/\x.Round<=r.Rounds
 lt:k.Pairwise kLt
def ztj (t:Turn) (x:Keep):Bool:=decide (x.Team=t.of/\x.Round=t.round)
theorem KeepsOk.one {r:Room} {k:List Keep} (h:KeepsOk r k) {t:Turn} {x y:Keep} (hx:x∈k) (hy:y∈k) (fx:ztj t x=true) (fy:ztj t y=true):y=x:=by
 simp [ztj] at fx fy
 rcases zus h.lt x hx y hy with e|e|e
 exact e.symm
 exfalso
 rcases e with e|⟨e1,e2⟩
 rw [fx.1,fy.1,zbr] at e;cases e
 omega
 exfalso
 rcases e with e|⟨e1,e2⟩
 rw [fx.1,fy.1,zbr] at e;cases e
 omega
def zqR (k:List Keep) (l:List Pick) (s:Str):Bool:=k.any (fun x=>x.Player==s)||l.any (fun p=>p.Player==s)
end
section
section
variable {r:Room} {k:List Keep} {fr l:List Pick} {p:Pick}
end
structure Wish where
 Team:Str
 Players:List Str
theorem ztk (k:List Keep) (l:List Pick) (p:Pick) (s:Str):zqR k (l++[p]) s=(zqR k l s||p.Player==s):=by
 simp [zqR,B3]
/-! what a run holds-/
structure RunOk (r:Room) (k:List Keep) (s:List Swap) (l:List Pick) (S:List Str):Prop where
 gone: ∀x∈r.Players,S.contains x=zqR k l x
theorem RunOk.add {r:Room} {k:List Keep} {s:List Swap} {l:List Pick} {S:List Str} (ok:RunOk r k s l S) (p:Pick):RunOk r k s (l++[p]) (zdq p.Player S):=
 ⟨fun x hx=>by rw [ztk,zlR,ok.gone x hx]⟩
end
end Go.HL
section
namespace Go.HL
section
variable {P:Program} {ops:Array Oper} {n:Nat} {S:List MObj->Prop} {ld:List Nat} {K:Env->List MObj->Prop} {e:Env} {M:List MObj} {listed:Array Bool} {fuel:Nat} {d:Nat} {op:Op} {ty:TypeId} {pos:String} {af:Array Edge} {h:HVal}
theorem zin [Tracks] (i:Nat) {j:Nat} {want c:Bool} (hi:ops[i]? =some ⟨some d,op,ty,pos,af,some (j,want)⟩) (hd:Nat.blt d n=true) (hf:Region.free .any ops listed i=true) (hr:(Region.ready .any ops listed).contains i=true) (hl:i∈ld) (hS:S M)
 (hg:ze3 ops e j want=some c) (hp:c=true->∃e2,OpenTo e e2/\∀M,S M->EOp P e2 M ⟨some d,op,ty,pos,af,some (j,want)⟩ fun x M'=>x=h/\M'=M)
 (k:HAny P ops n S ld K fuel (listed.setIfInBounds i true) (upd e d (.opt c h)) M):HAny P ops n S ld K (fuel+1) listed e M:=
 HAny.first (T:=S) hi (fun t ht=>by simp at ht;subst ht;exact zgk hd) (.inr ⟨rfl,hl⟩) fuel listed e M (Region.free_spec hi hf) (by simpa using hr)
  ⟨c,hg,fun hc M hM=>by
   obtain ⟨e2,h1,h2⟩:=hp hc
   intro I F a w ho hs
   exact zbN (fun _ _ ⟨v,x,M',J,h3,h4,⟨e1,e3⟩,h5,h6⟩=>⟨v,.opt c h,M,J,h3,h4,⟨rfl,rfl⟩,.opt (fun _=>e1▸h5) (fun hf=>by rw [hc] at hf;cases hf),e3▸h6⟩) (h2 M hM I F a w (ho.open h1) hs),
   fun hc=>⟨h,by rw [hc]⟩⟩ hS k
end
theorem zg {k:IntKind} {a b:Int} (h:a=b):some (HVal.int k a)=some (.int k b):=by rw [h]
section
variable {α:Type} {c:α->α->Int}
theorem zfb (l:List α):zX c (l.take 1)++l.drop 1=l:=by
 cases l with
 |nil=>rfl
 |cons x r=>simp [zX,zct,zls]
theorem zci {A R:List α} {x:α}:(A++x::R)[A.length]? =some x:=by simp
theorem zf3 {A R:List α} {x:α} (h:0<A.length):(A++x::R)[A.length-1]? =some ((A[A.length-1]?).getD x):=by
 rw [Ax (by omega),Aa (by omega)]
 simp [Aa (show A.length-1<A.length by omega)]
theorem zhQ {A:List α} (h:0<A.length): ∃B y,A=B++[y]:=by
 have hne:A≠[]:=fun e=>by subst e;simp at h
 exact ⟨_,_,(Br hne).symm⟩
theorem zp8 {A:List α} {y d:α}:((A++[y])[(A++[y]).length-1]?).getD d=y:=by simp
theorem zhS {A R:List α} {x y:α}:(((A++[y])++x::R).set (A++[y]).length y).set ((A++[y]).length-1) x=A++x::y::R:=by
 have e1:((A++[y])++x::R).set (A++[y]).length y=(A++[y])++y::R:=by rw [BM _ _ (Ae _)];simp
 rw [e1,An];have e2:(A++[y]).length-1=A.length:=by simp
 rw [e2,BM _ _ (Ae _)]
 simp
theorem zhK {l A B:List α} {x:α} {k:Nat} (hx:l[k]? =some x) (hB:zct c x (zX c (l.take k))=zct c x A++B) (h:0<A.length->¬c x ((A[A.length-1]?).getD x)<0):A++x::(B++l.drop (k+1))=zX c (l.take (k+1))++l.drop (k+1):=by
 rw [zV hx,zoL,hB]
 rcases Bl A.length with h0|h0
 obtain rfl:=List.length_eq_zero_iff.1 h0
 simp [zvd]
 obtain ⟨A',y,rfl⟩:=zhQ h0;have:=h h0;rw [zp8] at this;rw [zqd,if_neg this];simp
theorem zhL {A B:List α} {x y:α} {S:List α} (hB:zct c x S=zct c x (A++[y])++B) (h:c x y<0):zct c x S=zct c x A++(y::B):=by
 rw [hB,zqd,if_pos h];simp
end
end Go.HL
namespace Go.HL
section
variable {α:Type} {p:α->Bool}
structure DelInv (p:α->Bool) (l:List α) (j:Nat) (D:List α):Prop where
 len:D.length=l.length
 jle:j<=l.length
 lt:((l.take j).filter (fun x=> !p x)).length<j
 kept:D.take ((l.take j).filter (fun x=> !p x)).length=(l.take j).filter (fun x=> !p x)
 rest:D.drop j=l.drop j
theorem zks {l:List α} {j:Nat} {x:α} (hx:l[j]? =some x):(l.take (j+1)).filter (fun x=> !p x)=(l.take j).filter (fun x=> !p x)++if p x then [] else [x]:=by
 rw [zV hx,Bt]
 by_cases h:p x<;>simp [h]
theorem DelInv.get {l D:List α} {j:Nat} {x:α} (h:DelInv p l j D) (hx:l[j]? =some x):D[j]? =some x:=by
 have h1:=congrArg (fun t=>t[0]?) h.rest;simp only [AI,BE] at h1;rw [h1];exact hx
theorem DelInv.drop1 {l D:List α} {j:Nat} (h:DelInv p l j D):D.drop (j+1)=l.drop (j+1):=by
 have:=congrArg (List.drop 1) h.rest
 simpa [AN] using this
theorem DelInv.skip {l D:List α} {j:Nat} {x:α} (h:DelInv p l j D) (hx:l[j]? =some x) (hp:p x=true):DelInv p l (j+1) D/\((l.take (j+1)).filter (fun x=> !p x)).length=((l.take j).filter (fun x=> !p x)).length:=by
 have e:=zks (p:=p) hx;rw [if_pos hp,AW] at e;refine ⟨⟨h.len,by have:=zo hx;omega,by rw [e];have:=h.lt;omega,by rw [e];exact h.kept,h.drop1⟩,by rw [e]⟩
theorem DelInv.keep {l D:List α} {j:Nat} {x:α} (h:DelInv p l j D) (hx:l[j]? =some x) (hp:p x=false):
 DelInv p l (j+1) (D.set ((l.take j).filter (fun x=> !p x)).length x)/\((l.take (j+1)).filter (fun x=> !p x)).length=((l.take j).filter (fun x=> !p x)).length+1:=by
 have e:=zks (p:=p) hx;rw [if_neg (by simp [hp])] at e;have hlt:=h.lt;have hj:=zo hx;have hl:=h.len;have el:((l.take (j+1)).filter (fun x=> !p x)).length=((l.take j).filter (fun x=> !p x)).length+1:=by rw [e];simp
 refine ⟨⟨by simp [hl],by omega,by omega,?_,?_⟩,el⟩
 rw [el,e];have hk:=h.kept
 generalize ((l.take j).filter (fun x=> !p x))=F at*
 rw [zV (B2 (by omega)),List.take_set_of_le (Ae _),hk];rw [List.drop_set_of_lt (by omega)];exact h.drop1
theorem zf4 (p:α->Bool): ∀(l:List α) (k:Int),0<=k->zap p l k≠ -1->∃i:Nat,zap p l k=k+i/\i<l.length/\(∃x,l[i]? =some x/\p x=true)/\∀y∈l.take i,p y=false
 |[],k,_,h=>by simp [zap] at h
 |x::r,k,h0,h=>by
   by_cases hx:p x=true
   exact ⟨0,by simp [zap,hx],by simp,⟨x,rfl,hx⟩,by simp⟩;have e:zap p (x::r) k=zap p r (k+1):=by simp [zap,hx]
   rw [e] at h⊢;obtain ⟨i,h1,h2,⟨y,h3,h4⟩,h5⟩:=zf4 p r (k+1) (by omega) h;refine ⟨i+1,by rw [h1];simp;omega,by simp;omega,⟨y,by simpa using h3,h4⟩,fun z hz=> ?_⟩
   simp only [BR,BG] at hz
   rcases hz with rfl|hz
   simpa using hx
   exact h5 z hz
theorem zmC (p:α->Bool): ∀(l:List α) (k:Int),0<=k->zap p l k= -1->l.filter (fun x=> !p x)=l
 |[],_,_,_=>rfl
 |x::r,k,h0,h=>by
   by_cases hx:p x=true
   simp [zap,hx] at h;omega
   have e:zap p (x::r) k=zap p r (k+1):=by simp [zap,hx]
   rw [e] at h;rw [Be,if_pos (by simp [hx]),zmC p r (k+1) (by omega) h]
theorem DelInv.start {l:List α} {i:Nat} {x:α} (hi:i<l.length) (hx:l[i]? =some x) (hp:p x=true) (hb: ∀y∈l.take i,p y=false):DelInv p l (i+1) l/\((l.take (i+1)).filter (fun x=> !p x)).length=i:=by
 have e:=zks (p:=p) hx;rw [if_pos hp,AW,(List.filter_eq_self (l:=l.take i) (p:=fun x=> !p x)).2 (fun y hy=>by simp [hb y hy])] at e;have hl:(l.take i).length=i:=by simp;omega
 refine ⟨⟨rfl,by omega,by rw [e];omega,by rw [e,hl],rfl⟩,by rw [e,hl]⟩
theorem DelInv.done {l D:List α} (h:DelInv p l l.length D):D.take (l.filter (fun x=> !p x)).length=l.filter (fun x=> !p x):=by
 have:=h.kept
 rwa [Al] at this
end
theorem zfS {cap off sz m n:Nat} (h1:m<=n) (h2:n<=cap):n-m=0\/zhY cap off sz m=off+m*sz:=by
 unfold zhY
 by_cases h:cap=m
 exact .inl (by omega);exact .inr (by rw [if_neg h])
end Go.HL
namespace Go.HL
end Go.HL
end
namespace Go.HL
section
section
variable {r:Room} {w:List Wish} {k:Nat} {x:Wish} {t:List Wish}
end
end
end Go.HL
namespace Go.Proofs.YtbbpommdmnjfmaaGreatDoor
set_option maxRecDepth 100000
set_option linter.unusedVariables false
set_option linter.unusedSimpArgs false
section
open Go.HL
set_option linter.unusedSimpArgs false
end
section
open Go.HL
set_option linter.unusedSimpArgs false
end
section
open Go.HL
set_option linter.unusedSimpArgs false
end
section
open Go.HL
set_option linter.unusedSimpArgs false
end
section
open Go.HL
set_option linter.unusedSimpArgs false
end
section
open Go.HL
set_option linter.unusedSimpArgs false
end
section
open Go.Proofs.Tryz
open Go.HL
theorem zfs [Tracks] {b:Nat} {l:List Int} {a:Nat} {n:Nat} (ha:a<=800000) (hn1:1<=n) (hn2:n<=1000):Con prog 208 [pAt b,.int .i64 (n:Int)] [St b l a] (fun x M'=> ∃(L:List Int) (a':Nat),x= .slice 1 (L.map (.int .i64))/\(L.length=n/\∀i∈L,(0:Int)<=i/\i<n)/\a'<=a+n/\M'=[St b l a']):=by
 refine uOb func208 ntmps208 ?_;refine gz6 ?_;refine zf (zG 1) ?_;refine gz6 ?_;refine uV3 [5,2,10,8] (fun (k:Nat) (u:Value) (L:List Int)=>[(10,.int .i64 (k:Int)),(5,.raw u)]) (fun (k:Nat) (u:Value) (L:List Int)=>[.arr u 1 (L.map (HVal.int .i64)),St b l a]) (fun (k:Nat) (u:Value) (L:List Int)=>k<=n/\L.length=k/\∀i∈L,(0:Int)<=i/\i<n) (fun (k:Nat) (u:Value) (L:List Int)=>n-k) (0) (.slice none 0 0) ([]) ?_ ?_ ?_ ?_;exact ⟨by omega,rfl,by simp⟩;exact ⟨rfl,rfl,trivial⟩;exact zm rfl
 intro k u L hinv
 obtain ⟨hk,hL,hLb⟩:=hinv;refine gz4 ?_;refine uCo (fun h1=> ?_) fun h2=> ?_
 have hkn:k<n:=by omega
 refine zbo ?_;refine dq (zb (hs:=[_]) zac ty3 rfl rfl (by decide) (by decide) rfl) ?_;refine de rfl (zC (i:=0) zac ty3 rfl rfl rfl rfl rfl (by simp [zal,zd]) (by simp;omega) fun v16=> ?_)
 refine gz8 ?_;exact ⟨k+1,v16,L++[(k:Int)],⟨by omega,by simp [hL],fun i hi=>by rcases List.mem_append.1 hi with h|h;exact hLb i h;(simp at h;omega)⟩,uD,⟨rfl,rfl,trivial⟩,uK,zm (by simp)⟩;obtain rfl:n=k:=by omega
 refine gz2 ?_;refine zbX ?_;refine gz3 ?_;refine zf (Ghost.perm (M':=[St b l a,.arr u 1 (L.map (.int .i64))]) uP) ?_;refine zb1 (i:=1) rfl (fun h0 he=> ?_) (fun ob off cap hv hcap=> ?_)
 exfalso;have:=congrArg List.length he;simp at this;subst this;simp at hL;omega
 rw [Aj,hL] at hv hcap;subst hv;refine gz6 ?_;refine uV3 [7,2,20,22] (fun (m:Nat) (L:List Int) (a2:Nat)=>[(7,.int .i64 (m:Int))]) (fun (m:Nat) (L:List Int) (a2:Nat)=>[St b l a2,.arr (.slice (some ⟨ob,off,none⟩) n cap) 1 (L.map (HVal.int .i64))]) (fun (m:Nat) (L:List Int) (a2:Nat)=>m<n/\(L.length=n/\∀i∈L,(0:Int)<=i/\i<n)/\a2+m<=a+n) (fun (m:Nat) (L:List Int) (a2:Nat)=>m) (n-1) (L) (a) ?_ ?_ ?_ ?_;exact ⟨by omega,⟨hL,hLb⟩,by omega⟩;exact ⟨zg uO,trivial⟩;exact Ab _
 intro m L a2 hinv
 obtain ⟨hm,⟨hL,hLb⟩,ha2⟩:=hinv;refine gz5 ?_;refine uCo (fun h3=> ?_) fun h4=> ?_
 have hm0:0<m:=by omega
 refine gz8 ?_;refine de rfl (za (i:=0) zfF rfl (WeakL.refl _) rfl (zW uO uO) ?_)
 rintro _ _ ⟨y27,rfl,hy27,rfl⟩;refine gz2 ?_;obtain ⟨z1,hz1⟩: ∃z,L[y27]? =some z:=⟨_,Aa uO⟩
 obtain ⟨z2,hz2⟩: ∃z,L[m]? =some z:=⟨_,Aa uO⟩
 obtain ⟨z3,hz3⟩: ∃z,(L.set m z1)[y27]? =some z:=⟨_,Aa (by simp;omega)⟩
 refine zaC (fun M=> ∃i:Nat,M[i]? =some (.arr (.slice (some ⟨ob,off,none⟩) n cap) 1 (L.map (HVal.int .i64)))) [7,11] mixed ?_;refine gz6 ?_;refine uB 6 rfl (ze (j:=y27) zac ty3 rfl rfl rfl uO) ?_;refine uM 7 rfl (⟨1,rfl⟩) (fun M hM=>by obtain ⟨i,hi⟩:=hM;exact zaJ (i:=i) (j:=y27) 0 ty3 rfl uO hi hz1 rfl rfl ⟨rfl,rfl⟩) ?_;refine gz2 ?_;refine uB 10 rfl (ze (j:=m) zac ty3 rfl rfl rfl uO) ?_;refine uM 11 rfl (⟨1,rfl⟩) (fun M hM=>by obtain ⟨i,hi⟩:=hM;exact zaJ (i:=i) (j:=m) 0 ty3 rfl uO hi hz2 rfl rfl ⟨rfl,rfl⟩) ?_;refine uB 12 rfl (ze (j:=m) zac ty3 rfl rfl rfl uO) ?_;refine uF 13 ?_;refine zF (zO (i:=1) (f:=HVal.int .i64) (es:=L) (j:=m) (y:=z2) (y':=z1) ty3 rfl rfl rfl rfl hz2 rfl rfl rfl ?_)
 refine ⟨fun _=> .inr (by simp [zS,Region.binds]),?_⟩
 refine uB 14 rfl (ze (j:=y27) zac ty3 rfl rfl rfl uO) ?_;refine uF 15 ?_;refine zF (zO (i:=1) (f:=HVal.int .i64) (es:=L.set m z1) (j:=y27) (y:=z3) (y':=z2) ty3 rfl rfl rfl rfl hz3 rfl rfl rfl ?_)
 refine ⟨fun _=> .inr (by simp [zS,Region.binds]),?_⟩
 refine gz8 ?_;exact ⟨m-1,(L.set m z1).set y27 z2,a2+1,⟨by omega,⟨by simp [hL],zes (P:=fun i:Int=>0<=i/\i<n) (zes (P:=fun i:Int=>0<=i/\i<n) hLb (hLb z1 (Ac hz1))) (hLb z2 (Ac hz2))⟩,by omega⟩,uD,⟨zg uO,trivial⟩,uK,zm (by simp [List.map_set])⟩;refine gz2 ?_;refine zbX ?_;refine gz7 ?_;refine zag (zaP 4 (i:=1) rfl rfl) rfl ⟨L,a2,rfl,⟨hL,hLb⟩,by omega,rfl⟩
end
section
open Go.HL
set_option linter.unusedSimpArgs false
end
end Go.Proofs.YtbbpommdmnjfmaaGreatDoor
namespace Go.HL
section
section
variable {κ:Type}
abbrev GrM (κ:Type):=List (Str×(Nat×List (κ×Int)))
end
end
section
section
variable {P:Program} {e:Env} {dst:Option Tmp} {ty:TypeId} {pos:String} {af:Array Edge} {g:Option (Nat×Bool)} {M:List MObj} {K:HVal->List MObj->Prop}
end
end
section
variable {P:Program}
open Go.Sort Go.Proofs
end
section

end
section

end
section
theorem Cmp.lt_trans {α:Type} {c:α->α->Int} {s:α->Prop} (h:Cmp c s) {x y z:α} (hx:s x) (hy:s y) (hz:s z) (h1:c x y<0) (h2:c y z<0):c x z<0:=by
 rcases Int.lt_or_le (c x z) 0 with q|q
 exact q
 exfalso
 have a1:=h.flip y z hy hz;have a2:=h.flip z x hz hx;have hzx:c z x<=0:=by
  rcases Int.lt_or_le 0 (c z x) with r|r
  have:=h.flip x z hx hz;omega;exact r
 have:=h.trans z x y hz hx hy hzx (by omega)
 omega
theorem zh1 (x y:Play):byNo x y= -byNo y x:=by
 unfold byNo;rw [zjS,zfG x.Source,zrK]
theorem zww (x y:Play):byNo x y=if zai x.Source y.Source≠0 then zai x.Source y.Source else zam x.No y.No:=by unfold byNo;rw [zcz]
theorem zlO {a b c:Str} (h1:zai a b<=0) (h2:zai b c<=0) (h:zai a c=0):zai a b=0/\zai b c=0:=by
 have e:=zbA.1 h;subst e;rw [zfG b a] at*
 omega
theorem zgA:Cmp byNo (fun _=>True) where
 flip x y _ _:=by rw [zh1 x y];omega
 trans x y z _ _ _ h1 h2:=by
  rw [zww] at*;have k1:zai x.Source y.Source<=0:=by split at h1<;>omega
  have k2:zai y.Source z.Source<=0:=by split at h2<;>omega
  have k3:=zhg k1 k2
  split
  exact k3
  rename_i hz
  have hz':zai x.Source z.Source=0:=by simpa using hz
  obtain ⟨e1,e2⟩:=zlO k1 k2 hz';rw [if_neg (by simp [e1]),zkR] at h1;rw [if_neg (by simp [e2]),zkR] at h2;rw [zkR];omega
theorem znt {l:List Play}: ∀(r:List Play) (k:Nat),zb4 l k r=0->r=l.drop k->∀(i:Nat) (x y:Play),k<=i->0<i->l[i]? =some x->l[i-1]? =some y->0<byNo x y
 |[],k,_,e,i,x,y,hk,h0,hx,hy=>by
   have:=zo hx;have h2:=congrArg List.length e
   simp at h2;omega
 |p::r,k,h,e,i,x,y,hk,h0,hx,hy=>by
   rw [zb4] at h
   split at h
   contradiction
   split at h
   omega
   rename_i h1 h2
   have hp:l[k]? =some p:=by
    have:=congrArg (·[0]?) e
    simpa using this.symm
   rcases Nat.eq_or_lt_of_le hk with q|q
   subst q;rw [hp] at hx;cases hx;have:l.getD (k-1) zm2=y:=by simp [List.getD,hy]
   rw [this] at h2
   omega
   refine znt r (k+1) h ?_ i x y q h0 hx hy
   have:=congrArg List.tail e
   simpa using this
theorem ziP {l:List Play} (h:zbJ l=0):l.Pairwise fun a b=>byNo a b<0:=by
 have hadj:=znt l 0 (zup h).2 rfl;rw [List.pairwise_iff_getElem]
 intro i j hi hj hij
 have key: ∀d (hd:i+d+1<l.length),byNo l[i] l[i+d+1]<0:=by
  intro d
  induction d with
  |zero=>
    intro hd
    have:=hadj (i+1) _ _ (Ad _) (by omega) (Aa hd) (Aa (by omega:i+1-1<l.length));rw [zh1] at this;simp only [AU] at this;have h':byNo l[i] l[i+0+1]<0:=by omega
    exact h'
  |succ d ih=>
    intro hd
    have h1:=ih (by omega);have h2:=hadj (i+(d+1)+1) _ _ (Ad _) (by omega) (Aa hd) (Aa (by omega:i+(d+1)+1-1<l.length));rw [zh1] at h2;simp only [AU] at h2;exact zgA.lt_trans trivial trivial trivial h1 (by
     have e:i+(d+1)=i+d+1:=by omega
     simp only [e] at h2⊢;omega)
 have:=key (j-i-1) (by omega);have e:i+(j-i-1)+1=j:=by omega
 simpa only [e] using this
end
section
def zcV {κ:Type} (c:List ((Str×κ)×Int)) (s:Str):List (κ×Int):=(c.filter fun e=>e.1.1==s).map fun e=>(e.1.2,e.2)
theorem zqc {κ:Type} [DecidableEq κ] (s:Str) (st:κ) (v:Int) (s':Str): ∀c:List ((Str×κ)×Int),zcV (zab (s,st) v c) s'=if s'=s then zab st v (zcV c s) else zcV c s'
 |[]=>by
   by_cases e:s'=s
   subst e;simp [zcV,zab];have: ¬s=s':=fun q=>e q.symm
   simp [zcV,zab,e,this]
 |p::r=>by
   have ih:=zqc s st v s' r;obtain ⟨⟨a,b⟩,w⟩:=p;simp only [zab,Prod.mk.injEq]
   by_cases h1:s=a
   subst h1
   by_cases h2:st=b
   subst h2;rw [if_pos ⟨rfl,rfl⟩]
   by_cases e:s'=s
   subst e;simp [zcV,zab];have: ¬s=s':=fun q=>e q.symm
   simp [zcV,e,this]
   rw [if_neg (fun q=>h2 q.2)]
   by_cases e:s'=s
   subst e;rw [if_pos rfl] at ih⊢;simp only [zcV,Be,beq_self_eq_true,if_true,As,zab,if_neg h2] at ih⊢;rw [ih];have: ¬s=s':=fun q=>e q.symm
   rw [if_neg e] at ih⊢;simp only [zcV,Be,beq_iff_eq,if_neg this] at ih⊢;exact ih;rw [if_neg (fun q=>h1 q.1)]
   by_cases e:s'=s
   subst e;have: ¬a=s':=fun q=>h1 q.symm
   rw [if_pos rfl] at ih⊢;simp only [zcV,Be,beq_iff_eq,if_neg this] at ih⊢;exact ih;rw [if_neg e] at ih⊢
   by_cases h3:a=s'
   simp only [zcV,Be,beq_iff_eq,if_pos h3,As] at ih⊢;rw [ih];simp only [zcV,Be,beq_iff_eq,if_neg h3] at ih⊢;exact ih
theorem zqb {κ:Type} [DecidableEq κ] (s:Str) (st:κ): ∀c:List ((Str×κ)×Int),alk st (zcV c s)=alk (s,st) c
 |[]=>rfl
 |⟨⟨a,b⟩,w⟩::r=>by
   have ih:=zqb s st r
   by_cases h:a=s
   subst h;simp only [zcV,Be,beq_self_eq_true,if_true,As,alk,Prod.mk.injEq,true_and] at ih⊢;rw [ih];have: ¬s=a:=fun q=>h q.symm
   simp only [zcV,Be,beq_iff_eq,if_neg h,alk,Prod.mk.injEq,this,false_and,if_false] at ih⊢;exact ih
def zo6 (E:List (Str×Int)):List StatS:=zX zhD ((E.filter fun e=>e.2 !=0).map fun e=>⟨e.1,e.2⟩)
end
section

end
section
def znE (a b:Of2):Int:=orI [zai a.1 b.1,zai a.2 b.2]
theorem zwx (a b:Of2):znE a b=if zai a.1 b.1≠0 then zai a.1 b.1 else zai a.2 b.2:=by unfold znE;rw [zcz]
theorem ztS (a b:Of2):znE a b= -znE b a:=by
 unfold znE;rw [zfG a.1,zfG a.2,zrK]
theorem zuL:Cmp znE (fun _=>True) where
 flip x y _ _:=by rw [ztS x y];omega
 trans x y z _ _ _ h1 h2:=by
  rw [zwx] at*;have k1:zai x.1 y.1<=0:=by split at h1<;>omega
  have k2:zai y.1 z.1<=0:=by split at h2<;>omega
  have k3:=zhg k1 k2
  split
  exact k3
  rename_i hz
  have hz':zai x.1 z.1=0:=by simpa using hz
  obtain ⟨e1,e2⟩:=zlO k1 k2 hz';rw [if_neg (by simp [e1])] at h1;rw [if_neg (by simp [e2])] at h2;exact zhg h1 h2
def OLt (a b:Of2):Prop:=znE a b<0
structure DisS where
 S:List Str
 c:List ((Str×Of2)×Int)
def zrr (p:Play):Str×Of2:=(p.Source,(p.Player,p.Stat))
def zxh (q:DisS) (p:Play):List ((Str×Of2)×Int):=zab (zrr p) ((alk (zrr p) q.c).getD 0+p.Count) q.c
end
section
theorem zkZ {α:Type} {s:Str} {v:α}: ∀{G:List (Str×α)},(zab s v G).map (·.1)=zdq s (G.map (·.1))
 |[]=>by simp [zab,zdq]
 |p::r=>by
   have ih:=zkZ (s:=s) (v:=v) (G:=r);simp only [zab]
   by_cases h:s=p.1
   rw [if_pos h];unfold zdq;rw [if_pos (by simp [h])]
   simp [h]
   rw [if_neg h,As,ih];unfold zdq
   by_cases hc:(r.map (·.1)).contains s=true
   rw [if_pos hc,if_pos (by simp at hc⊢;exact .inr hc)];rfl;rw [if_neg hc,if_neg (by simp at hc⊢;exact ⟨h,hc⟩)];rfl
theorem zl8 {α:Type} {s:Str} {v:α} {p:Str×α}: ∀{G:List (Str×α)},ANodup G->p∈zab s v G->p=(s,v)\/(p∈G/\p.1≠s)
 |[],_,h=>by simp [zab] at h;exact .inl h
 |q::r,hn,h=>by
   have h1:=List.nodup_cons.1 hn;simp only [zab] at h
   by_cases hs:s=q.1
   rw [if_pos hs] at h
   rcases List.mem_cons.1 h with h|h
   exact .inl h;refine .inr ⟨AK _ h,fun e=>h1.1 ?_⟩
   show q.1∈r.map (·.1)
   rw [<-hs,<-e];exact List.mem_map_of_mem h;rw [if_neg hs] at h
   rcases List.mem_cons.1 h with h|h
   subst h;exact .inr ⟨by simp,fun e=>hs e.symm⟩
   rcases zl8 h1.2 h with e|e
   exact .inl e;exact .inr ⟨AK _ e.1,e.2⟩
section
variable {κ:Type}
structure GrOk (S:List Str) (c:List ((Str×κ)×Int)) (G:GrM κ):Prop where
 keys:G.map (·.1)=S
 nodup:S.Nodup
 val: ∀p∈G,p.2.2=zcV c p.1
 inS: ∀e∈c,e.1.1∈S
theorem GrOk.anodup {S:List Str} {c:List ((Str×κ)×Int)} {G:GrM κ} (h:GrOk S c G):ANodup G:=by unfold ANodup;rw [h.keys];exact h.nodup
theorem GrOk.nil:GrOk ([]:List Str) ([]:List ((Str×κ)×Int)) []:=⟨rfl,BL,(fun p h=>by cases h),(fun e h=>by cases h)⟩
theorem GrOk.get {S:List Str} {c:List ((Str×κ)×Int)} {G:GrM κ} (h:GrOk S c G) {s:Str} {b:Nat} {L:List (κ×Int)} (hq:alk s G=some (b,L)):L=zcV c s:=h.val _ (zcv hq)
theorem GrOk.none {S:List Str} {c:List ((Str×κ)×Int)} {G:GrM κ} (h:GrOk S c G) {s:Str}:alk s G=none↔s∉S:=by rw [zi6,h.keys]
theorem zua {S:List Str} {c:List ((Str×κ)×Int)} {s:Str} (h: ∀e∈c,e.1.1∈S) (hs:s∉S):zcV c s=[]:=by
 unfold zcV;rw [List.map_eq_nil_iff,List.filter_eq_nil_iff]
 intro e he hq
 exact hs ((eq_of_beq hq)▸h e he)
theorem GrOk.add {S:List Str} {c:List ((Str×κ)×Int)} {G:GrM κ} (h:GrOk S c G) {s:Str} (b:Nat) (hs:alk s G=Option.none):GrOk (zdq s S) c (zab s (b,[]) G):=by
 have hn:=h.none.1 hs;refine ⟨by rw [zkZ,h.keys],ziT h.nodup,fun p hp=> ?_,fun e he=>zlu.2 (.inr (h.inS e he))⟩
 rcases zl8 h.anodup hp with rfl|⟨hp,_⟩
 exact (zua h.inS hn).symm;exact h.val p hp
variable [DecidableEq κ]
theorem GrOk.put {S:List Str} {c:List ((Str×κ)×Int)} {G:GrM κ} (h:GrOk S c G) {s:Str} {b:Nat} {L:List (κ×Int)} (hq:alk s G=some (b,L)) (k:κ) (v:Int):GrOk S (zab (s,k) v c) (zab s (b,zab k v L) G):=by
 have hs:s∈S:=by
  refine Decidable.not_not.1 fun hn=> ?_
  have:=h.none.2 hn;rw [this] at hq;cases hq
 refine ⟨?_,h.nodup,fun p hp=> ?_,fun e he=> ?_⟩
 rw [zkZ,h.keys];unfold zdq;rw [if_pos (by simpa using hs)];rw [zqc]
 rcases zl8 h.anodup hp with rfl|⟨hp,hne⟩
 rw [if_pos rfl,<-h.get hq];rw [if_neg hne];exact h.val p hp
 rcases zdP he with rfl|he
 exact hs;exact h.inS e he
end
end
section

end
section
def zeY (p:Option Of2):List Of2->List Of2
 |[]=>[]
 |x::r=>if p=some x then zeY (some x) r else x::zeY (some x) r
theorem OLt.trans {a b c:Of2} (h1:OLt a b) (h2:OLt b c):OLt a c:=zuL.lt_trans trivial trivial trivial h1 h2
end
section
def zzu (l:List Play) (trust:List Str) (n:Int) (x:Play):Bool:=decide (zzE l trust n x.Match=some x.Source)
def kept (l:List Play) (trust:List Str) (n:Int):List Play:=l.filter (zzu l trust n)
end
section
structure ChkIs (q:ChkS) (l:List Play):Prop where
 sn:q.S.Nodup
 s: ∀s,s∈q.S↔∃x∈l,x.Source=s
 wn:ANodup q.W
 w: ∀m,m∈q.W.map (·.1)↔∃x∈l,x.Match=m
 wv: ∀m v,alk m q.W=some v->∃x∈l,x.Match=m/\x.Week=v
 c:q.c=false↔∀x∈l,∀y∈l,x.Match=y.Match->x.Week=y.Week
theorem ChkIs.step {q:ChkS} {l:List Play} (h:ChkIs q l) (p:Play):ChkIs (zhG q p) (l++[p]) where
 sn:=ziT h.sn
 s s:=by
  show s∈zdq p.Source q.S↔_
  rw [zlu,h.s]
  constructor
  rintro (rfl|⟨x,hx,e⟩);exact ⟨p,by simp,rfl⟩;exact ⟨x,Ar _ hx,e⟩;rintro ⟨x,hx,e⟩
  rcases List.mem_append.1 hx with hx|hx
  exact .inr ⟨x,hx,e⟩;rw [List.mem_singleton.1 hx] at e;exact .inl e.symm
 wn:=h.wn.put
 w m:=by
  show m∈(zab p.Match p.Week q.W).map (·.1)↔_
  rw [zl7,h.w]
  constructor
  rintro (rfl|⟨x,hx,e⟩);exact ⟨p,by simp,rfl⟩;exact ⟨x,Ar _ hx,e⟩;rintro ⟨x,hx,e⟩
  rcases List.mem_append.1 hx with hx|hx
  exact .inr ⟨x,hx,e⟩;rw [List.mem_singleton.1 hx] at e;exact .inl e.symm
 wv m v hv:=by
  have hv':alk m (zab p.Match p.Week q.W)=some v:=hv;rw [zgY] at hv'
  by_cases e:m=p.Match
  rw [if_pos e] at hv';cases hv';exact ⟨p,by simp,e.symm,rfl⟩;rw [if_neg e] at hv';obtain ⟨x,hx,e1⟩:=h.wv m v hv';exact ⟨x,Ar _ hx,e1⟩
 c:=by
  show (q.c||((alk p.Match q.W).isSome&&((alk p.Match q.W).getD 0 !=p.Week)))=false↔_
  rw [Bool.or_eq_false_iff,h.c]
  constructor
  rintro ⟨h1,h2⟩;have hp: ∀x∈l,x.Match=p.Match->x.Week=p.Week:=fun x hx e=>by
   have hk:p.Match∈q.W.map (·.1):=(h.w _).2 ⟨x,hx,e⟩;have hne: ¬alk p.Match q.W=none:=by rw [zi6];exact fun z=>z hk
   obtain ⟨v,hv⟩:=Option.ne_none_iff_exists'.1 hne;rw [hv] at h2
   simp at h2
   obtain ⟨y,hy,e1,e2⟩:=h.wv _ _ hv;rw [h1 x hx y hy (by rw [e,e1]),e2,h2]
  intro x hx y hy e
  rcases List.mem_append.1 hx with hx|hx<;>rcases List.mem_append.1 hy with hy|hy
  exact h1 x hx y hy e;rw [List.mem_singleton.1 hy] at e⊢;exact hp x hx e;rw [List.mem_singleton.1 hx] at e⊢;exact (hp y hy e.symm).symm;rw [List.mem_singleton.1 hx,List.mem_singleton.1 hy]
  intro hall
  refine ⟨fun x hx y hy e=>hall x (Ar _ hx) y (Ar _ hy) e,?_⟩
  cases hv:alk p.Match q.W with
  |none=>rfl
  |some v=>
    obtain ⟨y,hy,e1,e2⟩:=h.wv _ _ hv;have:=hall y (Ar _ hy) p (by simp) e1
    simp
    rw [<-e2,this]
theorem zxf (l:List Play):ChkIs (zbz l) l:=by
 have key: ∀k,k<=l.length->ChkIs (zbz (l.take k)) (l.take k):=by
  intro k
  induction k with
  |zero=>
    intro _
    refine ⟨BL,fun s=> ?_,ANodup.nil,fun m=> ?_,fun m v hv=> ?_,?_⟩
    simp [zbz]
    simp [zbz]
    simp [zbz,alk] at hv
    simp [zbz]
  |succ k ih=>
    intro hk
    have hx:=Aa (l:=l) (i:=k) (by omega);rw [zeQ hx,zV hx];exact (ih (by omega)).step _
 have:=key l.length (Ae _)
 rwa [Al] at this
end
section
theorem zxE {p:Play} (h:playFault p=0):1<=p.Week:=by
 have h1:=(zhn h).2.2.2.1;unfold zef at h1;have:=zhX (n:=p.Week) (lo:=1) (hi:=60) (by simpa using h1)
 omega
theorem zwy {l:List Play} (hok: ∀y∈l,playFault y=0) {m:Str} {v:Int} (h:alk m (zbz l).W=some v):1<=v:=by
 obtain ⟨x,hx,_,rfl⟩:=(zxf l).wv m v h;exact zxE (hok x hx)
theorem zwz {l:List Play} (hok: ∀y∈l,playFault y=0) (p:Play):
 ((zbz l).c||((alk p.Match (zbz l).W).getD 0 !=0&&(alk p.Match (zbz l).W).getD 0 !=p.Week))=(zhG (zbz l) p).c:=by
 unfold zhG
 dsimp only
 cases h:alk p.Match (zbz l).W with
 |none=>simp
 |some v=>
   have:=zwy hok h;have h0:(v !=0)=true:=by simp;omega
   simp [h0]
/-! statistics-/
def zpG (E:List (Str×Int)):List StatS:=(E.filter fun e=>e.2 !=0).map fun e=>⟨e.1,e.2⟩
end
section
def zcE (x:Play):Prop:=Sh x.Source/\Sh x.Match/\Sh x.Player/\Sh x.Stat
structure GoodPl (k:List Play):Prop where
 len:k.length<=15
 all: ∀x∈k,zcE x
structure GoodTr (t:List Str):Prop where
 len:t.length<=4
 all: ∀s∈t,Sh s
def zgi:List Str:=[[102,97],[102,98],[102,99]]
theorem zkW: ∀s∈zgi,Sh s:=fun s hs=>by simp [zgi] at hs;rcases hs with rfl|rfl|rfl<;>(unfold Sh;simp)
def zlK:List Int:=[1,1,2]
def ze4:List Str:=[[109,97],[109,98],[109,99]]
theorem zjY (k:Nat):Sh (ze4.getD k []):=by
 match k with
 |0=>unfold Sh;simp [ze4]
 |1=>unfold Sh;simp [ze4]
 |2=>unfold Sh;simp [ze4]
 |n+3=>unfold Sh;simp [ze4]
theorem zqC {l:List Int} {z:Int}:l.contains z=l.any (· ==z):=by
 rw [AS,List.contains_iff_mem,B4]
 constructor
 intro h;exact ⟨z,h,by simp⟩
 rintro ⟨y,hy,e⟩;rw [beq_iff_eq] at e;exact e▸hy
end
end Go.HL
namespace Go.Proofs.YtbbpommdmnjfmaaGreatDoor
set_option maxRecDepth 100000
set_option linter.unusedVariables false
set_option linter.unusedSimpArgs false
section
open Go.Proofs.Tryz
open Go.HL
theorem zfC [Tracks] {l:List Play} {fid:FuncId} {caps:List HVal} {p:Play->Bool} (hca:Callable prog fid) (hp: ∀x,ConP prog fid ([zu x]++caps) (.bool (p x))) (hl:l.length<=1000000):ConP prog 189 [.slice 9 (l.map zu),.fn (.func fid) [] caps] (.int .i64 (zap p l 0)):=by
 refine uOb func189 ntmps189 ?_;refine zaD ?_;refine uV1 [4,2,8,11] (fun (k:Nat)=>[(8,.int .i64 k)]) (fun (k:Nat)=>[]) (fun (k:Nat)=>k<=l.length/\(zap p l 0=zap p (l.drop k) k)) (fun (k:Nat)=>l.length-k) (0) ?_ ?_ ?_ ?_;exact ⟨Ad _,rfl⟩;exact ⟨rfl,trivial⟩;exact Ab _
 intro k hinv
 obtain ⟨hk,hg⟩:=hinv;refine gz4 ?_;refine uCo (fun h1=> ?_) fun h2=> ?_
 obtain ⟨x,hx⟩: ∃x,l[k]? =some x:=⟨_,Aa h1⟩
 have hdx:=zi hx;rw [hdx] at hg;refine zcc ?_;refine dq (zl zaj zI rfl rfl rfl (by assumption)) ?_;refine gz1 ?_;refine dq (z7 hca rfl rfl (WeakL.refl _) (hp _)) ?_;refine gz1 ?_;refine uCo (fun h3=> ?_) fun h4=> ?_
 refine gz5 ?_;refine uRp ?_
 (rw [hg];simp_all [zap])
 refine gz7 ?_;refine ⟨k+1,?_,?_,⟨rfl,trivial⟩,uK,Ab _⟩
 refine ⟨by omega,?_⟩
 rw [hg,zap,if_neg (by simp_all)];rfl
 dsimp only;omega
 have hnk:l.length<=k:=by omega
 obtain rfl:k=l.length:=by omega
 rw [zz (Ae _)] at hg;refine gz2 ?_;refine zp ?_;refine gz6 ?_;refine uRp ?_
 (rw [hg];rfl)
theorem zkm [Tracks] {l:List Int} {z:Int} (hl:l.length<=1000000):ConP prog 230 [.slice 1 (l.map (.int .i64)),.int .i64 z] (.int .i64 (zap (· ==z) l 0)):=by
 refine uOb func230 ntmps230 ?_;refine zaD ?_;refine uV1 [4,2,8,11] (fun (k:Nat)=>[(8,.int .i64 k)]) (fun (k:Nat)=>[]) (fun (k:Nat)=>k<=l.length/\(zap (· ==z) l 0=zap (· ==z) (l.drop k) k)) (fun (k:Nat)=>l.length-k) (0) ?_ ?_ ?_ ?_;exact ⟨Ad _,rfl⟩;exact ⟨rfl,trivial⟩;exact Ab _
 intro k hinv
 obtain ⟨hk,hg⟩:=hinv;refine gz4 ?_;refine uCo (fun h1=> ?_) fun h2=> ?_
 obtain ⟨x,hx⟩: ∃x,l[k]? =some x:=⟨_,Aa h1⟩
 have hdx:=zi hx;rw [hdx] at hg;refine zcc ?_;refine dq (zl zac ty3 rfl rfl rfl (by assumption)) ?_;refine gz3 ?_;refine uCo (fun h3=> ?_) fun h4=> ?_
 refine gz5 ?_;refine uRp ?_
 (rw [hg];simp_all [zap])
 refine gz7 ?_;refine ⟨k+1,?_,?_,⟨rfl,trivial⟩,uK,Ab _⟩
 refine ⟨by omega,?_⟩
 rw [hg,zap,if_neg (by simp_all;try omega)];rfl
 dsimp only;omega
 have hnk:l.length<=k:=by omega
 obtain rfl:k=l.length:=by omega
 rw [zz (Ae _)] at hg;refine gz2 ?_;refine zp ?_;refine gz6 ?_;refine uRp ?_
 (rw [hg];rfl)
theorem zfk [Tracks] {l:List Int} {z:Int} (hl:l.length<=1000000):ConP prog 128 [.slice 1 (l.map (.int .i64)),.int .i64 z] (.bool (l.contains z)):=by
 refine uOb func128 ntmps128 ?_;refine gz6 ?_;refine dq (uCl zyR rfl (zkm (by assumption))) ?_;refine gz4 ?_;refine zx rfl ?_
 show HVal.bool _=_
 rw [zqC,<-zcu _ l 0 uO]
theorem zeu [Tracks] {n:Int}:ConP prog 150 [.int .i64 n] (.int .i64 (if zef n then 0 else 1)):=by
 refine uOb func150 ntmps150 ?_;refine gz5 ?_;refine dq (uCl ca67 rfl zgZ) ?_;refine gz3 ?_;refine uRp ?_;unfold zef
 cases out n 1 60<;>rfl
theorem zkC [Tracks] {p:Play} (hgp:zcE p):ConP prog 148 [zu p] (.int .i64 (playFault p)):=by
 refine uOb func148 ntmps148 ?_;refine gz9 ?_;refine dq (uCl ziJ rfl (zbR hgp.1)) ?_;refine gz3 ?_;refine uCo (fun h1=> ?_) fun h2=> ?_
 refine gz4 ?_;refine uRp ?_
 simp_all [playFault]
 refine gz3 ?_;refine dq (uCl zlh rfl zcS) ?_;refine gz4 ?_;refine dg rfl rfl (fun hc=>⟨_,OpenTo.upd (t:=15) rfl (hc) (OpenTo.refl _),uCl zrj rfl zb8⟩) ?_;refine gz5 ?_;refine dg rfl rfl (fun hc=>⟨_,OpenTo.upd (t:=21) rfl (hc) (OpenTo.refl _),uCl zs1 rfl zeu⟩) ?_;refine gz4 ?_;refine uCo (fun h3=> ?_) fun h4=> ?_
 refine gz4 ?_;refine uRp ?_
 simp_all [playFault]
 refine gz3 ?_;refine dq (uCl ziJ rfl (zbR hgp.2.1)) ?_;refine gz4 ?_;refine dg rfl rfl (fun hc=>⟨_,OpenTo.upd (t:=32) rfl (hc) (OpenTo.refl _),uCl ziJ rfl (zbR hgp.2.2.1)⟩) ?_;refine gz5 ?_;refine dg rfl rfl (fun hc=>⟨_,OpenTo.upd (t:=38) rfl (hc) (OpenTo.refl _),uCl ziJ rfl (zbR hgp.2.2.2)⟩) ?_;refine gz4 ?_;refine uCo (fun h5=> ?_) fun h6=> ?_
 refine gz4 ?_;refine uRp ?_
 simp_all [playFault]
 refine gz3 ?_;refine dq (uCl zlh rfl zcS) ?_;refine gz6 ?_;have hN:=zhX (n:=p.No) (lo:=1) (hi:=3000) (by simp_all);refine gz1 ?_;refine dg rfl rfl (fun hc=>⟨_,OpenTo.upd (t:=52) rfl (hc) (OpenTo.upd (t:=49) rfl (hc) (OpenTo.refl _)),uCl zlh rfl zcS⟩) ?_;refine gz4 ?_;refine uCo (fun h7=> ?_) fun h8=> ?_
 refine gz4 ?_;refine uRp ?_
 simp_all [playFault]
 refine zbo ?_;refine uCo (fun h9=> ?_) fun h10=> ?_
 refine gz4 ?_;refine uRp ?_
 simp_all [playFault]
 refine gz7 ?_;refine uRp ?_
 simp_all [playFault]
theorem zfu [Tracks] {a b:Play}:ConP prog 149 [zu a,zu b] (.int .i64 (byNo a b)):=by
 refine uOb func149 ntmps149 ?_;refine gz5 ?_;refine zw (fun _=>True) [] mixed ?_;refine gz4 ?_;refine uB 4 rfl (uCl zcM rfl z6) ?_;refine gz4 ?_;refine uB 9 rfl (uCl zcN rfl zZ) ?_;refine uB 10 rfl (zb (hs:=[_,_]) zac ty3 rfl rfl (by decide) (by decide) rfl) ?_;refine uB 11 rfl (uCl zf0 rfl (zbw (l:=[_,_]) (by simp))) ?_;refine gz3 ?_;refine zx rfl ?_
 rfl
theorem zgl [Tracks] {l:List Play} (hl:l.length<=1000000) (hgl: ∀x∈l,zcE x):ConP prog 62 [zbk l] (.int .i64 (zbJ l)):=by
 refine uOb func62 ntmps62 ?_;refine gz9 ?_;refine uCo (fun h1=> ?_) fun h2=> ?_
 refine gz4 ?_;refine zag Ghost.clear rfl ⟨?_,rfl⟩
 show HVal.int .i64 _=_
 (rw [zbJ,if_pos uO])
 refine gz3 ?_;refine de rfl (zgr fun m12=> ?_)
 refine de rfl (zgr fun m13=> ?_)
 refine zfL ?_;refine uV1 [2,1,5,4,16,48] (fun (k:Nat)=>[(16,.int .i64 k),(5,.bool (zbz (l.take k)).c)]) (fun (k:Nat)=>[.map m13 (sk (em (.int .i64) (zbz (l.take k)).W)),.map m12 (sk (zez (zbz (l.take k)).S))]) (fun (k:Nat)=>k<=l.length/\(zb4 l 0 l=zb4 l k (l.drop k)/\∀y∈l.take k,playFault y=0)) (fun (k:Nat)=>l.length-k) (0) ?_ ?_ ?_ ?_;exact ⟨Ad _,rfl,by simp⟩;exact ⟨rfl,rfl,trivial⟩;exact Ab _
 intro k hinv
 obtain ⟨hk,hg,hok⟩:=hinv;refine gz4 ?_;refine uCo (fun h3=> ?_) fun h4=> ?_
 obtain ⟨x,hx⟩: ∃x,l[k]? =some x:=⟨_,Aa h3⟩
 have hdx:=zi hx;rw [hdx] at hg;refine gz6 ?_;refine dq (zl zaj zI rfl rfl rfl (by assumption)) ?_;refine gz1 ?_;refine de rfl (zq zI rfl fun b7=> ?_)
 refine gz1 ?_;refine de0 (zJ zI rfl rfl rfl rfl rfl ?_)
 refine gz1 ?_;refine zf (zA 7 rfl) ?_;refine gz3 ?_;refine dq (uCl zx2 rfl (zkC (hgl x (Ac hx)))) ?_;refine gz6 ?_;refine uCo (fun h5=> ?_) fun h6=> ?_
 refine gz5 ?_;refine zag Ghost.clear rfl ⟨?_,rfl⟩
 show HVal.int .i64 _=_
 (rw [zj2 uO (by rw [hg,zb4,if_pos (by simpa using h5)]) (by simpa using h5)])
 refine gz3 ?_;refine zw (fun _=>True) [] mixed ?_;refine gz6 ?_;refine ahg 6 rfl rfl (by kernel_rfl) (by kernel_rfl) rfl (fun hc=>by have hq:=hc;(try simp at hq);exact ⟨_,OpenTo.upd (t:=31) rfl (hc) (OpenTo.upd (t:=29) rfl (hc) (OpenTo.refl _)),zl (j:=k-1) (a:=l.getD (k-1) zm2) zaj zI rfl rfl uO (getD_some uO)⟩) ?_;refine gz2 ?_;refine ahg 9 rfl rfl (by kernel_rfl) (by kernel_rfl) rfl (fun hc=>⟨_,OpenTo.upd (t:=34) rfl (hc) (OpenTo.upd (t:=33) rfl (hc) (OpenTo.refl _)),uCl zs0 rfl zfu⟩) ?_;refine gz3 ?_;refine uCo (fun h7=> ?_) fun h8=> ?_
 refine gz4 ?_;refine zag Ghost.clear rfl ⟨?_,rfl⟩
 show HVal.int .i64 _=_
 (rw [zj2 (c:=7) uO (by rw [hg,zb4,if_neg (by simpa using h6),if_pos (by obtain ⟨qa,qb⟩:=h7;have qb':0<=byNo (l.getD (k-1) zm2) x:=(by simpa using qb);rw [zh1];exact ⟨by omega,by omega⟩)]) (by decide)])
 refine gz6 ?_;refine de0 (zkS (i:=1) zqX ty9 rfl rfl rfl rfl ?_)
 refine gz7 ?_;refine dgl rfl rfl (fun hc=>⟨_,OpenTo.upd (t:=45) rfl (hc) (OpenTo.upd (t:=43) rfl (hc) (OpenTo.refl _)),znn (i:=0) (z0:=(0:Int)) zj4 ty9 ty3 rfl rfl rfl rfl ⟨rfl,rfl⟩⟩) ?_;refine gz5 ?_;refine dgl rfl rfl (fun hc=>⟨_,OpenTo.upd (t:=51) rfl (hc) (OpenTo.upd (t:=49) rfl (hc) (OpenTo.refl _)),znn (i:=0) (z0:=(0:Int)) zj4 ty9 ty3 rfl rfl rfl rfl ⟨rfl,rfl⟩⟩) ?_;refine zfL ?_;refine de0 (zkr (i:=0) zj4 ty9 rfl rfl rfl rfl ?_)
 refine gz7 ?_;refine ⟨k+1,⟨by omega,?_,?_⟩,uD,⟨rfl,?_,trivial⟩,uK,?_⟩
 rw [hg,zlz (by simpa using h6) (fun hk0=>by have hz:=h8;rw [zh1] at hz;simp_all;try omega)]
 intro y hy
 rw [zV hx] at hy
 rcases List.mem_append.1 hy with hy|hy
 exact hok y hy;rw [List.mem_singleton.1 hy];simpa using h6;rw [zeQ hx,<-zwz hok];exact congrArg (fun b=>some (HVal.bool b)) (by cases (zbz (l.take k)).c<;>simp);exact zm (by dsimp only;rw [zeQ hx];rfl);have hnk:l.length<=k:=by omega
 obtain rfl:k=l.length:=by omega
 rw [zz (Ae _)] at hg;rw [Al];refine gz2 ?_;refine zp ?_;refine gz4 ?_;have e1:(sk (zez (zbz l).S)).length=(zbz l).S.length:=by simp [sk,zez]
 have e2:(sk (em (HVal.int .i64) (zbz l).W)).length=(zbz l).W.length:=by simp [sk]
 refine gz2 ?_;refine de rfl (ziL (i:=1) zqX rfl rfl ?_)
 refine gz3 ?_;refine dgl rfl rfl (fun hc=>⟨_,OpenTo.upd (t:=69) rfl (hc) (OpenTo.refl _),ziL (i:=0) zj4 rfl rfl ⟨rfl,rfl⟩⟩) ?_;refine gz4 ?_;refine uCo (fun h9=> ?_) fun h10=> ?_
 refine gz4 ?_;refine zag Ghost.clear rfl ⟨?_,rfl⟩
 show HVal.int .i64 _=_
 (rw [zfc uO hg,zeJ,if_pos uO])
 refine gz4 ?_;refine uCo (fun h11=> ?_) fun h12=> ?_
 refine gz4 ?_;refine zag Ghost.clear rfl ⟨?_,rfl⟩
 show HVal.int .i64 _=_
 (rw [zfc uO hg,zeJ,if_neg uO,if_pos (by assumption)])
 refine gz7 ?_;refine zag Ghost.clear rfl ⟨?_,rfl⟩
 show HVal.int .i64 _=_
 (rw [zfc uO hg,zeJ,if_neg uO,if_neg (by simp_all)])
theorem zj8 [Tracks] {l:List Str} (hl:l.length<=1000000) (hs: ∀s∈l,Sh s):ConP prog 44 [eSs l] (.int .i64 (ze6 l)):=by
 refine uOb func44 ntmps44 ?_;refine gz9 ?_;refine uCo (fun h1=> ?_) fun h2=> ?_
 refine gz4 ?_;refine uRp ?_
 (rw [ze6,if_pos uO])
 refine gz9 ?_;refine uV1 [2,3,10,16] (fun (k:Nat)=>[(10,.int .i64 k)]) (fun (k:Nat)=>[]) (fun (k:Nat)=>k<=l.length/\(ze6 l=zd1 l k (l.drop k))) (fun (k:Nat)=>l.length-k) (0) ?_ ?_ ?_ ?_;refine ⟨Ad _,?_⟩
 rw [ze6,if_neg uO];rfl;exact ⟨rfl,trivial⟩;exact Ab _
 intro k hinv
 obtain ⟨hk,hg⟩:=hinv;refine gz4 ?_;refine uCo (fun h3=> ?_) fun h4=> ?_
 obtain ⟨x,hx⟩: ∃x,l[k]? =some x:=⟨_,Aa h3⟩
 have hdx:=zi hx;rw [hdx] at hg;refine gz6 ?_;refine dq (zl zH ty9 rfl rfl rfl (by assumption)) ?_;refine gz7 ?_;refine dq (uCl ziJ rfl (zbR (hs x (Ac hx)))) ?_;refine gz3 ?_;refine uCo (fun h5=> ?_) fun h6=> ?_
 refine gz4 ?_;refine uRp ?_
 (rw [hg];simp_all [zd1])
 refine gz3 ?_;refine dq (zbq zH ty9 rfl rfl ⟨_,_,rfl,rfl⟩ uO uO) ?_;refine gz1 ?_;refine dq (uCl zjR rfl (zaH (by simp;omega))) ?_;refine gz2 ?_;refine uCo (fun h7=> ?_) fun h8=> ?_
 refine gz4 ?_;refine uRp ?_
 (rw [hg];simp_all [zd1])
 refine gz8 ?_;refine ⟨k+1,?_,?_,⟨rfl,trivial⟩,uK,Ab _⟩
 refine ⟨by omega,?_⟩
 rw [hg];simp_all [zd1]
 dsimp only;omega
 have hnk:l.length<=k:=by omega
 obtain rfl:k=l.length:=by omega
 rw [zz (Ae _)] at hg;refine gz2 ?_;refine zp ?_;refine gz6 ?_;refine uRp ?_
 (rw [hg];simp_all [zd1])
end
end Go.Proofs.YtbbpommdmnjfmaaGreatDoor
namespace Go.HL
section
section
variable {κ:Type}
end
end
section
structure DisOk (q:DisS) (n:Nat):Prop where
 c:ANodup q.c
 S:q.S.Nodup
 k: ∀s∈q.S,s.length<=40
 cl:q.c.length<=n
 Sl:q.S.length<=n
 bd: ∀e∈q.c,-(100000*(n:Int))<=e.2/\e.2<=100000*(n:Int)
theorem DisOk.val {q:DisS} {n:Nat} (h:DisOk q n) (s:Str×Of2): -(100000*(n:Int))<=(alk s q.c).getD 0/\(alk s q.c).getD 0<=100000*(n:Int):=by
 cases hq:alk s q.c with
 |none=>simp;omega
 |some v=>exact h.bd _ (zcv hq)
theorem DisOk.up {q:DisS} {n:Nat} (h:DisOk q n):DisOk q (n+1):=
 ⟨h.c,h.S,h.k,by have:=h.cl;omega,by have:=h.Sl;omega,fun e he=>by have:=h.bd e he;omega⟩
theorem DisOk.sput {q:DisS} {n:Nat} (h:DisOk q n) {p:Play} (hp:playFault p=0):DisOk ⟨zdq p.Source q.S,q.c⟩ (n+1):=by
 refine ⟨h.c,ziT h.S,fun s hs=> ?_,by have:=h.cl;dsimp only;omega,AA (zsE _ _) (by have:=h.Sl;omega),fun e he=>by have:=h.bd e he;omega⟩
 rcases zlu.1 hs with rfl|hs
 exact zsv (zhn hp).1;exact h.k s hs
theorem DisOk.put {q:DisS} {n:Nat} (h:DisOk q n) {p:Play} (hp:playFault p=0):DisOk ⟨zdq p.Source q.S,zxh q p⟩ (n+1):=by
 have hs:=h.sput hp;obtain ⟨_,_,_,_,_,hb,_⟩:=zhn hp;have hv:=h.val (zrr p);refine ⟨h.c.put,hs.S,hs.k,AA (zpi _ _ _) (by have:=h.cl;omega),hs.Sl,fun e he=> ?_⟩
 rcases zdP he with rfl|he
 dsimp only;omega
 have:=h.bd e he;omega
end
section
section
variable {P:Program} {e:Env} {dst:Option Tmp} {ty:TypeId} {pos:String} {af:Array Edge} {g:Option (Nat×Bool)}
end
section
variable {P:Program} {n:Nat} {e e':Env} {M M':List MObj} {Q Q':Exit->Env->List MObj->Prop} {c c':Code}
def ztH {α β γ δ:Type} (e:Env) (ks:List Nat) (W:α->β->γ->δ->List (Nat×HVal)) (MM:α->β->γ->δ->List MObj) (Iv:α->β->γ->δ->Prop) (μ:α->β->γ->δ->Nat) (x:α) (y:β) (u:γ) (v:δ) (Q:Exit->Env->List MObj->Prop):Exit->Env->List MObj->Prop
 | .normal,e',M=> ∃j k l m,Iv j k l m/\μ j k l m<μ x y u v/\zcY e' (W j k l m)/\zeL ks e e'/\M.Perm (MM j k l m)
 |z,e',M=>Q z e' M
theorem zlt {α β γ δ:Type} {e0:Env} {ks:List Nat} {W:α->β->γ->δ->List (Nat×HVal)} {MM:α->β->γ->δ->List MObj} {Iv:α->β->γ->δ->Prop} {μ:α->β->γ->δ->Nat} {x:α} {y:β} {u:γ} {v:δ} {id:Nat} (h:Q (.exit id) e M):
 ztH e0 ks W MM Iv μ x y u v Q (.exit id) e M:=h
theorem zjW [Tracks] {α β γ δ:Type} (ks:List Nat) (W:α->β->γ->δ->List (Nat×HVal)) (MM:α->β->γ->δ->List MObj) (Iv:α->β->γ->δ->Prop) (μ:α->β->γ->δ->Nat) (x:α) (y:β) (u:γ) (v:δ) (h0:Iv x y u v) (hW:zcY e (W x y u v)) (hM:M.Perm (MM x y u v))
 (hb: ∀x y u v,Iv x y u v->HWp P n c (loopE e ks (W x y u v)) (MM x y u v) (ztH e ks W MM Iv μ x y u v Q)):HWp P n (.loop c) e M Q:=by
 refine zlr (ι:=α×β×γ×δ) ks (fun p=>W p.1 p.2.1 p.2.2.1 p.2.2.2) (fun p=>MM p.1 p.2.1 p.2.2.1 p.2.2.2) (fun p=>Iv p.1 p.2.1 p.2.2.1 p.2.2.2) (fun p=>μ p.1 p.2.1 p.2.2.1 p.2.2.2) (x,y,u,v) h0 hW hM fun p hp=>ziX (hb p.1 p.2.1 p.2.2.1 p.2.2.2 hp) ?_
 intro z e1 M1 hq
 cases z with
 |normal=>obtain ⟨j,k,l,m,h⟩:=hq;exact ⟨(j,k,l,m),h⟩
 |_=>exact hq
end
end
section

end
section
theorem zpf (x:Of2): ∀(A:List Of2) (p:Option Of2),zeY p (A++[x])=zeY p A++if (A.getLast?.or p)=some x then [] else [x]
 |[],p=>by
   by_cases h:p=some x<;>simp [zeY,h]
 |y::A,p=>by
   have ih:=zpf x A (some y);have e:((y::A).getLast?.or p)=(A.getLast?.or (some y)):=by
    cases A with
    |nil=>simp
    |cons z A=>simp [List.getLast?_cons_cons,List.getLast?_cons]
   simp only [A3,zeY];rw [e,ih]
   split<;>simp
theorem ztE {l:List Of2} {k:Nat} {x y:Of2} (hx:l[k]? =some x) (hy:l[k-1]? =some y) (h0:0<k):zeY none (l.take (k+1))=zeY none (l.take k)++if x=y then [] else [x]:=by
 have hk:=zo hx;rw [zV hx,zpf];have e:((l.take k).getLast?.or none)=some y:=by
  rw [List.getLast?_eq_getElem?,Ag,Nat.min_eq_left (by omega),AD (by omega),hy];rfl
 rw [e]
 by_cases h:x=y
 rw [if_pos h,if_pos (by rw [h])];rw [if_neg h,if_neg (by simpa using fun q:y=x=>h q.symm)]
structure CmpO (l:List Of2) (j:Nat) (D:List Of2):Prop where
 len:D.length=l.length
 lo:D.take (zeY none (l.take j)).length=zeY none (l.take j)
 lt:(zeY none (l.take j)).length<j
 hi: ∀i,j<=i+1->D[i]? =l[i]?
theorem CmpO.same {l D:List Of2} {j:Nat} (h:CmpO l j D) {x y:Of2} (hx:l[j]? =some x) (hy:l[j-1]? =some y) (e:x=y):CmpO l (j+1) D/\(zeY none (l.take (j+1))).length=(zeY none (l.take j)).length:=by
 have h0:=h.lt;have h1:zeY none (l.take (j+1))=zeY none (l.take j):=by rw [ztE hx hy (by omega),if_pos e];simp
 exact ⟨⟨h.len,by rw [h1];exact h.lo,by rw [h1];omega,fun i hi=>h.hi i (by omega)⟩,by rw [h1]⟩
end
section
theorem zu4 {l:List Str} {i:Nat} (h:i<l.length):l.getD i []∈l:=by
 rw [Ai,Aa h];exact BC h
end
end Go.HL
namespace Go.Proofs.YtbbpommdmnjfmaaGreatDoor
set_option maxRecDepth 100000
set_option linter.unusedVariables false
set_option linter.unusedSimpArgs false
section
open Go.Proofs.Tryz
open Go.HL
theorem zaK [Tracks] {b:Nat} {l:List Int} {a:Nat} (ha:a<=800000):Con prog 99 [pAt b] [St b l a] (fun x M'=> ∃t a',x=eSs t/\GoodTr t/\a'<=a+10/\M'=[St b l a']):=by
 refine uOb func99 ntmps99 ?_;refine gz6 ?_;refine zf (zG 1) ?_;refine gz3 ?_;refine de rfl (za (i:=1) zv7 rfl (WeakL.refl _) rfl (zfs (n:=3) uO uO uO) ?_)
 rintro _ _ ⟨L7,a7,rfl,hL7,ha7,rfl⟩;refine gz3 ?_;obtain ⟨hLn,hLb⟩:=hL7;refine gz1 ?_;refine uV2 [3,1,5,1,9,15] (fun (k:Nat) (q:GL Str)=>[(9,.int .i64 k),(3,.raw q.u)]) (fun (k:Nat) (q:GL Str)=>[St b l q.a,.arr q.u 1 (q.out.map .str)]) (fun (k:Nat) (q:GL Str)=>k<=L7.length/\(GLok Sh k (a7+k) q)) (fun (k:Nat) (q:GL Str)=>L7.length-k) (0) (⟨.slice none 0 0,[],a7⟩) ?_ ?_ ?_ ?_;exact ⟨Ad _,⟨by simp,by simp,uD⟩⟩;exact ⟨rfl,rfl,trivial⟩;exact uP
 intro k q hinv
 obtain ⟨hk,hq⟩:=hinv;obtain ⟨u,out,a2⟩:=q;obtain ⟨g1,g2,g3⟩:=id hq;dsimp only at g1 g2 g3;refine gz4 ?_;refine uCo (fun h1=> ?_) fun h2=> ?_
 obtain ⟨y,hy⟩: ∃y,L7[k]? =some y:=⟨_,Aa h1⟩
 have hdy:=zi hy;refine gz5 ?_;refine dq (zl zac ty3 rfl rfl rfl (by assumption)) ?_;refine gz5 ?_;refine de rfl (za (i:=0) zdK rfl (WeakL.refl _) rfl (zK (by simp;omega) uO) ?_)
 rintro _ _ ⟨y14,rfl,rfl⟩;refine gz2 ?_;refine uCo (fun h3=> ?_) fun h4=> ?_
 refine gz2 ?_;refine dq (zb (hs:=[_,_,_]) zH ty9 rfl rfl (by decide) (by decide) rfl) ?_;refine gz1 ?_;refine dq (zl (f:=HVal.str) (l:=zgi) (j:=y.toNat) (a:=zgi.getD y.toNat []) zH ty9 rfl rfl (by have:=hLb y (Ac hy);omega) (getD_some (by have:=hLb y (Ac hy);simp [zgi];omega))) ?_;refine gz1 ?_;refine dq (zb (hs:=[_]) zH ty9 rfl rfl (by decide) (by decide) rfl) ?_;refine de rfl (zC (i:=1) zH ty9 rfl rfl rfl rfl rfl (by simp [zal,zd]) (by simp;omega) fun v22=> ?_)
 refine gz8 ?_;exact ⟨k+1,⟨v22,out++[zgi.getD y.toNat []],a2+1⟩,⟨by omega,hq.add (x:=zgi.getD y.toNat []) (zkW _ (zu4 (by have:=hLb y (Ac hy);simp [zgi];omega))) uO⟩,uD,⟨rfl,rfl,trivial⟩,uK,uP⟩;refine gz7 ?_;exact ⟨k+1,⟨u,out,a2+1⟩,⟨by omega,hq.same uO⟩,uD,⟨rfl,rfl,trivial⟩,uK,uP⟩;have hnk:L7.length<=k:=by omega
 obtain rfl:k=L7.length:=by omega
 refine gz2 ?_;refine zM ?_;refine gz3 ?_
 dsimp only
 refine gz2 ?_;refine de rfl (za (i:=0) zdK rfl (WeakL.refl _) rfl (zK uO uO) ?_)
 rintro _ _ ⟨y25,rfl,rfl⟩;refine gz1 ?_;refine uCo (fun h5=> ?_) fun h6=> ?_
 refine gz3 ?_;refine dq (zb (hs:=[_,_,_]) zH ty9 rfl rfl (by decide) (by decide) rfl) ?_;refine de rfl (za (i:=0) zck rfl (WeakL.refl _) rfl (zt (L:=[_,_,_]) uO (by simp_all) (by simp_all)) ?_)
 rintro _ _ ⟨y29,rfl,hy29,rfl⟩;refine dq (zb (hs:=[_]) zH ty9 rfl rfl (by decide) (by decide) rfl) ?_;refine de rfl (zC (i:=1) zH ty9 rfl rfl rfl rfl rfl (by simp [zal,zd]) (by simp;omega) fun v31=> ?_)
 refine gz8 ?_;exact zag (zaP 2 (i:=1) rfl rfl) rfl ⟨out++[y29],_,by simp,⟨by simp;omega,fun s hs=>by
  rcases List.mem_append.1 hs with hs|hs
  exact g2 s hs;rw [List.mem_singleton.1 hs];simp at hy29;rcases hy29 with rfl|rfl|rfl<;>(unfold Sh;simp)⟩,by omega,rfl⟩
 refine gz7 ?_;exact zag (zaP 2 (i:=1) rfl rfl) rfl ⟨out,_,rfl,⟨by omega,g2⟩,by omega,rfl⟩
theorem zjB [Tracks] {b:Nat} {l:List Int} {a:Nat} (ha:a<=700000):Con prog 22 [pAt b] [St b l a] (fun x M'=> ∃k a',x=zbk k/\GoodPl k/\a'<=a+500/\M'=[St b l a']):=by
 refine uOb func22 ntmps22 ?_;refine gz6 ?_;refine zf (zG 9) ?_;refine gz2 ?_;refine dq (zb (hs:=[_,_,_]) zH ty9 rfl rfl (by decide) (by decide) rfl) ?_;refine dq (zaq (f:=HVal.str) (l:=zgi) zH rfl) ?_;refine gz3 ?_;refine uV2 [3,1,5,5,11,1,15,97] (fun (k:Nat) (q:GL Play)=>[(15,.int .i64 k),(3,.raw q.u)]) (fun (k:Nat) (q:GL Play)=>[St b l q.a,.arr q.u 9 (q.out.map zu)]) (fun (k:Nat) (q:GL Play)=>k<=zgi.length/\(GLok zcE (5*k) (a+130*k) q)) (fun (k:Nat) (q:GL Play)=>zgi.length-k) (0) (⟨.slice none 0 0,[],a⟩) ?_ ?_ ?_ ?_;exact ⟨by decide,⟨by simp,by simp,uD⟩⟩;exact ⟨rfl,rfl,trivial⟩;exact uP
 intro k q hinv
 obtain ⟨hk,hq⟩:=hinv;obtain ⟨u,out,a1⟩:=q;obtain ⟨g1,g2,g3⟩:=id hq;dsimp only at g1 g2 g3;have h3:zgi.length=3:=rfl;refine gz4 ?_;refine uCo (fun h1=> ?_) fun h2=> ?_
 obtain ⟨x,hx⟩: ∃x,zgi[k]? =some x:=⟨_,Aa h1⟩
 have hdx:=zi hx;refine gz5 ?_;refine dq (zl (f:=HVal.str) (l:=zgi) (j:=k) (a:=x) zH ty9 rfl rfl rfl hx) ?_;refine gz5 ?_;refine dq (zb (hs:=[_,_]) zac ty3 rfl rfl (by decide) (by decide) rfl) ?_;refine de rfl (za (i:=0) za8 rfl (WeakL.refl _) rfl (zh (L:=[_,_]) (by simp;omega) (by simp_all) (by simp_all)) ?_)
 rintro _ _ ⟨y21,rfl,hy21,rfl⟩;refine gz5 ?_;refine de rfl (za (i:=0) zgh rfl (WeakL.refl _) rfl (zY (by simp;omega) uO uO uO) ?_)
 rintro _ _ ⟨y23,rfl,hy23,rfl⟩;refine gz3 ?_;refine zjW (3::6::7::8::9::11::24::25::26::27::28::29::30::31::32::33::34::35::36::37::38::39::40::41::42::43::44::45::46::47::48::49::50::51::52::53::54::55::56::57::58::59::60::61::62::63::64::65::66::67::68::69::70::71::72::73::74::75::76::77::78::79::80::81::82::83::84::85::86::87::88::89::90::91::92::93::94::95::96::97::98::99::100::101::102::103::104::105::106::107::108::109::110::[]) (fun (n:Nat) (no:Int) (at1:Int) (q2:GL Play)=>[(24,.int .i64 (n:Int)),(6,.int .i64 no),(7,.int .i64 at1),(3,.raw q2.u)]) (fun (n:Nat) (no:Int) (at1:Int) (q2:GL Play)=>[St b l q2.a,.arr q2.u 9 (q2.out.map zu)]) (fun (n:Nat) (no:Int) (at1:Int) (q2:GL Play)=>(n:Int)<=y23/\(0<=no/\no<=2*n)/\(0<=at1/\at1<=5+40*n)/\GLok zcE (5*k+n) (a1+2+25*n) q2) (fun (n:Nat) (no:Int) (at1:Int) (q2:GL Play)=>y23.toNat-n) (0) (0) (y21) (⟨u,out,a1+2⟩) ?_ ?_ ?_ ?_;exact ⟨by omega,⟨by omega,by omega⟩,⟨by simp at hy21;omega,by simp at hy21;omega⟩,⟨uD,g2,uD⟩⟩;exact ⟨rfl,rfl,rfl,rfl,trivial⟩;exact uP
 intro n no at1 q2 hinv
 obtain ⟨hn,hno,hat,hq2⟩:=hinv;obtain ⟨u,out,a2⟩:=q2;obtain ⟨g1,g2,g3⟩:=id hq2;dsimp only at g1 g2 g3;refine gz4 ?_;refine uCo (fun h3=> ?_) fun h4=> ?_
 refine gz7 ?_;refine dq (zb (hs:=[_,_,_]) zac ty3 rfl rfl (by decide) (by decide) rfl) ?_;refine de rfl (za (i:=0) za8 rfl (WeakL.refl _) rfl (zh (L:=[_,_,_]) (by simp;omega) (by simp_all) (by simp_all)) ?_)
 rintro _ _ ⟨y29,rfl,hy29,rfl⟩;refine dq (zcI rfl rfl (by simp at hy29;omega) (by simp at hy29;omega)) ?_;refine gz4 ?_;refine de rfl (za (i:=0) zfF rfl (WeakL.refl _) rfl (zW (by simp;omega) uO) ?_)
 rintro _ _ ⟨y32,rfl,hy32,rfl⟩;refine gz2 ?_;have hyb:1<=y29/\y29<=2:=by simp at hy29;omega
 refine uVj [9,1,33,21] (fun (q9:Nat×Play)=>[(9,pAt q9.1)]) (fun (q9:Nat×Play)=>[St b l (a2+5),.arr u 9 (out.map zu),.cells q9.1 (zd (zu q9.2))]) (fun (q9:Nat×Play)=>zcE q9.2) ?_ ?_
 skip
 refine zaC (fun _=>True) [] mixed ?_;refine gz3 ?_;refine uB 3 rfl (zb (hs:=[_,_,_]) zac ty3 rfl rfl (by decide) (by decide) rfl) ?_;refine gz1 ?_;refine uB 5 rfl (zl (f:=HVal.int .i64) (l:=zlK) (j:=y32) (a:=zlK.getD y32 0) zac ty3 rfl rfl rfl (getD_some (by simp [zlK];omega))) ?_;refine gz1 ?_;refine uB 7 rfl (zb (hs:=[_,_,_]) zH ty9 rfl rfl (by decide) (by decide) rfl) ?_;refine gz1 ?_;refine uB 9 rfl (zl (f:=HVal.str) (l:=ze4) (j:=y32) (a:=ze4.getD y32 []) zH ty9 rfl rfl rfl (getD_some (by simp [ze4];omega))) ?_;refine gz2 ?_;refine uB 12 rfl (zb (hs:=[_,_,_]) zH ty9 rfl rfl (by decide) (by decide) rfl) ?_;refine uA 14 ?_;refine uB 15 rfl (zb (hs:=[_,_,_,_]) zH ty9 rfl rfl (by decide) (by decide) rfl) ?_;refine uA 17 ?_;refine uB 18 rfl (zb (hs:=[_,_,_,_,_]) zac ty3 rfl rfl (by decide) (by decide) rfl) ?_;refine zim 13 21 rfl rfl (by kernel_rfl) ?_ ?_
 skip
 refine zy rfl (za (i:=0) zck rfl (WeakL.refl _) rfl (zt (L:=[_,_,_]) (by simp;omega) (by simp_all) (by simp_all)) ?_)
 rintro _ _ ⟨y46,rfl,hy46,rfl⟩;refine ⟨fun _=> .inl trivial,?_⟩
 refine zim 16 21 rfl rfl (by kernel_rfl) ?_ ?_
 skip
 refine zy rfl (za (i:=0) zck rfl (WeakL.refl _) rfl (zt (L:=[_,_,_,_]) (by simp;omega) (by simp_all) (by simp_all)) ?_)
 rintro _ _ ⟨y49,rfl,hy49,rfl⟩;refine ⟨fun _=> .inl trivial,?_⟩
 refine zim 19 21 rfl rfl (by kernel_rfl) ?_ ?_
 skip
 refine zy rfl (za (i:=0) za8 rfl (WeakL.refl _) rfl (zh (L:=[_,_,_,_,_]) (by simp;omega) (by simp_all) (by simp_all)) ?_)
 rintro _ _ ⟨y52,rfl,hy52,rfl⟩;refine ⟨fun _=> .inl trivial,?_⟩
 refine uB 20 rfl (zas (cs:=[_,_,_,_,_,_,_,_,_]) zI zqU rfl) ?_;refine uF 21 ?_;refine zy rfl (zq zI rfl fun b9=> ?_)
 refine ⟨fun _=> .inl trivial,?_⟩
 refine uF 22 ?_;refine zF (uY 0 ?_)
 refine ⟨fun _=> .inl trivial,?_⟩
 refine uAz ?_;refine ⟨(b9,(⟨x,no+y29,at1,zlK.getD y32 0,ze4.getD y32 [],y46,y49,y52,0⟩:Play)),?_,⟨rfl,trivial⟩,uK,?_⟩
 exact ⟨zkW x (Ac hx),zjY y32,by simp at hy46;rcases hy46 with rfl|rfl|rfl<;>(unfold Sh;simp),by simp at hy49;rcases hy49 with rfl|rfl|rfl<;>(unfold Sh;simp)⟩;exact uP
 skip
 refine zy rfl (zq zI rfl fun b9=> ?_)
 refine ⟨fun _=> .inl trivial,?_⟩
 refine uF 19 ?_;refine zy rfl (za (i:=1) za8 rfl (WeakL.refl _) rfl (zh (L:=[_,_,_,_,_]) (by simp;omega) (by simp_all) (by simp_all)) ?_)
 rintro _ _ ⟨y52,rfl,hy52,rfl⟩;refine ⟨fun _=> .inl trivial,?_⟩
 refine uB 20 rfl (zas (cs:=[_,_,_,_,_,_,_,_,_]) zI zqU rfl) ?_;refine uF 22 ?_;refine zF (uY 1 ?_)
 refine ⟨fun _=> .inl trivial,?_⟩
 refine uAz ?_;refine ⟨(b9,(⟨x,no+y29,at1,zlK.getD y32 0,ze4.getD y32 [],y46,y49,y52,0⟩:Play)),?_,⟨rfl,trivial⟩,uK,?_⟩
 exact ⟨zkW x (Ac hx),zjY y32,by simp at hy46;rcases hy46 with rfl|rfl|rfl<;>(unfold Sh;simp),by simp at hy49;rcases hy49 with rfl|rfl|rfl<;>(unfold Sh;simp)⟩;exact uP
 skip
 refine zy rfl (zq zI rfl fun b9=> ?_)
 refine ⟨fun _=> .inl trivial,?_⟩
 refine uF 16 ?_;refine zy rfl (za (i:=1) zck rfl (WeakL.refl _) rfl (zt (L:=[_,_,_,_]) (by simp;omega) (by simp_all) (by simp_all)) ?_)
 rintro _ _ ⟨y49,rfl,hy49,rfl⟩;refine ⟨fun _=> .inl trivial,?_⟩
 refine uF 19 ?_;refine zy rfl (za (i:=0) za8 rfl (WeakL.refl _) rfl (zh (L:=[_,_,_,_,_]) (by simp;omega) (by simp_all) (by simp_all)) ?_)
 rintro _ _ ⟨y52,rfl,hy52,rfl⟩;refine ⟨fun _=> .inl trivial,?_⟩
 refine uB 20 rfl (zas (cs:=[_,_,_,_,_,_,_,_,_]) zI zqU rfl) ?_;refine uF 22 ?_;refine zF (uY 1 ?_)
 refine ⟨fun _=> .inl trivial,?_⟩
 refine uAz ?_;refine ⟨(b9,(⟨x,no+y29,at1,zlK.getD y32 0,ze4.getD y32 [],y46,y49,y52,0⟩:Play)),?_,⟨rfl,trivial⟩,uK,?_⟩
 exact ⟨zkW x (Ac hx),zjY y32,by simp at hy46;rcases hy46 with rfl|rfl|rfl<;>(unfold Sh;simp),by simp at hy49;rcases hy49 with rfl|rfl|rfl<;>(unfold Sh;simp)⟩;exact uP
 skip
 refine zy rfl (zq zI rfl fun b9=> ?_)
 refine ⟨fun _=> .inl trivial,?_⟩
 refine uF 13 ?_;refine zy rfl (za (i:=1) zck rfl (WeakL.refl _) rfl (zt (L:=[_,_,_]) (by simp;omega) (by simp_all) (by simp_all)) ?_)
 rintro _ _ ⟨y46,rfl,hy46,rfl⟩;refine ⟨fun _=> .inl trivial,?_⟩
 refine uF 16 ?_;refine zy rfl (za (i:=0) zck rfl (WeakL.refl _) rfl (zt (L:=[_,_,_,_]) (by simp;omega) (by simp_all) (by simp_all)) ?_)
 rintro _ _ ⟨y49,rfl,hy49,rfl⟩;refine ⟨fun _=> .inl trivial,?_⟩
 refine uF 19 ?_;refine zy rfl (za (i:=0) za8 rfl (WeakL.refl _) rfl (zh (L:=[_,_,_,_,_]) (by simp;omega) (by simp_all) (by simp_all)) ?_)
 rintro _ _ ⟨y52,rfl,hy52,rfl⟩;refine ⟨fun _=> .inl trivial,?_⟩
 refine uB 20 rfl (zas (cs:=[_,_,_,_,_,_,_,_,_]) zI zqU rfl) ?_;refine uF 22 ?_;refine zF (uY 1 ?_)
 refine ⟨fun _=> .inl trivial,?_⟩
 refine uAz ?_;refine ⟨(b9,(⟨x,no+y29,at1,zlK.getD y32 0,ze4.getD y32 [],y46,y49,y52,0⟩:Play)),?_,⟨rfl,trivial⟩,uK,?_⟩
 exact ⟨zkW x (Ac hx),zjY y32,by simp at hy46;rcases hy46 with rfl|rfl|rfl<;>(unfold Sh;simp),by simp at hy49;rcases hy49 with rfl|rfl|rfl<;>(unfold Sh;simp)⟩;exact uP
 intro q9 hq9
 obtain ⟨b9,x9⟩:=q9;dsimp only at hq9;refine uVj [11,1,54,47] (fun (q4:Play×Nat)=>[]) (fun (q4:Play×Nat)=>[St b l q4.2,.arr u 9 (out.map zu),.cells b9 (zd (zu q4.1))]) (fun (q4:Play×Nat)=>zcE q4.1/\q4.2<=a2+22) ?_ ?_
 skip
 refine gz5 ?_;refine dgx (fun x M'=> ∃(y:Bool) (a3:Nat),x= .bool y/\a3<=(a2+5)+1/\M'=[St b l a3,.arr u 9 (out.map zu),.cells b9 (zd (zu x9))]) rfl rfl (fun hc=>⟨_,false,(a2+5),rfl,by omega,rfl⟩) (fun hc=>⟨_,OpenTo.upd (t:=57) rfl (hc) (OpenTo.refl _),za (i:=0) zdK rfl (WeakL.refl _) rfl (zK (a:=(a2+5)) uO uO) (fun h M' hh=>by
  obtain ⟨y,h1,h2⟩:=hh;exact ⟨y,(a2+5)+1,h1,by omega,by rw [h2];rfl⟩)⟩) ?_
 rintro _ _ ⟨y10,a310,rfl,ha310,rfl⟩;refine gz2 ?_;refine uCo (fun h5=> ?_) fun h6=> ?_
 refine gz4 ?_;refine de rfl (za (i:=0) zgh rfl (WeakL.refl _) rfl (zY uO uO uO uO) ?_)
 rintro _ _ ⟨y63,rfl,hy63,rfl⟩;refine gz1 ?_;refine de0 (uY 2 ?_)
 refine gz1 ?_;refine de0 (uY 2 ?_)
 refine gz1 ?_;obtain ⟨s9,n9,t9,w9,m9,p9,st9,c9,u9⟩:=x9;refine zf (Ghost.perm (M':=[St b l (a310+1),.arr u 9 (out.map zu),.cells b9 (zd (zu ⟨s9,n9,t9,w9,m9,p9,st9,0,y63⟩))]) uP) ?_;refine gz2 ?_;refine de rfl (zaT (i:=1) (es:=out) zaj rfl rfl ?_)
 refine gz3 ?_;refine uV2 [11,1,68,33] (fun (j:Nat) (q3:Play×Nat)=>[(68,.int .i64 j)]) (fun (j:Nat) (q3:Play×Nat)=>[St b l q3.2,.arr u 9 (out.map zu),.cells b9 (zd (zu q3.1))]) (fun (j:Nat) (q3:Play×Nat)=>j<=out.length/\(zcE q3.1/\q3.2<=a310+1+j)) (fun (j:Nat) (q3:Play×Nat)=>out.length-j) (0) ((⟨s9,n9,t9,w9,m9,p9,st9,0,y63⟩,a310+1)) ?_ ?_ ?_ ?_;exact ⟨Ad _,hq9,uD⟩;exact ⟨rfl,trivial⟩;exact uP
 intro j q3 hinv
 obtain ⟨hj,hq3⟩:=hinv;obtain ⟨⟨s3,n3,t3,w3,m3,p3,st3,c3,u3⟩,a4⟩:=q3;obtain ⟨hs3,ha4⟩:=hq3;dsimp only at hs3 ha4;refine gz4 ?_;refine uCo (fun h7=> ?_) fun h8=> ?_
 obtain ⟨z,hz⟩: ∃z,out[j]? =some z:=⟨_,Aa h7⟩
 have hdz:=zi hz;have hgz:=g2 z (Ac hz);refine zb1 (i:=1) rfl (fun h0 he=> ?_) (fun ob off cap hv hcap=> ?_)
 exfalso;have:=congrArg List.length he;simp at this;subst this;simp at hz
 subst hv;refine gz5 ?_;refine dq (ze (j:=j) zaj zI rfl rfl rfl (by simp;omega)) ?_;refine de rfl (zj (i:=1) (j:=j) (f:=zu) (es:=out) zI rfl rfl rfl hz rfl rfl rfl ?_)
 refine de rfl (zq zI rfl fun b11=> ?_)
 refine de0 (zJ zI rfl rfl rfl rfl rfl ?_)
 refine gz1 ?_;refine zf (zA 11 rfl) ?_;refine gz9 ?_;refine dgl rfl rfl (fun hc=>⟨_,OpenTo.upd (t:=79) rfl (hc) (OpenTo.refl _),zao (i:=2) ty3 rfl rfl (.inl ⟨rfl,rfl⟩) ⟨rfl,rfl⟩⟩) ?_;refine gz4 ?_;refine dgx (fun x M'=> ∃(y:Bool) (a3:Nat),x= .bool y/\a3<=a4+1/\M'=[St b l a3,.arr (.slice (some ⟨ob,off,none⟩) (out.map zu).length cap) 9 (out.map zu),.cells b9 (zd (zu ⟨s3,n3,t3,w3,m3,p3,st3,c3,u3⟩))]) rfl rfl (fun hc=>⟨_,false,a4,rfl,by omega,rfl⟩) (fun hc=>⟨_,OpenTo.upd (t:=84) rfl (hc) (OpenTo.refl _),za (i:=0) zdK rfl (WeakL.refl _) rfl (zK (a:=a4) uO uO) (fun h M' hh=>by
  obtain ⟨y,h1,h2⟩:=hh;exact ⟨y,a4+1,h1,by omega,by rw [h2];rfl⟩)⟩) ?_
 rintro _ _ ⟨y6,a36,rfl,ha36,rfl⟩;refine gz3 ?_;refine uCo (fun h9=> ?_) fun h10=> ?_
 refine zaC (fun _=>True) [] mixed ?_;refine gz9 ?_;refine uF 9 ?_;refine zF (uY 2 ?_)
 refine ⟨fun _=> .inl trivial,?_⟩
 refine gz1 ?_;refine uF 11 ?_;refine zF (uY 2 ?_)
 refine ⟨fun _=> .inl trivial,?_⟩
 refine gz1 ?_;refine uF 13 ?_;refine zF (uY 2 ?_)
 refine ⟨fun _=> .inl trivial,?_⟩
 refine gz1 ?_;refine uF 15 ?_;refine zF (uY 2 ?_)
 refine ⟨fun _=> .inl trivial,?_⟩
 refine gz7 ?_;exact ⟨j+1,(⟨s3,n3,t3,z.Week,z.Match,z.Player,z.Stat,c3,u3⟩,a36),⟨by omega,⟨hs3.1,hgz.2.1,hgz.2.2.1,hgz.2.2.2⟩,uD⟩,uD,⟨rfl,trivial⟩,uK,uP⟩;refine gz7 ?_;exact ⟨j+1,(⟨s3,n3,t3,w3,m3,p3,st3,c3,u3⟩,a36),⟨by omega,hs3,uD⟩,uD,⟨rfl,trivial⟩,uK,uP⟩;have hnj:out.length<=j:=by omega
 obtain rfl:j=out.length:=by omega
 refine gz2 ?_;refine zM ?_;refine gz1 ?_;exact ⟨(⟨s3,n3,t3,w3,m3,p3,st3,c3,u3⟩,a4),⟨hs3,uD⟩,trivial,uK,uP⟩;refine gz1 ?_;exact ⟨(x9,a310),⟨hq9,uD⟩,trivial,uK,uP⟩
 intro q4 hq4
 obtain ⟨x5,a5⟩:=q4;obtain ⟨hx5,ha5⟩:=hq4;dsimp only at hx5 ha5;refine zf (zca 9 (i:=2) rfl rfl) ?_;refine gz3 ?_;refine dq (zb (hs:=[_]) zaj zI rfl rfl (by decide) (by decide) rfl) ?_;refine de rfl (zC (i:=1) zaj zI rfl rfl rfl rfl rfl (by simp [zal,zd]) (by simp;omega) fun v104=> ?_)
 refine gz5 ?_;refine dq (zb (hs:=[_,_,_,_]) zac ty3 rfl rfl (by decide) (by decide) rfl) ?_;refine de rfl (za (i:=0) za8 rfl (WeakL.refl _) rfl (zh (L:=[_,_,_,_]) uO (by simp_all) (by simp_all)) ?_)
 rintro _ _ ⟨y108,rfl,hy108,rfl⟩;refine dq (zcI rfl rfl (by simp at hy108;omega) (by simp at hy108;omega)) ?_;refine gz8 ?_;exact ⟨n+1,no+y29,at1+y108,⟨v104,out++[x5],a5+1⟩,⟨by omega,⟨by simp at hy29;omega,by simp at hy29;omega⟩,⟨by simp at hy108;omega,by simp at hy108;omega⟩,hq2.add (x:=x5) hx5 uO⟩,uD,⟨rfl,rfl,rfl,rfl,trivial⟩,uK,uP⟩;refine gz2 ?_;refine zlt ?_;refine gz7 ?_;exact ⟨k+1,⟨u,out,a2⟩,⟨by omega,⟨uD,g2,uD⟩⟩,uD,⟨rfl,rfl,trivial⟩,uK,uP⟩;have hnk:zgi.length<=k:=by omega
 obtain rfl:k=zgi.length:=by omega
 refine gz2 ?_;refine zM ?_;refine gz2 ?_;refine uVj [12,1,112,111] (fun (q5:List Play×Nat)=>[]) (fun (q5:List Play×Nat)=>[St b l q5.2,.arr u 9 (q5.1.map zu)]) (fun (q5:List Play×Nat)=>q5.1.length<=15/\(∀x∈q5.1,zcE x)/\q5.2<=a+500) ?_ ?_
 skip
 refine gz2 ?_;refine de rfl (zaT (i:=1) zaj rfl rfl ?_)
 refine gz3 ?_;refine dgx (fun x M'=> ∃(y:Bool) (a3:Nat),x= .bool y/\a3<=a1+1/\M'=[St b l a3,.arr u 9 (out.map zu)]) rfl rfl (fun hc=>⟨_,false,a1,rfl,by omega,rfl⟩) (fun hc=>⟨_,OpenTo.upd (t:=116) rfl (hc) (OpenTo.refl _),za (i:=0) zdK rfl (WeakL.refl _) rfl (zK (a:=a1) uO uO) (fun h M' hh=>by
  obtain ⟨y,h1,h2⟩:=hh;exact ⟨y,a1+1,h1,by omega,by rw [h2];rfl⟩)⟩) ?_
 rintro _ _ ⟨y,a3,rfl,ha3,rfl⟩;refine gz2 ?_;refine uCo (fun h11=> ?_) fun h12=> ?_
 have ho0:0<out.length:=by simp_all
 refine zb1 (i:=1) rfl (fun h0 he=> ?_) (fun ob off cap hv hcap=> ?_)
 exfalso;have:=congrArg List.length he;simp at this;subst this;simp at ho0
 subst hv;refine gz4 ?_;refine de rfl (zaT (i:=1) zaj rfl rfl ?_)
 refine de rfl (za (i:=0) zfF rfl (WeakL.refl _) rfl (zW uO uO) ?_)
 rintro _ _ ⟨y123,rfl,hy123,rfl⟩;refine dq (ze (j:=y123) zaj zI rfl rfl rfl (by simp;omega)) ?_;refine gz2 ?_;obtain ⟨x,hx⟩: ∃x,out[y123]? =some x:=⟨_,Aa uO⟩
 refine gz2 ?_;refine de rfl (za (i:=0) zfF rfl (WeakL.refl _) rfl (zW uO uO) ?_)
 rintro _ _ ⟨y126,rfl,hy126,rfl⟩;refine gz6 ?_;refine uCo (fun h13=> ?_) fun h14=> ?_
 refine zaC (fun M=> ∃i:Nat,M[i]? =some (.arr (.slice (some ⟨ob,off,none⟩) (out.map zu).length cap) 9 (out.map zu))) [6,13] mixed ?_;refine gz6 ?_;refine uM 6 rfl ⟨1,rfl⟩ (fun M hM=>by obtain ⟨i,hi⟩:=hM;exact zaJ (i:=i) (j:=y123) 0 ty9 rfl uO hi hx rfl rfl ⟨rfl,rfl⟩) ?_;refine uB 7 rfl (zb (hs:=[_,_,_]) zH ty9 rfl rfl (by decide) (by decide) rfl) ?_;refine uA 9 ?_;refine gz3 ?_;refine uM 13 rfl ⟨1,rfl⟩ (fun M hM=>by obtain ⟨i,hi⟩:=hM;exact zaJ (i:=i) (j:=y123) 1 ty3 rfl uO hi hx rfl rfl ⟨rfl,rfl⟩) ?_;refine uB 14 rfl (zb (hs:=[_,_,_,_]) zac ty3 rfl rfl (by decide) (by decide) rfl) ?_;refine uF 8 ?_;refine zy rfl (za (i:=0) zck rfl (WeakL.refl _) rfl (zt (L:=[_,_,_]) uO (by simp_all) (by simp_all)) ?_)
 rintro _ _ ⟨y167,rfl,hy167,rfl⟩;refine ⟨uE,?_⟩
 refine uF 15 ?_;refine zy rfl (za (i:=0) za8 rfl (WeakL.refl _) rfl (zh (L:=[_,_,_,_]) uO (by simp_all) (by simp_all)) ?_)
 rintro _ _ ⟨y174,rfl,hy174,rfl⟩;refine ⟨uE,?_⟩
 refine gz2 ?_;refine uF 18 ?_;refine zF (z8 (i:=1) (j:=y123) (f:=0) (y:=zu x) (y':=zu ⟨y167,x.No,x.At,x.Week,x.Match,x.Player,x.Stat,x.Count,x.Undo⟩) ty9 rfl uO rfl rfl (za5 hx) rfl rfl (by simp [zd]) rfl ?_)
 refine ⟨fun _=> .inr (by simp [zS,Region.binds]),?_⟩
 refine gz2 ?_;refine uF 21 ?_;refine zF (z8 (i:=1) (j:=y123) (f:=1) (y:=zu ⟨y167,x.No,x.At,x.Week,x.Match,x.Player,x.Stat,x.Count,x.Undo⟩) (y':=zu ⟨y167,y174,x.At,x.Week,x.Match,x.Player,x.Stat,x.Count,x.Undo⟩) ty3 rfl uO rfl rfl (za7 (za5 hx)) rfl rfl (by simp [zd]) rfl ?_)
 refine ⟨fun _=> .inr (by simp [zS,Region.binds]),?_⟩
 refine gz2 ?_;exact ⟨(out.set y123 ⟨y167,y174,x.At,x.Week,x.Match,x.Player,x.Stat,x.Count,x.Undo⟩,a3+4),⟨by simp;omega,zes (P:=zcE) g2 (by
  have hgx:=g2 x (Ac hx);exact ⟨by simp at hy167;rcases hy167 with rfl|rfl|rfl;exact hgx.1;exact zoS;(unfold Sh;simp),hgx.2.1,hgx.2.2.1,hgx.2.2.2⟩),uD⟩,trivial,uK,uP⟩
 refine gz4 ?_;refine uCo (fun h15=> ?_) fun h16=> ?_
 refine zaC (fun M=> ∃i:Nat,M[i]? =some (.arr (.slice (some ⟨ob,off,none⟩) (out.map zu).length cap) 9 (out.map zu))) [6,13] mixed ?_;refine gz6 ?_;refine uM 6 rfl ⟨1,rfl⟩ (fun M hM=>by obtain ⟨i,hi⟩:=hM;exact zaJ (i:=i) (j:=y123) 3 ty3 rfl uO hi hx rfl rfl ⟨rfl,rfl⟩) ?_;refine uB 7 rfl (zb (hs:=[_,_,_]) zac ty3 rfl rfl (by decide) (by decide) rfl) ?_;refine uA 9 ?_;refine gz3 ?_;refine uM 13 rfl ⟨1,rfl⟩ (fun M hM=>by obtain ⟨i,hi⟩:=hM;exact zaJ (i:=i) (j:=y123) 4 ty9 rfl uO hi hx rfl rfl ⟨rfl,rfl⟩) ?_;refine uB 14 rfl (zb (hs:=[_,_]) zH ty9 rfl rfl (by decide) (by decide) rfl) ?_;refine uF 8 ?_;refine zy rfl (za (i:=0) za8 rfl (WeakL.refl _) rfl (zh (L:=[_,_,_]) uO (by simp_all) (by simp_all)) ?_)
 rintro _ _ ⟨y189,rfl,hy189,rfl⟩;refine ⟨uE,?_⟩
 refine uF 15 ?_;refine zy rfl (za (i:=0) zck rfl (WeakL.refl _) rfl (zt (L:=[_,_]) uO (by simp_all) (by simp_all)) ?_)
 rintro _ _ ⟨y196,rfl,hy196,rfl⟩;refine ⟨uE,?_⟩
 refine gz2 ?_;refine uF 18 ?_;refine zF (z8 (i:=1) (j:=y123) (f:=3) (y:=zu x) (y':=zu ⟨x.Source,x.No,x.At,y189,x.Match,x.Player,x.Stat,x.Count,x.Undo⟩) ty3 rfl uO rfl rfl (za5 hx) rfl rfl (by simp [zd]) rfl ?_)
 refine ⟨fun _=> .inr (by simp [zS,Region.binds]),?_⟩
 refine gz2 ?_;refine uF 21 ?_;refine zF (z8 (i:=1) (j:=y123) (f:=4) (y:=zu ⟨x.Source,x.No,x.At,y189,x.Match,x.Player,x.Stat,x.Count,x.Undo⟩) (y':=zu ⟨x.Source,x.No,x.At,y189,y196,x.Player,x.Stat,x.Count,x.Undo⟩) ty9 rfl uO rfl rfl (za7 (za5 hx)) rfl rfl (by simp [zd]) rfl ?_)
 refine ⟨fun _=> .inr (by simp [zS,Region.binds]),?_⟩
 refine gz2 ?_;exact ⟨(out.set y123 ⟨x.Source,x.No,x.At,y189,y196,x.Player,x.Stat,x.Count,x.Undo⟩,a3+4),⟨by simp;omega,zes (P:=zcE) g2 (by
  have hgx:=g2 x (Ac hx);exact ⟨hgx.1,by simp at hy196;rcases hy196 with rfl|rfl;exact hgx.2.1;exact zoS,hgx.2.2.1,hgx.2.2.2⟩),uD⟩,trivial,uK,uP⟩
 refine gz4 ?_;refine uCo (fun h17=> ?_) fun h18=> ?_
 refine zaC (fun M=> ∃i:Nat,M[i]? =some (.arr (.slice (some ⟨ob,off,none⟩) (out.map zu).length cap) 9 (out.map zu))) [6,13] mixed ?_;refine gz6 ?_;refine uM 6 rfl ⟨1,rfl⟩ (fun M hM=>by obtain ⟨i,hi⟩:=hM;exact zaJ (i:=i) (j:=y123) 7 ty3 rfl uO hi hx rfl rfl ⟨rfl,rfl⟩) ?_;refine uB 7 rfl (zb (hs:=[_,_,_]) zac ty3 rfl rfl (by decide) (by decide) rfl) ?_;refine uA 9 ?_;refine gz3 ?_;refine uM 13 rfl ⟨1,rfl⟩ (fun M hM=>by obtain ⟨i,hi⟩:=hM;exact zaJ (i:=i) (j:=y123) 8 ty3 rfl uO hi hx rfl rfl ⟨rfl,rfl⟩) ?_;refine uB 14 rfl (zb (hs:=[_,_,_]) zac ty3 rfl rfl (by decide) (by decide) rfl) ?_;refine uF 8 ?_;refine zy rfl (za (i:=0) za8 rfl (WeakL.refl _) rfl (zh (L:=[_,_,_]) uO (by simp_all) (by simp_all)) ?_)
 rintro _ _ ⟨y211,rfl,hy211,rfl⟩;refine ⟨uE,?_⟩
 refine uF 15 ?_;refine zy rfl (za (i:=0) za8 rfl (WeakL.refl _) rfl (zh (L:=[_,_,_]) uO (by simp_all) (by simp_all)) ?_)
 rintro _ _ ⟨y218,rfl,hy218,rfl⟩;refine ⟨uE,?_⟩
 refine gz2 ?_;refine uF 18 ?_;refine zF (z8 (i:=1) (j:=y123) (f:=7) (y:=zu x) (y':=zu ⟨x.Source,x.No,x.At,x.Week,x.Match,x.Player,x.Stat,y211,x.Undo⟩) ty3 rfl uO rfl rfl (za5 hx) rfl rfl (by simp [zd]) rfl ?_)
 refine ⟨fun _=> .inr (by simp [zS,Region.binds]),?_⟩
 refine gz2 ?_;refine uF 21 ?_;refine zF (z8 (i:=1) (j:=y123) (f:=8) (y:=zu ⟨x.Source,x.No,x.At,x.Week,x.Match,x.Player,x.Stat,y211,x.Undo⟩) (y':=zu ⟨x.Source,x.No,x.At,x.Week,x.Match,x.Player,x.Stat,y211,y218⟩) ty3 rfl uO rfl rfl (za7 (za5 hx)) rfl rfl (by simp [zd]) rfl ?_)
 refine ⟨fun _=> .inr (by simp [zS,Region.binds]),?_⟩
 refine gz2 ?_;exact ⟨(out.set y123 ⟨x.Source,x.No,x.At,x.Week,x.Match,x.Player,x.Stat,y211,y218⟩,a3+4),⟨by simp;omega,zes (P:=zcE) g2 (by
  have hgx:=g2 x (Ac hx);exact ⟨hgx.1,hgx.2.1,hgx.2.2.1,hgx.2.2.2⟩),uD⟩,trivial,uK,uP⟩
 refine zaC (fun M=> ∃i:Nat,M[i]? =some (.arr (.slice (some ⟨ob,off,none⟩) (out.map zu).length cap) 9 (out.map zu))) [7,14,21] mixed ?_;refine gz7 ?_;refine uM 7 rfl ⟨1,rfl⟩ (fun M hM=>by obtain ⟨i,hi⟩:=hM;exact zaJ (i:=i) (j:=y123) 5 ty9 rfl uO hi hx rfl rfl ⟨rfl,rfl⟩) ?_;refine uB 8 rfl (zb (hs:=[_,_]) zH ty9 rfl rfl (by decide) (by decide) rfl) ?_;refine uA 10 ?_;refine gz3 ?_;refine uM 14 rfl ⟨1,rfl⟩ (fun M hM=>by obtain ⟨i,hi⟩:=hM;exact zaJ (i:=i) (j:=y123) 6 ty9 rfl uO hi hx rfl rfl ⟨rfl,rfl⟩) ?_;refine uB 15 rfl (zb (hs:=[_,_]) zH ty9 rfl rfl (by decide) (by decide) rfl) ?_;refine uA 17 ?_;refine gz3 ?_;refine uM 21 rfl ⟨1,rfl⟩ (fun M hM=>by obtain ⟨i,hi⟩:=hM;exact zaJ (i:=i) (j:=y123) 2 ty3 rfl uO hi hx rfl rfl ⟨rfl,rfl⟩) ?_;refine uB 22 rfl (zb (hs:=[_,_]) zac ty3 rfl rfl (by decide) (by decide) rfl) ?_;refine uF 9 ?_;refine zy rfl (za (i:=0) zck rfl (WeakL.refl _) rfl (zt (L:=[_,_]) uO (by simp_all) (by simp_all)) ?_)
 rintro _ _ ⟨y136,rfl,hy136,rfl⟩;refine ⟨uE,?_⟩
 refine uF 16 ?_;refine zy rfl (za (i:=0) zck rfl (WeakL.refl _) rfl (zt (L:=[_,_]) uO (by simp_all) (by simp_all)) ?_)
 rintro _ _ ⟨y143,rfl,hy143,rfl⟩;refine ⟨uE,?_⟩
 refine uF 23 ?_;refine zy rfl (za (i:=0) za8 rfl (WeakL.refl _) rfl (zh (L:=[_,_]) uO (by simp_all) (by simp_all)) ?_)
 rintro _ _ ⟨y150,rfl,hy150,rfl⟩;refine ⟨uE,?_⟩
 refine gz2 ?_;refine uF 26 ?_;refine zF (z8 (i:=1) (j:=y123) (f:=5) (y:=zu x) (y':=zu ⟨x.Source,x.No,x.At,x.Week,x.Match,y136,x.Stat,x.Count,x.Undo⟩) ty9 rfl uO rfl rfl (za5 hx) rfl rfl (by simp [zd]) rfl ?_)
 refine ⟨fun _=> .inr (by simp [zS,Region.binds]),?_⟩
 refine gz2 ?_;refine uF 29 ?_;refine zF (z8 (i:=1) (j:=y123) (f:=6) (y:=zu ⟨x.Source,x.No,x.At,x.Week,x.Match,y136,x.Stat,x.Count,x.Undo⟩) (y':=zu ⟨x.Source,x.No,x.At,x.Week,x.Match,y136,y143,x.Count,x.Undo⟩) ty9 rfl uO rfl rfl (za7 (za5 hx)) rfl rfl (by simp [zd]) rfl ?_)
 refine ⟨fun _=> .inr (by simp [zS,Region.binds]),?_⟩
 refine gz2 ?_;refine uF 32 ?_;refine zF (z8 (i:=1) (j:=y123) (f:=2) (y:=zu ⟨x.Source,x.No,x.At,x.Week,x.Match,y136,y143,x.Count,x.Undo⟩) (y':=zu ⟨x.Source,x.No,y150,x.Week,x.Match,y136,y143,x.Count,x.Undo⟩) ty3 rfl uO rfl rfl (za7 (za7 (za5 hx))) rfl rfl (by simp [zd]) rfl ?_)
 refine ⟨fun _=> .inr (by simp [zS,Region.binds]),?_⟩
 refine gz2 ?_;exact ⟨(out.set y123 ⟨x.Source,x.No,y150,x.Week,x.Match,y136,y143,x.Count,x.Undo⟩,a3+5),⟨by simp;omega,zes (P:=zcE) g2 (by
  have hgx:=g2 x (Ac hx);exact ⟨hgx.1,hgx.2.1,by simp at hy136;rcases hy136 with rfl|rfl;exact hgx.2.2.1;(unfold Sh;simp),by simp at hy143;rcases hy143 with rfl|rfl;exact hgx.2.2.2;exact zoS⟩),uD⟩,trivial,uK,uP⟩
 refine gz1 ?_;exact ⟨(out,a3),⟨uD,g2,uD⟩,trivial,uK,uP⟩
 intro q5 hq5
 obtain ⟨k1,a4⟩:=q5;dsimp only at hq5;obtain ⟨q1,q2,q3⟩:=hq5;refine gz5 ?_;exact zag (zaP 2 (i:=1) rfl rfl) rfl ⟨k1,a4,rfl,⟨by omega,q2⟩,by omega,rfl⟩
end
end Go.Proofs.YtbbpommdmnjfmaaGreatDoor
namespace Go.HL
section
structure MendS where
 Player:Str
 Week:Int
 Stat:Str
 Count:Int
 At:Int
 Version:Int
 By:Str
abbrev zB (x:MendS):HVal:= .agg [.str x.Player,.int .i64 x.Week,.str x.Stat,.int .i64 x.Count,.int .i64 x.At,.int .i64 x.Version,.str x.By]
abbrev zbj (l:List MendS):HVal:= .slice 7 (l.map zB)
abbrev Plc:=Str×Int
def zer:MendS:=⟨[],0,[],0,0,0,[]⟩
def zaI (a b:MendS):Int:=orI [zai a.Player b.Player,zam a.Week b.Week,zai a.Stat b.Stat,zam a.Version b.Version]
section
variable {α:Type}
def zcO (f:α->Int) (c:α->α->Int) (d:α) (l:List α):Nat->List α->Int
 |_,[]=>0
 |k,x::r=>if f x≠0 then f x else if 0<k/\c x (l.getD (k-1) d)<=0 then 7 else zcO f c d l (k+1) r
theorem zrk {f:α->Int} {c:α->α->Int} {d:α} {l:List α} {k:Nat} {x:α} {r:List α} (h1:f x=0) (h2:0<k->¬c x (l.getD (k-1) d)<=0):zcO f c d l k (x::r)=zcO f c d l (k+1) r:=by
 rw [zcO,if_neg (by simp [h1]),if_neg (fun h=>h2 h.1 h.2)]
theorem ztT {f:α->Int} {c:α->α->Int} {d:α} {l:List α} {k:Nat} {x:α} {r:List α} (h1:f x≠0):zcO f c d l k (x::r)=f x:=by
 rw [zcO,if_pos h1]
theorem ztU {f:α->Int} {c:α->α->Int} {d:α} {l:List α} {k:Nat} {x:α} {r:List α} (h1:f x=0) (h0:0<k) (h2:c x (l.getD (k-1) d)<=0):zcO f c d l k (x::r)=7:=by
 rw [zcO,if_neg (by simp [h1]),if_pos ⟨h0,h2⟩]
theorem zp0 {f:α->Int} {c:α->α->Int} {d:α} {l:List α}: ∀(r:List α) (k:Nat),zcO f c d l k r=0->∀x∈r,f x=0
 |[],_,_,x,hx=>by cases hx
 |p::r,k,h,x,hx=>by
   rw [zcO] at h
   split at h
   contradiction
   split at h
   omega
   rename_i h1 _
   rcases List.mem_cons.1 hx with rfl|hx
   simpa using h1
   exact zp0 r (k+1) h x hx
theorem zp1 {f:α->Int} {c:α->α->Int} {d:α} (hc:Cmp c fun _=>True): ∀(r:List α) (l:List α) (k:Nat),l.drop k=r->k<=l.length->(l.take k).Pairwise (fun a b=>c a b<0)->zcO f c d l k r=0->l.Pairwise (fun a b=>c a b<0)
 |[],l,k,hd,hk,hp,_=>by
   have h1:l.length<=k:=by simpa using hd
   rw [AF h1] at hp;exact hp
 |x::r,l,k,hd,hk,hp,h=>by
   rw [zcO] at h
   split at h
   contradiction
   split at h
   omega
   rename_i h2
   have hx:l[k]? =some x:=by have:=congrArg (fun q:List α=>q[0]?) hd;simpa using this
   have hlt:=zo hx;refine zp1 hc r l (k+1) (by rw [<-AN (i:=1),hd];rfl) hlt ?_ h
   rw [zV hx];refine List.pairwise_append.2 ⟨hp,List.pairwise_singleton _ _,fun a ha b hb=> ?_⟩
   obtain rfl:=List.mem_singleton.1 hb;obtain ⟨i,hi⟩:=AO ha;have hik:i<k:=by have:=zo hi;rw [Ag] at this;omega
   have hy:l[k-1]? =some (l.getD (k-1) d):=getD_some (by omega);have h3:c (l.getD (k-1) d) b<0:=by
    rw [hc.flip _ _ trivial trivial];have: ¬c b (l.getD (k-1) d)<=0:=fun e=>h2 ⟨by omega,e⟩
    omega
   rcases Az i (k-1) with hlt'|hge
   have hyk:(l.take k)[k-1]? =some (l.getD (k-1) d):=by rw [AD (by omega)];exact hy
   have h4:c a (l.getD (k-1) d)<0:=by
    have hi2:=zo hi;have hk2:=zo hyk;have:=List.pairwise_iff_getElem.1 hp i (k-1) hi2 hk2 hlt';rw [Aa hi2] at hi;rw [Aa hk2] at hyk;rw [Ak hi,Ak hyk] at this;exact this
   have h5:=hc.trans a (l.getD (k-1) d) b trivial trivial trivial (by omega) (by omega);have f1:=hc.flip a (l.getD (k-1) d) trivial trivial;have f2:=hc.flip (l.getD (k-1) d) b trivial trivial;have f3:=hc.flip a b trivial trivial;have f4:=hc.flip b a trivial trivial
   rcases Int.lt_or_eq_of_le h5 with e|e
   exact e
   exfalso
   have:=hc.trans b a (l.getD (k-1) d) trivial trivial trivial (by omega) (by omega)
   omega
   have e:i=k-1:=by omega
   rw [e,AD (by omega),hy] at hi;rw [<-Ak hi];exact h3
theorem zoG {f:α->Int} {c:α->α->Int} {d:α} (hc:Cmp c fun _=>True) {l:List α} (h:zcO f c d l 0 l=0):l.Pairwise (fun a b=>c a b<0):=
 zp1 hc l l 0 rfl (Ad _) (by simp) h
theorem zcD {c d:α->α->Int} (hc:Cmp c fun _=>True) (hd:Cmp d fun _=>True):Cmp (fun a b=>if c a b≠0 then c a b else d a b) fun _=>True where
 flip x y _ _:=by
  have f1:=hc.flip x y trivial trivial;have f2:=hc.flip y x trivial trivial;have f3:=hd.flip x y trivial trivial
  by_cases h:c x y=0
  have h':c y x=0:=by omega
  rw [if_neg (by simp [h]),if_neg (by simp [h'])];exact f3;have h':c y x≠0:=by omega
  rw [if_pos h,if_pos h'];exact f1
 trans x y z _ _ _ h1 h2:=by
  have fxy:=hc.flip x y trivial trivial;have fyx:=hc.flip y x trivial trivial;have fyz:=hc.flip y z trivial trivial;have fzy:=hc.flip z y trivial trivial;have fxz:=hc.flip x z trivial trivial;have fzx:=hc.flip z x trivial trivial;have a1:c x y<=0:=by split at h1<;>omega
  have a2:c y z<=0:=by split at h2<;>omega
  have a3:=hc.trans x y z trivial trivial trivial a1 a2
  by_cases h:c x z=0
  have b1:=hc.trans z x y trivial trivial trivial (by omega) a1;have b2:=hc.trans y z x trivial trivial trivial a2 (by omega);have e1:c x y=0:=by omega
  have e2:c y z=0:=by omega
  rw [if_neg (by simp [e1])] at h1;rw [if_neg (by simp [e2])] at h2;rw [if_neg (by simp [h])];exact hd.trans x y z trivial trivial trivial h1 h2;rw [if_pos h];exact a3
theorem ze9 (f:α->Str):Cmp (fun a b=>zai (f a) (f b)) fun _=>True where
 flip x y _ _:=by rw [zfG (f x) (f y)];omega
 trans x y z _ _ _ h1 h2:=zhg h1 h2
theorem zdy (f:α->Int):Cmp (fun a b=>zam (f a) (f b)) fun _=>True where
 flip x y _ _:=by rw [zjS (f x) (f y)];omega
 trans x y z _ _ _ h1 h2:=by rw [zkR] at*;omega
theorem zwZ (a:Int):orI [a]=a:=by
 by_cases h:a=0<;>simp [orI,h]
theorem za3 (a b:Int) (r:List Int):orI (a::b::r)=if a≠0 then a else orI (b::r):=by rw [orI]
end
theorem zcG:Cmp zaI fun _=>True:=by
 have h:=zcD (ze9 MendS.Player) (zcD (zdy MendS.Week) (zcD (ze9 MendS.Stat) (zdy MendS.Version)));have e:zaI=fun a b=>if zai a.Player b.Player≠0 then zai a.Player b.Player else if zam a.Week b.Week≠0 then zam a.Week b.Week else if zai a.Stat b.Stat≠0 then zai a.Stat b.Stat else zam a.Version b.Version:=by
  funext a b;unfold zaI;rw [za3,za3,zcz]
 rw [e];exact h
theorem zb3 {a b:Int} (h:(if a≠0 then a else b)=0):a=0/\b=0:=by
 split at h
 contradiction
 rename_i h1;exact ⟨by simpa using h1,h⟩
def za6 (x:MendS):Int:=
 if !(key x.Player)|| !(key x.Stat)|| !(key x.By) then 5
 else if !(zef x.Week)||out x.Count (-100000) 100000|| !(zau x.At)||out x.Version 1 1000 then 1 else 0
def zb9 (m:List MendS):Int:=if 500<m.length then 2 else zcO za6 zaI zer m 0 m
theorem zrE {x:MendS} (h:za6 x=0):key x.Player=true/\key x.Stat=true/\zef x.Week=true/\(-100000<=x.Count/\x.Count<=100000)/\zau x.At=true:=by
 unfold za6 at h
 split at h
 omega
 split at h
 omega
 rename_i h1 h2
 simp only [Bool.or_eq_true,Bool.not_eq_true',not_or,Bool.not_eq_false,Bool.not_eq_true] at h1 h2;exact ⟨h1.1.1,h1.1.2,h2.1.1.1,zhX h2.1.1.2,h2.1.2⟩
theorem zqh {m:List MendS} (h:zb9 m=0):m.length<=500/\(∀x∈m,za6 x=0)/\m.Pairwise (fun a b=>zaI a b<0):=by
 unfold zb9 at h
 split at h
 omega
 exact ⟨by omega,zp0 m 0 h,zoG zcG h⟩
theorem zj0 {m r:List MendS} {k:Nat} {x:MendS} {c:Int} (hl: ¬500<m.length) (hg:zcO za6 zaI zer m 0 m=zcO za6 zaI zer m k (x::r)) (hc:c≠0) (hf:za6 x=c):c=zb9 m:=by
 rw [zb9,if_neg hl,hg,ztT (by rw [hf];exact hc),hf]
theorem zqi {m r:List MendS} {k:Nat} {x:MendS} (hl: ¬500<m.length) (hg:zcO za6 zaI zer m 0 m=zcO za6 zaI zer m k (x::r)) (hf:za6 x=0) (h0:0<k) (h:zaI x (m.getD (k-1) zer)<=0):7=zb9 m:=by
 rw [zb9,if_neg hl,hg,ztU hf h0 h]
end
section
open Op
structure PlayerS where
 Key:Str
 Name:Str
 Positions:List Str
structure StintS where
 Player:Str
 Club:Str
 Week:Int
structure HealthS where
 Player:Str
 From:Int
 To:Int
 Kind:Int
structure FixS where
 Week:Int
 At:Int
 Home:Str
 Away:Str
structure RuleS where
 Key:Str
 Stat:Str
 Position:Str
 Kind:Int
 Many:Int
 Num:Int
 Den:Int
structure SlotS where
 Key:Str
 Positions:List Str
structure BoundS where
 Most:Int
 Hurt:Int
 Adds:Int
 Hold:Int
structure MoveS where
 At:Int
 Kind:Int
 Team:Str
 Player:Str
structure GameS where
 Week:Int
 Home:Str
 Away:Str
 Played:Bool
 FNum:Int
 FDen:Int
 ONum:Int
 ODen:Int
structure ChoiceS where
 Team:Str
 Week:Int
 At:Int
 Players:List Str
 Captain:Str
structure LeagueS where
 Players:List PlayerS
 Stints:List StintS
 Fixtures:List FixS
 Rules:List RuleS
 Slots:List SlotS
 Bounds:BoundS
 Teams:List Str
 Games:List GameS
 Breaks:List Int
 Trust:List Str
 Start:Int
abbrev zbs (x:PlayerS):HVal:= .agg [.str x.Key,.str x.Name,eSs x.Positions]
abbrev zbd (l:List PlayerS):HVal:= .slice 3 (l.map zbs)
abbrev zbx (x:StintS):HVal:= .agg [.str x.Player,.str x.Club,.int .i64 x.Week]
abbrev zbZ (l:List StintS):HVal:= .slice 3 (l.map zbx)
abbrev zD (x:HealthS):HVal:= .agg [.str x.Player,.int .i64 x.From,.int .i64 x.To,.int .i64 x.Kind]
abbrev za1 (l:List HealthS):HVal:= .slice 4 (l.map zD)
abbrev zaV (x:FixS):HVal:= .agg [.int .i64 x.Week,.int .i64 x.At,.str x.Home,.str x.Away]
abbrev zeo (l:List FixS):HVal:= .slice 4 (l.map zaV)
abbrev zfl (x:RuleS):HVal:= .agg [.str x.Key,.str x.Stat,.str x.Position,.int .i64 x.Kind,.int .i64 x.Many,.int .i64 x.Num,.int .i64 x.Den]
abbrev zdk (l:List RuleS):HVal:= .slice 7 (l.map zfl)
abbrev za4 (x:SlotS):HVal:= .agg [.str x.Key,eSs x.Positions]
abbrev zgq (l:List SlotS):HVal:= .slice 2 (l.map za4)
abbrev zgp (x:BoundS):HVal:= .agg [.int .i64 x.Most,.int .i64 x.Hurt,.int .i64 x.Adds,.int .i64 x.Hold]
abbrev zaS (x:MoveS):HVal:= .agg [.int .i64 x.At,.int .i64 x.Kind,.str x.Team,.str x.Player]
abbrev zbB (l:List MoveS):HVal:= .slice 4 (l.map zaS)
abbrev zaO (x:GameS):HVal:= .agg [.int .i64 x.Week,.str x.Home,.str x.Away,.bool x.Played,.int .i64 x.FNum,.int .i64 x.FDen,.int .i64 x.ONum,.int .i64 x.ODen]
abbrev zdN (l:List GameS):HVal:= .slice 8 (l.map zaO)
abbrev zk (x:ChoiceS):HVal:= .agg [.str x.Team,.int .i64 x.Week,.int .i64 x.At,eSs x.Players,.str x.Captain]
abbrev zdM (l:List ChoiceS):HVal:= .slice 5 (l.map zk)
abbrev zpj (g:LeagueS):List HVal:=[zbd g.Players,zbZ g.Stints,zeo g.Fixtures,zdk g.Rules,zgq g.Slots,.int .i64 g.Bounds.Most,.int .i64 g.Bounds.Hurt,.int .i64 g.Bounds.Adds,.int .i64 g.Bounds.Hold,eSs g.Teams,zdN g.Games,eIs g.Breaks,eSs g.Trust,.int .i64 g.Start]
abbrev zaE (g:LeagueS):HVal:= .agg (zpj g)
def zd0:PlayerS:=⟨[],[],[]⟩
def ze5:StintS:=⟨[],[],0⟩
def zfa:HealthS:=⟨[],0,0,0⟩
def zkt:FixS:=⟨0,0,[],[]⟩
def zj3:RuleS:=⟨[],[],[],0,0,0,0⟩
def ziN:MoveS:=⟨0,0,[],[]⟩
def zeq:GameS:=⟨0,[],[],false,0,0,0,0⟩
def zf1:ChoiceS:=⟨[],0,0,[],[]⟩
/-! lists looked through element by element,each with the one ahead-/
section
variable {α:Type}
def zbc (g:Nat->α->α->Int) (d:α) (l:List α):Nat->List α->Int
 |_,[]=>0
 |k,x::r=>if g k x (l.getD (k-1) d)≠0 then g k x (l.getD (k-1) d) else zbc g d l (k+1) r
def zdY (n:Nat) (g:Nat->α->α->Int) (d:α) (l:List α):Int:=if n<l.length then 2 else zbc g d l 0 l
variable {g:Nat->α->α->Int} {d:α} {l r:List α} {k n:Nat} {x:α} {e:Int}
theorem zbi (h:g k x (l.getD (k-1) d)=0):zbc g d l k (x::r)=zbc g d l (k+1) r:=by rw [zbc,if_neg (fun q=>q h)]
theorem zcF (h:n<l.length):2=zdY n g d l:=by rw [zdY,if_pos h]
theorem zcq (hn: ¬n<l.length) (hg:zbc g d l 0 l=zbc g d l l.length []):0=zdY n g d l:=by rw [zdY,if_neg hn,hg];rfl
theorem zQ (hn: ¬n<l.length) (hg:zbc g d l 0 l=zbc g d l k (x::r)) (he:g k x (l.getD (k-1) d)=e) (h0:e≠0):e=zdY n g d l:=by
 rw [zdY,if_neg hn,hg,zbc,if_pos (by rw [he];exact h0),he]
theorem zrl: ∀{r:List α} {k:Nat},l.drop k=r->zbc g d l k r=0->∀(i:Nat) (x:α),k<=i->l[i]? =some x->g i x (l.getD (i-1) d)=0
 |[],k,hd,_,i,x,hi,hx=>by
   have h1:l.length<=k:=by simpa using hd
   have:=zo hx
   omega
 |y::r,k,hd,h,i,x,hi,hx=>by
   rw [zbc] at h
   split at h
   contradiction
   rename_i h0
   rcases Nat.eq_or_lt_of_le hi with e|e
   subst e;have:l[k]? =some y:=by have:=congrArg (fun q:List α=>q[0]?) hd;simpa using this
   rw [this] at hx;cases hx
   simpa using h0
   exact zrl (by rw [<-AN (i:=1),hd];rfl) h i x e hx
theorem zpA (h:zdY n g d l=0):l.length<=n/\∀(i:Nat) (x:α),l[i]? =some x->g i x (l.getD (i-1) d)=0:=by
 unfold zdY at h
 split at h
 contradiction
 exact ⟨by omega,fun i x hx=>zrl (k:=0) rfl h i x (Ad _) hx⟩
end
/-! what is wrong-/
abbrev leB (a b:Str):Bool:=bytesLess a b||a==b
def zhN (l:List Str):Int:=if l.length=0 then 8 else if 10<l.length then 2 else zhO l
def zc9 (k:Nat) (x p:PlayerS):Int:=if key x.Key=false then 5 else if 0<k/\leB x.Key p.Key=true then 7 else zhN x.Positions
def zc4 (l:List PlayerS):Int:=zdY 500 zc9 zd0 l
def zfm (l:List PlayerS) (s:Str):Bool:=(l.map (·.Key)).contains s
def zdO (L:List PlayerS) (k:Nat) (x p:StintS):Int:=
 if zfm L x.Player=false then 8 else if x.Club≠[]/\key x.Club=false then 5 else if zef x.Week=false then 1
 else if 0<k/\orI [zai x.Player p.Player,zam x.Week p.Week]<=0 then 7 else 0
def zix (L:List PlayerS) (l:List StintS):Int:=zdY 1000 (zdO L) ze5 l
def zpM (L:List PlayerS) (l:List StintS):Int:=if zc4 L≠0 then zc4 L else zix L l
def zbt (L:List PlayerS) (k:Nat) (x p:HealthS):Int:=
 if zfm L x.Player=false then 8 else if out x.To 2 61=true\/out x.From 1 (x.To-1)=true then 1 else if out x.Kind 1 2=true then 4
 else if 0<k/\orI [zai x.Player p.Player,zam x.From p.From]<=0 then 7 else if 0<k/\x.Player=p.Player/\x.From<p.To then 13 else 0
def zcd (L:List PlayerS) (l:List HealthS):Int:=zdY 1000 (zbt L) zfa l
def zmz (L:List PlayerS) (l:List HealthS):Int:=if zc4 L≠0 then zc4 L else zcd L l
def zfK (k:Nat) (x p:FixS):Int:=
 if zef x.Week=false\/zau x.At=false then 1 else if key x.Home=false\/key x.Away=false then 5 else if x.Home=x.Away then 6
 else if 0<k/\orI [zam x.Week p.Week,zam x.At p.At,zai x.Home p.Home]<=0 then 7 else 0
def zjo (l:List FixS):Int:=zdY 1000 zfK zkt l
def znT (n d:Int):Bool:=Nat.gcd n.natAbs d.natAbs==1
def zdb (n d most:Int):Int:=if d<1\/znT n d=false then 3 else if (100:Int).tmod d≠0\/out n (-most*d) (most*d)=true then 1 else 0
def zqT (k:Int):Bool:=k==2||k==3
def zd8 (k:Nat) (x p:RuleS):Int:=
 if (key x.Key=false\/key x.Stat=false)\/x.Position≠[]/\key x.Position=false then 5 else if 0<k/\leB x.Key p.Key=true then 7
 else if out x.Kind 1 4=true then 4 else if zqT x.Kind=true/\out x.Many 1 100000=true\/zqT x.Kind=false/\x.Many≠0 then 1
 else zdb x.Num x.Den 10000
def zjv (l:List RuleS):Int:=zdY 100 zd8 zj3 l
def zcC (l:List SlotS):Nat->List SlotS->Int
 |_,[]=>0
 |k,x::r=>if key x.Key=false then 5 else if ((l.take k).any fun y=>y.Key==x.Key)=true then 6 else if zhN x.Positions≠0 then zhN x.Positions else zcC l (k+1) r
def zeX (l:List SlotS):Int:=if l.length=0 then 8 else if 12<l.length then 2 else zcC l 0 l
def zgz (b:BoundS):Int:=if ((out b.Most 1 20=true\/out b.Hurt 0 20=true)\/out b.Adds 0 2000=true)\/out b.Hold 0 1209600000=true then 1 else 0
def zdl (a b:MoveS):Int:=orI [zam a.At b.At,zai a.Team b.Team,zai a.Player b.Player,zam a.Kind b.Kind]
def zeR (k:Nat) (x p:MoveS):Int:=
 if zau x.At=false then 1 else if out x.Kind 1 4=true then 4 else if key x.Team=false\/key x.Player=false then 5
 else if 0<k/\zdl x p<=0 then 7 else 0
def zkw (l:List MoveS):Int:=zdY 2000 zeR ziN l
def zdT (l:List Str):Int:=if 20<l.length then 2 else if l.length<2 then 8 else zhO l
def zfY (a b:GameS):Int:=orI [zam a.Week b.Week,zai a.Home b.Home,zai a.Away b.Away]
def zhj (x:GameS):Int:=
 if x.Played=false then (if ¬(x.FNum=0/\x.FDen=0)\/¬(x.ONum=0/\x.ODen=0) then 3 else 0)
 else if zdb x.FNum x.FDen 1000000=3\/zdb x.ONum x.ODen 1000000=3 then 3 else orI [zdb x.FNum x.FDen 1000000,zdb x.ONum x.ODen 1000000]
def zcy (T:List Str) (k:Nat) (x p:GameS):Int:=
 if zef x.Week=false then 1 else if T.contains x.Home=false\/T.contains x.Away=false then 8 else if x.Home=x.Away then 6
 else if zhj x≠0 then zhj x else if 0<k/\zfY x p<=0 then 7 else 0
def zif (x y:GameS):Bool:=y.Week==x.Week&&(y.Home==x.Home||y.Home==x.Away||y.Away==x.Home||y.Away==x.Away)
def zdL (l:List GameS):Nat->List GameS->Bool
 |_,[]=>false
 |k,x::r=>(l.take k).any (zif x)||zdL l (k+1) r
def zeg (T:List Str) (l:List GameS):Int:=if zdY 1000 (zcy T) zeq l≠0 then zdY 1000 (zcy T) zeq l else if zdL l 0 l=true then 13 else 0
def zhi (T:List Str) (l:List GameS):Int:=if zdT T≠0 then zdT T else zeg T l
def zd5 (l:List Int):Nat->List Int->Int
 |_,[]=>0
 |k,n::r=>if out n 1 5=true then 4 else if (l.take k).contains n=true then 6 else zd5 l (k+1) r
def zio (l:List Int):Int:=if 5<l.length then 2 else zd5 l 0 l
end
section
section
variable {α:Type}
def Srt (c:α->α->Int) (l:List α):Prop:=l.Pairwise fun a b=>c a b<=0
theorem Cmp.self {c:α->α->Int} (hc:Cmp c fun _=>True) (x:α):c x x<=0:=by
 have:=hc.flip x x trivial trivial;omega
theorem Srt.get {c:α->α->Int} (hc:Cmp c fun _=>True) {l:List α} (h:Srt c l) {i j:Nat} {x y:α} (hij:i<=j) (hx:l[i]? =some x) (hy:l[j]? =some y):c x y<=0:=by
 rcases Az i j with hlt|hge
 have h1:=zo hx;have h2:=zo hy;have:=List.pairwise_iff_getElem.1 h i j h1 h2 hlt;rw [Aa h1] at hx;rw [Aa h2] at hy;rw [Ak hx,Ak hy] at this;exact this;have e:i=j:=by omega
 rw [e,hy] at hx;rw [Ak hx];exact hc.self _
theorem zfP {l:List α} {k:Nat} {z:α} (h:z∈l.take k): ∃i,i<k/\l[i]? =some z:=by
 obtain ⟨i,hi⟩:=AO h;have hik:i<k:=by have:=zo hi;rw [Ag] at this;omega
 rw [AD hik] at hi;exact ⟨i,hik,hi⟩
theorem zdQ {l:List α} {k:Nat} {z:α} (h:z∈l.drop k): ∃i,k<=i/\l[i]? =some z:=by
 obtain ⟨i,hi⟩:=AO h;rw [AI] at hi;exact ⟨k+i,by omega,hi⟩
theorem zuC {c:α->α->Int} (hc:Cmp c fun _=>True) {X Y:List α} {k j:Nat} (hX:Srt c X) (hY:Srt c Y) (hk:k<=X.length) (hj:j<=Y.length)
 (h1: ∀x y,X[k-1]? =some x->Y[j]? =some y->0<k->c x y<=0) (h2: ∀x y,Y[j-1]? =some y->X[k]? =some x->0<j->c y x<=0):
 ∀z∈X.take k++Y.take j,∀w∈X.drop k++Y.drop j,c z w<=0:=by
 intro z hz w hw
 rcases List.mem_append.1 hz with hz|hz<;>rcases List.mem_append.1 hw with hw|hw
 obtain ⟨i,hi,hz⟩:=zfP hz;obtain ⟨i',hi',hw⟩:=zdQ hw;exact hX.get hc (by omega) hz hw;obtain ⟨i,hi,hz⟩:=zfP hz;obtain ⟨i',hi',hw⟩:=zdQ hw;have hl:=zo hw;have a1:=Aa (l:=X) (i:=k-1) (by omega);have a2:=Aa (l:=Y) (i:=j) (by omega);have b1:=hX.get hc (show i<=k-1 by omega) hz a1;have b2:=h1 _ _ a1 a2 (by omega);have b3:=hY.get hc hi' a2 hw;exact hc.trans _ _ _ trivial trivial trivial (hc.trans _ _ _ trivial trivial trivial b1 b2) b3;obtain ⟨i,hi,hz⟩:=zfP hz;obtain ⟨i',hi',hw⟩:=zdQ hw;have hl:=zo hw;have a1:=Aa (l:=Y) (i:=j-1) (by omega);have a2:=Aa (l:=X) (i:=k) (by omega);have b1:=hY.get hc (show i<=j-1 by omega) hz a1;have b2:=h2 _ _ a1 a2 (by omega);have b3:=hX.get hc hi' a2 hw;exact hc.trans _ _ _ trivial trivial trivial (hc.trans _ _ _ trivial trivial trivial b1 b2) b3;obtain ⟨i,hi,hz⟩:=zfP hz;obtain ⟨i',hi',hw⟩:=zdQ hw;exact hY.get hc (by omega) hz hw
theorem Srt.take {c:α->α->Int} {l:List α} (h:Srt c l) (k:Nat):Srt c (l.take k):=List.Pairwise.sublist (List.take_sublist k l) h
theorem Srt.drop {c:α->α->Int} {l:List α} (h:Srt c l) (k:Nat):Srt c (l.drop k):=List.Pairwise.sublist (List.drop_sublist k l) h
theorem Srt.app {c:α->α->Int} {A B:List α} (h1:Srt c A) (h2:Srt c B) (h: ∀x∈A,∀y∈B,c x y<=0):Srt c (A++B):=List.pairwise_append.2 ⟨h1,h2,h⟩
theorem Srt.nil {c:α->α->Int}:Srt c []:=List.Pairwise.nil
theorem zgW {c:α->α->Int} (hc:Cmp c fun _=>True) {X Y Z1 Z2:List α} {k j:Nat} (hX:Srt c X) (hY:Srt c Y) (hk:k<=X.length) (hj:j<=Y.length)
 (h1: ∀x y,X[k-1]? =some x->Y[j]? =some y->0<k->c x y<=0) (h2: ∀x y,Y[j-1]? =some y->X[k]? =some x->0<j->c y x<=0)
 (p1:Z1.Perm (X.take k++Y.take j)) (p2:Z2.Perm (X.drop k++Y.drop j)) (s1:Srt c Z1) (s2:Srt c Z2):(Z1++Z2).Perm (X++Y)/\Srt c (Z1++Z2):=by
 refine ⟨?_,s1.app s2 fun x hx y hy=>zuC hc hX hY hk hj h1 h2 x (p1.mem_iff.1 hx) y (p2.mem_iff.1 hy)⟩
 refine (p1.append p2).trans ?_;have e1:X.take k++Y.take j++(X.drop k++Y.drop j)=X.take k++(Y.take j++X.drop k)++Y.drop j:=by simp
 have e2:X++Y=X.take k++(X.drop k++Y.take j)++Y.drop j:=by
  have h3:=Am k X;have h4:=Am j Y
  calc X++Y=(X.take k++X.drop k)++(Y.take j++Y.drop j):=by rw [h3,h4]
   _=_:=by simp only [An]
 rw [e1,e2];exact ((B9).append_left _).append_right _
theorem zn1 {c:α->α->Int} (hc:Cmp c fun _=>True) {x:α} {Y:List α} {j:Nat} (hY:Srt c Y) (hj:j<=Y.length) (h1: ∀y,Y[j]? =some y->c x y<=0) (h2: ∀y,Y[j-1]? =some y->0<j->c y x<=0):
 (Y.take j++x::Y.drop j).Perm ([x]++Y)/\Srt c (Y.take j++x::Y.drop j):=by
 have hX:Srt c [x]:=List.pairwise_singleton _ _;have key:=zgW (k:=0) (Z1:=Y.take j) (Z2:=x::Y.drop j) hc hX hY (Ad _) hj (fun _ _ _ _ h=>absurd h (A1 _)) (fun x' y hy hx' h=>by
  simp at hx';subst hx';exact h2 y hy h) (by simp) (by simp) (hY.take j) ?_
 exact key;refine List.pairwise_cons.2 ⟨fun y hy=> ?_,hY.drop j⟩
 obtain ⟨i,hi,hy⟩:=zdQ hy;have hl:=zo hy;have a2:=Aa (l:=Y) (i:=j) (by omega);exact hc.trans _ _ _ trivial trivial trivial (h1 _ a2) (hY.get hc hi a2 hy)
theorem zmK {c:α->α->Int} (hc:Cmp c fun _=>True) {y:α} {X:List α} {k:Nat} (hX:Srt c X) (hk:k<=X.length) (h1: ∀x,X[k-1]? =some x->0<k->c x y<=0) (h2: ∀x,X[k]? =some x->c y x<=0):
 (X.take k++y::X.drop k).Perm (X++[y])/\Srt c (X.take k++y::X.drop k):=by
 refine ⟨?_,?_⟩
 have e:X++[y]=X.take k++(X.drop k++[y]):=by rw [<-An,Am]
 rw [e];exact (B9 (l₁:=[y]) (l₂:=X.drop k)).append_left _;refine (hX.take k).app (List.pairwise_cons.2 ⟨fun x hx=> ?_,hX.drop k⟩) fun z hz w hw=> ?_
 obtain ⟨i,hi,hx⟩:=zdQ hx;have hl:=zo hx;have a2:=Aa (l:=X) (i:=k) (by omega);exact hc.trans _ _ _ trivial trivial trivial (h2 _ a2) (hX.get hc hi a2 hx);obtain ⟨i,hi,hz⟩:=zfP hz;have hl:=zo hz
 rcases List.mem_cons.1 hw with rfl|hw
 have a1:=Aa (l:=X) (i:=k-1) (by omega);exact hc.trans _ _ _ trivial trivial trivial (hX.get hc (show i<=k-1 by omega) hz a1) (h1 _ a1 (by omega));obtain ⟨i',hi',hw⟩:=zdQ hw;exact hX.get hc (by omega) hz hw
end
end
section
section
variable {α:Type} {c:α->α->Int}
def Blk (c:α->α->Int) (bs:Nat) (l:List α):Prop:= ∀q,Srt c ((l.drop (bs*q)).take bs)
theorem Blk.all {bs:Nat} {l:List α} (h:Blk c bs l) (hl:l.length<=bs):Srt c l:=by
 have:=h 0;rw [Nat.mul_zero,BZ,AF hl] at this;exact this
theorem Blk.nil {bs:Nat}:Blk c bs []:=fun q=>by simp [Srt.nil]
theorem Blk.add {bs k:Nat} {Z W:List α} (h:Blk c bs Z) (hZ:Z.length=bs*k) (hW:Srt c W) (hl:W.length<=bs):Blk c bs (Z++W):=by
 intro q
 rcases Bp q k with hq|hq|hq
 have h1:bs*q+bs<=Z.length:=by rw [hZ,<-Nat.mul_succ];exact Nat.mul_le_mul_left bs hq
 rw [List.drop_append_of_le_length (by omega),List.take_append_of_le_length (by rw [Au];omega)];exact h q;rw [hq,<-hZ,List.drop_left,AF hl];exact hW;have h1:Z.length+bs<=bs*q:=by rw [hZ,<-Nat.mul_succ];exact Nat.mul_le_mul_left bs hq
 rw [Bi (by rw [Af];omega)]
 simp [Srt.nil]
theorem Blk.at {bs q a:Nat} {l:List α} (h:Blk c bs l) (ha:a=bs*q):Srt c ((l.drop a).take bs):=by rw [ha];exact h q
theorem Blk.last {bs q a:Nat} {l:List α} (h:Blk c bs l) (ha:a=bs*q) (hl:l.length<=a+bs):Srt c (l.drop a):=by
 have:=h.at ha;rw [AF (by rw [Au];omega)] at this;exact this
def swR (A X B Y C:List α) (k:Nat):List α:=A++(Y.take k++X.drop k)++(B++(X.take k++Y.drop k)++C)
theorem zoe (A X B Y C:List α):swR A X B Y C 0=A++X++B++Y++C:=by simp [swR]
theorem zpN {A X B Y C:List α} (h:X.length=Y.length):swR A X B Y C X.length=A++Y++B++X++C:=by
 unfold swR;rw [AF (AV h.symm),Bi (Ae _),AF (Ae _),Bi (AV h.symm)]
 simp
theorem zod {A X B Y C:List α} {k:Nat} {x y:α} (hx:X[k]? =some x) (hy:Y[k]? =some y):
 swR A X B Y C k=(A++Y.take k)++x::((X.drop (k+1)++B++X.take k)++y::(Y.drop (k+1)++C)):=by
 unfold swR;rw [zi hx,zi hy];simp
theorem zvx {A X B Y C:List α} {k:Nat} {x y:α} (hx:X[k]? =some x) (hy:Y[k]? =some y):
 swR A X B Y C (k+1)=(A++Y.take k)++y::((X.drop (k+1)++B++X.take k)++x::(Y.drop (k+1)++C)):=by
 unfold swR;rw [zV hx,zV hy];simp
theorem zoh {P Q R:List α} {x y:α}:(P++x::(Q++y::R))[P.length]? =some x:=by simp
theorem zoi {P Q R:List α} {x y:α} {j:Nat} (hj:j=P.length+1+Q.length):(P++x::(Q++y::R))[j]? =some y:=by
 have e:P++x::(Q++y::R)=(P++x::Q)++y::R:=by simp
 have hl:(P++x::Q).length=j:=by simp;omega
 rw [e,<-hl];simp
theorem zpQ {P Q R:List α} {x y x' y':α} {i j:Nat} (hi:i=P.length) (hj:j=P.length+1+Q.length):((P++x::(Q++y::R)).set i x').set j y'=P++x'::(Q++y'::R):=by
 subst hi;have e1:(P++x::(Q++y::R)).set P.length x'=P++x'::(Q++y::R):=by rw [BM _ _ (Ae _)];simp
 have e:P++x'::(Q++y::R)=(P++x'::Q)++y::R:=by simp
 have hl:(P++x'::Q).length=j:=by simp;omega
 rw [e1,e,<-hl,BM _ _ (Ae _)];simp
theorem zhR {A X B Y C:List α} {k:Nat} {x y:α} (hx:X[k]? =some x) (hy:Y[k]? =some y):(swR A X B Y C k)[A.length+k]? =some x:=by
 have hk:=zo hy;have e:A.length+k=(A++Y.take k).length:=by rw [Af,Ag];omega
 rw [zod hx hy,e];exact zoh
theorem zsJ {A X B Y C:List α} {k:Nat} {x y:α} (hx:X[k]? =some x) (hy:Y[k]? =some y):A.length+X.length+B.length+k=(A++Y.take k).length+1+(X.drop (k+1)++B++X.take k).length:=by
 have hk:=zo hy;have hk':=zo hx;simp only [Af,Ag,Au];omega
theorem zlE {A X B Y C:List α} {k:Nat} {x y:α} (hx:X[k]? =some x) (hy:Y[k]? =some y):(swR A X B Y C k)[A.length+X.length+B.length+k]? =some y:=by
 rw [zod hx hy];exact zoi (zsJ (C:=C) hx hy)
theorem zmQ {A X B Y C:List α} {k:Nat} {x y z:α} (hx:X[k]? =some x) (hy:Y[k]? =some y):((swR A X B Y C k).set (A.length+k) z)[A.length+X.length+B.length+k]? =some y:=by
 have hk':=zo hx;rw [AP (by omega)];exact zlE hx hy
theorem zpO {A X B Y C:List α} {k:Nat} {x y:α} (hx:X[k]? =some x) (hy:Y[k]? =some y):((swR A X B Y C k).set (A.length+k) y).set (A.length+X.length+B.length+k) x=swR A X B Y C (k+1):=by
 have hk:=zo hy;have e:A.length+k=(A++Y.take k).length:=by rw [Af,Ag];omega
 rw [zod hx hy,zvx hx hy];exact zpQ e (zsJ (C:=C) hx hy)
/-! one element wanders-/
def wan (A Y:List α) (x:α) (C:List α) (j:Nat):List α:=A++(Y.take j++x::Y.drop j)++C
theorem zon (A Y C:List α) (x:α):wan A Y x C 0=A++[x]++Y++C:=by simp [wan]
theorem zpS (A Y C:List α) (x:α):wan A Y x C Y.length=A++Y++[x]++C:=by simp [wan]
theorem zlI {A Y C:List α} {x y:α} {j:Nat} (hy:Y[j]? =some y):wan A Y x C j=(A++Y.take j)++x::([]++y::(Y.drop (j+1)++C)):=by
 unfold wan;rw [zi hy];simp
theorem zom {A Y C:List α} {x y:α} {j:Nat} (hy:Y[j]? =some y):wan A Y x C (j+1)=(A++Y.take j)++y::([]++x::(Y.drop (j+1)++C)):=by
 unfold wan;rw [zV hy];simp
theorem zi3 {A Y C:List α} {x y:α} {j:Nat} (hy:Y[j]? =some y):A.length+j=(A++Y.take j).length:=by
 have:=zo hy;rw [Af,Ag];omega
theorem zhU {A Y C:List α} {x y:α} {j:Nat} (hy:Y[j]? =some y):(wan A Y x C j)[A.length+j]? =some x:=by
 rw [zlI hy,zi3 (A:=A) (C:=C) (x:=x) hy];exact zoh
theorem zlJ {A Y C:List α} {x y:α} {j:Nat} (hy:Y[j]? =some y):(wan A Y x C j)[A.length+j+1]? =some y:=by
 rw [zlI hy,zi3 (A:=A) (C:=C) (x:=x) hy];exact zoi rfl
theorem zpT {A Y C:List α} {x y:α} {j:Nat} (hy:Y[j]? =some y):((wan A Y x C j).set (A.length+j) y).set (A.length+j+1) x=wan A Y x C (j+1):=by
 rw [zlI hy,zom hy,zi3 (A:=A) (C:=C) (x:=x) hy];exact zpQ rfl rfl
theorem zmT {A Y C:List α} {x y z:α} {j:Nat} (hy:Y[j]? =some y):((wan A Y x C j).set (A.length+j) z)[A.length+j+1]? =some y:=by
 rw [AP (by omega)];exact zlJ hy
theorem zgu {A Y C:List α} {x y:α} {j:Nat} (hy:Y[j]? =some y):(wan A Y x C (j+1))[A.length+j+1]? =some x/\(wan A Y x C (j+1))[A.length+j]? =some y:=by
 rw [zom hy,zi3 (A:=A) (C:=C) (x:=x) hy];exact ⟨zoi rfl,zoh⟩
theorem zpR {A Y C:List α} {x y z:α} {j:Nat} (hy:Y[j]? =some y):((wan A Y x C (j+1)).set (A.length+j+1) z)[A.length+j]? =some y:=by
 rw [AP (by omega)];exact (zgu hy).2
theorem zol {A Y C:List α} {x y:α} {j:Nat} (hy:Y[j]? =some y):((wan A Y x C (j+1)).set (A.length+j+1) y).set (A.length+j) x=wan A Y x C j:=by
 have h:=zpQ (P:=A++Y.take j) (Q:=[]) (R:=Y.drop (j+1)++C) (x:=y) (y:=x) (x':=x) (y':=y) (i:=A.length+j) (j:=A.length+j+1) (zi3 (C:=C) (x:=x) hy) (by rw [zi3 (A:=A) (C:=C) (x:=x) hy];rfl);rw [zom hy,zlI hy,List.set_comm _ _ (by omega)];exact h
theorem zvf {A D:List α} {x:α} (h:0<D.length):((A++D)[(A++D).length-1]?).getD x=(D[D.length-1]?).getD x:=by
 rw [Ay (by rw [Af];omega)]
 congr 2;rw [Af];omega
theorem zfO {A D:List α} {x:α} (h:0<D.length):((A++D)[A.length+D.length-1]?).getD x=(D[D.length-1]?).getD x:=by
 have:=zvf (A:=A) (x:=x) h;rw [Af] at this;exact this
theorem zhM {A D:List α} {x y:α}:((A++(D++[y]))[A.length+(D++[y]).length-1]?).getD x=y:=by
 rw [zfO (by simp)];exact zp8
theorem zde {A D R:List α} {x y:α}:((A++(D++[y]))++x::R)[(A++(D++[y])).length-1]? =some y:=by
 have e:(A++(D++[y]))++x::R=(A++D)++y::x::R:=by simp
 have hl:(A++(D++[y])).length-1=(A++D).length:=by simp [<-AG]
 rw [e,hl];simp
theorem ziY {A D B E C R:List α} {x:α} (h:D++x::(B++E)=R):(A++D)++x::(B++E++C)=A++R++C:=by rw [<-h];simp
theorem zbW (hc:Cmp c fun _=>True) (l:List α):Srt c (zX c l):=zjs hc (fun _ _=>trivial)
theorem win {l:List α} {a m:Nat}:l.drop a=(l.drop a).take m++l.drop (a+m):=by rw [<-AN,Am]
theorem zcJ {l:List α} {a m:Nat}:l.take (a+m)=l.take a++(l.drop a).take m:=List.take_add
theorem zof {A X Y:List α} {d p s1 s2:Nat} (hc:Cmp c fun _=>True) (hP: ∀x y,X[p-1-A.length]? =some x->Y[d-p]? =some y->s1<p->¬c y x<0) (hQ: ∀x y,X[p-A.length]? =some x->Y[d-1-p]? =some y->p<s2->c y x<0)
 (hs1:s1=A.length\/d=s1+Y.length) (hs2:s2=A.length+X.length\/s2=d) (hsp:s1<=p) (hps:p<=s2) (hpA:A.length<=p):
 (∀x y,X[p-A.length-1]? =some x->Y[d-p]? =some y->0<p-A.length->c x y<=0)/\(∀x y,Y[d-p-1]? =some y->X[p-A.length]? =some x->0<d-p->c y x<=0):=by
 refine ⟨fun x y h1 h2 h0=> ?_,fun x y h1 h2 h0=> ?_⟩
 have hl:=zo h2;have:=hP x y (by rw [show p-1-A.length=p-A.length-1 by omega];exact h1) h2 (by omega);have f1:=hc.flip x y trivial trivial;have f2:=hc.flip y x trivial trivial
 omega
 have hl:=zo h2;have:=hQ x y h2 (by rw [show d-1-p=d-p-1 by omega];exact h1) (by omega)
 omega
theorem zog {X Y:List α} {k j:Nat} (hX:Srt c X) (hY:Srt c Y) (h:k=0\/j=0):Srt c (X.take k++Y.take j):=by
 rcases h with rfl|rfl
 simpa using hY.take j
 simpa using hX.take k
theorem zmR {X Y:List α} {k j:Nat} (hX:Srt c X) (hY:Srt c Y) (h:X.length<=k\/Y.length<=j):Srt c (X.drop k++Y.drop j):=by
 rcases h with h|h
 rw [Bi h];exact hY.drop j;rw [Bi h,AW];exact hX.drop k
theorem zpP {A X Y C:List α} {k j:Nat}:A++X++Y++C=(A++X.take k)++X.drop k++Y.take j++(Y.drop j++C):=by
 have h1:=Am k X;have h2:=Am j Y
 calc A++X++Y++C=A++(X.take k++X.drop k)++(Y.take j++Y.drop j)++C:=by rw [h1,h2]
  _=_:=by simp only [An]
theorem zlF {A X Y C:List α} {k j:Nat} (h:X.length<=k\/j=0):A++X++Y++C=(A++X.take k)++Y.take j++X.drop k++(Y.drop j++C):=by
 rcases h with h|rfl
 rw [Bi h,AF h];have:=Am j Y
 calc A++X++Y++C=A++X++(Y.take j++Y.drop j)++C:=by rw [this]
  _=_:=by simp only [An,AW,Bn]
 have:=Am k X
 calc A++X++Y++C=A++(X.take k++X.drop k)++Y++C:=by rw [this]
  _=_:=by simp only [An,List.take_zero,BZ,Bn]
theorem zsA {A X C:List α} {k:Nat} {x:α} (h:X[k]? =some x):(A++X++C)[A.length+k]? =some x:=by
 have:=zo h;rw [An,Ay (by omega),B1,Ax this];exact h
theorem zeV {A X Y C:List α} {k:Nat} {y:α} (h:Y[k]? =some y):(A++X++Y++C)[A.length+X.length+k]? =some y:=by
 have:=zsA (A:=A++X) (C:=C) h;rw [Af] at this;exact this
theorem zeU {A X Y C:List α} {k:Nat} {x:α} (h:X[k]? =some x):(A++X++Y++C)[A.length+k]? =some x:=by
 have:=zsA (A:=A) (C:=Y++C) h;rw [<-An] at this;exact this
end
end
section
section
variable {α:Type} [DecidableEq α]
def zv (p:Option α):List α->List α
 |[]=>[]
 |x::r=>if p=some x then zv (some x) r else x::zv (some x) r
theorem zea: ∀(l:List α) (p:Option α) (s:α),s∈zv p l->s∈l
 |[],_,s,h=>by simp [zv] at h
 |x::r,p,s,h=>by
   simp only [zv] at h
   split at h
   exact AK _ (zea r _ s h)
   rcases List.mem_cons.1 h with h|h
   subst h;simp;exact AK _ (zea r _ s h)
theorem zlv: ∀(l:List α) (p:Option α) (s:α),s∈l->s∈zv p l\/p=some s
 |[],_,_,h=>by cases h
 |x::r,p,s,h=>by
   simp only [zv]
   rcases List.mem_cons.1 h with rfl|h
   split
   rename_i e;exact .inr e
   exact .inl (by simp)
   rcases zlv r (some x) s h with q|q
   split
   exact .inl q;exact .inl (AK _ q)
   cases q
   split
   rename_i e;exact .inr e
   exact .inl (by simp)
theorem zpe (x:α): ∀(A:List α) (p:Option α),zv p (A++[x])=zv p A++if (A.getLast?.or p)=some x then [] else [x]
 |[],p=>by
   by_cases h:p=some x<;>simp [zv,h]
 |y::A,p=>by
   have ih:=zpe x A (some y);have e:((y::A).getLast?.or p)=(A.getLast?.or (some y)):=by
    cases A with
    |nil=>simp
    |cons z A=>simp [List.getLast?_cons_cons,List.getLast?_cons]
   simp only [A3,zv];rw [e,ih]
   split<;>simp
theorem zee {l:List α} {k:Nat} {x y:α} (hx:l[k]? =some x) (hy:l[k-1]? =some y) (h0:0<k):zv none (l.take (k+1))=zv none (l.take k)++if x=y then [] else [x]:=by
 have hk:=zo hx;rw [zV hx,zpe];have e:((l.take k).getLast?.or none)=some y:=by
  rw [List.getLast?_eq_getElem?,Ag,Nat.min_eq_left (by omega),AD (by omega),hy];rfl
 rw [e]
 by_cases h:x=y
 rw [if_pos h,if_pos (by rw [h])];rw [if_neg h,if_neg (by simpa using fun q:y=x=>h q.symm)]
theorem zdx {l:List α} (h:l.length<2):zv none l=l:=by
 match l,h with
 |[],_=>rfl
 |[x],_=>rfl
structure CmpA (l:List α) (j:Nat) (D:List α):Prop where
 len:D.length=l.length
 lo:D.take (zv none (l.take j)).length=zv none (l.take j)
 lt:(zv none (l.take j)).length<j
 hi: ∀i,j<=i+1->D[i]? =l[i]?
theorem CmpA.start {l:List α} {k:Nat} {x y:α} (hx:l[k]? =some x) (hy:l[k-1]? =some y) (h0:0<k) (e:x=y) (h:zv none (l.take k)=l.take k):CmpA l (k+1) l/\(zv none (l.take (k+1))).length=k:=by
 have hk:=zo hx;have h1:zv none (l.take (k+1))=l.take k:=by rw [zee hx hy h0,if_pos e,h];simp
 have h2:(l.take k).length=k:=by rw [Ag];omega
 exact ⟨⟨rfl,by rw [h1,h2],by rw [h1,h2];omega,fun _ _=>rfl⟩,by rw [h1,h2]⟩
theorem CmpA.same {l D:List α} {j:Nat} (h:CmpA l j D) {x y:α} (hx:l[j]? =some x) (hy:l[j-1]? =some y) (e:x=y):CmpA l (j+1) D/\(zv none (l.take (j+1))).length=(zv none (l.take j)).length:=by
 have h0:=h.lt;have h1:zv none (l.take (j+1))=zv none (l.take j):=by rw [zee hx hy (by omega),if_pos e];simp
 exact ⟨⟨h.len,by rw [h1];exact h.lo,by rw [h1];omega,fun i hi=>h.hi i (by omega)⟩,by rw [h1]⟩
theorem CmpA.more {l D:List α} {j:Nat} (h:CmpA l j D) {x y:α} (hx:l[j]? =some x) (hy:l[j-1]? =some y) (e:x≠y):CmpA l (j+1) (D.set (zv none (l.take j)).length x)/\(zv none (l.take (j+1))).length=(zv none (l.take j)).length+1:=by
 have h0:=h.lt;have hl:=h.len;have hj:=zo hx;have h1:zv none (l.take (j+1))=zv none (l.take j)++[x]:=by rw [zee hx hy (by omega),if_neg e]
 have h2:(zv none (l.take (j+1))).length=(zv none (l.take j)).length+1:=by rw [h1];simp
 refine ⟨⟨by simpa using hl,?_,by omega,fun i hi=> ?_⟩,h2⟩
 rw [h2,h1];have h3:(D.set (zv none (l.take j)).length x)[(zv none (l.take j)).length]? =some x:=by
  rw [B2 (by omega)]
 rw [zV h3,List.take_set_of_le (Ae _),h.lo];rw [AP (by omega)];exact h.hi i (by omega)
theorem zlH {c:α->α->Int}: ∀(l:List α) (p:Option α),l.Pairwise (fun x y=>c x y<=0)->(∀q,p=some q->∀x∈l,c q x<=0)->
 (zv p l).Pairwise (fun x y=>c x y<=0)/\(∀q,p=some q->∀y∈zv p l,c q y<=0)/\∀q,p=some q->(zv p l)[0]?≠some q
 |[],_,_,_=>⟨by simp [zv],fun q _ y hy=>by simp [zv] at hy,fun q _=>by simp [zv]⟩
 |x::r,p,h,hp=>by
   obtain ⟨h1,h2⟩:=List.pairwise_cons.1 h;obtain ⟨i1,i2,i3⟩:=zlH r (some x) h2 (fun q e y hy=>by cases e;exact h1 y hy);simp only [zv]
   split
   rename_i e
   refine ⟨i1,fun q eq y hy=> ?_,fun q eq=> ?_⟩
   rw [e] at eq;cases eq;exact i2 x rfl y hy;rw [e] at eq;cases eq;exact i3 x rfl
   rename_i e
   refine ⟨List.pairwise_cons.2 ⟨fun y hy=>i2 x rfl y hy,i1⟩,fun q eq y hy=> ?_,fun q eq=> ?_⟩
   rcases List.mem_cons.1 hy with rfl|hy
   exact hp q eq y AE;exact hp q eq y (AK _ (zea r _ y hy))
   intro h9
   have:x=q:=by simpa using h9
   exact e (by rw [eq,this])
theorem zj6 {c:α->α->Int}: ∀(l:List α) (p:Option α),l.Pairwise (fun x y=>c x y<=0)->(∀q,p=some q->∀x∈l,c q x<=0)->∀(i:Nat) (x y:α),(zv p l)[i]? =some x->(zv p l)[i+1]? =some y->x≠y
 |[],_,_,_,i,x,y,hx,_=>by simp [zv] at hx
 |z::r,p,h,hp,i,x,y,hx,hy=>by
   obtain ⟨h1,h2⟩:=List.pairwise_cons.1 h;have hp': ∀q,some z=some q->∀w∈r,c q w<=0:=fun q e w hw=>by cases e;exact h1 w hw
   simp only [zv] at hx hy
   split at hx
   rename_i e
   rw [if_pos e] at hy;exact zj6 r (some z) h2 hp' i x y hx hy
   rename_i e
   rw [if_neg e] at hy
   cases i with
   |zero=>
     simp at hx hy
     subst hx
     intro hxy
     exact (zlH r (some z) h2 hp').2.2 z rfl (by rw [hy,<-hxy])
   |succ i=>
     simp at hx hy
     exact zj6 r (some z) h2 hp' i x y hx hy
theorem zdw: ∀(l:List α) (p:Option α),(zv p l).length<=l.length
 |[],p=>by simp [zv]
 |x::r,p=>by
   have:=zdw r (some x);simp only [zv]
   split
   simp only [Ao];omega;simp only [Ao];omega
theorem zg6 {cap off sz m:Nat} (h:m<cap):zhY cap off sz m=off+m*sz:=by
 unfold zhY;rw [if_neg (by omega)]
/-! two lists without repeats,each strictly sorted-/
variable {c:α->α->Int}
def zbC (c:α->α->Int) (a b:List α):Bool:=b.any fun x=>a.any fun y=>decide (c x y=0)&&decide (x≠y)
def zcZ (c:α->α->Int) (a b:List α):List α:=a++b.filter fun x=> !(a.any fun y=>decide (c x y=0))
def zcK (c:α->α->Int) (a b:List α):List α:=zX c (zcZ c a b)
theorem zo7 {β:Type} {c:β->β->Int} (hc:Cmp c fun _=>True) {D:List β} (hs:D.Pairwise fun x y=>c x y<=0) (h: ∀(i:Nat) (x y:β),D[i]? =some x->D[i+1]? =some y->c x y≠0):D.Pairwise fun x y=>c x y<0:=by
 refine List.pairwise_iff_getElem.2 fun i j hi hj hij=> ?_
 have h1:=List.pairwise_iff_getElem.1 hs i j hi hj hij;have hi1:i+1<D.length:=by omega
 have h2:=h i D[i] D[i+1] (Aa hi) (Aa hi1);have h3:=List.pairwise_iff_getElem.1 hs i (i+1) hi hi1 (by omega)
 rcases Az (i+1) j with hlt|hge
 have h4:=List.pairwise_iff_getElem.1 hs (i+1) j hi1 hj hlt;have f1:=hc.flip D[i] D[i+1] trivial trivial;have f2:=hc.flip D[i] D[j] trivial trivial;have f3:=hc.flip D[j] D[i] trivial trivial;have f4:=hc.flip D[i+1] D[i] trivial trivial
 rcases Int.lt_or_eq_of_le h1 with e|e
 exact e
 exfalso
 have:=hc.trans D[i+1] D[j] D[i] trivial trivial trivial h4 (by omega)
 omega
 have e:j=i+1:=by omega
 subst e;omega
theorem zgt (hc:Cmp c fun _=>True) {D:List α} (h:D.Pairwise fun x y=>c x y<0) {x y:α} (hx:x∈D) (hy:y∈D) (e:c x y=0):x=y:=by
 obtain ⟨i,hi⟩:=AO hx;obtain ⟨j,hj⟩:=AO hy;have hil:=zo hi;have hjl:=zo hj;rw [Aa hil] at hi;rw [Aa hjl] at hj;have ei:=Ak hi;have ej:=Ak hj;have f1:=hc.flip x y trivial trivial;have f2:=hc.flip y x trivial trivial
 rcases Bp i j with h'|h'|h'
 have:=List.pairwise_iff_getElem.1 h i j hil hjl h';rw [ei,ej] at this;omega;subst h';rw [<-ei,<-ej];have:=List.pairwise_iff_getElem.1 h j i hjl hil h';rw [ei,ej] at this;omega
theorem znJ {a b:List α}:zbC c a b=true↔∃x∈b,∃y∈a,c x y=0/\x≠y:=by
 unfold zbC;simp only [B4,A9,decide_eq_true_eq]
theorem znW {β:Type} {c:β->β->Int} {a b:List β} {x:β}:x∈zcZ c a b->x∈a\/x∈b:=fun h=>by
 rcases List.mem_append.1 h with h|h
 exact .inl h;exact .inr (List.mem_filter.1 h).1
theorem zor {β:Type} {c:β->β->Int} (hc:Cmp c fun _=>True) {a b:List β} (ha:a.Pairwise fun x y=>c x y<0) (hb:b.Pairwise fun x y=>c x y<0):(zcZ c a b).Pairwise fun x y=>c x y≠0:=by
 refine List.pairwise_append.2 ⟨ha.imp fun h=>by omega,(hb.filter _).imp fun h=>by omega,fun x hx y hy e=> ?_⟩
 have h1:=(List.mem_filter.1 hy).2;have f1:=hc.flip x y trivial trivial;have f2:=hc.flip y x trivial trivial;have h2:c y x=0:=by omega
 have h3:(a.any fun z=>decide (c y z=0))=true:=List.any_eq_true.2 ⟨x,hx,by simpa using h2⟩;rw [h3] at h1;cases h1
theorem znY (hc:Cmp c fun _=>True) {a b S:List α} (ha:a.Pairwise fun x y=>c x y<0) (hb:b.Pairwise fun x y=>c x y<0) (hp:S.Perm (a++b)) (hs:Srt c S) {i:Nat} {x y:α} (hx:(zv none S)[i]? =some x) (hy:(zv none S)[i+1]? =some y) (e:c x y=0):zbC c a b=true:=by
 have hne:=zj6 S none hs (fun q e=>by cases e) i x y hx hy;have hx':=hp.mem_iff.1 (zea _ _ _ (Ac hx));have hy':=hp.mem_iff.1 (zea _ _ _ (Ac hy));have f1:=hc.flip x y trivial trivial;have f2:=hc.flip y x trivial trivial;rw [znJ]
 rcases List.mem_append.1 hx' with h1|h1<;>rcases List.mem_append.1 hy' with h2|h2
 exact absurd (zgt hc ha h1 h2 e) hne;exact ⟨y,h2,x,h1,by omega,fun q=>hne q.symm⟩;exact ⟨x,h1,y,h2,e,hne⟩;exact absurd (zgt hc hb h1 h2 e) hne
theorem znX (hc:Cmp c fun _=>True) {a b S:List α} (ha:a.Pairwise fun x y=>c x y<0) (hb:b.Pairwise fun x y=>c x y<0) (hp:S.Perm (a++b)) (hs:Srt c S) (h: ∀(i:Nat) (x y:α),(zv none S)[i]? =some x->(zv none S)[i+1]? =some y->c x y≠0):
 zbC c a b=false/\zv none S=zcK c a b:=by
 have hD:=zo7 hc (zlH S none hs (fun q e=>by cases e)).1 h;have hmem: ∀z,z∈zv none S↔z∈a\/z∈b:=fun z=>by
  constructor
  intro hz;exact List.mem_append.1 (hp.mem_iff.1 (zea _ _ _ hz))
  intro hz
  rcases zlv S none z (hp.mem_iff.2 (List.mem_append.2 hz)) with q|q
  exact q
  cases q
 have hno: ∀x∈b,∀y∈a,c x y=0->x=y:=fun x hx y hy e=>zgt hc hD ((hmem x).2 (.inr hx)) ((hmem y).2 (.inl hy)) e
 refine ⟨?_,?_⟩
 rw [Bz]
 intro h9
 obtain ⟨x,hx,y,hy,e1,e2⟩:=znJ.1 h9;exact e2 (hno x hx y hy e1);have hmem2: ∀z,z∈zcZ c a b↔z∈a\/z∈b:=fun z=>by
  constructor
  exact znW;rintro (hz|hz);exact Ar _ hz
  by_cases hq:(a.any fun y=>decide (c z y=0))=true
  obtain ⟨y,hy,e⟩:=List.any_eq_true.1 hq;rw [hno z hz y hy (by simpa using e)];exact Ar _ hy;exact Bd _ (List.mem_filter.2 ⟨hz,by simpa using hq⟩)
 have hn1:(zv none S).Nodup:=hD.imp fun {x y} hxy e=>by
  subst e;have:=hc.flip x x trivial trivial;omega
 have hn2:(zcZ c a b).Nodup:=(zor hc ha hb).imp fun {x y} hxy e=>by
  subst e;have:=hc.flip x x trivial trivial;omega
 have hperm:(zv none S).Perm (zcZ c a b):=(List.perm_ext_iff_of_nodup hn1 hn2).2 fun z=>by rw [hmem,hmem2]
 refine zfn hc (fun x y hx hy e=> ?_) hperm (hD.imp fun {x y} hxy=> ?_)
 exact zgt hc hD ((hperm.mem_iff).2 hx) ((hperm.mem_iff).2 hy) e;have f1:=hc.flip x y trivial trivial;have f2:=hc.flip y x trivial trivial
 omega
end
end
section
theorem zeI (x y:MendS):zbl [.str x.Player,.int .i64 x.Week,.str x.Stat,.int .i64 x.Count,.int .i64 x.At,.int .i64 x.Version,.str x.By] [.str y.Player,.int .i64 y.Week,.str y.Stat,.int .i64 y.Count,.int .i64 y.At,.int .i64 y.Version,.str y.By]=true↔x=y:=by
 obtain ⟨a1,a2,a3,a4,a5,a6,a7⟩:=x;obtain ⟨b1,b2,b3,b4,b5,b6,b7⟩:=y
 show (_&&(_&&(_&&(_&&(_&&(_&&(_&&true)))))))=true↔_
 simp [eqH,and_assoc]
instance decMendS:DecidableEq MendS:=fun x y=>decidable_of_iff _ (zeI x y)
def zg9 (m n:List MendS):Int:=if orI [zb9 m,zb9 n]≠0 then orI [zb9 m,zb9 n] else if zbC zaI m n then 13 else 0
def zd3 (m n:List MendS):List MendS:=if orI [zb9 m,zb9 n]≠0 then [] else if zbC zaI m n then [] else zcK zaI m n
section
variable {α:Type} [DecidableEq α]
theorem zpZ {c:α->α->Int} {a b:List α} {k:Nat} {x:α} (h:b[k]? =some x):zbC c a (b.take (k+1))=(zbC c a (b.take k)||a.any fun y=>decide (c x y=0)&&decide (x≠y)):=by
 unfold zbC;rw [zV h,Cb];simp
theorem zpt {c:α->α->Int} {a b:List α} {x y:α} (hx:x∈b) (hy:y∈a) (e:c x y=0) (hne:x≠y):zbC c a b=true:=znJ.2 ⟨x,hx,y,hy,e,hne⟩
theorem znz {β:Type} {c:β->β->Int} {a b:List β} {k:Nat} {x:β} (h:b[k]? =some x) (hn:(a.any fun y=>decide (c x y=0))=false):zcZ c a (b.take (k+1))=zcZ c a (b.take k)++[x]:=by
 unfold zcZ;rw [zV h,Bt,<-An];simp [hn]
theorem zph {β:Type} {c:β->β->Int} {a b:List β} {k:Nat} {x:β} (h:b[k]? =some x) (hn:(a.any fun y=>decide (c x y=0))=true):zcZ c a (b.take (k+1))=zcZ c a (b.take k):=by
 unfold zcZ;rw [zV h,Bt];simp [hn]
theorem zgy {β:Type} (c:β->β->Int) (a b:List β):(zcZ c a b).length<=a.length+b.length:=by
 unfold zcZ;rw [Af];have:=Bu (fun x=> !(a.any fun y=>decide (c x y=0))) b
 omega
theorem zgQ {β:Type} (c:β->β->Int) (a b:List β):(zcK c a b).length<=a.length+b.length:=by
 unfold zcK;rw [zay];exact zgy c a b
theorem znL {c:α->α->Int} (hc:Cmp c fun _=>True) {a b:List α} {k:Nat} {x z:α} (ha:a.Pairwise fun x y=>c x y<0) (h:b[k]? =some x) (hz:z∈a) (e:c x z=0) (hxz:x=z) (hno:zbC c a (b.take k)=false):zbC c a (b.take (k+1))=false:=by
 rw [zpZ h,hno,Bool.false_or,Bz]
 intro h9
 obtain ⟨y,hy,h8⟩:=List.any_eq_true.1 h9;simp only [A9,decide_eq_true_eq] at h8;refine h8.2 (hxz.trans (zgt hc ha hz hy ?_))
 rw [<-hxz];exact h8.1
theorem znK {c:α->α->Int} {a b:List α} {k:Nat} {x:α} (h:b[k]? =some x) (hn:(a.any fun y=>decide (c x y=0))=false) (hno:zbC c a (b.take k)=false):zbC c a (b.take (k+1))=false:=by
 rw [zpZ h,hno,Bool.false_or,Bz]
 intro h9
 obtain ⟨y,hy,h8⟩:=List.any_eq_true.1 h9;simp only [A9,decide_eq_true_eq] at h8;have:(a.any fun y=>decide (c x y=0))=true:=List.any_eq_true.2 ⟨y,hy,by simpa using h8.1⟩;rw [hn] at this;cases this
theorem zlw {β:Type} {c:β->β->Int} (hc:Cmp c fun _=>True) {a b l':List β} (ha:a.Pairwise fun x y=>c x y<0) (hb:b.Pairwise fun x y=>c x y<0) (hp:l'.Perm (zcZ c a b)) (hw:l'.Pairwise fun x y=> ¬c y x<0):l'=zcK c a b:=by
 refine zfn hc (fun x y hx hy e=> ?_) hp hw
 refine Classical.byContradiction fun hne=> ?_
 have hn:=zor hc ha hb;obtain ⟨i,hi⟩:=AO hx;obtain ⟨j,hj⟩:=AO hy;have hil:=zo hi;have hjl:=zo hj;rw [Aa hil] at hi;rw [Aa hjl] at hj;have ei:=Ak hi;have ej:=Ak hj;have f1:=hc.flip x y trivial trivial;have f2:=hc.flip y x trivial trivial
 rcases Bp i j with h'|h'|h'
 have:=List.pairwise_iff_getElem.1 hn i j hil hjl h';rw [ei,ej] at this;exact this e;subst h';exact hne (by rw [<-ei,<-ej]);have:=List.pairwise_iff_getElem.1 hn j i hjl hil h';rw [ei,ej] at this;omega
end
theorem zhH [Tracks] {P:Program} {f:FuncId} {hargs:List HVal} {v:Value} {sz:Nat} {es:List HVal} {Q:HVal->List MObj->Prop} (h0:v= .slice none 0 0->es=[]->Con P f hargs [.arr v sz es] Q)
 (h1: ∀b off cap,v= .slice (some ⟨b,off,none⟩) es.length cap->Con P f hargs [.arr v sz es] Q):Con P f hargs [.arr v sz es] Q:=fun I F w args ha hs=>by
 rcases hs.obj (.arr v sz es) (by simp) with ⟨g1,g2⟩|⟨b,off,cap,rc,el,fr,g1,_⟩
 exact h0 g1 g2 I F w args ha hs;exact h1 b off cap g1 I F w args ha hs
end
section
section
variable {α:Type} {f:α->Int} {c:α->α->Int} {d:α} {l r:List α} {k:Nat} {x:α} {e:Int}
end
theorem zpu {a b:Str}:zai a b<0↔Op.bytesLess a b=true:=by
 have h1:=zfG a b
 constructor
 intro h
 rcases zd9 a b with q|q|q
 exact q;rw [zbA.2 q] at h;omega;have:=zmY.2 (zdo q);omega
 intro h
 have h2: ¬zai a b=0:=fun e=>by rw [zbA.1 e,zbr] at h;cases h
 have h3:=zmY.2 (zdo h)
 omega
end
section
open Op
theorem zpL {l:List Str} (h: ∀(j:Nat) (x y:Str),l[j]? =some x->l[j+1]? =some y->bytesLess x y=true):SortedS l:=by
 have key: ∀(d i:Nat) (a b:Str),l[i]? =some a->l[i+d+1]? =some b->bytesLess a b=true:=by
  intro d
  induction d with
  |zero=>intro i a b ha hb;exact h i a b ha hb
  |succ d ih=>
    intro i a b ha hb
    have hl:=zo hb;obtain ⟨c,hc⟩: ∃c,l[i+d+1]? =some c:=⟨_,Aa (by omega)⟩
    exact zf5 (ih i a c ha hc) (h (i+d+1) c b hc (by rw [<-hb];congr 1))
 refine List.pairwise_iff_getElem.2 fun i j hi hj hij=> ?_
 exact key (j-i-1) i _ _ (Aa hi) (by rw [show i+(j-i-1)+1=j by omega];exact Aa hj)
end
section
/-! sets of numbers as bits-/
abbrev zxu:Int:= -1000
inductive WayB (al:Nat->Nat->Bool) (can:List (List Nat)) (fr:Nat) (g:List Nat):List Nat->Int->Prop
 |nil:WayB al can fr g [] 0
 |snoc {q:List Nat} {c:Int} {k:Nat} (h:WayB al can fr g q c) (hk:k∈(fr+q.length)::can.getD (fr+q.length) []) (ha:al (fr+q.length) k=true) (hn:k∉g++q):
    WayB al can fr g (q++[k]) (c+if k=fr+q.length then 0 else 1)
theorem WayB.bd {al:Nat->Nat->Bool} {can:List (List Nat)} {fr:Nat} {g q:List Nat} {c:Int} (h:WayB al can fr g q c):0<=c/\c<=q.length:=by
 induction h with
 |nil=>simp
 |snoc h hk ha hn ih=>rw [Af,B8];split<;>omega
structure CanOk (can:List (List Nat)):Prop where
 lt: ∀i,∀k∈can.getD i [],k<can.length
 ne: ∀i,i∉can.getD i []
 len:can.length<=14
section
variable {al:Nat->Nat->Bool} {can:List (List Nat)} {fr:Nat} {g:List Nat}
theorem WayB.lt {q:List Nat} {c:Int} (hc:CanOk can) (h:WayB al can fr g q c) (hl:fr+q.length<=can.length): ∀k∈q,k<can.length:=by
 induction h with
 |nil=>simp
 |snoc h hk ha hn ih=>
   rw [Af,B8] at hl
   intro k hm
   rcases List.mem_append.1 hm with hm|hm
   exact ih (by omega) k hm;rw [List.mem_singleton.1 hm]
   rcases List.mem_cons.1 hk with e|e
   omega
   exact hc.lt _ _ e
theorem WayB.nodup {q:List Nat} {c:Int} (hg:g.Nodup) (h:WayB al can fr g q c):(g++q).Nodup:=by
 induction h with
 |nil=>simpa using hg
 |snoc h hk ha hn ih=>
   rw [<-An];refine List.nodup_append.2 ⟨ih,by simp,fun a ha b hb=> ?_⟩
   rw [List.mem_singleton.1 hb];exact fun e=>hn (e▸ha)
end
end
section
/-! ways by their heads-/
section
variable {al:Nat->Nat->Bool} {can:List (List Nat)}
end
end
section
section
variable {can:List (List Nat)} {S:List Bool}
end
end
section
def BdB (m:Int) (l:List Int):Prop:= ∀t,l.getD t 0=zxu\/(0<=l.getD t 0/\l.getD t 0<=m)
theorem BdB.mono {m m':Int} {l:List Int} (h:BdB m l) (hm:m<=m'):BdB m' l:=fun t=>by
 rcases h t with e|e
 exact .inl e;exact .inr ⟨e.1,by omega⟩
end
section
open Op
end
section
open Go
section
variable {P:Program} {e:Env} {dst:Option Tmp} {ty:TypeId} {pos:String} {af:Array Edge} {g:Option (Nat×Bool)} {M:List MObj} {K:HVal->List MObj->Prop}
end
end
section
open Go
section
variable {P:Program} {e:Env} {dst:Option Tmp} {ty:TypeId} {pos:String} {af:Array Edge} {g:Option (Nat×Bool)} {M:List MObj} {K:HVal->List MObj->Prop}
end
/-! a row that fills up-/
end
section
open Go
section
variable {P:Program} {e:Env} {dst:Option Tmp} {ty:TypeId} {pos:String} {af:Array Edge} {g:Option (Nat×Bool)}
end
end
section
open Op
def zfi:List Int->List Int->Int
 |[],[]=>0
 |[],_::_=> -1
 |_::_,[]=>1
 |x::a,y::b=>if zam x y≠0 then zam x y else zfi a b
end
section
open Op
theorem zwS {s:Str} (h:key s=true):leB s []=false:=by
 have hn:s≠[]:=by
  rintro rfl;have:key ([]:Str)=false:=by decide
  rw [this] at h;cases h
 cases s with
 |nil=>exact absurd rfl hn
 |cons a t=>rfl
theorem ord2 {a b:Str} {m n:Int}:orI [zai a b,zam m n]<=0↔bytesLess a b=true\/a=b/\m<=n:=by
 rw [zcz]
 split
 rename_i h
 have h0:a≠b:=fun e=>h (zbA.2 e)
 rw [<-zpu]
 constructor
 intro q;left;omega
 rintro (q|q)
 omega
 exact absurd q.1 h0
 rename_i h
 have h0:a=b:=zbA.1 (by simpa using h);subst h0;rw [zkR]
 constructor
 intro q;exact .inr ⟨rfl,q⟩
 rintro (q|q);rw [zbr] at q;cases q;exact q.2
def zlC (n:Int):Int:=if n<0 then-1 else if 0<n then 1 else 0
theorem zvw {a b:Int}:zlC (a-b)=zam a b:=by
 unfold zlC zam
 (repeat' split)<;>first|rfl|omega
theorem zuW {a b c d:Int}:zfi [a,b] [c,d]=orI [zam a c,zam b d]:=by
 rw [zcz,zfi,zfi,zfi]
 split
 rfl
 split
 rfl
 rename_i h;have:zam b d=0:=by simpa using h
 rw [this]
theorem zwC {x p:FixS}:orI [zam x.Week p.Week,zam x.At p.At,zai x.Home p.Home]<=0↔0<zfi [p.Week,p.At] [x.Week,x.At]\/zfi [p.Week,p.At] [x.Week,x.At]=0/\bytesLess p.Home x.Home=false:=by
 rw [zuW,zcz,<-zmY];unfold orI
 by_cases h1:x.Week=p.Week
 by_cases h2:x.At=p.At
 have e1:zam x.Week p.Week=0:=zbf.2 h1;have e2:zam x.At p.At=0:=zbf.2 h2;have e3:zam p.Week x.Week=0:=zbf.2 h1.symm;have e4:zam p.At x.At=0:=zbf.2 h2.symm;simp only [e1,e2,e3,e4];rw [zcz]
 constructor
 intro h
 refine .inr ⟨rfl,?_⟩
 simpa [orI] using h
 rintro (h|⟨_,h⟩);exact absurd h (by decide)
 simpa [orI] using h
 have e1:zam x.Week p.Week=0:=zbf.2 h1;have e3:zam p.Week x.Week=0:=zbf.2 h1.symm;have e2:zam x.At p.At≠0:=fun e=>h2 (zbf.1 e)
 have e4:=zjS x.At p.At;simp only [e1,e3];rw [zcz,if_pos e2]
 simp
 omega
 have e1:zam x.Week p.Week≠0:=fun e=>h1 (zbf.1 e)
 have e3:=zjS x.Week p.Week;have e4:zam p.Week x.Week≠0:=by omega
 rw [if_pos e1,if_pos e4]
 omega
end
end Go.HL
