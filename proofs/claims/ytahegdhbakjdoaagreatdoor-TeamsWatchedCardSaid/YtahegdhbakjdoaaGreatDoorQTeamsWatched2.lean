/- Part 2 of the proof: a program logic, contracts of functions and plain facts; no conditions. -/
import Derived.Test.YtahegdhbakjdoaaGreatDoorQTeamsWatched1
import Derived.Carry
import Derived.Ground.Names2Prog
import Derived.KernelRfl
import Derived.Laws.MakeOwn
import Derived.Lib.AppendStr
import Derived.Lib.Bytealg
import Derived.Lib.Join
import Derived.Lib.LaidTab
import Derived.Lib.SplitLaws
import Derived.Lib.UnsafeStr
import Derived.OpenShut
import Derived.Shelf.SlIter.Collect
import Derived.Shelf.SlIter.Keys
import Derived.Shelf.SlIter.Sorted
import Derived.Shelf.SlSortCmp.Insertion
import Derived.Shelf.Slices.CompactS
import Derived.Shelf.Slices.Delete
import Derived.Shelf.Small.Wraps
import Derived.Shelf.Sort.Plain
import Derived.Shelf.SortM.Plain
import Derived.Shelf.SortM.SortNone
import Derived.Shelf.Strconv.Atoi
import Derived.Shelf.Strconv.Itoa3
import Derived.Shelf.Strings.Builder1
import Derived.Shelf.Strings.Cut
import Derived.Shelf.Strings.FieldsFuncAny
import Derived.Shelf.Strings.OnBuilder
import Derived.Shelf.Strings.Prefix
import Derived.Shelf.Strings.Search3
import Derived.Shelf.Strings.Split
import Derived.Shelf.Unicode.ValidAny
import Derived.Test.YtahegdhbakjdoaaGreatDoorProg
import Derived.WideKeyRuns
import GoSem.ClaimJoined
set_option linter.unusedVariables false
set_option linter.unusedSimpArgs false
set_option maxHeartbeats 16000000
namespace Go.HL
section
abbrev Str:=List UInt8
theorem zt {α:Type} {l:List α} {k:Nat} {x:α} (h:l[k]? =some x):l.drop k=x::l.drop (k+1):=by
 have hlt:=zx h;rw [Aa hlt] at h;rw [List.drop_eq_getElem_cons hlt]
 simp at h
 rw [h]
theorem za1 {α:Type} {l:List α} {k:Nat} {x:α} (h:l[k]? =some x):l.take (k+1)=l.take k++[x]:=by
 have hlt:=zx h;rw [Aa hlt] at h;rw [List.take_succ_eq_append_getElem hlt]
 simp at h
 rw [h]
theorem zP {α:Type} {l:List α} {k:Nat} (h:l.length<=k):l.drop k=[]:=Bo h
theorem hd0 {s:Str} (h:s≠[]):s[0]? =some (s.headD 0):=by
 cases s with
 |nil=>exact absurd rfl h
 |cons a r=>rfl
abbrev eSs (l:List Str):HVal:= .slice 1 (l.map .str)
abbrev eIs (l:List Int):HVal:= .slice 1 (l.map (.int .i64))
def out (n lo hi:Int):Bool:=decide (n<lo)||decide (hi<n)
theorem zeP {n lo hi:Int} (h:out n lo hi=false):lo<=n/\n<=hi:=by simp [out] at h;omega
theorem zuG {a b A B:Int} (h1:0<=a) (h2:a<=A) (h3:0<=b) (h4:b<=B):0<=a*b/\a*b<=A*B:=
 ⟨Int.mul_nonneg h1 h3,Int.mul_le_mul h2 h4 h3 (by omega)⟩
def zL (n:Int):Bool:= !(out n 0 345686399999)
def zgd (c:UInt8):Bool:=(decide (97<=c.toNat)&&decide (c.toNat<=122))||(decide (48<=c.toNat)&&decide (c.toNat<=57))||c.toNat==45||c.toNat==95
def zjp (s:Str):Bool:=s !=[]&&decide (s.length<=40)&&decide (97<=(s.headD 0).toNat)&&decide ((s.headD 0).toNat<=122)
theorem zxh {s:Str} (h:((¬s=[]/\(s.length:Int)<=40)/\97<=(((List.head? s).getD 0).toNat:Int))/\(((List.head? s).getD 0).toNat:Int)<=122):zjp s=true:=by
 obtain ⟨⟨⟨h1,h2⟩,h3⟩,h4⟩:=h
 simp [zjp];exact ⟨⟨⟨h1,by omega⟩,by omega⟩,by omega⟩
theorem zxg {s:Str} (h:((s=[]\/40<(s.length:Int))\/(((List.head? s).getD 0).toNat:Int)<97)\/122<(((List.head? s).getD 0).toNat:Int)):zjp s=false:=by
 rw [B0];simp [zjp]
 intro h1 h2 h3
 rcases h with ((h|h)|h)|h
 ·exact absurd h h1
 all_goals omega
theorem zxf {x:UInt8} (h:(x.toNat:Int)<97\/122<(x.toNat:Int)->(x.toNat:Int)<48\/57<(x.toNat:Int)->¬(x.toNat:Int)=45->(x.toNat:Int)=95):zgd x=true:=by
 simp [zgd];omega
theorem zxe {x:UInt8} (h:((((x.toNat:Int)<97\/122<(x.toNat:Int))/\((x.toNat:Int)<48\/57<(x.toNat:Int)))/\¬(x.toNat:Int)=45)/\¬(x.toNat:Int)=95):zgd x=false:=by
 rw [B0];simp [zgd];omega
def key (s:Str):Bool:=zjp s&&s.all zgd
def zeL (s:Str):List Str->Int->Int
 |[],_=> -1
 |x::r,k=>if s=x then k else zeL s r (k+1)
theorem zl7 (s:Str): ∀(l:List Str) (k:Int),0<=k->decide (0<=zeL s l k)=l.contains s
 |[],k,h=>by simp [zeL]
 |x::r,k,h=>by
   have ih:=zl7 s r (k+1) (by omega)
   by_cases hx:s=x
   simp [zeL,hx,h]
   have e1:zeL s (x::r) k=zeL s r (k+1):=by simp [zeL,hx]
   rw [e1,ih];simp [hx]
end
end Go.HL
namespace Go.Proofs.YtahegdhbakjdoaaGreatDoor
set_option maxRecDepth 100000
set_option linter.unusedVariables false
set_option linter.unusedSimpArgs false
section
open Go.Proofs.Tryz
open Go.HL
theorem zaM [Tracks] {n lo hi:Int}:ConP prog 146 [.int .i64 n,.int .i64 lo,.int .i64 hi] (.bool (out n lo hi)):=by
 refine uOb func146 ntmps146 ?_;refine zkO ?_;refine zC rfl ?_
 simp [out]
theorem zbA [Tracks] {n:Int}:ConP prog 67 [.int .i64 n] (.bool (zL n)):=by
 refine uOb func67 ntmps67 ?_;refine gz5 ?_;refine dq (uCl zc3 rfl zaM) ?_;refine gz4 ?_;refine zC rfl ?_
 rfl
theorem zaH [Tracks] {s:Str}:ConP prog 71 [.str s] (.bool (key s)):=by
 refine uOb func71 ntmps71 ?_;refine zeu ?_;refine uGr rfl (fun hc=>zaT (j:=0) (b:=s.headD 0) ty9 rfl rfl rfl (hd0 uSa)) ?_;refine gz4 ?_;refine uGr rfl (fun hc=>zaT (j:=0) (b:=s.headD 0) ty9 rfl rfl rfl (hd0 uSa)) ?_;refine gz3 ?_;refine uCo (fun h1=> ?_) fun h2=> ?_
 refine gz4 ?_;refine zC rfl ?_
 (rw [key,zxg h1];rfl)
 refine gz9 ?_;refine uT1 [2,3,24,30] (fun k=>[(24,.int .i64 k)]) (fun k=>[]) (fun k=>k<=s.length/\key s=(s.drop k).all zgd) (fun k=>s.length-k) (0) ?_ ?_;exact ⟨Ad _,by rw [key,zxh h2];rfl⟩;rintro k ⟨hk,hg⟩;refine gz4 ?_;refine uCo (fun h3=> ?_) fun h4=> ?_
 obtain ⟨x,hx⟩: ∃x,s[k]? =some x:=⟨_,Aa h3⟩
 have hd:=zt hx;rw [hd] at hg;refine zc8 ?_;refine dq (zaT ty9 rfl rfl rfl (by assumption)) ?_;refine gz27 ?_;refine uCo (fun h5=> ?_) fun h6=> ?_
 refine gz4 ?_;refine zC rfl ?_
 (rw [hg,BR,zxe h5];rfl)
 refine gz7 ?_;refine ⟨k+1,?_,?_,⟨rfl,trivial⟩,uK,Ab _⟩
 refine ⟨by omega,?_⟩
 rw [hg,BR,zxf h6];rfl
 dsimp only;omega
 rw [zP uO] at hg;refine gz2 ?_;refine zG ?_;refine gz6 ?_;refine zC rfl ?_
 (rw [hg];rfl)
theorem zhg [Tracks] {l:List Str} {s:Str} (hl:l.length<=1000000000):ConP prog 32 [eSs l,.str s] (.int .i64 (zeL s l 0)):=by
 refine uOb func32 ntmps32 ?_;refine zaD ?_;refine uT1 [4,2,8,11] (fun k=>[(8,.int .i64 k)]) (fun k=>[]) (fun k=>k<=l.length/\zeL s l 0=zeL s (l.drop k) k) (fun k=>l.length-k) (0) ?_ ?_
 simp
 rintro k ⟨hk,hg⟩;refine gz4 ?_;refine uCo (fun h1=> ?_) fun h2=> ?_
 obtain ⟨x,hx⟩: ∃x,l[k]? =some x:=⟨_,Aa h1⟩
 have hd:=zt hx;rw [hd] at hg;refine zrj ?_;refine uCo (fun h3=> ?_) fun h4=> ?_
 refine gz5 ?_;refine zC rfl ?_
 (congr 1;simp_all [zeL])
 refine gz7 ?_;refine ⟨k+1,?_,?_,⟨rfl,trivial⟩,uK,Ab _⟩
 refine ⟨by omega,?_⟩
 rw [hg,zeL,if_neg h4];rfl
 dsimp only;omega
 rw [zP uSa] at hg;refine gz2 ?_;refine zG ?_;refine gz6 ?_;refine zC rfl ?_
 (rw [hg];rfl)
theorem zH [Tracks] {l:List Str} {s:Str} (hl:l.length<=1000000000):ConP prog 10 [eSs l,.str s] (.bool (l.contains s)):=by
 refine uOb func10 ntmps10 ?_;refine gz6 ?_;refine dq (uCl ca32 rfl (zhg (by assumption))) ?_;refine gz4 ?_;refine zC rfl ?_
 congr 1;exact zl7 s l 0 uO
end
end Go.Proofs.YtahegdhbakjdoaaGreatDoor
namespace Go.HL
section
theorem getD_some {α:Type} {l:List α} {k:Nat} {d:α} (h:k<l.length):l[k]? =some (l.getD k d):=by
 simp [Aa h,List.getD]
def leS (s p:Str):Bool:=Op.bytesLess s p||s==p
structure Room where
 Teams:List Str
 Rounds:Int
 Way:Int
 Players:List Str
 Clock:Int
 Start:Int
structure Keep where
 Team:Str
 Player:Str
 Round:Int
structure Swap where
 Round:Int
 Of:Str
 Team:Str
structure Pick where
 No:Int
 Team:Str
 Player:Str
 At:Int
 Auto:Bool
structure Turn where
 round:Int
 of:Str
 team:Str
def zwI:Keep:=⟨[],[],0⟩
def zcu (l:List Str):Nat->List Str->Int
 |_,[]=>0
 |k,s::r=>if !key s then 5 else if decide (0<k)&&leS s (l.getD (k-1) []) then 7 else zcu l (k+1) r
def zgD (l:List Str):Int:=zcu l 0 l
end
end Go.HL
namespace Go.Proofs.YtahegdhbakjdoaaGreatDoor
set_option maxRecDepth 100000
set_option linter.unusedVariables false
set_option linter.unusedSimpArgs false
section
open Go.Proofs.Tryz
open Go.HL
theorem zle [Tracks] {l:List Str} (hl:l.length<=1000000):ConP prog 286 [eSs l] (.int .i64 (zgD l)):=by
 refine uOb func286 ntmps286 ?_;refine zaD ?_;refine uT1 [2,3,7,20] (fun k=>[(7,.int .i64 k)]) (fun k=>[]) (fun k=>k<=l.length/\(zgD l=zcu l k (l.drop k))) (fun k=>l.length-k) (0) ?_ ?_;exact ⟨Ad _,rfl⟩;rintro k ⟨hk,hg⟩;refine gz4 ?_;refine uCo (fun h1=> ?_) fun h2=> ?_
 obtain ⟨x,hx⟩: ∃x,l[k]? =some x:=⟨_,Aa h1⟩
 have hdx:=zt hx;rw [hdx] at hg;refine zeu ?_;refine dq (uCl zdL rfl zaH) ?_;refine gz2 ?_;refine uCo (fun h3=> ?_) fun h4=> ?_
 refine gz4 ?_;refine uRp ?_;rw [hg];simp_all [zcu,leS];refine zaD ?_;refine uGr rfl (fun hc=>by have hq:=hc;(try simp at hq);exact zK (j:=k-1) (a:=l.getD (k-1) []) zu ty9 rfl rfl uO (getD_some uO)) ?_;refine gz4 ?_;refine uCo (fun h5=> ?_) fun h6=> ?_
 refine gz4 ?_;refine uRp ?_;rw [hg];simp_all [zcu,leS];refine gz7 ?_;refine ⟨k+1,?_,?_,⟨rfl,trivial⟩,uK,Ab _⟩
 refine ⟨by omega,?_⟩
 rw [hg];simp_all [zcu,leS]
 dsimp only;omega
 have hnk:l.length<=k:=by omega
 obtain rfl:k=l.length:=by omega
 rw [zP (Af _)] at hg;refine gz2 ?_;refine zG ?_;refine gz6 ?_;refine uRp ?_;rw [hg];simp_all [zcu,leS]
end
end Go.Proofs.YtahegdhbakjdoaaGreatDoor
namespace Go.HL
section
open Op (bytesLess)
def zaj (a b:Int):Int:=if a<b then-1 else if b<a then 1 else 0
def orI:List Int->Int
 |[]=>0
 |x::r=>if x≠0 then x else orI r
abbrev zab (a b:Str):Int:=Lib.compareBytes a b
theorem zaK: ∀a:Str,bytesLess a a=false
 |[]=>rfl
 |x::r=>by simp [bytesLess,zaK r]
theorem zeN: ∀{a b c:Str},bytesLess a b=true->bytesLess b c=true->bytesLess a c=true
 |_,[],_,h,_=>by simp [bytesLess] at h
 |_,_::_,[],_,h=>by simp [bytesLess] at h
 |[],_::_,_::_,_,_=>by simp [bytesLess]
 |x::a,y::b,z::c,h1,h2=>by
   simp only [bytesLess,B9,decide_eq_true_eq,Bool.and_eq_true,beq_iff_eq] at h1 h2⊢
   rcases h1 with h1|⟨rfl,h1⟩
   rcases h2 with h2|⟨rfl,h2⟩
   exact .inl (UInt8.lt_trans h1 h2);exact .inl h1
   rcases h2 with h2|⟨rfl,h2⟩
   exact .inl h2;exact .inr ⟨rfl,zeN h1 h2⟩
theorem zcO: ∀a b:Str,bytesLess a b=true\/a=b\/bytesLess b a=true
 |[],[]=> .inr (.inl rfl)
 |[],_::_=> .inl (by simp [bytesLess])
 |_::_,[]=> .inr (.inr (by simp [bytesLess]))
 |x::a,y::b=>by
   rcases UInt8.lt_or_lt_of_ne' x y with h|h|h
   exact .inl (by simp [bytesLess,h]);subst h
   rcases zcO a b with h|h|h
   exact .inl (by simp [bytesLess,h]);exact .inr (.inl (by rw [h]));exact .inr (.inr (by simp [bytesLess,h]));exact .inr (.inr (by simp [bytesLess,h]))
where
 UInt8.lt_or_lt_of_ne' (x y:UInt8):x<y\/x=y\/y<x:=by
  rcases BK x.toNat y.toNat with h|h|h
  exact .inl (UInt8.lt_iff_toNat_lt.2 h);exact .inr (.inl (UInt8.toNat_inj.1 h));exact .inr (.inr (UInt8.lt_iff_toNat_lt.2 h))
theorem zcN {a b:Str} (h:bytesLess a b=true):bytesLess b a=false:=by
 cases h2:bytesLess b a with
 |false=>rfl
 |true=>have:=zeN h h2;rw [zaK] at this;cases this
theorem zfF: ∀a b:Str,zab a b=if bytesLess a b then-1 else if a=b then 0 else 1
 |[],[]=>rfl
 |[],_::_=>rfl
 |_::_,[]=>rfl
 |x::a,y::b=>by
   have ih:=zfF a b;simp only [zab,Lib.compareBytes] at ih⊢
   by_cases h1:x<y
   simp [bytesLess,h1]
   by_cases h2:y<x
   have hne: ¬x=y:=fun e=>by subst e;exact absurd h2 h1
   simp [bytesLess,h1,h2,hne]
   have he:x=y:=by
    rcases BK x.toNat y.toNat with h|h|h
    exact absurd (UInt8.lt_iff_toNat_lt.2 h) h1;exact UInt8.toNat_inj.1 h;exact absurd (UInt8.lt_iff_toNat_lt.2 h) h2
   subst he
   simp [bytesLess,h1,ih]
theorem zuE {i j:Nat} (h:i+j<=2000000):HVal.int .i64 (IntKind.wrap .i64 ((IntKind.wrap .u64 ((i:Int)+(j:Int))).fdiv (2^min (Int.toNat 1) (IntKind.bits .u64))))= .int .i64 (((i+j)/2:Nat):Int):=by
 have h1:IntKind.wrap .u64 ((i:Int)+(j:Int))=((i+j:Nat):Int):=by simp [IntKind.wrap,IntKind.bits,IntKind.signed];omega
 have h2:min (Int.toNat 1) (IntKind.bits .u64)=1:=by decide
 rw [h1,h2];have h3:(((i+j:Nat):Int).fdiv (2^1))=(((i+j)/2:Nat):Int):=by
  rw [Int.fdiv_eq_ediv_of_nonneg _ (by decide)];rfl
 rw [h3,zkn (by omega) (by omega)]
def SortedS (l:List Str):Prop:=List.Pairwise (fun a b=>bytesLess a b=true) l
theorem SortedS.get {l:List Str} (h:SortedS l) {i j:Nat} {a b:Str} (hij:i<j) (ha:l[i]? =some a) (hb:l[j]? =some b):bytesLess a b=true:=by
 have h1:=zx ha;have h2:=zx hb;have:=List.pairwise_iff_getElem.1 h i j h1 h2 hij;rw [Aa h1] at ha;rw [Aa h2] at hb
 simp at ha hb
 rw [<-ha,<-hb];exact this
theorem zv3 {l:List Str} (hs:SortedS l) {s x:Str} {m:Nat} (hx:l[m]? =some x) (h:Op.bytesLess x s=true): ∀(k:Nat) (y:Str),k<m+1->l[k]? =some y->Op.bytesLess y s=true:=fun k y hk hy=>by
 by_cases e:k=m
 subst e;rw [hx] at hy;cases hy;exact h;exact zeN (hs.get (by omega:k<m) hy hx) h
theorem zsX {l:List Str} (hs:SortedS l) {s x:Str} {m:Nat} (hx:l[m]? =some x) (h:Op.bytesLess x s=false): ∀(k:Nat) (y:Str),m<=k->l[k]? =some y->Op.bytesLess y s=false:=fun k y hk hy=>by
 by_cases e:k=m
 subst e;rw [hx] at hy;cases hy;exact h
 cases hq:Op.bytesLess y s with
 |false=>rfl
 |true=>have:=zeN (hs.get (by omega:m<k) hx hy) hq;rw [h] at this;cases this
theorem zu6 {l:List Str} {s:Str} {i:Nat} (b:Bool):(bif decide ((i:Int)<(l.length:Int)) then bif l.getD i []==s then true else bif false then b else false else false)=(l[i]? ==some s):=by
 by_cases h:i<l.length
 have h':(i:Int)<(l.length:Int):=by omega
 simp only [h',decide_true,cond_true,cond_false,getD_some (d:=[]) h]
 cases hb:l.getD i []==s with
 |true=>simp at hb;simp [hb]
 |false=>simp at hb;simp [hb]
 have h': ¬(i:Int)<(l.length:Int):=by omega
 simp [h',AG (by omega:l.length<=i)]
def zdC (l:List Str) (s:Str):Nat:=l.countP fun x=>bytesLess x s
theorem zmI {l:List Str} {s:Str} {i:Nat} (hi:i<=l.length) (h1: ∀(k:Nat) (x:Str),k<i->l[k]? =some x->bytesLess x s=true) (h2: ∀(k:Nat) (x:Str),i<=k->l[k]? =some x->bytesLess x s=false):
 zdC l s=i:=by
 unfold zdC;have e:l=l.take i++l.drop i:=(Bi i l).symm;rw [e,List.countP_append];have a1:(l.take i).countP (fun x=>bytesLess x s)=(l.take i).length:=by
  rw [List.countP_eq_length]
  intro x hx
  obtain ⟨k,hk,rfl⟩:=A1 hx;simp only [AC] at hk;refine h1 k _ (by omega) ?_;rw [List.getElem_take];exact Aa (by omega)
 have a2:(l.drop i).countP (fun x=>bytesLess x s)=0:=by
  rw [List.countP_eq_zero]
  intro x hx
  obtain ⟨k,hk,rfl⟩:=A1 hx
  simp at hk
  have:=h2 (i+k) (l[i+k]) (by omega) (Aa (by omega));rw [List.getElem_drop]
  simp [this]
 rw [a1,a2]
 simp;omega
theorem zrh {l:List Str} {s:Str} (hs:SortedS l) {i:Nat} (hi:i<=l.length) (h1: ∀(k:Nat) (x:Str),k<i->l[k]? =some x->bytesLess x s=true) (h2: ∀(k:Nat) (x:Str),i<=k->l[k]? =some x->bytesLess x s=false):
 (l[i]? ==some s)=l.contains s:=by
 rw [AL]
 simp
 constructor
 intro h;exact Ac h
 intro h
 obtain ⟨k,hk,rfl⟩:=A1 h;have hk':=Aa hk
 rcases BK k i with h3|h3|h3
 have:=h1 k _ h3 hk';rw [zaK] at this;cases this;subst h3;exact hk';have hii:i<l.length:=by omega
 have hlt:=hs.get h3 (Aa hii) hk';have:=h2 i _ (Af _) (Aa hii);rw [hlt] at this;cases this
def zag {α:Type} (p:α->Bool):List α->Int->Int
 |[],_=> -1
 |x::r,k=>if p x then k else zag p r (k+1)
theorem zed {α:Type} (p:α->Bool): ∀(l:List α) (k:Int),0<=k->decide (0<=zag p l k)=l.any p
 |[],k,h=>by simp [zag]
 |x::r,k,h=>by
   have ih:=zed p r (k+1) (by omega)
   by_cases hx:p x=true
   simp [zag,hx,h]
   have e1:zag p (x::r) k=zag p r (k+1):=by simp [zag,hx]
   rw [e1,ih];simp [hx]
end
end Go.HL
namespace Go.Proofs.YtahegdhbakjdoaaGreatDoor
set_option maxRecDepth 100000
set_option linter.unusedVariables false
set_option linter.unusedSimpArgs false
section
open Go.Proofs.Tryz
open Go.HL
theorem zjg [Tracks] {n:Int}:ConP prog 232 [.int .i64 n] (.bool false):=by
 refine uOb func232 ntmps232 ?_;refine zaD ?_;refine zC rfl ?_
 simp
theorem zdW [Tracks] {s:Str}:ConP prog 300 [.str s] (.bool false):=by
 refine uOb func300 ntmps300 ?_;refine zaD ?_;refine zC rfl ?_
 simp
theorem zgw [Tracks] {s:Str}:ConP prog 350 [.str s] (.bool false):=by
 refine uOb func350 ntmps350 ?_;refine zaD ?_;refine zC rfl ?_
 simp
theorem zae [Tracks] {a b:Int}:ConP prog 166 [.int .i64 a,.int .i64 b] (.int .i64 (zaj a b)):=by
 refine uOb func166 ntmps166 ?_;refine gz5 ?_;refine dq (uCl zwz rfl zjg) ?_;refine gz4 ?_;refine dq (uCl zwz rfl zjg) ?_;refine gz6 ?_;refine zd3 rfl ?_;refine gz6 ?_;refine zd3 rfl ?_;refine gz8 ?_;refine uCo (fun h1=> ?_) fun h2=> ?_
 refine gz4 ?_;refine uRp ?_;unfold zaj;(repeat' split)<;>first|rfl|omega
 refine gz8 ?_;refine uCo (fun h3=> ?_) fun h4=> ?_
 refine gz4 ?_;refine uRp ?_;unfold zaj;(repeat' split)<;>first|rfl|omega
 refine gz6 ?_;refine uRp ?_;unfold zaj;(repeat' split)<;>first|rfl|omega
theorem zbO [Tracks] {l:List Int} (hl:l.length<=1000000):ConP prog 165 [eIs l] (.int .i64 (orI l)):=by
 refine uOb func165 ntmps165 ?_;refine zfW ?_;refine uT1 [2,1,5,1,8,9] (fun k=>[(8,.int .i64 k)]) (fun k=>[]) (fun k=>k<=l.length/\(orI l=orI (l.drop k))) (fun k=>l.length-k) (0) ?_ ?_;exact ⟨Ad _,by simp_all⟩;rintro k ⟨hk,hg⟩;refine gz4 ?_;refine uCo (fun h1=> ?_) fun h2=> ?_
 obtain ⟨x,hx⟩: ∃x,l[k]? =some x:=⟨_,Aa h1⟩
 have hdx:=zt hx;rw [hdx] at hg;refine zeu ?_;refine uCo (fun h3=> ?_) fun h4=> ?_
 refine gz5 ?_;refine uRp ?_;rw [hg];simp_all [orI];refine gz7 ?_;refine ⟨k+1,?_,?_,⟨rfl,trivial⟩,uK,Ab _⟩
 refine ⟨by omega,?_⟩
 rw [hg];simp_all [orI]
 dsimp only;omega
 have hnk:l.length<=k:=by omega
 obtain rfl:k=l.length:=by omega
 rw [zP (Af _)] at hg;refine gz2 ?_;refine zG ?_;refine gz7 ?_;refine uRp ?_;rw [hg];simp_all [orI]
theorem zcS [Tracks] {l:List Int} (hl:l.length<=1000000):ConP prog 14 [eIs l] (.int .i64 (orI l)):=by
 refine uOb func14 ntmps14 ?_;refine zfW ?_;refine uT1 [2,1,5,1,8,9] (fun k=>[(8,.int .i64 k)]) (fun k=>[]) (fun k=>k<=l.length/\(orI l=orI (l.drop k))) (fun k=>l.length-k) (0) ?_ ?_;exact ⟨Ad _,by simp_all⟩;rintro k ⟨hk,hg⟩;refine gz4 ?_;refine uCo (fun h1=> ?_) fun h2=> ?_
 obtain ⟨x,hx⟩: ∃x,l[k]? =some x:=⟨_,Aa h1⟩
 have hdx:=zt hx;rw [hdx] at hg;refine zeu ?_;refine uCo (fun h3=> ?_) fun h4=> ?_
 refine gz5 ?_;refine uRp ?_;rw [hg];simp_all [orI];refine gz7 ?_;refine ⟨k+1,?_,?_,⟨rfl,trivial⟩,uK,Ab _⟩
 refine ⟨by omega,?_⟩
 rw [hg];simp_all [orI]
 dsimp only;omega
 have hnk:l.length<=k:=by omega
 obtain rfl:k=l.length:=by omega
 rw [zP (Af _)] at hg;refine gz2 ?_;refine zG ?_;refine gz7 ?_;refine uRp ?_;rw [hg];simp_all [orI]
theorem zdr [Tracks] {l:List Int} (hl:l.length<=1000000):ConP prog 81 [eIs l] (.int .i64 (orI l)):=by
 refine uOb func81 ntmps81 ?_;refine zaD ?_;refine uT1 [2,1,4,1,7,8] (fun k=>[(7,.int .i64 k)]) (fun k=>[]) (fun k=>k<=l.length/\(orI l=orI (l.drop k))) (fun k=>l.length-k) (0) ?_ ?_;exact ⟨Ad _,by simp_all⟩;rintro k ⟨hk,hg⟩;refine gz4 ?_;refine uCo (fun h1=> ?_) fun h2=> ?_
 obtain ⟨x,hx⟩: ∃x,l[k]? =some x:=⟨_,Aa h1⟩
 have hdx:=zt hx;rw [hdx] at hg;refine zfW ?_;refine uCo (fun h3=> ?_) fun h4=> ?_
 refine gz5 ?_;refine uRp ?_;rw [hg];simp_all [orI];refine gz7 ?_;refine ⟨k+1,?_,?_,⟨rfl,trivial⟩,uK,Ab _⟩
 refine ⟨by omega,?_⟩
 rw [hg];simp_all [orI]
 dsimp only;omega
 have hnk:l.length<=k:=by omega
 obtain rfl:k=l.length:=by omega
 rw [zP (Af _)] at hg;refine gz2 ?_;refine zG ?_;refine gz6 ?_;refine uRp ?_;rw [hg];simp_all [orI]
theorem zgg [Tracks] {a b:Str}:ConP prog 201 [.str a,.str b] (.int .i64 (zab a b)):=by
 refine uOb func201 ntmps201 ?_;refine gz6 ?_;refine dq (ztB func261 (by kernel_rfl) (by kernel_rfl) (by kernel_rfl) (by kernel_rfl) rfl rfl rfl) ?_;refine gz3 ?_;refine zC rfl ?_
 rfl
theorem zZ [Tracks] {a b:Str}:ConP prog 117 [.str a,.str b] (.int .i64 (zab a b)):=by
 refine uOb func117 ntmps117 ?_;refine gz6 ?_;refine dq (uCl zzn rfl zgg) ?_;refine gz3 ?_;refine zC rfl ?_
 rfl
theorem zmM [Tracks] {a b:Str}:ConP prog 294 [.str a,.str b] (.bool (Op.bytesLess a b)):=by
 refine uOb func294 ntmps294 ?_;refine gz5 ?_;refine dq (uCl zqv rfl zdW) ?_;refine gz2 ?_;refine uGr rfl (fun hc=>uCl zqv rfl zdW) ?_;refine zaD ?_;refine zC rfl ?_
 rfl
theorem zaz [Tracks] {l m:List Str} (hl:l.length<=1000000):ConP prog 20 [eSs l,eSs m] (.bool (l==m)):=by
 refine uOb func20 ntmps20 ?_;refine zc8 ?_;refine uCo (fun h1=> ?_) fun h2=> ?_
 refine gz4 ?_;refine zC rfl ?_
 show HVal.bool _=_
 (congr 1;symm;rw [beq_eq_false_iff_ne];intro h;subst h;omega)
 refine gz9 ?_;refine uT1 [4,2,13,13] (fun k=>[(13,.int .i64 k)]) (fun k=>[]) (fun k=>k<=l.length/\(l.length=m.length/\(l==m)=(l.drop k==m.drop k))) (fun k=>l.length-k) (0) ?_ ?_;refine ⟨Ad _,?_,rfl⟩
 omega
 rintro k ⟨hk,hg⟩;refine gz4 ?_;refine uCo (fun h3=> ?_) fun h4=> ?_
 obtain ⟨x,hx⟩: ∃x,l[k]? =some x:=⟨_,Aa h3⟩
 have hdx:=zt hx;obtain ⟨y,hy⟩: ∃y,m[k]? =some y:=⟨_,Aa uO⟩
 rw [hdx,zt hy] at hg;refine gz8 ?_;refine uDr mixed ?_;refine zaD ?_;refine uCo (fun h5=> ?_) fun h6=> ?_
 refine gz4 ?_;refine zC rfl ?_
 show HVal.bool _=_
 (rw [hg.2];simp_all)
 refine gz7 ?_;refine ⟨k+1,?_,?_,⟨rfl,trivial⟩,uK,Ab _⟩
 refine ⟨by omega,hg.1,?_⟩
 rw [hg.2];simp_all
 dsimp only;omega
 have hnk:l.length<=k:=by omega
 obtain rfl:k=l.length:=by omega
 rw [zP (Af _)] at hg;refine gz2 ?_;refine zG ?_;refine gz6 ?_;refine zC rfl ?_
 show HVal.bool _=_
 (rw [hg.2];simp_all)
end
end Go.Proofs.YtahegdhbakjdoaaGreatDoor
namespace Go.HL
section
def zpa (r:Room) (l:List Keep):Nat->List Str->Bool->List Keep->Int
 |_,_,tw,[]=>if tw then 6 else 0
 |k,kept,tw,x::t=>if !(r.Teams.contains x.Team)|| !(r.Players.contains x.Player) then 8 else if out x.Round 1 r.Rounds then 1
   else if decide (0<k)&&decide (orI [zab x.Team (l.getD (k-1) zwI).Team,zaj x.Round (l.getD (k-1) zwI).Round]<=0) then 7
   else zpa r l (k+1) (zdb x.Player kept) (tw||kept.contains x.Player) t
end
end Go.HL
namespace Go.Proofs.YtahegdhbakjdoaaGreatDoor
set_option maxRecDepth 100000
set_option linter.unusedVariables false
set_option linter.unusedSimpArgs false
section
open Go.Proofs.Tryz
open Go.HL
theorem zfC [Tracks] {l:List Str} {s:Str} (hl:l.length<=1000000) (hs:SortedS l):ConP prog 318 [eSs l,.str s] (.tup [.int .i64 (zdC l s),.bool (l.contains s)]):=by
 refine uOb func318 ntmps318 ?_;refine zrj ?_;refine uT2 [7,3,13,18] (fun i j=>[(7,.int .i64 i),(8,.int .i64 j)]) (fun i j=>[]) (fun i j=>i<=j/\j<=l.length/\(∀(k:Nat) (x:Str),k<i->l[k]? =some x->Op.bytesLess x s=true)/\(∀(k:Nat) (x:Str),j<=k->l[k]? =some x->Op.bytesLess x s=false)) (fun i j=>j-i) (0) (l.length) ?_ ?_;exact ⟨Ad _,Af _,fun k x h=>by omega,fun k x h1 h2=>by have:=zx h2;omega⟩;rintro i j ⟨hij,hjl,ha,hb⟩;refine gz6 ?_;refine uCo (fun h1=> ?_) fun h2=> ?_
 obtain ⟨x,hx⟩: ∃x,l[(i+j)/2]? =some x:=⟨_,Aa uO⟩
 have hm:(i+j)/2<j/\i<=(i+j)/2:=by omega
 refine gz7 ?_;refine dq (zeQ ty3 zoH rfl) ?_;refine dq (zsG rfl rfl uO) ?_;refine dq (zaq (zeQ zoH ty3 rfl) (zuE (i:=i) (j:=j) uO)) ?_;refine gz5 ?_;refine dq (zK (j:=(i+j)/2) (a:=x) zu ty9 rfl rfl rfl hx) ?_;refine gz2 ?_;refine dq (uCl zz2 rfl zmM) ?_;refine gz1 ?_;refine uCo (fun h3=> ?_) fun h4=> ?_
 refine gz6 ?_;exact ⟨(i+j)/2+1,j,⟨by omega,hjl,zv3 hs hx h3,hb⟩,uD,⟨rfl,rfl,trivial⟩,uK,Ab _⟩;refine gz5 ?_;exact ⟨i,(i+j)/2,⟨by omega,by omega,ha,zsX hs hx h4⟩,uD,⟨rfl,rfl,trivial⟩,uK,Ab _⟩;obtain rfl:i=j:=by omega
 refine gz2 ?_;refine zY ?_;refine zaD ?_;refine uGr rfl (fun hc=>by have hq:=hc;(try simp at hq);exact zK (j:=i) (a:=l.getD i []) zu ty9 rfl rfl rfl (getD_some uO)) ?_;refine gz6 ?_;refine uGr rfl (fun hc=>zK (j:=i) (a:=l.getD i []) zu ty9 rfl rfl rfl (getD_some uSa)) ?_;refine gz1 ?_;refine uGr rfl (fun hc=>uCl zwG rfl zgw) ?_;refine gz2 ?_;refine uGr rfl (fun hc=>uCl zwG rfl zgw) ?_;refine gz7 ?_;refine zC rfl ?_;rw [zmI hjl ha hb,<-zrh hs hjl ha hb,<-zu6 false]
end
end Go.Proofs.YtahegdhbakjdoaaGreatDoor
namespace Go.HL
section

end
end Go.HL
namespace Go.Proofs.YtahegdhbakjdoaaGreatDoor
set_option maxRecDepth 100000
set_option linter.unusedVariables false
set_option linter.unusedSimpArgs false
section
open Go.Proofs.Tryz
open Go.HL
theorem zay [Tracks] {l:List Str} (hl:l.length<=1000000):zsQ prog 58 [eSs l] 1 (l.map .str):=by
 refine uOb func58 ntmps58 ?_;refine gz6 ?_;refine de rfl (zpA zu rfl rfl fun b4 hb4=> ?_)
 refine gz1 ?_;refine uCo (fun h1=> ?_) fun h2=> ?_
 refine gz4 ?_;exact zB (zQ 1) rfl ⟨_,rfl,by simp_all⟩;refine gz3 ?_;refine de rfl (zsh zu ty9 fun v5=> ?_)
 refine gz1 ?_;refine de rfl (zN (i:=0) zu ty9 rfl rfl rfl rfl rfl (by simp [zal,zd]) uSo fun v7=> ?_)
 refine gz3 ?_;exact ztD rfl rfl
end
end Go.Proofs.YtahegdhbakjdoaaGreatDoor
namespace Go.HL
section

end
end Go.HL
namespace Go.Proofs.YtahegdhbakjdoaaGreatDoor
set_option maxRecDepth 100000
set_option linter.unusedVariables false
set_option linter.unusedSimpArgs false
section
open Go.HL
set_option linter.unusedSimpArgs false
end
end Go.Proofs.YtahegdhbakjdoaaGreatDoor
namespace Go.HL
section
def asciiSet (l:List UInt8):List HVal:=(List.range 256).map fun i=> .bool (l.contains (UInt8.ofNat i))
theorem zdq (l:List UInt8):(asciiSet l).length=256:=by simp [asciiSet]
theorem zlx (l:List UInt8) (c:UInt8):(asciiSet l)[c.toNat]? =some (.bool (l.contains c)):=by
 have:=c.toNat_lt
 simp [asciiSet,BE,this]
theorem zoa {α:Type} (f:α->Bool): ∀l:List α,zal (l.map fun i=> .bool (f i))=true
 |[]=>rfl
 |x::l=>by simp only [Ao,zal];exact zoa f l
theorem zqf (l:List UInt8):zal (asciiSet l)=true:=zoa _ _
theorem zqW (l:List UInt8) (c:UInt8):zaE (asciiSet l) (0+c.toNat*1) [.bool true]=asciiSet (l++[c]):=by
 have hc:=c.toNat_lt;have hl:0+c.toNat*1=c.toNat:=by omega
 rw [hl]
 apply List.ext_getElem?
 intro i
 have hlen:=zdq l;simp only [zaE,B6]
 by_cases hi:i<c.toNat
 rw [Ar (by simp;omega),Ar (by simp [hlen];omega),AI hi];have h256:i<256:=by omega
 have hne:UInt8.ofNat i≠c:=fun h=>by
  have:=congrArg UInt8.toNat h;rw [UInt8.toNat_ofNat_of_lt' (by simpa [UInt8.size] using h256)] at this;omega
 simp [asciiSet,BE,h256,hne]
 by_cases he:i=c.toNat
 subst he;rw [Ar (by simp [hlen];omega),An (by simp [hlen];omega)];rw [zlx]
 simp [hlen,Ce (Nat.le_of_lt hc)]
 rw [An (by simp [hlen];omega),AH];have e1:c.toNat+1+(i-((asciiSet l).take c.toNat++[HVal.bool true]).length)=i:=by simp [hlen];omega
 rw [e1]
 by_cases h256:i<256
 have hne:UInt8.ofNat i≠c:=fun h=>by
  have:=congrArg UInt8.toNat h;rw [UInt8.toNat_ofNat_of_lt' (by simpa [UInt8.size] using h256)] at this;omega
 simp [asciiSet,BE,h256,hne]
 rw [AG (by rw [zdq];omega),AG (by rw [zdq];omega)]
def zdf (p:UInt8->Bool) (s:Str):Str:=(s.reverse.dropWhile p).reverse
theorem zfL (p:UInt8->Bool) (s:Str) (c:UInt8):zdf p (s++[c])=if p c then zdf p s else s++[c]:=by
 unfold zdf;rw [List.reverse_append];simp only [List.reverse_cons,List.reverse_nil,Bk,Bs,A6]
 split<;>simp
theorem zuf (p:UInt8->Bool): ∀s:Str,(s.dropWhile p).length<=s.length
 |[]=>Af _
 |x::s=>by
   rw [A6]
   split
   exact Nat.le_succ_of_le (zuf p s);exact Af _
theorem zp2 (p:UInt8->Bool) (s:Str):(zdf p s).length<=s.length:=by
 unfold zdf;rw [List.length_reverse];have:=zuf p s.reverse
 rwa [List.length_reverse] at this
theorem zug (p:UInt8->Bool): ∀s:Str,s.dropWhile p=[]->∀c∈s,p c=true
 |[],_,c,h=>by cases h
 |x::s,h,c,hc=>by
   rw [A6] at h
   by_cases hx:p x=true
   rw [if_pos hx] at h
   rcases List.mem_cons.1 hc with rfl|hc
   exact hx;exact zug p s h c hc;rw [if_neg hx] at h;cases h
theorem zvY (p:UInt8->Bool) (s:Str):((zdf p s).dropWhile p==[])=s.all p:=by
 induction s using List.reverseRecOn' with
 |nil=>rfl
 |snoc s c ih=>
   rw [zfL]
   by_cases hc:p c=true
   rw [if_pos hc,ih];simp [hc];rw [if_neg hc];have:(s++[c]).all p=false:=by simp [hc]
   rw [this]
   cases hd:(s++[c]).dropWhile p with
   |nil=>exact absurd (zug _ _ hd c (by simp)) hc
   |cons _ _=>rfl
where
 List.reverseRecOn' {motive:Str->Prop} (nil:motive []) (snoc: ∀s c,motive s->motive (s++[c])) (l:Str):motive l:=by
  have: ∀n (l:Str),l.length=n->motive l:=by
   intro n
   induction n with
   |zero=>intro l h;rw [List.length_eq_zero_iff.1 h];exact nil
   |succ n ih=>
     intro l h
     have hne:l≠[]:=fun h0=>by subst h0;simp at h
     rw [<-Bm hne];exact snoc _ _ (ih _ (by simp [h]))
  exact this l.length l rfl
def zgc:Str:=[97,98,99,100,101,102,103,104,105,106,107,108,109,110,111,112,113,114,115,116,117,118,119,120,121,122,48,49,50,51,52,53,54,55,56,57,45,95]
def ziu:Str:=[97,98,99,100,101,102,103,104,105,106,107,108,109,110,111,112,113,114,115,116,117,118,119,120,121,122]
theorem zqT {p:UInt8->Bool} (h:(List.range 256).all (fun i=>p (UInt8.ofNat i))=true) (c:UInt8):p c=true:=by
 have:=List.all_eq_true.1 h c.toNat (List.mem_range.2 c.toNat_lt)
 simpa using this
theorem zve (c:UInt8):zgc.contains c=zgd c:=by
 have:=zqT (p:=fun c=>zgc.contains c==zgd c) (by kernel_rfl) c
 simpa using this
theorem zoE (c:UInt8):decide (0<=Lib.indexByte ziu c)=(decide (97<=c.toNat)&&decide (c.toNat<=122)):=by
 have:=zqT (p:=fun c=>decide (0<=Lib.indexByte ziu c)==(decide (97<=c.toNat)&&decide (c.toNat<=122))) (by kernel_rfl) c
 simpa using this
theorem zxi (s:Str):key s=((!(out s.length 1 40)&&((zdf (zgc.contains ·) s).dropWhile (zgc.contains ·)==[]))&&decide (0<=Lib.indexByte ziu (s.headD 0))):=by
 rw [zvY,zoE];have:(fun x=>zgc.contains x)=zgd:=funext zve;rw [this];unfold key zjp
 cases s with
 |nil=>simp [out]
 |cons x r=>
   simp only [List.headD_cons];have h1:(!(out ((x::r).length:Int) 1 40))=decide ((x::r).length<=40):=by
    simp only [out,Ah];rw [AL];simp;omega
   rw [h1];have h2:((x::r) !=[])=true:=rfl;rw [h2];have hb: ∀a b c d:Bool,(true&&a&&c&&d&&b)=(a&&b&&(c&&d)):=by decide
   exact hb _ _ _ _
theorem ztw (n:Int):(if out n 0 345686399999 then (1:Int) else 0)=if zL n then 0 else 1:=by
 have:out n 0 345686399999= !(zL n):=by
  simp only [out,zL];rw [AL];simp;try omega
 rw [this];cases zL n<;>rfl
end
end Go.HL
namespace Go.Proofs.YtahegdhbakjdoaaGreatDoor
set_option maxRecDepth 100000
set_option linter.unusedVariables false
set_option linter.unusedSimpArgs false
section
open Go.Proofs.Tryz
open Go.HL
theorem zjN [Tracks] {l:Str} (hl:l.length<=1000000) (ha: ∀c∈l,c.toNat<128):ConP prog 272 [.str l] (.tup [.agg (asciiSet l),.bool true]):=by
 refine zbz func272 rfl ntmps272 rfl rfl ?_;refine gz1 ?_;refine de rfl (zq zjy rfl fun b2=> ?_)
 refine gz7 ?_;refine uV1 [3,17] (fun (k:Nat)=>[(4,.int .i64 k)]) (fun (k:Nat)=>[.cells b2 (asciiSet (l.take k))]) (fun (k:Nat)=>k<=l.length/\(True)) (fun (k:Nat)=>l.length-k) (0) ?_ ?_ ?_ ?_;exact ⟨Ad _,by simp_all⟩;exact ⟨rfl,trivial⟩;exact zg rfl
 intro k hinv
 obtain ⟨hk,-⟩:=hinv;refine gz7 ?_;refine uCo (fun h1=> ?_) fun h2=> ?_
 obtain ⟨x,hx⟩: ∃x,l[k]? =some x:=⟨_,Aa h1⟩
 have hdx:=zt hx;have hc:=ha x (Ac hx);refine gz7 ?_;refine dq (zaT ty9 rfl rfl rfl (by assumption)) ?_;refine gz7 ?_;refine za3 rfl (fun h3=> ?_) (fun h3=> ?_)
 exfalso
 try simp at h3
 omega
 try simp at h3
 refine gz4 ?_;refine dq (zrz zjy ty4 rfl rfl rfl uO) ?_;refine de0 (zeC (i:=0) ty4 rfl rfl rfl rfl rfl (by rw [zdq];omega) ?_)
 refine gz8 ?_;refine ⟨k+1,?_,?_,⟨rfl,trivial⟩,uK,zg (by show [MObj.cells b2 (zaE _ (0+x.toNat*1) [.bool true])]=_;rw [zqW];dsimp only;rw [List.take_add_one,hx];rfl)⟩
 exact ⟨by omega,trivial⟩
 dsimp only;omega
 have hnk:l.length<=k:=by omega
 obtain rfl:k=l.length:=by omega
 refine gz2 ?_;refine zG ?_;refine gz2 ?_;refine zl (zcI (M':=[.cells b2 (asciiSet l)]) (by rw [Aw])) ?_;refine gz1 ?_;refine de rfl (zdl (i:=0) (h:= .agg (asciiSet l)) zjy rfl rfl rfl rfl (zdq l) ?_)
 refine de0 (zz (h:= .agg (asciiSet l)) zjy rfl rfl (by simp [zd5,zdq]) (zqf l) (zdq l) ?_)
 refine gz3 ?_;refine ⟨_,_,zD 2 rfl,[_,_],_,⟨⟨_,_,_,_,_,rfl,zjy,.inr ⟨rfl,rfl,rfl⟩⟩,⟨rfl,trivial⟩⟩,Weak.refl _,?_,rfl⟩
 rfl
theorem zeA [Tracks] {l:Str} {c:UInt8}:ConP prog 312 [.vptr (asciiSet l) 0,.int .u8 c.toNat] (.bool (l.contains c)):=by
 have hc:=c.toNat_lt;refine uOb func312 ntmps312 ?_;refine gz7 ?_;refine dq (zvJ zjy ty4 rfl rfl rfl uO) ?_;refine dq (zU ty4 rfl rfl (by rw [show 0+c.toNat*1=c.toNat from by omega];exact zlx l c)) ?_;refine gz3 ?_;refine zC rfl ?_
 rfl
theorem zi9 [Tracks] {s l:Str} (hl:s.length<=1000000):ConP prog 273 [.str s,.vptr (asciiSet l) 0] (.str (s.dropWhile (l.contains ·))):=by
 refine uOb func273 ntmps273 ?_;refine gz5 ?_;refine uU1 [0,1,5,10] (fun (t:Str)=>[(0,.str t)]) (fun (t:Str)=>[]) (fun (t:Str)=>t.length<=s.length/\s.dropWhile (l.contains ·)=t.dropWhile (l.contains ·)) (fun (t:Str)=>t.length) (s) ?_ ?_;exact ⟨Af _,rfl⟩;rintro t ⟨ht,hg⟩;refine gz6 ?_;refine uCo (fun h1=> ?_) fun h2=> ?_
 obtain ⟨x,u,rfl⟩: ∃x u,t=x::u:=by cases t with|nil=>simp at h1|cons x u=>exact ⟨x,u,rfl⟩
 have hlen:(x::u).length=u.length+1:=rfl;refine gz7 ?_;refine dq (zaT (j:=0) (b:=x) ty9 rfl rfl rfl rfl) ?_;refine dq (uCl zwF rfl zeA) ?_;refine gz2 ?_;refine uCo (fun h3=> ?_) fun h4=> ?_
 refine gz3 ?_;refine zG ?_;refine gz7 ?_;refine zC rfl ?_
 show HVal.str _=_
 rw [hg];simp_all [A6];refine gz4 ?_;refine dq (zg3 (l:=1) ty9 rfl ⟨_,_,rfl,rfl⟩ rfl uO uO) ?_;refine gz3 ?_;refine ⟨_,?_,?_,⟨rfl,trivial⟩,uK,Ab _⟩
 refine ⟨by simp at ht⊢;omega,?_⟩
 rw [hg];simp_all [A6]
 dsimp only;simp
 obtain rfl:t=[]:=by simpa using h2
 refine gz2 ?_;refine zG ?_;refine gz7 ?_;refine zC rfl ?_
 show HVal.str _=_
 rw [hg];simp_all [A6]
theorem ziK [Tracks] {s l:Str} (hl:s.length<=1000000):ConP prog 274 [.str s,.vptr (asciiSet l) 0] (.str (zdf (l.contains ·) s)):=by
 refine uOb func274 ntmps274 ?_;refine gz5 ?_;refine uU1 [0,1,5,16] (fun (t:Str)=>[(0,.str t)]) (fun (t:Str)=>[]) (fun (t:Str)=>t.length<=s.length/\zdf (l.contains ·) s=zdf (l.contains ·) t) (fun (t:Str)=>t.length) (s) ?_ ?_;exact ⟨Af _,rfl⟩;rintro t ⟨ht,hg⟩;refine gz6 ?_;refine uCo (fun h1=> ?_) fun h2=> ?_
 obtain ⟨u,x,rfl⟩: ∃u x,t=u++[x]:=⟨_,_,(Bm (by intro h0;subst h0;simp at h1)).symm⟩
 have hlen:(u++[x]).length=u.length+1:=by simp
 refine zaD ?_;refine dq (zaT (j:=u.length) (b:=x) ty9 rfl rfl uO (by simp)) ?_;refine dq (uCl zwF rfl zeA) ?_;refine gz2 ?_;refine uCo (fun h3=> ?_) fun h4=> ?_
 refine gz3 ?_;refine zG ?_;refine gz7 ?_;refine zC rfl ?_
 show HVal.str _=_
 rw [hg];first|rfl|(rw [zfL,if_neg uSa])
 refine gz7 ?_;refine dq (zg3 (l:=0) (h:=u.length) ty9 rfl rfl ⟨_,_,rfl,by omega⟩ uO uO) ?_;refine gz3 ?_;refine ⟨_,?_,?_,⟨rfl,trivial⟩,uK,Ab _⟩
 refine ⟨by simp at ht⊢;omega,?_⟩
 rw [hg,zfL,if_pos uSa];simp
 dsimp only;simp
 obtain rfl:t=[]:=by simpa using h2
 refine gz2 ?_;refine zG ?_;refine gz7 ?_;refine zC rfl ?_
 show HVal.str _=_
 rw [hg];first|rfl|(rw [zfL,if_neg uSa])
theorem zoZ [Tracks] {s l:Str} (hs:s.length<=1000000) (hl:l.length<=1000000) (h2l:2<=l.length) (ha: ∀c∈l,c.toNat<128):ConP prog 216 [.str s,.str l] (.str ((zdf (l.contains ·) s).dropWhile (l.contains ·))):=by
 refine uOb func216 ntmps216 ?_;refine zfq ?_;refine uCo (fun h1=> ?_) fun h2=> ?_
 refine gz5 ?_;refine zC rfl ?_
 show HVal.str _=_
 focus (rcases h1 with rfl|rfl<;>first|(simp at h2l;done)|(simp [zdf];done))
 refine gz9 ?_;refine uGr rfl (fun hc=>zaT (j:=0) (b:=l.headD 0) ty9 rfl rfl rfl (hd0 (by intro h0;subst h0;simp at h2l))) ?_;refine gz3 ?_;refine za3 rfl (fun h3=> ?_) (fun h3=> ?_)
 exfalso
 try simp at h3
 omega
 try simp at h3
 refine gz5 ?_;refine dq (uCl zzU rfl (zjN (by assumption) (by assumption))) ?_;refine gz3 ?_;refine de rfl (zq zjy rfl fun b5=> ?_)
 refine de0 (zz zjy rfl rfl rfl rfl rfl ?_)
 refine gz2 ?_;refine zl (zD 5 rfl) ?_;refine gz3 ?_;refine zpK rfl ?_;refine gz2 ?_;refine dq (uCl zzW rfl (ziK (by assumption))) ?_;refine dq (uCl zzV rfl (zi9 (Ax (zp2 _ _) hs))) ?_;refine gz3 ?_;refine zC rfl ?_
 show HVal.str _=_
 rfl
theorem zgh [Tracks] {s:Str} {c:Int}:ConP prog 277 [.str s,.int .u8 c] (.int .i64 (Lib.indexByte s c.toNat.toUInt8)):=by
 refine uOb func277 ntmps277 ?_;refine gz6 ?_;refine dq (zqr func316 (by kernel_rfl) (by kernel_rfl) (by kernel_rfl) (by kernel_rfl) rfl rfl rfl) ?_;refine gz3 ?_;refine zC rfl ?_
 rfl
theorem zhc [Tracks] {s:Str} {c:Int}:ConP prog 217 [.str s,.int .u8 c] (.int .i64 (Lib.indexByte s c.toNat.toUInt8)):=by
 refine uOb func217 ntmps217 ?_;refine gz6 ?_;refine dq (uCl zzX rfl zgh) ?_;refine gz3 ?_;refine zC rfl ?_
 rfl
theorem zcD [Tracks] {n lo hi:Int}:ConP prog 90 [.int .i64 n,.int .i64 lo,.int .i64 hi] (.bool (!(out n lo hi))):=by
 refine uOb func90 ntmps90 ?_;refine zkO ?_;refine zC rfl ?_
 show HVal.bool _=_
 congr 1;simp [out];rw [AL];simp;try omega
theorem zbH [Tracks] {s:Str} (hs:s.length<=1000000):ConP prog 138 [.str s] (.bool (key s)):=by
 refine uOb func138 ntmps138 ?_;refine gz6 ?_;refine dq (uCl znn rfl zcD) ?_;refine gz2 ?_;refine uGr rfl (fun hc=>uCl zww rfl (zoZ (l:=zgc) hs (by decide) (by decide) (by decide))) ?_;refine gz4 ?_;refine uGr rfl (fun hc=>zaT (j:=0) (b:=s.headD 0) ty9 rfl rfl rfl (hd0 (by rintro rfl;simp [out] at hc))) ?_;refine uGr rfl (fun hc=>uCl zwx rfl zhc) ?_;refine gz5 ?_;refine zC rfl ?_
 show HVal.bool _=_
 rw [zxi]
 simp [zgc,ziu]
theorem zgq [Tracks] {n lo hi:Int}:ConP prog 39 [.int .i64 n,.int .i64 lo,.int .i64 hi] (.int .i64 (if out n lo hi then 1 else 0)):=by
 refine uOb func39 ntmps39 ?_;refine gz8 ?_;refine dq (uCl znn rfl zcD) ?_;refine gz2 ?_;refine uCo (fun h1=> ?_) fun h2=> ?_
 refine gz4 ?_;refine uRp ?_
 simp_all
 refine gz6 ?_;refine uRp ?_
 simp_all
theorem zbt [Tracks] {n:Int}:ConP prog 15 [.int .i64 n] (.int .i64 (if zL n then 0 else 1)):=by
 refine uOb func15 ntmps15 ?_;refine gz5 ?_;refine dq (uCl ca39 rfl zgq) ?_;refine gz3 ?_;refine uRp ?_;rw [ztw]
end
end Go.Proofs.YtahegdhbakjdoaaGreatDoor
namespace Go.HL
section

end
section
open Op (bytesLess)
theorem zjk (a b:Int):zaj a b= -zaj b a:=by
 unfold zaj;split<;>split<;>(try split)<;>omega
theorem zeB (a b:Str):zab a b= -zab b a:=by
 rw [zfF,zfF]
 rcases zcO a b with h|h|h
 have hne:a≠b:=fun e=>by subst e;rw [zaK] at h;cases h
 simp [h,zcN h,hne.symm]
 subst h;simp [zaK];have hne:a≠b:=fun e=>by subst e;rw [zaK] at h;cases h
 simp [h,zcN h,hne]
theorem zrx (a b:Int):orI [-a,-b]= -orI [a,b]:=by
 by_cases h1:a=0<;>by_cases h2:b=0<;>simp [orI,h1,h2]
end
section
section
variable {α:Type} (c:α->α->Int)
def zkQ (x:α):List α->List α
 |[]=>[x]
 |y::t=>if c x y<0 then y::zkQ x t else x::y::t
def zdM (x:α) (S:List α):List α:=(zkQ c x S.reverse).reverse
def zaQ (l:List α):List α:=l.foldl (fun S x=>zdM c x S) []
theorem zvt (x:α):zdM c x []=[x]:=rfl
theorem zpS (x y:α) (S:List α):zdM c x (S++[y])=if c x y<0 then zdM c x S++[y] else S++[y,x]:=by
 unfold zdM;rw [List.reverse_append];simp only [List.reverse_cons,List.reverse_nil,Bk,Bs,zkQ]
 split<;>simp
theorem zoj (l:List α) (x:α):zaQ c (l++[x])=zdM c x (zaQ c l):=by simp [zaQ,List.foldl_append]
theorem zl8 (x:α): ∀l,(zkQ c x l).Perm (x::l)
 |[]=> .refl _
 |y::t=>by
   simp only [zkQ];split
   ·exact ((zl8 x t).cons y).trans (.swap _ _ _)
   ·exact .refl _
theorem zuu (x:α) (S:List α):(zdM c x S).Perm (x::S):=by
 unfold zdM;exact (List.reverse_perm _).trans ((zl8 c x _).trans ((List.reverse_perm S).cons x))
theorem zob: ∀(l S:List α),(l.foldl (fun S x=>zdM c x S) S).Perm (S++l)
 |[],S=>by simp
 |x::l,S=>by
   simp only [Cb];refine (zob l _).trans ?_;refine ((zuu c x S).append_right l).trans ?_;exact (BO (a:=x) (l₁:=S) (l₂:=l)).symm
theorem zb5 (l:List α):(zaQ c l).Perm l:=by
 have:=zob c l []
 simpa [zaQ] using this
theorem zdm (l:List α):(zaQ c l).length=l.length:=(zb5 c l).length_eq
theorem zuv {l:List α} {x:α}:x∈zaQ c l↔x∈l:=(zb5 c l).mem_iff
structure Cmp (s:α->Prop):Prop where
 flip: ∀x y,s x->s y->(c x y<0↔0<c y x)
 trans: ∀x y z,s x->s y->s z->c x y<=0->c y z<=0->c x z<=0
variable {c}
theorem zm1 {s:α->Prop} (hc:Cmp c s) {x:α} (hx:s x): ∀{l:List α},(∀y∈l,s y)->l.Pairwise (fun a b=>c b a<=0)->(zkQ c x l).Pairwise (fun a b=>c b a<=0)
 |[],_,_=>by simp [zkQ]
 |y::t,hs,hp=>by
   have hy:=hs y (by simp);have ht: ∀z∈t,s z:=fun z hz=>hs z (Ap _ hz)
   obtain ⟨h1,h2⟩:=List.pairwise_cons.1 hp;simp only [zkQ]
   split
   rename_i hlt
   refine List.pairwise_cons.2 ⟨fun z hz=> ?_,zm1 hc hx ht h2⟩
   rcases List.mem_cons.1 ((zl8 c x t).mem_iff.1 hz) with rfl|hz
   omega
   exact h1 z hz
   rename_i hge
   have hyx:c y x<=0:=by
    have:=(hc.flip x y hx hy)
    omega
   refine List.pairwise_cons.2 ⟨fun z hz=> ?_,hp⟩
   rcases List.mem_cons.1 hz with rfl|hz
   exact hyx;exact hc.trans z y x (ht z hz) hy hx (h1 z hz) hyx
theorem zr4 {s:α->Prop} (hc:Cmp c s) {x:α} (hx:s x) {l:List α} (hs: ∀y∈l,s y) (hp:l.Pairwise (fun a b=>c a b<=0)):(zdM c x l).Pairwise (fun a b=>c a b<=0):=by
 unfold zdM;rw [List.pairwise_reverse];exact zm1 hc hx (fun y hy=>hs y (List.mem_reverse.1 hy)) (List.pairwise_reverse.2 hp)
theorem ziU {s:α->Prop} (hc:Cmp c s) {l:List α} (hs: ∀y∈l,s y):(zaQ c l).Pairwise (fun a b=>c a b<=0):=by
 have key: ∀(n:Nat),n<=l.length->(zaQ c (l.take n)).Pairwise (fun a b=>c a b<=0):=by
  intro n
  induction n with
  |zero=>intro _;simp [zaQ]
  |succ n ih=>
    intro hn
    have hx:=Aa (l:=l) (i:=n) (by omega);rw [za1 hx,zoj];exact zr4 hc (hs _ (Ac hx)) (fun y hy=>hs y (AZ ((zb5 c _).mem_iff.1 hy))) (ih (by omega))
 have:=key l.length (Af _)
 rwa [Aw] at this
end
end
section
abbrev pAt (b:Nat):HVal:= .raw (.pointer (some ⟨b,0,none⟩))
abbrev St (b:Nat) (l:List Int) (a:Nat):MObj:= .cells b [.slice 1 (l.map (.int .i64)),.int .i64 (a:Int)]
def below (x n:Int):Int:=if n<1 then 0 else if x.tmod n<0 then x.tmod n+n else x.tmod n
theorem zly (x n:Int): ∃y:Nat,below x n=(y:Int)/\(y:Int)<max n 1:=by
 have h:0<=below x n/\below x n<max n 1:=by
  unfold below
  split
  omega
  have h1:=BV x (show 0<n by omega);have h2: -n<x.tmod n:=by
   have:=Int.neg_lt_tmod_of_pos' x n (by omega);exact this
  split<;>omega
 exact ⟨(below x n).toNat,by omega,by omega⟩
where
 Int.neg_lt_tmod_of_pos' (x n:Int) (h:0<n): -n<x.tmod n:=by
  rcases Int.le_total 0 x with hx|hx
  have:=Int.tmod_nonneg n hx;omega;have e:x.tmod n= -((-x).tmod n):=by rw [Int.neg_tmod];simp
  have:=BV (-x) h
  omega
theorem getI {L:List Int} {y:Nat} (h:(y:Int)<max (L.length:Int) 1) (h0:0<L.length): ∃z,L[y]? =some z/\z∈L:=
 ⟨L[y]'(by omega),Aa _,BA _⟩
theorem getS {L:List Str} {y:Nat} (h:(y:Int)<max (L.length:Int) 1) (h0:0<L.length): ∃z,L[y]? =some z/\z∈L:=
 ⟨L[y]'(by omega),Aa _,BA _⟩
theorem zrT (a b:Nat):((a:Int)).tmod (b:Int)=((a%b:Nat):Int):=by
 exact (Int.ofNat_tmod a b).symm
end
section

end
section
open Op (bytesLess)
theorem zrM (l:List Str):(zfe l).Pairwise (fun x y=>x<=y):=by
 have:=List.pairwise_mergeSort (le:=fun x y:Str=>decide (x<=y)) (fun a b c h1 h2=>by
  simp only [decide_eq_true_eq] at*;exact List.le_trans h1 h2) (fun a b=>by
  simp only [B9,decide_eq_true_eq];exact List.le_total a b) l
 exact this.imp (fun h=>by simpa using h)
end
section
def Sh (s:Str):Prop:=s.length<=1000000
structure KLs where
 u:Value
 out:List Keep
 lv:Value
 left:List Str
 a:Nat
structure KLok (n a:Nat) (q:KLs):Prop where
 out:q.out.length<=n
 left:q.left.length<=20
 ls: ∀s∈q.left,Sh s
 os: ∀x∈q.out,Sh x.Team/\Sh x.Player
 a:q.a<=a+2*n
theorem KLok.add {n a:Nat} {u u' lv lv':Value} {out:List Keep} {left:List Str} {a1 a2 k:Nat} {t p:Str} {rd:Int} (h:KLok n a ⟨u,out,lv,left,a1⟩) (h1:a2<=a1+2) (ht:Sh t) (hp:left[k]? =some p):
 KLok (n+1) a ⟨u',out++[⟨t,p,rd⟩],lv',left.eraseIdx k,a2⟩:=
 ⟨by have:=h.out;simp at*;omega,by have:=h.left;have:=List.length_eraseIdx_le left k;dsimp only at*;omega,fun s hs=>h.ls s (List.mem_of_mem_eraseIdx hs),fun x hx=>by
  rcases List.mem_append.1 hx with hx|hx
  exact h.os x hx
  simp at hx;subst hx;exact ⟨ht,h.ls p (Ac hp)⟩,by have:=h.a;dsimp only at*;omega⟩
theorem zaL {α:Type} {l:List α} {j:Nat} {x y:α} (h:l[j]? =some y):(l.set j x)[j]? =some x:=by
 rw [B1 (zx h)]
theorem zbl {α β:Type} {f:α->β} {l:List α} {j:Nat} {x:α} (h:l[j]? =some x):(l.map f)[j]? =some (f x):=by
 rw [Aj,h];rfl
theorem ztv {α:Type} {l:List α} {j:Nat} {x y:α} (h:x∈l.set j y):x=y\/x∈l:=by
 rcases BT h with h|h
 exact .inr h;exact .inl h
structure SLs where
 u:Value
 out:List Swap
 row:List Str
 a:Nat
structure SLok (n a:Nat) (q:SLs):Prop where
 out:q.out.length<=n
 row:q.row.length<=4
 rs: ∀s∈q.row,Sh s
 os: ∀x∈q.out,Sh x.Of/\Sh x.Team
 a:q.a<=a+2*n
theorem SLok.mono {n m a:Nat} {q:SLs} (h:SLok n a q) (hm:n<=m):SLok m a q:=
 ⟨by have:=h.out;omega,h.row,h.rs,h.os,by have:=h.a;omega⟩
theorem KLok.mono {n m a:Nat} {q:KLs} (h:KLok n a q) (hm:n<=m):KLok m a q:=
 ⟨by have:=h.out;omega,h.left,h.ls,h.os,by have:=h.a;omega⟩
theorem SLok.add {n a:Nat} {u u':Value} {out:List Swap} {row:List Str} {a1 a2:Nat} {t p:Str} {rd:Int} (h:SLok n a ⟨u,out,row,a1⟩) (h1:a2<=a1+2) (ht:Sh t) (hp:Sh p):
 SLok (n+1) a ⟨u',out++[⟨rd,t,p⟩],row,a2⟩:=
 ⟨by have:=h.out;simp at*;omega,h.row,h.rs,fun x hx=>by
  rcases List.mem_append.1 hx with hx|hx
  exact h.os x hx
  simp at hx;subst hx;exact ⟨ht,hp⟩,by have:=h.a;dsimp only at*;omega⟩
end
section
open Op (bytesLess)
structure Asset where
 Player:Str
 Position:Str
 Value:Int
structure Place where
 Position:Str
 Many:Int
def ztX:Asset:=⟨[],[],0⟩
def zwT (a b:Asset):Int:=orI [zaj b.Value a.Value,zab a.Player b.Player]
def zyw (l:List Asset) (pos:Str):List Asset:=l.filter (fun x=>x.Position==pos)
def ofP (l:List Asset) (pos:Str):List Asset:=zaQ zwT (zyw l pos)
def zxX (o:List Asset) (many:Int):List Asset:=(o.take (min many o.length).toNat).filter (fun y=>decide (0<y.Value))
def zvh (of:Str->List Asset) (p:List Place):List Asset:=p.flatMap fun x=>zxX (of x.Position) x.Many
def sumV (l:List Asset):Int:=(l.map (·.Value)).sum
end
section
open Op (bytesLess)
theorem zmB {a b:Str}:zab a b<=0↔bytesLess b a=false:=by
 rw [zfF]
 rcases zcO a b with h|h|h
 simp [h,zcN h]
 subst h;simp [zaK];have hne:a≠b:=fun e=>by subst e;rw [zaK] at h;cases h
 simp [h,zcN h,hne]
theorem zcz {a b:Str}:zab a b=0↔a=b:=by
 rw [zfF]
 rcases zcO a b with h|h|h
 have hne:a≠b:=fun e=>by subst e;rw [zaK] at h;cases h
 simp [h,hne]
 subst h;simp [zaK];have hne:a≠b:=fun e=>by subst e;rw [zaK] at h;cases h
 simp [zcN h,hne]
theorem zgQ {a b c:Str} (h1:zab a b<=0) (h2:zab b c<=0):zab a c<=0:=by
 rw [zmB] at*
 rcases zcO a b with h|h|h
 rcases zcO b c with h'|h'|h'
 exact zcN (zeN h h');subst h';exact zcN h;rw [h'] at h2;cases h2;subst h;exact h2;rw [h] at h1;cases h1
theorem zfX (a b:Int):orI [a,b]=if a≠0 then a else b:=by
 simp only [orI]
 by_cases ha:a=0<;>by_cases hb:b=0<;>simp [ha,hb]
theorem zo2 {a b:Int}:zaj a b<=0↔a<=b:=by unfold zaj;split<;>(try split)<;>omega
theorem zdk {a b:Int}:zaj a b=0↔a=b:=by unfold zaj;split<;>(try split)<;>omega
end
section
variable {P:Program}
section
variable {P:Program} {e:Env} {dst:Option Tmp} {ty:TypeId} {pos:String} {af:Array Edge} {g:Option (Nat×Bool)} {M:List MObj} {K:HVal->List MObj->Prop}
theorem zao [Tracks] {α:Type} {f:α->HVal} {x:Operand} {t:TypeId} {d:TD} {size bytes:Nat} {zero:Value} {i b off cap n sz j o:Nat} {es:List α} {y:α} (hf:Fits P t d size bytes zero)
 (hx:zh e x=some (.raw (.pointer (some ⟨b,o,none⟩)))) (ho':o=off+j*sz) (hm:M[i]? =some (.arr (.slice (some ⟨b,off,none⟩) n cap) sz (es.map f))) (hj:es[j]? =some y)
 (hd:d.isAgg=true) (hs:size=(zd (f y)).length) (hv:f y= .agg (zd (f y))) (hk:K (f y) M):EOp P e M ⟨dst,.load t x,ty,pos,af,g⟩ K:=
 zl0 (j:=j) (f:=0) (y:=f y) hf hx (by omega) hm (by rw [Aj,hj];rfl) (.inr ⟨hd,by omega,by rw [List.drop_zero,hs,Aw];exact hv⟩) hk
theorem zbh [Tracks] {α:Type} {f:α->HVal} {x z:Operand} {t:TypeId} {d:TD} {size bytes:Nat} {zero:Value} {i b off cap n sz j o:Nat} {es:List α} {y y':α} (hf:Fits P t d size bytes zero)
 (hx:zh e x=some (.raw (.pointer (some ⟨b,o,none⟩)))) (ho':o=off+j*sz) (hz:zh e z=some (f y')) (hm:M[i]? =some (.arr (.slice (some ⟨b,off,none⟩) n cap) sz (es.map f))) (hj:es[j]? =some y)
 (hok:zd5 size (f y')=true) (hfl:zal (zd (f y'))=true) (hle:(zd (f y')).length=(zd (f y)).length)
 (hk:K .junk (M.set i (.arr (.slice (some ⟨b,off,none⟩) n cap) sz ((es.set j y').map f)))):EOp P e M ⟨dst,.store t x z,ty,pos,af,g⟩ K:=by
 have h0:=(zdB hok).1;refine zac (j:=j) (f:=0) (y:=f y) (y':=f y') hf hx (by omega) hz hm (by rw [Aj,hj];rfl) hok hfl (by omega) ?_ ?_;rw [zrK hle];rw [List.map_set] at hk;exact hk
end
theorem Sat.arr_take [Tracks] {I:Imm} {F:List MObj} {w:World} {b off n cap sz m:Nat} {es:List HVal} (hm:m<=es.length) (h:Sat P I (.arr (.slice (some ⟨b,off,none⟩) n cap) sz es::F) w):
 Sat P I (.arr (.slice (some ⟨b,off,none⟩) m cap) sz (es.take m)::F) w:=by
 obtain ⟨_,rc,el,fr,h2,h3,h4,h5,h6,h7⟩:=zix h;refine h.change (m':= .arr (.slice (some ⟨b,off,none⟩) m cap) sz (es.take m)) (fun _ _ _=>rfl) (fun c hc=> .inl hc) (by simp [MObj.blocks]) ?_ rfl rfl rfl
 have hl:(es.take m).length=m:=by simp;omega
 refine .inr ⟨b,off,cap,rc,el,fr,by rw [hl],h2,h3,fun e he=>h4 e (AZ he),by omega,h6,fun i j e c v a1 a2 a3=> ?_⟩
 have hi:=zx a1;rw [AI (by omega)] at a1;exact h7 i j e c v a1 a2 a3
theorem Ghost.take [Tracks] {e:Env} {M:List MObj} {b off n cap sz m:Nat} {es:List HVal} (hm:m<=es.length):Ghost e (.arr (.slice (some ⟨b,off,none⟩) n cap) sz es::M) e (.arr (.slice (some ⟨b,off,none⟩) m cap) sz (es.take m)::M):=
 fun _ I F tmps w h1 h2=>⟨I,.refl I,h1,h2.arr_take hm⟩
def zhz (cap off sz lo:Nat):Nat:=if cap=lo then off else off+lo*sz
section
variable {P:Program} {e:Env} {dst:Option Tmp} {ty:TypeId} {pos:String} {af:Array Edge} {g:Option (Nat×Bool)} {M:List MObj} {K:HVal->List MObj->Prop}
theorem zeF [Tracks] {x:Operand} {lo hi:Option Operand} {t el:TypeId} {size bytes sz b2:Nat} {zero z2:Value} {d:TD} {b off n cap l h:Nat}
 (hf:Fits P t (.slice el) size bytes zero) (hel:Fits P el d sz b2 z2) (hx:zh e x=some (.raw (.slice (some ⟨b,off,none⟩) n cap))) (hlo:zbF e lo 0 l) (hhi:zbF e hi n h) (h1:l<=h) (h2:h<=n) (hc:n<=cap):
 POp P e ⟨dst,.slice t x lo hi none,ty,pos,af,g⟩ (.raw (.slice (some ⟨b,zhz cap off sz l,none⟩) (h-l) (cap-l))):=
 zF fun I a w ho=>by
  have h3:=(ho.one (x:=x) (by simp [Op.operands]) hx).raw_inv;have hb:(Instr.sliceBounds true n cap (Option.map a.eval lo) (Option.map a.eval hi) none).run P w= .ok (l,h,cap) w:=
   zij (P:=P) (e:=e) (lo:=lo) (hi:=hi) (l:=l) (h:=h) (len:=n) (cap:=cap) ho (by intro y hy;simp [Op.operands,hy]) (by intro y hy;simp [Op.operands,hy]) hlo hhi h1 h2 hc true w
  refine ⟨_,?_,.raw _ rfl⟩
  simp [execOp,Instr.sliceAt,run_underlying hf.slice,h3,Instr.slice,hb,hel.run_sizeOf,zhz]
  try (split<;>simp_all [zdp])
  try omega
theorem zet [Tracks] {x:Operand} {t el:TypeId} {size bytes sz b2:Nat} {zero z2:Value} {d:TD} {i b off n cap m q o c2:Nat} {es:List HVal} (m':Nat)
 (hf:Fits P t (.slice el) size bytes zero) (hel:Fits P el d sz b2 z2) (hz:z2.cells.size=sz) (hz1:z2.cells.toList.all Value.oneCell'=true)
 (hx:zh e x=some (.raw (.slice (some ⟨b,o,none⟩) q c2))) (ho':q=0\/o=off+m*sz) (hm:M[i]? =some (.arr (.slice (some ⟨b,off,none⟩) n cap) sz es)) (hmq:m+q<=cap) (hmm:m'<=m) (hme:m'<=es.length)
 (hk:K .junk (M.set i (.arr (.slice (some ⟨b,off,none⟩) m' cap) sz (es.take m')))):EOp P e M ⟨dst,.call ⟨.builtin .clear,#[x],#[t]⟩,ty,pos,af,g⟩ K:=
 EOp.of_run fun I F a w ho hs=>by
  have h1:=(ho.one (x:=x) (by simp [Op.operands,Call.operands]) hx).raw_inv;have hp:=hs.pull hm;obtain ⟨_,rc,el',fr,h2,h3,h4,h5,h6,h7⟩:=zix hp;have hrun:(execOp a.eval ⟨dst,.call ⟨.builtin .clear,#[x],#[t]⟩,ty,pos,af,g⟩).run P w=((Builtin.clear_ #[t] ty #[a.eval x]).run P w).andThen fun v w=> .ok (.value v) w:=by
   simp [execOp,resolve,invoke,builtin]
  rcases A5 q with h0|h0
  refine ⟨.tuple #[],.junk,_,w,I,?_,.refl I,hk,.junk _,?_⟩
  rw [hrun,h1,h0]
  simp [Builtin.clear_,run_underlying hf.slice]
  exact zbG hm (hp.arr_take hme);have hso:o=off+m*sz:=by rcases ho' with h|h;omega;exact h
  have hmul:(m+q)*sz<=cap*sz:=Au _ hmq;rw [AO] at hmul;have hlen:(Builtin.zeroCells z2.cells q).toList.length=q*sz:=by rw [AQ,zko,hz]
  have hone: ∀v∈(Builtin.zeroCells z2.cells q).toList,v.oneCell'=true:=fun v hv=>by
   simp only [Builtin.zeroCells,Array.toList_map,List.mem_map] at hv;obtain ⟨r,hr,rfl⟩:=hv;have hq':r<q*z2.cells.size:=by simpa using hr
   have hpos:0<z2.cells.size:=by
    rcases A5 z2.cells.size with h|h
    rw [h] at hq';simp at hq';exact h
   have hlt:r%z2.cells.size<z2.cells.size:=BQ _ hpos;rw [getElem!_pos z2.cells _ hlt];exact List.all_eq_true.1 hz1 _ (by simp)
  obtain ⟨w',rc',g1,g2,g3,g4,g5,g6,g7,g8,g9⟩:=zex (P:=P) b el' fr (off+m*sz) (Builtin.zeroCells z2.cells q).toList 0 w rc h2 h3 hone (by rw [hlen];omega);refine ⟨.tuple #[],.junk,_,w',I,?_,.refl I,hk,.junk _,?_⟩
  rw [hrun,h1,hso];obtain ⟨r,rfl⟩: ∃r,q=r+1:=⟨q-1,by omega⟩
  simp [Builtin.clear_,run_underlying hf.slice,hel.run_zero,g1]
  refine zbG hm (hp.change (m':= .arr (.slice (some ⟨b,off,none⟩) m' cap) sz (es.take m')) (fun k hk hnk=>g5 k (by simpa [MObj.blocks] using hnk)) (fun k hk=> .inl hk) (by simp [MObj.blocks]) ?_ g7 g8 g9.1 (fun _=>Cd g9.2.symm))
  have hl:(es.take m').length=m':=by simp;omega
  refine .inr ⟨b,off,cap,rc',el',fr,by rw [hl],g2,by rw [g3];exact h3,fun e he=>h4 e (AZ he),by omega,by rw [g3];exact h6,fun p q' y c v a1 a2 a3=> ?_⟩
  have hi:=zx a1;rw [AI (by omega)] at a1;have hq:=zx a2;rw [h4 y (Ac a1)] at hq;have hpm:(p+1)*sz<=m*sz:=Au _ (by omega);rw [AO] at hpm;rw [g4,if_neg (by omega)] at a3;exact h7 p q' y c v a1 a2 a3
theorem zr8 [Tracks] {I:Imm} {a:Act} {o:Oper} (ho:Opds I e a o) {lo hi:Option Operand} (hlo: ∀x,lo=some x->x∈o.op.operands) (hhi: ∀x,hi=some x->x∈o.op.operands)
 {len cap l h:Nat} (h1:zbF e lo 0 l) (h2:zbF e hi len h) (h3:l<=h) (h4:h<=cap) (b:Bool) (w:World):
 (Instr.sliceBounds b len cap (lo.map a.eval) (hi.map a.eval) none).run P w= .ok (l,h,cap) w:=by
 unfold Instr.sliceBounds
 cases lo with
 |none=>
   simp only [zbF] at h1;subst h1
   cases hi with
   |none=>simp only [zbF] at h2;subst h2;simp
   |some y=>
     obtain ⟨k,i,h6,rfl⟩:=h2;have h7:=(ho.one (hhi y rfl) h6).int_inv
     simp [h7,zcd h4]
 |some x=>
   obtain ⟨k',i',h8,rfl⟩:=h1;have h9:=(ho.one (hlo x rfl) h8).int_inv
   cases hi with
   |none=>simp only [zbF] at h2;subst h2;simp [h9,zcd h3]
   |some y=>
     obtain ⟨k,i,h6,rfl⟩:=h2;have h7:=(ho.one (hhi y rfl) h6).int_inv
     simp [h7,h9,zcd h4,zcd h3]
theorem ztC [Tracks] {x:Operand} {lo hi:Option Operand} {t el:TypeId} {size bytes sz b2:Nat} {zero z2:Value} {d:TD} {b off n cap l h:Nat}
 (hf:Fits P t (.slice el) size bytes zero) (hel:Fits P el d sz b2 z2) (hx:zh e x=some (.raw (.slice (some ⟨b,off,none⟩) n cap))) (hlo:zbF e lo 0 l) (hhi:zbF e hi n h) (h1:l<=h) (h2:h<=cap):
 POp P e ⟨dst,.slice t x lo hi none,ty,pos,af,g⟩ (.raw (.slice (some ⟨b,zhz cap off sz l,none⟩) (h-l) (cap-l))):=
 zF fun I a w ho=>by
  have h3:=(ho.one (x:=x) (by simp [Op.operands]) hx).raw_inv;have hb:(Instr.sliceBounds true n cap (Option.map a.eval lo) (Option.map a.eval hi) none).run P w= .ok (l,h,cap) w:=
   zr8 (P:=P) (e:=e) (lo:=lo) (hi:=hi) (l:=l) (h:=h) (len:=n) (cap:=cap) ho (by intro y hy;simp [Op.operands,hy]) (by intro y hy;simp [Op.operands,hy]) hlo hhi h1 h2 true w
  refine ⟨_,?_,.raw _ rfl⟩
  simp [execOp,Instr.sliceAt,run_underlying hf.slice,h3,Instr.slice,hb,hel.run_sizeOf,zhz]
  try (split<;>simp_all [zdp])
  try omega
theorem zfK [Tracks] {x:Operand} {hi:Option Operand} {t el:TypeId} {size bytes sz b2:Nat} {zero z2:Value} {d:TD} {b off n cap h:Nat}
 (hf:Fits P t (.slice el) size bytes zero) (hel:Fits P el d sz b2 z2) (hx:zh e x=some (.raw (.slice (some ⟨b,off,none⟩) n cap))) (hhi:zbF e hi n h) (h2:h<=cap):
 POp P e ⟨dst,.slice t x none hi none,ty,pos,af,g⟩ (.raw (.slice (some ⟨b,off,none⟩) h cap)):=by
 have:=ztC (P:=P) (dst:=dst) (ty:=ty) (pos:=pos) (af:=af) (g:=g) (lo:=none) (l:=0) hf hel hx rfl hhi (Ad _) h2;have e1:zhz cap off sz 0=off:=by unfold zhz;split<;>omega
 rwa [e1,Nat.sub_zero,Nat.sub_zero] at this
end
end
section
variable {P:Program}
open Go.ChangeShapes Go.WideShapes Go.RowKit
theorem zlz [Tracks] {W W':World} {J:Imm} {M:List MObj} (hl:Le (zci W) J) (hs:Sat P J M W'):Below W.heap.size W W':=by
 have hb: ∀k,k<W.heap.size->W'.heap[k]? =W.heap[k]?:=fun k hk=>by
  have h1:W.heap[k]? =some W.heap[k]:=by simp [hk]
  rw [h1];exact hs.imm _ _ (hl.heap _ _ h1)
 exact {
  os:=hs.os.trans hl.os
  tape:=hs.tape.trans hl.tape
  output:=hs.output.trans hl.output
  size:=by
   rcases A5 W.heap.size with h|h
   omega
   have h1:=hb (W.heap.size-1) (by omega);have h2:W.heap[W.heap.size-1]? =some (W.heap[W.heap.size-1]'(by omega)):=by simp
   rw [h2] at h1
   rcases AA (W.heap.size-1) W'.heap.size with h3|h3
   omega
   rw [Am h3] at h1;cases h1
  block:=hb}
theorem zsL [Tracks] {W:World} (ht:TabI P (zci W)):Sat P (zci W) [] W:=⟨fun _ _ h=>h,fun _ h=>by simp at h,by simp [blocks],fun _ h=>by simp [blocks] at h,rfl,rfl,rfl,ht,fun _=>Af _⟩
theorem zrc [Tracks] {P:Program} {f:FuncId} {l:List Int} (hc:ConP P f [.slice 1 (l.map (.int .i64))] (.bool true)) {W:World} (ht:TabI P (zci W)) {v:Value} (hv:V (zci W) (.slice 1 (l.map (.int .i64))) v):
 Calls P f #[v] W fun e W'=>e= .returned (.bool true)/\Below W.heap.size W W':=by
 refine (hc (zci W) [] W [v] (VL.cons hv VL.nil) (zsL ht)).mono ?_;rintro e W' ⟨u,h,M',J,rfl,hle,⟨rfl,rfl⟩,hV,hs⟩;exact ⟨by rw [hV.bool_inv],zlz hle hs⟩
theorem zyr [Tracks] {W:World} {a:Addr} {len cap:Nat} {zs:List Int} (hcell: ∀i,i<zs.length->W.cell? (a.add i)=some (.int .i64 (zs.getD i 0))) (hl:len<=zs.length) (hc:len<=cap):
 V (zci W) (.slice 1 ((zs.take len).map (.int .i64))) (.slice (some a) len cap):=by
 rcases A5 len with h0|h0
 subst h0;exact .slice0 _ _ _;obtain ⟨b,off,rfl,hj⟩:=ints_at hcell (by omega);have hc0:=hj 0 (by omega);unfold World.cell? at hc0
 cases hh:W.heap[b]? with
 |none=>rw [hh] at hc0;simp at hc0
 |some o=>
   cases o with
   |cells rc el fr=>
     have hrc: ∀j,j<zs.length->rc[off+j]? =some (.int .i64 (zs.getD j 0)):=fun j hj'=>by
      have:=hj j hj';unfold World.cell? at this
      simpa [hh] using this
     have hlen:((zs.take len).map (HVal.int .i64)).length=len:=by simp;omega
     have hsz:off+zs.length<=rc.size:=by
      have:=hrc (zs.length-1) (by omega)
      rcases AA (off+(zs.length-1)) rc.size with h3|h3
      omega
      rw [Am h3] at this;cases this
     have:=V.slice (I:=zci W) (sz:=1) (es:=(zs.take len).map (.int .i64)) (b:=b) (off:=off) (cap:=cap) (rc:=rc) (el:=el) (fr:=fr) hh
      (fun e he=>by obtain ⟨n,_,rfl⟩:=List.mem_map.1 he;rfl) (by omega) (by omega) (fun i j e c v h1 h2 h3=>by
        have hi:=zx h1;rw [hlen] at hi;rw [Aj,AI hi] at h1;have e1:zs[i]? =some zs[i]:=Aa (by omega);rw [e1] at h1;simp only [AM,Az] at h1;subst h1
        cases j with
        |succ j=>simp [zd] at h2
        |zero=>
          simp only [zd,AY,Az] at h2;subst h2;have h4:=hrc i (by omega);rw [Nat.mul_one,BC,h4] at h3;simp only [Az] at h3;subst h3;have:zs.getD i 0=zs[i]:=by simp [List.getD,e1]
          rw [this];exact .int _ _)
     rw [hlen] at this;exact this
   |_=>rw [hh] at hc0;simp at hc0
end
section
open Go.Sort Go.Proofs Go.RowKit
variable {P:Program}
theorem zpb {w:World} {name:String} {d:DataW Unit}: ∀{laid:List (String×DataW Unit)} {ps:List MemPlace},DataW.LaidVars P w laid ps->∀(i:Nat),laid[i]? =some (name,d)->
 ∃g t cs fuel p,P.globalNamed name=some g/\(P.globals[g]?).map (·.type)=some t/\w.var? P name=some cs/\DataW.trod (fun _=>()) P w 0 (fun _=>true) false fuel t cs.toList=some (d,p)
 |[],_,_,i,h=>by simp at h
 |(n,x)::r,ps,h,0,hi=>by
   simp at hi
   obtain ⟨rfl,rfl⟩:=hi;obtain ⟨g,t,cs,fuel,p,q,h1,h2,h3,h4,_,_⟩:=h;exact ⟨g,t,cs,fuel,p,h1,h2,h3,h4⟩
 |(n,x)::r,ps,h,i+1,hi=>by
   obtain ⟨g,t,cs,fuel,p,q,_,_,_,_,h5,_⟩:=h;exact zpb h5 i (by simpa using hi)
theorem Sat.maxLen [Tracks] {I:Imm} {M:List MObj} {w:World} (hs:Sat P I M w) {g:Nat} (hg:P.globalNamed "internal/bytealg.MaxLen" =some g): ∃m,w.cell? ⟨g,0,none⟩=some (.int .i64 m):=by
 obtain ⟨c,t,fr,m,h1,h2⟩:=hs.tab.2.1 g hg;have h3:=hs.imm _ _ h1;exact ⟨m,by rw [zb3 h3];exact h2⟩
theorem Sat.utf8 [Tracks] {I:Imm} {M:List MObj} {w:World} (hs:Sat P I M w) {g3 g4:Nat} (h3:P.globalNamed "unicode/utf8.first" =some g3) (h4:P.globalNamed "unicode/utf8.acceptRanges" =some g4):
 (∀c,c<256->w.cell? ⟨g3,c,none⟩=some (.int .u8 (Lib.firstT c)))/\(∀i,i<16->w.cell? ⟨g4,2*i,none⟩=some (.int .u8 (Lib.accLo i))/\w.cell? ⟨g4,2*i+1,none⟩=some (.int .u8 (Lib.accHi i))):=by
 obtain ⟨c3,t3,f3,c4,t4,f4,e3,e4,u1,u2⟩:=hs.tab.2.2 g3 g4 h3 h4;exact ⟨fun c hc=>by rw [zb3 (hs.imm _ _ e3)];exact u1 c hc,fun i hi=>⟨by rw [zb3 (hs.imm _ _ e4)];exact (u2 i hi).1,by rw [zb3 (hs.imm _ _ e4)];exact (u2 i hi).2⟩⟩
theorem Sat.lt [Tracks] {I:Imm} {M:List MObj} {w:World} (hs:Sat P I M w):(∀b,(∃o,I.heap b=some o)->b<w.heap.size)/\∀b∈blocks M,b<w.heap.size:=by
 have key: ∀b o,w.heap[b]? =some o->b<w.heap.size:=fun b o h=>by
  rcases AA b w.heap.size with h'|h'
  exact h'
  simp [Am h'] at h
 refine ⟨fun b ⟨o,h⟩=>key b o (hs.imm b o h),fun b hb=> ?_⟩
 simp only [blocks,Bg] at hb;obtain ⟨m,hm,hb⟩:=hb;obtain ⟨o,ho⟩:=(hs.obj m hm).lies hb;exact key b o ho
end
section
section
variable {P:Program} {e:Env} {dst:Option Tmp} {ty:TypeId} {pos:String} {af:Array Edge} {g:Option (Nat×Bool)} {M:List MObj} {K:HVal->List MObj->Prop}
end
end
section
section
variable {P:Program} {e:Env} {dst:Option Tmp} {ty:TypeId} {pos:String} {af:Array Edge} {g:Option (Nat×Bool)} {M:List MObj} {K:HVal->List MObj->Prop}
theorem zlu [Tracks] {I:Imm} {c d:HVal} {u v:Value} (h1:V I c u) (h2:V I d v):V I (.tup [c,d]) (.tuple #[u,v]):=
 .tup (by simp) (fun j c v h3 h4=>(VL.cons h1 (VL.cons h2 VL.nil)).2 j c v h3 (by simpa using h4))
theorem zr1 [Tracks] {x y:Operand} {t kt et:TypeId} {size bytes s2 b2 s3 b3:Nat} {zero z2 z3:Value} {d:TD} {i b:Nat} {ls:List (List UInt8×HVal)} {s:List UInt8}
 (hf:Fits P t (.map kt et) size bytes zero) (hkt:Fits P kt .str s2 b2 z2) (het:Fits P et d s3 b3 z3) (hx:zh e x=some (.raw (.map (some b)))) (hy:zh e y=some (.str s)) (hm:M[i]? =some (.map b (sk ls)))
 (hk:K (.tup [match z6 s ls with|some p=>p.2|none=>zaR z3,.bool (z6 s ls).isSome]) M):EOp P e M ⟨dst,.lookup t x y true,ty,pos,af,g⟩ K:=
 EOp.of_run fun I F a w ho hs=>by
  have h1:=(ho.one (x:=x) (by simp [Op.operands]) hx).raw_inv;have h2:=(ho.one (x:=y) (by simp [Op.operands]) hy).str_inv;obtain ⟨es,clk,h3,h4,h5⟩:=hs.obj _ (As _ (Ac hm));obtain ⟨h6,h7⟩:=zgZ h4.1 h5;obtain ⟨n1,n2⟩:=zhR (I:=I) (s:=s) es.toList ls 0 h6 h7
  cases hq:z6 s ls with
  |none=>
    rw [hq] at hk;refine ⟨.tuple #[z3,.bool false],_,M,w,I,?_,.refl I,hk,zlu (zgp I z3) (.bool _),hs⟩
    simp only [execOp,h1,h2,Instr.lookup,Sem.run_bind,run_underlying hf.mapD,Result.andThen_ok,zaU h3,Sem.run_pure,zcc hkt.strD,Instr.findKey,run_underlying hkt.strD,n1 hq,het.run_zero]
    simp
  |some p=>
    obtain ⟨j,h⟩:=p;rw [hq] at hk;obtain ⟨v,g1,g2⟩:=n2 j h hq;refine ⟨.tuple #[v,.bool true],_,M,w,I,?_,.refl I,hk,zlu g2 (.bool _),hs⟩
    simp only [execOp,h1,h2,Instr.lookup,Sem.run_bind,run_underlying hf.mapD,Result.andThen_ok,zaU h3,Sem.run_pure,zcc hkt.strD,Instr.findKey,run_underlying hkt.strD,g1]
    simp
end
section
variable {P:Program}
end
end
section
section
variable {κ:Type} [DecidableEq κ]
def kk (ek:κ->HVal) (l:List (κ×HVal)):List (HVal×HVal):=l.map fun p=>(ek p.1,p.2)
def zbI (x:κ):List (κ×HVal)->Option Nat
 |[]=>none
 |p::r=>if x=p.1 then some 0 else (zbI x r).map (· +1)
def klk (x:κ):List (κ×HVal)->Option HVal
 |[]=>none
 |p::r=>if x=p.1 then some p.2 else klk x r
def zdy (x:κ) (h:HVal):List (κ×HVal)->List (κ×HVal)
 |[]=>[(x,h)]
 |p::r=>if x=p.1 then (x,h)::r else p::zdy x h r
theorem zeD {x:κ}: ∀{l:List (κ×HVal)} {j:Nat},zbI x l=some j->∃h,l[j]? =some (x,h)/\klk x l=some h/\∀h',zdy x h' l=l.set j (x,h')
 |[],j,h=>by simp [zbI] at h
 |p::r,j,h=>by
   simp only [zbI] at h
   by_cases e:x=p.1
   rw [if_pos e] at h
   simp at h;subst h
   exact ⟨p.2,by simp [e],by simp [klk,e],fun h'=>by simp [zdy,e]⟩;rw [if_neg e] at h
   cases hr:zbI x r with
   |none=>rw [hr] at h;simp at h
   |some j'=>
     rw [hr] at h;simp at h;subst h;obtain ⟨y,h1,h2,h3⟩:=zeD hr;exact ⟨y,by simpa using h1,by simp [klk,e,h2],fun h'=>by simp [zdy,e,h3]⟩
theorem zfs {x:κ}: ∀{l:List (κ×HVal)},zbI x l=none->klk x l=none/\∀h',zdy x h' l=l++[(x,h')]
 |[],_=>⟨rfl,fun _=>rfl⟩
 |p::r,h=>by
   simp only [zbI] at h
   by_cases e:x=p.1
   rw [if_pos e] at h;simp at h;rw [if_neg e] at h;have hr:zbI x r=none:=by cases hq:zbI x r with|none=>rfl|some j=>rw [hq] at h;simp at h
   obtain ⟨h1,h2⟩:=zfs hr;exact ⟨by simp [klk,e,h1],fun h'=>by simp [zdy,e,h2]⟩
def KNodup (l:List (κ×HVal)):Prop:=(l.map (·.1)).Nodup
theorem zpU {x y:κ} {h:HVal}: ∀{l:List (κ×HVal)},y∈(zdy x h l).map (·.1)↔y=x\/y∈l.map (·.1)
 |[]=>by simp [zdy]
 |p::r=>by
   simp only [zdy]
   split
   rename_i e;subst e;simp
   simp only [Ao,BH,zpU]
   constructor
   rintro (a|a|a);exact .inr (.inl a);exact .inl a;exact .inr (.inr a);rintro (a|a|a);exact .inr (.inl a);exact .inl a;exact .inr (.inr a)
theorem KNodup.put {x:κ} {h:HVal}: ∀{l:List (κ×HVal)},KNodup l->KNodup (zdy x h l)
 |[],_=>by simp [KNodup,zdy]
 |p::r,hn=>by
   unfold KNodup at*;simp only [Ao,Cc] at hn;simp only [zdy]
   split
   rename_i e;subst e;simpa using hn
   rename_i e
   simp only [Ao,Cc];refine ⟨fun q=> ?_,KNodup.put (l:=r) hn.2⟩
   rcases zpU.1 q with q|q
   exact e q.symm;exact hn.1 q
structure KeyOk (P:Program) (kt:TypeId) (ek:κ->HVal):Prop where
 check: ∀(I:Imm) (x:κ) (v:Value) (b:Bool) (w:World),V I (ek x) v->(Instr.checkKey b 10000 kt v).run P w= .ok () w
 eq: ∀(I:Imm) (x y:κ) (u v:Value) (w:World),V I (ek x) u->V I (ek y) v->(Op.equal kt u v).run P w= .ok (decide (x=y)) w
 find: ∀(I:Imm) (x:κ) (v:Value) (es:List MapEntry) (w:World),V I (ek x) v->(∀m∈es,∃y,V I (ek y) m.key)->(Instr.findKey kt v es).run P w=(Instr.findAsking kt v es).run P w
 same: ∀(I:Imm) (x:κ) (u v:Value),V I (ek x) u->V I (ek x) v->Instr.sameBits 10000 u v=true
variable {P:Program} {kt:TypeId} {ek:κ->HVal}
theorem KeyOk.run_key (ok:KeyOk P kt ek) {I:Imm} {x:κ} {v:Value} (hv:V I (ek x) v) (w:World) (es:List MapEntry) (ls:List (κ×HVal)) (hl:es.length=ls.length)
 (hV: ∀(j:Nat) (p:κ×HVal) (m:MapEntry),ls[j]? =some p->es[j]? =some m->V I (ek p.1) m.key/\V I p.2 m.val):(Instr.findKey kt v es).run P w=(Instr.findAsking kt v es).run P w:=
 ok.find I x v es w hv fun m hm=>by
  obtain ⟨j,hj⟩:=BM hm;have h1:=zx hj;exact ⟨_,(hV j _ m (Aa (by omega)) hj).1⟩
theorem zi0 (ok:KeyOk P kt ek) {I:Imm} {x:κ} {v:Value} (hv:V I (ek x) v) (w:World): ∀(es:List MapEntry) (ls:List (κ×HVal)) (i:Nat),es.length=ls.length->
 (∀(j:Nat) (p:κ×HVal) (m:MapEntry),ls[j]? =some p->es[j]? =some m->V I (ek p.1) m.key/\V I p.2 m.val)->
 (zbI x ls=none->(Instr.findAsking kt v es i).run P w= .ok none w)/\∀j,zbI x ls=some j->∃m h,es[j]? =some m/\ls[j]? =some (x,h)/\V I h m.val/\(Instr.findAsking kt v es i).run P w= .ok (some (i+j,m.val)) w
 |[],[],i,_,_=>⟨fun _=>by simp [Instr.findAsking],fun j h=>by simp [zbI] at h⟩
 |[],_::_,i,hl,_=>by simp at hl
 |_::_,[],i,hl,_=>by simp at hl
 |m::es,p::ls,i,hl,hV=>by
   obtain ⟨h1,h2⟩:=hV 0 p m rfl rfl;obtain ⟨ih1,ih2⟩:=zi0 ok hv w es ls (i+1) (by simpa using hl) fun j q n a b=>hV (j+1) q n (by simpa using a) (by simpa using b)
   simp only [Instr.findAsking,Sem.run_bind,ok.eq I x p.1 v m.key w hv h1,Result.andThen_ok,zbI]
   by_cases e:x=p.1
   rw [if_pos e];simp only [e,decide_true,if_true,Sem.run_pure];refine ⟨fun h=>by simp at h,fun j h=> ?_⟩
   simp at h;subst h
   exact ⟨m,p.2,rfl,by simp,h2,by simp⟩;rw [if_neg e];simp only [e,decide_false,AP,if_false];refine ⟨fun h=>ih1 (by cases hq:zbI x ls with|none=>rfl|some j=>rw [hq] at h;simp at h),fun j h=> ?_⟩
   cases hq:zbI x ls with
   |none=>rw [hq] at h;simp at h
   |some j'=>
     rw [hq] at h;simp at h;subst h;obtain ⟨n,y,g1,g2,g3,g4⟩:=ih2 j' hq;exact ⟨n,y,by simpa using g1,by simpa using g2,g3,by rw [g4];congr 3;omega⟩
theorem zol {A:Type} {eA:A->HVal} {I:Imm} {ls:List (A×HVal)} {es:Array MapEntry} (hl:es.size=(kk eA ls).length)
 (hv: ∀(i:Nat) (p:HVal×HVal) (m:MapEntry),(kk eA ls)[i]? =some p->es[i]? =some m->V I p.1 m.key/\V I p.2 m.val):
 es.toList.length=ls.length/\∀(j:Nat) (p:A×HVal) (m:MapEntry),ls[j]? =some p->es.toList[j]? =some m->V I (eA p.1) m.key/\V I p.2 m.val:=by
 refine ⟨by simpa [kk] using hl,fun j p m a b=> ?_⟩
 exact hv j (eA p.1,p.2) m (by simp [kk,a]) (by simpa using b)
variable [Tracks] {e:Env} {dst:Option Tmp} {ty:TypeId} {pos:String} {af:Array Edge} {g:Option (Nat×Bool)} {M:List MObj} {K:HVal->List MObj->Prop}
theorem zr2 {x y:Operand} {t et:TypeId} {size bytes s3 b3:Nat} {zero z3:Value} {d:TD} {i b:Nat} {ls:List (κ×HVal)} {s:κ}
 (hf:Fits P t (.map kt et) size bytes zero) (ok:KeyOk P kt ek) (het:Fits P et d s3 b3 z3) (hx:zh e x=some (.raw (.map (some b)))) (hy:zh e y=some (ek s)) (hm:M[i]? =some (.map b (kk ek ls)))
 (hk:K ((klk s ls).getD (zaR z3)) M):EOp P e M ⟨dst,.lookup t x y false,ty,pos,af,g⟩ K:=
 EOp.of_run fun I F a w ho hs=>by
  have h1:=(ho.one (x:=x) (by simp [Op.operands]) hx).raw_inv;have h2:=ho.one (x:=y) (by simp [Op.operands]) hy;obtain ⟨es,clk,h3,h4,h5⟩:=hs.obj _ (As _ (Ac hm));obtain ⟨h6,h7⟩:=zol h4.1 h5;obtain ⟨n1,n2⟩:=zi0 ok h2 w es.toList ls 0 h6 h7;have hfk:=ok.run_key h2 w es.toList ls h6 h7
  cases hq:zbI s ls with
  |none=>
    rw [(zfs hq).1] at hk;refine ⟨z3,_,M,w,I,?_,.refl I,hk,zgp I z3,hs⟩
    simp only [execOp,h1,Instr.lookup,Sem.run_bind,run_underlying hf.mapD,Result.andThen_ok,zaU h3,Sem.run_pure,ok.check I s _ _ w h2,hfk,n1 hq,het.run_zero]
    simp
  |some j=>
    obtain ⟨m,h,g1,g2,g3,g4⟩:=n2 j hq;obtain ⟨h',g5,g6,_⟩:=zeD hq;rw [g5] at g2;cases g2;rw [g6] at hk;refine ⟨m.val,_,M,w,I,?_,.refl I,hk,g3,hs⟩
    simp only [execOp,h1,Instr.lookup,Sem.run_bind,run_underlying hf.mapD,Result.andThen_ok,zaU h3,Sem.run_pure,ok.check I s _ _ w h2,hfk,g4]
    simp
theorem zr3 {x y z:Operand} {t et:TypeId} {size bytes:Nat} {zero:Value} {i b:Nat} {ls:List (κ×HVal)} {s:κ} {h:HVal}
 (hf:Fits P t (.map kt et) size bytes zero) (ok:KeyOk P kt ek) (hx:zh e x=some (.raw (.map (some b)))) (hy:zh e y=some (ek s)) (hz:zh e z=some h) (hm:M[i]? =some (.map b (kk ek ls)))
 (hk:K .junk (M.set i (.map b (kk ek (zdy s h ls))))):EOp P e M ⟨dst,.mapUpdate t x y z,ty,pos,af,g⟩ K:=
 zf3 fun I F a w ho hs=>by
  have h1:=(ho.one (x:=x) (by simp [Op.operands]) hx).raw_inv;have h2:=ho.one (x:=y) (by simp [Op.operands]) hy;have h0:=ho.one (x:=z) (by simp [Op.operands]) hz;have hp:=hs.pull hm;obtain ⟨es,clk,h3,h4,h5⟩:=hp.obj _ Ai;obtain ⟨h6,h7⟩:=zol h4.1 h5;obtain ⟨n1,n2⟩:=zi0 ok h2 w es.toList ls 0 h6 h7;have hfk:=ok.run_key h2 w es.toList ls h6 h7;have hlt:b<w.heap.size:=by
   rcases AA b w.heap.size with h'|h'
   exact h'
   simp [Am h'] at h3
  have hsz:es.size=ls.length:=by simpa using h6
  have fin: ∀(es':Array MapEntry) (clk':Nat),es'.size=(kk ek (zdy s h ls)).length/\BornOk es' clk'->
   (∀(i:Nat) (p:HVal×HVal) (m:MapEntry),(kk ek (zdy s h ls))[i]? =some p->es'[i]? =some m->V I p.1 m.key/\V I p.2 m.val)->
   Sat P I (M.set i (.map b (kk ek (zdy s h ls)))++F) {w with heap:=w.heap.setIfInBounds b (.map es' clk')}:=fun es' clk' e1 e2=>by
   refine zbG hm (hp.change (m':= .map b (kk ek (zdy s h ls))) (fun k hk hnk=> ?_) (fun k hk=> .inl hk) (by simp [MObj.blocks]) ⟨es',clk',by simp [hlt],e1,e2⟩ rfl rfl rfl)
   have:k≠b:=by simpa [MObj.blocks] using hnk
   simp [AE (Ne.symm this)]
  cases hq:zbI s ls with
  |none=>
    have hput:=(zfs hq).2 h;refine ⟨_,_,I,?_,.refl I,hk,fin (es.push ⟨a.eval y,a.eval z,clk⟩) (clk+1) ⟨by rw [hput];simp [kk,hsz],h4.2.push rfl⟩ fun j p m a1 a2=> ?_⟩
    simp only [execOp,h1,Instr.mapUpdate,Sem.run_bind,run_underlying hf.mapD,Result.andThen_ok,zaU h3,ok.check I s _ _ w h2,hfk,n1 hq,Sem.run_pure,zdg h3];rw [hput] at a1;simp only [kk,Ay,Ao,A3] at a1
    by_cases hj:j<ls.length
    rw [Ar (by simpa using hj)] at a1;rw [AN,if_neg (by omega)] at a2;exact h5 j p m (by simpa [kk] using a1) a2;rw [An (by simp;omega)] at a1;rw [AN] at a2
    by_cases hje:j=es.size
    rw [if_pos hje] at a2
    simp at a2
    subst a2;have:j-(ls.map fun p=>(ek p.1,p.2)).length=0:=by simp;omega
    rw [this] at a1
    simp at a1
    subst a1;exact ⟨h2,h0⟩;rw [if_neg hje,Am (by omega)] at a2
    cases a2
  |some j0=>
    obtain ⟨m0,h',g1,g2,g3,g4⟩:=n2 j0 hq;obtain ⟨_,_,_,hput⟩:=zeD hq;have hm0:es[j0]? =some m0:=by simpa using g1
    have hjl:=zx g2;have hkey:=(h7 j0 (s,h') m0 g2 g1).1;refine ⟨_,_,I,?_,.refl I,hk,fin (es.modify j0 fun e=>{e with key:=a.eval y,val:=a.eval z}) clk ⟨by rw [hput];simp [kk,hsz],h4.2.modify _ fun _=>rfl⟩ fun j p m a1 a2=> ?_⟩
    have hstay:(Instr.keyThatStays (((es[j0]?).map (·.key)).getD (a.eval y)) (a.eval y)).run P w= .ok (a.eval y) w:=by
     rw [hm0];simp only [AM,Bh,Instr.keyThatStays];rw [if_pos (ok.same I s _ _ hkey h2)];rfl
    simp only [execOp,h1,Instr.mapUpdate,Sem.run_bind,run_underlying hf.mapD,Result.andThen_ok,zaU h3,ok.check I s _ _ w h2,hfk,g4,Sem.run_pure,Bc,hstay,zdg h3];rw [hput] at a1;simp only [kk] at a1;rw [AF] at a2;rw [Aj,List.getElem?_set] at a1
    by_cases hj:j0=j
    subst hj;rw [if_pos rfl,hm0] at a2;rw [if_pos rfl,if_pos hjl] at a1
    simp at a1 a2
    subst a1 a2;exact ⟨h2,h0⟩;rw [if_neg hj] at a1 a2;exact h5 j p m (by simp only [kk,Aj];exact a1) a2
end
end
section
def zmq:List HVal->Bool
 |[]=>true
 | .int _ _::r=>zmq r
 | .str _::r=>zmq r
 | .bool _::r=>zmq r
 |_=>false
theorem zrJ: ∀{cs:List HVal} {j:Nat} {c:HVal},zmq cs=true->cs[j]? =some c->(∃k n,c= .int k n)\/(∃s,c= .str s)\/∃b,c= .bool b
 |[],j,c,_,h=>by simp at h
 |x::r,0,c,hs,h=>by
   simp at h;subst h
   cases x<;>simp [zmq] at hs
   exact .inr (.inr ⟨_,rfl⟩);exact .inl ⟨_,_,rfl⟩;exact .inr (.inl ⟨_,rfl⟩)
 |x::r,j+1,c,hs,h=>by
   simp at h
   cases x<;>simp [zmq] at hs<;>exact zrJ hs h
theorem zuT {I:Imm} {cs:List HVal} {xs ys:List Value} (hs:zmq cs=true) (hx:VL I cs xs) (hy:VL I cs ys):xs=ys/\∀v∈xs,∀n,Instr.sameBits n v v=true:=by
 have key: ∀(j:Nat) (u v:Value),xs[j]? =some u->ys[j]? =some v->u=v/\∀n,Instr.sameBits n u u=true:=fun j u v h1 h2=>by
  have hj:j<cs.length:=by rw [<-hx.1];exact zx h1
  have hc:=Aa hj;have hu:=hx.2 j _ u hc h1;have hv:=hy.2 j _ v hc h2
  rcases zrJ hs hc with ⟨k,n,e⟩|⟨s,e⟩|⟨b,e⟩
  rw [e] at hu hv
  haveI:Tracks:=⟨true⟩
  rw [hu.int_inv,hv.int_inv];exact ⟨rfl,fun m=>by cases m<;>simp [Instr.sameBits]⟩;rw [e] at hu hv
  haveI:Tracks:=⟨true⟩
  rw [hu.str_inv,hv.str_inv];exact ⟨rfl,fun m=>by cases m<;>simp [Instr.sameBits,zhD]⟩;rw [e] at hu hv
  haveI:Tracks:=⟨true⟩
  rw [hu.bool_inv,hv.bool_inv];exact ⟨rfl,fun m=>by cases m<;>simp [Instr.sameBits]⟩
 have hl:xs.length=ys.length:=by rw [hx.1,hy.1]
 refine ⟨List.ext_getElem? fun j=> ?_,fun v hv n=> ?_⟩
 rcases AA j xs.length with h|h
 rw [Aa h,Aa (by omega)]
 congr 1
 exact (key j _ _ (Aa h) (Aa (by omega))).1;rw [AG h,AG (by omega)];obtain ⟨j,hj⟩:=BM hv;have hlt:=zx hj;exact (key j v _ hj (Aa (by omega))).2 n
section
variable {P:Program}
theorem ziY {t:TypeId} {d:TD} {s by':Nat} {z:Value} (hf:Fits P t d s by' z) {a:HVal} (hk:zeR d a a=true) {I:Imm} {u:Value} (hu:V I a u) (em:Bool) (n:Nat) (w:World):(Instr.checkKey em (n+1) t u).run P w= .ok () w:=by
 haveI:Tracks:=⟨true⟩
 cases d<;>cases a<;>focus first|(simp [zeR] at hk;done)|skip
 rw [hu.bool_inv];simp [Instr.checkKey,run_underlying hf.boolD];rw [hu.int_inv];simp [Instr.checkKey,run_underlying hf.intD];rw [hu.str_inv];simp [Instr.checkKey,run_underlying hf.strD]
theorem zn5 {I:Imm} {xs:Array Value} {cs:List HVal} (hx:VL I cs xs.toList) (em:Bool) (n:Nat) (w:World):
 ∀(fs:List Field) (k:Nat),zkT P (fs.map fun f=>(f.offset,f.type)) k (cs.drop k) (cs.drop k)->∀f∈fs,∃a,(part f.type xs f.offset).run P w= .ok a w/\(Instr.checkKey em (n+1) f.type a).run P w= .ok () w
 |[],k,_,f,hf=>by simp at hf
 |g::fs,k,hk,f,hf=>by
   haveI:Tracks:=⟨true⟩
   simp only [Ao] at hk
   cases hc:cs.drop k with
   |nil=>rw [hc] at hk;exact hk.elim
   |cons a r=>
     rw [hc] at hk;obtain ⟨h1,⟨d,s,by',z,h2,h3⟩,h4⟩:=hk;simp only at h1 h2;have ha:cs[k]? =some a:=by have:=congrArg (fun l:List HVal=>l[0]?) hc;simpa using this
     have hr:cs.drop (k+1)=r:=by rw [<-Bz (i:=1),hc];rfl
     rcases List.mem_cons.1 hf with rfl|hf
     obtain ⟨u,hu,hu'⟩:=hx.get ha;exact ⟨u,znC h2 (zmp h3) (by rw [h1];simpa using hu) w,ziY h2 h3 hu' em n w⟩;exact zn5 hx em n w fs (k+1) (by rw [hr];exact h4) f hf
theorem zl9 {κ:Type} [DecidableEq κ] {kt:TypeId} {fs:List (Nat×Nat)} {s by':Nat} {z:Value} {cs:κ->List HVal} (hf:Fits P kt (.struct fs) s by' z) (hq:EqOk P kt) (hk: ∀x y,zkT P fs 0 (cs x) (cs y))
 (he: ∀x y,zfo (cs x) (cs y)=decide (x=y)) (hs: ∀x,zmq (cs x)=true):KeyOk P kt (fun x=> .agg (cs x)):=by
 haveI:Tracks:=⟨true⟩
 obtain ⟨gs,h1,h2⟩:=hf.structD;have hn: ∀f∈gs.toList,f.name≠ "_" :=fun f hf=>by
  have:=hq.names;rw [show P.fieldsOf kt=gs by simp [Program.fieldsOf,h1]] at this;have:=List.all_eq_true.1 this f hf;simpa using this
 refine ⟨fun I x v b w hv=> ?_,fun I x y u v w hu hv=> ?_,fun I x v es w hv hes=>run_findKey_eq w (by rw [h1]) v es,fun I x u v hu hv=> ?_⟩
 obtain ⟨xs,rfl,hx⟩:=hv.agg_inv;have each:=zn5 (P:=P) hx b 9998 w gs.toList 0 (by rw [h2];exact hk x x);rw [show (10000:Nat)=9999+1 from rfl,Instr.checkKey];simp only [Sem.run_bind,run_underlying h1,Result.andThen_ok];rw [<-Array.forIn_toList]
 clear h1 h2
 generalize gs.toList=L at each hn
 induction L with
 |nil=>simp
 |cons f L ih=>
   obtain ⟨a,p1,p2⟩:=each f (by simp);have hn1:=hn f (by simp);simp only [List.forIn_cons,Sem.run_bind,hn1,ne_eq,not_false_eq_true,if_true,Result.andThen_ok,p1,p2,Sem.run_pure];exact ih (fun y hy=>each y (by simp [hy])) (fun y hy=>hn y (by simp [hy]))
 obtain ⟨xs,rfl,hx⟩:=hu.agg_inv;obtain ⟨ys,rfl,hy⟩:=hv.agg_inv;rw [zgm hf hq hx hy (hk x y) w,he];obtain ⟨xs,rfl,hx⟩:=hu.agg_inv;obtain ⟨ys,rfl,hy⟩:=hv.agg_inv;obtain ⟨e1,e2⟩:=zuT (hs x) hx hy;have e3:xs=ys:=by have:=congrArg List.toArray e1;simpa using this
 subst e3
 show Instr.sameBits (9999+1) _ _=true
 simp only [Instr.sameBits,beq_self_eq_true,Bool.true_and,List.all_eq_true]
 intro p hp
 have h9: ∀(l:List Value) (p:Value×Value),p∈l.zip l->p.1∈l/\p.1=p.2:=fun l=>by
  induction l with
  |nil=>intro p hp;simp at hp
  |cons a l ih=>
    intro p hp
    simp only [List.zip_cons_cons,BH] at hp
    rcases hp with rfl|hp
    exact ⟨by simp,rfl⟩;exact ⟨by simp [(ih p hp).1],(ih p hp).2⟩
 obtain ⟨q1,q2⟩:=h9 _ p hp;obtain ⟨u,v⟩:=p;simp only at q1 q2;subst q2;exact e2 u q1 9999
end
/-! ranges-/
theorem zmf {α:Type} [DecidableEq α]: ∀{l m:List α},l.Nodup->(∀x∈l,x∈m)->l.length<=m.length
 |[],_,_,_=>Ad _
 |a::l,m,h,hs=>by
   have ha:=hs a Ai;obtain ⟨h1,h2⟩:=List.nodup_cons.1 h;have h3:=zmf (m:=m.erase a) h2 fun x hx=>(List.mem_erase_of_ne (fun e:x=a=>h1 (by rw [<-e];exact hx))).2 (hs x (Ap _ hx))
   rw [List.length_erase_of_mem ha] at h3;have:=List.length_pos_of_mem ha
   simp;omega
section
variable {P:Program} {e:Env} {dst:Option Tmp} {ty:TypeId} {pos:String} {af:Array Edge} {g:Option (Nat×Bool)} {M:List MObj} {K:HVal->List MObj->Prop}
theorem zpC [Tracks] {x:Operand} {t kt et:TypeId} {size bytes:Nat} {zero:Value} {i b:Nat} {l:List (HVal×HVal)} (hf:Fits P t (.map kt et) size bytes zero) (hx:zh e x=some (.raw (.map (some b)))) (hm:M[i]? =some (.map b l))
 (hk: ∀r,K (.raw (.pointer (some ⟨r,0,none⟩))) (M.set i (.iter r b l []))):EOp P e M ⟨dst,.range t x,ty,pos,af,g⟩ K:=
 EOp.of_run fun I F a w ho hs=>by
  have h1:=(ho.one (x:=x) (by simp [Op.operands]) hx).raw_inv;have hp:=hs.pull hm;obtain ⟨es,clk,h3,h4,h5⟩:=hp.obj _ Ai;have hlt:b<w.heap.size:=by
   rcases AA b w.heap.size with h'|h'
   exact h'
   simp [Am h'] at h3
  refine ⟨.pointer (some ⟨w.heap.size,0,none⟩),_,_,push w (.mapIter (some b) clk #[] clk),I,?_,.refl I,hk w.heap.size,.raw _ rfl,?_⟩
  simp only [execOp,h1,Instr.range,Sem.run_bind,run_underlying hf.mapD,Result.andThen_ok,zaU h3,Sem.run_pure,run_newObj];refine zbG hm (hp.change (m':= .iter w.heap.size b l []) (fun k hk hnk=> ?_) (fun k hk=> ?_) ?_ ⟨es,clk,#[],?_,?_,h4,rfl,h5⟩ rfl rfl rfl)
  simp [push,AN];intro h;omega
  simp [MObj.blocks] at hk⊢;omega
  simp [MObj.blocks];omega
  simp only [push,AN];rw [if_neg (by omega)];exact h3
  simp [push]
theorem zvg [Tracks] {x:Operand} {i r b:Nat} {l:List (HVal×HVal)} {vis:List Nat} (hx:zh e x=some (.raw (.pointer (some ⟨r,0,none⟩)))) (hm:M[i]? =some (.iter r b l vis)) (hv:vis.Nodup) (hvl: ∀j∈vis,j<l.length)
 (h0:vis.length=l.length->K (.tup [.bool false]) M) (h1: ∀(j:Nat) (p:HVal×HVal),l[j]? =some p->j∉vis->K (.tup [.bool true,p.1,p.2]) (M.set i (.iter r b l (vis++[j])))):EOp P e M ⟨dst,.next x false,ty,pos,af,g⟩ K:=
 EOp.of_run fun I F a w ho hs=>by
  have h2:=(ho.one (x:=x) (by simp [Op.operands]) hx).raw_inv;have hp:=hs.pull hm;obtain ⟨es,clk,seen,a1,a2,a3,a4,a5⟩:=hp.obj _ Ai;have hgr: ∀w1:World,w1.heap=w.heap->(getObj r).run P w1= .ok (.mapIter (some b) clk seen clk) w1:=fun w1 hw=>by simp [getObj,Sem.run,hw,a2]
  have hgb: ∀w1:World,w1.heap=w.heap->(getObj b).run P w1= .ok (.map es clk) w1:=fun w1 hw=>by simp [getObj,Sem.run,hw,a1]
  have hin: ∀(j:Nat) (m:MapEntry),es[j]? =some m->(seen.contains m.born=true↔j∈vis):=fun j m hj=>by
   have e1:seen.contains m.born=seen.toList.contains m.born:=by simp
   rw [e1,a4,Bq,List.mem_map]
   constructor
   rintro ⟨q,hq,e⟩;have hlt:=hvl q hq;have hq2:es[q]? =some es[q]:=Aq (by omega);rw [hq2] at e
   simp at e
   have:=a3.2.2 q j _ m hq2 hj e;rw [<-this];exact hq
   intro hq
   exact ⟨j,hq,by rw [hj];simp⟩
  have hbad:(!seen.isEmpty&& !es.isEmpty&&es.all (fun m=>decide (m.born>=clk)))=false:=by
   by_cases he:es.isEmpty=true
   simp [he]
   have hpos:0<es.size:=by
    rcases A5 es.size with h|h
    simp [Array.isEmpty,h] at he
    exact h
   have hb:=a3.2.1 0 _ (Aq hpos);have:es.all (fun m=>decide (m.born>=clk))=false:=by
    rw [B0]
    intro h
    have:=Array.all_eq_true.1 h 0 hpos
    simp at this;omega
   rw [this];simp
  have hold:(es.filter fun m=> !seen.contains m.born).filter (fun m=>decide (m.born<clk))=es.filter fun m=> !seen.contains m.born:=by
   rw [Array.filter_eq_self]
   intro m hm'
   obtain ⟨j,hj⟩:=BL (Array.mem_filter.1 hm').1
   simpa using a3.2.1 j m hj
  have hnew:(es.filter fun m=> !seen.contains m.born).filter (fun m=>decide (m.born>=clk))= #[]:=by
   rw [Array.filter_eq_empty_iff]
   intro m hm'
   obtain ⟨j,hj⟩:=BL (Array.mem_filter.1 hm').1;have:=a3.2.1 j m hj
   simp;omega
  have hrun:(execOp a.eval ⟨dst,.next x false,ty,pos,af,g⟩).run P w=((Instr.next (.pointer (some ⟨r,0,none⟩)) false ty).run P w).andThen fun v w=> .ok (.value v) w:=by
   simp only [execOp,h2,Sem.run_bind]
   rfl
  generalize hL:(es.filter fun m=> !seen.contains m.born)=left at hold hnew
  by_cases hemp:left.isEmpty=true
  have hfull:vis.length=l.length:=by
   apply Nat.le_antisymm
   have:=zmf (m:=List.range l.length) hv fun j hj=>List.mem_range.2 (hvl j hj)
   simpa using this
   have:=zmf (l:=List.range l.length) (m:=vis) List.nodup_range fun j hj=>by
    have hj':=List.mem_range.1 hj;have hq:es[j]? =some es[j]:=Aq (by omega);rw [<-hin j _ hq]
    cases hc:seen.contains es[j].born with
    |true=>rfl
    |false=>
      have:es[j]∈left:=by rw [<-hL];exact Array.mem_filter.2 ⟨Array.getElem_mem _,by rw [hc];rfl⟩
      have he:left= #[]:=Array.isEmpty_iff.1 hemp;rw [he] at this;simp at this
   simpa using this
  refine ⟨.tuple #[.bool false],.tup [.bool false],M,w,I,?_,.refl I,h0 hfull,.tup (by simp) (fun j c v h h'=> ?_),hs⟩
  rw [hrun];have he:left= #[]:=Array.isEmpty_iff.1 hemp;simp only [Instr.next,Sem.run_bind,hgr w rfl,hgb w rfl,Result.andThen_ok,hbad,AP,if_false,Sem.run_pure,hL,hold,hnew,hemp,if_true,he]
  simp [Question.forced]
  match j,h,h' with
  |0,h,h'=>simp at h h';subst h h';exact .bool _
  have hemp':left.isEmpty=false:=by simpa using hemp
  have hpos:0<left.size:=by
   rcases A5 left.size with h|h
   exfalso;apply hemp;simp [Array.isEmpty,h]
   exact h
  obtain ⟨c,w1,c1,c2,c3⟩: ∃c w1,(choose (.mapNext left.size)).run P w= .ok c w1/\c<left.size/\(w1=w\/w1={w with drawn:=w.drawn+1}):=by
   by_cases hf:(Question.mapNext left.size).forced=true
   exact ⟨0,w,by simp [hf],hpos,.inl rfl⟩;refine ⟨_,{w with drawn:=w.drawn+1},by simp [hf];rfl,?_,.inr rfl⟩
   simp only [Question.cut];exact BQ _ hpos
  have hw1:w1.heap=w.heap:=by rcases c3 with h|h<;>rw [h]
  have hmem:left[c]∈left:=Array.getElem_mem _;have hmf:left[c]∈es/\(!seen.contains left[c].born)=true:=by
   have h9: ∀m,m∈left->m∈es/\(!seen.contains m.born)=true:=fun m hm=>by rw [<-hL] at hm;exact Array.mem_filter.1 hm
   exact h9 _ hmem
  obtain ⟨j,hj⟩:=BL hmf.1;have hnv:j∉vis:=fun q=>by
   have:=(hin j _ hj).2 q;rw [this] at hmf;simp at hmf
  have hjl:j<l.length:=by
   have:j<es.size:=by
    rcases AA j es.size with h'|h'
    exact h'
    simp [Am h'] at hj
   omega
  have hlj:=Aa hjl;obtain ⟨k1,k2⟩:=a5 j _ _ hlj hj;refine ⟨.tuple #[.bool true,left[c].key,left[c].val],.tup [.bool true,l[j].1,l[j].2],_,{w1 with heap:=w1.heap.setIfInBounds r (.mapIter (some b) clk (seen.push left[c].born) clk)},I,?_,.refl I,h1 j _ hlj hnv,?_,?_⟩
  rw [hrun];have hcand:((#[]:Array (Option MapEntry))++(left++ #[]).map some).size=left.size:=by simp
  have hget:((#[]:Array (Option MapEntry))++(left++ #[]).map some)[c]? =some (some left[c]):=by simp [c2]
  simp only [Instr.next,Sem.run_bind,hgr w rfl,hgb w rfl,Result.andThen_ok,hbad,AP,if_false,Sem.run_pure,hL,hold,hnew,hemp',hcand,c1,hget]
  simp [setObj,Sem.run,hw1,a2]
  refine .tup (by simp) (fun q c v h h'=> ?_)
  match q,h,h' with
  |0,h,h'=>simp at h h';subst h h';exact .bool _
  |1,h,h'=>simp at h h';subst h h';exact k1
  |2,h,h'=>simp at h h';subst h h';exact k2
  have hrb:r≠b:=by
   have:=hp.nodup;simp only [blocks,AK,MObj.blocks] at this;have:=(List.nodup_append.1 this).1
   simp at this;exact this
  have hrl:r<w.heap.size:=by
   rcases AA r w.heap.size with h'|h'
   exact h'
   simp [Am h'] at a2
  refine zbG hm (hp.change (m':= .iter r b l (vis++[j])) (fun k hk hnk=> ?_) (fun k hk=> .inl hk) ?_ ⟨es,clk,seen.push left[c].born,?_,?_,a3,?_,a5⟩ (by rcases c3 with h|h<;>rw [h]) (by rcases c3 with h|h<;>rw [h]) (by rcases c3 with h|h<;>rw [h]) (fun _=>by rcases c3 with h|h<;>rw [h];(exact Af _);exact Bd _))
  have:k≠r:=fun q=>hnk (by rw [q];simp [MObj.blocks])
  simp only [hw1];rw [AE (Ne.symm this)]
  simp [MObj.blocks,hrb]
  simp only [hw1];rw [AE hrb];exact a1
  simp [hw1,hrl]
  simp [a4,hj]
theorem zoN [Tracks] {i r b:Nat} {l:List (HVal×HVal)} {vis:List Nat} (hm:M[i]? =some (.iter r b l vis)):Ghost e M e (M.set i (.map b l)):=fun _ I F tmps w h1 hs=>by
 have hp:=hs.pull hm;obtain ⟨es,clk,seen,a1,a2,a3,a4,a5⟩:=hp.obj _ Ai;exact ⟨I,.refl I,h1,zbG hm (hp.change (m':= .map b l) (fun _ _ _=>rfl) (fun k hk=> .inl (by simp [MObj.blocks] at hk⊢;exact .inr hk)) (by simp [MObj.blocks]) ⟨es,clk,a1,a3,a5⟩ rfl rfl rfl)⟩
end
end
section
section
variable {P:Program} {e:Env} {dst:Option Tmp} {ty:TypeId} {pos:String} {af:Array Edge} {g:Option (Nat×Bool)} {M:List MObj} {K:HVal->List MObj->Prop}
theorem zuk [Tracks] {x:Operand} {i r b j:Nat} {l:List (HVal×HVal)} {vis:List Nat} {p:HVal×HVal} (hx:zh e x=some (.raw (.pointer (some ⟨r,0,none⟩)))) (hm:M[i]? =some (.iter r b l (vis++[j]))) (hp':l[j]? =some p)
 (hk:K (.tup [p.1,p.2]) M):EOp P e M ⟨dst,.entry x,ty,pos,af,g⟩ K:=
 EOp.of_run fun I F a w ho hs=>by
  have h2:=(ho.one (x:=x) (by simp [Op.operands]) hx).raw_inv;have hp:=hs.pull hm;obtain ⟨es,clk,seen,a1,a2,a3,a4,a5⟩:=hp.obj _ Ai;have hjl:=zx hp';have hj:es[j]? =some es[j]:=Aq (by omega);obtain ⟨k1,k2⟩:=a5 j p _ hp' hj;have hback:seen.back? =some es[j].born:=by
   have:seen=(vis.map fun i=>((es[i]?).map (·.born)).getD 0).toArray.push es[j].born:=by
    apply B8
    rw [a4];simp [hj]
   rw [this];simp
  have hfind:es.find? (fun m=>m.born==es[j].born)=some es[j]:=by
   cases hf:es.find? (fun m=>m.born==es[j].born) with
   |none=>
     have:=Array.find?_eq_none.1 hf es[j] (Array.getElem_mem _)
     simp at this
   |some m=>
     have h1:=Array.find?_some hf;have h3:=Array.mem_of_find?_eq_some hf;obtain ⟨q,hq⟩:=BL h3;have:=a3.2.2 q j m _ hq hj (by simpa using h1);subst this;rw [hj] at hq;exact hq.symm
  refine ⟨.tuple #[es[j].key,es[j].val],.tup [p.1,p.2],M,w,I,?_,.refl I,hk,zlu k1 k2,hs⟩
  have hgr:(getObj r).run P w= .ok (.mapIter (some b) clk seen clk) w:=by simp [getObj,Sem.run,a2]
  have hgb:(getObj b).run P w= .ok (.map es clk) w:=by simp [getObj,Sem.run,a1]
  simp only [execOp,h2,Instr.entry,Sem.run_bind,hgr,Result.andThen_ok,hback,hgb,bne_self_eq_false,AP,if_false,hfind,Sem.run_pure]
end
section
variable {κ:Type} [DecidableEq κ]
def zdx (s:κ) (z:HVal) (ls:List (κ×HVal)):List (κ×HVal):=match zbI s ls with|some _=>ls|none=>ls++[(s,z)]
theorem zjq {s:κ} {z:HVal}: ∀{ls:List (κ×HVal)},zbI s ls=none->zbI s (ls++[(s,z)])=some ls.length
 |[],_=>by simp [zbI]
 |p::r,h=>by
   simp only [zbI] at h
   by_cases e:s=p.1
   rw [if_pos e] at h;simp at h;rw [if_neg e] at h;have hr:zbI s r=none:=by cases hq:zbI s r with|none=>rfl|some j=>rw [hq] at h;simp at h
   simp only [AT,zbI,if_neg e,zjq hr];simp
theorem zpT (s:κ) (z h:HVal) (ls:List (κ×HVal)):zdy s h (zdx s z ls)=zdy s h ls:=by
 unfold zdx
 cases hq:zbI s ls with
 |some j=>rfl
 |none=>
   simp only
   rw [(zeD (zjq (z:=z) hq)).choose_spec.2.2 h,(zfs hq).2 h]
   simp
theorem zvv {s:κ} {z:HVal} (ls:List (κ×HVal)):(klk s (zdx s z ls)).getD z=(klk s ls).getD z:=by
 unfold zdx
 cases hq:zbI s ls with
 |some j=>rfl
 |none=>
   obtain ⟨h,h1,h2,_⟩:=zeD (zjq (z:=z) hq)
   simp only
   rw [h2,(zfs hq).1]
   simp at h1;simp [h1]
variable {P:Program} {kt:TypeId} {ek:κ->HVal} {e:Env} {dst:Option Tmp} {ty:TypeId} {pos:String} {af:Array Edge} {g:Option (Nat×Bool)} {M:List MObj} {K:HVal->List MObj->Prop}
theorem zl1 [Tracks] {x y:Operand} {t et:TypeId} {size bytes s3 b3:Nat} {zero z3:Value} {d:TD} {i b:Nat} {ls:List (κ×HVal)} {s:κ}
 (hf:Fits P t (.map kt et) size bytes zero) (ok:KeyOk P kt ek) (het:Fits P et d s3 b3 z3) (hx:zh e x=some (.raw (.map (some b)))) (hy:zh e y=some (ek s)) (hm:M[i]? =some (.map b (kk ek ls)))
 (hk: ∀(j st:Nat),zbI s (zdx s (zaR z3) ls)=some j->K (.tup [(klk s ls).getD (zaR z3),.int .i64 (st:Int)]) (M.set i (.mape b (kk ek (zdx s (zaR z3) ls)) j st))):EOp P e M ⟨dst,.mapEntry t x y,ty,pos,af,g⟩ K:=
 EOp.of_run fun I F a w ho hs=>by
  have h1:=(ho.one (x:=x) (by simp [Op.operands]) hx).raw_inv;have h2:=ho.one (x:=y) (by simp [Op.operands]) hy;have hp:=hs.pull hm;obtain ⟨es,clk,h3,h4,h5⟩:=hp.obj _ Ai;obtain ⟨h6,h7⟩:=zol h4.1 h5;obtain ⟨n1,n2⟩:=zi0 ok h2 w es.toList ls 0 h6 h7;have hfk:=ok.run_key h2 w es.toList ls h6 h7;have hlt:b<w.heap.size:=by
   rcases AA b w.heap.size with h'|h'
   exact h'
   simp [Am h'] at h3
  have hsz:es.size=ls.length:=by simpa using h6
  have fin: ∀(ls':List (κ×HVal)) (es':Array MapEntry) (clk' j st:Nat),es'.size=(kk ek ls').length/\BornOk es' clk'->
   (∀(i:Nat) (p:HVal×HVal) (m:MapEntry),(kk ek ls')[i]? =some p->es'[i]? =some m->V I p.1 m.key/\V I p.2 m.val)->(∃m,es'[j]? =some m/\m.born=st)->
   Sat P I (M.set i (.mape b (kk ek ls') j st)++F) {w with heap:=w.heap.setIfInBounds b (.map es' clk')}:=fun ls' es' clk' j st e1 e2 e3=>by
   refine zbG hm (hp.change (m':= .mape b (kk ek ls') j st) (fun k hk hnk=> ?_) (fun k hk=> .inl hk) (by simp [MObj.blocks]) ⟨es',clk',by simp [hlt],e1,e2,e3⟩ rfl rfl rfl)
   have:k≠b:=by simpa [MObj.blocks] using hnk
   simp [AE (Ne.symm this)]
  cases hq:zbI s ls with
  |none=>
    have hke:zdx s (zaR z3) ls=ls++[(s,zaR z3)]:=by simp [zdx,hq]
    have hki:=zjq (z:=zaR z3) hq;have hlk:=(zfs hq).1;refine ⟨.tuple #[z3,.int .i64 clk],_,_,_,I,?_,.refl I,hk ls.length clk (by rw [hke];exact hki),by rw [hlk];exact zlu (zgp I z3) (.int _ _),
     fin _ (es.push ⟨a.eval y,z3,clk⟩) (clk+1) _ _ ⟨by rw [hke];simp [kk,hsz],h4.2.push rfl⟩ (fun j p m a1 a2=> ?_) ⟨⟨a.eval y,z3,clk⟩,by rw [<-hsz];simp,rfl⟩⟩
    simp only [execOp,h1,Instr.mapEntry,Sem.run_bind,run_underlying hf.mapD,Result.andThen_ok,zaU h3,ok.check I s _ _ w h2,hfk,n1 hq,Sem.run_pure,zdg h3,het.run_zero,goInt];rw [hke] at a1;simp only [kk,Ay,Ao,A3] at a1
    by_cases hj:j<ls.length
    rw [Ar (by simpa using hj)] at a1;rw [AN,if_neg (by omega)] at a2;exact h5 j p m (by simpa [kk] using a1) a2;rw [An (by simp;omega)] at a1;rw [AN] at a2
    by_cases hje:j=es.size
    rw [if_pos hje] at a2
    simp at a2
    subst a2;have:j-(ls.map fun p=>(ek p.1,p.2)).length=0:=by simp;omega
    rw [this] at a1
    simp at a1
    subst a1;exact ⟨h2,zgp I z3⟩;rw [if_neg hje,Am (by omega)] at a2
    cases a2
  |some j0=>
    obtain ⟨m0,h',g1,g2,g3,g4⟩:=n2 j0 hq;obtain ⟨h'',g5,g6,_⟩:=zeD hq;rw [g5] at g2;cases g2;have hke:zdx s (zaR z3) ls=ls:=by simp [zdx,hq]
    have hm0:es[j0]? =some m0:=by simpa using g1
    have hkey:V I (ek s) m0.key:=(h7 j0 _ m0 g5 g1).1;refine ⟨.tuple #[m0.val,.int .i64 m0.born],_,_,_,I,?_,.refl I,hk j0 m0.born (by rw [hke];exact hq),by rw [g6];exact zlu g3 (.int _ _),
     fin _ (es.modify j0 fun e=>{e with key:=a.eval y}) clk _ _ ⟨by rw [hke];simp [kk,hsz],h4.2.modify _ fun _=>rfl⟩ (fun j p m a1 a2=> ?_) ⟨{m0 with key:=a.eval y},by rw [AF,if_pos rfl,hm0];rfl,rfl⟩⟩
    have hstay:(Instr.keyThatStays m0.key (a.eval y)).run P w= .ok (a.eval y) w:=by
     simp only [Instr.keyThatStays];rw [if_pos (ok.same I s _ _ hkey h2)];rfl
    simp only [execOp,h1,Instr.mapEntry,Sem.run_bind,run_underlying hf.mapD,Result.andThen_ok,zaU h3,ok.check I s _ _ w h2,hfk,g4,Sem.run_pure,Bc,hstay,zdg h3,goInt,hm0,AM,Bh];rw [hke] at a1;rw [AF] at a2
    by_cases hj:j0=j
    subst hj;rw [if_pos rfl,hm0] at a2
    simp at a2
    subst a2;have:=h5 j0 p m0 a1 hm0;simp only [kk,Aj,g5,AM,Az] at a1;subst a1;exact ⟨h2,this.2⟩;rw [if_neg hj] at a2;exact h5 j p m a1 a2
theorem zke [Tracks] {x y z:Operand} {t:TypeId} {i b j st:Nat} {ls:List (κ×HVal)} {s:κ} {h:HVal}
 (hx:zh e x=some (.raw (.map (some b)))) (hy:zh e y=some (.int .i64 (st:Int))) (hz:zh e z=some h) (hm:M[i]? =some (.mape b (kk ek ls) j st)) (hj:zbI s ls=some j)
 (hk:K .junk (M.set i (.map b (kk ek (zdy s h ls))))):EOp P e M ⟨dst,.entryStore t x y z,ty,pos,af,g⟩ K:=
 zf3 fun I F a w ho hs=>by
  have h1:=(ho.one (x:=x) (by simp [Op.operands]) hx).raw_inv;have h2:=(ho.one (x:=y) (by simp [Op.operands]) hy).int_inv;have h0:=ho.one (x:=z) (by simp [Op.operands]) hz;have hp:=hs.pull hm;obtain ⟨es,clk,h3,h4,h5,m0,h6,h7⟩:=hp.obj _ Ai;have hlt:b<w.heap.size:=by
   rcases AA b w.heap.size with h'|h'
   exact h'
   simp [Am h'] at h3
  obtain ⟨h',g1,_,g2⟩:=zeD hj;have hjl:j<es.size:=by
   rcases AA j es.size with h'|h'
   exact h'
   simp [Am h'] at h6
  have hfi:es.findIdx? (fun m=>(m.born:Int)==(st:Int))=some j:=by
   rw [Array.findIdx?_eq_some_iff_getElem];refine ⟨hjl,?_,fun q hq=> ?_⟩
   rw [Aq hjl] at h6;have:=Av h6;rw [this];simp [h7]
   intro hc
   have hq2:=Aq (xs:=es) (i:=q) (by omega);have:=h4.2.2 q j _ m0 hq2 h6 (by have h8:((es[q].born:Nat):Int)=(st:Int):=(by simpa using hc);omega)
   omega
  refine ⟨_,{w with heap:=w.heap.setIfInBounds b (.map (es.modify j fun e=>{e with val:=a.eval z}) clk)},I,?_,.refl I,hk,?_⟩
  simp only [execOp,h1,h2,Instr.entryStore,Sem.run_bind,zaU h3,Result.andThen_ok,asInt,asIntOf,Sem.run_pure,hfi,zdg h3];refine zbG hm (hp.change (m':= .map b (kk ek (zdy s h ls))) (fun k hk hnk=> ?_) (fun k hk=> .inl hk) (by simp [MObj.blocks]) ⟨es.modify j fun e=>{e with val:=a.eval z},clk,by simp [hlt],⟨by rw [g2];simp [kk];simpa [kk] using h4.1,h4.2.modify _ fun _=>rfl⟩,fun q p m a1 a2=> ?_⟩ rfl rfl rfl)
  have:k≠b:=by simpa [MObj.blocks] using hnk
  simp [AE (Ne.symm this)]
  rw [g2] at a1;simp only [kk] at a1;rw [AF] at a2;rw [Aj,List.getElem?_set] at a1
  by_cases hjq:j=q
  subst hjq;have hl:=zx g1;rw [if_pos rfl,h6] at a2;rw [if_pos rfl,if_pos hl] at a1
  simp at a1 a2
  subst a1 a2;exact ⟨(h5 j (ek s,h') m0 (by simp [kk,g1]) h6).1,h0⟩;rw [if_neg hjq] at a1 a2;exact h5 q p m (by simp only [kk,Aj];exact a1) a2
end
end
section
section
variable {κ:Type} [DecidableEq κ] {α:Type}
def alk (x:κ):List (κ×α)->Option α
 |[]=>none
 |p::r=>if x=p.1 then some p.2 else alk x r
def zy (x:κ) (v:α):List (κ×α)->List (κ×α)
 |[]=>[(x,v)]
 |p::r=>if x=p.1 then (x,v)::r else p::zy x v r
abbrev em (f:α->HVal) (L:List (κ×α)):List (κ×HVal):=L.map fun p=>(p.1,f p.2)
theorem zom (f:α->HVal) (x:κ): ∀L:List (κ×α),klk x (em f L)=(alk x L).map f
 |[]=>rfl
 |p::r=>by
   have ih:=zom f x r;simp only [Ao,klk,alk] at ih⊢
   by_cases h:x=p.1
   rw [if_pos h,if_pos h];rfl;rw [if_neg h,if_neg h];exact ih
theorem zmE (f:α->HVal) (x:κ) (v:α): ∀L:List (κ×α),zdy x (f v) (em f L)=em f (zy x v L)
 |[]=>rfl
 |p::r=>by
   have ih:=zmE f x v r;simp only [Ao,zdy,zy] at ih⊢
   by_cases h:x=p.1
   rw [if_pos h,if_pos h];rfl;rw [if_neg h,if_neg h,ih];rfl
theorem zbQ (x y:κ) (v:α): ∀(l:List (κ×α)),alk y (zy x v l)=if y=x then some v else alk y l
 |[]=>by simp [zy,alk]
 |p::r=>by
   have ih:=zbQ x y v r;simp only [zy]
   by_cases h:x=p.1
   subst h;rw [if_pos rfl];simp only [alk]
   by_cases hy:y=p.1
   rw [if_pos hy,if_pos hy];rw [if_neg hy,if_neg hy,if_neg hy];rw [if_neg h];simp only [alk]
   by_cases hy:y=p.1
   have: ¬y=x:=fun e=>h (e▸hy)
   rw [if_pos hy,if_neg this,if_pos hy];rw [if_neg hy,ih,if_neg hy]
theorem zff {x:κ}: ∀{l:List (κ×α)},alk x l=none↔x∉l.map (·.1)
 |[]=>by simp [alk]
 |p::r=>by
   have ih:=zff (x:=x) (l:=r);simp only [alk,Ao,BH,not_or]
   by_cases h:x=p.1
   rw [if_pos h];simp [h];rw [if_neg h,ih];simp [h]
theorem znc {x:κ} {v:α}: ∀{l:List (κ×α)},alk x l=none->zy x v l=l++[(x,v)]
 |[],_=>rfl
 |p::r,h=>by
   simp only [alk] at h
   by_cases hx:x=p.1
   rw [if_pos hx] at h;cases h;rw [if_neg hx] at h;simp only [zy,if_neg hx,AT,znc h]
theorem zlv {x y:κ} {v:α}: ∀{l:List (κ×α)},y∈(zy x v l).map (·.1)↔y=x\/y∈l.map (·.1)
 |[]=>by simp [zy]
 |p::r=>by
   have ih:=zlv (x:=x) (y:=y) (v:=v) (l:=r);simp only [zy]
   by_cases h:x=p.1
   subst h;rw [if_pos rfl];simp;rw [if_neg h];simp only [Ao,BH,ih]
   constructor
   rintro (h|h|h);exact .inr (.inl h);exact .inl h;exact .inr (.inr h);rintro (h|h|h);exact .inr (.inl h);exact .inl h;exact .inr (.inr h)
def ANodup (l:List (κ×α)):Prop:=(l.map (·.1)).Nodup
theorem ANodup.nil {A B:Type}:ANodup ([]:List (A×B)):=A4
theorem ANodup.put {x:κ} {v:α}: ∀{l:List (κ×α)},ANodup l->ANodup (zy x v l)
 |[],_=>by simp [ANodup,zy]
 |p::r,hn=>by
   have h1:=(List.nodup_cons.1 hn)
   by_cases h:x=p.1
   subst h;have e:zy p.1 v (p::r)=(p.1,v)::r:=by simp [zy]
   rw [e];exact List.nodup_cons.2 h1;have e:zy x v (p::r)=p::zy x v r:=by simp [zy,h]
   rw [e];refine List.nodup_cons.2 ⟨fun hm=> ?_,ANodup.put (l:=r) h1.2⟩
   rcases zlv.1 hm with e|e
   exact h e.symm;exact h1.1 e
theorem ziq {x:κ} {v:α}: ∀{l:List (κ×α)},ANodup l->((x,v)∈l↔alk x l=some v)
 |[],_=>by simp [alk]
 |p::r,hn=>by
   have h1:=(List.nodup_cons.1 hn);have ih:=ziq (x:=x) (v:=v) (l:=r) h1.2;simp only [BH,alk]
   by_cases h:x=p.1
   subst h;rw [if_pos rfl]
   constructor
   rintro (h|h);rw [<-h];exact absurd (List.mem_map_of_mem (f:=(·.1)) h) h1.1
   intro h;left;simp at h;rw [<-h]
   rw [if_neg h,<-ih]
   constructor
   rintro (h'|h');exact absurd (by rw [<-h']) h;exact h';exact .inr
theorem zbv {x:κ} {v:α}: ∀{l:List (κ×α)},alk x l=some v->(x,v)∈l
 |[],h=>by simp [alk] at h
 |p::r,h=>by
   simp only [alk] at h
   by_cases hx:x=p.1
   rw [if_pos hx] at h;cases h;rw [hx];exact Ai;rw [if_neg hx] at h;exact Ap _ (zbv h)
theorem znb (x:κ) (v:α): ∀(l:List (κ×α)),(zy x v l).length=if (alk x l).isSome then l.length else l.length+1
 |[]=>by simp [zy,alk]
 |p::r=>by
   have ih:=znb x v r
   by_cases h:x=p.1
   have e1:zy x v (p::r)=(x,v)::r:=by simp [zy,h]
   have e2:alk x (p::r)=some p.2:=by simp [alk,h]
   rw [e1,e2];simp;have e1:zy x v (p::r)=p::zy x v r:=by simp [zy,h]
   have e2:alk x (p::r)=alk x r:=by simp [alk,h]
   rw [e1,e2,Ah,ih];split<;>simp
theorem zoP (x:κ) (v:α) (l:List (κ×α)):(zy x v l).length<=l.length+1:=by rw [znb];split<;>omega
theorem zdA {x:κ} {v:α} {p:κ×α}: ∀{l:List (κ×α)},p∈zy x v l->p=(x,v)\/p∈l
 |[],hp=>by simp [zy] at hp;exact .inl hp
 |q::r,hp=>by
   simp only [zy] at hp
   by_cases h:x=q.1
   rw [if_pos h] at hp
   rcases List.mem_cons.1 hp with e|e
   exact .inl e;exact .inr (Ap _ e);rw [if_neg h] at hp
   rcases List.mem_cons.1 hp with e|e
   exact .inr (e▸Ai)
   rcases zdA e with e|e
   exact .inl e;exact .inr (Ap _ e)
theorem zk6 (f:α->HVal) (s:Str): ∀L:List (Str×α),(z6 s (em f L)).map (·.2)=(alk s L).map f
 |[]=>rfl
 |p::r=>by
   have ih:=zk6 f s r;obtain ⟨k,v⟩:=p;simp only [Ao,z6,alk] at ih⊢
   by_cases h:s=k
   rw [if_pos h,if_pos h];rfl;rw [if_neg h,if_neg h,<-ih];cases z6 s (r.map fun p=>(p.1,f p.2))<;>rfl
theorem zsO (f:α->HVal) (s:Str) (v:α): ∀L:List (Str×α),sput s (f v) (em f L)=em f (zy s v L)
 |[]=>rfl
 |p::r=>by
   have ih:=zsO f s v r;obtain ⟨k,u⟩:=p;simp only [sput,Ao,z6,zy] at ih⊢
   by_cases h:s=k
   subst h;rw [if_pos rfl,if_pos rfl];rfl;rw [if_neg h,if_neg h]
   cases hq:z6 s (r.map fun p=>(p.1,f p.2)) with
   |none=>rw [hq] at ih;simp only [Option.map_none,AT,Ao,<-ih]
   |some q=>rw [hq] at ih;simp only [AM,BX,Ao,<-ih]
end
section
variable {κ:Type} [DecidableEq κ] {α:Type}
variable {P:Program} {e:Env} {dst:Option Tmp} {ty:TypeId} {pos:String} {af:Array Edge} {g:Option (Nat×Bool)} {M:List MObj} {K:HVal->List MObj->Prop}
theorem zoe {f:α->HVal} {o:Option α} {z0:α}:f (o.getD z0)=(o.map f).getD (f z0):=by cases o<;>rfl
theorem ze3 [Tracks] {x y:Operand} {t kt et:TypeId} {size bytes s2 b2 s3 b3:Nat} {zero z2 z3:Value} {d:TD} {i b:Nat} {f:α->HVal} {L:List (Str×α)} {s:Str} {z0:α}
 (hf:Fits P t (.map kt et) size bytes zero) (hkt:Fits P kt .str s2 b2 z2) (het:Fits P et d s3 b3 z3) (hx:zh e x=some (.raw (.map (some b)))) (hy:zh e y=some (.str s)) (hm:M[i]? =some (.map b (sk (em f L)))) (hz:zaR z3=f z0)
 (hk:K (f ((alk s L).getD z0)) M):EOp P e M ⟨dst,.lookup t x y false,ty,pos,af,g⟩ K:=by
 refine zn9 hf hkt het hx hy hm ?_;rw [zoe (f:=f),<-zk6,<-hz] at hk
 cases h:z6 s (em f L) with
 |none=>rw [h] at hk;exact hk
 |some p=>rw [h] at hk;exact hk
theorem ziO [Tracks] {x y:Operand} {t kt et:TypeId} {size bytes s2 b2 s3 b3:Nat} {zero z2 z3:Value} {d:TD} {i b:Nat} {f:α->HVal} {L:List (Str×α)} {s:Str} {z0:α}
 (hf:Fits P t (.map kt et) size bytes zero) (hkt:Fits P kt .str s2 b2 z2) (het:Fits P et d s3 b3 z3) (hx:zh e x=some (.raw (.map (some b)))) (hy:zh e y=some (.str s)) (hm:M[i]? =some (.map b (sk (em f L)))) (hz:zaR z3=f z0)
 (hk:K (.tup [f ((alk s L).getD z0),.bool (alk s L).isSome]) M):EOp P e M ⟨dst,.lookup t x y true,ty,pos,af,g⟩ K:=by
 refine zr1 hf hkt het hx hy hm ?_;have h1:(alk s L).isSome=((alk s L).map f).isSome:=by cases alk s L<;>rfl
 rw [zoe (f:=f),h1,<-zk6,<-hz] at hk
 cases h:z6 s (em f L) with
 |none=>rw [h] at hk;exact hk
 |some p=>rw [h] at hk;exact hk
theorem zck [Tracks] {x y z:Operand} {t kt et:TypeId} {size bytes s2 b2:Nat} {zero z2:Value} {i b:Nat} {f:α->HVal} {L:List (Str×α)} {s:Str} {v:α}
 (hf:Fits P t (.map kt et) size bytes zero) (hkt:Fits P kt .str s2 b2 z2) (hx:zh e x=some (.raw (.map (some b)))) (hy:zh e y=some (.str s)) (hz:zh e z=some (f v)) (hm:M[i]? =some (.map b (sk (em f L))))
 (hk:K .junk (M.set i (.map b (sk (em f (zy s v L)))))):EOp P e M ⟨dst,.mapUpdate t x y z,ty,pos,af,g⟩ K:=by
 refine zli hf hkt hx hy hz hm ?_;rw [zsO];exact hk
variable {kt:TypeId} {ek:κ->HVal}
theorem ziP [Tracks] {x y:Operand} {t et:TypeId} {size bytes s3 b3:Nat} {zero z3:Value} {d:TD} {i b:Nat} {f:α->HVal} {L:List (κ×α)} {s:κ} {z0:α}
 (hf:Fits P t (.map kt et) size bytes zero) (ok:KeyOk P kt ek) (het:Fits P et d s3 b3 z3) (hx:zh e x=some (.raw (.map (some b)))) (hy:zh e y=some (ek s)) (hm:M[i]? =some (.map b (kk ek (em f L)))) (hz:zaR z3=f z0)
 (hk:K (f ((alk s L).getD z0)) M):EOp P e M ⟨dst,.lookup t x y false,ty,pos,af,g⟩ K:=by
 refine zr2 hf ok het hx hy hm ?_;rw [zoe (f:=f),<-hz] at hk;rw [zom];exact hk
theorem zrf [Tracks] {x y:Operand} {t et:TypeId} {size bytes s3 b3:Nat} {zero z3:Value} {d:TD} {i b j st:Nat} {f:α->HVal} {L:List (κ×α)} {s:κ} {z0:α}
 (hf:Fits P t (.map kt et) size bytes zero) (ok:KeyOk P kt ek) (het:Fits P et d s3 b3 z3) (hx:zh e x=some (.raw (.map (some b)))) (hy:zh e y=some (ek s)) (hm:M[i]? =some (.mape b (kk ek (zdx s (f z0) (em f L))) j st)) (hz:zaR z3=f z0)
 (hk:K (f ((alk s L).getD z0)) M):EOp P e M ⟨dst,.lookup t x y false,ty,pos,af,g⟩ K:=by
 have h0:f ((alk s L).getD z0)=(klk s (zdx s (f z0) (em f L))).getD (zaR z3):=by rw [hz,zvv,zom,zoe (f:=f)]
 rw [h0] at hk
 generalize zdx s (f z0) (em f L)=ls at hm hk
 exact EOp.of_run fun I F a w ho hs=>by
  have h1:=(ho.one (x:=x) (by simp [Op.operands]) hx).raw_inv;have h2:=ho.one (x:=y) (by simp [Op.operands]) hy;obtain ⟨es,clk,h3,h4,h5,_⟩:=hs.obj _ (As _ (Ac hm));obtain ⟨h6,h7⟩:=zol h4.1 h5;obtain ⟨n1,n2⟩:=zi0 ok h2 w es.toList ls 0 h6 h7;have hfk:=ok.run_key h2 w es.toList ls h6 h7
  cases hq:zbI s ls with
  |none=>
    rw [(zfs hq).1] at hk;refine ⟨z3,_,M,w,I,?_,.refl I,hk,zgp I z3,hs⟩
    simp only [execOp,h1,Instr.lookup,Sem.run_bind,run_underlying hf.mapD,Result.andThen_ok,zaU h3,Sem.run_pure,ok.check I s _ _ w h2,hfk,n1 hq,het.run_zero]
    simp
  |some j'=>
    obtain ⟨m,h,g1,g2,g3,g4⟩:=n2 j' hq;obtain ⟨h',g5,g6,_⟩:=zeD hq;rw [g5] at g2;cases g2;rw [g6] at hk;refine ⟨m.val,_,M,w,I,?_,.refl I,hk,g3,hs⟩
    simp only [execOp,h1,Instr.lookup,Sem.run_bind,run_underlying hf.mapD,Result.andThen_ok,zaU h3,Sem.run_pure,ok.check I s _ _ w h2,hfk,g4]
    simp
theorem zrg [Tracks] {x y z:Operand} {t et:TypeId} {size bytes:Nat} {zero:Value} {i b:Nat} {f:α->HVal} {L:List (κ×α)} {s:κ} {v:α}
 (hf:Fits P t (.map kt et) size bytes zero) (ok:KeyOk P kt ek) (hx:zh e x=some (.raw (.map (some b)))) (hy:zh e y=some (ek s)) (hz:zh e z=some (f v)) (hm:M[i]? =some (.map b (kk ek (em f L))))
 (hk:K .junk (M.set i (.map b (kk ek (em f (zy s v L)))))):EOp P e M ⟨dst,.mapUpdate t x y z,ty,pos,af,g⟩ K:=by
 refine zr3 hf ok hx hy hz hm ?_;rw [zmE];exact hk
theorem zqo [Tracks] {x y:Operand} {t et:TypeId} {size bytes s3 b3:Nat} {zero z3:Value} {d:TD} {i b:Nat} {f:α->HVal} {L:List (κ×α)} {s:κ} {z0:α}
 (hf:Fits P t (.map kt et) size bytes zero) (ok:KeyOk P kt ek) (het:Fits P et d s3 b3 z3) (hx:zh e x=some (.raw (.map (some b)))) (hy:zh e y=some (ek s)) (hm:M[i]? =some (.map b (kk ek (em f L)))) (hz:zaR z3=f z0)
 (hk: ∀(j st:Nat),zbI s (zdx s (f z0) (em f L))=some j->K (.tup [f ((alk s L).getD z0),.int .i64 (st:Int)]) (M.set i (.mape b (kk ek (zdx s (f z0) (em f L))) j st))):EOp P e M ⟨dst,.mapEntry t x y,ty,pos,af,g⟩ K:=by
 refine zl1 hf ok het hx hy hm ?_;rw [hz];have h1:(klk s (em f L)).getD (f z0)=f ((alk s L).getD z0):=by rw [zom];cases alk s L<;>rfl
 rw [h1];exact hk
theorem zn8 [Tracks] {x y z:Operand} {t:TypeId} {i b j st:Nat} {f:α->HVal} {L:List (κ×α)} {s:κ} {z0 v:α}
 (hx:zh e x=some (.raw (.map (some b)))) (hy:zh e y=some (.int .i64 (st:Int))) (hz:zh e z=some (f v)) (hm:M[i]? =some (.mape b (kk ek (zdx s (f z0) (em f L))) j st)) (hj:zbI s (zdx s (f z0) (em f L))=some j)
 (hk:K .junk (M.set i (.map b (kk ek (em f (zy s v L)))))):EOp P e M ⟨dst,.entryStore t x y z,ty,pos,af,g⟩ K:=by
 refine zke hx hy hz hm hj ?_;rw [zpT,zmE];exact hk
theorem zid [Tracks] {x:Operand} {t kt' et:TypeId} {size bytes:Nat} {zero:Value} {i b:Nat} {l:List (HVal×HVal)} (hf:Fits P t (.map kt' et) size bytes zero) (hx:zh e x=some (.raw (.map (some b)))) (hm:M[i]? =some (.map b l))
 (hk:K (.int .i64 (l.length:Int)) M):EOp P e M ⟨dst,.call ⟨.builtin .len,#[x],#[t]⟩,ty,pos,af,g⟩ K:=
 EOp.of_run fun I F a w ho hs=>by
  have h1:=(ho.one (x:=x) (by simp [Op.operands,Call.operands]) hx).raw_inv;obtain ⟨es,clk,h3,h4,h5⟩:=hs.obj _ (As _ (Ac hm));exact ⟨.int .i64 (es.size:Int),_,M,w,I,by rw [zkl (ats:= #[])];simp [h1,Builtin.len_,run_underlying hf.mapD,zaU h3,goInt],.refl I,hk,by rw [h4.1];exact .int _ _,hs⟩
end
end
section
open Go.Sort Go.Proofs
structure Play where
 Source:Str
 No:Int
 At:Int
 Week:Int
 Match:Str
 Player:Str
 Stat:Str
 Count:Int
 Undo:Int
structure StatS where
 Name:Str
 Count:Int
structure LineS where
 Player:Str
 Week:Int
 Stats:List StatS
abbrev zav (x:Play):HVal:= .agg [.str x.Source,.int .i64 x.No,.int .i64 x.At,.int .i64 x.Week,.str x.Match,.str x.Player,.str x.Stat,.int .i64 x.Count,.int .i64 x.Undo]
abbrev zcV (l:List Play):HVal:= .slice 9 (l.map zav)
abbrev Num:=Str×Int
abbrev Of2:=Str×Str
abbrev ztm (x:Num):HVal:= .agg [.str x.1,.int .i64 x.2]
def zox:Play:=⟨[],0,0,0,[],[],[],0,0⟩
def zbc (n:Int):Bool:= !(out n 1 60)
def playFault (p:Play):Int:=
 if !(key p.Source) then 5 else if out p.No 1 3000|| !(zL p.At)|| !(zbc p.Week) then 1
 else if !(key p.Match)|| !(key p.Player)|| !(key p.Stat) then 5
 else if out p.Count (-100000) 100000||out p.Undo 0 (p.No-1) then 1
 else if decide (0<p.Undo)&&decide (p.Count≠0) then 3 else 0
def byNo (a b:Play):Int:=orI [zab a.Source b.Source,zaj a.No b.No]
def zcx (l:List Play):Nat->List Play->Int
 |_,[]=>0
 |k,p::r=>if playFault p≠0 then playFault p else if 0<k/\byNo p (l.getD (k-1) zox)<=0 then 7 else zcx l (k+1) r
structure ChkS where
 S:List Str
 W:List (Str×Int)
 c:Bool
def zhh (q:ChkS) (p:Play):ChkS:=
 ⟨zdb p.Source q.S,zy p.Match p.Week q.W,q.c||((alk p.Match q.W).isSome&&((alk p.Match q.W).getD 0 !=p.Week))⟩
def zbn (l:List Play):ChkS:=l.foldl zhh ⟨[],[],false⟩
theorem zeK {l:List Play} {k:Nat} {x:Play} (h:l[k]? =some x):zbn (l.take (k+1))=zhh (zbn (l.take k)) x:=by
 rw [za1 h];simp [zbn,List.foldl_append]
def zeE (q:ChkS):Int:=if 20<q.S.length\/400<q.W.length then 2 else if q.c then 13 else 0
def zf8 (l:List Play):Int:=if 3000<l.length then 2 else if zcx l 0 l≠0 then zcx l 0 l else zeE (zbn l)
theorem zk0 {l:List Play} {k:Nat} {x:Play} {r:List Play} (h1:playFault x=0) (h2:0<k->¬byNo x (l.getD (k-1) zox)<=0):zcx l k (x::r)=zcx l (k+1) r:=by
 rw [zcx,if_neg (by simp [h1]),if_neg (fun h=>h2 h.1 h.2)]
theorem zjv {l:List Play} {c:Int} (h1:l.length<=3000) (h:zcx l 0 l=c) (hc:c≠0):zf8 l=c:=by
 rw [zf8,if_neg (by omega),if_pos (by rw [h];exact hc),h]
theorem ze5 {l:List Play} (h1:l.length<=3000) (h:zcx l 0 l=0):zf8 l=zeE (zbn l):=by
 rw [zf8,if_neg (by omega),if_neg (by simp [h])]
theorem zg2 {p:Play} (h:playFault p=0):key p.Source=true/\(1<=p.No/\p.No<=3000)/\zL p.At=true/\zbc p.Week=true/\(key p.Match=true/\key p.Player=true/\key p.Stat=true)/\(-100000<=p.Count/\p.Count<=100000)/\(0<=p.Undo/\p.Undo<=p.No-1):=by
 unfold playFault at h
 split at h
 omega
 split at h
 omega
 split at h
 omega
 split at h
 omega
 rename_i h1 h2 h3 h4
 simp only [B9,Bool.not_eq_true',not_or,Bool.not_eq_false,B3] at h1 h2 h3 h4;exact ⟨h1,zeP h2.1.1,h2.1.2,h2.2,⟨h3.1.1,h3.1.2,h3.2⟩,zeP h4.1,zeP h4.2⟩
def zu4 (trust:List Str) (at':Int) (B:List (Str×Int)) (p:Play):List (Str×Int):=
 if at'<p.At\/zeL p.Source trust 0<0 then B
 else if (alk p.Match B).isSome=false\/zeL p.Source trust 0<(alk p.Match B).getD 0 then zy p.Match (zeL p.Source trust 0) B else B
def zyx (l:List Play) (trust:List Str) (at':Int):List (Str×Int):=l.foldl (zu4 trust at') []
def zAq (l:List Play) (trust:List Str) (at':Int) (m:Str):Option Str:=(alk m (zyx l trust at')).map fun k=>trust.getD k.toNat []
/-! what is taken back-/
structure LnS where
 S:List Str
 c:List (Of2×Int)
def zAd (q:LnS) (p:Play):LnS:=⟨zdb p.Player q.S,zy (p.Player,p.Stat) ((alk (p.Player,p.Stat) q.c).getD 0+p.Count) q.c⟩
def zhe (a b:StatS):Int:=zab a.Name b.Name
def zk3 (c:List (Of2×Int)) (s:Str):List StatS:=(c.filter fun e=>e.1.1==s&&e.2 !=0).map fun e=>⟨e.1.2,e.2⟩
def zdU (l:List Str):Nat->List Str->Int
 |_,[]=>0
 |k,s::r=>if !(key s) then 5 else if (l.take k).contains s then 6 else zdU l (k+1) r
def zeZ (l:List Str):Int:=if 20<l.length then 2 else zdU l 0 l
theorem zsv {s:Str} (h:key s=true):s.length<=40:=by
 simp only [key,zjp,Bool.and_eq_true,decide_eq_true_eq] at h;exact h.1.1.1.2
theorem zoi {α:Type} {c:α->α->Int} (hc:Cmp c fun _=>True) {l l':List α} (he: ∀x y,x∈l->y∈l->c x y=0->x=y) (hp:l'.Perm l) (hw:l'.Pairwise fun a b=> ¬c b a<0):l'=zaQ c l:=by
 have hs:=ziU hc (l:=l) (fun _ _=>trivial);have hw':l'.Pairwise fun a b=>c a b<=0:=hw.imp fun {a b} h=>by
  have:=hc.flip b a trivial trivial
  omega
 refine List.Perm.eq_of_pairwise (le:=fun a b=>c a b<=0) (fun a b ha hb h1 h2=> ?_) hw' hs (hp.trans (zb5 c l).symm)
 have f1:=hc.flip a b trivial trivial;exact he a b (hp.mem_iff.1 ha) ((zb5 c l).mem_iff.1 hb) (by omega)
theorem zkv:Cmp zhe fun _=>True where
 flip x y _ _:=by unfold zhe;rw [zeB x.Name y.Name];omega
 trans x y z _ _ _ h1 h2:=zgQ h1 h2
theorem zxP {α:Type} {c:α->α->Int} (hc:Cmp c fun _=>True):SWO (ltOf c):=by
 have h: ∀a b,ltOf c a b=decide (c a b<0):=fun a b=>rfl
 refine ⟨fun x=> ?_,fun x y z h1 h2=> ?_,fun x y z h1 h2=> ?_⟩
 rw [h];have:=hc.flip x x trivial trivial;simp;omega;rw [h] at*;simp only [decide_eq_true_eq] at*;have a1:=hc.trans x y z trivial trivial trivial (by omega) (by omega)
 rcases Int.lt_or_eq_of_le a1 with e|e
 exact e
 exfalso
 have f1:=hc.flip x z trivial trivial;have a2:=hc.trans z x y trivial trivial trivial (by have:=hc.flip z x trivial trivial;omega) (by omega);have f2:=hc.flip y z trivial trivial
 omega
 rw [h] at*;simp only [decide_eq_false_iff_not] at*;have f1:=hc.flip x y trivial trivial;have f2:=hc.flip y z trivial trivial;have f3:=hc.flip x z trivial trivial;have g1:=hc.flip y x trivial trivial;have g2:=hc.flip z y trivial trivial;have g3:=hc.flip z x trivial trivial;have:=hc.trans z y x trivial trivial trivial (by omega) (by omega)
 omega
end
section
theorem zvA {α:Type} {l:List α} (h:l.Nodup) {i j:Nat} {a:α} (hi:l[i]? =some a) (hj:l[j]? =some a):i=j:=by
 have key: ∀(i j:Nat),i<j->l[i]? =some a->l[j]? =some a->False:=fun i j hij h1 h2=>by
  have hi:=zx h1;have hj:=zx h2;rw [Aa hi] at h1;rw [Aa hj] at h2;exact List.pairwise_iff_getElem.1 h i j hi hj hij (Av (h1.trans h2.symm))
 rcases BK i j with h'|h'|h'
 exact (key i j h' hi hj).elim;exact h';exact (key j i h' hj hi).elim
/-! what a range has come to-/
structure VisOk {β:Type} (L:List β) (vis:List Nat) (E:List β):Prop where
 nd:vis.Nodup
 lt: ∀j∈vis,j<L.length
 eq:E.map some=vis.map fun j=>L[j]?
theorem VisOk.nil {β:Type} (L:List β):VisOk L [] []:=⟨A4,(fun j h=>by cases h),rfl⟩
theorem VisOk.step {β:Type} {L E:List β} {vis:List Nat} (h:VisOk L vis E) {j:Nat} {q:β} (hj:L[j]? =some q) (hn:j∉vis):VisOk L (vis++[j]) (E++[q]) where
 nd:=List.nodup_append.2 ⟨h.nd,by simp,fun a ha b hb=>by simp at hb;subst hb;exact fun e=>hn (e▸ha)⟩
 lt k hk:=by
  rcases List.mem_append.1 hk with hk|hk
  exact h.lt k hk
  simp at hk;subst hk;exact zx hj
 eq:=by simp only [Ay,h.eq,Ao,A3,hj]
theorem VisOk.len {β:Type} {L E:List β} {vis:List Nat} (h:VisOk L vis E):E.length=vis.length:=by
 have:=congrArg List.length h.eq;simpa using this
theorem VisOk.le {β:Type} {L E:List β} {vis:List Nat} (h:VisOk L vis E):vis.length<=L.length:=by
 have:=zmf h.nd (m:=List.range L.length) fun j hj=>List.mem_range.2 (h.lt j hj)
 simpa using this
theorem VisOk.room {β:Type} {L E:List β} {vis:List Nat} (h:VisOk L vis E) {j:Nat} {q:β} (hj:L[j]? =some q) (hn:j∉vis):vis.length<L.length:=by
 have:=(h.step hj hn).le;rw [AB] at this;simp only [Ah,Al] at this
 omega
theorem VisOk.done {β:Type} {L E:List β} {vis:List Nat} (h:VisOk L vis E) (hl:vis.length=L.length):E.Perm L:=by
 have hp:vis.Perm (List.range L.length):=by
  refine (Bv h.nd List.nodup_range).2 fun a=>⟨fun ha=>List.mem_range.2 (h.lt a ha),fun ha=> ?_⟩
  refine Classical.byContradiction fun hna=> ?_
  have h1:(a::vis).Nodup:=List.nodup_cons.2 ⟨hna,h.nd⟩;have h2:=zmf h1 (m:=List.range L.length) fun j hj=>by
   rcases List.mem_cons.1 hj with rfl|hj
   exact ha;exact List.mem_range.2 (h.lt j hj)
  simp at h2;omega
 have h1:=hp.map fun j=>L[j]?
 rw [<-h.eq] at h1;have h2:((List.range L.length).map fun j=>L[j]?)=L.map some:=by
  refine List.ext_getElem? fun i=> ?_
  rw [Aj,Aj]
  rcases AA i L.length with hi|hi
  rw [BE hi,Aa hi];simp [hi];rw [AG (by simpa using hi),AG hi];rfl
 rw [h2] at h1;have h3:=h1.filterMap id;have key: ∀l:List β,(l.map some).filterMap id=l:=fun l=>by
  induction l with
  |nil=>rfl
  |cons x l ih=>simp [ih]
 rwa [key,key] at h3
def NextOk {β:Type} (L:List β) (vis:List Nat) (c:Bool) (vis':List Nat):Prop:=
 (c=false/\vis'=vis/\vis.length=L.length)\/(c=true/\∃j q,L[j]? =some q/\j∉vis/\vis'=vis++[j])
theorem NextOk.t {β:Type} {L:List β} {vis vis':List Nat} {c:Bool} (h:NextOk L vis c vis') (hc:c=true): ∃j q,L[j]? =some q/\j∉vis/\vis'=vis++[j]:=by
 rcases h with ⟨h,_⟩|⟨_,h⟩
 rw [hc] at h;cases h;exact h
theorem NextOk.f {β:Type} {L:List β} {vis vis':List Nat} {c:Bool} (h:NextOk L vis c vis') (hc:c=false):vis'=vis/\vis.length=L.length:=by
 rcases h with ⟨_,h⟩|⟨h,_⟩
 exact h;rw [hc] at h;cases h
section
variable {P:Program} {e:Env} {dst:Option Tmp} {ty:TypeId} {pos:String} {af:Array Edge} {g:Option (Nat×Bool)} {M:List MObj} {K:HVal->List MObj->Prop}
theorem zp4 {α:Type}: ∀{M:List α} {i:Nat} {m:α},M[i]? =some m->M.set i m=M
 |[],i,m,h=>by simp at h
 |x::M,0,m,h=>by simp at h;simp [h]
 |x::M,i+1,m,h=>by simp at h;simp [zp4 h]
theorem zpB [Tracks] {β:Type} {L:List β} {enc:β->HVal×HVal} {x:Operand} {i r b:Nat} {l:List (HVal×HVal)} {vis:List Nat} (hx:zh e x=some (.raw (.pointer (some ⟨r,0,none⟩)))) (hm:M[i]? =some (.iter r b l vis)) (hL:l=L.map enc)
 (hv:vis.Nodup) (hvl: ∀j∈vis,j<L.length) (hk: ∀c R vis',NextOk L vis c vis'->K (.tup (.bool c::R)) (M.set i (.iter r b l vis'))):EOp P e M ⟨dst,.next x false,ty,pos,af,g⟩ K:=by
 have hl:l.length=L.length:=by rw [hL,Ag]
 refine zvg hx hm hv (fun j hj=>by rw [hl];exact hvl j hj) (fun hlen=> ?_) (fun j p hj hn=> ?_)
 have:=hk false [] vis (.inl ⟨rfl,rfl,by rw [hlen,hl]⟩);rw [zp4 hm] at this;exact this;rw [hL,Aj] at hj
 cases hq:L[j]? with
 |none=>rw [hq] at hj;cases hj
 |some q=>exact hk true [p.1,p.2] (vis++[j]) (.inr ⟨rfl,j,q,hq,hn,rfl⟩)
theorem zn7 [Tracks] {β:Type} {L:List β} {enc:β->HVal×HVal} {x:Operand} {i r b j:Nat} {l:List (HVal×HVal)} {vis:List Nat} {q:β} (hx:zh e x=some (.raw (.pointer (some ⟨r,0,none⟩)))) (hm:M[i]? =some (.iter r b l (vis++[j]))) (hL:l=L.map enc) (hq:L[j]? =some q)
 (hk:K (.tup [(enc q).1,(enc q).2]) M):EOp P e M ⟨dst,.entry x,ty,pos,af,g⟩ K:=
 zuk hx hm (p:=enc q) (by rw [hL,Aj,hq];rfl) hk
theorem zqF {α:Type} (f:α->HVal) (L:List (Str×α)):sk (em f L)=L.map fun p=>(.str p.1,f p.2):=by simp [sk]
end
section
variable {β:Type}
abbrev Grp (β:Type):=List (Str×(Value×List β))
abbrev fG {β:Type} (q:Value×List β):HVal:= .raw q.1
abbrev gZ (β:Type):Value×List β:=(.slice none 0 0,[])
def gV (s:Str) (G:Grp β):Value:=((alk s G).getD (gZ β)).1
def gL (s:Str) (G:Grp β):List β:=((alk s G).getD (gZ β)).2
def grp (sz:Nat) (e:β->HVal) (G:Grp β):List MObj:=G.map fun p=> .arr p.2.1 sz (p.2.2.map e)
theorem zsd {κ α:Type} [DecidableEq κ] {s:κ} {v:α}: ∀{G:List (κ×α)},alk s G=some v->∃n,G[n]? =some (s,v)/\∀u,zy s u G=G.set n (s,u)
 |[],h=>by simp [alk] at h
 |p::r,h=>by
   simp only [alk] at h
   by_cases hs:s=p.1
   rw [if_pos hs] at h;simp only [Az] at h;subst h;exact ⟨0,by simp [hs],fun u=>by simp [zy,hs]⟩;rw [if_neg hs] at h;obtain ⟨n,h1,h2⟩:=zsd h;exact ⟨n+1,by simpa using h1,fun u=>by simp [zy,hs,h2]⟩
theorem zhk {κ α:Type} [DecidableEq κ] {s:κ} {G:List (κ×α)} (h:alk s G=none):(G.filter fun q=>decide (q.1≠s))=G:=by
 rw [List.filter_eq_self]
 intro q hq
 rw [zff] at h;simp only [decide_eq_true_eq];exact fun e=>h (e▸List.mem_map_of_mem hq)
theorem zhl {κ α:Type} [DecidableEq κ] {s:κ} {v:α}: ∀{G:List (κ×α)},ANodup G->alk s G=some v->G.Perm ((s,v)::G.filter fun q=>decide (q.1≠s))
 |[],_,h=>by simp [alk] at h
 |p::r,hn,h=>by
   have h1:=List.nodup_cons.1 hn;simp only [alk] at h
   by_cases hs:s=p.1
   ·rw [if_pos hs] at h;simp only [Az] at h;have h2:alk s r=none:=by rw [zff,hs];exact h1.1
    rw [A0,if_neg (by simp [hs]),zhk h2,hs,<-h]
   ·rw [if_neg hs] at h;rw [A0,if_pos (by simp;exact fun e=>hs e.symm)];exact (List.Perm.cons p (zhl h1.2 h)).trans (List.Perm.swap _ _ _)
end
section
variable {P:Program} {e:Env} {dst:Option Tmp} {ty:TypeId} {pos:String} {af:Array Edge} {g:Option (Nat×Bool)} {M:List MObj} {K:HVal->List MObj->Prop} {β:Type} {eb:β->HVal}
theorem zm7 [Tracks] {I:Imm} {M:List MObj} {w:World} (sz:Nat) (hs:Sat P I M w):Sat P I (.arr (.slice none 0 0) sz []::M) w where
 imm:=hs.imm
 obj m hm:=by
  rcases List.mem_cons.1 hm with rfl|hm
  exact .inl ⟨rfl,rfl⟩;exact hs.obj m hm
 nodup:=by simp only [blocks,AK,MObj.blocks,Bk];exact hs.nodup
 apart b hb:=hs.apart b (by simpa only [blocks,AK,MObj.blocks,Bk] using hb)
 os:=hs.os
 output:=hs.output
 tape:=hs.tape
 tab:=hs.tab
 low:=hs.low
theorem EOp.pre [Tracks] {M':List MObj} {o:Oper} (hm: ∀I F w,Sat P I (M++F) w->Sat P I (M'++F) w) (h:EOp P e M' o K):EOp P e M o K:=fun I F a w ho hs=>h I F a w ho (hm I F w hs)
theorem zld [Tracks] {o:Oper} (h:EOp P e M o fun x N=> ∃N',N.Perm N'/\K x N'):EOp P e M o K:=fun I F a w ho hs=>
 za5 (fun _ _ ⟨v,x,M',J,h1,h2,⟨N',h3,h4⟩,h5,h6⟩=>⟨v,x,N',J,h1,h2,h4,h5,h6.perm (h3.append_right F)⟩) (h I F a w ho hs)
theorem zo6 [Tracks] {x y:Operand} {t el:TypeId} {size bytes sz b2:Nat} {zero z2:Value} {d:TD} {A:List MObj} {G:Grp β} {s:Str} {ys:List β}
 (hf:Fits P t (.slice el) size bytes zero) (hel:Fits P el d sz b2 z2) (hz:z2.cells.size=sz) (hby:Nat.ble b2 100000=true)
 (hx:zh e x=some (.raw (gV s G))) (hy:zh e y=some (.slice sz (ys.map eb))) (hfl: ∀y∈ys.map eb,zal (zd y)=true) (hlen:(gL s G).length+ys.length<=1000000000)
 (hk: ∀v',K (.raw v') (A++grp sz eb (zy s (v',gL s G++ys) G))):EOp P e (A++grp sz eb G) ⟨dst,.call ⟨.builtin .append,#[x,y],#[t,t]⟩,ty,pos,af,g⟩ K:=by
 cases hq:alk s G with
 |none=>
   have h1:gV s G= .slice none 0 0:=by unfold gV;rw [hq];rfl
   have h2:gL s G=[]:=by unfold gL;rw [hq];rfl
   rw [h1] at hx;rw [h2,Bk] at hk;refine EOp.pre (M':= .arr (.slice none 0 0) sz []::(A++grp sz eb G)) (fun I F w hs=>zm7 sz hs) (zld ?_)
   refine zN (i:=0) hf hel hz hby hx hy rfl hfl (by rw [h2] at hlen;simpa using hlen) fun v'=>⟨_,?_,hk v'⟩
   rw [znc hq];simp only [List.set_cons_zero,grp,Ay,Ao,A3,Bk];rw [<-AS];exact (AX (l₁:=[MObj.arr v' sz (ys.map eb)]) (l₂:=A++G.map fun p=>MObj.arr p.2.1 sz (p.2.2.map eb)))
 |some q=>
   obtain ⟨v,l⟩:=q;have h1:gV s G=v:=by unfold gV;rw [hq];rfl
   have h2:gL s G=l:=by unfold gL;rw [hq];rfl
   obtain ⟨n,h3,h4⟩:=zsd hq;rw [h1] at hx;rw [h2] at hk hlen;have h5:(A++grp sz eb G)[A.length+n]? =some (.arr v sz (l.map eb)):=by
    rw [An (by omega),BZ]
    simp [grp,h3]
   refine zN (i:=A.length+n) hf hel hz hby hx hy h5 hfl (by simpa using hlen) fun v'=> ?_
   have h6:(A++grp sz eb G).set (A.length+n) (.arr v' sz (l.map eb++ys.map eb))=A++grp sz eb (zy s (v',l++ys) G):=by
    rw [B7 _ _ (by omega),BZ,h4]
    simp [grp,List.map_set]
   rw [h6];exact hk v'
theorem zoM [Tracks] {A:List MObj} {G G':Grp β} {s:Str} {sz:Nat} (hn:ANodup G) (hG:alk s G=alk s G'):Ghost e (A++grp sz eb G) e (.arr (gV s G') sz ((gL s G').map eb)::(A++grp sz eb (G.filter fun q=>decide (q.1≠s)))):=by
 cases hq:alk s G with
 |none=>
   have h1:gV s G'= .slice none 0 0:=by unfold gV;rw [<-hG,hq];rfl
   have h2:gL s G'=[]:=by unfold gL;rw [<-hG,hq];rfl
   rw [h1,h2,zhk hq];exact zQ sz
 |some q=>
   obtain ⟨v,l⟩:=q;have h1:gV s G'=v:=by unfold gV;rw [<-hG,hq];rfl
   have h2:gL s G'=l:=by unfold gL;rw [<-hG,hq];rfl
   rw [h1,h2];refine Ghost.perm ?_;have h3:=((zhl hn hq).map fun p=>MObj.arr p.2.1 sz (p.2.2.map eb)).append_left A;refine h3.trans ?_;simp only [Ao,grp];exact BO
end
end
section
section
variable {κ α γ:Type} [DecidableEq κ]
theorem ANodup.perm {A B:Type} {E L:List (A×B)} (hn:ANodup L) (hp:E.Perm L):ANodup E:=(hp.map (fun p:A×B=>p.1)).nodup_iff.2 hn
theorem zu2 {E L:List (κ×α)} (hp:E.Perm L) (hn:ANodup L) (m:κ):alk m E=alk m L:=by
 have hne:ANodup E:=hn.perm hp
 cases h:alk m L with
 |none=>
   rw [zff] at h⊢;exact fun hm=>h ((hp.map (·.1)).mem_iff.1 hm)
 |some v=>exact (ziq hne).1 (hp.mem_iff.2 ((ziq hn).2 h))
theorem ANodup.map {A B C:Type} (g:B->C) {E:List (A×B)} (h:ANodup E):ANodup (E.map fun q=>(q.1,g q.2)):=by
 unfold ANodup at*;rw [Bb];exact h
end
structure GOk (E:List (Of2×Int)) (G:Grp StatS):Prop where
 nd:ANodup G
 raw: ∀s,gL s G=zk3 E s
theorem GOk.nil:GOk [] []:=⟨ANodup.nil,fun s=>rfl⟩
theorem zlj (E:List (Of2×Int)) (q:Of2×Int) (s:Str):zk3 (E++[q]) s=zk3 E s++if q.1.1=s/\q.2≠0 then [⟨q.1.2,q.2⟩] else []:=by
 unfold zk3;rw [A8,Ay,A0]
 by_cases h:q.1.1=s/\q.2≠0
 rw [if_pos h,if_pos (by simpa using h)];rfl;rw [if_neg h,if_neg (by simpa using h)];rfl
theorem GOk.skip {E:List (Of2×Int)} {G:Grp StatS} (h:GOk E G) {q:Of2×Int} (hq:q.2=0):GOk (E++[q]) G:=
 ⟨h.nd,fun s=>by rw [zlj,if_neg (by simp [hq]),AR,h.raw]⟩
theorem zx0 (s t:Str) (v:Value) (l:List StatS) (G:Grp StatS):gL t (zy s (v,l) G)=if t=s then l else gL t G:=by
 unfold gL;rw [zbQ];split<;>rfl
theorem GOk.put {E:List (Of2×Int)} {G:Grp StatS} (h:GOk E G) {q:Of2×Int} (hq: ¬q.2=0) (v:Value):GOk (E++[q]) (zy q.1.1 (v,gL q.1.1 G++[⟨q.1.2,q.2⟩]) G):=by
 refine ⟨h.nd.put,fun s=> ?_⟩
 rw [zx0,zlj]
 by_cases hs:s=q.1.1
 rw [if_pos hs,if_pos ⟨hs.symm,hq⟩,hs,h.raw];rw [if_neg hs,if_neg (fun e=>hs e.1.symm),AR,h.raw]
theorem zkW {s t:Str} {S:List Str}:t∈zdb s S↔t=s\/t∈S:=by
 unfold zdb
 by_cases h:S.contains s=true
 rw [if_pos h];have:s∈S:=by simpa using h
 constructor
 exact .inr;rintro (rfl|h);exact this;exact h;rw [if_neg h];simp;exact Or.comm
theorem zik {s:Str} {S:List Str} (h:S.Nodup):(zdb s S).Nodup:=by
 unfold zdb
 by_cases hc:S.contains s=true
 rw [if_pos hc];exact h;rw [if_neg hc];exact List.nodup_append.2 ⟨h,by simp,fun a ha b hb=>by simp at hb;subst hb;intro e;subst e;simp at hc;exact hc ha⟩
theorem zsK (s:Str) (S:List Str):(zdb s S).length<=S.length+1:=by
 unfold zdb;split
 omega
 simp
structure LnOk (q:LnS) (n:Nat):Prop where
 c:ANodup q.c
 S:q.S.Nodup
 k: ∀s∈q.S,s.length<=40
 cl:q.c.length<=n
 Sl:q.S.length<=n
 bd: ∀e∈q.c,-(100000*(n:Int))<=e.2/\e.2<=100000*(n:Int)
theorem LnOk.val {q:LnS} {n:Nat} (h:LnOk q n) (s:Of2): -(100000*(n:Int))<=(alk s q.c).getD 0/\(alk s q.c).getD 0<=100000*(n:Int):=by
 cases hq:alk s q.c with
 |none=>simp;omega
 |some v=>exact h.bd _ (zbv hq)
theorem LnOk.put {q:LnS} {n:Nat} (h:LnOk q n) {p:Play} (hp:playFault p=0):LnOk (zAd q p) (n+1):=by
 obtain ⟨_,_,_,_,⟨_,k2,_⟩,hb,_⟩:=zg2 hp;have hv:=h.val (p.Player,p.Stat);refine ⟨h.c.put,zik h.S,fun s hs=> ?_,Ax (zoP _ _ _) (by have:=h.cl;omega),Ax (zsK _ _) (by have:=h.Sl;omega),fun e he=> ?_⟩
 rcases zkW.1 hs with rfl|hs
 exact zsv k2;exact h.k s hs
 rcases zdA he with rfl|he
 dsimp only;omega
 have:=h.bd e he;omega
theorem LnOk.up {q:LnS} {n:Nat} (h:LnOk q n):LnOk q (n+1):=
 ⟨h.c,h.S,h.k,by have:=h.cl;omega,by have:=h.Sl;omega,fun e he=>by have:=h.bd e he;omega⟩
end
section
structure MendS where
 Player:Str
 Week:Int
 Stat:Str
 Count:Int
 At:Int
 Version:Int
 By:Str
abbrev zco (x:MendS):HVal:= .agg [.str x.Player,.int .i64 x.Week,.str x.Stat,.int .i64 x.Count,.int .i64 x.At,.int .i64 x.Version,.str x.By]
abbrev zcU (l:List MendS):HVal:= .slice 7 (l.map zco)
abbrev Plc:=Str×Int
def zep:MendS:=⟨[],0,[],0,0,0,[]⟩
def zeG (a b:MendS):Int:=orI [zab a.Player b.Player,zaj a.Week b.Week,zab a.Stat b.Stat,zaj a.Version b.Version]
section
variable {α:Type}
def zdX (f:α->Int) (c:α->α->Int) (d:α) (l:List α):Nat->List α->Int
 |_,[]=>0
 |k,x::r=>if f x≠0 then f x else if 0<k/\c x (l.getD (k-1) d)<=0 then 7 else zdX f c d l (k+1) r
theorem zq4 {f:α->Int} {c:α->α->Int} {d:α} {l:List α} {k:Nat} {x:α} {r:List α} (h1:f x=0) (h2:0<k->¬c x (l.getD (k-1) d)<=0):zdX f c d l k (x::r)=zdX f c d l (k+1) r:=by
 rw [zdX,if_neg (by simp [h1]),if_neg (fun h=>h2 h.1 h.2)]
theorem zt5 {f:α->Int} {c:α->α->Int} {d:α} {l:List α} {k:Nat} {x:α} {r:List α} (h1:f x≠0):zdX f c d l k (x::r)=f x:=by
 rw [zdX,if_pos h1]
theorem zt6 {f:α->Int} {c:α->α->Int} {d:α} {l:List α} {k:Nat} {x:α} {r:List α} (h1:f x=0) (h0:0<k) (h2:c x (l.getD (k-1) d)<=0):zdX f c d l k (x::r)=7:=by
 rw [zdX,if_neg (by simp [h1]),if_pos ⟨h0,h2⟩]
theorem zdQ {c d:α->α->Int} (hc:Cmp c fun _=>True) (hd:Cmp d fun _=>True):Cmp (fun a b=>if c a b≠0 then c a b else d a b) fun _=>True where
 flip x y _ _:=by
  have f1:=hc.flip x y trivial trivial;have f2:=hc.flip y x trivial trivial;have f3:=hd.flip x y trivial trivial
  by_cases h:c x y=0
  have h':c y x=0:=by omega
  rw [if_neg (by simp [h]),if_neg (by simp [h'])];exact f3;have h':c y x≠0:=by omega
  rw [if_pos h,if_pos h'];exact f1
 trans x y z _ _ _ h1 h2:=by
  have fxy:=hc.flip x y trivial trivial;have fyx:=hc.flip y x trivial trivial;have fyz:=hc.flip y z trivial trivial;have fzy:=hc.flip z y trivial trivial;have fxz:=hc.flip x z trivial trivial;have fzx:=hc.flip z x trivial trivial;have a1:c x y<=0:=by split at h1<;>omega
  have a2:c y z<=0:=by split at h2<;>omega
  have a3:=hc.trans x y z trivial trivial trivial a1 a2
  by_cases h:c x z=0
  have b1:=hc.trans z x y trivial trivial trivial (by omega) a1;have b2:=hc.trans y z x trivial trivial trivial a2 (by omega);have e1:c x y=0:=by omega
  have e2:c y z=0:=by omega
  rw [if_neg (by simp [e1])] at h1;rw [if_neg (by simp [e2])] at h2;rw [if_neg (by simp [h])];exact hd.trans x y z trivial trivial trivial h1 h2;rw [if_pos h];exact a3
theorem zgx (f:α->Str):Cmp (fun a b=>zab (f a) (f b)) fun _=>True where
 flip x y _ _:=by rw [zeB (f x) (f y)];omega
 trans x y z _ _ _ h1 h2:=zgQ h1 h2
theorem zfE (f:α->Int):Cmp (fun a b=>zaj (f a) (f b)) fun _=>True where
 flip x y _ _:=by rw [zjk (f x) (f y)];omega
 trans x y z _ _ _ h1 h2:=by rw [zo2] at*;omega
theorem zsC (a:Int):orI [a]=a:=by
 by_cases h:a=0<;>simp [orI,h]
theorem zee (a b:Int) (r:List Int):orI (a::b::r)=if a≠0 then a else orI (b::r):=by rw [orI]
end
theorem zjf:Cmp zeG fun _=>True:=by
 have h:=zdQ (zgx MendS.Player) (zdQ (zfE MendS.Week) (zdQ (zgx MendS.Stat) (zfE MendS.Version)));have e:zeG=fun a b=>if zab a.Player b.Player≠0 then zab a.Player b.Player else if zaj a.Week b.Week≠0 then zaj a.Week b.Week else if zab a.Stat b.Stat≠0 then zab a.Stat b.Stat else zaj a.Version b.Version:=by
  funext a b;unfold zeG;rw [zee,zee,zfX]
 rw [e];exact h
theorem zxr {a b:Int} (h:(if a≠0 then a else b)=0):a=0/\b=0:=by
 split at h
 contradiction
 rename_i h1;exact ⟨by simpa using h1,h⟩
def zaO (x:MendS):Int:=
 if !(key x.Player)|| !(key x.Stat)|| !(key x.By) then 5
 else if !(zbc x.Week)||out x.Count (-100000) 100000|| !(zL x.At)||out x.Version 1 1000 then 1 else 0
def zeY (m:List MendS):Int:=if 500<m.length then 2 else zdX zaO zeG zep m 0 m
theorem zrq {x:MendS} (h:zaO x=0):key x.Player=true/\key x.Stat=true/\zbc x.Week=true/\(-100000<=x.Count/\x.Count<=100000)/\zL x.At=true:=by
 unfold zaO at h
 split at h
 omega
 split at h
 omega
 rename_i h1 h2
 simp only [B9,Bool.not_eq_true',not_or,Bool.not_eq_false,B3] at h1 h2;exact ⟨h1.1.1,h1.1.2,h2.1.1.1,zeP h2.1.1.2,h2.1.2⟩
theorem zjt {m r:List MendS} {k:Nat} {x:MendS} {c:Int} (hl: ¬500<m.length) (hg:zdX zaO zeG zep m 0 m=zdX zaO zeG zep m k (x::r)) (hc:c≠0) (hf:zaO x=c):c=zeY m:=by
 rw [zeY,if_neg hl,hg,zt5 (by rw [hf];exact hc),hf]
theorem zpX {m r:List MendS} {k:Nat} {x:MendS} (hl: ¬500<m.length) (hg:zdX zaO zeG zep m 0 m=zdX zaO zeG zep m k (x::r)) (hf:zaO x=0) (h0:0<k) (h:zeG x (m.getD (k-1) zep)<=0):7=zeY m:=by
 rw [zeY,if_neg hl,hg,zt6 hf h0 h]
end
section
open Op
structure PlayerS where
 Key:Str
 Name:Str
 Positions:List Str
structure StintS where
 Player:Str
 Club:Str
 Week:Int
structure HealthS where
 Player:Str
 From:Int
 To:Int
 Kind:Int
structure FixS where
 Week:Int
 At:Int
 Home:Str
 Away:Str
structure RuleS where
 Key:Str
 Stat:Str
 Position:Str
 Kind:Int
 Many:Int
 Num:Int
 Den:Int
structure SlotS where
 Key:Str
 Positions:List Str
structure BoundS where
 Most:Int
 Hurt:Int
 Adds:Int
 Hold:Int
structure MoveS where
 At:Int
 Kind:Int
 Team:Str
 Player:Str
structure GameS where
 Week:Int
 Home:Str
 Away:Str
 Played:Bool
 FNum:Int
 FDen:Int
 ONum:Int
 ODen:Int
structure ChoiceS where
 Team:Str
 Week:Int
 At:Int
 Players:List Str
 Captain:Str
structure LeagueS where
 Players:List PlayerS
 Stints:List StintS
 Fixtures:List FixS
 Rules:List RuleS
 Slots:List SlotS
 Bounds:BoundS
 Teams:List Str
 Games:List GameS
 Breaks:List Int
 Trust:List Str
 Start:Int
def HasAB (T:List Str):Prop:=T.contains [116,97]=true/\T.contains [116,98]=true
theorem HasAB.app {T:List Str} (h:HasAB T) (U:List Str):HasAB (T++U):=by
 unfold HasAB at*;simp only [Ca,decide_eq_true_eq,List.mem_append] at*;exact ⟨.inl h.1,.inl h.2⟩
abbrev zcE (x:PlayerS):HVal:= .agg [.str x.Key,.str x.Name,eSs x.Positions]
abbrev zaC (l:List PlayerS):HVal:= .slice 3 (l.map zcE)
abbrev zcW (x:StintS):HVal:= .agg [.str x.Player,.str x.Club,.int .i64 x.Week]
abbrev zbJ (l:List StintS):HVal:= .slice 3 (l.map zcW)
abbrev zb9 (x:HealthS):HVal:= .agg [.str x.Player,.int .i64 x.From,.int .i64 x.To,.int .i64 x.Kind]
abbrev zbw (l:List HealthS):HVal:= .slice 4 (l.map zb9)
abbrev zau (x:FixS):HVal:= .agg [.int .i64 x.Week,.int .i64 x.At,.str x.Home,.str x.Away]
abbrev zde (l:List FixS):HVal:= .slice 4 (l.map zau)
abbrev zqy (x:RuleS):HVal:= .agg [.str x.Key,.str x.Stat,.str x.Position,.int .i64 x.Kind,.int .i64 x.Many,.int .i64 x.Num,.int .i64 x.Den]
abbrev ziN (l:List RuleS):HVal:= .slice 7 (l.map zqy)
abbrev zbo (x:SlotS):HVal:= .agg [.str x.Key,eSs x.Positions]
abbrev zf7 (l:List SlotS):HVal:= .slice 2 (l.map zbo)
abbrev zcn (x:BoundS):HVal:= .agg [.int .i64 x.Most,.int .i64 x.Hurt,.int .i64 x.Adds,.int .i64 x.Hold]
abbrev zcK (x:MoveS):HVal:= .agg [.int .i64 x.At,.int .i64 x.Kind,.str x.Team,.str x.Player]
abbrev zbs (l:List MoveS):HVal:= .slice 4 (l.map zcK)
abbrev zaS (x:GameS):HVal:= .agg [.int .i64 x.Week,.str x.Home,.str x.Away,.bool x.Played,.int .i64 x.FNum,.int .i64 x.FDen,.int .i64 x.ONum,.int .i64 x.ODen]
abbrev zkd (l:List GameS):HVal:= .slice 8 (l.map zaS)
abbrev z8 (x:ChoiceS):HVal:= .agg [.str x.Team,.int .i64 x.Week,.int .i64 x.At,eSs x.Players,.str x.Captain]
abbrev zc6 (l:List ChoiceS):HVal:= .slice 5 (l.map z8)
abbrev zsf (g:LeagueS):List HVal:=[zaC g.Players,zbJ g.Stints,zde g.Fixtures,ziN g.Rules,zf7 g.Slots,.int .i64 g.Bounds.Most,.int .i64 g.Bounds.Hurt,.int .i64 g.Bounds.Adds,.int .i64 g.Bounds.Hold,eSs g.Teams,zkd g.Games,eIs g.Breaks,eSs g.Trust,.int .i64 g.Start]
abbrev zca (g:LeagueS):HVal:= .agg (zsf g)
def zdT:PlayerS:=⟨[],[],[]⟩
def zd7:StintS:=⟨[],[],0⟩
def zfI:HealthS:=⟨[],0,0,0⟩
def zjR:FixS:=⟨0,0,[],[]⟩
def zjw:RuleS:=⟨[],[],[],0,0,0,0⟩
def zk8:SlotS:=⟨[],[]⟩
def zie:MoveS:=⟨0,0,[],[]⟩
def zeo:GameS:=⟨0,[],[],false,0,0,0,0⟩
def zdn:ChoiceS:=⟨[],0,0,[],[]⟩
/-! lists looked through element by element,each with the one ahead-/
section
variable {α:Type}
def za4 (g:Nat->α->α->Int) (d:α) (l:List α):Nat->List α->Int
 |_,[]=>0
 |k,x::r=>if g k x (l.getD (k-1) d)≠0 then g k x (l.getD (k-1) d) else za4 g d l (k+1) r
def zeO (n:Nat) (g:Nat->α->α->Int) (d:α) (l:List α):Int:=if n<l.length then 2 else za4 g d l 0 l
variable {g:Nat->α->α->Int} {d:α} {l r:List α} {k n:Nat} {x:α} {e:Int}
theorem za2 (h:g k x (l.getD (k-1) d)=0):za4 g d l k (x::r)=za4 g d l (k+1) r:=by rw [za4,if_neg (fun q=>q h)]
theorem zcw (h:n<l.length):2=zeO n g d l:=by rw [zeO,if_pos h]
theorem zcb (hn: ¬n<l.length) (hg:za4 g d l 0 l=za4 g d l l.length []):0=zeO n g d l:=by rw [zeO,if_neg hn,hg];rfl
theorem zJ (hn: ¬n<l.length) (hg:za4 g d l 0 l=za4 g d l k (x::r)) (he:g k x (l.getD (k-1) d)=e) (h0:e≠0):e=zeO n g d l:=by
 rw [zeO,if_neg hn,hg,za4,if_pos (by rw [he];exact h0),he]
theorem zq5: ∀{r:List α} {k:Nat},l.drop k=r->za4 g d l k r=0->∀(i:Nat) (x:α),k<=i->l[i]? =some x->g i x (l.getD (i-1) d)=0
 |[],k,hd,_,i,x,hi,hx=>by
   have h1:l.length<=k:=by simpa using hd
   have:=zx hx
   omega
 |y::r,k,hd,h,i,x,hi,hx=>by
   rw [za4] at h
   split at h
   contradiction
   rename_i h0
   rcases Nat.eq_or_lt_of_le hi with e|e
   subst e;have:l[k]? =some y:=by have:=congrArg (fun q:List α=>q[0]?) hd;simpa using this
   rw [this] at hx;cases hx
   simpa using h0
   exact zq5 (by rw [<-Bz (i:=1),hd];rfl) h i x e hx
theorem zki (h:zeO n g d l=0):l.length<=n/\∀(i:Nat) (x:α),l[i]? =some x->g i x (l.getD (i-1) d)=0:=by
 unfold zeO at h
 split at h
 contradiction
 exact ⟨by omega,fun i x hx=>zq5 (k:=0) rfl h i x (Ad _) hx⟩
end
/-! what is wrong-/
abbrev leB (a b:Str):Bool:=bytesLess a b||a==b
def zhp (l:List Str):Int:=if l.length=0 then 8 else if 10<l.length then 2 else zgD l
def zcF (k:Nat) (x p:PlayerS):Int:=if key x.Key=false then 5 else if 0<k/\leB x.Key p.Key=true then 7 else zhp x.Positions
def zbX (l:List PlayerS):Int:=zeO 500 zcF zdT l
def zbM (l:List PlayerS) (s:Str):Bool:=(l.map (·.Key)).contains s
def zdd (L:List PlayerS) (k:Nat) (x p:StintS):Int:=
 if zbM L x.Player=false then 8 else if x.Club≠[]/\key x.Club=false then 5 else if zbc x.Week=false then 1
 else if 0<k/\orI [zab x.Player p.Player,zaj x.Week p.Week]<=0 then 7 else 0
def zh3 (L:List PlayerS) (l:List StintS):Int:=zeO 1000 (zdd L) zd7 l
def zfZ (L:List PlayerS) (l:List StintS):Int:=if zbX L≠0 then zbX L else zh3 L l
def zbU (L:List PlayerS) (k:Nat) (x p:HealthS):Int:=
 if zbM L x.Player=false then 8 else if out x.To 2 61=true\/out x.From 1 (x.To-1)=true then 1 else if out x.Kind 1 2=true then 4
 else if 0<k/\orI [zab x.Player p.Player,zaj x.From p.From]<=0 then 7 else if 0<k/\x.Player=p.Player/\x.From<p.To then 13 else 0
def zo8 (L:List PlayerS) (l:List HealthS):Int:=zeO 1000 (zbU L) zfI l
def ziS (L:List PlayerS) (l:List HealthS):Int:=if zbX L≠0 then zbX L else zo8 L l
def zfp (k:Nat) (x p:FixS):Int:=
 if zbc x.Week=false\/zL x.At=false then 1 else if key x.Home=false\/key x.Away=false then 5 else if x.Home=x.Away then 6
 else if 0<k/\orI [zaj x.Week p.Week,zaj x.At p.At,zab x.Home p.Home]<=0 then 7 else 0
def zhm (l:List FixS):Int:=zeO 1000 zfp zjR l
def znw (n d:Int):Bool:=Nat.gcd n.natAbs d.natAbs==1
def zc5 (n d most:Int):Int:=if d<1\/znw n d=false then 3 else if (100:Int).tmod d≠0\/out n (-most*d) (most*d)=true then 1 else 0
def zqC (k:Int):Bool:=k==2||k==3
def zd0 (k:Nat) (x p:RuleS):Int:=
 if (key x.Key=false\/key x.Stat=false)\/x.Position≠[]/\key x.Position=false then 5 else if 0<k/\leB x.Key p.Key=true then 7
 else if out x.Kind 1 4=true then 4 else if zqC x.Kind=true/\out x.Many 1 100000=true\/zqC x.Kind=false/\x.Many≠0 then 1
 else zc5 x.Num x.Den 10000
def ziX (l:List RuleS):Int:=zeO 100 zd0 zjw l
def zcv (l:List SlotS):Nat->List SlotS->Int
 |_,[]=>0
 |k,x::r=>if key x.Key=false then 5 else if ((l.take k).any fun y=>y.Key==x.Key)=true then 6 else if zhp x.Positions≠0 then zhp x.Positions else zcv l (k+1) r
def zeg (l:List SlotS):Int:=if l.length=0 then 8 else if 12<l.length then 2 else zcv l 0 l
def zcl (b:BoundS):Int:=if ((out b.Most 1 20=true\/out b.Hurt 0 20=true)\/out b.Adds 0 2000=true)\/out b.Hold 0 1209600000=true then 1 else 0
def zga (a b:MoveS):Int:=orI [zaj a.At b.At,zab a.Team b.Team,zab a.Player b.Player,zaj a.Kind b.Kind]
def zen (k:Nat) (x p:MoveS):Int:=
 if zL x.At=false then 1 else if out x.Kind 1 4=true then 4 else if key x.Team=false\/key x.Player=false then 5
 else if 0<k/\zga x p<=0 then 7 else 0
def zcj (l:List MoveS):Int:=zeO 2000 zen zie l
def zcX (l:List Str):Int:=if 20<l.length then 2 else if l.length<2 then 8 else zgD l
def zfB (a b:GameS):Int:=orI [zaj a.Week b.Week,zab a.Home b.Home,zab a.Away b.Away]
def zgV (x:GameS):Int:=
 if x.Played=false then (if ¬(x.FNum=0/\x.FDen=0)\/¬(x.ONum=0/\x.ODen=0) then 3 else 0)
 else if zc5 x.FNum x.FDen 1000000=3\/zc5 x.ONum x.ODen 1000000=3 then 3 else orI [zc5 x.FNum x.FDen 1000000,zc5 x.ONum x.ODen 1000000]
def zcp (T:List Str) (k:Nat) (x p:GameS):Int:=
 if zbc x.Week=false then 1 else if T.contains x.Home=false\/T.contains x.Away=false then 8 else if x.Home=x.Away then 6
 else if zgV x≠0 then zgV x else if 0<k/\zfB x p<=0 then 7 else 0
def zhN (x y:GameS):Bool:=y.Week==x.Week&&(y.Home==x.Home||y.Home==x.Away||y.Away==x.Home||y.Away==x.Away)
def zdv (l:List GameS):Nat->List GameS->Bool
 |_,[]=>false
 |k,x::r=>(l.take k).any (zhN x)||zdv l (k+1) r
def zec (T:List Str) (l:List GameS):Int:=if zeO 1000 (zcp T) zeo l≠0 then zeO 1000 (zcp T) zeo l else if zdv l 0 l=true then 13 else 0
def zfV (T:List Str) (l:List GameS):Int:=if zcX T≠0 then zcX T else zec T l
def zdV (l:List Int):Nat->List Int->Int
 |_,[]=>0
 |k,n::r=>if out n 1 5=true then 4 else if (l.take k).contains n=true then 6 else zdV l (k+1) r
def zhW (l:List Int):Int:=if 5<l.length then 2 else zdV l 0 l
end
section
section
variable {α:Type}
def Srt (c:α->α->Int) (l:List α):Prop:=l.Pairwise fun a b=>c a b<=0
theorem Cmp.self {c:α->α->Int} (hc:Cmp c fun _=>True) (x:α):c x x<=0:=by
 have:=hc.flip x x trivial trivial;omega
theorem Srt.get {c:α->α->Int} (hc:Cmp c fun _=>True) {l:List α} (h:Srt c l) {i j:Nat} {x y:α} (hij:i<=j) (hx:l[i]? =some x) (hy:l[j]? =some y):c x y<=0:=by
 rcases AA i j with hlt|hge
 have h1:=zx hx;have h2:=zx hy;have:=List.pairwise_iff_getElem.1 h i j h1 h2 hlt;rw [Aa h1] at hx;rw [Aa h2] at hy;rw [Av hx,Av hy] at this;exact this;have e:i=j:=by omega
 rw [e,hy] at hx;rw [Av hx];exact hc.self _
theorem Srt.take {c:α->α->Int} {l:List α} (h:Srt c l) (k:Nat):Srt c (l.take k):=List.Pairwise.sublist (List.take_sublist k l) h
theorem Srt.drop {c:α->α->Int} {l:List α} (h:Srt c l) (k:Nat):Srt c (l.drop k):=List.Pairwise.sublist (List.drop_sublist k l) h
theorem Srt.nil {c:α->α->Int}:Srt c []:=List.Pairwise.nil
end
end
end Go.HL
section
namespace Go.HL
section
variable {P:Program} {ops:Array Oper} {n:Nat} {S:List MObj->Prop} {ld:List Nat} {K:Env->List MObj->Prop} {e:Env} {M:List MObj} {listed:Array Bool} {fuel:Nat} {d:Nat} {op:Op} {ty:TypeId} {pos:String} {af:Array Edge} {h:HVal}
theorem zsV [Tracks] (i:Nat) {j:Nat} {want c:Bool} (hi:ops[i]? =some ⟨some d,op,ty,pos,af,some (j,want)⟩) (hd:Nat.blt d n=true) (hf:Region.free .any ops listed i=true) (hr:(Region.ready .any ops listed).contains i=true) (hl:i∈ld) (hS:S M)
 (hg:zd2 ops e j want=some c) (hp:c=true->∃e2,OpenTo e e2/\∀M,S M->EOp P e2 M ⟨some d,op,ty,pos,af,some (j,want)⟩ fun x M'=>x=h/\M'=M)
 (k:HAny P ops n S ld K fuel (listed.setIfInBounds i true) (upd e d (.opt c h)) M):HAny P ops n S ld K (fuel+1) listed e M:=
 HAny.first (T:=S) hi (fun t ht=>by simp at ht;subst ht;exact zfg hd) (.inr ⟨rfl,hl⟩) fuel listed e M (Region.free_spec hi hf) (by simpa using hr)
  ⟨c,hg,fun hc M hM=>by
   obtain ⟨e2,h1,h2⟩:=hp hc
   intro I F a w ho hs
   exact za5 (fun _ _ ⟨v,x,M',J,h3,h4,⟨e1,e3⟩,h5,h6⟩=>⟨v,.opt c h,M,J,h3,h4,⟨rfl,rfl⟩,.opt (fun _=>e1▸h5) (fun hf=>by rw [hc] at hf;cases hf),e3▸h6⟩) (h2 M hM I F a w (ho.open h1) hs),
   fun hc=>⟨h,by rw [hc]⟩⟩ hS k
end
theorem zW {k:IntKind} {a b:Int} (h:a=b):some (HVal.int k a)=some (.int k b):=by rw [h]
section
variable {α:Type} {c:α->α->Int}
theorem zm2 (l:List α):zaQ c (l.take 1)++l.drop 1=l:=by
 cases l with
 |nil=>rfl
 |cons x r=>simp [zaQ,zdM,zkQ]
theorem zir {A R:List α} {x:α}:(A++x::R)[A.length]? =some x:=by simp
theorem zof {A R:List α} {x:α} (h:0<A.length):(A++x::R)[A.length-1]? =some ((A[A.length-1]?).getD x):=by
 rw [Ar (by omega),Aa (by omega)]
 simp [Aa (show A.length-1<A.length by omega)]
theorem zpq {A:List α} (h:0<A.length): ∃B y,A=B++[y]:=by
 have hne:A≠[]:=fun e=>by subst e;simp at h
 exact ⟨_,_,(Bm hne).symm⟩
theorem zpI {A:List α} {y d:α}:((A++[y])[(A++[y]).length-1]?).getD d=y:=by simp
theorem zrQ {A R:List α} {x y:α}:(((A++[y])++x::R).set (A++[y]).length y).set ((A++[y]).length-1) x=A++x::y::R:=by
 have e1:((A++[y])++x::R).set (A++[y]).length y=(A++[y])++y::R:=by rw [B7 _ _ (Af _)];simp
 rw [e1,AS];have e2:(A++[y]).length-1=A.length:=by simp
 rw [e2,B7 _ _ (Af _)]
 simp
theorem zrl {l A B:List α} {x:α} {k:Nat} (hx:l[k]? =some x) (hB:zdM c x (zaQ c (l.take k))=zdM c x A++B) (h:0<A.length->¬c x ((A[A.length-1]?).getD x)<0):A++x::(B++l.drop (k+1))=zaQ c (l.take (k+1))++l.drop (k+1):=by
 rw [za1 hx,zoj,hB]
 rcases A5 A.length with h0|h0
 obtain rfl:=List.length_eq_zero_iff.1 h0
 simp [zvt]
 obtain ⟨A',y,rfl⟩:=zpq h0;have:=h h0;rw [zpI] at this;rw [zpS,if_neg this];simp
theorem zrm {A B:List α} {x y:α} {S:List α} (hB:zdM c x S=zdM c x (A++[y])++B) (h:c x y<0):zdM c x S=zdM c x A++(y::B):=by
 rw [hB,zpS,if_pos h];simp
end
end Go.HL
namespace Go.HL
section
variable {α:Type} {p:α->Bool}
structure DelInv (p:α->Bool) (l:List α) (j:Nat) (D:List α):Prop where
 len:D.length=l.length
 jle:j<=l.length
 lt:((l.take j).filter (fun x=> !p x)).length<j
 kept:D.take ((l.take j).filter (fun x=> !p x)).length=(l.take j).filter (fun x=> !p x)
 rest:D.drop j=l.drop j
theorem zjP {l:List α} {j:Nat} {x:α} (hx:l[j]? =some x):(l.take (j+1)).filter (fun x=> !p x)=(l.take j).filter (fun x=> !p x)++if p x then [] else [x]:=by
 rw [za1 hx,A8]
 by_cases h:p x<;>simp [h]
theorem DelInv.get {l D:List α} {j:Nat} {x:α} (h:DelInv p l j D) (hx:l[j]? =some x):D[j]? =some x:=by
 have h1:=congrArg (fun t=>t[0]?) h.rest;simp only [AH,BC] at h1;rw [h1];exact hx
theorem DelInv.drop1 {l D:List α} {j:Nat} (h:DelInv p l j D):D.drop (j+1)=l.drop (j+1):=by
 have:=congrArg (List.drop 1) h.rest
 simpa [Bz] using this
theorem DelInv.skip {l D:List α} {j:Nat} {x:α} (h:DelInv p l j D) (hx:l[j]? =some x) (hp:p x=true):DelInv p l (j+1) D/\((l.take (j+1)).filter (fun x=> !p x)).length=((l.take j).filter (fun x=> !p x)).length:=by
 have e:=zjP (p:=p) hx;rw [if_pos hp,AR] at e;refine ⟨⟨h.len,by have:=zx hx;omega,by rw [e];have:=h.lt;omega,by rw [e];exact h.kept,h.drop1⟩,by rw [e]⟩
theorem DelInv.keep {l D:List α} {j:Nat} {x:α} (h:DelInv p l j D) (hx:l[j]? =some x) (hp:p x=false):
 DelInv p l (j+1) (D.set ((l.take j).filter (fun x=> !p x)).length x)/\((l.take (j+1)).filter (fun x=> !p x)).length=((l.take j).filter (fun x=> !p x)).length+1:=by
 have e:=zjP (p:=p) hx;rw [if_neg (by simp [hp])] at e;have hlt:=h.lt;have hj:=zx hx;have hl:=h.len;have el:((l.take (j+1)).filter (fun x=> !p x)).length=((l.take j).filter (fun x=> !p x)).length+1:=by rw [e];simp
 refine ⟨⟨by simp [hl],by omega,by omega,?_,?_⟩,el⟩
 rw [el,e];have hk:=h.kept
 generalize ((l.take j).filter (fun x=> !p x))=F at*
 rw [za1 (B1 (by omega)),List.take_set_of_le (Af _),hk];rw [List.drop_set_of_lt (by omega)];exact h.drop1
theorem zgW (p:α->Bool): ∀(l:List α) (k:Int),0<=k->zag p l k≠ -1->∃i:Nat,zag p l k=k+i/\i<l.length/\(∃x,l[i]? =some x/\p x=true)/\∀y∈l.take i,p y=false
 |[],k,_,h=>by simp [zag] at h
 |x::r,k,h0,h=>by
   by_cases hx:p x=true
   exact ⟨0,by simp [zag,hx],by simp,⟨x,rfl,hx⟩,by simp⟩;have e:zag p (x::r) k=zag p r (k+1):=by simp [zag,hx]
   rw [e] at h⊢;obtain ⟨i,h1,h2,⟨y,h3,h4⟩,h5⟩:=zgW p r (k+1) (by omega) h;refine ⟨i+1,by rw [h1];simp;omega,by simp;omega,⟨y,by simpa using h3,h4⟩,fun z hz=> ?_⟩
   simp only [BS,BH] at hz
   rcases hz with rfl|hz
   simpa using hx
   exact h5 z hz
theorem zgy (p:α->Bool): ∀(l:List α) (k:Int),0<=k->zag p l k= -1->l.filter (fun x=> !p x)=l
 |[],_,_,_=>rfl
 |x::r,k,h0,h=>by
   by_cases hx:p x=true
   simp [zag,hx] at h;omega
   have e:zag p (x::r) k=zag p r (k+1):=by simp [zag,hx]
   rw [e] at h;rw [A0,if_pos (by simp [hx]),zgy p r (k+1) (by omega) h]
theorem DelInv.start {l:List α} {i:Nat} {x:α} (hi:i<l.length) (hx:l[i]? =some x) (hp:p x=true) (hb: ∀y∈l.take i,p y=false):DelInv p l (i+1) l/\((l.take (i+1)).filter (fun x=> !p x)).length=i:=by
 have e:=zjP (p:=p) hx;rw [if_pos hp,AR,(List.filter_eq_self (l:=l.take i) (p:=fun x=> !p x)).2 (fun y hy=>by simp [hb y hy])] at e;have hl:(l.take i).length=i:=by simp;omega
 refine ⟨⟨rfl,by omega,by rw [e];omega,by rw [e,hl],rfl⟩,by rw [e,hl]⟩
theorem DelInv.done {l D:List α} (h:DelInv p l l.length D):D.take (l.filter (fun x=> !p x)).length=l.filter (fun x=> !p x):=by
 have:=h.kept
 rwa [Aw] at this
end
theorem zhs {cap off sz m n:Nat} (h1:m<=n) (h2:n<=cap):n-m=0\/zhz cap off sz m=off+m*sz:=by
 unfold zhz
 by_cases h:cap=m
 exact .inl (by omega);exact .inr (by rw [if_neg h])
end Go.HL
namespace Go.HL
end Go.HL
end
namespace Go.HL
section
section
variable {α:Type} {c:α->α->Int}
def Blk (c:α->α->Int) (bs:Nat) (l:List α):Prop:= ∀q,Srt c ((l.drop (bs*q)).take bs)
theorem Blk.all {bs:Nat} {l:List α} (h:Blk c bs l) (hl:l.length<=bs):Srt c l:=by
 have:=h 0;rw [Nat.mul_zero,List.drop_zero,Bp hl] at this;exact this
theorem Blk.nil {bs:Nat}:Blk c bs []:=fun q=>by simp [Srt.nil]
theorem Blk.add {bs k:Nat} {Z W:List α} (h:Blk c bs Z) (hZ:Z.length=bs*k) (hW:Srt c W) (hl:W.length<=bs):Blk c bs (Z++W):=by
 intro q
 rcases BK q k with hq|hq|hq
 have h1:bs*q+bs<=Z.length:=by rw [hZ,<-Nat.mul_succ];exact Nat.mul_le_mul_left bs hq
 rw [List.drop_append_of_le_length (by omega),List.take_append_of_le_length (by rw [Ba];omega)];exact h q;rw [hq,<-hZ,List.drop_left,Bp hl];exact hW;have h1:Z.length+bs<=bs*q:=by rw [hZ,<-Nat.mul_succ];exact Nat.mul_le_mul_left bs hq
 rw [List.drop_of_length_le (by rw [AB];omega)]
 simp [Srt.nil]
theorem Blk.at {bs q a:Nat} {l:List α} (h:Blk c bs l) (ha:a=bs*q):Srt c ((l.drop a).take bs):=by rw [ha];exact h q
theorem Blk.last {bs q a:Nat} {l:List α} (h:Blk c bs l) (ha:a=bs*q) (hl:l.length<=a+bs):Srt c (l.drop a):=by
 have:=h.at ha;rw [Bp (by rw [Ba];omega)] at this;exact this
theorem zvw {A D:List α} {x:α} (h:0<D.length):((A++D)[(A++D).length-1]?).getD x=(D[D.length-1]?).getD x:=by
 rw [An (by rw [AB];omega)]
 congr 2;rw [AB];omega
theorem zma {A D:List α} {x:α} (h:0<D.length):((A++D)[A.length+D.length-1]?).getD x=(D[D.length-1]?).getD x:=by
 have:=zvw (A:=A) (x:=x) h;rw [AB] at this;exact this
theorem zrn {A D:List α} {x y:α}:((A++(D++[y]))[A.length+(D++[y]).length-1]?).getD x=y:=by
 rw [zma (by simp)];exact zpI
theorem zkU {A D R:List α} {x y:α}:((A++(D++[y]))++x::R)[(A++(D++[y])).length-1]? =some y:=by
 have e:(A++(D++[y]))++x::R=(A++D)++y::x::R:=by simp
 have hl:(A++(D++[y])).length-1=(A++D).length:=by simp [<-A2]
 rw [e,hl];simp
theorem zsu {A D B E C R:List α} {x:α} (h:D++x::(B++E)=R):(A++D)++x::(B++E++C)=A++R++C:=by rw [<-h];simp
theorem zjo (hc:Cmp c fun _=>True) (l:List α):Srt c (zaQ c l):=ziU hc (fun _ _=>trivial)
theorem win {l:List α} {a m:Nat}:l.drop a=(l.drop a).take m++l.drop (a+m):=by rw [<-Bz,Bi]
theorem zqc {l:List α} {a m:Nat}:l.take (a+m)=l.take a++(l.drop a).take m:=List.take_add
end
end
section
section
variable {α:Type} [DecidableEq α]
def zai (p:Option α):List α->List α
 |[]=>[]
 |x::r=>if p=some x then zai (some x) r else x::zai (some x) r
theorem zmd: ∀(l:List α) (p:Option α) (s:α),s∈zai p l->s∈l
 |[],_,s,h=>by simp [zai] at h
 |x::r,p,s,h=>by
   simp only [zai] at h
   split at h
   exact Ap _ (zmd r _ s h)
   rcases List.mem_cons.1 h with h|h
   subst h;simp;exact Ap _ (zmd r _ s h)
theorem zoJ (x:α): ∀(A:List α) (p:Option α),zai p (A++[x])=zai p A++if (A.getLast?.or p)=some x then [] else [x]
 |[],p=>by
   by_cases h:p=some x<;>simp [zai,h]
 |y::A,p=>by
   have ih:=zoJ x A (some y);have e:((y::A).getLast?.or p)=(A.getLast?.or (some y)):=by
    cases A with
    |nil=>simp
    |cons z A=>simp [List.getLast?_cons_cons,List.getLast?_cons]
   simp only [AT,zai];rw [e,ih]
   split<;>simp
theorem zio {l:List α} {k:Nat} {x y:α} (hx:l[k]? =some x) (hy:l[k-1]? =some y) (h0:0<k):zai none (l.take (k+1))=zai none (l.take k)++if x=y then [] else [x]:=by
 have hk:=zx hx;rw [za1 hx,zoJ];have e:((l.take k).getLast?.or none)=some y:=by
  rw [List.getLast?_eq_getElem?,AC,Ce (by omega),AI (by omega),hy];rfl
 rw [e]
 by_cases h:x=y
 rw [if_pos h,if_pos (by rw [h])];rw [if_neg h,if_neg (by simpa using fun q:y=x=>h q.symm)]
theorem zqe {l:List α} (h:l.length<2):zai none l=l:=by
 match l,h with
 |[],_=>rfl
 |[x],_=>rfl
structure CmpA (l:List α) (j:Nat) (D:List α):Prop where
 len:D.length=l.length
 lo:D.take (zai none (l.take j)).length=zai none (l.take j)
 lt:(zai none (l.take j)).length<j
 hi: ∀i,j<=i+1->D[i]? =l[i]?
theorem CmpA.start {l:List α} {k:Nat} {x y:α} (hx:l[k]? =some x) (hy:l[k-1]? =some y) (h0:0<k) (e:x=y) (h:zai none (l.take k)=l.take k):CmpA l (k+1) l/\(zai none (l.take (k+1))).length=k:=by
 have hk:=zx hx;have h1:zai none (l.take (k+1))=l.take k:=by rw [zio hx hy h0,if_pos e,h];simp
 have h2:(l.take k).length=k:=by rw [AC];omega
 exact ⟨⟨rfl,by rw [h1,h2],by rw [h1,h2];omega,fun _ _=>rfl⟩,by rw [h1,h2]⟩
theorem CmpA.same {l D:List α} {j:Nat} (h:CmpA l j D) {x y:α} (hx:l[j]? =some x) (hy:l[j-1]? =some y) (e:x=y):CmpA l (j+1) D/\(zai none (l.take (j+1))).length=(zai none (l.take j)).length:=by
 have h0:=h.lt;have h1:zai none (l.take (j+1))=zai none (l.take j):=by rw [zio hx hy (by omega),if_pos e];simp
 exact ⟨⟨h.len,by rw [h1];exact h.lo,by rw [h1];omega,fun i hi=>h.hi i (by omega)⟩,by rw [h1]⟩
theorem CmpA.more {l D:List α} {j:Nat} (h:CmpA l j D) {x y:α} (hx:l[j]? =some x) (hy:l[j-1]? =some y) (e:x≠y):CmpA l (j+1) (D.set (zai none (l.take j)).length x)/\(zai none (l.take (j+1))).length=(zai none (l.take j)).length+1:=by
 have h0:=h.lt;have hl:=h.len;have hj:=zx hx;have h1:zai none (l.take (j+1))=zai none (l.take j)++[x]:=by rw [zio hx hy (by omega),if_neg e]
 have h2:(zai none (l.take (j+1))).length=(zai none (l.take j)).length+1:=by rw [h1];simp
 refine ⟨⟨by simpa using hl,?_,by omega,fun i hi=> ?_⟩,h2⟩
 rw [h2,h1];have h3:(D.set (zai none (l.take j)).length x)[(zai none (l.take j)).length]? =some x:=by
  rw [B1 (by omega)]
 rw [za1 h3,List.take_set_of_le (Af _),h.lo];rw [Bx (by omega)];exact h.hi i (by omega)
theorem zqd: ∀(l:List α) (p:Option α),(zai p l).length<=l.length
 |[],p=>by simp [zai]
 |x::r,p=>by
   have:=zqd r (some x);simp only [zai]
   split
   simp only [Ah];omega;simp only [Ah];omega
theorem zp8 {cap off sz m:Nat} (h:m<cap):zhz cap off sz m=off+m*sz:=by
 unfold zhz;rw [if_neg (by omega)]
/-! two lists without repeats,each strictly sorted-/
variable {c:α->α->Int}
end
end
end Go.HL
section
namespace Go.HL
def sumF (l:List Asset) (p:List Place):Int:=sumV (zvh (ofP l) p)
def zvf (l:List Asset) (F:Nat->Int) (q:Option (Nat×Int)) (k:Nat) (x:Asset):Option (Nat×Int):=
 match q with
 |none=>some (k,F k)
 |some (b,n)=>if n<F k\/(F k=n/\x.Value<=(l.getD b ztX).Value) then some (k,F k) else some (b,n)
def zwZ (l:List Asset) (F:Nat->Int) (n:Nat):Option (Nat×Int):=(List.range n).foldl (fun q k=>zvf l F q k (l.getD k ztX)) none
def zz8 (l:List Asset) (p:List Place) (k:Nat):Int:=sumF (l.eraseIdx k) p
def dropped (l:List Asset) (p:List Place):Option (Nat×Int):=zwZ l (zz8 l p) l.length
end Go.HL
namespace Go.HL
end Go.HL
namespace Go.HL
end Go.HL
end
namespace Go.HL
section
structure GL (α:Type) where
 u:Value
 out:List α
 a:Nat
structure GLok {α:Type} (P:α->Prop) (n m:Nat) (q:GL α):Prop where
 len:q.out.length<=n
 all: ∀x∈q.out,P x
 a:q.a<=m
section
variable {α:Type} {P:α->Prop}
theorem GLok.add {n m m':Nat} {u u':Value} {out:List α} {a1 a2:Nat} {x:α} (h:GLok P n m ⟨u,out,a1⟩) (hx:P x) (ha:a2<=m'):GLok P (n+1) m' ⟨u',out++[x],a2⟩:=
 ⟨by have:=h.len;simp at*;omega,fun y hy=>by
  rcases List.mem_append.1 hy with hy|hy
  exact h.all y hy
  simp at hy;subst hy;exact hx,ha⟩
theorem GLok.same {n m m':Nat} {u:Value} {out:List α} {a1 a2:Nat} (h:GLok P n m ⟨u,out,a1⟩) (ha:a2<=m'):GLok P (n+1) m' ⟨u,out,a2⟩:=
 ⟨by have:=h.len;dsimp only at*;omega,h.all,ha⟩
theorem ze2 {l:List α} {j:Nat} {y:α} (h: ∀x∈l,P x) (hy:P y): ∀x∈l.set j y,P x:=fun x hx=>by
 rcases ztv hx with rfl|hx
 exact hy;exact h x hx
end
theorem zos:Sh []:=by simp [Sh]
end
section
structure PairS where
 Name:Str
 Val:Str
abbrev zn4 (x:PairS):HVal:= .agg [.str x.Name,.str x.Val]
abbrev zeW (l:List PairS):HVal:= .slice 2 (l.map zn4)
end
section

end
section
open Op (bytesLess)
end
section

end
section

end
section

end
section

end
section

end
section

end
section
section
variable {α:Type} [DecidableEq α]
end
theorem zq9 [Tracks] {P:Program} {f:FuncId} {hargs:List HVal} {v:Value} {sz:Nat} {es:List HVal} {Q:HVal->List MObj->Prop} (h0:v= .slice none 0 0->es=[]->Con P f hargs [.arr v sz es] Q)
 (h1: ∀b off cap,v= .slice (some ⟨b,off,none⟩) es.length cap->Con P f hargs [.arr v sz es] Q):Con P f hargs [.arr v sz es] Q:=fun I F w args ha hs=>by
 rcases hs.obj (.arr v sz es) (by simp) with ⟨g1,g2⟩|⟨b,off,cap,rc,el,fr,g1,_⟩
 exact h0 g1 g2 I F w args ha hs;exact h1 b off cap g1 I F w args ha hs
end
section

end
section

end
section

end
section
theorem Cmp.lt_trans {α:Type} {c:α->α->Int} {s:α->Prop} (h:Cmp c s) {x y z:α} (hx:s x) (hy:s y) (hz:s z) (h1:c x y<0) (h2:c y z<0):c x z<0:=by
 rcases Int.lt_or_le (c x z) 0 with q|q
 exact q
 exfalso
 have a1:=h.flip y z hy hz;have a2:=h.flip z x hz hx;have hzx:c z x<=0:=by
  rcases Int.lt_or_le 0 (c z x) with r|r
  have:=h.flip x z hx hz;omega;exact r
 have:=h.trans z x y hz hx hy hzx (by omega)
 omega
theorem zpy (x y:Play):byNo x y= -byNo y x:=by
 unfold byNo;rw [zjk,zeB x.Source,zrx]
theorem zlg {a b c:Str} (h1:zab a b<=0) (h2:zab b c<=0) (h:zab a c=0):zab a b=0/\zab b c=0:=by
 have e:=zcz.1 h;subst e;rw [zeB b a] at*
 omega
end
section
def SLt (a b:Str):Prop:=a<=b/\a≠b
theorem ztK {a b:List Str} (ha:a.Pairwise SLt) (hb:b.Pairwise SLt) (h: ∀x,x∈a↔x∈b):a=b:=by
 have na:a.Nodup:=ha.imp fun q=>q.2
 have nb:b.Nodup:=hb.imp fun q=>q.2
 have hp:a.Perm b:=(Bv na nb).2 h;exact List.Perm.eq_of_pairwise (le:=SLt) (fun x y _ _ h1 h2=>List.le_antisymm h1.1 h2.1) ha hb hp
theorem zrN {l:List Str} (h:l.Nodup):(zfe l).Pairwise SLt:=by
 have hn:(zfe l).Nodup:=(List.mergeSort_perm _ _).nodup_iff.2 h;have hs:=zrM l;rw [List.pairwise_iff_getElem] at*
 intro i j hi hj hij
 exact ⟨hs i j hi hj hij,List.pairwise_iff_getElem.1 hn i j hi hj hij⟩
def zcM {κ:Type} (c:List ((Str×κ)×Int)) (s:Str):List (κ×Int):=(c.filter fun e=>e.1.1==s).map fun e=>(e.1.2,e.2)
theorem zpR {κ:Type} [DecidableEq κ] (s:Str) (st:κ) (v:Int) (s':Str): ∀c:List ((Str×κ)×Int),zcM (zy (s,st) v c) s'=if s'=s then zy st v (zcM c s) else zcM c s'
 |[]=>by
   by_cases e:s'=s
   subst e;simp [zcM,zy];have: ¬s=s':=fun q=>e q.symm
   simp [zcM,zy,e,this]
 |p::r=>by
   have ih:=zpR s st v s' r;obtain ⟨⟨a,b⟩,w⟩:=p;simp only [zy,Prod.mk.injEq]
   by_cases h1:s=a
   subst h1
   by_cases h2:st=b
   subst h2;rw [if_pos ⟨rfl,rfl⟩]
   by_cases e:s'=s
   subst e;simp [zcM,zy];have: ¬s=s':=fun q=>e q.symm
   simp [zcM,e,this]
   rw [if_neg (fun q=>h2 q.2)]
   by_cases e:s'=s
   subst e;rw [if_pos rfl] at ih⊢;simp only [zcM,A0,beq_self_eq_true,if_true,Ao,zy,if_neg h2] at ih⊢;rw [ih];have: ¬s=s':=fun q=>e q.symm
   rw [if_neg e] at ih⊢;simp only [zcM,A0,beq_iff_eq,if_neg this] at ih⊢;exact ih;rw [if_neg (fun q=>h1 q.1)]
   by_cases e:s'=s
   subst e;have: ¬a=s':=fun q=>h1 q.symm
   rw [if_pos rfl] at ih⊢;simp only [zcM,A0,beq_iff_eq,if_neg this] at ih⊢;exact ih;rw [if_neg e] at ih⊢
   by_cases h3:a=s'
   simp only [zcM,A0,beq_iff_eq,if_pos h3,Ao] at ih⊢;rw [ih];simp only [zcM,A0,beq_iff_eq,if_neg h3] at ih⊢;exact ih
theorem zpQ {κ:Type} [DecidableEq κ] (s:Str) (st:κ): ∀c:List ((Str×κ)×Int),alk st (zcM c s)=alk (s,st) c
 |[]=>rfl
 |⟨⟨a,b⟩,w⟩::r=>by
   have ih:=zpQ s st r
   by_cases h:a=s
   subst h;simp only [zcM,A0,beq_self_eq_true,if_true,Ao,alk,Prod.mk.injEq,true_and] at ih⊢;rw [ih];have: ¬s=a:=fun q=>h q.symm
   simp only [zcM,A0,beq_iff_eq,if_neg h,alk,Prod.mk.injEq,this,false_and,if_false] at ih⊢;exact ih
def zoF (E:List (Str×Int)):List StatS:=zaQ zhe ((E.filter fun e=>e.2 !=0).map fun e=>⟨e.1,e.2⟩)
end
section
theorem zxD {l:List Str} {s:Str} (hs:SortedS l) (h:l.contains s=true):l[zdC l s]? =some s/\∀(j:Nat) (z:Str),j<zdC l s->l[j]? =some z->z≠s:=by
 obtain ⟨k,hk,e⟩:=A1 (by simpa using h);have hk':l[k]? =some s:=by rw [Aa hk,e]
 have hp:zdC l s=k:=zmI (by omega) (fun j x hj hx=>hs.get hj hx hk') (fun j x hj hx=>by
  rcases Nat.lt_or_eq_of_le hj with q|q
  exact zcN (hs.get q hk' hx);subst q;rw [hk'] at hx;cases hx;exact zaK _)
 rw [hp];refine ⟨hk',fun j z hj hz e2=> ?_⟩
 have:=hs.get hj hz hk';rw [e2,zaK] at this;cases this
/-! as a walk tells it-/
section
variable {α:Type} {f:α->Int} {c:α->α->Int} {d:α} {l r:List α} {k:Nat} {x:α} {e:Int}
end
theorem zo3 {a b:Str}:zab a b<0↔Op.bytesLess a b=true:=by
 have h1:=zeB a b
 constructor
 intro h
 rcases zcO a b with q|q|q
 exact q;rw [zcz.2 q] at h;omega;have:=zmB.2 (zcN q);omega
 intro h
 have h2: ¬zab a b=0:=fun e=>by rw [zcz.1 e,zaK] at h;cases h
 have h3:=zmB.2 (zcN h)
 omega
end
section
open Op
theorem zpr {l:List Str} (h: ∀(j:Nat) (x y:Str),l[j]? =some x->l[j+1]? =some y->bytesLess x y=true):SortedS l:=by
 have key: ∀(d i:Nat) (a b:Str),l[i]? =some a->l[i+d+1]? =some b->bytesLess a b=true:=by
  intro d
  induction d with
  |zero=>intro i a b ha hb;exact h i a b ha hb
  |succ d ih=>
    intro i a b ha hb
    have hl:=zx hb;obtain ⟨c,hc⟩: ∃c,l[i+d+1]? =some c:=⟨_,Aa (by omega)⟩
    exact zeN (ih i a c ha hc) (h (i+d+1) c b hc (by rw [<-hb];congr 1))
 refine List.pairwise_iff_getElem.2 fun i j hi hj hij=> ?_
 exact key (j-i-1) i _ _ (Aa hi) (by rw [show i+(j-i-1)+1=j by omega];exact Aa hj)
end
section
/-! sets of numbers as bits-/
abbrev zyg:Int:= -1000
inductive WayB (al:Nat->Nat->Bool) (can:List (List Nat)) (fr:Nat) (g:List Nat):List Nat->Int->Prop
 |nil:WayB al can fr g [] 0
 |snoc {q:List Nat} {c:Int} {k:Nat} (h:WayB al can fr g q c) (hk:k∈(fr+q.length)::can.getD (fr+q.length) []) (ha:al (fr+q.length) k=true) (hn:k∉g++q):
    WayB al can fr g (q++[k]) (c+if k=fr+q.length then 0 else 1)
theorem WayB.bd {al:Nat->Nat->Bool} {can:List (List Nat)} {fr:Nat} {g q:List Nat} {c:Int} (h:WayB al can fr g q c):0<=c/\c<=q.length:=by
 induction h with
 |nil=>simp
 |snoc h hk ha hn ih=>rw [AB,B6];split<;>omega
structure CanOk (can:List (List Nat)):Prop where
 lt: ∀i,∀k∈can.getD i [],k<can.length
 ne: ∀i,i∉can.getD i []
 len:can.length<=14
section
variable {al:Nat->Nat->Bool} {can:List (List Nat)} {fr:Nat} {g:List Nat}
theorem WayB.lt {q:List Nat} {c:Int} (hc:CanOk can) (h:WayB al can fr g q c) (hl:fr+q.length<=can.length): ∀k∈q,k<can.length:=by
 induction h with
 |nil=>simp
 |snoc h hk ha hn ih=>
   rw [AB,B6] at hl
   intro k hm
   rcases List.mem_append.1 hm with hm|hm
   exact ih (by omega) k hm;rw [List.mem_singleton.1 hm]
   rcases List.mem_cons.1 hk with e|e
   omega
   exact hc.lt _ _ e
theorem WayB.nodup {q:List Nat} {c:Int} (hg:g.Nodup) (h:WayB al can fr g q c):(g++q).Nodup:=by
 induction h with
 |nil=>simpa using hg
 |snoc h hk ha hn ih=>
   rw [<-AS];refine List.nodup_append.2 ⟨ih,by simp,fun a ha b hb=> ?_⟩
   rw [List.mem_singleton.1 hb];exact fun e=>hn (e▸ha)
end
end
section
/-! ways by their heads-/
section
variable {al:Nat->Nat->Bool} {can:List (List Nat)}
end
end
section
section
variable {can:List (List Nat)} {S:List Bool}
end
end
section
def BdB (m:Int) (l:List Int):Prop:= ∀t,l.getD t 0=zyg\/(0<=l.getD t 0/\l.getD t 0<=m)
theorem BdB.mono {m m':Int} {l:List Int} (h:BdB m l) (hm:m<=m'):BdB m' l:=fun t=>by
 rcases h t with e|e
 exact .inl e;exact .inr ⟨e.1,by omega⟩
end
section
open Op
end
section
open Go
section
variable {P:Program} {e:Env} {dst:Option Tmp} {ty:TypeId} {pos:String} {af:Array Edge} {g:Option (Nat×Bool)} {M:List MObj} {K:HVal->List MObj->Prop}
def zb4 {α:Type} (x:Str):List (Str×α)->List (Str×α)
 |[]=>[]
 |p::r=>if x=p.1 then r else p::zb4 x r
theorem zp5 {s:Str}: ∀{l:List (Str×HVal)},(∀j h,z6 s l=some (j,h)->zb4 s l=l.eraseIdx j)/\(z6 s l=none->zb4 s l=l)
 |[]=>⟨fun j h hh=>by simp [z6] at hh,fun _=>rfl⟩
 |(k,x)::r=>by
   obtain ⟨h1,h2⟩:=zp5 (s:=s) (l:=r)
   by_cases hk:s=k
   refine ⟨fun j h hh=> ?_,fun hh=> ?_⟩
   simp [z6,hk] at hh;rw [<-hh.1];simp [zb4,hk]
   simp [z6,hk] at hh
   refine ⟨fun j h hh=> ?_,fun hh=> ?_⟩
   simp only [z6,if_neg hk] at hh
   cases hr:z6 s r with
   |none=>rw [hr] at hh;simp at hh
   |some p=>
     rw [hr] at hh
     simp at hh
     rw [<-hh.1,zb4,if_neg hk,h1 p.1 p.2 hr];rfl
   simp only [z6,if_neg hk] at hh
   cases hr:z6 s r with
   |none=>rw [zb4,if_neg hk,h2 hr]
   |some p=>rw [hr] at hh;simp at hh
theorem zsb {α:Type} {f:α->HVal} {s:Str}: ∀L:List (Str×α),zb4 s (em f L)=em f (zb4 s L)
 |[]=>rfl
 |p::r=>by
   have ih:=zsb (f:=f) (s:=s) r;simp only [Ao,zb4] at ih⊢
   by_cases h:s=p.1
   rw [if_pos h,if_pos h];rw [if_neg h,if_neg h,ih];rfl
theorem BornOk.erase {es:Array MapEntry} {clk:Nat} (h:BornOk es clk) {k:Nat} (hk:k<es.size):BornOk (es.eraseIdx k hk) clk:=by
 have key: ∀i m,(es.eraseIdx k hk)[i]? =some m->es[if i<k then i else i+1]? =some m:=fun i m hm=>by
  rw [Array.getElem?_eraseIdx] at hm;split at hm<;>rename_i hi<;>simp [hi,hm]
 refine ⟨fun i m hm=>h.1 _ m (key i m hm),fun i j m n hm hn he=> ?_⟩
 have:=h.2 _ _ m n (key i m hm) (key j n hn) he
 split at this<;>split at this<;>omega
theorem zoA {at':Array TypeId} {xs:Array Operand} {ρ:Operand->Value} (w:World):
 (execOp ρ ⟨dst,.call ⟨.builtin .delete,xs,at'⟩,ty,pos,af,g⟩).run P w=((Builtin.delete_ at' ty (xs.map ρ)).run P w).andThen (fun v w=> .ok (.value v) w):=by
 simp [execOp,resolve,invoke,builtin]
theorem ztn [Tracks] {α:Type} {x y:Operand} {t kt et:TypeId} {size bytes s2 b2:Nat} {zero z2:Value} {i b:Nat} {f:α->HVal} {L:List (Str×α)} {s:Str}
 (hf:Fits P t (.map kt et) size bytes zero) (hkt:Fits P kt .str s2 b2 z2) (hx:zh e x=some (.raw (.map (some b)))) (hy:zh e y=some (.str s)) (hm:M[i]? =some (.map b (sk (em f L))))
 (hk:K (.tup []) (M.set i (.map b (sk (em f (zb4 s L)))))):EOp P e M ⟨dst,.call ⟨.builtin .delete,#[x,y],#[t,kt]⟩,ty,pos,af,g⟩ K:=
 EOp.of_run fun I F a w ho hs=>by
  have h1:=(ho.one (x:=x) (by simp [Op.operands,Call.operands]) hx).raw_inv;have h2:=(ho.one (x:=y) (by simp [Op.operands,Call.operands]) hy).str_inv;have hp:=hs.pull hm;obtain ⟨es,clk,h3,h4,h5⟩:=hp.obj _ Ai;obtain ⟨h6,h7⟩:=zgZ h4.1 h5;obtain ⟨n1,n2⟩:=zhR (I:=I) (s:=s) es.toList (em f L) 0 h6 h7;obtain ⟨d1,d2⟩:=zp5 (s:=s) (l:=em f L);rw [zsb] at d1 d2;have hlt:b<w.heap.size:=(Array.getElem?_eq_some_iff.1 h3).1;have fin: ∀(es':Array MapEntry),es'.size=(sk (em f (zb4 s L))).length/\BornOk es' clk->
   (∀(i:Nat) (p:HVal×HVal) (m:MapEntry),(sk (em f (zb4 s L)))[i]? =some p->es'[i]? =some m->V I p.1 m.key/\V I p.2 m.val)->
   Sat P I (M.set i (.map b (sk (em f (zb4 s L))))++F) {w with heap:=w.heap.setIfInBounds b (.map es' clk)}:=fun es' e1 e2=>by
   refine zbG hm (hp.change (m':= .map b (sk (em f (zb4 s L)))) (fun k hk hnk=> ?_) (fun k hk=> .inl hk) (by simp [MObj.blocks]) ⟨es',clk,by simp [hlt],e1,e2⟩ rfl rfl rfl)
   have:k≠b:=by simpa [MObj.blocks] using hnk
   simp [AE (Ne.symm this)]
  cases hq:z6 s (em f L) with
  |none=>
    rw [d2 hq] at fin;refine ⟨.tuple #[],.tup [],_,{w with heap:=w.heap.setIfInBounds b (.map es clk)},I,?_,.refl I,hk,.tup rfl (fun j c v h _=>by simp at h),?_⟩
    rw [zoA];simp only [BN,Ao,A3,h1,h2,Builtin.delete_,AV,AY,AJ,Sem.run_bind,run_underlying hf.mapD,Result.andThen_ok,zaU h3,zcc hkt.strD,Instr.findKey,run_underlying hkt.strD,n1 hq,Sem.run_pure,zdg h3];rw [d2 hq];exact fin es h4 h5
  |some q=>
    obtain ⟨j0,h'⟩:=q;obtain ⟨v,g1,g2⟩:=n2 j0 h' hq;have hj0:=znD hq;have hjl:=zx hj0;have hsz:es.size=(em f L).length:=by simpa [sk] using h4.1
    have hjs:j0<es.size:=by omega
    have hes:es.eraseIdxIfInBounds j0=es.eraseIdx j0 hjs:=by unfold Array.eraseIdxIfInBounds;rw [dif_pos hjs]
    have hd:sk (em f (zb4 s L))=(sk (em f L)).eraseIdx j0:=by
     rw [d1 j0 h' hq];have e1: ∀(l:List (Str×HVal)) (j:Nat),sk (l.eraseIdx j)=(sk l).eraseIdx j:=fun l=>by
      induction l with
      |nil=>intro j;rfl
      |cons p r ih=>
        intro j
        cases j with
        |zero=>rfl
        |succ j=>simp only [BY,sk,Ao] at ih⊢;rw [ih]
     exact e1 _ _
    refine ⟨.tuple #[],.tup [],_,{w with heap:=w.heap.setIfInBounds b (.map (es.eraseIdx j0 hjs) clk)},I,?_,.refl I,hk,.tup rfl (fun j c v h _=>by simp at h),fin (es.eraseIdx j0 hjs) ⟨?_,h4.2.erase hjs⟩ fun p q m a1 a2=> ?_⟩
    rw [zoA];simp only [BN,Ao,A3,h1,h2,Builtin.delete_,AV,AY,AJ,Sem.run_bind,run_underlying hf.mapD,Result.andThen_ok,zaU h3,zcc hkt.strD,Instr.findKey,run_underlying hkt.strD,g1,Sem.run_pure,Bc,hes,zdg h3];rw [hd,Array.size_eraseIdx,List.length_eraseIdx];have:(sk (em f L)).length=es.size:=h4.1.symm;rw [this,if_pos hjs];rw [hd,List.getElem?_eraseIdx] at a1;rw [Array.getElem?_eraseIdx] at a2
    split at a1
    rename_i hp1;rw [if_pos hp1] at a2;exact h5 _ _ _ a1 a2
    rename_i hp1;rw [if_neg hp1] at a2;exact h5 _ _ _ a1 a2
end
end
section
open Go
section
variable {P:Program} {e:Env} {dst:Option Tmp} {ty:TypeId} {pos:String} {af:Array Edge} {g:Option (Nat×Bool)} {M:List MObj} {K:HVal->List MObj->Prop}
end
/-! a row that fills up-/
end
section
open Go
section
variable {P:Program} {e:Env} {dst:Option Tmp} {ty:TypeId} {pos:String} {af:Array Edge} {g:Option (Nat×Bool)}
end
end
section
open Op
def zfa:List Int->List Int->Int
 |[],[]=>0
 |[],_::_=> -1
 |_::_,[]=>1
 |x::a,y::b=>if zaj x y≠0 then zaj x y else zfa a b
end
section
open Op
theorem zxj {s:Str} (h:key s=true):leB s []=false:=by
 have hn:s≠[]:=by
  rintro rfl;have:key ([]:Str)=false:=by decide
  rw [this] at h;cases h
 cases s with
 |nil=>exact absurd rfl hn
 |cons a t=>rfl
theorem ord2 {a b:Str} {m n:Int}:orI [zab a b,zaj m n]<=0↔bytesLess a b=true\/a=b/\m<=n:=by
 rw [zfX]
 split
 rename_i h
 have h0:a≠b:=fun e=>h (zcz.2 e)
 rw [<-zo3]
 constructor
 intro q;left;omega
 rintro (q|q)
 omega
 exact absurd q.1 h0
 rename_i h
 have h0:a=b:=zcz.1 (by simpa using h);subst h0;rw [zo2]
 constructor
 intro q;exact .inr ⟨rfl,q⟩
 rintro (q|q);rw [zaK] at q;cases q;exact q.2
def zk7 (n:Int):Int:=if n<0 then-1 else if 0<n then 1 else 0
theorem zvW {a b:Int}:zk7 (a-b)=zaj a b:=by
 unfold zk7 zaj
 (repeat' split)<;>first|rfl|omega
theorem zvc {a b c d:Int}:zfa [a,b] [c,d]=orI [zaj a c,zaj b d]:=by
 rw [zfX,zfa,zfa,zfa]
 split
 rfl
 split
 rfl
 rename_i h;have:zaj b d=0:=by simpa using h
 rw [this]
theorem zw1 {x p:FixS}:orI [zaj x.Week p.Week,zaj x.At p.At,zab x.Home p.Home]<=0↔0<zfa [p.Week,p.At] [x.Week,x.At]\/zfa [p.Week,p.At] [x.Week,x.At]=0/\bytesLess p.Home x.Home=false:=by
 rw [zvc,zfX,<-zmB];unfold orI
 by_cases h1:x.Week=p.Week
 by_cases h2:x.At=p.At
 have e1:zaj x.Week p.Week=0:=zdk.2 h1;have e2:zaj x.At p.At=0:=zdk.2 h2;have e3:zaj p.Week x.Week=0:=zdk.2 h1.symm;have e4:zaj p.At x.At=0:=zdk.2 h2.symm;simp only [e1,e2,e3,e4];rw [zfX]
 constructor
 intro h
 refine .inr ⟨rfl,?_⟩
 simpa [orI] using h
 rintro (h|⟨_,h⟩);exact absurd h (by decide)
 simpa [orI] using h
 have e1:zaj x.Week p.Week=0:=zdk.2 h1;have e3:zaj p.Week x.Week=0:=zdk.2 h1.symm;have e2:zaj x.At p.At≠0:=fun e=>h2 (zdk.1 e)
 have e4:=zjk x.At p.At;simp only [e1,e3];rw [zfX,if_pos e2]
 simp
 omega
 have e1:zaj x.Week p.Week≠0:=fun e=>h1 (zdk.1 e)
 have e3:=zjk x.Week p.Week;have e4:zaj p.Week x.Week≠0:=by omega
 rw [if_pos e1,if_pos e4]
 omega
end
section
open Op
structure BookS where
 League:LeagueS
 Moves:List MoveS
 Plays:List Play
 Mends:List MendS
 Health:List HealthS
 Choices:List ChoiceS
abbrev zv5 (b:BookS):List HVal:=[zaC b.League.Players,zbJ b.League.Stints,zde b.League.Fixtures,ziN b.League.Rules,zf7 b.League.Slots,.int .i64 b.League.Bounds.Most,.int .i64 b.League.Bounds.Hurt,.int .i64 b.League.Bounds.Adds,.int .i64 b.League.Bounds.Hold,
 eSs b.League.Teams,zkd b.League.Games,eIs b.League.Breaks,eSs b.League.Trust,.int .i64 b.League.Start,zbs b.Moves,zcV b.Plays,zcU b.Mends,zbw b.Health,zc6 b.Choices]
abbrev zbg (b:BookS):HVal:= .agg (zv5 b)
def zjc (a b:ChoiceS):Int:=orI [zab a.Team b.Team,zaj a.Week b.Week,zaj a.At b.At]
def zbV (s:Str):Bool:=s==[]||key s
def zbT (T:List Str) (n:Nat) (k:Nat) (x p:ChoiceS):Int:=
 if T.contains x.Team=false then 8 else if zbc x.Week=false\/zL x.At=false then 1 else if x.Players.length≠n then 3
 else if ((x.Players++[x.Captain]).all zbV)=false then 5 else if 0<k/\zjc x p<=0 then 7 else 0
def zo1 (T:List Str) (n:Nat) (l:List ChoiceS):Int:=zeO 1000 (zbT T n) zdn l
def zgX (g:LeagueS):Int:=orI [zfZ g.Players g.Stints,zhm g.Fixtures,ziX g.Rules,zeg g.Slots,zcl g.Bounds,zfV g.Teams g.Games]
def zjT (g:LeagueS):Int:=orI [zhW g.Breaks,zeZ g.Trust]
def zdo (l:List GameS):Bool:=l.any (·.Played)
def zbp (g:LeagueS):Int:=
 if zgX g≠0 then zgX g else if zdo g.Games=true then 11 else if zjT g≠0 then zjT g
 else if zL g.Start=false\/345686400000<g.Start+36288000000 then 1 else 0
def zbR (b:BookS):Int:=if zbp b.League≠0 then zbp b.League else orI [zcj b.Moves,zf8 b.Plays,zeY b.Mends,zo8 b.League.Players b.Health,zo1 b.League.Teams b.League.Slots.length b.Choices]
theorem zct: ∀{a b:List Int},orI (a++b)=if orI a≠0 then orI a else orI b
 |[],b=>by simp [orI]
 |x::a,b=>by
   rw [AT,orI,orI,zct]
   by_cases h:x≠0
   rw [if_pos h,if_pos h,if_pos h];rw [if_neg h,if_neg h]
theorem zvB {a r:List Int}:orI (orI a::r)=orI (a++r):=by rw [zct,orI]
theorem zpc (g:LeagueS):zgX g=orI ([zbX g.Players]++([zh3 g.Players g.Stints,zhm g.Fixtures,ziX g.Rules,zeg g.Slots,zcl g.Bounds,zcX g.Teams]++[zec g.Teams g.Games])):=by
 have e1:zfZ g.Players g.Stints=orI [zbX g.Players,zh3 g.Players g.Stints]:=by rw [zfX];rfl
 have e2:zfV g.Teams g.Games=orI [zcX g.Teams,zec g.Teams g.Games]:=by rw [zfX];rfl
 unfold zgX;rw [e1,zvB]
 show orI [zbX g.Players,zh3 g.Players g.Stints,zhm g.Fixtures,ziX g.Rules,zeg g.Slots,zcl g.Bounds,zfV g.Teams g.Games]=orI [zbX g.Players,zh3 g.Players g.Stints,zhm g.Fixtures,ziX g.Rules,zeg g.Slots,zcl g.Bounds,zcX g.Teams,zec g.Teams g.Games]
 have e3: ∀l:List Int,orI (l++[zfV g.Teams g.Games])=orI (l++[zcX g.Teams,zec g.Teams g.Games]):=fun l=>by
  rw [zct,zct,e2]
  congr 1
  rw [orI]
  split
  rfl
  rename_i h;have h0:orI [zcX g.Teams,zec g.Teams g.Games]=0:=by simpa using h
  rw [h0];rfl
 exact e3 [zbX g.Players,zh3 g.Players g.Stints,zhm g.Fixtures,ziX g.Rules,zeg g.Slots,zcl g.Bounds]
theorem zuy {g:LeagueS} (h:zbX g.Players≠0):zbX g.Players=zbp g:=by
 have e:zgX g=zbX g.Players:=by rw [zpc,zct,zsC,if_pos h]
 rw [zbp,e,if_pos h]
def zh1 (g:LeagueS):Int:=orI [zh3 g.Players g.Stints,zhm g.Fixtures,ziX g.Rules,zeg g.Slots,zcl g.Bounds,zcX g.Teams]
theorem zx7 {g:LeagueS} (h:zbX g.Players=0) (h2:zh1 g≠0):zh1 g=zbp g:=by
 have e:zgX g=zh1 g:=by
  rw [zpc,zct,if_neg (by simp [orI,h]),zct];exact if_pos h2
 rw [zbp,e,if_pos h2]
theorem zqB {g:LeagueS} (h:zbX g.Players=0) (h2:zh1 g=0):zgX g=zec g.Teams g.Games:=by
 rw [zpc,zct,if_neg (by simp [orI,h]),zct,if_neg (by rw [show orI [zh3 g.Players g.Stints,zhm g.Fixtures,ziX g.Rules,zeg g.Slots,zcl g.Bounds,zcX g.Teams]=zh1 g from rfl,h2];simp)];rw [orI]
 split
 rfl
 rename_i h;simp at h;rw [h];rfl
theorem zvx {g:LeagueS} (h2:zh1 g=0):zcX g.Teams=0:=by
 unfold zh1 at h2;have e:([zh3 g.Players g.Stints,zhm g.Fixtures,ziX g.Rules,zeg g.Slots,zcl g.Bounds,zcX g.Teams]:List Int)=[zh3 g.Players g.Stints,zhm g.Fixtures,ziX g.Rules,zeg g.Slots,zcl g.Bounds]++[zcX g.Teams]:=rfl;rw [e,zct] at h2
 split at h2
 contradiction
 rw [orI] at h2
 split at h2
 contradiction
 rename_i h;simpa using h
theorem zw4 {T:List Str} {l:List GameS} (h:zcX T=0):zfV T l=zec T l:=by rw [zfV,if_neg (by simp [h])]
theorem zx8 {g:LeagueS} (h:zbX g.Players=0) (h2:zh1 g=0) (h3:zec g.Teams g.Games≠0):zec g.Teams g.Games=zbp g:=by
 rw [zbp,zqB h h2,if_pos h3]
theorem zx9 {g:LeagueS} (h:zbX g.Players=0) (h2:zh1 g=0) (h3:zec g.Teams g.Games=0) (h4:zdo g.Games=true):11=zbp g:=by
 rw [zbp,zqB h h2,if_neg (by simp [h3]),if_pos h4]
def zro (g:LeagueS):Int:=orI [zhW g.Breaks,zeZ g.Trust,if zL g.Start then 0 else 1]
theorem zsy (g:LeagueS):zro g=if zjT g≠0 then zjT g else if zL g.Start=false then 1 else 0:=by
 unfold zro zjT;rw [show ([zhW g.Breaks,zeZ g.Trust,if zL g.Start then 0 else 1]:List Int)=[zhW g.Breaks,zeZ g.Trust]++[if zL g.Start then 0 else 1] from rfl,zct]
 congr 1
 rw [orI]
 cases zL g.Start<;>rfl
theorem zya {g:LeagueS} (h:zbX g.Players=0) (h2:zh1 g=0) (h3:zec g.Teams g.Games=0) (h4:zdo g.Games=false) (h5:zro g≠0):zro g=zbp g:=by
 rw [zbp,zqB h h2,if_neg (by simp [h3]),if_neg (by rw [h4];simp)];rw [zsy] at h5⊢
 split
 rfl
 rename_i h6
 rw [if_neg h6] at h5
 cases h7:zL g.Start with
 |false=>simp
 |true=>rw [h7] at h5;simp at h5
theorem zuz {g:LeagueS} (h:zbX g.Players=0) (h2:zh1 g=0) (h3:zec g.Teams g.Games=0) (h4:zdo g.Games=false) (h5:zro g=0):zbp g=if 345686400000<g.Start+36288000000 then 1 else 0:=by
 rw [zbp,zqB h h2,if_neg (by simp [h3]),if_neg (by rw [h4];simp)];rw [zsy] at h5
 split at h5
 contradiction
 rename_i h6
 rw [if_neg h6]
 cases h7:zL g.Start with
 |false=>rw [h7] at h5;simp at h5
 |true=>simp
def zcq:List Str:=[[77,97,114,121,32,74,111,32,83,109,105,116,104],[77,97,120,32,77,97,114,116,105,110],[74,111],[65,110,97,32,77,97,114,105,97,32,77,97],[79,39,78,101,105,108,32,109],[90,111,195,171,32,77,97]]
/-! what generated leagues and books are-/
end
section
open Op
def zfH (N:List Str) (s:Str):Int:=if N.contains s=true then ((zdC N s:Nat):Int) else-1
theorem zhQ {N:List Str} {s:Str}:zfH N s<0↔N.contains s=false:=by
 unfold zfH
 cases N.contains s with
 |true=>simp
 |false=>simp
theorem zt2 {l:List PlayerS} {s:Str} {i:Nat}:(bif decide ((i:Int)<(l.length:Int)) then zab (l.getD i zdT).Key s==0 else false)=((l.map (·.Key))[i]? ==some s):=by
 by_cases h:i<l.length
 obtain ⟨x,hx⟩: ∃x,l[i]? =some x:=⟨_,Aa h⟩
 have e:l.getD i zdT=x:=by rw [Ae,hx];rfl
 rw [Aj,hx,e];have h2:(i:Int)<(l.length:Int):=by omega
 simp only [h2,decide_true,cond_true,AM];rw [AL]
 simp [zcz]
 have h2: ¬(i:Int)<(l.length:Int):=by omega
 rw [AG (by simpa using Nat.le_of_not_lt h)]
 simp [h2]
theorem zow {L:List PlayerS} {s:Str}:zag (fun x:PlayerS=>x.Key==s) L 0<0↔zbM L s=false:=by
 have h:=zed (fun x:PlayerS=>x.Key==s) L 0 (by omega);have e:L.any (fun x:PlayerS=>x.Key==s)=zbM L s:=by
  unfold zbM;rw [AL,List.any_eq_true,Bq,List.mem_map]
  constructor
  rintro ⟨x,h1,h2⟩;exact ⟨x,h1,by simpa using h2⟩;rintro ⟨x,h1,h2⟩;exact ⟨x,h1,by simpa using h2⟩
 rw [e] at h
 constructor
 intro q;rw [<-h];simp;omega
 intro q;rw [q] at h;simp at h;omega
theorem zih {l:List PlayerS} (h:zbX l=0):SortedS (l.map (·.Key)):=by
 obtain ⟨_,h2⟩:=zki h;have nx: ∀(j:Nat) (x y:Str),(l.map (·.Key))[j]? =some x->(l.map (·.Key))[j+1]? =some y->bytesLess x y=true:=by
  intro j x y hx hy
  rw [Aj] at hx hy;obtain ⟨a,ha,rfl⟩:=Option.map_eq_some_iff.1 hx;obtain ⟨b,hb,rfl⟩:=Option.map_eq_some_iff.1 hy;have:=h2 (j+1) b hb;have ed:l.getD (j+1-1) zdT=a:=by rw [Nat.add_sub_cancel,Ae,ha];rfl
  rw [ed] at this;unfold zcF at this
  split at this
  omega
  split at this
  omega
  rename_i h3
  have h4:leB b.Key a.Key=false:=by
   cases e:leB b.Key a.Key with
   |false=>rfl
   |true=>exact absurd ⟨by omega,e⟩ h3
  unfold leB at h4;rw [Bool.or_eq_false_iff] at h4
  rcases zcO a.Key b.Key with q|q|q
  exact q;rw [q] at h4;simp at h4;rw [q] at h4;cases h4.1
 exact zpr nx
/-! games-/
def zil (l:List GameS):List ((Str×Int)×Bool):=l.foldl (fun L x=>zy (x.Away,x.Week) true (zy (x.Home,x.Week) true L)) []
def ofG (t:Str) (w:Int) (y:GameS):Bool:=y.Week==w&&(y.Home==t||y.Away==t)
theorem zuU {l:List GameS} {x:GameS}:zil (l++[x])=zy (x.Away,x.Week) true (zy (x.Home,x.Week) true (zil l)):=by unfold zil;rw [List.foldl_append];rfl
theorem zp3 {t:Str} {w:Int}: ∀{l:List GameS} {L:List ((Str×Int)×Bool)},(alk (t,w) (l.foldl (fun L x=>zy (x.Away,x.Week) true (zy (x.Home,x.Week) true L)) L)).getD false=((alk (t,w) L).getD false||l.any (ofG t w))
 |[],L=>by simp
 |x::l,L=>by
   rw [Cb,zp3,Bt,<-B2]
   congr 1
   rw [zbQ,zbQ];unfold ofG
   by_cases h1:(t,w)=(x.Away,x.Week)
   rw [if_pos h1]
   cases h1
   simp
   rw [if_neg h1]
   by_cases h2:(t,w)=(x.Home,x.Week)
   rw [if_pos h2]
   cases h2
   simp
   rw [if_neg h2];have e:(x.Week==w&&(x.Home==t||x.Away==t))=false:=by
    rw [B0]
    intro h
    simp at h
    rcases h.2 with q|q
    exact h2 (by rw [h.1,q]);exact h1 (by rw [h.1,q])
   rw [e,Bf]
theorem zsM {t:Str} {w:Int} {l:List GameS}:(alk (t,w) (zil l)).getD false=l.any (ofG t w):=by
 unfold zil;rw [zp3];rfl
theorem zt7 {l:List GameS} {x:GameS}:l.any (zhN x)=(l.any (ofG x.Home x.Week)||l.any (ofG x.Away x.Week)):=by
 induction l with
 |nil=>rfl
 |cons y l ih=>
   rw [Bt,Bt,Bt,ih];unfold zhN ofG
   cases y.Week==x.Week<;>cases y.Home==x.Home<;>cases y.Home==x.Away<;>cases y.Away==x.Home<;>cases y.Away==x.Away<;>simp
def ziM (l:List GameS) (k:Nat):Bool:=(List.range k).any fun i=>(l.take i).any (zhN (l.getD i zeo))
theorem zrb {l:List GameS} {k:Nat} {x:GameS} (h:l[k]? =some x):ziM l (k+1)=(ziM l k||(l.take k).any (zhN x)):=by
 unfold ziM;rw [List.range_succ,List.any_append,Bt,List.any_nil,Bf,Ae,h];rfl
theorem zra {l:List GameS}: ∀{r:List GameS} {k:Nat},l.drop k=r->k<=l.length->(ziM l k||zdv l k r)=ziM l l.length
 |[],k,hd,hk=>by
   have:l.length<=k:=by simpa using hd
   have e:k=l.length:=by omega
   subst e;rw [zdv,Bf]
 |x::r,k,hd,hk=>by
   have hx:l[k]? =some x:=by have:=congrArg (fun q:List GameS=>q[0]?) hd;simpa using this
   have hkl:=zx hx;rw [zdv,<-B2,<-zrb hx];exact zra (by rw [<-Bz (i:=1),hd];rfl) (by omega)
theorem zwX {l:List GameS}:zdv l 0 l=ziM l l.length:=by
 have:=zra (l:=l) (r:=l) (k:=0) rfl (Ad _);rw [<-this];rfl
end
section
open Op
theorem zpH {a b:Nat}:Nat.gcd b (a%b)=Nat.gcd a b:=by rw [Nat.gcd_comm b,<-Nat.gcd_rec,Nat.gcd_comm]
theorem zme {s:Str} (h:s∈zcq):out (s.length:Int) 1 60=false:=by
 revert h;revert s;decide
structure LeaB (g:LeagueS):Prop where
 pl:g.Players.length<=1000000
 nm: ∀p∈g.Players,p.Name∈zcq
 po: ∀p∈g.Players,p.Positions.length<=1000000
 st:g.Stints.length<=1000000
 fx:g.Fixtures.length<=1000000
 ru:g.Rules.length<=1000000
 rw': ∀x∈g.Rules,(-1000000000<=x.Num/\x.Num<=1000000000)/\ -1000000000<=x.Den/\x.Den<=1000000000
 sl:g.Slots.length<=1000000
 sp: ∀x∈g.Slots,x.Positions.length<=1000000
 tm:g.Teams.length<=1000000
 ga:g.Games.length<=1000000
 gb: ∀x∈g.Games,((-1000000000<=x.FNum/\x.FNum<=1000000000)/\ -1000000000<=x.FDen/\x.FDen<=1000000000)/\(-1000000000<=x.ONum/\x.ONum<=1000000000)/\ -1000000000<=x.ODen/\x.ODen<=1000000000
 br:g.Breaks.length<=1000000
 tr:g.Trust.length<=1000000
 sta: -1000000000000000<=g.Start/\g.Start<=1000000000000000
structure BookB (b:BookS):Prop where
 lea:LeaB b.League
 mv:b.Moves.length<=1000000
 pl:b.Plays.length<=1000000
 me:b.Mends.length<=1000000
 he:b.Health.length<=1000000
 ch:b.Choices.length<=1000000
 cp: ∀x∈b.Choices,x.Players.length<=1000000
/-! slots,breaks-/
theorem zrL {l:List SlotS} (h0:l.length≠0) (h1: ¬12<l.length) (hg:zcv l 0 l=zcv l l.length []):0=zeg l:=by
 rw [zeg,if_neg h0,if_neg h1,hg];rfl
theorem zht {l r:List SlotS} {k:Nat} {x:SlotS} {e:Int} (h0:l.length≠0) (h1: ¬12<l.length) (hg:zcv l 0 l=zcv l k (x::r)) (he:zcv l k (x::r)=e):e=zeg l:=by
 rw [zeg,if_neg h0,if_neg h1,hg,he]
theorem zse {l:List Int} (h1: ¬5<l.length) (hg:zdV l 0 l=zdV l l.length []):0=zhW l:=by rw [zhW,if_neg h1,hg];rfl
theorem zmy {l r:List Int} {k:Nat} {x:Int} {e:Int} (h1: ¬5<l.length) (hg:zdV l 0 l=zdV l k (x::r)) (he:zdV l k (x::r)=e):e=zhW l:=by rw [zhW,if_neg h1,hg,he]
/-! names of a choice-/
theorem zxn {s:Str} (h1:s≠[]) (h2:key s=false):zbV s=false:=by
 unfold zbV;rw [h2,Bf,beq_eq_false_iff_ne];exact h1
theorem zxo {s:Str} (h:s≠[]->key s=true):zbV s=true:=by
 unfold zbV
 by_cases e:s=[]
 rw [e];rfl;rw [h e,Bool.or_true]
theorem zuJ {l:List Str} {s:Str} (hs:s∈l) (h:zbV s=false):l.all zbV=false:=by
 rw [List.all_eq_false];exact ⟨s,hs,by rw [h];simp⟩
/-! games-/
def inC (l:List GameS) (x:GameS) (k j:Nat):Bool:=ziM l k||([x.Home,x.Away].take j).any fun t=>(l.take k).any (ofG t x.Week)
def inM (l:List GameS) (x:GameS) (k j:Nat):List ((Str×Int)×Bool):=([x.Home,x.Away].take j).foldl (fun L t=>zy (t,x.Week) true L) (zil (l.take k))
theorem zxb {l:List GameS} {x:GameS} {k j:Nat} {s:Str} (hne:x.Home≠x.Away) (hs:[x.Home,x.Away][j]? =some s):
 (inC l x k j||(alk (s,x.Week) (inM l x k j)).getD false)=inC l x k (j+1)/\zy (s,x.Week) true (inM l x k j)=inM l x k (j+1):=by
 match j,hs with
 |0,hs=>
   simp at hs;subst hs
   refine ⟨?_,rfl⟩
   unfold inC inM;simp only [List.take_zero,List.any_nil,Bf,List.foldl_nil,BS,Bt];rw [zsM]
 |1,hs=>
   simp at hs;subst hs
   refine ⟨?_,rfl⟩
   unfold inC inM;simp only [List.take_zero,List.any_nil,Bf,List.foldl_nil,BS,Bt,Cb];rw [zbQ,if_neg (fun e=>by have e9:=congrArg Prod.fst e;first|exact hne e9|exact hne e9.symm),zsM,B2]
theorem zst {l:List GameS} {x:GameS} {k:Nat}:inC l x k 0=ziM l k/\inM l x k 0=zil (l.take k):=by
 unfold inC inM;simp
theorem zx3 {l:List GameS} {x:GameS} {k:Nat} (hx:l[k]? =some x):inC l x k 2=ziM l (k+1)/\inM l x k 2=zil (l.take (k+1)):=by
 refine ⟨?_,?_⟩
 rw [zrb hx,zt7];unfold inC
 simp
 rw [za1 hx,zuU];unfold inM
 simp
theorem zsm {T:List Str} {l:List GameS} (hn: ¬1000<l.length) (hg:za4 (zcp T) zeo l 0 l=za4 (zcp T) zeo l l.length []):zec T l=if ziM l l.length=true then 13 else 0:=by
 have h0:zeO 1000 (zcp T) zeo l=0:=(zcb hn hg).symm;rw [zec,h0,if_neg (by simp),zwX]
theorem zdR {T:List Str} {l:List GameS} {e:Int} (h:e=zeO 1000 (zcp T) zeo l) (h0:e≠0):e=zec T l:=by
 rw [zec,<-h,if_pos h0]
theorem zyt {m:Int} (h1: -18446744073709551616<=m) (h2:m<0):IntKind.wrap .u64 m=m+18446744073709551616:=by
 unfold IntKind.wrap
 simp [IntKind.bits,IntKind.signed]
 omega
theorem zx1 {b:BookS} (h: ¬zbp b.League≠0):ziS b.League.Players b.Health=zo8 b.League.Players b.Health:=by
 have h0:zbp b.League=0:=by simpa using h
 have h1:zbX b.League.Players=0:=by
  refine Classical.byContradiction fun hq=> ?_
  have:=zuy hq;rw [h0] at this;exact hq this
 rw [ziS,if_neg (by simp [h1])]
end
section
open Go
def spl (c:UInt8):Str->List Str
 |[]=>[[]]
 |b::l=>if b=c then []::spl c l else match spl c l with
   |[]=>[[b]]
   |x::r=>(b::x)::r
def jn (c:UInt8):List Str->Str
 |[]=>[]
 |[x]=>x
 |x::r=>x++c::jn c r
theorem zxd {c:UInt8} {x:Str} {r:List Str} (h:r≠[]):jn c (x::r)=x++c::jn c r:=by
 cases r with
 |nil=>exact absurd rfl h
 |cons y r=>rfl
theorem zo9 (c:UInt8): ∀l:List Str,Lib.join l [c]=jn c l
 |[]=>rfl
 |[x]=>Lib.join_one x [c]
 |x::y::r=>by
   rw [zxd (by simp),<-zo9 c (y::r),Lib.join_cons,Lib.join_cons]
   simp [Lib.joinTail]
end
section
open Go.Proofs Go.RowKit Go.Maps Go.Sort Go.Shelf
section
variable {P:Program}
end
end
section
open Go.Proofs Go.RowKit Go.Sort Go.Shelf
variable {P:Program}
theorem Sat.below [Tracks] (hT:Tracks.on=false) {I:Imm} {M:List MObj} {w w':World} (hs:Sat P I M w) (hb:Below w.heap.size w w'):Sat P I M w':=by
 obtain ⟨h1,h2⟩:=hs.lt;exact hs.of_same (fun b hb'=>hb.block b (h1 b hb')) (fun b hb'=>hb.block b (h2 b hb')) hb.os hb.output hb.tape (fun h=>by rw [hT] at h;cases h)
theorem zuc [Tracks] (hT:Tracks.on=false) {ρ:Ren} (L:Lays.n196 P ρ) (h3:P.globalNamed "unicode/utf8.first" =some (ρ.g 3)) (h4:P.globalNamed "unicode/utf8.acceptRanges" =some (ρ.g 4)) {s:Str} (hs:s.length<=1000000):
 ConP P (ρ.f 196) [.str s] (.bool (Lib.validD s)):=by
 intro I F w args ha hsat
 obtain ⟨u,rfl,hu⟩:=ha.one;obtain rfl:=hu.str_inv;refine (Any.utf8_ValidString L ⟨s.toArray⟩ w (by show s.toArray.size<=_;simp;omega) (hsat.utf8 h3 h4)).mono ?_;rintro e w' ⟨rfl,hb⟩;exact ⟨_,.bool _,[],I,rfl,.refl I,⟨by simp,rfl⟩,.bool _,hsat.below hT hb⟩
theorem zsW {I:Imm} {w':World} {B:Nat} {t:TypeId} {v:Value} {l:List Str} (hl:l.length<=1000000) (hrow:w'.ownsRow B t 1 v l.length (l.map encStr)):MSat I w' (.arr v 1 (l.map .str)):=by
 rcases hrow.2 with ⟨rfl,hz⟩|⟨gb,cap,cur,rfl,hbase,hgb,r1,r2,r3,r4⟩
 refine .inl ⟨rfl,?_⟩
 rw [List.length_eq_zero_iff.1 hz];rfl;refine .inr ⟨gb,0,cap,cur,_,_,by rw [Ag],hgb,Free.zero _,fun e he=> ?_,⟨by rw [Ag];omega,Ax r2 (by decide)⟩,by omega,fun i j e c y h1 h2 h3=> ?_⟩
 obtain ⟨s,_,rfl⟩:=List.mem_map.1 he;rfl;rw [Aj] at h1
 cases hq:l[i]? with
 |none=>rw [hq] at h1;cases h1
 |some s=>
   rw [hq] at h1;simp only [AM,Az] at h1;subst h1;have hj:j=0:=by
    cases j with
    |zero=>rfl
    |succ j=>simp [zd] at h2
   subst hj;simp only [zd,AY,Az] at h2;subst h2;have hi:=zx hq;have h4:(cur.toList.take (l.length*1))[i]? =some (encStr s):=by rw [r4,Aj,hq];rfl
   rw [AI (by omega),AU] at h4;have e0:0+i*1+0=i:=by omega
   rw [e0,h4] at h3
   cases h3
   exact .str s
theorem ztk [Tracks] (hT:Tracks.on=false) {ρ:Ren} (L:Lays.n229 P ρ) (g:Nat) (eg: ∀args w,(callFunc g args).run P w= .ok (.enter g args) w) (p:Nat->Bool) {s:Str} (hs:s.length<=1000000) (hp: ∀w,PredAt P g #[] encR p w)
 (hi154:(P.info? (ρ.t 154)).map (fun i=>(i.zero,i.size,i.bytes))=some (some (.agg #[.int .i64 0,.int .i64 0]),2,16))
 (hi9:(P.info? (ρ.t 9)).map (fun i=>(i.zero,i.size,i.bytes))=some (some (.string ⟨#[]⟩),1,16))
 {l:List Str} (hl:l.length<=1000000) (hf:Lib.goFieldsP p ⟨s.toArray⟩=l.map fun x=>⟨x.toArray⟩):
 Con P (ρ.f 229) [.str s,.fn (.func g) [] []] [] fun x M'=> ∃v,x= .raw v/\M'=[.arr v 1 (l.map .str)]:=by
 intro I F w args ha hsat
 obtain ⟨u1,u2,rfl,hu1,hu2⟩: ∃u1 u2,args=[u1,u2]/\V I (.str s) u1/\V I (.fn (.func g) [] []) u2:=by
  match args,ha with
  |[u1,u2],h=>exact ⟨u1,u2,rfl,h.2 0 _ _ rfl rfl,h.2 1 _ _ rfl rfl⟩
  |[],h=>exact absurd h.1 (by simp)
  |[_],h=>exact absurd h.1 (by simp)
  |_::_::_::_,h=>exact absurd h.1 (by simp)
 obtain rfl:=hu1.str_inv;obtain ⟨v1,v2,rfl,hv1,hv2⟩: ∃v1 v2,u2= .func (.func g) v1 v2/\v1= #[]/\v2= #[]:=by
  cases hu2 with
  |fn h1 h2 h3 h4=>exact ⟨_,_,rfl,BI (by simpa using h1),BI (by simpa using h2)⟩
 subst hv1 hv2;refine (Any.strings_FieldsFunc L g #[] eg p ⟨s.toArray⟩ w (by show s.toArray.size<=_;simp;omega) (hp w) hi154 hi9).mono ?_;rintro e w' ⟨A,rfl,hA,hrow,hb⟩;have e1:(Lib.goFieldsP p ⟨s.toArray⟩).length=l.length:=by rw [hf,Ag]
 have e2:(Lib.goFieldsP p ⟨s.toArray⟩).map Value.string=l.map encStr:=by rw [hf,Bb];rfl
 rw [e1,e2] at hrow;rw [e1];have hmem:=zsW (I:=I) hl hrow;refine ⟨_,.raw _,_,I,rfl,.refl I,⟨_,rfl,rfl⟩,.raw _ rfl,?_⟩
 refine (zm7 1 hsat).change (m':= .arr _ 1 _) (fun k hk _=>hb.block k hk) (fun k hk=> .inr ?_) ?_ hmem hb.os hb.output hb.tape (fun ht=>by rw [hT] at ht;cases ht)
 simp [MObj.blocks] at hk;omega
 simp [MObj.blocks]
end
section
open Go.Proofs Go.RowKit Go.Sort Go.Shelf
variable {P:Program}
theorem zqm [Tracks] {ρ:Ren} (L:Lays.n144 P ρ) (hg:P.globalNamed "internal/bytealg.MaxLen" =some (ρ.g 1)) {s t:Str} (hs:s.length<4294967281):
 ConP P (ρ.f 144) [.str s,.str t] (.bool (Lib.contains s t)):=by
 intro I F w args ha hs0
 obtain ⟨u,v,rfl,hu,hv⟩: ∃u v,args=[u,v]/\V I (.str s) u/\V I (.str t) v:=by
  match args,ha with
  |[u,v],h=>exact ⟨u,v,rfl,h.2 0 _ _ rfl rfl,h.2 1 _ _ rfl rfl⟩
  |[],h=>exact absurd h.1 (by simp)
  |[_],h=>exact absurd h.1 (by simp)
  |_::_::_::_,h=>exact absurd h.1 (by simp)
 obtain rfl:=hu.str_inv;obtain rfl:=hv.str_inv;obtain ⟨m,hm⟩:=hs0.maxLen hg;refine (Any.strings_Contains L ⟨s.toArray⟩ ⟨t.toArray⟩ m w (by show s.toArray.size<_;simpa using hs) hm).mono ?_;rintro _ w' ⟨rfl,rfl⟩;exact ⟨_,.bool _,[],I,rfl,.refl I,⟨rfl,rfl⟩,.bool _,hs0⟩
theorem zr0 [Tracks] (hT:Tracks.on=false) {ρ:Ren} (L:Lays.n229 P ρ) (g:Nat) (eg: ∀args w,(callFunc g args).run P w= .ok (.enter g args) w) (p:Nat->Bool) {s:Str} (hs:s.length<=1000000) (hp: ∀w,PredAt P g #[] encR p w)
 (hi154:(P.info? (ρ.t 154)).map (fun i=>(i.zero,i.size,i.bytes))=some (some (.agg #[.int .i64 0,.int .i64 0]),2,16))
 (hi9:(P.info? (ρ.t 9)).map (fun i=>(i.zero,i.size,i.bytes))=some (some (.string ⟨#[]⟩),1,16))
 {l:List Str} (hl:l.length<=1000000) (hf:Lib.goFieldsP p ⟨s.toArray⟩=l.map fun x=>⟨x.toArray⟩):
 ConP P (ρ.f 229) [.str s,.fn (.func g) [] []] (.slice 1 (l.map .str)):=by
 intro I F w args ha hsat
 refine (ztk hT L g eg p hs hp hi154 hi9 hl hf I F w args ha hsat).mono ?_;rintro e w' ⟨u,x,M',K,rfl,hk,⟨v,rfl,rfl⟩,h3,h4⟩;obtain ⟨J,hl',hs',hv⟩:=h4.freeze_arr;have:=h3.raw_inv;subst this;exact ⟨_,_,[],J,rfl,hk.trans hl',⟨rfl,rfl⟩,hv,hs'⟩
end
section
open Op
theorem zqH {x c:UInt8}:((x.toNat:Nat):Int)=((c.toNat:Nat):Int)↔x=c:=by
 constructor
 intro h;exact UInt8.toNat_inj.1 (by omega)
 intro h;rw [h]
theorem zoq {s:Str} (h:s∈zcq):s.length<=60:=by
 have:=zme h
 simp [out] at this
 omega
theorem zop {s:Str} (h:s∈zcq) {c:UInt8} (hc:c∈s): ¬c.toNat<32/\c.toNat≠127:=by
 revert c;revert h;revert s;decide
theorem zm4 {s:Str} (h:s∈zcq):Lib.validD s=true:=by
 revert h;revert s
 have:(zcq.all fun s=>Lib.validD s)=true:=by kernel_rfl
 intro s h;exact List.all_eq_true.1 this s h
theorem zty {s:Str} (h:s∈zcq):(zdf (· ==32) s).dropWhile (· ==32)=s:=by
 have:(zcq.all fun s=>(zdf (· ==32) s).dropWhile (· ==32)==s)=true:=by kernel_rfl
 simpa using List.all_eq_true.1 this s h
theorem ztx {s:Str} (h:s∈zcq):Lib.contains s [32,32]=false:=by
 have:(zcq.all fun s=> !Lib.contains s [32,32])=true:=by kernel_rfl
 simpa using List.all_eq_true.1 this s h
theorem zrt {s:Str} (h:s∈zcq):(spl 32 s).length<=60/\Lib.goFieldsP (fun r=>decide ((r:Int)=32)) ⟨s.toArray⟩=(spl 32 s).map (fun x=>⟨x.toArray⟩)/\jn 32 (spl 32 s)=s:=by
 have h1:(zcq.all fun s=>decide ((spl 32 s).length<=60))=true:=by kernel_rfl
 have h2:(zcq.all fun s=>(Lib.goFieldsP (fun r=>decide ((r:Int)=32)) ⟨s.toArray⟩).map (fun x=>x.data.toList)==spl 32 s)=true:=by kernel_rfl
 have h3:(zcq.all fun s=>jn 32 (spl 32 s)==s)=true:=by kernel_rfl
 refine ⟨by simpa using List.all_eq_true.1 h1 s h,?_,by simpa using List.all_eq_true.1 h3 s h⟩
 have h4:(Lib.goFieldsP (fun r=>decide ((r:Int)=32)) ⟨s.toArray⟩).map (fun x=>x.data.toList)=spl 32 s:=by simpa using List.all_eq_true.1 h2 s h
 rw [<-h4,Bb]
 conv=>lhs;rw [<-List.map_id (Lib.goFieldsP (fun r=>decide ((r:Int)=32)) ⟨s.toArray⟩)]
 exact List.map_congr_left fun x _=>by cases x;simp
end
end Go.HL
namespace Go.Proofs
section
open Go.Shelf
def Tryz.lays144_ren:Go.Shelf.Ren:=⟨fun|144=>317|143=>349|219=>366|217=>277|225=>365|224=>364|267=>370|266=>316|314=>371|n=>n,fun|9=>9|4=>4|3=>3|5=>5|46=>284|146=>422|51=>332|n=>n,fun|1=>0|n=>n⟩
theorem zqM:Go.Proofs.Lays.n144 Tryz.prog Tryz.lays144_ren:={
 mixed:=by kernel_rfl
 f143:=Tryz.func349.trans (congrArg some (by kernel_rfl))
 f144:=Tryz.func317.trans (congrArg some (by kernel_rfl))
 f217:=Tryz.func277.trans (congrArg some (by kernel_rfl))
 f219:=Tryz.func366.trans (congrArg some (by kernel_rfl))
 f224:=Tryz.func364.trans (congrArg some (by kernel_rfl))
 f225:=Tryz.func365.trans (congrArg some (by kernel_rfl))
 f266:=Tryz.func316.trans (congrArg some (by kernel_rfl))
 f267:=Tryz.func370.trans (congrArg some (by kernel_rfl))
 f314:=Tryz.func371.trans (congrArg some (by kernel_rfl))
 t3:=Tryz.underlying3
 a3:=Tryz.isAgg3
 z3:=Tryz.sizeOf3
 v3:=Tryz.zeroValue3
 t4:=Tryz.underlying4
 a4:=Tryz.isAgg4
 z4:=Tryz.sizeOf4
 v4:=Tryz.zeroValue4
 t5:=Tryz.underlying5
 a5:=Tryz.isAgg5
 z5:=Tryz.sizeOf5
 v5:=Tryz.zeroValue5
 t9:=Tryz.underlying9
 a9:=Tryz.isAgg9
 z9:=Tryz.sizeOf9
 v9:=Tryz.zeroValue9
 t46:=Tryz.underlying284
 a46:=Tryz.isAgg284
 z46:=Tryz.sizeOf284
 v46:=Tryz.zeroValue284
 t51:=Tryz.underlying332
 a51:=Tryz.isAgg332
 z51:=Tryz.sizeOf332
 v51:=Tryz.zeroValue332
 t146:=Tryz.underlying422
 a146:=Tryz.isAgg422
 z146:=Tryz.sizeOf422
 v146:=Tryz.zeroValue422
 g1:=by kernel_rfl}
def Tryz.lays196_ren:Go.Shelf.Ren:=⟨fun|196=>263|259=>308|n=>n,fun|9=>9|4=>4|3=>3|5=>5|12=>12|119=>369|0=>0|46=>284|139=>372|138=>371|53=>334|n=>n,fun|3=>1|4=>2|n=>n⟩
theorem zqP:Go.Proofs.Lays.n196 Tryz.prog Tryz.lays196_ren:={
 mixed:=by kernel_rfl
 f196:=Tryz.func263.trans (congrArg some (by kernel_rfl))
 f259:=Tryz.func308.trans (congrArg some (by kernel_rfl))
 t0:=Tryz.underlying0
 a0:=Tryz.isAgg0
 z0:=Tryz.sizeOf0
 v0:=Tryz.zeroValue0
 t3:=Tryz.underlying3
 a3:=Tryz.isAgg3
 z3:=Tryz.sizeOf3
 v3:=Tryz.zeroValue3
 t4:=Tryz.underlying4
 a4:=Tryz.isAgg4
 z4:=Tryz.sizeOf4
 v4:=Tryz.zeroValue4
 t5:=Tryz.underlying5
 a5:=Tryz.isAgg5
 z5:=Tryz.sizeOf5
 v5:=Tryz.zeroValue5
 t9:=Tryz.underlying9
 a9:=Tryz.isAgg9
 z9:=Tryz.sizeOf9
 v9:=Tryz.zeroValue9
 t12:=Tryz.underlying12
 a12:=Tryz.isAgg12
 z12:=Tryz.sizeOf12
 v12:=Tryz.zeroValue12
 t46:=Tryz.underlying284
 a46:=Tryz.isAgg284
 z46:=Tryz.sizeOf284
 v46:=Tryz.zeroValue284
 t53:=Tryz.underlying334
 a53:=Tryz.isAgg334
 z53:=Tryz.sizeOf334
 v53:=Tryz.zeroValue334
 t119:=Tryz.underlying369
 a119:=Tryz.isAgg369
 z119:=Tryz.sizeOf369
 t138:=Tryz.underlying371
 a138:=Tryz.isAgg371
 z138:=Tryz.sizeOf371
 v138:=Tryz.zeroValue371
 t139:=Tryz.underlying372
 a139:=Tryz.isAgg372
 z139:=Tryz.sizeOf372
 v139:=Tryz.zeroValue372
 g3:=by kernel_rfl
 g4:=by kernel_rfl}
def Tryz.lays229_ren:Go.Shelf.Ren:=⟨fun|229=>265|n=>n,fun|9=>9|40=>338|31=>33|152=>383|3=>3|0=>0|4=>4|21=>21|154=>385|n=>n,fun|n=>n⟩
theorem zqR:Go.Proofs.Lays.n229 Tryz.prog Tryz.lays229_ren:={
 mixed:=by kernel_rfl
 f229:=Tryz.func265.trans (congrArg some (by kernel_rfl))
 t0:=Tryz.underlying0
 a0:=Tryz.isAgg0
 z0:=Tryz.sizeOf0
 v0:=Tryz.zeroValue0
 t3:=Tryz.underlying3
 a3:=Tryz.isAgg3
 z3:=Tryz.sizeOf3
 v3:=Tryz.zeroValue3
 t4:=Tryz.underlying4
 a4:=Tryz.isAgg4
 z4:=Tryz.sizeOf4
 v4:=Tryz.zeroValue4
 t9:=Tryz.underlying9
 a9:=Tryz.isAgg9
 z9:=Tryz.sizeOf9
 v9:=Tryz.zeroValue9
 t21:=Tryz.underlying21
 a21:=Tryz.isAgg21
 z21:=Tryz.sizeOf21
 v21:=Tryz.zeroValue21
 t31:=Tryz.underlying33
 a31:=Tryz.isAgg33
 z31:=Tryz.sizeOf33
 v31:=Tryz.zeroValue33
 t40:=Tryz.underlying338
 a40:=Tryz.isAgg338
 z40:=Tryz.sizeOf338
 v40:=Tryz.zeroValue338
 t152:=Tryz.underlying383
 a152:=Tryz.isAgg383
 z152:=Tryz.sizeOf383
 v152:=Tryz.zeroValue383
 t154:=Tryz.underlying385
 a154:=Tryz.isAgg385
 z154:=Tryz.sizeOf385
 v154:=Tryz.zeroValue385}
def Tryz.lays156_ren:Go.Shelf.Ren:=⟨fun|156=>264|165=>309|166=>310|169=>311|240=>344|241=>345|276=>361|277=>362|n=>n,fun|31=>33|9=>9|3=>3|4=>4|0=>0|20=>20|72=>376|76=>380|70=>373|37=>374|75=>379|127=>409|164=>417|5=>5|80=>382|n=>n,fun|n=>n⟩
theorem zqN:Go.Proofs.Lays.n156 Tryz.prog Tryz.lays156_ren:={
 mixed:=by kernel_rfl
 f156:=Tryz.func264.trans (congrArg some (by kernel_rfl))
 f165:=Tryz.func309.trans (congrArg some (by kernel_rfl))
 f166:=Tryz.func310.trans (congrArg some (by kernel_rfl))
 f169:=Tryz.func311.trans (congrArg some (by kernel_rfl))
 f240:=Tryz.func344.trans (congrArg some (by kernel_rfl))
 f241:=Tryz.func345.trans (congrArg some (by kernel_rfl))
 f276:=Tryz.func361.trans (congrArg some (by kernel_rfl))
 f277:=Tryz.func362.trans (congrArg some (by kernel_rfl))
 t0:=Tryz.underlying0
 a0:=Tryz.isAgg0
 z0:=Tryz.sizeOf0
 v0:=Tryz.zeroValue0
 t3:=Tryz.underlying3
 a3:=Tryz.isAgg3
 z3:=Tryz.sizeOf3
 v3:=Tryz.zeroValue3
 t4:=Tryz.underlying4
 a4:=Tryz.isAgg4
 z4:=Tryz.sizeOf4
 v4:=Tryz.zeroValue4
 t9:=Tryz.underlying9
 a9:=Tryz.isAgg9
 z9:=Tryz.sizeOf9
 v9:=Tryz.zeroValue9
 t20:=Tryz.underlying20
 a20:=Tryz.isAgg20
 z20:=Tryz.sizeOf20
 v20:=Tryz.zeroValue20
 t31:=Tryz.underlying33
 a31:=Tryz.isAgg33
 z31:=Tryz.sizeOf33
 v31:=Tryz.zeroValue33
 t37:=Tryz.underlying374
 a37:=Tryz.isAgg374
 z37:=Tryz.sizeOf374
 v37:=Tryz.zeroValue374
 t70:=Tryz.underlying373
 a70:=Tryz.isAgg373
 z70:=Tryz.sizeOf373
 v70:=Tryz.zeroValue373
 t72:=Tryz.underlying376
 a72:=Tryz.isAgg376
 z72:=Tryz.sizeOf376
 v72:=Tryz.zeroValue376
 t75:=Tryz.underlying379
 a75:=Tryz.isAgg379
 z75:=Tryz.sizeOf379
 v75:=Tryz.zeroValue379
 t76:=Tryz.underlying380
 a76:=Tryz.isAgg380
 z76:=Tryz.sizeOf380
 v76:=Tryz.zeroValue380
 t127:=Tryz.underlying409
 a127:=Tryz.isAgg409
 z127:=Tryz.sizeOf409
 v127:=Tryz.zeroValue409
 t164:=Tryz.underlying417
 a164:=Tryz.isAgg417
 z164:=Tryz.sizeOf417
 v164:=Tryz.zeroValue417}
end
end Go.Proofs
namespace Go.HL
section

end
section
variable {P:Program}
section
variable {e:Env} {dst:Option Tmp} {ty:TypeId} {pos:String} {af:Array Edge} {g:Option (Nat×Bool)} {M:List MObj} {K:HVal->List MObj->Prop}
end
end
section
open Go.Proofs Go.Shelf
variable {P:Program}
section
variable {e:Env} {dst:Option Tmp} {ty:TypeId} {pos:String} {af:Array Edge} {g:Option (Nat×Bool)} {M:List MObj} {K:HVal->List MObj->Prop}
end
end
section
open Go.Proofs Go.Shelf Go.RowKit
variable {P:Program}
theorem VL.two {I:Imm} {c d:HVal} {vs:List Value} (h:VL I [c,d] vs): ∃u v,vs=[u,v]/\V I c u/\V I d v:=by
 match vs,h with
 |[u,v],h=>exact ⟨u,v,rfl,h.head,h.tail.head⟩
 |[],h=>have:=h.1;simp at this
 |[_],h=>have:=h.1;simp at this
 |_::_::_::_,h=>have:=h.1;simp at this
theorem zud [Tracks] {ρ:Ren} (hT:Tracks.on=false) (L:Lays.n156 P ρ) (X:Builder.Extra P ρ) {l:List Str} {c:UInt8} (hl:(jn c l).length<=1000000000) (hn:l.length<=1000000000):ConP P (ρ.f 156) [.slice 1 (l.map .str),.str [c]] (.str (jn c l)):=by
 intro I F w args ha hs0
 obtain ⟨u,v,rfl,hu,hv⟩:=ha.two;obtain rfl:=hv.str_inv
 rcases hu.slice_inv with ⟨h0,a,cap,rfl⟩|⟨b,off,cap,rc,el,fr,rfl,h3,h4,h5,h6,h7⟩
 have:l=[]:=by simpa using h0
 subst this;refine (Any.strings_Join_none L X a cap ⟨[c].toArray⟩ w).mono ?_;rintro _ w' ⟨rfl,rfl⟩;exact ⟨_,_,[],I,rfl,.refl I,⟨rfl,rfl⟩,.str [],hs0⟩;have hb:=hs0.imm _ _ h3
 let xs:List ByteArray:=l.map fun s=>⟨s.toArray⟩
 have hx:xs.map (·.data.toList)=l:=by simp [xs,Bb,Function.comp_def]
 have hxl:xs.length=l.length:=by simp [xs]
 have hlt:b<w.heap.size:=by
  rcases AA b w.heap.size with h'|h'
  exact h'
  simp [Am h'] at hb
 have hsz:(l.map HVal.str).length=xs.length:=by simp [xs]
 rw [hsz] at h5 h6⊢;refine (Any.strings_Join L X b off cap xs ⟨[c].toArray⟩ w (fun j x hj=> ?_) hlt (by omega) h5 (by rw [hx];show (Lib.join l [c]).length<=_;rw [zo9];omega)).mono ?_;have hq:l[j]? =some x.data.toList:=by rw [<-hx,Aj,hj];rfl
 have hj':=zx hj;have hr:off+j<rc.size:=by omega
 have h8:=h7 j 0 (.str x.data.toList) (.str x.data.toList) rc[off+j] (by rw [Aj,hq];rfl) rfl (by rw [Nat.mul_one,BC];exact Aq hr);rw [zb3 hb,Aq hr,h8.str_inv];rintro _ w' ⟨rfl,hbw⟩;refine ⟨_,_,[],I,rfl,.refl I,⟨rfl,rfl⟩,?_,?_⟩
 rw [hx,show ((⟨[c].toArray⟩:ByteArray).data.toList:Str)=[c] from rfl,zo9];exact .str _;obtain ⟨h1,h2⟩:=hs0.lt;exact hs0.of_same (fun k hk=>hbw.block k (h1 k hk)) (fun k hk=>hbw.block k (h2 k hk)) hbw.os hbw.output hbw.tape (fun h=>by rw [hT] at h;cases h)
end
end Go.HL
namespace Go.Proofs.YtahegdhbakjdoaaGreatDoor
set_option maxRecDepth 100000
set_option linter.unusedVariables false
set_option linter.unusedSimpArgs false
section
open Go.Proofs.Tryz
open Go.HL
theorem zhM [Tracks] (hT:Tracks.on=false) {s:Str} (hs:s.length<=1000000):ConP prog 263 [.str s] (.bool (Lib.validD s)):=
 zuc hT zqP (by kernel_rfl) (by kernel_rfl) hs
theorem zls [Tracks] {s t:Str} (hs:s.length<4294967281):ConP prog 317 [.str s,.str t] (.bool (Lib.contains s t)):=
 zqm zqM (by kernel_rfl) hs
theorem zxc [Tracks] (w:World):PredAt prog 266 #[] encR (fun r=>decide ((r:Int)=32)) w:=fun W r _=>by
 unfold FnGives
 go_enter func266,ntmps266
 go_wp2
 go_ret
 exact ⟨rfl,0,rfl⟩
theorem zkb [Tracks] (hT:Tracks.on=false) {s:Str} (hs:s.length<=1000000) {l:List Str} (hl:l.length<=1000000) (hf:Lib.goFieldsP (fun r=>decide ((r:Int)=32)) ⟨s.toArray⟩=l.map fun x=>⟨x.toArray⟩):ConP prog 265 [.str s,.fn (.func 266) [] []] (.slice 1 (l.map .str)):=
 zr0 hT zqR _ (enters_of func266 (by kernel_rfl) rfl) _ hs zxc (by kernel_rfl) (by kernel_rfl) hl hf
theorem zoY [Tracks] (hT:Tracks.on=false) {l:List Str} {c:UInt8} (hl:(jn c l).length<=1000000000) (hn:l.length<=1000000000):ConP prog 264 [.slice 1 (l.map .str),.str [c]] (.str (jn c l)):=
 zud hT zqN {t5:=underlying5,a5:=fun w=>by kernel_rfl,z5:=fun w=>by kernel_rfl,v5:=fun w=>by kernel_rfl,infoByte:=by kernel_rfl,cellsByte:=by kernel_rfl,sizeByte:=by kernel_rfl,neB5:=by decide,sizeBuilder:=by kernel_rfl,liesBuilder:=by kernel_rfl} hl hn
theorem zjO [Tracks] {s:Str} {c:UInt8} (hl:s.length<=1000000):ConP prog 270 [.str s,.int .u8 c.toNat] (.str (s.dropWhile (· ==c))):=by
 refine uOb func270 ntmps270 ?_;refine gz5 ?_;refine uU1 [0,1,5,11] (fun (t:Str)=>[(0,.str t)]) (fun (t:Str)=>[]) (fun (t:Str)=>t.length<=s.length/\s.dropWhile (· ==c)=t.dropWhile (· ==c)) (fun (t:Str)=>t.length) (s) ?_ ?_;exact ⟨Af _,rfl⟩;rintro t ⟨ht,hg⟩;refine gz7 ?_;refine dg rfl rfl (fun hc=>by
  have hc0:t≠[]:=by (rintro rfl;simp at hc)
  exact ⟨_,OpenTo.upd (t:=9) rfl (hc) (OpenTo.refl _),zaT (j:=0) (b:=t.headD 0) ty9 rfl rfl rfl (hd0 hc0)⟩) ?_
 refine gz4 ?_;refine uCo (fun h1=> ?_) fun h2=> ?_
 obtain ⟨x,u,rfl⟩: ∃x u,t=x::u:=by cases t with|nil=>simp at h1|cons x u=>exact ⟨x,u,rfl⟩
 have hlen:(x::u).length=u.length+1:=rfl;refine gz5 ?_;refine dq (zg3 (l:=1) ty9 rfl ⟨_,_,rfl,rfl⟩ rfl uO uO) ?_;refine gz3 ?_;refine ⟨_,?_,?_,⟨rfl,trivial⟩,uK,Ab _⟩
 refine ⟨by simp at ht⊢;omega,?_⟩
 rw [hg];simp_all [A6,zqH]
 dsimp only;simp
 refine gz2 ?_;refine zG ?_;refine gz7 ?_;refine zC rfl ?_
 show HVal.str _=_
 rw [hg]
 cases t with
 |nil=>rfl
 |cons x u=>simp_all [A6,zqH]
theorem zja [Tracks] {s:Str} {c:UInt8} (hl:s.length<=1000000):ConP prog 271 [.str s,.int .u8 c.toNat] (.str (zdf (· ==c) s)):=by
 refine uOb func271 ntmps271 ?_;refine gz5 ?_;refine uU1 [0,1,5,17] (fun (t:Str)=>[(0,.str t)]) (fun (t:Str)=>[]) (fun (t:Str)=>t.length<=s.length/\zdf (· ==c) s=zdf (· ==c) t) (fun (t:Str)=>t.length) (s) ?_ ?_;exact ⟨Af _,rfl⟩;rintro t ⟨ht,hg⟩;refine zaD ?_;refine dg rfl rfl (fun hc=>by
  have hc0:0<t.length:=by (simp at hc;omega)
  exact ⟨_,OpenTo.upd (t:=12) rfl (hc) (OpenTo.upd (t:=9) rfl (hc) (OpenTo.refl _)),zaT (j:=t.length-1) (b:=t.getD (t.length-1) 0) ty9 rfl rfl uO (getD_some uO)⟩) ?_
 refine gz4 ?_;refine uCo (fun h1=> ?_) fun h2=> ?_
 obtain ⟨u,x,rfl⟩: ∃u x,t=u++[x]:=⟨_,_,(Bm (by intro h0;subst h0;simp at h1)).symm⟩
 have hlen:(u++[x]).length=u.length+1:=by simp
 refine gz8 ?_;refine dq (zg3 (l:=0) (h:=u.length) ty9 rfl rfl ⟨_,_,rfl,by omega⟩ uO uO) ?_;refine gz3 ?_;refine ⟨_,?_,?_,⟨rfl,trivial⟩,uK,Ab _⟩
 refine ⟨by simp at ht⊢;omega,?_⟩
 rw [hg,zfL,if_pos (by simp_all [zqH])];simp
 dsimp only;simp
 refine gz2 ?_;refine zG ?_;refine gz7 ?_;refine zC rfl ?_
 show HVal.str _=_
 rw [hg]
 rcases List.eq_nil_or_concat t with rfl|⟨u,x,rfl⟩
 rfl
 rw [List.concat_eq_append] at*;rw [zfL,if_neg (by simp_all [zqH])]
theorem zn2 [Tracks] {s:Str} {c:UInt8} (hs:s.length<=1000000) (hc7:c.toNat<128):ConP prog 216 [.str s,.str [c]] (.str ((zdf (· ==c) s).dropWhile (· ==c))):=by
 refine uOb func216 ntmps216 ?_;refine zfq ?_;refine uCo (fun h1=> ?_) fun h2=> ?_
 refine gz5 ?_;refine zC rfl ?_
 show HVal.str _=_
 (simp_all [zdf])
 refine gz9 ?_;refine uGr rfl (fun hc=>zaT (j:=0) (b:=c) ty9 rfl rfl rfl rfl) ?_;refine gz3 ?_;refine za3 rfl (fun h3=> ?_) (fun h3=> ?_)
 try simp at h3
 refine uDr mixed ?_;refine gz2 ?_;refine uB 2 rfl (zaT (j:=0) (b:=c) ty9 rfl rfl rfl rfl) ?_;refine uB 3 rfl (uCl zzT rfl (zja (c:=c) hs)) ?_;refine gz1 ?_;refine uB 5 rfl (zaT (j:=0) (b:=c) ty9 rfl rfl rfl rfl) ?_;refine uB 6 rfl (uCl zzS rfl (zjO (c:=c) (Ax (zp2 _ _) hs))) ?_;refine gz3 ?_;refine zC rfl ?_
 show HVal.str _=_
 rfl
 exfalso
 try simp at h3
 omega
theorem zq0 [Tracks] {s:Str} (hT:Tracks.on=false) (hs:s∈zcq):ConP prog 278 [.str s] (.bool true):=by
 have hsl:=zoq hs;have hv:=zm4 hs;have ht6:=zty hs;have hc6:=ztx hs;refine uOb func278 ntmps278 ?_;refine zaD ?_;refine uT1 [2,2,6,14] (fun k=>[(6,.int .i64 (k:Int))]) (fun k=>[]) (fun k=>k<=s.length) (fun k=>s.length-k) (0) ?_ ?_;exact Ad _
 intro k hk
 refine gz4 ?_;refine uCo (fun h1=> ?_) fun h2=> ?_
 obtain ⟨x,hx⟩: ∃x,s[k]? =some x:=⟨_,Aa uO⟩
 obtain ⟨hx1,hx2⟩:=zop hs (Ac hx);refine zc8 ?_;refine dq (zaT (j:=k) (b:=x) ty9 rfl rfl rfl hx) ?_;refine gz4 ?_;refine uGr rfl (fun hc=>zaT (j:=k) (b:=x) ty9 rfl rfl rfl hx) ?_;refine gz3 ?_;refine za3 rfl (fun h3=> ?_) (fun h3=> ?_)
 exfalso
 try simp at h3
 omega
 try simp at h3
 refine gz7 ?_;refine ⟨k+1,?_,?_,⟨rfl,trivial⟩,uK,Ab _⟩
 omega
 dsimp only;omega
 refine gz2 ?_;refine zG ?_;refine gz4 ?_;refine dq (uCl zwC rfl (zhM hT uO)) ?_;refine gz2 ?_;refine uGr rfl (fun hc=>by have hq:=hc;(try simp at hq);exact uCl zww rfl (zn2 (s:=s) (c:=32) uO (by decide))) ?_;refine gz5 ?_;refine uGr rfl (fun hc=>by have hq:=hc;(try simp at hq);exact uCl zz5 rfl (zls (s:=s) (t:=[32,32]) uO)) ?_;refine gz5 ?_;refine zC rfl ?_
 show HVal.bool _=_
 simp_all
theorem zmL [Tracks] {s:Str} (hT:Tracks.on=false) (hs:s∈zcq):ConP prog 204 [.str s] (.bool true):=by
 have hsl:=zoq hs;have hv:=zm4 hs;obtain ⟨hf1,hf2,hf3⟩:=zrt hs;refine uOb func204 ntmps204 ?_;refine gz6 ?_;refine dq (uCl zwC rfl (zhM hT uO)) ?_;refine gz4 ?_;refine uGr rfl (fun hc=>by have hq:=hc;(try simp at hq);exact uCl zzP rfl (zkb hT (s:=s) uO (l:=spl 32 s) uO hf2)) ?_;refine uGr rfl (fun hc=>by have hq:=hc;(try simp at hq);exact uCl zzO rfl (zoY hT (l:=spl 32 s) (c:=32) (by rw [hf3];omega) uO)) ?_;refine gz3 ?_;refine za3 rfl (fun h1=> ?_) (fun h1=> ?_)
 exfalso
 try simp at h1
 (clear hf1 hf2 hs;simp_all)
 try simp at h1
 refine gz3 ?_
 clear hf1 hf2 hf3
 try clear h1
 try clear h2
 refine gz6 ?_;refine uT1 [2,2,16,14] (fun k=>[(16,.int .i64 (k:Int))]) (fun k=>[]) (fun k=>k<=s.length) (fun k=>s.length-k) (0) ?_ ?_;exact Ad _
 intro k hk
 refine gz4 ?_;refine uCo (fun h2=> ?_) fun h3=> ?_
 obtain ⟨x,hx⟩: ∃x,s[k]? =some x:=⟨_,Aa uO⟩
 obtain ⟨hx1,hx2⟩:=zop hs (Ac hx);refine zc8 ?_;refine dq (zaT (j:=k) (b:=x) ty9 rfl rfl rfl hx) ?_;refine gz4 ?_;refine uGr rfl (fun hc=>zaT (j:=k) (b:=x) ty9 rfl rfl rfl hx) ?_;refine gz3 ?_;refine za3 rfl (fun h4=> ?_) (fun h4=> ?_)
 exfalso
 try simp at h4
 omega
 try simp at h4
 refine gz7 ?_;refine ⟨k+1,?_,?_,⟨rfl,trivial⟩,uK,Ab _⟩
 omega
 dsimp only;omega
 refine gz2 ?_;refine zG ?_;refine gz6 ?_;refine zC rfl ?_
 show HVal.bool _=_
 rfl
end
end Go.Proofs.YtahegdhbakjdoaaGreatDoor
namespace Go.HL
section

end
section
structure Hall where
 Teams:List Str
 Players:List Str
 Budget:Int
 Places:Int
structure Sale where
 Player:Str
 Team:Str
 Price:Int
def zk9:List Sale->Str->Int
 |[],_=>0
 |x::r,t=>(if x.Team=t then x.Price else 0)+zk9 r t
def many:List Sale->Str->Int
 |[],_=>0
 |x::r,t=>(if x.Team=t then 1 else 0)+many r t
theorem ztG (l:List Sale) (x:Sale) (t:Str):zk9 (l++[x]) t=zk9 l t+(if x.Team=t then x.Price else 0):=by
 induction l with
 |nil=>simp [zk9]
 |cons y r ih=>simp only [AT,zk9,ih];omega
theorem zuB (l:List Sale) (x:Sale) (t:Str):many (l++[x]) t=many l t+(if x.Team=t then 1 else 0):=by
 induction l with
 |nil=>simp [many]
 |cons y r ih=>simp only [AT,many,ih];omega
abbrev zfR:=List (Str×HVal)
def lkI (L:zfR) (t:Str):HVal:=match z6 t L with|some p=>p.2|none=> .int .i64 0
theorem zh5 {s t:Str} {v:HVal}: ∀{L:zfR},z6 s L=none->z6 t (L++[(s,v)])=if t=s then some (L.length,v) else z6 t L
 |[],_=>by by_cases h:t=s<;>simp [z6,h]
 |(k,h)::r,hn=>by
   simp only [z6] at hn
   by_cases hk:s=k
   rw [if_pos hk] at hn;cases hn;rw [if_neg hk] at hn;have hr:z6 s r=none:=by cases hq:z6 s r with
    |none=>rfl
    |some p=>rw [hq] at hn;cases hn
   have ih:=zh5 (t:=t) (v:=v) hr;simp only [AT,z6]
   by_cases ht:t=k
   have: ¬t=s:=fun e=>hk (e▸ht)
   rw [if_pos ht,if_neg this,if_pos ht];rw [if_neg ht,ih]
   by_cases hs:t=s
   rw [if_pos hs,if_pos hs];simp;rw [if_neg hs,if_neg hs,if_neg ht]
theorem zp7 {s t:Str} {v:HVal}: ∀{L:zfR} {j:Nat} {h:HVal},z6 s L=some (j,h)->(z6 t (L.set j (s,v)))=if t=s then some (j,v) else z6 t L
 |[],j,h,hh=>by simp [z6] at hh
 |(k,x)::r,j,h,hh=>by
   simp only [z6] at hh
   by_cases hk:s=k
   rw [if_pos hk] at hh;simp only [Az,Prod.mk.injEq] at hh;obtain ⟨rfl,rfl⟩:=hh;subst hk;simp only [List.set_cons_zero,z6]
   by_cases ht:t=s
   rw [if_pos ht,if_pos ht];rw [if_neg ht,if_neg ht,if_neg ht];rw [if_neg hk] at hh
   cases hq:z6 s r with
   |none=>rw [hq] at hh;cases hh
   |some p=>
     rw [hq] at hh;simp only [AM,Az,Prod.mk.injEq] at hh;obtain ⟨rfl,rfl⟩:=hh;have ih:=zp7 (t:=t) (v:=v) (L:=r) (j:=p.1) (h:=p.2) (by rw [hq]);simp only [BX,z6]
     by_cases ht:t=k
     have: ¬t=s:=fun e=>hk (e▸ht)
     rw [if_pos ht,if_neg this,if_pos ht];rw [if_neg ht,ih,if_neg ht]
     by_cases hs:t=s
     rw [if_pos hs,if_pos hs];rfl;rw [if_neg hs,if_neg hs]
theorem zp6 (s t:Str) (v:HVal) (L:zfR):(z6 t (sput s v L)).map (·.2)=if t=s then some v else (z6 t L).map (·.2):=by
 unfold sput
 cases hq:z6 s L with
 |none=>simp only [];rw [zh5 hq];split<;>rfl
 |some p=>obtain ⟨j,h⟩:=p;simp only [];rw [zp7 hq];split<;>rfl
theorem zuA (L:zfR) (t:Str):lkI L t=((z6 t L).map (·.2)).getD (.int .i64 0):=by
 unfold lkI;cases z6 t L<;>rfl
theorem zsz (s t:Str) (v:HVal) (L:zfR):lkI (sput s v L) t=if t=s then v else lkI L t:=by
 rw [zuA,zp6,zuA];split<;>rfl
theorem zpp (L:zfR) (t:Str):(z6 t L).isSome=((z6 t L).map (·.2)).isSome:=by cases z6 t L<;>rfl
structure AucOk (h:Hall) (l:List Sale) (S:List Str) (L H:zfR):Prop where
 sold: ∀s,S.contains s=l.any (fun y=>y.Player==s)
 left: ∀t,h.Teams.contains t=true->lkI L t= .int .i64 (h.Budget-zk9 l t)
 got: ∀t,lkI H t= .int .i64 (many l t)
theorem zlk (s t:Str) (l:List Str):(zdb s l).contains t=(l.contains t||s==t):=by
 unfold zdb
 by_cases hc:l.contains s=true
 rw [if_pos hc]
 by_cases h:s=t
 subst h;rw [hc];simp;have:(s==t)=false:=by simpa using h
 simp [this]
 rw [if_neg hc,List.contains_eq_any_beq,List.any_append,<-List.contains_eq_any_beq]
 congr 1
 simp only [Bt,List.any_nil,Bf];rw [AL,beq_iff_eq,beq_iff_eq];exact eq_comm
theorem AucOk.add {h:Hall} {l:List Sale} {S:List Str} {L H:zfR} (ok:AucOk h l S L H) (x:Sale) (hx:h.Teams.contains x.Team=true):
 AucOk h (l++[x]) (zdb x.Player S) (sput x.Team (.int .i64 (h.Budget-zk9 l x.Team-x.Price)) L) (sput x.Team (.int .i64 (many l x.Team+1)) H) where
 sold s:=by rw [zlk,ok.sold,List.any_append];simp
 left t ht:=by
  rw [zsz,ztG]
  by_cases e:t=x.Team
  subst e;rw [if_pos rfl,if_pos rfl];congr 1;omega;rw [if_neg e,if_neg (fun q=>e q.symm),ok.left t ht];congr 1;omega
 got t:=by
  rw [zsz,zuB]
  by_cases e:t=x.Team
  subst e;rw [if_pos rfl,if_pos rfl];rw [if_neg e,if_neg (fun q=>e q.symm),ok.got t];congr 1;omega
end
section
/-! numbers in decimal-/
def dig (c:UInt8):Bool:=decide (48<=c.toNat)&&decide (c.toNat<=57)
def zhi (s:Str):Str:=match s with|45::r=>r|_=>s
def numC (s:Str) (n:Int):Bool:=decide ((zhi s=[]\/n<((zhi s).length:Int))\/((((zhi s).head?).getD 0).toNat:Int)=48/\((1:Int)<((zhi s).length:Int)\/(zhi s).length<s.length))
def numB (s:Str) (n:Int):Bool:= !(numC s n)&&(zhi s).all dig
def numV (s:Str):Int:=(Lib.atoi s).getD 0
def numR (s:Str) (n:Int):Int:=if numB s n then numV s else 0
def LimOk (l:List PairS) (L:zfR):Prop:= ∀t,(z6 t L).map (·.2)=(l.find? (fun p=>p.Name==t)).map (fun p=> .int .i64 (numR p.Val 9))
theorem LimOk.add {l:List PairS} {L:zfR} (ok:LimOk l L) (x:PairS) (hx:l.any (fun y=>y.Name==x.Name)=false):LimOk (l++[x]) (sput x.Name (.int .i64 (numR x.Val 9)) L):=fun t=>by
 rw [zp6,List.find?_append,ok t]
 by_cases e:t=x.Name
 subst e;rw [if_pos rfl];have:l.find? (fun p=>p.Name==x.Name)=none:=by
  rw [List.find?_eq_none];intro y hy;have:=List.any_eq_false.1 hx y hy
  simpa using this
 rw [this];simp;rw [if_neg e];have hn:(x.Name==t)=false:=by simpa using fun q=>e q.symm
 cases l.find? (fun p=>p.Name==t) with
 |none=>simp [List.find?,hn]
 |some p=>simp
theorem zAy {l:List PairS} {L:zfR} (ok:LimOk l L) (t:Str):(z6 t L).isSome=l.any (fun y=>y.Name==t):=by
 rw [zpp,ok t];rw [AL];simp
structure Top where
 team:Str
 first:Int
 second:Int
def Top.step (q:Top) (t:Str) (n:Int):Top:=if q.first<n then ⟨t,n,q.first⟩ else ⟨q.team,q.first,max q.second n⟩
end
section
section
variable {h:Hall} {l:List Sale} {x:Sale} (h6:x.Player∈h.Players/\x.Team∈h.Teams) (h8: ∀y∈l,¬y.Player=x.Player)
include h6 h8
end
end
section

end
section
theorem Ghost.clear [Tracks] {e:Env}: ∀{M:List MObj},Ghost e M e []
 |[]=>Ghost.perm (Ab _)
 |_::_=>Ghost.trans Ghost.drop Ghost.clear
theorem Ghost.last [Tracks] {e:Env} {m:MObj}: ∀{R:List MObj},Ghost e (R++[m]) e [m]
 |[]=>Ghost.perm (Ab _)
 |x::R=>Ghost.trans (M':=R++[m]) Ghost.drop Ghost.last
theorem Ghost.only [Tracks] {e:Env} {M:List MObj} {i:Nat} {m:MObj} (h:M[i]? =some m):Ghost e M e [m]:=
 Ghost.trans (Ghost.perm ((zig h).trans (AX (l₁:=[m]) (l₂:=M.eraseIdx i)))) Ghost.last
end
section
section
variable {P:Program} {e:Env} {dst:Option Tmp} {ty:TypeId} {pos:String} {af:Array Edge} {g:Option (Nat×Bool)} {M:List MObj} {K:HVal->List MObj->Prop}
end
end
end Go.HL
namespace Go.Proofs.YtahegdhbakjdoaaGreatDoor
set_option maxRecDepth 100000
set_option linter.unusedVariables false
set_option linter.unusedSimpArgs false
section
open Go.Proofs.Tryz
open Go.HL
theorem zdj [Tracks] {n:Int}:ConP prog 74 [.int .i64 n] (.bool (zbc n)):=by
 refine uOb func74 ntmps74 ?_;refine gz5 ?_;refine dq (uCl zc3 rfl zaM) ?_;refine gz4 ?_;refine zC rfl ?_
 rfl
theorem znj [Tracks] {p:Play}:ConP prog 159 [zav p] (.int .i64 (playFault p)):=by
 refine uOb func159 ntmps159 ?_;refine gz9 ?_;refine dq (uCl zdL rfl zaH) ?_;refine gz3 ?_;refine uCo (fun h1=> ?_) fun h2=> ?_
 refine gz4 ?_;refine uRp ?_
 simp_all [playFault]
 refine gz3 ?_;refine dq (uCl zc3 rfl zaM) ?_;refine gz3 ?_;refine uGr rfl (fun hc=>uCl ziL rfl zbA) ?_;refine gz5 ?_;refine uGr rfl (fun hc=>uCl zlX rfl zdj) ?_;refine gz4 ?_;refine uCo (fun h3=> ?_) fun h4=> ?_
 refine gz4 ?_;refine uRp ?_
 simp_all [playFault]
 refine gz3 ?_;refine dq (uCl zdL rfl zaH) ?_;refine gz4 ?_;refine uGr rfl (fun hc=>uCl zdL rfl zaH) ?_;refine gz5 ?_;refine uGr rfl (fun hc=>uCl zdL rfl zaH) ?_;refine gz4 ?_;refine uCo (fun h5=> ?_) fun h6=> ?_
 refine gz4 ?_;refine uRp ?_
 simp_all [playFault]
 refine gz3 ?_;refine dq (uCl zc3 rfl zaM) ?_;refine gz5 ?_;have hN:=zeP (n:=p.No) (lo:=1) (hi:=3000) uSa;refine gz1 ?_;refine uGr rfl (fun hc=>uCl zc3 rfl zaM) ?_;refine gz3 ?_;refine uCo (fun h7=> ?_) fun h8=> ?_
 refine gz4 ?_;refine uRp ?_
 simp_all [playFault]
 refine zc8 ?_;refine uCo (fun h9=> ?_) fun h10=> ?_
 refine gz4 ?_;refine uRp ?_
 simp_all [playFault]
 refine gz7 ?_;refine uRp ?_
 simp_all [playFault]
theorem zrY [Tracks] {a b:Play}:ConP prog 160 [zav a,zav b] (.int .i64 (byNo a b)):=by
 refine uOb func160 ntmps160 ?_;refine gz5 ?_;refine uDr mixed ?_;refine gz4 ?_;refine uB 4 rfl (uCl zcJ rfl zZ) ?_;refine gz4 ?_;refine uB 9 rfl (uCl zdF rfl zae) ?_;refine uB 10 rfl (za (hs:=[_,_]) zad ty3 rfl rfl (by decide) (by decide) rfl) ?_;refine uB 11 rfl (uCl zgP rfl (zbO (l:=[_,_]) (by simp))) ?_;refine gz3 ?_;refine zC rfl ?_
 rfl
theorem zmR [Tracks] {l:List Play} (hl:l.length<=1000000):ConP prog 82 [zcV l] (.int .i64 (zf8 l)):=by
 refine uOb func82 ntmps82 ?_;refine gz9 ?_;refine uCo (fun h1=> ?_) fun h2=> ?_
 refine gz4 ?_;refine zB Ghost.clear rfl ⟨?_,rfl⟩
 show HVal.int .i64 _=_
 (rw [zf8,if_pos uO])
 refine gz3 ?_;refine de rfl (zbP fun m14=> ?_)
 refine de rfl (zbP fun m15=> ?_)
 refine zfW ?_;refine uT1 [2,1,5,6,18,45] (fun k=>[(18,.int .i64 k),(5,.bool (zbn (l.take k)).c)]) (fun k=>[.map m15 (sk (em (.int .i64) (zbn (l.take k)).W)),.map m14 (sk (zev (zbn (l.take k)).S))]) (fun k=>k<=l.length/\(zcx l 0 l=zcx l k (l.drop k))) (fun k=>l.length-k) (0) ?_ ?_;exact ⟨Ad _,rfl⟩;rintro k ⟨hk,hg⟩;refine gz4 ?_;refine uCo (fun h3=> ?_) fun h4=> ?_
 obtain ⟨x,hx⟩: ∃x,l[k]? =some x:=⟨_,Aa h3⟩
 have hdx:=zt hx;rw [hdx] at hg;refine gz8 ?_;refine de rfl (zq zdP rfl fun b7=> ?_)
 refine gz1 ?_;refine de0 (zz zdP rfl rfl rfl rfl rfl ?_)
 refine gz1 ?_;refine zl (zD 7 rfl) ?_;refine gz3 ?_;refine dq (uCl zy1 rfl znj) ?_;refine gz6 ?_;refine uCo (fun h5=> ?_) fun h6=> ?_
 refine gz5 ?_;refine zB Ghost.clear rfl ⟨?_,rfl⟩
 show HVal.int .i64 _=_
 (rw [zjv uO (by rw [hg,zcx,if_pos (by simpa using h5)]) (by simpa using h5)])
 refine gz3 ?_;refine uDr mixed ?_;refine gz7 ?_;refine uGy 7 rfl rfl (fun hc=>by have hq:=hc;(try simp at hq);exact zK (j:=k-1) (a:=l.getD (k-1) zox) zi1 zdP rfl rfl uO (getD_some uO)) ?_;refine gz1 ?_;refine uGy 9 rfl rfl (fun hc=>uCl zy2 rfl zrY) ?_;refine gz3 ?_;refine uCo (fun h7=> ?_) fun h8=> ?_
 refine gz4 ?_;refine zB Ghost.clear rfl ⟨?_,rfl⟩
 show HVal.int .i64 _=_
 (rw [zjv (c:=7) uO (by rw [hg,zcx,if_neg (by simpa using h6),if_pos (by obtain ⟨qa,qb⟩:=h7;exact ⟨by omega,by simpa using qb⟩)]) (by decide)])
 refine gz6 ?_;refine de0 (zkf (i:=1) zqG ty9 rfl rfl rfl rfl ?_)
 refine gz6 ?_;refine de rfl (ziO (i:=0) (z0:=(0:Int)) zfM ty9 ty3 rfl rfl rfl rfl ?_)
 refine zkO ?_;refine uCo (fun h9=> ?_) fun h10=> ?_
 refine zaD ?_;refine de0 (zck (i:=0) zfM ty9 rfl rfl rfl rfl ?_)
 refine gz7 ?_;refine ⟨k+1,⟨by omega,?_⟩,uD,⟨rfl,?_,trivial⟩,uK,?_⟩
 rw [hg,zk0 (by simpa using h6) (fun hk0=>by simp_all)];rw [zeK hx];exact congrArg (fun b=>some (HVal.bool b)) (by simp_all [zhh]);exact zg (by dsimp only;rw [zeK hx];rfl);refine gz8 ?_;refine de0 (zck (i:=0) zfM ty9 rfl rfl rfl rfl ?_)
 refine gz7 ?_;refine ⟨k+1,⟨by omega,?_⟩,uD,⟨rfl,?_,trivial⟩,uK,?_⟩
 rw [hg,zk0 (by simpa using h6) (fun hk0=>by simp_all)];rw [zeK hx];exact congrArg (fun b=>some (HVal.bool b)) (by simp_all [zhh]);exact zg (by dsimp only;rw [zeK hx];rfl);have hnk:l.length<=k:=by omega
 obtain rfl:k=l.length:=by omega
 rw [zP (Af _)] at hg;rw [Aw];refine gz2 ?_;refine zG ?_;refine gz4 ?_;have e1:(sk (zev (zbn l).S)).length=(zbn l).S.length:=by simp [sk,zev]
 have e2:(sk (em (HVal.int .i64) (zbn l).W)).length=(zbn l).W.length:=by simp [sk]
 refine gz2 ?_;refine de rfl (zid (i:=1) zqG rfl rfl ?_)
 refine gz3 ?_;refine dgl rfl rfl (fun hc=>⟨_,OpenTo.upd (t:=68) rfl (hc) (OpenTo.refl _),zid (i:=0) zfM rfl rfl ⟨rfl,rfl⟩⟩) ?_;refine gz4 ?_;refine uCo (fun h11=> ?_) fun h12=> ?_
 refine gz4 ?_;refine zB Ghost.clear rfl ⟨?_,rfl⟩
 show HVal.int .i64 _=_
 (rw [ze5 uO hg,zeE,if_pos uO])
 refine gz4 ?_;refine uCo (fun h13=> ?_) fun h14=> ?_
 refine gz4 ?_;refine zB Ghost.clear rfl ⟨?_,rfl⟩
 show HVal.int .i64 _=_
 (rw [ze5 uO hg,zeE,if_neg uO,if_pos (by assumption)])
 refine gz7 ?_;refine zB Ghost.clear rfl ⟨?_,rfl⟩
 show HVal.int .i64 _=_
 (rw [ze5 uO hg,zeE,if_neg uO,if_neg uSa])
theorem zmS [Tracks] {l:List Str} (hl:l.length<=1000000):ConP prog 83 [eSs l] (.int .i64 (zeZ l)):=by
 refine uOb func83 ntmps83 ?_;refine gz9 ?_;refine uCo (fun h1=> ?_) fun h2=> ?_
 refine gz4 ?_;refine uRp ?_
 (rw [zeZ,if_pos uO])
 refine gz9 ?_;refine uT1 [2,3,10,14] (fun k=>[(10,.int .i64 k)]) (fun k=>[]) (fun k=>k<=l.length/\(zeZ l=zdU l k (l.drop k))) (fun k=>l.length-k) (0) ?_ ?_;refine ⟨Ad _,?_⟩
 rw [zeZ,if_neg uO];rfl;rintro k ⟨hk,hg⟩;refine gz4 ?_;refine uCo (fun h3=> ?_) fun h4=> ?_
 obtain ⟨x,hx⟩: ∃x,l[k]? =some x:=⟨_,Aa h3⟩
 have hdx:=zt hx;rw [hdx] at hg;refine zeu ?_;refine dq (uCl zdL rfl zaH) ?_;refine gz2 ?_;refine uCo (fun h5=> ?_) fun h6=> ?_
 refine gz4 ?_;refine uRp ?_
 (rw [hg];simp_all [zdU])
 refine gz5 ?_;refine dq (za9 zu ty9 rfl rfl ⟨_,_,rfl,rfl⟩ uO uO) ?_;refine gz1 ?_;refine dq (uCl zfU rfl (zH uSo)) ?_;refine gz1 ?_;refine uCo (fun h7=> ?_) fun h8=> ?_
 refine gz4 ?_;refine uRp ?_
 (rw [hg];simp_all [zdU])
 refine gz7 ?_;refine ⟨k+1,?_,?_,⟨rfl,trivial⟩,uK,Ab _⟩
 refine ⟨by omega,?_⟩
 rw [hg];simp_all [zdU]
 dsimp only;omega
 have hnk:l.length<=k:=by omega
 obtain rfl:k=l.length:=by omega
 rw [zP (Af _)] at hg;refine gz2 ?_;refine zG ?_;refine gz6 ?_;refine uRp ?_
 (rw [hg];simp_all [zdU])
end
end Go.Proofs.YtahegdhbakjdoaaGreatDoor
namespace Go.HL
section
variable {P:Program}
abbrev hsm (L:zfR):HVal:= .hmap (L.map fun p=> .str p.1) (L.map (·.2))
abbrev ztr (S:List (List UInt8)):HVal:=hsm (zev S)
theorem zyo (L:zfR):(sk L).map (·.1)=L.map fun p=>HVal.str p.1:=by simp [sk,Function.comp_def]
theorem zyp (L:zfR):(sk L).map (·.2)=L.map (·.2):=by simp [sk,Function.comp_def]
section
variable {e:Env} {dst:Option Tmp} {ty:TypeId} {pos:String} {af:Array Edge} {g:Option (Nat×Bool)}
end
inductive Bow (M:List MObj):HVal->HVal->Prop
 |weak {h h':HVal} (hw:Weak h h'):Bow M h h'
 |arr {i:Nat} {v:Value} {sz:Nat} {es:List HVal} (hm:M[i]? =some (.arr v sz es)):Bow M (.raw v) (.slice sz es)
 |cells {i b off:Nat} {cs cs':List HVal} (hm:M[i]? =some (.cells b cs)) (hl:cs.length=cs'.length) (h: ∀(j:Nat) (c c':HVal),cs[j]? =some c->cs'[j]? =some c'->Bow M c c'):Bow M (.raw (.pointer (some ⟨b,off,none⟩))) (.vptr cs' off)
 |map {i b:Nat} {L:zfR} (hm:M[i]? =some (.map b (sk L))):Bow M (.raw (.map (some b))) (hsm L)
 |vptr {off:Nat} {l l':List HVal} (hl:l.length=l'.length) (h: ∀(j:Nat) (c c':HVal),l[j]? =some c->l'[j]? =some c'->Bow M c c'):Bow M (.vptr l off) (.vptr l' off)
 |fn {f:Fn} {c1 l l':List HVal} (hl:l.length=l'.length) (h: ∀(j:Nat) (c c':HVal),l[j]? =some c->l'[j]? =some c'->Bow M c c'):Bow M (.fn f c1 l) (.fn f c1 l')
theorem Bow.refl {M:List MObj} {h:HVal}:Bow M h h:= .weak (Weak.refl _)
theorem V.vptr_inv' {I:Imm} {cs:List HVal} {off:Nat} {v:Value} (h:V I (.vptr cs off) v): ∃b base rc el fr,v= .pointer (some ⟨b,base+off,none⟩)/\I.heap b=some (.cells rc el fr)/\base+cs.length<=rc.size/\
 ∀(j:Nat) (c:HVal) (v:Value),cs[j]? =some c->rc[base+j]? =some v->V I c v:=by
 cases h with
 |vptr h1 h2 h3=>exact ⟨_,_,_,_,_,rfl,h1,h2,h3⟩
theorem Bow.v [Tracks] {M:List MObj} {I:Imm} {F:List MObj} {w:World} {h h':HVal} (hb:Bow M h h') (hs:Sat P I (M++F) w): ∀{v:Value},V I h v->V (zci w) h' v:=by
 induction hb with
 |weak hw=>intro v hv;exact hw _ _ (hv.mono hs.le_all)
 |arr hm=>intro v hv;exact (Bor.arr hm).v hs hv
 | @cells i b off cs cs' hm hl _ ih=>
   intro v hv
   rw [hv.raw_inv];obtain ⟨rc,el,fr,h2,h3,h4⟩:=hs.obj _ (As _ (Ac hm));have:=V.vptr (I:=zci w) (cs:=cs') (off:=off) (base:=0) h2 (by have:=h4.1;simp at this;omega) fun j c v a1 a2=>by
    have hj:=zx a1;have hj':=Aa (l:=cs) (i:=j) (by omega);exact ih j _ c hj' a1 (h4.2 j _ v hj' (by simpa using a2))
   rwa [Bc] at this
 | @map i b L hm=>
   intro v hv
   rw [hv.raw_inv];obtain ⟨es,clk,h1,h2,h3⟩:=hs.obj _ (As _ (Ac hm));have hn:es.size=L.length:=by simpa [sk] using h2.1
   refine .hmap (I:=zci w) h1 (by simp [hn]) (by simp [hn]) (fun j c m a1 a2=> ?_) (fun j c m a1 a2=> ?_)
   rw [<-zyo,Aj] at a1
   cases hq:(sk L)[j]? with
   |none=>rw [hq] at a1;simp at a1
   |some p=>rw [hq] at a1;simp at a1;subst a1;exact ((h3 j p m hq a2).1).mono hs.le_all
   rw [<-zyp,Aj] at a1
   cases hq:(sk L)[j]? with
   |none=>rw [hq] at a1;simp at a1
   |some p=>rw [hq] at a1;simp at a1;subst a1;exact ((h3 j p m hq a2).2).mono hs.le_all
 | @vptr off l l' hl _ ih=>
   intro v hv
   obtain ⟨b,base,rc,el,fr,rfl,h1,h2,h3⟩:=hv.vptr_inv';refine .vptr (I:=zci w) (hs.imm _ _ h1) (by omega) fun j c u a1 a2=> ?_
   have hj:=zx a1;have hj':=Aa (l:=l) (i:=j) (by omega);exact ih j _ c hj' a1 (h3 j _ u hj' a2)
 | @fn f c1 l l' hl _ ih=>
   intro v hv
   cases hv with
   |fn g1 g2 g3 g4=>
     refine .fn g1 (by omega) (fun j c u a1 a2=>(g3 j c u a1 a2).mono hs.le_all) fun j c u a1 a2=> ?_
     have hj:=zx a1;have hj':=Aa (l:=l) (i:=j) (by omega);exact ih j _ c hj' a1 (g4 j _ u hj' a2)
end
section
open Go
variable {P:Program} {e:Env} {dst:Option Tmp} {ty:TypeId} {pos:String} {af:Array Edge} {g:Option (Nat×Bool)}
theorem zvN [Tracks] {x:Operand} {t:TypeId} {m:Int} (hx:zh e x=some (.int .u64 m)):POp P e ⟨dst,.unOp .neg t x,ty,pos,af,g⟩ (.int .u64 (IntKind.wrap .u64 (-m))):=
 zF fun I a w ho=>⟨.int .u64 (IntKind.wrap .u64 (-m)),by
  have h1:=(ho.one (x:=x) (by simp [Op.operands]) hx).int_inv;simp only [execOp,h1,Op.unary,Op.intArith,Sem.run_bind,Sem.run_pure,Result.andThen_ok];rw [Int.zero_sub],.int _ _⟩
theorem zwR {n:Int} (h1: -9223372036854775808<=n) (h2:n<=9223372036854775807):IntKind.wrap .u64 n=if n<0 then n+18446744073709551616 else n:=by
 unfold IntKind.wrap
 split<;>simp [IntKind.bits,IntKind.signed]<;>omega
end
end Go.HL
namespace Go.Proofs.YtahegdhbakjdoaaGreatDoor
set_option maxRecDepth 100000
set_option linter.unusedVariables false
set_option linter.unusedSimpArgs false
section
open Go.Proofs.Tryz
open Go.HL
theorem ziy [Tracks] {l:List Str} (hl:l.length<=1000000):ConP prog 241 [eSs l] (.int .i64 (zhp l)):=by
 refine uOb func241 ntmps241 ?_;refine zc8 ?_;refine uCo (fun h1=> ?_) fun h2=> ?_
 refine gz4 ?_;refine uRp ?_;unfold zhp
 (try clear hdx hg);(try simp only [Ae]);focus first|rfl|(simp_all;done)|((repeat' split)<;>focus first|rfl|(exfalso;omega)|(simp_all;done)|(exfalso;rcases ‹_\/_› with q|q<;>simp_all;done)|(exfalso;simp_all;omega))
 refine gz6 ?_;refine uCo (fun h3=> ?_) fun h4=> ?_
 refine gz4 ?_;refine uRp ?_;unfold zhp
 (try clear hdx hg);(try simp only [Ae]);focus first|rfl|(simp_all;done)|((repeat' split)<;>focus first|rfl|(exfalso;omega)|(simp_all;done)|(exfalso;rcases ‹_\/_› with q|q<;>simp_all;done)|(exfalso;simp_all;omega))
 refine gz5 ?_;refine dq (uCl zwE rfl (zle (by assumption))) ?_;refine gz3 ?_;refine uRp ?_;unfold zhp
 (try clear hdx hg);(try simp only [Ae]);focus first|rfl|(simp_all;done)|((repeat' split)<;>focus first|rfl|(exfalso;omega)|(simp_all;done)|(exfalso;rcases ‹_\/_› with q|q<;>simp_all;done)|(exfalso;simp_all;omega))
theorem zqi [Tracks] {n d:Int} (hn: -1000000000000<=n/\n<=1000000000000) (hd:1<=d/\d<=1000000000000):ConP prog 297 [.agg [.int .i64 n,.int .i64 d]] (.bool (znw n d)):=by
 refine uOb func297 ntmps297 ?_;refine gz4 ?_;refine uDr mixed ?_;refine gz2 ?_;refine uB 2 rfl (zaq (zeQ ty3 ztO rfl) (congrArg (HVal.int .u64) (zwR uO uO))) ?_;refine gz2 ?_;refine uB 5 rfl (zaq (zeQ ty3 ztO rfl) (congrArg (HVal.int .u64) (show IntKind.wrap .u64 d=((d.natAbs:Nat):Int) by rw [zwR uO uO,if_neg uO];omega))) ?_;refine gz3 ?_;refine uVj [3,1,11,5] (fun (z0:Unit)=>[(3,.int .u64 ((n.natAbs:Nat):Int))]) (fun (z0:Unit)=>[]) (fun (z0:Unit)=>True) ?_ ?_
 skip
 refine gz5 ?_;refine uCo (fun h1=> ?_) fun h2=> ?_
 refine gz2 ?_;refine dq (zaq (zvN rfl) (congrArg (HVal.int .u64) (show IntKind.wrap .u64 (-(if n<0 then n+18446744073709551616 else n))=((n.natAbs:Nat):Int) by rw [if_pos (by assumption),zyt uO uO];omega))) ?_;refine gz2 ?_;exact ⟨(),trivial,⟨rfl,trivial⟩,uK,Ab _⟩;refine gz1 ?_;exact ⟨(),trivial,⟨congrArg (fun q=>some (HVal.int .u64 q)) (show (if n<0 then n+18446744073709551616 else n)=((n.natAbs:Nat):Int) by rw [if_neg uO];omega),trivial⟩,uK,Ab _⟩
 intro z0 _
 refine gz2 ?_;refine uT2 [3,2,16,6] (fun a b=>[(3,.int .u64 ((a:Nat):Int)),(4,.int .u64 ((b:Nat):Int))]) (fun a b=>[]) (fun a b=>Nat.gcd a b=Nat.gcd n.natAbs d.natAbs) (fun a b=>b) (n.natAbs) (d.natAbs) ?_ ?_
 rfl
 intro a b hg
 refine gz5 ?_;refine uCo (fun h3=> ?_) fun h4=> ?_
 have hb0:0<b:=by omega
 refine gz3 ?_;refine zmt mixed ?_;refine gz3 ?_;refine uB 3 rfl (zaq (zew rfl rfl uO) (congrArg (HVal.int .u64) (zrT a b))) ?_;refine gz4 ?_;refine ⟨b,a%b,?_,?_,⟨rfl,rfl,trivial⟩,uK,Ab _⟩
 exact zpH.trans hg
 dsimp only;exact BQ _ hb0
 obtain rfl:b=0:=by omega
 rw [Nat.gcd_zero_right] at hg;refine gz2 ?_;refine zY ?_;refine gz8 ?_;refine zC rfl ?_
 show HVal.bool _=_
 unfold znw;rw [<-hg]
 congr 1
 rw [AL]
 simp
 try omega
theorem zhX [Tracks] {n d most:Int} (hn: -1000000000<=n/\n<=1000000000) (hd: -1000000000<=d/\d<=1000000000) (hm:0<=most/\most<=1000000):ConP prog 239 [.agg [.int .i64 n,.int .i64 d],.int .i64 most] (.int .i64 (zc5 n d most)):=by
 refine uOb func239 ntmps239 ?_;refine zfq ?_;refine dg rfl rfl (fun hc=>by
  have hd1:1<=d:=by (have q:=hc;simp at q;omega)
  exact ⟨_,OpenTo.upd (t:=10) rfl (hc) (OpenTo.refl _),uCl zz3 rfl (zqi (n:=n) (d:=d) uO uO)⟩) ?_
 refine gz4 ?_;refine uCo (fun h1=> ?_) fun h2=> ?_
 refine gz4 ?_;refine uRp ?_;unfold zc5
 (rw [if_pos uSa])
 have hd1:1<=d:=by (first|omega|(simp_all;omega))
 have hmd:=zuG (a:=most) (b:=d) (A:=1000000) (B:=1000000000) uO uO uO uO;have hmn: -most*d= -(most*d):=Int.neg_mul _ _;refine gz3 ?_;refine dq (zew rfl rfl uO) ?_;refine gz5 ?_;refine uGr rfl (fun hc=>by have hq:=hc;(try simp at hq);exact zmi rfl uO uO) ?_;refine gz2 ?_;refine uGr rfl (fun hc=>by have hq:=hc;(try simp at hq);exact zgA rfl rfl uO uO) ?_;refine gz3 ?_;refine uGr rfl (fun hc=>by have hq:=hc;(try simp at hq);exact zgA rfl rfl uO uO) ?_;refine uGr rfl (fun hc=>uCl zc3 rfl zaM) ?_;refine gz3 ?_;refine uCo (fun h3=> ?_) fun h4=> ?_
 refine gz4 ?_;refine uRp ?_;unfold zc5
 (rw [if_neg uSa,if_pos uSa])
 refine gz7 ?_;refine uRp ?_;unfold zc5
 (rw [if_neg uSa,if_neg uSa])
theorem zdt [Tracks] {l:List PlayerS} {s:Str} {fid:FuncId} (hca:Callable prog fid) (hp: ∀x:PlayerS,ConP prog fid [zcE x,.str s] (.int .i64 (zab x.Key s))) (hl:l.length<=1000000) (hs:SortedS (l.map (·.Key))):ConP prog 151 [zaC l,.str s,.fn (.func fid) [] []] (.tup [.int .i64 (zdC (l.map (·.Key)) s),.bool ((l.map (·.Key)).contains s)]):=by
 have hLl:(l.map (·.Key)).length=l.length:=Ag _;refine uOb func151 ntmps151 ?_;refine zrj ?_;refine uT2 [9,3,15,20] (fun i j=>[(9,.int .i64 i),(10,.int .i64 j)]) (fun i j=>[]) (fun i j=>i<=j/\j<=(l.map (·.Key)).length/\(∀(k:Nat) (x:Str),k<i->(l.map (·.Key))[k]? =some x->Op.bytesLess x s=true)/\(∀(k:Nat) (x:Str),j<=k->(l.map (·.Key))[k]? =some x->Op.bytesLess x s=false)) (fun i j=>j-i) (0) (l.length) ?_ ?_;exact ⟨Ad _,by rw [hLl];exact Af _,fun k x h=>by omega,fun k x h1 h2=>by have:=zx h2;omega⟩;rintro i j ⟨hij,hjl,ha,hb⟩;rw [hLl] at hjl;refine gz6 ?_;refine uCo (fun h1=> ?_) fun h2=> ?_
 obtain ⟨x,hx⟩: ∃x,l[(i+j)/2]? =some x:=⟨_,Aa uO⟩
 have hxL:(l.map (·.Key))[(i+j)/2]? =some x.Key:=by rw [Aj,hx];rfl
 have hm:(i+j)/2<j/\i<=(i+j)/2:=by omega
 refine gz7 ?_;refine dq (zeQ ty3 zoH rfl) ?_;refine dq (zsG rfl rfl uO) ?_;refine dq (zaq (zeQ zoH ty3 rfl) (zuE (i:=i) (j:=j) uO)) ?_;refine gz6 ?_;refine dq (zK (j:=(i+j)/2) (a:=x) zcA zdc rfl rfl rfl hx) ?_;refine gz2 ?_;refine dq (zaB hca rfl rfl (WeakL.refl _) (hp _)) ?_;refine gz2 ?_;refine uCo (fun h3=> ?_) fun h4=> ?_
 refine gz6 ?_;exact ⟨(i+j)/2+1,j,⟨by omega,by rw [hLl];exact hjl,zv3 hs hxL (zo3.1 h3),hb⟩,uD,⟨rfl,rfl,trivial⟩,uK,Ab _⟩;refine gz5 ?_;exact ⟨i,(i+j)/2,⟨by omega,by omega,ha,zsX hs hxL (by have q:=fun e=>(show ¬zab x.Key s<0 by omega) (zo3.2 e);simpa using q)⟩,uD,⟨rfl,rfl,trivial⟩,uK,Ab _⟩;obtain rfl:i=j:=by omega
 have hjl2:i<=(l.map (·.Key)).length:=by rw [hLl];exact hjl
 refine gz2 ?_;refine zY ?_;refine zc8 ?_;refine uGr rfl (fun hc=>by have hq:=hc;(try simp at hq);exact zK (j:=i) (a:=l.getD i zdT) zcA zdc rfl rfl rfl (getD_some uO)) ?_;refine gz2 ?_;refine uGr rfl (fun hc=>zaB hca rfl rfl (WeakL.refl _) (hp _)) ?_;refine gz6 ?_;refine zC rfl ?_;rw [zmI hjl2 ha hb,<-zrh hs hjl2 ha hb,<-zt2]
theorem znX [Tracks] {x:PlayerS} {s:Str}:ConP prog 279 [zcE x,.str s] (.int .i64 (zab x.Key s)):=by
 refine uOb func279 ntmps279 ?_;refine gz8 ?_;refine dq (uCl zcJ rfl zZ) ?_;refine gz3 ?_;refine zC rfl ?_
 rfl
theorem zhY [Tracks] {l:List PlayerS} {s:Str} (hl:l.length<=1000000) (hs:SortedS (l.map (·.Key))):ConP prog 221 [zaC l,.str s] (.int .i64 (zfH (l.map (·.Key)) s)):=by
 refine uOb func221 ntmps221 ?_;refine gz6 ?_;refine dq (uCl zwi rfl (zdt (l:=l) zzZ (fun _=>znX) hl hs)) ?_;refine zc8 ?_;refine uCo (fun h1=> ?_) fun h2=> ?_
 refine gz4 ?_;refine uRp ?_;unfold zfH
 simp_all
 refine gz7 ?_;refine uRp ?_;unfold zfH
 simp_all
theorem zgv [Tracks] {l:List PlayerS} (hT:Tracks.on=false) (hl:l.length<=1000000) (hn: ∀p∈l,p.Name∈zcq) (hp: ∀p∈l,p.Positions.length<=1000000):ConP prog 220 [zaC l] (.int .i64 (zbX l)):=by
 refine uOb func220 ntmps220 ?_;refine gz9 ?_;refine uCo (fun h1=> ?_) fun h2=> ?_
 refine gz4 ?_;refine uRp ?_
 (refine congrArg _ (zcw ?_)
  omega)
 refine gz9 ?_;refine uT1 [2,4,11,42] (fun k=>[(11,.int .i64 k)]) (fun k=>[]) (fun k=>k<=l.length/\(za4 zcF zdT l 0 l=za4 zcF zdT l k (l.drop k))) (fun k=>l.length-k) (0) ?_ ?_;exact ⟨Ad _,rfl⟩;rintro k ⟨hk,hg⟩;refine gz4 ?_;refine uCo (fun h3=> ?_) fun h4=> ?_
 obtain ⟨x,hx⟩: ∃x,l[k]? =some x:=⟨_,Aa h3⟩
 have hdx:=zt hx;rw [hdx] at hg;refine gz8 ?_;refine de rfl (zq zdc rfl fun b4=> ?_)
 refine gz1 ?_;refine de0 (zz zdc rfl rfl rfl rfl rfl ?_)
 refine gz1 ?_;refine zl (zD 4 rfl) ?_;refine gz5 ?_;refine dq (uCl zdL rfl zaH) ?_;refine gz3 ?_;refine uCo (fun h5=> ?_) fun h6=> ?_
 refine gz4 ?_;refine uRp ?_
 (refine congrArg _ (zJ (e:=5) ?_ hg ?_ ?_)
  omega
  unfold zcF;exact uT
  first|decide|assumption)
 refine uDr mixed ?_;refine gz8 ?_;refine uGy 8 rfl rfl (fun hc=>by have hq:=hc;(try simp at hq);exact zK (j:=k-1) (a:=l.getD (k-1) zdT) zcA zdc rfl rfl uO (getD_some uO)) ?_;refine gz6 ?_;refine uCo (fun h7=> ?_) fun h8=> ?_
 refine gz4 ?_;refine uRp ?_
 (refine congrArg _ (zJ (e:=7) ?_ hg ?_ ?_)
  omega
  unfold zcF;exact uT
  first|decide|assumption)
 have hn6:=zme (hn x (Ac hx));refine gz3 ?_;refine dq (uCl zzY rfl (zq0 hT (hn x (Ac hx)))) ?_;refine gz5 ?_;refine uGr rfl (fun hc=>uCl zc3 rfl zaM) ?_;refine gz3 ?_;refine za3 rfl (fun h9=> ?_) (fun h9=> ?_)
 exfalso
 try simp at h9
 simp_all
 try simp at h9
 refine gz6 ?_;refine dq (uCl zwA rfl (ziy (hp x (Ac hx)))) ?_;refine gz6 ?_;refine uCo (fun h10=> ?_) fun h11=> ?_
 refine gz5 ?_;refine uRp ?_
 (refine congrArg _ (zJ (e:=(zhp x.Positions)) ?_ hg ?_ ?_)
  omega
  unfold zcF;exact uT
  first|decide|assumption)
 refine gz7 ?_;refine ⟨k+1,?_,?_,⟨rfl,trivial⟩,uK,Ab _⟩
 refine ⟨by omega,?_⟩
 rw [hg,za2 (by unfold zcF;(try clear hdx hg);(try simp only [Ae]);focus first|(simp_all;done)|((repeat' split)<;>focus first|rfl|(exfalso;omega)|(simp_all;done)|(exfalso;rcases ‹_\/_› with q|q<;>simp_all;done)|(exfalso;simp_all;omega)))]
 dsimp only;omega
 have hnk:l.length<=k:=by omega
 obtain rfl:k=l.length:=by omega
 rw [zP (Af _)] at hg;refine gz2 ?_;refine zG ?_;refine gz6 ?_;refine uRp ?_
 (refine congrArg _ (zcb ?_ hg)
  omega)
theorem zgK [Tracks] {L:List PlayerS} {l:List StintS} (hT:Tracks.on=false) (hL:L.length<=1000000) (hn: ∀p∈L,p.Name∈zcq) (hp: ∀p∈L,p.Positions.length<=1000000) (hl:l.length<=1000000):ConP prog 155 [zaC L,zbJ l] (.int .i64 (zfZ L l)):=by
 refine uOb func155 ntmps155 ?_;refine gz6 ?_;refine dq (uCl zwy rfl (zgv (l:=L) hT hL hn hp)) ?_;refine gz6 ?_;refine uCo (fun h1=> ?_) fun h2=> ?_
 refine gz5 ?_;refine uRp ?_
 try rw [hE]
 (rw [zfZ,if_pos (by assumption)])
 refine gz3 ?_;have hz:zbX L=0:=by first|assumption|simp_all
 have hE:zfZ L l=zh3 L l:=by rw [zfZ,if_neg (by simp [hz])]
 refine gz5 ?_;refine uCo (fun h3=> ?_) fun h4=> ?_
 refine gz4 ?_;refine uRp ?_
 try rw [hE]
 (refine congrArg _ (zcw ?_)
  omega)
 refine gz9 ?_;refine uT1 [4,1,6,2,18,53] (fun k=>[(18,.int .i64 k)]) (fun k=>[]) (fun k=>k<=l.length/\(za4 (zdd L) zd7 l 0 l=za4 (zdd L) zd7 l k (l.drop k))) (fun k=>l.length-k) (0) ?_ ?_;exact ⟨Ad _,rfl⟩;rintro k ⟨hk,hg⟩;refine gz4 ?_;refine uCo (fun h5=> ?_) fun h6=> ?_
 obtain ⟨x,hx⟩: ∃x,l[k]? =some x:=⟨_,Aa h5⟩
 have hdx:=zt hx;rw [hdx] at hg;refine gz8 ?_;refine de rfl (zq zbY rfl fun b7=> ?_)
 refine gz1 ?_;refine de0 (zz zbY rfl rfl rfl rfl rfl ?_)
 refine gz1 ?_;refine zl (zD 7 rfl) ?_;refine gz1 ?_;have hfn:zfH (L.map (·.Key)) x.Player<0↔zbM L x.Player=false:=zhQ;refine gz4 ?_;refine dq (uCl ztc rfl (zhY (l:=L) hL (zih hz))) ?_;refine gz3 ?_;refine uCo (fun h7=> ?_) fun h8=> ?_
 refine gz4 ?_;refine uRp ?_
 try rw [hE]
 (refine congrArg _ (zJ (e:=8) ?_ hg ?_ ?_)
  omega
  unfold zdd;exact uT
  first|decide|assumption)
 refine gz7 ?_;refine uGr rfl (fun hc=>uCl zdL rfl zaH) ?_;refine gz4 ?_;refine uCo (fun h9=> ?_) fun h10=> ?_
 refine gz4 ?_;refine uRp ?_
 try rw [hE]
 (refine congrArg _ (zJ (e:=5) ?_ hg ?_ ?_)
  omega
  unfold zdd;exact uT
  first|decide|assumption)
 refine gz3 ?_;refine dq (uCl zlX rfl zdj) ?_;refine gz3 ?_;refine uCo (fun h11=> ?_) fun h12=> ?_
 refine gz4 ?_;refine uRp ?_
 try rw [hE]
 (refine congrArg _ (zJ (e:=1) ?_ hg ?_ ?_)
  omega
  unfold zdd;exact uT
  first|decide|assumption)
 refine uDr mixed ?_;refine gz8 ?_;refine uGy 8 rfl rfl (fun hc=>by have hq:=hc;(try simp at hq);exact zK (j:=k-1) (a:=l.getD (k-1) zd7) zcB zbY rfl rfl uO (getD_some uO)) ?_;refine gz2 ?_;refine uGy 11 rfl rfl (fun hc=>uCl zcJ rfl zZ) ?_;refine gz5 ?_;refine uGy 17 rfl rfl (fun hc=>by have hq:=hc;(try simp at hq);exact zK (j:=k-1) (a:=l.getD (k-1) zd7) zcB zbY rfl rfl uO (getD_some uO)) ?_;refine gz2 ?_;refine uGy 20 rfl rfl (fun hc=>uCl zdF rfl zae) ?_;refine uGy 21 rfl rfl (fun hc=>za (hs:=[_,_]) zad ty3 rfl rfl (by decide) (by decide) rfl) ?_;refine uGy 22 rfl rfl (fun hc=>uCl zgP rfl (zbO (l:=[_,_]) (by simp))) ?_;refine gz4 ?_;refine uCo (fun h13=> ?_) fun h14=> ?_
 refine gz4 ?_;refine uRp ?_
 try rw [hE]
 (refine congrArg _ (zJ (e:=7) ?_ hg ?_ ?_)
  omega
  unfold zdd;exact uT
  first|decide|assumption)
 refine gz8 ?_;refine ⟨k+1,?_,?_,⟨rfl,trivial⟩,uK,Ab _⟩
 refine ⟨by omega,?_⟩
 rw [hg,za2 (by unfold zdd;(try clear hdx hg);(try simp only [Ae]);focus first|(simp_all;done)|((repeat' split)<;>focus first|rfl|(exfalso;omega)|(simp_all;done)|(exfalso;rcases ‹_\/_› with q|q<;>simp_all;done)|(exfalso;simp_all;omega)))]
 dsimp only;omega
 have hnk:l.length<=k:=by omega
 obtain rfl:k=l.length:=by omega
 rw [zP (Af _)] at hg;refine gz2 ?_;refine zG ?_;refine gz6 ?_;refine uRp ?_
 try rw [hE]
 (refine congrArg _ (zcb ?_ hg)
  omega)
theorem zf5 [Tracks] {l:List FixS} (hl:l.length<=1000000):ConP prog 156 [zde l] (.int .i64 (zhm l)):=by
 refine uOb func156 ntmps156 ?_;refine gz9 ?_;refine uCo (fun h1=> ?_) fun h2=> ?_
 refine gz4 ?_;refine uRp ?_
 (refine congrArg _ (zcw ?_)
  omega)
 refine gz9 ?_;refine uT1 [2,4,11,59] (fun k=>[(11,.int .i64 k)]) (fun k=>[]) (fun k=>k<=l.length/\(za4 zfp zjR l 0 l=za4 zfp zjR l k (l.drop k))) (fun k=>l.length-k) (0) ?_ ?_;exact ⟨Ad _,rfl⟩;rintro k ⟨hk,hg⟩;refine gz4 ?_;refine uCo (fun h3=> ?_) fun h4=> ?_
 obtain ⟨x,hx⟩: ∃x,l[k]? =some x:=⟨_,Aa h3⟩
 have hdx:=zt hx;rw [hdx] at hg;refine gz8 ?_;refine de rfl (zq zaa rfl fun b4=> ?_)
 refine gz1 ?_;refine de0 (zz zaa rfl rfl rfl rfl rfl ?_)
 refine gz1 ?_;refine zl (zD 4 rfl) ?_;refine gz5 ?_;refine dq (uCl zlX rfl zdj) ?_;refine gz4 ?_;refine uGr rfl (fun hc=>uCl ziL rfl zbA) ?_;refine gz4 ?_;refine uCo (fun h5=> ?_) fun h6=> ?_
 refine gz4 ?_;refine uRp ?_
 (refine congrArg _ (zJ (e:=1) ?_ hg ?_ ?_)
  omega
  unfold zfp;exact uT
  first|decide|assumption)
 refine gz3 ?_;refine dq (uCl zdL rfl zaH) ?_;refine gz4 ?_;refine uGr rfl (fun hc=>uCl zdL rfl zaH) ?_;refine gz4 ?_;refine uCo (fun h7=> ?_) fun h8=> ?_
 refine gz4 ?_;refine uRp ?_
 (refine congrArg _ (zJ (e:=5) ?_ hg ?_ ?_)
  omega
  unfold zfp;exact uT
  first|decide|assumption)
 refine gz8 ?_;refine uCo (fun h9=> ?_) fun h10=> ?_
 refine gz4 ?_;refine uRp ?_
 (refine congrArg _ (zJ (e:=6) ?_ hg ?_ ?_)
  omega
  unfold zfp;exact uT
  first|decide|assumption)
 refine gz8 ?_;refine uCo (fun h11=> ?_) fun h12=> ?_
 refine gz8 ?_;refine ⟨k+1,?_,?_,⟨rfl,trivial⟩,uK,Ab _⟩
 refine ⟨by omega,?_⟩
 rw [hg,za2 (by unfold zfp;(try clear hdx hg);(try simp only [Ae]);focus first|(simp_all;done)|((repeat' split)<;>focus first|rfl|(exfalso;omega)|(simp_all;done)|(exfalso;rcases ‹_\/_› with q|q<;>simp_all;done)|(exfalso;simp_all;omega)))]
 dsimp only;omega
 refine gz6 ?_;refine dq (zK (j:=k-1) (a:=l.getD (k-1) zjR) zaF zaa rfl rfl uO (getD_some uO)) ?_;refine gz1 ?_;refine de rfl (zq zaa rfl fun b5=> ?_)
 refine de0 (zz zaa rfl rfl rfl rfl rfl ?_)
 refine gz1 ?_;refine zl (zD 5 rfl) ?_;refine uDr mixed ?_;refine gz4 ?_;refine uB 4 rfl (uCl zdF rfl zae) ?_;refine gz4 ?_;refine uB 9 rfl (uCl zdF rfl zae) ?_;refine gz4 ?_;refine uB 14 rfl (uCl zcJ rfl zZ) ?_;refine uB 15 rfl (za (hs:=[_,_,_]) zad ty3 rfl rfl (by decide) (by decide) rfl) ?_;refine uB 16 rfl (uCl zgP rfl (zbO (l:=[_,_,_]) (by simp))) ?_;refine gz2 ?_;refine uCo (fun h13=> ?_) fun h14=> ?_
 refine gz4 ?_;refine uRp ?_
 (refine congrArg _ (zJ (e:=7) ?_ hg ?_ ?_)
  omega
  unfold zfp;exact uT
  first|decide|assumption)
 refine gz7 ?_;refine ⟨k+1,?_,?_,⟨rfl,trivial⟩,uK,Ab _⟩
 refine ⟨by omega,?_⟩
 rw [hg,za2 (by unfold zfp;(try clear hdx hg);(try simp only [Ae]);focus first|(simp_all;done)|((repeat' split)<;>focus first|rfl|(exfalso;omega)|(simp_all;done)|(exfalso;rcases ‹_\/_› with q|q<;>simp_all;done)|(exfalso;simp_all;omega)))]
 dsimp only;omega
 have hnk:l.length<=k:=by omega
 obtain rfl:k=l.length:=by omega
 rw [zP (Af _)] at hg;refine gz2 ?_;refine zG ?_;refine gz6 ?_;refine uRp ?_
 (refine congrArg _ (zcb ?_ hg)
  omega)
theorem zgJ [Tracks] {L:List PlayerS} {l:List HealthS} (hT:Tracks.on=false) (hL:L.length<=1000000) (hn: ∀p∈L,p.Name∈zcq) (hp: ∀p∈L,p.Positions.length<=1000000) (hl:l.length<=1000000) (hw: ∀x∈l,-1000000000000000<=x.To/\x.To<=1000000000000000):ConP prog 144 [zaC L,zbw l] (.int .i64 (ziS L l)):=by
 refine uOb func144 ntmps144 ?_;refine gz6 ?_;refine dq (uCl zwy rfl (zgv (l:=L) hT hL hn hp)) ?_;refine gz6 ?_;refine uCo (fun h1=> ?_) fun h2=> ?_
 refine gz5 ?_;refine uRp ?_
 try rw [hE]
 (rw [ziS,if_pos (by assumption)])
 refine gz3 ?_;have hz:zbX L=0:=by first|assumption|simp_all
 have hE:ziS L l=zo8 L l:=by rw [ziS,if_neg (by simp [hz])]
 refine gz5 ?_;refine uCo (fun h3=> ?_) fun h4=> ?_
 refine gz4 ?_;refine uRp ?_
 try rw [hE]
 (refine congrArg _ (zcw ?_)
  omega)
 refine gz9 ?_;refine uT1 [4,1,6,3,19,60] (fun k=>[(19,.int .i64 k)]) (fun k=>[]) (fun k=>k<=l.length/\(za4 (zbU L) zfI l 0 l=za4 (zbU L) zfI l k (l.drop k))) (fun k=>l.length-k) (0) ?_ ?_;exact ⟨Ad _,rfl⟩;rintro k ⟨hk,hg⟩;refine gz4 ?_;refine uCo (fun h5=> ?_) fun h6=> ?_
 obtain ⟨x,hx⟩: ∃x,l[k]? =some x:=⟨_,Aa h5⟩
 have hdx:=zt hx;rw [hdx] at hg;refine gz8 ?_;refine de rfl (zq zbN rfl fun b7=> ?_)
 refine gz1 ?_;refine de0 (zz zbN rfl rfl rfl rfl rfl ?_)
 refine gz1 ?_;refine zl (zD 7 rfl) ?_;refine gz2 ?_;have hfn:zfH (L.map (·.Key)) x.Player<0↔zbM L x.Player=false:=zhQ;have hwx:=hw x (Ac hx);refine gz4 ?_;refine dq (uCl ztc rfl (zhY (l:=L) hL (zih hz))) ?_;refine gz3 ?_;refine uCo (fun h7=> ?_) fun h8=> ?_
 refine gz4 ?_;refine uRp ?_
 try rw [hE]
 (refine congrArg _ (zJ (e:=8) ?_ hg ?_ ?_)
  omega
  unfold zbU;exact uT
  first|decide|assumption)
 refine gz3 ?_;refine dq (uCl zc3 rfl zaM) ?_;refine gz6 ?_;refine uGr rfl (fun hc=>uCl zc3 rfl zaM) ?_;refine gz3 ?_;refine uCo (fun h9=> ?_) fun h10=> ?_
 refine gz4 ?_;refine uRp ?_
 try rw [hE]
 (refine congrArg _ (zJ (e:=1) ?_ hg ?_ ?_)
  omega
  unfold zbU;exact uT
  first|decide|assumption)
 refine gz3 ?_;refine dq (uCl zc3 rfl zaM) ?_;refine gz2 ?_;refine uCo (fun h11=> ?_) fun h12=> ?_
 refine gz4 ?_;refine uRp ?_
 try rw [hE]
 (refine congrArg _ (zJ (e:=4) ?_ hg ?_ ?_)
  omega
  unfold zbU;exact uT
  first|decide|assumption)
 refine gz8 ?_;refine uCo (fun h13=> ?_) fun h14=> ?_
 refine gz8 ?_;refine ⟨k+1,?_,?_,⟨rfl,trivial⟩,uK,Ab _⟩
 refine ⟨by omega,?_⟩
 rw [hg,za2 (by unfold zbU;(try clear hdx hg);(try simp only [Ae]);focus first|(simp_all;done)|((repeat' split)<;>focus first|rfl|(exfalso;omega)|(simp_all;done)|(exfalso;rcases ‹_\/_› with q|q<;>simp_all;done)|(exfalso;simp_all;omega)))]
 dsimp only;omega
 refine gz2 ?_;have hk0:0<k:=by omega
 have hpl:zbM L x.Player=true:=by
  cases hq:zbM L x.Player with
  |true=>rfl
  |false=>have:=hfn.2 hq;omega
 refine gz4 ?_;refine dq (zK (j:=k-1) (a:=l.getD (k-1) zfI) zf0 zbN rfl rfl uO (getD_some uO)) ?_;refine gz1 ?_;refine de rfl (zq zbN rfl fun b8=> ?_)
 refine de0 (zz zbN rfl rfl rfl rfl rfl ?_)
 refine gz1 ?_;refine zl (zD 8 rfl) ?_;refine gz1 ?_;refine uDr mixed ?_;refine gz4 ?_;refine uB 4 rfl (uCl zcJ rfl zZ) ?_;refine gz4 ?_;refine uB 9 rfl (uCl zdF rfl zae) ?_;refine uB 10 rfl (za (hs:=[_,_]) zad ty3 rfl rfl (by decide) (by decide) rfl) ?_;refine uB 11 rfl (uCl zgP rfl (zbO (l:=[_,_]) (by simp))) ?_;refine gz2 ?_;refine uCo (fun h15=> ?_) fun h16=> ?_
 refine gz4 ?_;refine uRp ?_
 try rw [hE]
 (refine congrArg _ (zJ (e:=7) ?_ hg ?_ ?_)
  omega
  unfold zbU;exact uT
  first|decide|assumption)
 refine zrj ?_;refine uCo (fun h17=> ?_) fun h18=> ?_
 refine gz4 ?_;refine uRp ?_
 try rw [hE]
 (refine congrArg _ (zJ (e:=13) ?_ hg ?_ ?_)
  omega
  unfold zbU;exact uT
  first|decide|assumption)
 refine gz7 ?_;refine ⟨k+1,?_,?_,⟨rfl,trivial⟩,uK,Ab _⟩
 refine ⟨by omega,?_⟩
 rw [hg,za2 (by unfold zbU;(try clear hdx hg);(try simp only [Ae]);focus first|(simp_all;done)|((repeat' split)<;>focus first|rfl|(exfalso;omega)|(simp_all;done)|(exfalso;rcases ‹_\/_› with q|q<;>simp_all;done)|(exfalso;simp_all;omega)))]
 dsimp only;omega
 have hnk:l.length<=k:=by omega
 obtain rfl:k=l.length:=by omega
 rw [zP (Af _)] at hg;refine gz2 ?_;refine zG ?_;refine gz6 ?_;refine uRp ?_
 try rw [hE]
 (refine congrArg _ (zcb ?_ hg)
  omega)
theorem zlP [Tracks] {l:List RuleS} (hl:l.length<=1000000) (hb: ∀x∈l,((-1000000000<=x.Num/\x.Num<=1000000000)/\ -1000000000<=x.Den/\x.Den<=1000000000)):ConP prog 179 [ziN l] (.int .i64 (ziX l)):=by
 refine uOb func179 ntmps179 ?_;refine gz9 ?_;refine uCo (fun h1=> ?_) fun h2=> ?_
 refine gz4 ?_;refine uRp ?_
 (refine congrArg _ (zcw ?_)
  omega)
 refine gz9 ?_;refine uT1 [2,5,12,75] (fun k=>[(12,.int .i64 k)]) (fun k=>[]) (fun k=>k<=l.length/\(za4 zd0 zjw l 0 l=za4 zd0 zjw l k (l.drop k))) (fun k=>l.length-k) (0) ?_ ?_;exact ⟨Ad _,rfl⟩;rintro k ⟨hk,hg⟩;refine gz4 ?_;refine uCo (fun h3=> ?_) fun h4=> ?_
 obtain ⟨x,hx⟩: ∃x,l[k]? =some x:=⟨_,Aa h3⟩
 have hdx:=zt hx;rw [hdx] at hg;refine gz8 ?_;refine de rfl (zq zhA rfl fun b4=> ?_)
 refine gz1 ?_;refine de0 (zz zhA rfl rfl rfl rfl rfl ?_)
 refine gz1 ?_;refine zl (zD 4 rfl) ?_;refine gz5 ?_;refine dq (uCl zdL rfl zaH) ?_;refine gz4 ?_;refine uGr rfl (fun hc=>uCl zdL rfl zaH) ?_;refine gz9 ?_;refine uGr rfl (fun hc=>uCl zdL rfl zaH) ?_;refine gz5 ?_;refine uCo (fun h5=> ?_) fun h6=> ?_
 refine gz4 ?_;refine uRp ?_
 (refine congrArg _ (zJ (e:=5) ?_ hg ?_ ?_)
  omega
  unfold zd0;exact uT
  first|decide|assumption)
 refine uDr mixed ?_;refine gz8 ?_;refine uGy 8 rfl rfl (fun hc=>by have hq:=hc;(try simp at hq);exact zK (j:=k-1) (a:=l.getD (k-1) zjw) zrU zhA rfl rfl uO (getD_some uO)) ?_;refine gz6 ?_;refine uCo (fun h7=> ?_) fun h8=> ?_
 refine gz4 ?_;refine uRp ?_
 (refine congrArg _ (zJ (e:=7) ?_ hg ?_ ?_)
  omega
  unfold zd0;exact uT
  first|decide|assumption)
 refine gz3 ?_;refine dq (uCl zc3 rfl zaM) ?_;refine gz2 ?_;refine uCo (fun h9=> ?_) fun h10=> ?_
 refine gz4 ?_;refine uRp ?_
 (refine congrArg _ (zJ (e:=4) ?_ hg ?_ ?_)
  omega
  unfold zd0;exact uT
  first|decide|assumption)
 refine zfq ?_;refine dq (zaq (h':= .bool (zqC x.Kind)) (zii rfl) rfl) ?_;refine gz7 ?_;refine uGr rfl (fun hc=>uCl zc3 rfl zaM) ?_;refine zc8 ?_;refine uCo (fun h11=> ?_) fun h12=> ?_
 refine gz4 ?_;refine uRp ?_
 (refine congrArg _ (zJ (e:=1) ?_ hg ?_ ?_)
  omega
  unfold zd0;exact uT
  first|decide|assumption)
 refine gz4 ?_;refine dq (zaq (h':= .agg [.int .i64 x.Num,.int .i64 x.Den]) (zaP zby rfl rfl (Ak rfl)) rfl) ?_;refine dq (uCl zte rfl (zhX (n:=x.Num) (d:=x.Den) (most:=10000) (hb x (Ac hx)).1 (hb x (Ac hx)).2 uO)) ?_;refine gz6 ?_;refine uCo (fun h13=> ?_) fun h14=> ?_
 refine gz5 ?_;refine uRp ?_
 (refine congrArg _ (zJ (e:=(zc5 x.Num x.Den 10000)) ?_ hg ?_ ?_)
  omega
  unfold zd0;exact uT
  first|decide|assumption)
 refine gz7 ?_;refine ⟨k+1,?_,?_,⟨rfl,trivial⟩,uK,Ab _⟩
 refine ⟨by omega,?_⟩
 rw [hg,za2 (by unfold zd0;(try clear hdx hg);(try simp only [Ae]);focus first|(simp_all;done)|((repeat' split)<;>focus first|rfl|(exfalso;omega)|(simp_all;done)|(exfalso;rcases ‹_\/_› with q|q<;>simp_all;done)|(exfalso;simp_all;omega)))]
 dsimp only;omega
 have hnk:l.length<=k:=by omega
 obtain rfl:k=l.length:=by omega
 rw [zP (Af _)] at hg;refine gz2 ?_;refine zG ?_;refine gz6 ?_;refine uRp ?_
 (refine congrArg _ (zcb ?_ hg)
  omega)
theorem zfm [Tracks] {l:List SlotS} {fid:FuncId} {caps:List HVal} {p:SlotS->Bool} (hca:Callable prog fid) (hp: ∀x,ConP prog fid ([zbo x]++caps) (.bool (p x))) (hl:l.length<=1000000):ConP prog 268 [.slice 2 (l.map zbo),.fn (.func fid) [] caps] (.int .i64 (zag p l 0)):=by
 refine uOb func268 ntmps268 ?_;refine zaD ?_;refine uT1 [4,2,8,11] (fun k=>[(8,.int .i64 k)]) (fun k=>[]) (fun k=>k<=l.length/\(zag p l 0=zag p (l.drop k) k)) (fun k=>l.length-k) (0) ?_ ?_;exact ⟨Ad _,rfl⟩;rintro k ⟨hk,hg⟩;refine gz4 ?_;refine uCo (fun h1=> ?_) fun h2=> ?_
 obtain ⟨x,hx⟩: ∃x,l[k]? =some x:=⟨_,Aa h1⟩
 have hdx:=zt hx;rw [hdx] at hg;refine zeu ?_;refine dq (zaB hca rfl rfl (WeakL.refl _) (hp _)) ?_;refine gz1 ?_;refine uCo (fun h3=> ?_) fun h4=> ?_
 refine gz5 ?_;refine uRp ?_
 (rw [hg];simp_all [zag])
 refine gz7 ?_;refine ⟨k+1,?_,?_,⟨rfl,trivial⟩,uK,Ab _⟩
 refine ⟨by omega,?_⟩
 rw [hg,zag,if_neg uSa];rfl
 dsimp only;omega
 have hnk:l.length<=k:=by omega
 obtain rfl:k=l.length:=by omega
 rw [zP (Af _)] at hg;refine gz2 ?_;refine zG ?_;refine gz6 ?_;refine uRp ?_
 (rw [hg];rfl)
theorem zcy [Tracks] {l:List SlotS} {fid:FuncId} {caps:List HVal} {p:SlotS->Bool} (hca:Callable prog fid) (hp: ∀x,ConP prog fid ([zbo x]++caps) (.bool (p x))) (hl:l.length<=1000000):ConP prog 208 [.slice 2 (l.map zbo),.fn (.func fid) [] caps] (.bool (l.any p)):=by
 refine uOb func208 ntmps208 ?_;refine gz6 ?_;refine dq (uCl zzQ rfl (zfm hca hp hl)) ?_;refine gz4 ?_;refine zC rfl ?_
 congr 1;exact zed p l 0 uO
theorem zkH [Tracks] {y x:SlotS}:ConP prog 240 [zbo y,.vptr (zd (zbo x)) 0] (.bool (y.Key==x.Key)):=by
 refine uOb func240 ntmps240 ?_;refine zfW ?_;refine zC rfl ?_
 rfl
theorem zlQ [Tracks] {l:List SlotS} (hl:l.length<=1000000) (hp: ∀x∈l,x.Positions.length<=1000000):ConP prog 180 [zf7 l] (.int .i64 (zeg l)):=by
 refine uOb func180 ntmps180 ?_;refine zc8 ?_;refine uCo (fun h1=> ?_) fun h2=> ?_
 ·refine gz4 ?_;refine uRp ?_
  (unfold zeg;simp_all;done)
 ·refine gz6 ?_;refine uCo (fun h3=> ?_) fun h4=> ?_
  ·refine gz4 ?_;refine uRp ?_
   (rw [zeg,if_neg (by first|omega|simp_all),if_pos uO];done)
  ·refine zaD ?_;refine uT1 [2,4,16,23] (fun k=>[(16,.int .i64 k)]) (fun k=>[]) (fun k=>k<=l.length/\(zcv l 0 l=zcv l k (l.drop k))) (fun k=>l.length-k) (0) ?_ ?_
   ·exact ⟨Ad _,rfl⟩
   ·rintro k ⟨hk,hg⟩;refine gz4 ?_;refine uCo (fun h5=> ?_) fun h6=> ?_
    ·obtain ⟨x,hx⟩: ∃x,l[k]? =some x:=⟨_,Aa h5⟩
     have hdx:=zt hx;rw [hdx] at hg;refine gz8 ?_;refine de rfl (zq zbb rfl fun b4=> ?_)
     refine gz1 ?_;refine de0 (zz zbb rfl rfl rfl rfl rfl ?_)
     refine gz1 ?_;refine zl (zD 4 rfl) ?_;refine gz5 ?_;refine dq (uCl zdL rfl zaH) ?_;refine gz3 ?_;refine uCo (fun h7=> ?_) fun h8=> ?_
     ·refine gz4 ?_;refine uRp ?_
      (refine congrArg _ (zht (e:=5) ?_ ?_ hg ?_)
       ·first|omega|simp_all
       ·omega
       ·rw [zcv]
        simp_all
        done)
     ·refine gz3 ?_;refine dq (za9 zdi zbb rfl rfl ⟨_,_,rfl,rfl⟩ uO uO) ?_;refine gz1 ?_;refine dq (uCl zws rfl (zcy (l:=l.take k) (p:=fun y=>y.Key==x.Key) zzE (fun _=>zkH) (by rw [AC];omega))) ?_;refine gz2 ?_;refine uCo (fun h9=> ?_) fun h10=> ?_
      ·refine gz4 ?_;refine uRp ?_
       (refine congrArg _ (zht (e:=6) ?_ ?_ hg ?_)
        ·first|omega|simp_all
        ·omega
        ·rw [zcv]
         simp_all
         done)
      ·refine gz6 ?_;refine dq (uCl zwA rfl (ziy (hp x (Ac hx)))) ?_;refine gz6 ?_;refine uCo (fun h11=> ?_) fun h12=> ?_
       ·refine gz5 ?_;refine uRp ?_
        (refine congrArg _ (zht (e:=(zhp x.Positions)) ?_ ?_ hg ?_)
         ·first|omega|simp_all
         ·omega
         ·rw [zcv]
          simp_all
          done)
       ·refine gz7 ?_;refine ⟨k+1,?_,?_,⟨rfl,trivial⟩,uK,Ab _⟩
        ·refine ⟨by omega,?_⟩
         rw [hg,zcv,if_neg uSa,if_neg uSa,if_neg uSa]
        ·dsimp only;omega
    ·have hnk:l.length<=k:=by omega
     obtain rfl:k=l.length:=by omega
     rw [zP (Af _)] at hg;refine gz2 ?_;refine zG ?_;refine gz6 ?_;refine uRp ?_
     (refine congrArg _ (zrL ?_ ?_ hg)<;>first|omega|simp_all)
theorem zgL [Tracks] {b:BoundS}:ConP prog 147 [zcn b] (.int .i64 (zcl b)):=by
 refine uOb func147 ntmps147 ?_;refine gz8 ?_;refine dq (uCl zc3 rfl zaM) ?_;refine gz3 ?_;refine uGr rfl (fun hc=>uCl zc3 rfl zaM) ?_;refine gz4 ?_;refine uGr rfl (fun hc=>uCl zc3 rfl zaM) ?_;refine gz4 ?_;refine uGr rfl (fun hc=>uCl zc3 rfl zaM) ?_;refine gz2 ?_;refine uCo (fun h1=> ?_) fun h2=> ?_
 refine gz4 ?_;refine uRp ?_;unfold zcl
 (rw [if_pos uSa])
 refine gz6 ?_;refine uRp ?_;unfold zcl
 (rw [if_neg uSa])
theorem zmU [Tracks] {a b:MoveS}:ConP prog 218 [zcK a,zcK b] (.int .i64 (zga a b)):=by
 refine uOb func218 ntmps218 ?_;refine gz5 ?_;refine uDr mixed ?_;refine gz4 ?_;refine uB 4 rfl (uCl zdF rfl zae) ?_;refine gz4 ?_;refine uB 9 rfl (uCl zcJ rfl zZ) ?_;refine gz4 ?_;refine uB 14 rfl (uCl zcJ rfl zZ) ?_;refine gz4 ?_;refine uB 19 rfl (uCl zdF rfl zae) ?_;refine uB 20 rfl (za (hs:=[_,_,_,_]) zad ty3 rfl rfl (by decide) (by decide) rfl) ?_;refine uB 21 rfl (uCl zgP rfl (zbO (l:=[_,_,_,_]) (by simp))) ?_;refine gz3 ?_;refine zC rfl ?_
 rfl
theorem zhb [Tracks] {l:List MoveS} (hl:l.length<=1000000):ConP prog 142 [zbs l] (.int .i64 (zcj l)):=by
 refine uOb func142 ntmps142 ?_;refine gz9 ?_;refine uCo (fun h1=> ?_) fun h2=> ?_
 refine gz4 ?_;refine uRp ?_
 (refine congrArg _ (zcw ?_)
  omega)
 refine gz9 ?_;refine uT1 [2,3,10,39] (fun k=>[(10,.int .i64 k)]) (fun k=>[]) (fun k=>k<=l.length/\(za4 zen zie l 0 l=za4 zen zie l k (l.drop k))) (fun k=>l.length-k) (0) ?_ ?_;exact ⟨Ad _,rfl⟩;rintro k ⟨hk,hg⟩;refine gz4 ?_;refine uCo (fun h3=> ?_) fun h4=> ?_
 obtain ⟨x,hx⟩: ∃x,l[k]? =some x:=⟨_,Aa h3⟩
 have hdx:=zt hx;rw [hdx] at hg;refine gz8 ?_;refine de rfl (zq zv rfl fun b4=> ?_)
 refine gz1 ?_;refine de0 (zz zv rfl rfl rfl rfl rfl ?_)
 refine gz1 ?_;refine zl (zD 4 rfl) ?_;refine gz4 ?_;refine dq (uCl ziL rfl zbA) ?_;refine gz3 ?_;refine uCo (fun h5=> ?_) fun h6=> ?_
 refine gz4 ?_;refine uRp ?_
 (refine congrArg _ (zJ (e:=1) ?_ hg ?_ ?_)
  omega
  unfold zen;exact uT
  first|decide|assumption)
 refine gz3 ?_;refine dq (uCl zc3 rfl zaM) ?_;refine gz2 ?_;refine uCo (fun h7=> ?_) fun h8=> ?_
 refine gz4 ?_;refine uRp ?_
 (refine congrArg _ (zJ (e:=4) ?_ hg ?_ ?_)
  omega
  unfold zen;exact uT
  first|decide|assumption)
 refine gz3 ?_;refine dq (uCl zdL rfl zaH) ?_;refine gz4 ?_;refine uGr rfl (fun hc=>uCl zdL rfl zaH) ?_;refine gz4 ?_;refine uCo (fun h9=> ?_) fun h10=> ?_
 refine gz4 ?_;refine uRp ?_
 (refine congrArg _ (zJ (e:=5) ?_ hg ?_ ?_)
  omega
  unfold zen;exact uT
  first|decide|assumption)
 refine uDr mixed ?_;refine gz7 ?_;refine uGy 7 rfl rfl (fun hc=>by have hq:=hc;(try simp at hq);exact zK (j:=k-1) (a:=l.getD (k-1) zie) zbr zv rfl rfl uO (getD_some uO)) ?_;refine gz1 ?_;refine uGy 9 rfl rfl (fun hc=>uCl zzv rfl zmU) ?_;refine gz4 ?_;refine uCo (fun h11=> ?_) fun h12=> ?_
 refine gz4 ?_;refine uRp ?_
 (refine congrArg _ (zJ (e:=7) ?_ hg ?_ ?_)
  omega
  unfold zen;exact uT
  first|decide|assumption)
 refine gz8 ?_;refine ⟨k+1,?_,?_,⟨rfl,trivial⟩,uK,Ab _⟩
 refine ⟨by omega,?_⟩
 rw [hg,za2 (by unfold zen;(try clear hdx hg);(try simp only [Ae]);focus first|(simp_all;done)|((repeat' split)<;>focus first|rfl|(exfalso;omega)|(simp_all;done)|(exfalso;rcases ‹_\/_› with q|q<;>simp_all;done)|(exfalso;simp_all;omega)))]
 dsimp only;omega
 have hnk:l.length<=k:=by omega
 obtain rfl:k=l.length:=by omega
 rw [zP (Af _)] at hg;refine gz2 ?_;refine zG ?_;refine gz6 ?_;refine uRp ?_
 (refine congrArg _ (zcb ?_ hg)
  omega)
theorem zlN [Tracks] {l:List Str} (hl:l.length<=1000000):ConP prog 242 [eSs l] (.int .i64 (zcX l)):=by
 refine uOb func242 ntmps242 ?_;refine zc8 ?_;refine uCo (fun h1=> ?_) fun h2=> ?_
 refine gz4 ?_;refine uRp ?_
 (rw [zcX,if_pos uO])
 refine gz6 ?_;refine uCo (fun h3=> ?_) fun h4=> ?_
 refine gz4 ?_;refine uRp ?_
 (rw [zcX,if_neg uO,if_pos uO])
 refine gz5 ?_;refine dq (uCl zwE rfl (zle (by assumption))) ?_;refine gz3 ?_;refine uRp ?_
 (rw [zcX,if_neg uO,if_neg uO])
theorem zoT [Tracks] {a b:GameS}:ConP prog 244 [zaS a,zaS b] (.int .i64 (zfB a b)):=by
 refine uOb func244 ntmps244 ?_;refine gz5 ?_;refine uDr mixed ?_;refine gz4 ?_;refine uB 4 rfl (uCl zdF rfl zae) ?_;refine gz4 ?_;refine uB 9 rfl (uCl zcJ rfl zZ) ?_;refine gz4 ?_;refine uB 14 rfl (uCl zcJ rfl zZ) ?_;refine uB 15 rfl (za (hs:=[_,_,_]) zad ty3 rfl rfl (by decide) (by decide) rfl) ?_;refine uB 16 rfl (uCl zgP rfl (zbO (l:=[_,_,_]) (by simp))) ?_;refine gz3 ?_;refine zC rfl ?_
 rfl
theorem zlo [Tracks] {x:GameS} (hb:((-1000000000<=x.FNum/\x.FNum<=1000000000)/\ -1000000000<=x.FDen/\x.FDen<=1000000000)/\((-1000000000<=x.ONum/\x.ONum<=1000000000)/\ -1000000000<=x.ODen/\x.ODen<=1000000000)):ConP prog 243 [zaS x] (.int .i64 (zgV x)):=by
 refine uOb func243 ntmps243 ?_;refine zaD ?_;refine uCo (fun h1=> ?_) fun h2=> ?_
 refine gz3 ?_;refine dq (zaq (h':= .agg [.int .i64 x.FNum,.int .i64 x.FDen]) (zaP zby rfl rfl (Ak rfl)) rfl) ?_;refine dq (zO (cs:=[_,_]) zby zkY rfl) ?_;refine dq (zgB zby zqz rfl rfl ⟨rfl,⟨_,_,_,_,ty3,rfl⟩,⟨rfl,⟨_,_,_,_,ty3,rfl⟩,trivial⟩⟩) ?_;refine gz2 ?_;refine uGr rfl (fun hc=>zaq (h':= .agg [.int .i64 x.ONum,.int .i64 x.ODen]) (zaP zby rfl rfl (Ak rfl)) rfl) ?_;refine uGr rfl (fun hc=>zO (cs:=[_,_]) zby zkY rfl) ?_;refine uGr rfl (fun hc=>zgB zby zqz rfl rfl ⟨rfl,⟨_,_,_,_,ty3,rfl⟩,⟨rfl,⟨_,_,_,_,ty3,rfl⟩,trivial⟩⟩) ?_;refine gz2 ?_;refine uCo (fun h3=> ?_) fun h4=> ?_
 simp [za8,zfo,eqH] at h3
 refine gz4 ?_;refine uRp ?_;unfold zgV
 (try clear hdx hg);(try simp only [Ae]);focus first|rfl|(simp_all;done)|((repeat' split)<;>focus first|rfl|(exfalso;omega)|(simp_all;done)|(exfalso;rcases ‹_\/_› with q|q<;>simp_all;done)|(exfalso;simp_all;omega))
 refine gz2 ?_
 simp [za8,zfo,eqH] at h4
 refine gz4 ?_;refine uRp ?_;unfold zgV
 (try clear hdx hg);(try simp only [Ae]);focus first|rfl|(simp_all;done)|((repeat' split)<;>focus first|rfl|(exfalso;omega)|(simp_all;done)|(exfalso;rcases ‹_\/_› with q|q<;>simp_all;done)|(exfalso;simp_all;omega))
 refine gz2 ?_;refine uDr mixed ?_;refine gz1 ?_;refine uB 1 rfl (zaq (h':= .agg [.int .i64 x.FNum,.int .i64 x.FDen]) (zaP zby rfl rfl (Ak rfl)) rfl) ?_;refine uB 2 rfl (uCl zte rfl (zhX (n:=x.FNum) (d:=x.FDen) (most:=1000000) hb.1.1 hb.1.2 uO)) ?_;refine gz1 ?_;refine uB 4 rfl (zaq (h':= .agg [.int .i64 x.ONum,.int .i64 x.ODen]) (zaP zby rfl rfl (Ak rfl)) rfl) ?_;refine uB 5 rfl (uCl zte rfl (zhX (n:=x.ONum) (d:=x.ODen) (most:=1000000) hb.2.1 hb.2.2 uO)) ?_;refine zfq ?_;refine uCo (fun h5=> ?_) fun h6=> ?_
 refine gz4 ?_;refine uRp ?_;unfold zgV
 (try clear hdx hg);(try simp only [Ae]);focus first|rfl|(simp_all;done)|((repeat' split)<;>focus first|rfl|(exfalso;omega)|(simp_all;done)|(exfalso;rcases ‹_\/_› with q|q<;>simp_all;done)|(exfalso;simp_all;omega))
 refine gz5 ?_;refine dq (za (hs:=[_,_]) zeq zgo rfl rfl (by decide) (by decide) rfl) ?_;refine dq (uCl znm rfl (zdr (l:=[_,_]) (by simp))) ?_;refine gz3 ?_;refine uRp ?_;unfold zgV
 (try clear hdx hg);(try simp only [Ae]);focus first|rfl|(simp_all;done)|((repeat' split)<;>focus first|rfl|(exfalso;omega)|(simp_all;done)|(exfalso;rcases ‹_\/_› with q|q<;>simp_all;done)|(exfalso;simp_all;omega))
end
end Go.Proofs.YtahegdhbakjdoaaGreatDoor
