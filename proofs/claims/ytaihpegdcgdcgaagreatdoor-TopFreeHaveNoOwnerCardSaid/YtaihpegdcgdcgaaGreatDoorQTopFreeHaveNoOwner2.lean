/- Part 2 of the proof: a program logic, contracts of functions and plain facts; no conditions. -/
import Derived.Test.YtaihpegdcgdcgaaGreatDoorQTopFreeHaveNoOwner1
import Derived.Carry
import Derived.Ground.Names2Prog
import Derived.KernelRfl
import Derived.Laws.MakeOwn
import Derived.Lib.AppendStr
import Derived.Lib.Bytealg
import Derived.Lib.Join
import Derived.Lib.LaidTab
import Derived.Lib.SplitLaws
import Derived.Lib.UnsafeStr
import Derived.OpenShut
import Derived.Shelf.SlIter.Collect
import Derived.Shelf.SlIter.Keys
import Derived.Shelf.SlIter.Sorted
import Derived.Shelf.SlSortCmp.Insertion
import Derived.Shelf.Slices.CompactS
import Derived.Shelf.Slices.Delete
import Derived.Shelf.Small.Wraps
import Derived.Shelf.Sort.Plain
import Derived.Shelf.SortM.Plain
import Derived.Shelf.SortM.SortNone
import Derived.Shelf.Strconv.Atoi
import Derived.Shelf.Strconv.Itoa3
import Derived.Shelf.Strings.Builder1
import Derived.Shelf.Strings.Cut
import Derived.Shelf.Strings.FieldsFuncAny
import Derived.Shelf.Strings.OnBuilder
import Derived.Shelf.Strings.Prefix
import Derived.Shelf.Strings.Search3
import Derived.Shelf.Strings.Split
import Derived.Shelf.Unicode.ValidAny
import Derived.Test.YtaihpegdcgdcgaaGreatDoorProg
import Derived.WideKeyRuns
import GoSem.ClaimJoined
set_option linter.unusedVariables false
set_option linter.unusedSimpArgs false
set_option maxHeartbeats 16000000
namespace Go.HL
section
abbrev Str:=List UInt8
theorem zg {α:Type} {l:List α} {k:Nat} {x:α} (h:l[k]? =some x):l.drop k=x::l.drop (k+1):=by
 have hlt:=zl h;rw [Aa hlt] at h;rw [List.drop_eq_getElem_cons hlt]
 simp at h
 rw [h]
theorem zaj {α:Type} {l:List α} {k:Nat} {x:α} (h:l[k]? =some x):l.take (k+1)=l.take k++[x]:=by
 have hlt:=zl h;rw [Aa hlt] at h;rw [List.take_succ_eq_append_getElem hlt]
 simp at h
 rw [h]
theorem zD {α:Type} {l:List α} {k:Nat} (h:l.length<=k):l.drop k=[]:=Bj h
theorem hd0 {s:Str} (h:s≠[]):s[0]? =some (s.headD 0):=by
 cases s with
 |nil=>exact absurd rfl h
 |cons a r=>rfl
abbrev eSs (l:List Str):HVal:= .slice 1 (l.map .str)
abbrev eIs (l:List Int):HVal:= .slice 1 (l.map (.int .i64))
def out (n lo hi:Int):Bool:=decide (n<lo)||decide (hi<n)
theorem zeT {n lo hi:Int} (h:out n lo hi=false):lo<=n/\n<=hi:=by simp [out] at h;omega
theorem zqA {a b A B:Int} (h1:0<=a) (h2:a<=A) (h3:0<=b) (h4:b<=B):0<=a*b/\a*b<=A*B:=
 ⟨Int.mul_nonneg h1 h3,Int.mul_le_mul h2 h4 h3 (by omega)⟩
def zY (n:Int):Bool:= !(out n 0 345686399999)
def zff (c:UInt8):Bool:=(decide (97<=c.toNat)&&decide (c.toNat<=122))||(decide (48<=c.toNat)&&decide (c.toNat<=57))||c.toNat==45||c.toNat==95
def ziz (s:Str):Bool:=s !=[]&&decide (s.length<=40)&&decide (97<=(s.headD 0).toNat)&&decide ((s.headD 0).toNat<=122)
theorem zwa {s:Str} (h:((¬s=[]/\(s.length:Int)<=40)/\97<=(((List.head? s).getD 0).toNat:Int))/\(((List.head? s).getD 0).toNat:Int)<=122):ziz s=true:=by
 obtain ⟨⟨⟨h1,h2⟩,h3⟩,h4⟩:=h
 simp [ziz];exact ⟨⟨⟨h1,by omega⟩,by omega⟩,by omega⟩
theorem zv9 {s:Str} (h:((s=[]\/40<(s.length:Int))\/(((List.head? s).getD 0).toNat:Int)<97)\/122<(((List.head? s).getD 0).toNat:Int)):ziz s=false:=by
 rw [BZ];simp [ziz]
 intro h1 h2 h3
 rcases h with ((h|h)|h)|h
 ·exact absurd h h1
 all_goals omega
theorem zv8 {x:UInt8} (h:(x.toNat:Int)<97\/122<(x.toNat:Int)->(x.toNat:Int)<48\/57<(x.toNat:Int)->¬(x.toNat:Int)=45->(x.toNat:Int)=95):zff x=true:=by
 simp [zff];omega
theorem zv7 {x:UInt8} (h:((((x.toNat:Int)<97\/122<(x.toNat:Int))/\((x.toNat:Int)<48\/57<(x.toNat:Int)))/\¬(x.toNat:Int)=45)/\¬(x.toNat:Int)=95):zff x=false:=by
 rw [BZ];simp [zff];omega
def key (s:Str):Bool:=ziz s&&s.all zff
def zcu (s:Str):List Str->Int->Int
 |[],_=> -1
 |x::r,k=>if s=x then k else zcu s r (k+1)
theorem zlr (s:Str): ∀(l:List Str) (k:Int),0<=k->decide (0<=zcu s l k)=l.contains s
 |[],k,h=>by simp [zcu]
 |x::r,k,h=>by
   have ih:=zlr s r (k+1) (by omega)
   by_cases hx:s=x
   simp [zcu,hx,h]
   have e1:zcu s (x::r) k=zcu s r (k+1):=by simp [zcu,hx]
   rw [e1,ih];simp [hx]
end
end Go.HL
namespace Go.Proofs.YtaihpegdcgdcgaaGreatDoor
set_option maxRecDepth 100000
set_option linter.unusedVariables false
set_option linter.unusedSimpArgs false
section
open Go.Proofs.Tryz
open Go.HL
theorem z7 [Tracks] {n lo hi:Int}:ConP prog 110 [.int .i64 n,.int .i64 lo,.int .i64 hi] (.bool (out n lo hi)):=by
 refine uOb func110 ntmps110 ?_;refine zi6 ?_;refine zB rfl ?_
 simp [out]
theorem za5 [Tracks] {n:Int}:ConP prog 43 [.int .i64 n] (.bool (zY n)):=by
 refine uOb func43 ntmps43 ?_;refine gz5 ?_;refine dq (uCl zbm rfl z7) ?_;refine gz4 ?_;refine zB rfl ?_
 rfl
theorem zac [Tracks] {s:Str}:ConP prog 47 [.str s] (.bool (key s)):=by
 refine uOb func47 ntmps47 ?_;refine zdN ?_;refine uGr rfl (fun hc=>zaA (j:=0) (b:=s.headD 0) ty9 rfl rfl rfl (hd0 uSa)) ?_;refine gz4 ?_;refine uGr rfl (fun hc=>zaA (j:=0) (b:=s.headD 0) ty9 rfl rfl rfl (hd0 uSa)) ?_;refine gz3 ?_;refine uCo (fun h1=> ?_) fun h2=> ?_
 refine gz4 ?_;refine zB rfl ?_
 (rw [key,zv9 h1];rfl)
 refine gz9 ?_;refine uT1 [2,3,24,30] (fun k=>[(24,.int .i64 k)]) (fun k=>[]) (fun k=>k<=s.length/\key s=(s.drop k).all zff) (fun k=>s.length-k) (0) ?_ ?_;exact ⟨Ad _,by rw [key,zwa h2];rfl⟩;rintro k ⟨hk,hg⟩;refine gz4 ?_;refine uCo (fun h3=> ?_) fun h4=> ?_
 obtain ⟨x,hx⟩: ∃x,s[k]? =some x:=⟨_,Aa h3⟩
 have hd:=zg hx;rw [hd] at hg;refine zct ?_;refine dq (zaA ty9 rfl rfl rfl (by assumption)) ?_;refine gz27 ?_;refine uCo (fun h5=> ?_) fun h6=> ?_
 refine gz4 ?_;refine zB rfl ?_
 (rw [hg,BN,zv7 h5];rfl)
 refine gz7 ?_;refine ⟨k+1,?_,?_,⟨rfl,trivial⟩,uK,Ac _⟩
 refine ⟨by omega,?_⟩
 rw [hg,BN,zv8 h6];rfl
 dsimp only;omega
 rw [zD uO] at hg;refine gz2 ?_;refine zn ?_;refine gz6 ?_;refine zB rfl ?_
 (rw [hg];rfl)
theorem zdx [Tracks] {l:List Str} {s:Str} (hl:l.length<=1000000000):ConP prog 164 [eSs l,.str s] (.int .i64 (zcu s l 0)):=by
 refine uOb func164 ntmps164 ?_;refine zat ?_;refine uT1 [4,2,8,11] (fun k=>[(8,.int .i64 k)]) (fun k=>[]) (fun k=>k<=l.length/\zcu s l 0=zcu s (l.drop k) k) (fun k=>l.length-k) (0) ?_ ?_
 simp
 rintro k ⟨hk,hg⟩;refine gz4 ?_;refine uCo (fun h1=> ?_) fun h2=> ?_
 obtain ⟨x,hx⟩: ∃x,l[k]? =some x:=⟨_,Aa h1⟩
 have hd:=zg hx;rw [hd] at hg;refine zn9 ?_;refine uCo (fun h3=> ?_) fun h4=> ?_
 refine gz5 ?_;refine zB rfl ?_
 (congr 1;simp_all [zcu])
 refine gz7 ?_;refine ⟨k+1,?_,?_,⟨rfl,trivial⟩,uK,Ac _⟩
 refine ⟨by omega,?_⟩
 rw [hg,zcu,if_neg h4];rfl
 dsimp only;omega
 rw [zD uSa] at hg;refine gz2 ?_;refine zn ?_;refine gz6 ?_;refine zB rfl ?_
 (rw [hg];rfl)
theorem zF [Tracks] {l:List Str} {s:Str} (hl:l.length<=1000000000):ConP prog 103 [eSs l,.str s] (.bool (l.contains s)):=by
 refine uOb func103 ntmps103 ?_;refine gz6 ?_;refine dq (uCl zvq rfl (zdx (by assumption))) ?_;refine gz4 ?_;refine zB rfl ?_
 congr 1;exact zlr s l 0 uO
end
end Go.Proofs.YtaihpegdcgdcgaaGreatDoor
namespace Go.HL
section
theorem getD_some {α:Type} {l:List α} {k:Nat} {d:α} (h:k<l.length):l[k]? =some (l.getD k d):=by
 simp [Aa h,List.getD]
def leS (s p:Str):Bool:=Op.bytesLess s p||s==p
structure Room where
 Teams:List Str
 Rounds:Int
 Way:Int
 Players:List Str
 Clock:Int
 Start:Int
structure Keep where
 Team:Str
 Player:Str
 Round:Int
structure Swap where
 Round:Int
 Of:Str
 Team:Str
structure Pick where
 No:Int
 Team:Str
 Player:Str
 At:Int
 Auto:Bool
structure Turn where
 round:Int
 of:Str
 team:Str
abbrev zna (r:Room):HVal:= .agg [eSs r.Teams,.int .i64 r.Rounds,.int .i64 r.Way,eSs r.Players,.int .i64 r.Clock,.int .i64 r.Start]
abbrev zyN (x:Swap):HVal:= .agg [.int .i64 x.Round,.str x.Of,.str x.Team]
abbrev znb (x:Turn):HVal:= .agg [.int .i64 x.round,.str x.of,.str x.team]
abbrev zlg (l:List Swap):HVal:= .slice 3 (l.map zyN)
abbrev zwT (l:List Turn):HVal:= .slice 3 (l.map znb)
def zpP:Swap:=⟨0,[],[]⟩
def zbr (l:List Str):Nat->List Str->Int
 |_,[]=>0
 |k,s::r=>if !key s then 5 else if decide (0<k)&&leS s (l.getD (k-1) []) then 7 else zbr l (k+1) r
def zdA (l:List Str):Int:=zbr l 0 l
def zgs (l:List Str):Nat->List Str->Int
 |_,[]=>0
 |k,s::r=>if !key s then 5 else if (l.take k).contains s then 6 else zgs l (k+1) r
def teamsFault (l:List Str):Int:=if l.length=0 then 8 else if 20<l.length then 2 else zgs l 0 l
def playersFault (l:List Str):Int:=if 500<l.length then 2 else zdA l
def zbg (r:Room):Int:=
 if teamsFault r.Teams !=0 then teamsFault r.Teams
 else if out r.Rounds 1 30 then 1 else if out r.Way 1 3 then 4
 else if playersFault r.Players !=0 then playersFault r.Players
 else if out r.Clock 1000 86400000|| !(zY r.Start) then 1
 else if (r.Players.length:Int)<r.Teams.length*r.Rounds then 12 else 0
def backwards (way round:Int):Bool:=
 if way=2 then round.tmod 2==0 else if way=3 then round==2||(decide (2<round)&&round.tmod 2==1) else false
def owner (round:Int) (of:Str):List Swap->Str
 |[]=>of
 |s::r=>if s.Round=round/\s.Of=of then s.Team else owner round of r
end
end Go.HL
namespace Go.Proofs.YtaihpegdcgdcgaaGreatDoor
set_option maxRecDepth 100000
set_option linter.unusedVariables false
set_option linter.unusedSimpArgs false
section
open Go.Proofs.Tryz
open Go.HL
theorem zg2 [Tracks] {l:List Str} (hl:l.length<=1000000):ConP prog 239 [eSs l] (.int .i64 (zdA l)):=by
 refine uOb func239 ntmps239 ?_;refine zat ?_;refine uT1 [2,3,7,20] (fun k=>[(7,.int .i64 k)]) (fun k=>[]) (fun k=>k<=l.length/\(zdA l=zbr l k (l.drop k))) (fun k=>l.length-k) (0) ?_ ?_;exact ⟨Ad _,rfl⟩;rintro k ⟨hk,hg⟩;refine gz4 ?_;refine uCo (fun h1=> ?_) fun h2=> ?_
 obtain ⟨x,hx⟩: ∃x,l[k]? =some x:=⟨_,Aa h1⟩
 have hdx:=zg hx;rw [hdx] at hg;refine zdN ?_;refine dq (uCl zca rfl zac) ?_;refine gz2 ?_;refine uCo (fun h3=> ?_) fun h4=> ?_
 refine gz4 ?_;refine uRp ?_;rw [hg];simp_all [zbr,leS];refine zat ?_;refine uGr rfl (fun hc=>by have hq:=hc;(try simp at hq);exact zC (j:=k-1) (a:=l.getD (k-1) []) zj ty9 rfl rfl uO (getD_some uO)) ?_;refine gz4 ?_;refine uCo (fun h5=> ?_) fun h6=> ?_
 refine gz4 ?_;refine uRp ?_;rw [hg];simp_all [zbr,leS];refine gz7 ?_;refine ⟨k+1,?_,?_,⟨rfl,trivial⟩,uK,Ac _⟩
 refine ⟨by omega,?_⟩
 rw [hg];simp_all [zbr,leS]
 dsimp only;omega
 have hnk:l.length<=k:=by omega
 obtain rfl:k=l.length:=by omega
 rw [zD (Ae _)] at hg;refine gz2 ?_;refine zn ?_;refine gz6 ?_;refine uRp ?_;rw [hg];simp_all [zbr,leS]
theorem zk2 [Tracks] {l:List Str} (hl:l.length<=1000000):ConP prog 184 [eSs l] (.int .i64 (teamsFault l)):=by
 refine uOb func184 ntmps184 ?_;refine zct ?_;refine uCo (fun h1=> ?_) fun h2=> ?_
 refine gz4 ?_;refine uRp ?_
 (rw [teamsFault,if_pos uSa])
 refine gz6 ?_;refine uCo (fun h3=> ?_) fun h4=> ?_
 refine gz4 ?_;refine uRp ?_
 (rw [teamsFault,if_neg uSa,if_pos uO])
 refine zat ?_;refine uT1 [2,3,15,14] (fun k=>[(15,.int .i64 k)]) (fun k=>[]) (fun k=>k<=l.length/\(teamsFault l=zgs l k (l.drop k))) (fun k=>l.length-k) (0) ?_ ?_;refine ⟨Ad _,?_⟩
 rw [teamsFault,if_neg uSa,if_neg uO];rfl;rintro k ⟨hk,hg⟩;refine gz4 ?_;refine uCo (fun h5=> ?_) fun h6=> ?_
 obtain ⟨x,hx⟩: ∃x,l[k]? =some x:=⟨_,Aa h5⟩
 have hdx:=zg hx;rw [hdx] at hg;refine zdN ?_;refine dq (uCl zca rfl zac) ?_;refine gz2 ?_;refine uCo (fun h7=> ?_) fun h8=> ?_
 refine gz4 ?_;refine uRp ?_
 (rw [hg];simp_all [zgs])
 refine gz5 ?_;refine dq (zaI zj ty9 rfl rfl ⟨_,_,rfl,rfl⟩ uO uO) ?_;refine gz1 ?_;refine dq (uCl zeL rfl (zF uSo)) ?_;refine gz1 ?_;refine uCo (fun h9=> ?_) fun h10=> ?_
 refine gz4 ?_;refine uRp ?_
 (rw [hg];simp_all [zgs])
 refine gz7 ?_;refine ⟨k+1,?_,?_,⟨rfl,trivial⟩,uK,Ac _⟩
 refine ⟨by omega,?_⟩
 rw [hg];simp_all [zgs]
 dsimp only;omega
 have hnk:l.length<=k:=by omega
 obtain rfl:k=l.length:=by omega
 rw [zD (Ae _)] at hg;refine gz2 ?_;refine zn ?_;refine gz6 ?_;refine uRp ?_
 (rw [hg];simp_all [zgs])
theorem zjV [Tracks] {l:List Str} (hl:l.length<=1000000):ConP prog 185 [eSs l] (.int .i64 (playersFault l)):=by
 refine uOb func185 ntmps185 ?_;refine gz9 ?_;refine uCo (fun h1=> ?_) fun h2=> ?_
 refine gz4 ?_;refine uRp ?_;unfold playersFault
 split<;>first|rfl|(exfalso;omega)
 refine gz4 ?_;refine dq (uCl zsa rfl (zg2 (by assumption))) ?_;refine gz3 ?_;refine uRp ?_;unfold playersFault
 split<;>first|rfl|(exfalso;omega)
theorem zl4 [Tracks] {r:Room} (ht:r.Teams.length<=1000000) (hp:r.Players.length<=1000000):ConP prog 119 [zna r] (.int .i64 (zbg r)):=by
 refine uOb func119 ntmps119 ?_;refine gz8 ?_;refine dq (uCl zyd rfl (zk2 (by assumption))) ?_;refine gz6 ?_;refine uCo (fun h1=> ?_) fun h2=> ?_
 refine gz5 ?_;refine uRp ?_
 simp_all [zbg]
 refine gz7 ?_;refine dq (uCl zbm rfl z7) ?_;refine gz2 ?_;refine uCo (fun h3=> ?_) fun h4=> ?_
 refine gz4 ?_;refine uRp ?_
 simp_all [zbg]
 refine gz3 ?_;refine dq (uCl zbm rfl z7) ?_;refine gz2 ?_;refine uCo (fun h5=> ?_) fun h6=> ?_
 refine gz4 ?_;refine uRp ?_
 simp_all [zbg]
 refine gz7 ?_;refine dq (uCl zye rfl (zjV (by assumption))) ?_;refine gz6 ?_;refine uCo (fun h7=> ?_) fun h8=> ?_
 refine gz5 ?_;refine uRp ?_
 simp_all [zbg]
 refine gz7 ?_;refine dq (uCl zbm rfl z7) ?_;refine gz3 ?_;refine uGr rfl (fun hc=>uCl zhT rfl za5) ?_;refine gz4 ?_;refine uCo (fun h9=> ?_) fun h10=> ?_
 refine gz4 ?_;refine uRp ?_
 simp_all [zbg]
 refine gz9 ?_;have hR:=zeT (n:=r.Rounds) (lo:=1) (hi:=30) uSa;have hm:=zqA (a:=(r.Teams.length:Int)) (b:=r.Rounds) (A:=1000000) (B:=30) uO uO uO uO;refine dq (zfB rfl rfl uO uO) ?_;refine gz3 ?_;refine uCo (fun h11=> ?_) fun h12=> ?_
 refine gz4 ?_;refine uRp ?_
 simp_all [zbg]
 refine gz7 ?_;refine uRp ?_
 simp_all [zbg]
theorem zl5 [Tracks] {way round:Int}:ConP prog 122 [.int .i64 way,.int .i64 round] (.bool (backwards way round)):=by
 refine uOb func122 ntmps122 ?_;refine zdz ?_;refine uCo (fun h1=> ?_) fun h2=> ?_
 refine gz2 ?_;refine dq (zcL rfl rfl uO) ?_;refine gz4 ?_;refine zB rfl ?_
 show HVal.bool _=_
 simp_all [backwards]
 refine gz4 ?_;refine uCo (fun h3=> ?_) fun h4=> ?_
 refine gz8 ?_;refine uGr rfl (fun hc=>by have hq:=hc;(try simp at hq);exact zcL rfl rfl uO) ?_;refine gz6 ?_;refine zB rfl ?_
 show HVal.bool _=_
 simp_all [backwards]
 refine gz7 ?_;refine zB rfl ?_
 show HVal.bool _=_
 simp_all [backwards]
theorem zpj [Tracks] {l:List Swap} {round:Int} {of:Str} (hl:l.length<=1000000):ConP prog 124 [zlg l,.int .i64 round,.str of] (.str (owner round of l)):=by
 refine uOb func124 ntmps124 ?_;refine zat ?_;refine uT1 [6,1,8,1,11,17] (fun k=>[(11,.int .i64 k)]) (fun k=>[]) (fun k=>k<=l.length/\(owner round of l=owner round of (l.drop k))) (fun k=>l.length-k) (0) ?_ ?_;exact ⟨Ad _,by simp_all⟩;rintro k ⟨hk,hg⟩;refine gz4 ?_;refine uCo (fun h1=> ?_) fun h2=> ?_
 obtain ⟨x,hx⟩: ∃x,l[k]? =some x:=⟨_,Aa h1⟩
 have hdx:=zg hx;rw [hdx] at hg;refine gz7 ?_;refine de rfl (zi zks rfl fun b8=> ?_)
 refine de0 (zo zks rfl rfl rfl rfl rfl ?_)
 refine gz1 ?_;refine zf (zp 8 rfl) ?_;refine zdz ?_;refine uCo (fun h3=> ?_) fun h4=> ?_
 refine gz6 ?_;refine zB rfl ?_
 show HVal.str _=_
 rw [hg];simp_all [owner];refine gz7 ?_;refine ⟨k+1,?_,?_,⟨rfl,trivial⟩,uK,Ac _⟩
 refine ⟨by omega,?_⟩
 rw [hg];simp_all [owner]
 dsimp only;omega
 have hnk:l.length<=k:=by omega
 obtain rfl:k=l.length:=by omega
 rw [zD (Ae _)] at hg;refine gz2 ?_;refine zn ?_;refine gz7 ?_;refine zB rfl ?_
 show HVal.str _=_
 rw [hg];simp_all [owner]
end
end Go.Proofs.YtaihpegdcgdcgaaGreatDoor
namespace Go.HL
section
open Op (bytesLess)
def zX (a b:Int):Int:=if a<b then-1 else if b<a then 1 else 0
def orI:List Int->Int
 |[]=>0
 |x::r=>if x≠0 then x else orI r
abbrev zS (a b:Str):Int:=Lib.compareBytes a b
theorem zaB: ∀a:Str,bytesLess a a=false
 |[]=>rfl
 |x::r=>by simp [bytesLess,zaB r]
theorem zdg: ∀{a b c:Str},bytesLess a b=true->bytesLess b c=true->bytesLess a c=true
 |_,[],_,h,_=>by simp [bytesLess] at h
 |_,_::_,[],_,h=>by simp [bytesLess] at h
 |[],_::_,_::_,_,_=>by simp [bytesLess]
 |x::a,y::b,z::c,h1,h2=>by
   simp only [bytesLess,BD,decide_eq_true_eq,BJ,beq_iff_eq] at h1 h2⊢
   rcases h1 with h1|⟨rfl,h1⟩
   rcases h2 with h2|⟨rfl,h2⟩
   exact .inl (UInt8.lt_trans h1 h2);exact .inl h1
   rcases h2 with h2|⟨rfl,h2⟩
   exact .inl h2;exact .inr ⟨rfl,zdg h1 h2⟩
theorem zb7: ∀a b:Str,bytesLess a b=true\/a=b\/bytesLess b a=true
 |[],[]=> .inr (.inl rfl)
 |[],_::_=> .inl (by simp [bytesLess])
 |_::_,[]=> .inr (.inr (by simp [bytesLess]))
 |x::a,y::b=>by
   rcases UInt8.lt_or_lt_of_ne' x y with h|h|h
   exact .inl (by simp [bytesLess,h]);subst h
   rcases zb7 a b with h|h|h
   exact .inl (by simp [bytesLess,h]);exact .inr (.inl (by rw [h]));exact .inr (.inr (by simp [bytesLess,h]));exact .inr (.inr (by simp [bytesLess,h]))
where
 UInt8.lt_or_lt_of_ne' (x y:UInt8):x<y\/x=y\/y<x:=by
  rcases BH x.toNat y.toNat with h|h|h
  exact .inl (UInt8.lt_iff_toNat_lt.2 h);exact .inr (.inl (UInt8.toNat_inj.1 h));exact .inr (.inr (UInt8.lt_iff_toNat_lt.2 h))
theorem zbR {a b:Str} (h:bytesLess a b=true):bytesLess b a=false:=by
 cases h2:bytesLess b a with
 |false=>rfl
 |true=>have:=zdg h h2;rw [zaB] at this;cases this
theorem zwd {a b:Str}:leS a b= !(bytesLess b a):=by
 unfold leS
 rcases zb7 a b with h|h|h
 simp [h,zbR h]
 subst h;simp [zaB];have hne:a≠b:=fun e=>by subst e;rw [zaB] at h;cases h
 simp [h,zbR h,hne]
theorem zfA: ∀a b:Str,zS a b=if bytesLess a b then-1 else if a=b then 0 else 1
 |[],[]=>rfl
 |[],_::_=>rfl
 |_::_,[]=>rfl
 |x::a,y::b=>by
   have ih:=zfA a b;simp only [zS,Lib.compareBytes] at ih⊢
   by_cases h1:x<y
   simp [bytesLess,h1]
   by_cases h2:y<x
   have hne: ¬x=y:=fun e=>by subst e;exact absurd h2 h1
   simp [bytesLess,h1,h2,hne]
   have he:x=y:=by
    rcases BH x.toNat y.toNat with h|h|h
    exact absurd (UInt8.lt_iff_toNat_lt.2 h) h1;exact UInt8.toNat_inj.1 h;exact absurd (UInt8.lt_iff_toNat_lt.2 h) h2
   subst he
   simp [bytesLess,h1,ih]
theorem zty {i j:Nat} (h:i+j<=2000000):HVal.int .i64 (IntKind.wrap .i64 ((IntKind.wrap .u64 ((i:Int)+(j:Int))).fdiv (2^min (Int.toNat 1) (IntKind.bits .u64))))= .int .i64 (((i+j)/2:Nat):Int):=by
 have h1:IntKind.wrap .u64 ((i:Int)+(j:Int))=((i+j:Nat):Int):=by simp [IntKind.wrap,IntKind.bits,IntKind.signed];omega
 have h2:min (Int.toNat 1) (IntKind.bits .u64)=1:=by decide
 rw [h1,h2];have h3:(((i+j:Nat):Int).fdiv (2^1))=(((i+j)/2:Nat):Int):=by
  rw [Int.fdiv_eq_ediv_of_nonneg _ (by decide)];rfl
 rw [h3,zjJ (by omega) (by omega)]
def SortedS (l:List Str):Prop:=List.Pairwise (fun a b=>bytesLess a b=true) l
theorem SortedS.get {l:List Str} (h:SortedS l) {i j:Nat} {a b:Str} (hij:i<j) (ha:l[i]? =some a) (hb:l[j]? =some b):bytesLess a b=true:=by
 have h1:=zl ha;have h2:=zl hb;have:=List.pairwise_iff_getElem.1 h i j h1 h2 hij;rw [Aa h1] at ha;rw [Aa h2] at hb
 simp at ha hb
 rw [<-ha,<-hb];exact this
theorem zu7 {l:List Str} (hs:SortedS l) {s x:Str} {m:Nat} (hx:l[m]? =some x) (h:Op.bytesLess x s=true): ∀(k:Nat) (y:Str),k<m+1->l[k]? =some y->Op.bytesLess y s=true:=fun k y hk hy=>by
 by_cases e:k=m
 subst e;rw [hx] at hy;cases hy;exact h;exact zdg (hs.get (by omega:k<m) hy hx) h
theorem zrX {l:List Str} (hs:SortedS l) {s x:Str} {m:Nat} (hx:l[m]? =some x) (h:Op.bytesLess x s=false): ∀(k:Nat) (y:Str),m<=k->l[k]? =some y->Op.bytesLess y s=false:=fun k y hk hy=>by
 by_cases e:k=m
 subst e;rw [hx] at hy;cases hy;exact h
 cases hq:Op.bytesLess y s with
 |false=>rfl
 |true=>have:=zdg (hs.get (by omega:m<k) hx hy) hq;rw [h] at this;cases this
theorem zt2 {l:List Str} {s:Str} {i:Nat} (b:Bool):(bif decide ((i:Int)<(l.length:Int)) then bif l.getD i []==s then true else bif false then b else false else false)=(l[i]? ==some s):=by
 by_cases h:i<l.length
 have h':(i:Int)<(l.length:Int):=by omega
 simp only [h',decide_true,cond_true,cond_false,getD_some (d:=[]) h]
 cases hb:l.getD i []==s with
 |true=>simp at hb;simp [hb]
 |false=>simp at hb;simp [hb]
 have h': ¬(i:Int)<(l.length:Int):=by omega
 simp [h',Ax (by omega:l.length<=i)]
def ze0 (l:List Str) (s:Str):Nat:=l.countP fun x=>bytesLess x s
theorem zoj {l:List Str} {s:Str} {i:Nat} (hi:i<=l.length) (h1: ∀(k:Nat) (x:Str),k<i->l[k]? =some x->bytesLess x s=true) (h2: ∀(k:Nat) (x:Str),i<=k->l[k]? =some x->bytesLess x s=false):
 ze0 l s=i:=by
 unfold ze0;have e:l=l.take i++l.drop i:=(Bd i l).symm;rw [e,List.countP_append];have a1:(l.take i).countP (fun x=>bytesLess x s)=(l.take i).length:=by
  rw [List.countP_eq_length]
  intro x hx
  obtain ⟨k,hk,rfl⟩:=Bh hx;simp only [AD] at hk;refine h1 k _ (by omega) ?_;rw [List.getElem_take];exact Aa (by omega)
 have a2:(l.drop i).countP (fun x=>bytesLess x s)=0:=by
  rw [List.countP_eq_zero]
  intro x hx
  obtain ⟨k,hk,rfl⟩:=Bh hx
  simp at hk
  have:=h2 (i+k) (l[i+k]) (by omega) (Aa (by omega));rw [List.getElem_drop]
  simp [this]
 rw [a1,a2]
 simp;omega
theorem zqo {l:List Str} {s:Str} (hs:SortedS l) {i:Nat} (hi:i<=l.length) (h1: ∀(k:Nat) (x:Str),k<i->l[k]? =some x->bytesLess x s=true) (h2: ∀(k:Nat) (x:Str),i<=k->l[k]? =some x->bytesLess x s=false):
 (l[i]? ==some s)=l.contains s:=by
 rw [AK]
 simp
 constructor
 intro h;exact Ab h
 intro h
 obtain ⟨k,hk,rfl⟩:=Bh h;have hk':=Aa hk
 rcases BH k i with h3|h3|h3
 have:=h1 k _ h3 hk';rw [zaB] at this;cases this;subst h3;exact hk';have hii:i<l.length:=by omega
 have hlt:=hs.get h3 (Aa hii) hk';have:=h2 i _ (Ae _) (Aa hii);rw [hlt] at this;cases this
def zaf {α:Type} (p:α->Bool):List α->Int->Int
 |[],_=> -1
 |x::r,k=>if p x then k else zaf p r (k+1)
theorem zcH {α:Type} (p:α->Bool): ∀(l:List α) (k:Int),0<=k->decide (0<=zaf p l k)=l.any p
 |[],k,h=>by simp [zaf]
 |x::r,k,h=>by
   have ih:=zcH p r (k+1) (by omega)
   by_cases hx:p x=true
   simp [zaf,hx,h]
   have e1:zaf p (x::r) k=zaf p r (k+1):=by simp [zaf,hx]
   rw [e1,ih];simp [hx]
end
end Go.HL
namespace Go.Proofs.YtaihpegdcgdcgaaGreatDoor
set_option maxRecDepth 100000
set_option linter.unusedVariables false
set_option linter.unusedSimpArgs false
section
open Go.Proofs.Tryz
open Go.HL
theorem zir [Tracks] {n:Int}:ConP prog 186 [.int .i64 n] (.bool false):=by
 refine uOb func186 ntmps186 ?_;refine zat ?_;refine zB rfl ?_
 simp
theorem zda [Tracks] {s:Str}:ConP prog 252 [.str s] (.bool false):=by
 refine uOb func252 ntmps252 ?_;refine zat ?_;refine zB rfl ?_
 simp
theorem zfy [Tracks] {s:Str}:ConP prog 271 [.str s] (.bool false):=by
 refine uOb func271 ntmps271 ?_;refine zat ?_;refine zB rfl ?_
 simp
theorem zN [Tracks] {a b:Int}:ConP prog 121 [.int .i64 a,.int .i64 b] (.int .i64 (zX a b)):=by
 refine uOb func121 ntmps121 ?_;refine gz5 ?_;refine dq (uCl zvt rfl zir) ?_;refine gz4 ?_;refine dq (uCl zvt rfl zir) ?_;refine gz6 ?_;refine zcG rfl ?_;refine gz6 ?_;refine zcG rfl ?_;refine gz8 ?_;refine uCo (fun h1=> ?_) fun h2=> ?_
 refine gz4 ?_;refine uRp ?_;unfold zX;(repeat' split)<;>first|rfl|omega
 refine gz8 ?_;refine uCo (fun h3=> ?_) fun h4=> ?_
 refine gz4 ?_;refine uRp ?_;unfold zX;(repeat' split)<;>first|rfl|omega
 refine gz6 ?_;refine uRp ?_;unfold zX;(repeat' split)<;>first|rfl|omega
theorem zaW [Tracks] {l:List Int} (hl:l.length<=1000000):ConP prog 120 [eIs l] (.int .i64 (orI l)):=by
 refine uOb func120 ntmps120 ?_;refine zeZ ?_;refine uT1 [2,1,5,1,8,9] (fun k=>[(8,.int .i64 k)]) (fun k=>[]) (fun k=>k<=l.length/\(orI l=orI (l.drop k))) (fun k=>l.length-k) (0) ?_ ?_;exact ⟨Ad _,by simp_all⟩;rintro k ⟨hk,hg⟩;refine gz4 ?_;refine uCo (fun h1=> ?_) fun h2=> ?_
 obtain ⟨x,hx⟩: ∃x,l[k]? =some x:=⟨_,Aa h1⟩
 have hdx:=zg hx;rw [hdx] at hg;refine zdN ?_;refine uCo (fun h3=> ?_) fun h4=> ?_
 refine gz5 ?_;refine uRp ?_;rw [hg];simp_all [orI];refine gz7 ?_;refine ⟨k+1,?_,?_,⟨rfl,trivial⟩,uK,Ac _⟩
 refine ⟨by omega,?_⟩
 rw [hg];simp_all [orI]
 dsimp only;omega
 have hnk:l.length<=k:=by omega
 obtain rfl:k=l.length:=by omega
 rw [zD (Ae _)] at hg;refine gz2 ?_;refine zn ?_;refine gz7 ?_;refine uRp ?_;rw [hg];simp_all [orI]
theorem zel [Tracks] {l:List Int} (hl:l.length<=1000000):ConP prog 35 [eIs l] (.int .i64 (orI l)):=by
 refine uOb func35 ntmps35 ?_;refine zeZ ?_;refine uT1 [2,1,5,1,8,9] (fun k=>[(8,.int .i64 k)]) (fun k=>[]) (fun k=>k<=l.length/\(orI l=orI (l.drop k))) (fun k=>l.length-k) (0) ?_ ?_;exact ⟨Ad _,by simp_all⟩;rintro k ⟨hk,hg⟩;refine gz4 ?_;refine uCo (fun h1=> ?_) fun h2=> ?_
 obtain ⟨x,hx⟩: ∃x,l[k]? =some x:=⟨_,Aa h1⟩
 have hdx:=zg hx;rw [hdx] at hg;refine zdN ?_;refine uCo (fun h3=> ?_) fun h4=> ?_
 refine gz5 ?_;refine uRp ?_;rw [hg];simp_all [orI];refine gz7 ?_;refine ⟨k+1,?_,?_,⟨rfl,trivial⟩,uK,Ac _⟩
 refine ⟨by omega,?_⟩
 rw [hg];simp_all [orI]
 dsimp only;omega
 have hnk:l.length<=k:=by omega
 obtain rfl:k=l.length:=by omega
 rw [zD (Ae _)] at hg;refine gz2 ?_;refine zn ?_;refine gz7 ?_;refine uRp ?_;rw [hg];simp_all [orI]
theorem zcQ [Tracks] {l:List Int} (hl:l.length<=1000000):ConP prog 51 [eIs l] (.int .i64 (orI l)):=by
 refine uOb func51 ntmps51 ?_;refine zat ?_;refine uT1 [2,1,4,1,7,8] (fun k=>[(7,.int .i64 k)]) (fun k=>[]) (fun k=>k<=l.length/\(orI l=orI (l.drop k))) (fun k=>l.length-k) (0) ?_ ?_;exact ⟨Ad _,by simp_all⟩;rintro k ⟨hk,hg⟩;refine gz4 ?_;refine uCo (fun h1=> ?_) fun h2=> ?_
 obtain ⟨x,hx⟩: ∃x,l[k]? =some x:=⟨_,Aa h1⟩
 have hdx:=zg hx;rw [hdx] at hg;refine zeZ ?_;refine uCo (fun h3=> ?_) fun h4=> ?_
 refine gz5 ?_;refine uRp ?_;rw [hg];simp_all [orI];refine gz7 ?_;refine ⟨k+1,?_,?_,⟨rfl,trivial⟩,uK,Ac _⟩
 refine ⟨by omega,?_⟩
 rw [hg];simp_all [orI]
 dsimp only;omega
 have hnk:l.length<=k:=by omega
 obtain rfl:k=l.length:=by omega
 rw [zD (Ae _)] at hg;refine gz2 ?_;refine zn ?_;refine gz6 ?_;refine uRp ?_;rw [hg];simp_all [orI]
theorem zfi [Tracks] {a b:Str}:ConP prog 145 [.str a,.str b] (.int .i64 (zS a b)):=by
 refine uOb func145 ntmps145 ?_;refine gz6 ?_;refine dq (zsB func206 (by kernel_rfl) (by kernel_rfl) (by kernel_rfl) (by kernel_rfl) rfl rfl rfl) ?_;refine gz3 ?_;refine zB rfl ?_
 rfl
theorem zG [Tracks] {a b:Str}:ConP prog 75 [.str a,.str b] (.int .i64 (zS a b)):=by
 refine uOb func75 ntmps75 ?_;refine gz6 ?_;refine dq (uCl zxP rfl zfi) ?_;refine gz3 ?_;refine zB rfl ?_
 rfl
theorem zl3 [Tracks] {a b:Str}:ConP prog 247 [.str a,.str b] (.bool (Op.bytesLess a b)):=by
 refine uOb func247 ntmps247 ?_;refine gz5 ?_;refine dq (uCl zpE rfl zda) ?_;refine gz2 ?_;refine uGr rfl (fun hc=>uCl zpE rfl zda) ?_;refine zat ?_;refine zB rfl ?_
 rfl
theorem zgd [Tracks] {l m:List Str} (hl:l.length<=1000000):ConP prog 22 [eSs l,eSs m] (.bool (l==m)):=by
 refine uOb func22 ntmps22 ?_;refine zct ?_;refine uCo (fun h1=> ?_) fun h2=> ?_
 refine gz4 ?_;refine zB rfl ?_
 show HVal.bool _=_
 (congr 1;symm;rw [beq_eq_false_iff_ne];intro h;subst h;omega)
 refine gz9 ?_;refine uT1 [4,2,13,13] (fun k=>[(13,.int .i64 k)]) (fun k=>[]) (fun k=>k<=l.length/\(l.length=m.length/\(l==m)=(l.drop k==m.drop k))) (fun k=>l.length-k) (0) ?_ ?_;refine ⟨Ad _,?_,rfl⟩
 omega
 rintro k ⟨hk,hg⟩;refine gz4 ?_;refine uCo (fun h3=> ?_) fun h4=> ?_
 obtain ⟨x,hx⟩: ∃x,l[k]? =some x:=⟨_,Aa h3⟩
 have hdx:=zg hx;obtain ⟨y,hy⟩: ∃y,m[k]? =some y:=⟨_,Aa uO⟩
 rw [hdx,zg hy] at hg;refine gz8 ?_;refine uDr mixed ?_;refine zat ?_;refine uCo (fun h5=> ?_) fun h6=> ?_
 refine gz4 ?_;refine zB rfl ?_
 show HVal.bool _=_
 (rw [hg.2];simp_all)
 refine gz7 ?_;refine ⟨k+1,?_,?_,⟨rfl,trivial⟩,uK,Ac _⟩
 refine ⟨by omega,hg.1,?_⟩
 rw [hg.2];simp_all
 dsimp only;omega
 have hnk:l.length<=k:=by omega
 obtain rfl:k=l.length:=by omega
 rw [zD (Ae _)] at hg;refine gz2 ?_;refine zn ?_;refine gz6 ?_;refine zB rfl ?_
 show HVal.bool _=_
 (rw [hg.2];simp_all)
end
end Go.Proofs.YtaihpegdcgdcgaaGreatDoor
namespace Go.HL
section
def zgr (r:Room) (l:List Swap):Nat->List Swap->Int
 |_,[]=>0
 |k,x::t=>if out x.Round 1 r.Rounds then 1 else if !(r.Teams.contains x.Of)|| !(r.Teams.contains x.Team) then 8
   else if decide (0<k)&&decide (orI [zX x.Round (l.getD (k-1) zpP).Round,zS x.Of (l.getD (k-1) zpP).Of]<=0) then 7 else zgr r l (k+1) t
def zb5 (r:Room) (l:List Swap):Int:=if zbg r !=0 then zbg r else if 600<l.length then 2 else zgr r l 0 l
def zhr (r:Room) (sw:List Swap) (round:Int):List Turn:=
 (if backwards r.Way round then r.Teams.reverse else r.Teams).map fun t=>⟨round,t,owner round t sw⟩
def zdi (r:Room) (sw:List Swap):Nat->List Turn
 |0=>[]
 |n+1=>zdi r sw n++zhr r sw (n+1)
def turns (r:Room) (sw:List Swap):List Turn:=zdi r sw r.Rounds.toNat
theorem zg6 (r:Room) (sw:List Swap): ∀n,(zdi r sw n).length=n*r.Teams.length
 |0=>by simp [zdi]
 |n+1=>by
   have:(zhr r sw ((n:Int)+1)).length=r.Teams.length:=by unfold zhr;split<;>simp
   simp only [zdi,AA,zg6 r sw n,this,Nat.succ_mul]
theorem znD {l:List Str}: ∀(k:Nat),k<=l.length->zbr l k (l.drop k)=0->∀(i j:Nat) (a b:Str),k<=j->i+1=j->l[i]? =some a->l[j]? =some b->Op.bytesLess a b=true:=by
 intro k hk
 generalize hm:l.length-k=m
 induction m generalizing k with
 |zero=>
   intro _ i j a b h1 h2 ha hb
   have:=zl hb;omega
 |succ m ih=>
   intro h i j a b h1 h2 ha hb
   have hlt:k<l.length:=by omega
   have hx:=Aa hlt;rw [zg hx,zbr] at h
   by_cases hkey:key l[k]=true
   simp only [hkey,Bool.not_true,AQ,if_false] at h
   by_cases hle:(decide (0<k)&&leS l[k] (l.getD (k-1) []))=true
   rw [if_pos hle] at h;omega;rw [if_neg hle] at h
   by_cases hj:k+1<=j
   exact ih (k+1) (by omega) (by omega) h i j a b hj h2 ha hb;obtain rfl:j=k:=by omega
   have h0:0<j:=by omega
   simp only [h0,decide_true,Bool.true_and] at hle;have e1:l.getD (j-1) []=a:=by
    have:j-1=i:=by omega
    rw [this];simp [List.getD,ha]
   have e2:l[j]=b:=by rw [hx] at hb;simpa using hb
   rw [e1,e2,zwd] at hle
   simpa using hle
   simp [hkey] at h
theorem zjE {l:List Str} (h:zdA l=0):SortedS l:=by
 have hadj:=znD (l:=l) 0 (Ad _) (by simpa [zdA] using h);have key: ∀(d i:Nat) (a b:Str),l[i]? =some a->l[i+d+1]? =some b->Op.bytesLess a b=true:=by
  intro d
  induction d with
  |zero=>intro i a b ha hb;exact hadj i (i+1) a b (by omega) rfl ha hb
  |succ d ih=>
    intro i a b ha hb
    have hlt:=zl hb;have hc:=Aa (l:=l) (i:=i+d+1) (by omega);have h1:=ih i a _ ha hc;have h2:=hadj (i+d+1) (i+(d+1)+1) _ b (by omega) (by omega) hc hb;exact zdg h1 h2
 refine List.pairwise_iff_getElem.2 fun i j hi hj hij=> ?_
 refine key (j-i-1) i _ _ (Aa hi) ?_;have:i+(j-i-1)+1=j:=by omega
 rw [this];exact Aa hj
theorem zlf {r:Room} (h:zbg r=0):SortedS r.Players/\r.Teams.length<=20/\0<r.Teams.length/\1<=r.Rounds/\r.Rounds<=30/\r.Players.length<=500:=by
 unfold zbg at h
 by_cases h1:teamsFault r.Teams=0
 rw [if_neg (by simp [h1])] at h
 by_cases h2:out r.Rounds 1 30=true
 rw [if_pos h2] at h;omega;rw [if_neg h2] at h
 by_cases h3:out r.Way 1 3=true
 rw [if_pos h3] at h;omega;rw [if_neg h3] at h
 by_cases h4:playersFault r.Players=0
 have h2':=zeT (by simpa using h2);unfold teamsFault at h1;unfold playersFault at h4
 split at h4
 omega
 split at h1
 omega
 split at h1
 omega
 exact ⟨zjE h4,by omega,by omega,h2'.1,h2'.2,by omega⟩;rw [if_pos (by simpa using h4)] at h;exact absurd h h4;rw [if_pos (by simpa using h1)] at h;exact absurd h h1
end
end Go.HL
namespace Go.Proofs.YtaihpegdcgdcgaaGreatDoor
set_option maxRecDepth 100000
set_option linter.unusedVariables false
set_option linter.unusedSimpArgs false
section
open Go.Proofs.Tryz
open Go.HL
theorem zeJ [Tracks] {l:List Str} {s:Str} (hl:l.length<=1000000) (hs:SortedS l):ConP prog 232 [eSs l,.str s] (.tup [.int .i64 (ze0 l s),.bool (l.contains s)]):=by
 refine uOb func232 ntmps232 ?_;refine zn9 ?_;refine uT2 [7,3,13,18] (fun i j=>[(7,.int .i64 i),(8,.int .i64 j)]) (fun i j=>[]) (fun i j=>i<=j/\j<=l.length/\(∀(k:Nat) (x:Str),k<i->l[k]? =some x->Op.bytesLess x s=true)/\(∀(k:Nat) (x:Str),j<=k->l[k]? =some x->Op.bytesLess x s=false)) (fun i j=>j-i) (0) (l.length) ?_ ?_;exact ⟨Ad _,Ae _,fun k x h=>by omega,fun k x h1 h2=>by have:=zl h2;omega⟩;rintro i j ⟨hij,hjl,ha,hb⟩;refine gz6 ?_;refine uCo (fun h1=> ?_) fun h2=> ?_
 obtain ⟨x,hx⟩: ∃x,l[(i+j)/2]? =some x:=⟨_,Aa uO⟩
 have hm:(i+j)/2<j/\i<=(i+j)/2:=by omega
 refine gz7 ?_;refine dq (zcp ty3 zl1 rfl) ?_;refine dq (zrH rfl rfl uO) ?_;refine dq (zau (zcp zl1 ty3 rfl) (zty (i:=i) (j:=j) uO)) ?_;refine gz5 ?_;refine dq (zC (j:=(i+j)/2) (a:=x) zj ty9 rfl rfl rfl hx) ?_;refine gz2 ?_;refine dq (uCl zyI rfl zl3) ?_;refine gz1 ?_;refine uCo (fun h3=> ?_) fun h4=> ?_
 refine gz6 ?_;exact ⟨(i+j)/2+1,j,⟨by omega,hjl,zu7 hs hx h3,hb⟩,uD,⟨rfl,rfl,trivial⟩,uK,Ac _⟩;refine gz5 ?_;exact ⟨i,(i+j)/2,⟨by omega,by omega,ha,zrX hs hx h4⟩,uD,⟨rfl,rfl,trivial⟩,uK,Ac _⟩;obtain rfl:i=j:=by omega
 refine gz2 ?_;refine zJ ?_;refine zat ?_;refine uGr rfl (fun hc=>by have hq:=hc;(try simp at hq);exact zC (j:=i) (a:=l.getD i []) zj ty9 rfl rfl rfl (getD_some uO)) ?_;refine gz6 ?_;refine uGr rfl (fun hc=>zC (j:=i) (a:=l.getD i []) zj ty9 rfl rfl rfl (getD_some uSa)) ?_;refine gz1 ?_;refine uGr rfl (fun hc=>uCl zvA rfl zfy) ?_;refine gz2 ?_;refine uGr rfl (fun hc=>uCl zvA rfl zfy) ?_;refine gz7 ?_;refine zB rfl ?_;rw [zoj hjl ha hb,<-zqo hs hjl ha hb,<-zt2 false]
theorem zk1 [Tracks] {r:Room} {l:List Swap} (ht:r.Teams.length<=1000000) (hp:r.Players.length<=1000000) (hl:l.length<=1000000):ConP prog 56 [zna r,zlg l] (.int .i64 (zb5 r l)):=by
 refine uOb func56 ntmps56 ?_;refine gz7 ?_;refine dq (uCl zxA rfl (zl4 (by assumption) (by assumption))) ?_;refine gz6 ?_;refine uCo (fun h1=> ?_) fun h2=> ?_
 refine gz5 ?_;refine uRp ?_
 (rw [zb5,if_pos uSa])
 refine gz8 ?_;refine uCo (fun h3=> ?_) fun h4=> ?_
 refine gz4 ?_;refine uRp ?_
 (rw [zb5,if_neg uSa,if_pos uO])
 refine gz9 ?_;refine uT1 [4,1,6,2,18,53] (fun k=>[(18,.int .i64 k)]) (fun k=>[]) (fun k=>k<=l.length/\(zb5 r l=zgr r l k (l.drop k))) (fun k=>l.length-k) (0) ?_ ?_;refine ⟨Ad _,?_⟩
 rw [zb5,if_neg uSa,if_neg uO];rfl;rintro k ⟨hk,hg⟩;refine gz4 ?_;refine uCo (fun h5=> ?_) fun h6=> ?_
 obtain ⟨x,hx⟩: ∃x,l[k]? =some x:=⟨_,Aa h5⟩
 have hdx:=zg hx;rw [hdx] at hg;refine gz8 ?_;refine de rfl (zi zks rfl fun b7=> ?_)
 refine gz1 ?_;refine de0 (zo zks rfl rfl rfl rfl rfl ?_)
 refine gz1 ?_;refine zf (zp 7 rfl) ?_;refine gz6 ?_;refine dq (uCl zbm rfl z7) ?_;refine gz2 ?_;refine uCo (fun h7=> ?_) fun h8=> ?_
 refine gz4 ?_;refine uRp ?_
 (rw [hg,zgr];simp_all)
 refine gz5 ?_;refine dq (uCl zeL rfl (zF uO)) ?_;refine gz6 ?_;refine uGr rfl (fun hc=>by have hq:=hc;(try simp at hq);exact uCl zeL rfl (zF uO)) ?_;refine gz4 ?_;refine uCo (fun h9=> ?_) fun h10=> ?_
 refine gz4 ?_;refine uRp ?_
 (rw [hg,zgr];simp_all)
 refine uDr mixed ?_;refine gz8 ?_;refine uGy 8 rfl rfl (fun hc=>by have hq:=hc;(try simp at hq);exact zC (j:=k-1) (a:=l.getD (k-1) zpP) zsM zks rfl rfl uO (getD_some uO)) ?_;refine gz2 ?_;refine uGy 11 rfl rfl (fun hc=>uCl zch rfl zN) ?_;refine gz5 ?_;refine uGy 17 rfl rfl (fun hc=>by have hq:=hc;(try simp at hq);exact zC (j:=k-1) (a:=l.getD (k-1) zpP) zsM zks rfl rfl uO (getD_some uO)) ?_;refine gz2 ?_;refine uGy 20 rfl rfl (fun hc=>uCl zcT rfl zG) ?_;refine uGy 21 rfl rfl (fun hc=>za (hs:=[_,_]) zV ty3 rfl rfl (by decide) (by decide) rfl) ?_;refine uGy 22 rfl rfl (fun hc=>uCl zeM rfl (zaW (l:=[_,_]) (by simp))) ?_;refine gz4 ?_;refine uCo (fun h11=> ?_) fun h12=> ?_
 refine gz4 ?_;refine uRp ?_
 (rw [hg,zgr];simp_all)
 refine gz8 ?_;refine ⟨k+1,?_,?_,⟨rfl,trivial⟩,uK,Ac _⟩
 refine ⟨by omega,?_⟩
 rw [hg,zgr];simp_all
 intro h1 h2;have:=h12 h1;omega
 dsimp only;omega
 have hnk:l.length<=k:=by omega
 obtain rfl:k=l.length:=by omega
 rw [zD (Ae _)] at hg;refine gz2 ?_;refine zn ?_;refine gz6 ?_;refine uRp ?_
 (rw [hg];rfl)
end
end Go.Proofs.YtaihpegdcgdcgaaGreatDoor
namespace Go.HL
section
def Rev (l c:List Str) (i:Nat):Prop:=c.length=l.length/\∀k,k<l.length->c[k]? =if k<i\/l.length-i<=k then l[l.length-1-k]? else l[k]?
theorem ztL (l:List Str):Rev l l 0:=⟨rfl,fun k hk=>by rw [if_neg (by omega)]⟩
theorem zuW {l c:List Str} {i:Nat} {a b:Str} (h:Rev l c i) (hi:i<l.length-1-i) (ha:c[i]? =some a) (hb:c[l.length-1-i]? =some b):Rev l ((c.set i b).set (l.length-1-i) a) (i+1):=by
 obtain ⟨h1,h2⟩:=h;refine ⟨by simp [h1],fun k hk=> ?_⟩
 have ea:=h2 i (by omega);have eb:=h2 (l.length-1-i) (by omega);rw [if_neg (by omega),ha] at ea;rw [if_neg (by omega),hb] at eb
 by_cases e1:k=l.length-1-i
 subst e1;rw [if_pos (by omega)];have:l.length-1-(l.length-1-i)=i:=by omega
 rw [this,<-ea,Bk (by simp;omega)];rw [A2 (by omega)]
 by_cases e2:k=i
 subst e2;rw [if_pos (by omega),<-eb,Bk (by omega)];rw [A2 (by omega),h2 k hk]
 by_cases e3:k<i\/l.length-i<=k
 rw [if_pos e3,if_pos (by omega)];rw [if_neg e3,if_neg (by omega)]
theorem zwD {l c:List Str} {i:Nat} (h:Rev l c i) (hi:l.length<=2*i+1):c=l.reverse:=by
 obtain ⟨h1,h2⟩:=h
 apply BG
 intro k
 by_cases hk:k<l.length
 rw [h2 k hk];rw [List.getElem?_reverse hk]
 by_cases e:k<i\/l.length-i<=k
 rw [if_pos e];rw [if_neg e]
 congr 1;omega
 rw [Ax (by omega),Ax (by simp;omega)]
end
end Go.HL
namespace Go.Proofs.YtaihpegdcgdcgaaGreatDoor
set_option maxRecDepth 100000
set_option linter.unusedVariables false
set_option linter.unusedSimpArgs false
section
open Go.Proofs.Tryz
open Go.HL
theorem zar [Tracks] {l:List Str} (hl:l.length<=1000000):ztX prog 33 [eSs l] 1 (l.map .str):=by
 refine uOb func33 ntmps33 ?_;refine gz6 ?_;refine de rfl (ztg zj rfl rfl fun b4 hb4=> ?_)
 refine gz1 ?_;refine uCo (fun h1=> ?_) fun h2=> ?_
 refine gz4 ?_;exact zaa (zM 1) rfl ⟨_,rfl,by simp_all⟩;refine gz3 ?_;refine de rfl (zvW zj ty9 fun v5=> ?_)
 refine gz1 ?_;refine de rfl (zP (i:=0) zj ty9 rfl rfl rfl rfl rfl (by simp [zas,zb]) uSo fun v7=> ?_)
 refine gz3 ?_;exact zza rfl rfl
theorem zfK [Tracks] {l:List Str} {v:Value} (hl:l.length<=1000000):Con prog 123 [.raw v] [.arr v 1 (l.map .str)] (fun x M'=>x= .tup []/\M'=[.arr v 1 (l.reverse.map .str)]):=by
 refine uOb func123 ntmps123 ?_;refine gz2 ?_;refine de rfl (zrr (i:=0) zj rfl rfl ?_)
 rw [Ah];refine gz5 ?_;refine uU3 [2,2,7,21] (fun (i:Nat) (j:Int) (c:List Str)=>[(2,.int .i64 i),(3,.int .i64 j)]) (fun (i:Nat) (j:Int) (c:List Str)=>[.arr v 1 (c.map .str)]) (fun (i:Nat) (j:Int) (c:List Str)=>i<=l.length/\j=(l.length:Int)-1-i/\Rev l c i) (fun (i:Nat) (j:Int) (c:List Str)=>l.length-i) (0) ((l.length:Int)-1) (l) ?_ ?_;exact ⟨Ad _,by omega,ztL l⟩;rintro i j c ⟨hi,hj,hr⟩;refine gz6 ?_;refine uCo (fun h1=> ?_) fun h2=> ?_
 have hlen:=hr.1;obtain ⟨x,hx⟩: ∃x,c[i]? =some x:=⟨_,Aa uO⟩
 obtain ⟨y,hy⟩: ∃y,c[l.length-1-i]? =some y:=⟨_,Aa uO⟩
 refine zwW (i:=0) rfl (fun h0 he=> ?_) (fun b off cap hv=> ?_)
 exfalso;simp at he;subst he;simp at hlen;omega
 subst hv;refine gz4 ?_;refine zaX (fun M=>M=[.arr (.slice (some ⟨b,off,none⟩) (c.map HVal.str).length cap) 1 (c.map .str)]) [7,11] mixed ?_;refine gz6 ?_;refine uB 6 rfl (zt (j:=l.length-1-i) zj ty9 rfl rfl uO uSo) ?_;refine uM 7 rfl rfl (fun M hM=>by subst hM;exact zfN (i:=0) (j:=l.length-1-i) (f:=0) (y:= .str y) ty9 rfl rfl rfl (by simp [hy]) (.inl ⟨rfl,rfl⟩) ⟨rfl,rfl⟩) ?_;refine gz2 ?_;refine uB 10 rfl (zt (j:=i) zj ty9 rfl rfl rfl uSo) ?_;refine uM 11 rfl rfl (fun M hM=>by subst hM;exact zfN (i:=0) (j:=i) (f:=0) (y:= .str x) ty9 rfl rfl rfl (by simp [hx]) (.inl ⟨rfl,rfl⟩) ⟨rfl,rfl⟩) ?_;refine uB 12 rfl (zt (j:=i) zj ty9 rfl rfl rfl uSo) ?_;refine uF 13 ?_;refine zI (zO (i:=0) (j:=i) (f:=0) (y:= .str x) (y':= .str y) ty9 rfl rfl rfl rfl (by simp [hx]) rfl rfl (by simp [zb]) rfl ?_)
 refine ⟨uE,?_⟩
 refine uB 14 rfl (zt (j:=l.length-1-i) zj ty9 rfl rfl uO uSo) ?_;refine uF 15 ?_;refine zI (zO (i:=0) (j:=l.length-1-i) (f:=0) (y:= .str y) (y':= .str x) ty9 rfl rfl rfl rfl (by simp [B1];rw [if_neg uO];simp [hy]) rfl rfl (by simp [zb]) rfl ?_)
 refine ⟨uE,?_⟩
 refine zct ?_;refine ⟨i+1,j-1,(c.set i y).set (l.length-1-i) x,?_,?_,⟨rfl,rfl,trivial⟩,uK,zq (by simp [List.map_set])⟩
 exact ⟨by omega,by omega,zuW hr uO hx hy⟩
 dsimp only;omega
 have hend:=zwD hr uO;refine gz2 ?_;refine zcn ?_;refine gz1 ?_;exact ⟨_,_,Ghost.sub (Sub.refl _),_,_,rfl,Weak.refl _,rfl,by rw [hend]⟩
end
end Go.Proofs.YtaihpegdcgdcgaaGreatDoor
namespace Go.HL
section
def ziI (r:Room) (s:List Swap):List Str:=if zb5 r s !=0 then [] else (turns r s).map (·.team)
theorem zkz {r:Room} {l:List Swap} (h:zb5 r l=0):zbg r=0/\l.length<=600:=by
 unfold zb5 at h
 by_cases h1:zbg r=0
 rw [if_neg (by simp [h1])] at h
 split at h
 omega
 exact ⟨h1,by omega⟩;rw [if_pos (by simpa using h1)] at h;exact absurd h h1
theorem zuD {a b:Int} (h:orI [a,b]=0):a=0/\b=0:=by
 simp only [orI] at h
 split at h<;>simp_all
theorem ztV {r:Room} {s:List Swap} (h:zbg r=0):(turns r s).length<=600:=by
 obtain ⟨_,h1,_,h2,h3,_⟩:=zlf h;unfold turns;rw [zg6];have:=Nat.mul_le_mul (show r.Rounds.toNat<=30 by omega) h1
 omega
end
end Go.HL
namespace Go.Proofs.YtaihpegdcgdcgaaGreatDoor
set_option maxRecDepth 100000
set_option linter.unusedVariables false
set_option linter.unusedSimpArgs false
section
open Go.Proofs.Tryz
open Go.HL
theorem zpk [Tracks] {r:Room} {s:List Swap} (ht:r.Teams.length<=20) (hr0:1<=r.Rounds) (hr:r.Rounds<=30) (hl:s.length<=1000000):ConP prog 57 [.vptr (zb (zna r)) 0,zlg s] (zwT (turns r s)):=by
 refine uOb func57 ntmps57 ?_;refine gz6 ?_;refine zf (zM 3) ?_;refine gz5 ?_;refine uU2 [5,3,9,39] (fun (n:Nat) (v:Value)=>[(6,.int .i64 ((n:Int)+1)),(5,.raw v)]) (fun (n:Nat) (v:Value)=>[.arr v 3 ((zdi r s n).map znb)]) (fun (n:Nat) (v:Value)=>n<=r.Rounds.toNat) (fun (n:Nat) (v:Value)=>r.Rounds.toNat-n) (0) (.slice none 0 0) ?_ ?_;exact Ad _
 intro n v hn
 refine gz9 ?_;refine uCo (fun h1=> ?_) fun h2=> ?_
 have hn30:n<r.Rounds.toNat:=by omega
 refine gz9 ?_;refine de rfl (uCa zmz rfl (zar uO) fun v22=> ?_)
 refine gz2 ?_;refine uVj [23,8] (fun (L:List Str)=>[]) (fun (L:List Str)=>[.arr v22 1 (L.map .str),.arr v 3 ((zdi r s n).map znb)]) (fun (L:List Str)=>L=if backwards r.Way ((n:Int)+1) then r.Teams.reverse else r.Teams) ?_ ?_
 skip
 refine gz6 ?_;refine dq (uCl zxB rfl zl5) ?_;refine gz1 ?_;refine uCo (fun h3=> ?_) fun h4=> ?_
 refine gz2 ?_;refine de rfl (zaR (M1:=[_]) (R:=[_]) zxC rfl (WeakL.refl _) (Ac _) (zfK (l:=r.Teams) uO) ?_)
 rintro _ _ ⟨rfl,rfl⟩;refine gz1 ?_;refine ⟨_,?_,trivial,uK,Ac _⟩
 simp_all
 refine gz1 ?_;refine ⟨_,?_,trivial,uK,Ac _⟩
 simp_all
 intro L hL
 have hLl:L.length=r.Teams.length:=by rw [hL];split<;>simp
 have hb:=zg6 r s n;have hm:=Nat.mul_le_mul (show n<=30 by omega) (show r.Teams.length<=20 by omega);refine zf (zkP 7 rfl) ?_;refine gz6 ?_;refine uV2 [5,1,9,1,33,15] (fun (k:Nat) (u:Value)=>[(33,.int .i64 k),(5,.raw u)]) (fun (k:Nat) (u:Value)=>[.arr u 3 ((zdi r s n).map znb++(L.take k).map fun t=>znb ⟨(n:Int)+1,t,owner ((n:Int)+1) t s⟩)]) (fun (k:Nat) (u:Value)=>k<=L.length/\(True)) (fun (k:Nat) (u:Value)=>L.length-k) (0) (v) ?_ ?_ ?_ ?_;exact ⟨Ad _,by simp_all⟩;exact ⟨rfl,rfl,trivial⟩;exact zq (by simp)
 intro k u hinv
 obtain ⟨hk,-⟩:=hinv;refine gz4 ?_;refine uCo (fun h5=> ?_) fun h6=> ?_
 obtain ⟨x,hx⟩: ∃x,L[k]? =some x:=⟨_,Aa h5⟩
 have hdx:=zg hx;refine zn9 ?_;refine dq (uCl zxD rfl (zpj (by assumption))) ?_;refine dq (zH (cs:=[_,_,_]) zl0 zy0 rfl) ?_;refine dq (za (hs:=[_]) zsN zl0 rfl rfl (by decide) (by decide) rfl) ?_;refine de rfl (zP (i:=0) zsN zl0 rfl rfl rfl rfl rfl (by simp [zas,zb]) uSo fun v46=> ?_)
 refine gz8 ?_;refine ⟨k+1,_,?_,?_,⟨rfl,rfl,trivial⟩,uK,zq (by simp [List.take_add_one,hx])⟩
 exact ⟨by omega,trivial⟩
 dsimp only;omega
 have hnk:L.length<=k:=by omega
 obtain rfl:k=L.length:=by omega
 refine gz2 ?_;refine zJ ?_;refine gz8 ?_;refine ⟨n+1,_,?_,?_,⟨rfl,rfl,trivial⟩,uK,zq (by simp [zdi,zhr,hL,AB,Function.comp_def])⟩
 omega
 dsimp only;omega
 obtain rfl:n=r.Rounds.toNat:=by omega
 refine gz2 ?_;refine zJ ?_;refine gz7 ?_;exact zlF (M:=[]) 4 rfl rfl rfl
theorem zpi [Tracks] {r:Room} {s:List Swap} (ht:r.Teams.length<=1000000) (hp:r.Players.length<=1000000) (hl:s.length<=1000000):ConP prog 20 [zna r,zlg s] (.tup [eSs (ziI r s),.int .i64 (zb5 r s)]):=by
 refine uOb func20 ntmps20 ?_;refine gz9 ?_;refine dq (uCl ca56 rfl (zk1 (by assumption) (by assumption) (by assumption))) ?_;refine gz6 ?_;refine uCo (fun h1=> ?_) fun h2=> ?_
 refine gz6 ?_;exact zbt rfl (zai (by rw [ziI,if_pos uSa];exact zZ 1) (Weak.refl _));refine gz5 ?_;refine zf (zM 1) ?_;refine gz2 ?_;obtain ⟨_,hq1,_,hq2,hq3,_⟩:=zlf (r:=r) ((zkz (l:=s) h2).1);have hlen:=ztV (r:=r) (s:=s) (zkz h2).1;refine gz1 ?_;refine dq (uCl ca57 rfl (zpk (by assumption) (by assumption) (by assumption) (by assumption))) ?_;refine gz4 ?_;refine uV2 [7,1,9,1,19,10] (fun (k:Nat) (u:Value)=>[(19,.int .i64 k),(7,.raw u)]) (fun (k:Nat) (u:Value)=>[.arr u 1 (((turns r s).take k).map fun t=> .str t.team)]) (fun (k:Nat) (u:Value)=>k<=(turns r s).length/\(True)) (fun (k:Nat) (u:Value)=>(turns r s).length-k) (0) (.slice none 0 0) ?_ ?_ ?_ ?_;exact ⟨Ad _,by simp_all⟩;exact ⟨rfl,rfl,trivial⟩;exact zq (by simp)
 intro k u hinv
 obtain ⟨hk,-⟩:=hinv;refine gz4 ?_;refine uCo (fun h3=> ?_) fun h4=> ?_
 obtain ⟨x,hx⟩: ∃x,(turns r s)[k]? =some x:=⟨_,Aa h3⟩
 have hdx:=zg hx;refine gz7 ?_;refine de rfl (zi zl0 rfl fun b9=> ?_)
 refine de0 (zo zl0 rfl rfl rfl rfl rfl ?_)
 refine gz1 ?_;refine zf (zp 9 rfl) ?_;refine gz4 ?_;refine dq (za (hs:=[_]) zj ty9 rfl rfl (by decide) (by decide) rfl) ?_;refine de rfl (zP (i:=0) zj ty9 rfl rfl rfl rfl rfl (by simp [zas,zb]) uSo fun v27=> ?_)
 refine gz8 ?_;refine ⟨k+1,_,?_,?_,⟨rfl,rfl,trivial⟩,uK,zq (by simp [List.take_add_one,hx])⟩
 exact ⟨by omega,trivial⟩
 dsimp only;omega
 have hnk:(turns r s).length<=k:=by omega
 obtain rfl:k=(turns r s).length:=by omega
 refine gz2 ?_;refine zJ ?_;refine gz8 ?_
 (refine zlF (M:=[]) 4 rfl rfl ?_
  simp_all [ziI,eSs,Function.comp_def,zap,zaM])
end
end Go.Proofs.YtaihpegdcgdcgaaGreatDoor
namespace Go.HL
section
def asciiSet (l:List UInt8):List HVal:=(List.range 256).map fun i=> .bool (l.contains (UInt8.ofNat i))
theorem zcP (l:List UInt8):(asciiSet l).length=256:=by simp [asciiSet]
theorem zkU (l:List UInt8) (c:UInt8):(asciiSet l)[c.toNat]? =some (.bool (l.contains c)):=by
 have:=c.toNat_lt
 simp [asciiSet,Bz,this]
theorem znh {α:Type} (f:α->Bool): ∀l:List α,zas (l.map fun i=> .bool (f i))=true
 |[]=>rfl
 |x::l=>by simp only [Ar,zas];exact znh f l
theorem zpf (l:List UInt8):zas (asciiSet l)=true:=znh _ _
theorem zp7 (l:List UInt8) (c:UInt8):zam (asciiSet l) (0+c.toNat*1) [.bool true]=asciiSet (l++[c]):=by
 have hc:=c.toNat_lt;have hl:0+c.toNat*1=c.toNat:=by omega
 rw [hl]
 apply BG
 intro i
 have hlen:=zcP l;simp only [zam,B7]
 by_cases hi:i<c.toNat
 rw [Aq (by simp;omega),Aq (by simp [hlen];omega),AC hi];have h256:i<256:=by omega
 have hne:UInt8.ofNat i≠c:=fun h=>by
  have:=congrArg UInt8.toNat h;rw [UInt8.toNat_ofNat_of_lt' (by simpa [UInt8.size] using h256)] at this;omega
 simp [asciiSet,Bz,h256,hne]
 by_cases he:i=c.toNat
 subst he;rw [Aq (by simp [hlen];omega),Ao (by simp [hlen];omega)];rw [zkU]
 simp [hlen,Cb (Nat.le_of_lt hc)]
 rw [Ao (by simp [hlen];omega),AI];have e1:c.toNat+1+(i-((asciiSet l).take c.toNat++[HVal.bool true]).length)=i:=by simp [hlen];omega
 rw [e1]
 by_cases h256:i<256
 have hne:UInt8.ofNat i≠c:=fun h=>by
  have:=congrArg UInt8.toNat h;rw [UInt8.toNat_ofNat_of_lt' (by simpa [UInt8.size] using h256)] at this;omega
 simp [asciiSet,Bz,h256,hne]
 rw [Ax (by rw [zcP];omega),Ax (by rw [zcP];omega)]
def zcy (p:UInt8->Bool) (s:Str):Str:=(s.reverse.dropWhile p).reverse
theorem zeV (p:UInt8->Bool) (s:Str) (c:UInt8):zcy p (s++[c])=if p c then zcy p s else s++[c]:=by
 unfold zcy;rw [List.reverse_append];simp only [List.reverse_cons,List.reverse_nil,Bf,Bn,A3]
 split<;>simp
theorem zta (p:UInt8->Bool): ∀s:Str,(s.dropWhile p).length<=s.length
 |[]=>Ae _
 |x::s=>by
   rw [A3]
   split
   exact Nat.le_succ_of_le (zta p s);exact Ae _
theorem zo2 (p:UInt8->Bool) (s:Str):(zcy p s).length<=s.length:=by
 unfold zcy;rw [List.length_reverse];have:=zta p s.reverse
 rwa [List.length_reverse] at this
theorem ztb (p:UInt8->Bool): ∀s:Str,s.dropWhile p=[]->∀c∈s,p c=true
 |[],_,c,h=>by cases h
 |x::s,h,c,hc=>by
   rw [A3] at h
   by_cases hx:p x=true
   rw [if_pos hx] at h
   rcases List.mem_cons.1 hc with rfl|hc
   exact hx;exact ztb p s h c hc;rw [if_neg hx] at h;cases h
theorem zu1 (p:UInt8->Bool) (s:Str):((zcy p s).dropWhile p==[])=s.all p:=by
 induction s using List.reverseRecOn' with
 |nil=>rfl
 |snoc s c ih=>
   rw [zeV]
   by_cases hc:p c=true
   rw [if_pos hc,ih];simp [hc];rw [if_neg hc];have:(s++[c]).all p=false:=by simp [hc]
   rw [this]
   cases hd:(s++[c]).dropWhile p with
   |nil=>exact absurd (ztb _ _ hd c (by simp)) hc
   |cons _ _=>rfl
where
 List.reverseRecOn' {motive:Str->Prop} (nil:motive []) (snoc: ∀s c,motive s->motive (s++[c])) (l:Str):motive l:=by
  have: ∀n (l:Str),l.length=n->motive l:=by
   intro n
   induction n with
   |zero=>intro l h;rw [List.length_eq_zero_iff.1 h];exact nil
   |succ n ih=>
     intro l h
     have hne:l≠[]:=fun h0=>by subst h0;simp at h
     rw [<-Bi hne];exact snoc _ _ (ih _ (by simp [h]))
  exact this l.length l rfl
def zfd:Str:=[97,98,99,100,101,102,103,104,105,106,107,108,109,110,111,112,113,114,115,116,117,118,119,120,121,122,48,49,50,51,52,53,54,55,56,57,45,95]
def zhC:Str:=[97,98,99,100,101,102,103,104,105,106,107,108,109,110,111,112,113,114,115,116,117,118,119,120,121,122]
theorem zp4 {p:UInt8->Bool} (h:(List.range 256).all (fun i=>p (UInt8.ofNat i))=true) (c:UInt8):p c=true:=by
 have:=List.all_eq_true.1 h c.toNat (List.mem_range.2 c.toNat_lt)
 simpa using this
theorem zuf (c:UInt8):zfd.contains c=zff c:=by
 have:=zp4 (p:=fun c=>zfd.contains c==zff c) (by kernel_rfl) c
 simpa using this
theorem znI (c:UInt8):decide (0<=Lib.indexByte zhC c)=(decide (97<=c.toNat)&&decide (c.toNat<=122)):=by
 have:=zp4 (p:=fun c=>decide (0<=Lib.indexByte zhC c)==(decide (97<=c.toNat)&&decide (c.toNat<=122))) (by kernel_rfl) c
 simpa using this
theorem zwb (s:Str):key s=((!(out s.length 1 40)&&((zcy (zfd.contains ·) s).dropWhile (zfd.contains ·)==[]))&&decide (0<=Lib.indexByte zhC (s.headD 0))):=by
 rw [zu1,znI];have:(fun x=>zfd.contains x)=zff:=funext zuf;rw [this];unfold key ziz
 cases s with
 |nil=>simp [out]
 |cons x r=>
   simp only [List.headD_cons];have h1:(!(out ((x::r).length:Int) 1 40))=decide ((x::r).length<=40):=by
    simp only [out,Ak];rw [AK];simp;omega
   rw [h1];have h2:((x::r) !=[])=true:=rfl;rw [h2];have hb: ∀a b c d:Bool,(true&&a&&c&&d&&b)=(a&&b&&(c&&d)):=by decide
   exact hb _ _ _ _
theorem zsu (n:Int):(if out n 0 345686399999 then (1:Int) else 0)=if zY n then 0 else 1:=by
 have:out n 0 345686399999= !(zY n):=by
  simp only [out,zY];rw [AK];simp;try omega
 rw [this];cases zY n<;>rfl
end
end Go.HL
namespace Go.Proofs.YtaihpegdcgdcgaaGreatDoor
set_option maxRecDepth 100000
set_option linter.unusedVariables false
set_option linter.unusedSimpArgs false
section
open Go.Proofs.Tryz
open Go.HL
theorem ziZ [Tracks] {l:Str} (hl:l.length<=1000000) (ha: ∀c∈l,c.toNat<128):ConP prog 217 [.str l] (.tup [.agg (asciiSet l),.bool true]):=by
 refine zcM func217 rfl ntmps217 rfl rfl ?_;refine gz1 ?_;refine de rfl (zi ziJ rfl fun b2=> ?_)
 refine gz7 ?_;refine uV1 [3,17] (fun (k:Nat)=>[(4,.int .i64 k)]) (fun (k:Nat)=>[.cells b2 (asciiSet (l.take k))]) (fun (k:Nat)=>k<=l.length/\(True)) (fun (k:Nat)=>l.length-k) (0) ?_ ?_ ?_ ?_;exact ⟨Ad _,by simp_all⟩;exact ⟨rfl,trivial⟩;exact zq rfl
 intro k hinv
 obtain ⟨hk,-⟩:=hinv;refine gz7 ?_;refine uCo (fun h1=> ?_) fun h2=> ?_
 obtain ⟨x,hx⟩: ∃x,l[k]? =some x:=⟨_,Aa h1⟩
 have hdx:=zg hx;have hc:=ha x (Ab hx);refine gz7 ?_;refine dq (zaA ty9 rfl rfl rfl (by assumption)) ?_;refine gz7 ?_;refine zaF rfl (fun h3=> ?_) (fun h3=> ?_)
 exfalso
 try simp at h3
 omega
 try simp at h3
 refine gz4 ?_;refine dq (zqH ziJ ty4 rfl rfl rfl uO) ?_;refine de0 (zlk (i:=0) ty4 rfl rfl rfl rfl rfl (by rw [zcP];omega) ?_)
 refine gz8 ?_;refine ⟨k+1,?_,?_,⟨rfl,trivial⟩,uK,zq (by show [MObj.cells b2 (zam _ (0+x.toNat*1) [.bool true])]=_;rw [zp7];dsimp only;rw [List.take_add_one,hx];rfl)⟩
 exact ⟨by omega,trivial⟩
 dsimp only;omega
 have hnk:l.length<=k:=by omega
 obtain rfl:k=l.length:=by omega
 refine gz2 ?_;refine zn ?_;refine gz2 ?_;refine zf (zbx (M':=[.cells b2 (asciiSet l)]) (by rw [Ap])) ?_;refine gz1 ?_;refine de rfl (zgQ (i:=0) (h:= .agg (asciiSet l)) ziJ rfl rfl rfl rfl (zcP l) ?_)
 refine de0 (zo (h:= .agg (asciiSet l)) ziJ rfl rfl (by simp [zdh,zcP]) (zpf l) (zcP l) ?_)
 refine gz3 ?_;refine ⟨_,_,zp 2 rfl,[_,_],_,⟨⟨_,_,_,_,_,rfl,ziJ,.inr ⟨rfl,rfl,rfl⟩⟩,⟨rfl,trivial⟩⟩,Weak.refl _,?_,rfl⟩
 rfl
theorem zdF [Tracks] {l:Str} {c:UInt8}:ConP prog 264 [.vptr (asciiSet l) 0,.int .u8 c.toNat] (.bool (l.contains c)):=by
 have hc:=c.toNat_lt;refine uOb func264 ntmps264 ?_;refine gz7 ?_;refine dq (zuL ziJ ty4 rfl rfl rfl uO) ?_;refine dq (zh6 ty4 rfl rfl (by rw [show 0+c.toNat*1=c.toNat from by omega];exact zkU l c)) ?_;refine gz3 ?_;refine zB rfl ?_
 rfl
theorem zih [Tracks] {s l:Str} (hl:s.length<=1000000):ConP prog 218 [.str s,.vptr (asciiSet l) 0] (.str (s.dropWhile (l.contains ·))):=by
 refine uOb func218 ntmps218 ?_;refine gz5 ?_;refine uU1 [0,1,5,10] (fun (t:Str)=>[(0,.str t)]) (fun (t:Str)=>[]) (fun (t:Str)=>t.length<=s.length/\s.dropWhile (l.contains ·)=t.dropWhile (l.contains ·)) (fun (t:Str)=>t.length) (s) ?_ ?_;exact ⟨Ae _,rfl⟩;rintro t ⟨ht,hg⟩;refine gz6 ?_;refine uCo (fun h1=> ?_) fun h2=> ?_
 obtain ⟨x,u,rfl⟩: ∃x u,t=x::u:=by cases t with|nil=>simp at h1|cons x u=>exact ⟨x,u,rfl⟩
 have hlen:(x::u).length=u.length+1:=rfl;refine gz7 ?_;refine dq (zaA (j:=0) (b:=x) ty9 rfl rfl rfl rfl) ?_;refine dq (uCl zvz rfl zdF) ?_;refine gz2 ?_;refine uCo (fun h3=> ?_) fun h4=> ?_
 refine gz3 ?_;refine zn ?_;refine gz7 ?_;refine zB rfl ?_
 show HVal.str _=_
 rw [hg];simp_all [A3];refine gz4 ?_;refine dq (zfY (l:=1) ty9 rfl ⟨_,_,rfl,rfl⟩ rfl uO uO) ?_;refine gz3 ?_;refine ⟨_,?_,?_,⟨rfl,trivial⟩,uK,Ac _⟩
 refine ⟨by simp at ht⊢;omega,?_⟩
 rw [hg];simp_all [A3]
 dsimp only;simp
 obtain rfl:t=[]:=by simpa using h2
 refine gz2 ?_;refine zn ?_;refine gz7 ?_;refine zB rfl ?_
 show HVal.str _=_
 rw [hg];simp_all [A3]
theorem zhS [Tracks] {s l:Str} (hl:s.length<=1000000):ConP prog 219 [.str s,.vptr (asciiSet l) 0] (.str (zcy (l.contains ·) s)):=by
 refine uOb func219 ntmps219 ?_;refine gz5 ?_;refine uU1 [0,1,5,16] (fun (t:Str)=>[(0,.str t)]) (fun (t:Str)=>[]) (fun (t:Str)=>t.length<=s.length/\zcy (l.contains ·) s=zcy (l.contains ·) t) (fun (t:Str)=>t.length) (s) ?_ ?_;exact ⟨Ae _,rfl⟩;rintro t ⟨ht,hg⟩;refine gz6 ?_;refine uCo (fun h1=> ?_) fun h2=> ?_
 obtain ⟨u,x,rfl⟩: ∃u x,t=u++[x]:=⟨_,_,(Bi (by intro h0;subst h0;simp at h1)).symm⟩
 have hlen:(u++[x]).length=u.length+1:=by simp
 refine zat ?_;refine dq (zaA (j:=u.length) (b:=x) ty9 rfl rfl uO (by simp)) ?_;refine dq (uCl zvz rfl zdF) ?_;refine gz2 ?_;refine uCo (fun h3=> ?_) fun h4=> ?_
 refine gz3 ?_;refine zn ?_;refine gz7 ?_;refine zB rfl ?_
 show HVal.str _=_
 rw [hg];first|rfl|(rw [zeV,if_neg uSa])
 refine gz7 ?_;refine dq (zfY (l:=0) (h:=u.length) ty9 rfl rfl ⟨_,_,rfl,by omega⟩ uO uO) ?_;refine gz3 ?_;refine ⟨_,?_,?_,⟨rfl,trivial⟩,uK,Ac _⟩
 refine ⟨by simp at ht⊢;omega,?_⟩
 rw [hg,zeV,if_pos uSa];simp
 dsimp only;simp
 obtain rfl:t=[]:=by simpa using h2
 refine gz2 ?_;refine zn ?_;refine gz7 ?_;refine zB rfl ?_
 show HVal.str _=_
 rw [hg];first|rfl|(rw [zeV,if_neg uSa])
theorem zn2 [Tracks] {s l:Str} (hs:s.length<=1000000) (hl:l.length<=1000000) (h2l:2<=l.length) (ha: ∀c∈l,c.toNat<128):ConP prog 161 [.str s,.str l] (.str ((zcy (l.contains ·) s).dropWhile (l.contains ·))):=by
 refine uOb func161 ntmps161 ?_;refine zdz ?_;refine uCo (fun h1=> ?_) fun h2=> ?_
 refine gz5 ?_;refine zB rfl ?_
 show HVal.str _=_
 focus (rcases h1 with rfl|rfl<;>first|(simp at h2l;done)|(simp [zcy];done))
 refine gz9 ?_;refine uGr rfl (fun hc=>zaA (j:=0) (b:=l.headD 0) ty9 rfl rfl rfl (hd0 (by intro h0;subst h0;simp at h2l))) ?_;refine gz3 ?_;refine zaF rfl (fun h3=> ?_) (fun h3=> ?_)
 exfalso
 try simp at h3
 omega
 try simp at h3
 refine gz5 ?_;refine dq (uCl zyt rfl (ziZ (by assumption) (by assumption))) ?_;refine gz3 ?_;refine de rfl (zi ziJ rfl fun b5=> ?_)
 refine de0 (zo ziJ rfl rfl rfl rfl rfl ?_)
 refine gz2 ?_;refine zf (zp 5 rfl) ?_;refine gz3 ?_;refine zoL rfl ?_;refine gz2 ?_;refine dq (uCl zyv rfl (zhS (by assumption))) ?_;refine dq (uCl zyu rfl (zih (Ay (zo2 _ _) hs))) ?_;refine gz3 ?_;refine zB rfl ?_
 show HVal.str _=_
 rfl
theorem zfj [Tracks] {s:Str} {c:Int}:ConP prog 222 [.str s,.int .u8 c] (.int .i64 (Lib.indexByte s c.toNat.toUInt8)):=by
 refine uOb func222 ntmps222 ?_;refine gz6 ?_;refine dq (zpy func268 (by kernel_rfl) (by kernel_rfl) (by kernel_rfl) (by kernel_rfl) rfl rfl rfl) ?_;refine gz3 ?_;refine zB rfl ?_
 rfl
theorem zf9 [Tracks] {s:Str} {c:Int}:ConP prog 162 [.str s,.int .u8 c] (.int .i64 (Lib.indexByte s c.toNat.toUInt8)):=by
 refine uOb func162 ntmps162 ?_;refine gz6 ?_;refine dq (uCl zyw rfl zfj) ?_;refine gz3 ?_;refine zB rfl ?_
 rfl
theorem zb1 [Tracks] {n lo hi:Int}:ConP prog 99 [.int .i64 n,.int .i64 lo,.int .i64 hi] (.bool (!(out n lo hi))):=by
 refine uOb func99 ntmps99 ?_;refine zi6 ?_;refine zB rfl ?_
 show HVal.bool _=_
 congr 1;simp [out];rw [AK];simp;try omega
theorem zbd [Tracks] {s:Str} (hs:s.length<=1000000):ConP prog 97 [.str s] (.bool (key s)):=by
 refine uOb func97 ntmps97 ?_;refine gz6 ?_;refine dq (uCl zmD rfl zb1) ?_;refine gz2 ?_;refine uGr rfl (fun hc=>uCl zvo rfl (zn2 (l:=zfd) hs (by decide) (by decide) (by decide))) ?_;refine gz4 ?_;refine uGr rfl (fun hc=>zaA (j:=0) (b:=s.headD 0) ty9 rfl rfl rfl (hd0 (by rintro rfl;simp [out] at hc))) ?_;refine uGr rfl (fun hc=>uCl zvp rfl zf9) ?_;refine gz5 ?_;refine zB rfl ?_
 show HVal.bool _=_
 rw [zwb]
 simp [zfd,zhC]
theorem zft [Tracks] {n lo hi:Int}:ConP prog 159 [.int .i64 n,.int .i64 lo,.int .i64 hi] (.int .i64 (if out n lo hi then 1 else 0)):=by
 refine uOb func159 ntmps159 ?_;refine gz8 ?_;refine dq (uCl zmD rfl zb1) ?_;refine gz2 ?_;refine uCo (fun h1=> ?_) fun h2=> ?_
 refine gz4 ?_;refine uRp ?_
 simp_all
 refine gz6 ?_;refine uRp ?_
 simp_all
theorem zbZ [Tracks] {n:Int}:ConP prog 91 [.int .i64 n] (.int .i64 (if zY n then 0 else 1)):=by
 refine uOb func91 ntmps91 ?_;refine gz5 ?_;refine dq (uCl zvm rfl zft) ?_;refine gz3 ?_;refine uRp ?_;rw [zsu]
end
end Go.Proofs.YtaihpegdcgdcgaaGreatDoor
namespace Go.HL
section

end
section
open Op (bytesLess)
theorem zit (a b:Int):zX a b= -zX b a:=by
 unfold zX;split<;>split<;>(try split)<;>omega
theorem zer (a b:Str):zS a b= -zS b a:=by
 rw [zfA,zfA]
 rcases zb7 a b with h|h|h
 have hne:a≠b:=fun e=>by subst e;rw [zaB] at h;cases h
 simp [h,zbR h,hne.symm]
 subst h;simp [zaB];have hne:a≠b:=fun e=>by subst e;rw [zaB] at h;cases h
 simp [h,zbR h,hne]
theorem zqD (a b:Int):orI [-a,-b]= -orI [a,b]:=by
 by_cases h1:a=0<;>by_cases h2:b=0<;>simp [orI,h1,h2]
end
section
section
variable {α:Type} (c:α->α->Int)
def zkc (x:α):List α->List α
 |[]=>[x]
 |y::t=>if c x y<0 then y::zkc x t else x::y::t
def zcv (x:α) (S:List α):List α:=(zkc c x S.reverse).reverse
def zag (l:List α):List α:=l.foldl (fun S x=>zcv c x S) []
theorem zut (x:α):zcv c x []=[x]:=rfl
theorem zoQ (x y:α) (S:List α):zcv c x (S++[y])=if c x y<0 then zcv c x S++[y] else S++[y,x]:=by
 unfold zcv;rw [List.reverse_append];simp only [List.reverse_cons,List.reverse_nil,Bf,Bn,zkc]
 split<;>simp
theorem znl (l:List α) (x:α):zag c (l++[x])=zcv c x (zag c l):=by simp [zag,Bg]
theorem zlt (x:α): ∀l,(zkc c x l).Perm (x::l)
 |[]=> .refl _
 |y::t=>by
   simp only [zkc];split
   ·exact ((zlt x t).cons y).trans (.swap _ _ _)
   ·exact .refl _
theorem ztp (x:α) (S:List α):(zcv c x S).Perm (x::S):=by
 unfold zcv;exact (List.reverse_perm _).trans ((zlt c x _).trans ((List.reverse_perm S).cons x))
theorem zni: ∀(l S:List α),(l.foldl (fun S x=>zcv c x S) S).Perm (S++l)
 |[],S=>by simp
 |x::l,S=>by
   simp only [BR];refine (zni l _).trans ?_;refine ((ztp c x S).append_right l).trans ?_;exact (List.perm_middle (a:=x) (l₁:=S) (l₂:=l)).symm
theorem zbC (l:List α):(zag c l).Perm l:=by
 have:=zni c l []
 simpa [zag] using this
theorem zbi (l:List α):(zag c l).length=l.length:=(zbC c l).length_eq
theorem zlu {l:List α} {x:α}:x∈zag c l↔x∈l:=(zbC c l).mem_iff
structure Cmp (s:α->Prop):Prop where
 flip: ∀x y,s x->s y->(c x y<0↔0<c y x)
 trans: ∀x y z,s x->s y->s z->c x y<=0->c y z<=0->c x z<=0
variable {c}
theorem zmg {s:α->Prop} (hc:Cmp c s) {x:α} (hx:s x): ∀{l:List α},(∀y∈l,s y)->l.Pairwise (fun a b=>c b a<=0)->(zkc c x l).Pairwise (fun a b=>c b a<=0)
 |[],_,_=>by simp [zkc]
 |y::t,hs,hp=>by
   have hy:=hs y (by simp);have ht: ∀z∈t,s z:=fun z hz=>hs z (Av _ hz)
   obtain ⟨h1,h2⟩:=List.pairwise_cons.1 hp;simp only [zkc]
   split
   rename_i hlt
   refine List.pairwise_cons.2 ⟨fun z hz=> ?_,zmg hc hx ht h2⟩
   rcases List.mem_cons.1 ((zlt c x t).mem_iff.1 hz) with rfl|hz
   omega
   exact h1 z hz
   rename_i hge
   have hyx:c y x<=0:=by
    have:=(hc.flip x y hx hy)
    omega
   refine List.pairwise_cons.2 ⟨fun z hz=> ?_,hp⟩
   rcases List.mem_cons.1 hz with rfl|hz
   exact hyx;exact hc.trans z y x (ht z hz) hy hx (h1 z hz) hyx
theorem zra {s:α->Prop} (hc:Cmp c s) {x:α} (hx:s x) {l:List α} (hs: ∀y∈l,s y) (hp:l.Pairwise (fun a b=>c a b<=0)):(zcv c x l).Pairwise (fun a b=>c a b<=0):=by
 unfold zcv;rw [List.pairwise_reverse];exact zmg hc hx (fun y hy=>hs y (List.mem_reverse.1 hy)) (List.pairwise_reverse.2 hp)
theorem zh2 {s:α->Prop} (hc:Cmp c s) {l:List α} (hs: ∀y∈l,s y):(zag c l).Pairwise (fun a b=>c a b<=0):=by
 have key: ∀(n:Nat),n<=l.length->(zag c (l.take n)).Pairwise (fun a b=>c a b<=0):=by
  intro n
  induction n with
  |zero=>intro _;simp [zag]
  |succ n ih=>
    intro hn
    have hx:=Aa (l:=l) (i:=n) (by omega);rw [zaj hx,znl];exact zra hc (hs _ (Ab hx)) (fun y hy=>hs y (AR ((zbC c _).mem_iff.1 hy))) (ih (by omega))
 have:=key l.length (Ae _)
 rwa [Ap] at this
end
end
section
abbrev pAt (b:Nat):HVal:= .raw (.pointer (some ⟨b,0,none⟩))
abbrev St (b:Nat) (l:List Int) (a:Nat):MObj:= .cells b [.slice 1 (l.map (.int .i64)),.int .i64 (a:Int)]
def below (x n:Int):Int:=if n<1 then 0 else if x.tmod n<0 then x.tmod n+n else x.tmod n
theorem zkW (x n:Int): ∃y:Nat,below x n=(y:Int)/\(y:Int)<max n 1:=by
 have h:0<=below x n/\below x n<max n 1:=by
  unfold below
  split
  omega
  have h1:=BT x (show 0<n by omega);have h2: -n<x.tmod n:=by
   have:=Int.neg_lt_tmod_of_pos' x n (by omega);exact this
  split<;>omega
 exact ⟨(below x n).toNat,by omega,by omega⟩
where
 Int.neg_lt_tmod_of_pos' (x n:Int) (h:0<n): -n<x.tmod n:=by
  rcases Int.le_total 0 x with hx|hx
  have:=Int.tmod_nonneg n hx;omega;have e:x.tmod n= -((-x).tmod n):=by rw [Int.neg_tmod];simp
  have:=BT (-x) h
  omega
theorem getI {L:List Int} {y:Nat} (h:(y:Int)<max (L.length:Int) 1) (h0:0<L.length): ∃z,L[y]? =some z/\z∈L:=
 ⟨L[y]'(by omega),Aa _,Bu _⟩
theorem getS {L:List Str} {y:Nat} (h:(y:Int)<max (L.length:Int) 1) (h0:0<L.length): ∃z,L[y]? =some z/\z∈L:=
 ⟨L[y]'(by omega),Aa _,Bu _⟩
theorem zqU (a b:Nat):((a:Int)).tmod (b:Int)=((a%b:Nat):Int):=by
 exact (Int.ofNat_tmod a b).symm
end
section

end
section
open Op (bytesLess)
end
section
def Sh (s:Str):Prop:=s.length<=1000000
structure KLs where
 u:Value
 out:List Keep
 lv:Value
 left:List Str
 a:Nat
structure KLok (n a:Nat) (q:KLs):Prop where
 out:q.out.length<=n
 left:q.left.length<=20
 ls: ∀s∈q.left,Sh s
 os: ∀x∈q.out,Sh x.Team/\Sh x.Player
 a:q.a<=a+2*n
theorem KLok.add {n a:Nat} {u u' lv lv':Value} {out:List Keep} {left:List Str} {a1 a2 k:Nat} {t p:Str} {rd:Int} (h:KLok n a ⟨u,out,lv,left,a1⟩) (h1:a2<=a1+2) (ht:Sh t) (hp:left[k]? =some p):
 KLok (n+1) a ⟨u',out++[⟨t,p,rd⟩],lv',left.eraseIdx k,a2⟩:=
 ⟨by have:=h.out;simp at*;omega,by have:=h.left;have:=List.length_eraseIdx_le left k;dsimp only at*;omega,fun s hs=>h.ls s (List.mem_of_mem_eraseIdx hs),fun x hx=>by
  rcases List.mem_append.1 hx with hx|hx
  exact h.os x hx
  simp at hx;subst hx;exact ⟨ht,h.ls p (Ab hp)⟩,by have:=h.a;dsimp only at*;omega⟩
theorem zay {α:Type} {l:List α} {j:Nat} {x y:α} (h:l[j]? =some y):(l.set j x)[j]? =some x:=by
 rw [Bk (zl h)]
theorem zaY {α β:Type} {f:α->β} {l:List α} {j:Nat} {x:α} (h:l[j]? =some x):(l.map f)[j]? =some (f x):=by
 rw [Ag,h];rfl
theorem zst {α:Type} {l:List α} {j:Nat} {x y:α} (h:x∈l.set j y):x=y\/x∈l:=by
 rcases BS h with h|h
 exact .inr h;exact .inl h
structure SLs where
 u:Value
 out:List Swap
 row:List Str
 a:Nat
structure SLok (n a:Nat) (q:SLs):Prop where
 out:q.out.length<=n
 row:q.row.length<=4
 rs: ∀s∈q.row,Sh s
 os: ∀x∈q.out,Sh x.Of/\Sh x.Team
 a:q.a<=a+2*n
theorem SLok.mono {n m a:Nat} {q:SLs} (h:SLok n a q) (hm:n<=m):SLok m a q:=
 ⟨by have:=h.out;omega,h.row,h.rs,h.os,by have:=h.a;omega⟩
theorem KLok.mono {n m a:Nat} {q:KLs} (h:KLok n a q) (hm:n<=m):KLok m a q:=
 ⟨by have:=h.out;omega,h.left,h.ls,h.os,by have:=h.a;omega⟩
theorem SLok.add {n a:Nat} {u u':Value} {out:List Swap} {row:List Str} {a1 a2:Nat} {t p:Str} {rd:Int} (h:SLok n a ⟨u,out,row,a1⟩) (h1:a2<=a1+2) (ht:Sh t) (hp:Sh p):
 SLok (n+1) a ⟨u',out++[⟨rd,t,p⟩],row,a2⟩:=
 ⟨by have:=h.out;simp at*;omega,h.row,h.rs,fun x hx=>by
  rcases List.mem_append.1 hx with hx|hx
  exact h.os x hx
  simp at hx;subst hx;exact ⟨ht,hp⟩,by have:=h.a;dsimp only at*;omega⟩
end
section
open Op (bytesLess)
structure Asset where
 Player:Str
 Position:Str
 Value:Int
structure Place where
 Position:Str
 Many:Int
abbrev zbh (x:Asset):HVal:= .agg [.str x.Player,.str x.Position,.int .i64 x.Value]
abbrev zwR (x:Place):HVal:= .agg [.str x.Position,.int .i64 x.Many]
abbrev zhy (l:List Asset):HVal:= .slice 3 (l.map zbh)
abbrev zlR (l:List Place):HVal:= .slice 2 (l.map zwR)
def zkV:Asset:=⟨[],[],0⟩
def zqG:Place:=⟨[],0⟩
def assetFault (x:Asset):Int:=if !(key x.Player)|| !(key x.Position) then 5 else if out x.Value (-1000000) 1000000 then 1 else 0
def zdI (l:List Asset):Nat->List Asset->Int
 |_,[]=>0
 |k,x::t=>if assetFault x !=0 then assetFault x else if decide (0<k)&&leS x.Player (l.getD (k-1) zkV).Player then 7 else zdI l (k+1) t
def zcB (l:List Asset):Int:=if 300<l.length then 2 else zdI l 0 l
def zdn (l:List Place):Nat->List Place->Int
 |_,[]=>0
 |k,x::t=>if !(key x.Position) then 5 else if out x.Many 0 12 then 1 else if decide (0<k)&&leS x.Position (l.getD (k-1) zqG).Position then 7 else zdn l (k+1) t
def zcC (l:List Place):Int:=if 10<l.length then 2 else zdn l 0 l
def byValue (a b:Asset):Int:=orI [zX b.Value a.Value,zS a.Player b.Player]
def zfH (l:List Asset) (pos:Str):List Asset:=l.filter (fun x=>x.Position==pos)
def ofP (l:List Asset) (pos:Str):List Asset:=zag byValue (zfH l pos)
def zeq (o:List Asset) (zfV:Int):List Asset:=(o.take (min zfV o.length).toNat).filter (fun y=>decide (0<y.Value))
def zal (of:Str->List Asset) (p:List Place):List Asset:=p.flatMap fun x=>zeq (of x.Position) x.Many
def zdC (l:List Asset):Int:=(l.map (·.Value)).sum
def znr (l:List Asset):List Str:=za3 (l.map (·.Player))
theorem zmV {l:List Asset} {k:Nat} {x:Asset} {pos:Str} (h:l[k]? =some x):zfH (l.take (k+1)) pos=zfH (l.take k) pos++if x.Position==pos then [x] else []:=by
 rw [zaj h];unfold zfH;rw [BE]
 by_cases hx:x.Position==pos<;>simp [hx]
theorem zmr (l:List Asset) (pos:Str):(zfH l pos).length<=l.length:=AW _ _
theorem zwi (l:List Asset) (pos:Str):(ofP l pos).length<=l.length:=by unfold ofP;rw [zbi];exact zmr l pos
end
section
open Op (bytesLess)
theorem zuz {l:List Asset} {k:Nat}:(l.map (·.Player)).getD k []=(l.getD k zkV).Player:=by
 by_cases h:k<l.length
 simp [List.getD,Aa h]
 simp [List.getD,Ax (Nat.le_of_not_lt h),zkV]
theorem zkx {x:Asset} (h:assetFault x=0):key x.Player=true/\key x.Position=true/\ -1000000<=x.Value/\x.Value<=1000000:=by
 unfold assetFault at h
 by_cases h1:(!(key x.Player)|| !(key x.Position))=true
 rw [if_pos h1] at h;omega;rw [if_neg h1] at h
 by_cases h2:out x.Value (-1000000) 1000000=true
 rw [if_pos h2] at h;omega;have:=zeT (by simpa using h2)
 simp at h1
 exact ⟨h1.1,h1.2,this.1,this.2⟩
theorem zme (l:List Asset): ∀(t:List Asset) (k:Nat),zdI l k t=0->zbr (l.map (·.Player)) k (t.map (·.Player))=0/\∀x∈t,assetFault x=0
 |[],_,_=>⟨rfl,fun x h=>by cases h⟩
 |x::t,k,h=>by
   simp only [zdI] at h
   by_cases h1:assetFault x=0
   rw [if_neg (by simpa using h1)] at h
   by_cases h2:(decide (0<k)&&leS x.Player (l.getD (k-1) zkV).Player)=true
   rw [if_pos h2] at h;omega;rw [if_neg h2] at h;obtain ⟨h3,h4⟩:=zme l t (k+1) h;refine ⟨?_,fun y hy=> ?_⟩
   simp only [Ar,zbr,zuz];rw [if_neg (by simp [(zkx h1).1]),if_neg h2];exact h3
   rcases List.mem_cons.1 hy with rfl|hy
   exact h1;exact h4 y hy;rw [if_pos (by simpa using h1)] at h;exact absurd h h1
theorem zn5 {l:List Asset} (h:zcB l=0):SortedS (l.map (·.Player))/\∀x∈l,assetFault x=0:=by
 unfold zcB at h
 split at h
 omega
 obtain ⟨h1,h2⟩:=zme l l 0 h;exact ⟨zjE (by simpa [zdA] using h1),h2⟩
theorem zmj (l:List Place): ∀(t:List Place) (k:Nat),zdn l k t=0->∀x∈t,0<=x.Many/\x.Many<=12
 |[],_,_=>fun x h=>by cases h
 |x::t,k,h=>by
   simp only [zdn] at h
   by_cases h1:(!(key x.Position))=true
   rw [if_pos h1] at h;omega;rw [if_neg h1] at h
   by_cases h2:out x.Many 0 12=true
   rw [if_pos h2] at h;omega;rw [if_neg h2] at h
   by_cases h3:(decide (0<k)&&leS x.Position (l.getD (k-1) zqG).Position)=true
   rw [if_pos h3] at h;omega;rw [if_neg h3] at h
   intro y hy
   rcases List.mem_cons.1 hy with rfl|hy
   exact zeT (by simpa using h2);exact zmj l t (k+1) h y hy
theorem zn6 {l:List Place} (h:zcC l=0):(∀x∈l,0<=x.Many/\x.Many<=12)/\l.length<=10:=by
 unfold zcC at h
 split at h
 omega
 exact ⟨zmj l l 0 h,by omega⟩
theorem zlQ {a b:Str}:zS a b<=0↔bytesLess b a=false:=by
 rw [zfA]
 rcases zb7 a b with h|h|h
 simp [h,zbR h]
 subst h;simp [zaB];have hne:a≠b:=fun e=>by subst e;rw [zaB] at h;cases h
 simp [h,zbR h,hne]
theorem zcb {a b:Str}:zS a b=0↔a=b:=by
 rw [zfA]
 rcases zb7 a b with h|h|h
 have hne:a≠b:=fun e=>by subst e;rw [zaB] at h;cases h
 simp [h,hne]
 subst h;simp [zaB];have hne:a≠b:=fun e=>by subst e;rw [zaB] at h;cases h
 simp [zbR h,hne]
theorem zhi {a b c:Str} (h1:zS a b<=0) (h2:zS b c<=0):zS a c<=0:=by
 rw [zlQ] at*
 rcases zb7 a b with h|h|h
 rcases zb7 b c with h'|h'|h'
 exact zbR (zdg h h');subst h';exact zbR h;rw [h'] at h2;cases h2;subst h;exact h2;rw [h] at h1;cases h1
theorem zey (a b:Int):orI [a,b]=if a≠0 then a else b:=by
 simp only [orI]
 by_cases ha:a=0<;>by_cases hb:b=0<;>simp [ha,hb]
theorem zro {a b:Int}:zX a b<=0↔a<=b:=by unfold zX;split<;>(try split)<;>omega
theorem zcD {a b:Int}:zX a b=0↔a=b:=by unfold zX;split<;>(try split)<;>omega
end
section
variable {P:Program}
section
variable {P:Program} {e:Env} {dst:Option Tmp} {ty:TypeId} {pos:String} {af:Array Edge} {g:Option (Nat×Bool)} {M:List MObj} {K:HVal->List MObj->Prop}
theorem zR [Tracks] {α:Type} {f:α->HVal} {x:Operand} {t:TypeId} {d:TD} {size bytes:Nat} {zero:Value} {i b off cap n sz j o:Nat} {es:List α} {y:α} (hf:Fits P t d size bytes zero)
 (hx:ze e x=some (.raw (.pointer (some ⟨b,o,none⟩)))) (ho':o=off+j*sz) (hm:M[i]? =some (.arr (.slice (some ⟨b,off,none⟩) n cap) sz (es.map f))) (hj:es[j]? =some y)
 (hd:d.isAgg=true) (hs:size=(zb (f y)).length) (hv:f y= .agg (zb (f y))) (hk:K (f y) M):EOp P e M ⟨dst,.load t x,ty,pos,af,g⟩ K:=
 zfN (j:=j) (f:=0) (y:=f y) hf hx (by omega) hm (by rw [Ag,hj];rfl) (.inr ⟨hd,by omega,by rw [BW,hs,Ap];exact hv⟩) hk
theorem zaP [Tracks] {α:Type} {f:α->HVal} {x z:Operand} {t:TypeId} {d:TD} {size bytes:Nat} {zero:Value} {i b off cap n sz j o:Nat} {es:List α} {y y':α} (hf:Fits P t d size bytes zero)
 (hx:ze e x=some (.raw (.pointer (some ⟨b,o,none⟩)))) (ho':o=off+j*sz) (hz:ze e z=some (f y')) (hm:M[i]? =some (.arr (.slice (some ⟨b,off,none⟩) n cap) sz (es.map f))) (hj:es[j]? =some y)
 (hok:zdh size (f y')=true) (hfl:zas (zb (f y'))=true) (hle:(zb (f y')).length=(zb (f y)).length)
 (hk:K .junk (M.set i (.arr (.slice (some ⟨b,off,none⟩) n cap) sz ((es.set j y').map f)))):EOp P e M ⟨dst,.store t x z,ty,pos,af,g⟩ K:=by
 have h0:=(zcX hok).1;refine zO (j:=j) (f:=0) (y:=f y) (y':=f y') hf hx (by omega) hz hm (by rw [Ag,hj];rfl) hok hfl (by omega) ?_ ?_;rw [zqO hle];rw [List.map_set] at hk;exact hk
end
theorem Sat.arr_take [Tracks] {I:Imm} {F:List MObj} {w:World} {b off n cap sz m:Nat} {es:List HVal} (hm:m<=es.length) (h:Sat P I (.arr (.slice (some ⟨b,off,none⟩) n cap) sz es::F) w):
 Sat P I (.arr (.slice (some ⟨b,off,none⟩) m cap) sz (es.take m)::F) w:=by
 obtain ⟨_,rc,el,fr,h2,h3,h4,h5,h6,h7⟩:=zhG h;refine h.change (m':= .arr (.slice (some ⟨b,off,none⟩) m cap) sz (es.take m)) (fun _ _ _=>rfl) (fun c hc=> .inl hc) (by simp [MObj.blocks]) ?_ rfl rfl rfl
 have hl:(es.take m).length=m:=by simp;omega
 refine .inr ⟨b,off,cap,rc,el,fr,by rw [hl],h2,h3,fun e he=>h4 e (AR he),by omega,h6,fun i j e c v a1 a2 a3=> ?_⟩
 have hi:=zl a1;rw [AC (by omega)] at a1;exact h7 i j e c v a1 a2 a3
theorem Ghost.take [Tracks] {e:Env} {M:List MObj} {b off n cap sz m:Nat} {es:List HVal} (hm:m<=es.length):Ghost e (.arr (.slice (some ⟨b,off,none⟩) n cap) sz es::M) e (.arr (.slice (some ⟨b,off,none⟩) m cap) sz (es.take m)::M):=
 fun _ I F tmps w h1 h2=>⟨I,.refl I,h1,h2.arr_take hm⟩
def zgB (cap off sz lo:Nat):Nat:=if cap=lo then off else off+lo*sz
section
variable {P:Program} {e:Env} {dst:Option Tmp} {ty:TypeId} {pos:String} {af:Array Edge} {g:Option (Nat×Bool)} {M:List MObj} {K:HVal->List MObj->Prop}
theorem zeB [Tracks] {x:Operand} {lo hi:Option Operand} {t el:TypeId} {size bytes sz b2:Nat} {zero z2:Value} {d:TD} {b off n cap l h:Nat}
 (hf:Fits P t (.slice el) size bytes zero) (hel:Fits P el d sz b2 z2) (hx:ze e x=some (.raw (.slice (some ⟨b,off,none⟩) n cap))) (hlo:zba e lo 0 l) (hhi:zba e hi n h) (h1:l<=h) (h2:h<=n) (hc:n<=cap):
 POp P e ⟨dst,.slice t x lo hi none,ty,pos,af,g⟩ (.raw (.slice (some ⟨b,zgB cap off sz l,none⟩) (h-l) (cap-l))):=
 zw fun I a w ho=>by
  have h3:=(ho.one (x:=x) (by simp [Op.operands]) hx).raw_inv;have hb:(Instr.sliceBounds true n cap (Option.map a.eval lo) (Option.map a.eval hi) none).run P w= .ok (l,h,cap) w:=
   zhs (P:=P) (e:=e) (lo:=lo) (hi:=hi) (l:=l) (h:=h) (len:=n) (cap:=cap) ho (by intro y hy;simp [Op.operands,hy]) (by intro y hy;simp [Op.operands,hy]) hlo hhi h1 h2 hc true w
  refine ⟨_,?_,.raw _ rfl⟩
  simp [execOp,Instr.sliceAt,run_underlying hf.slice,h3,Instr.slice,hb,hel.run_sizeOf,zgB]
  try (split<;>simp_all [zcO])
  try omega
theorem zes [Tracks] {x:Operand} {t el:TypeId} {size bytes sz b2:Nat} {zero z2:Value} {d:TD} {i b off n cap m q o c2:Nat} {es:List HVal} (m':Nat)
 (hf:Fits P t (.slice el) size bytes zero) (hel:Fits P el d sz b2 z2) (hz:z2.cells.size=sz) (hz1:z2.cells.toList.all Value.oneCell'=true)
 (hx:ze e x=some (.raw (.slice (some ⟨b,o,none⟩) q c2))) (ho':q=0\/o=off+m*sz) (hm:M[i]? =some (.arr (.slice (some ⟨b,off,none⟩) n cap) sz es)) (hmq:m+q<=cap) (hmm:m'<=m) (hme:m'<=es.length)
 (hk:K .junk (M.set i (.arr (.slice (some ⟨b,off,none⟩) m' cap) sz (es.take m')))):EOp P e M ⟨dst,.call ⟨.builtin .clear,#[x],#[t]⟩,ty,pos,af,g⟩ K:=
 EOp.of_run fun I F a w ho hs=>by
  have h1:=(ho.one (x:=x) (by simp [Op.operands,Call.operands]) hx).raw_inv;have hp:=hs.pull hm;obtain ⟨_,rc,el',fr,h2,h3,h4,h5,h6,h7⟩:=zhG hp;have hrun:(execOp a.eval ⟨dst,.call ⟨.builtin .clear,#[x],#[t]⟩,ty,pos,af,g⟩).run P w=((Builtin.clear_ #[t] ty #[a.eval x]).run P w).andThen fun v w=> .ok (.value v) w:=by
   simp [execOp,resolve,invoke,builtin]
  rcases A0 q with h0|h0
  refine ⟨.tuple #[],.junk,_,w,I,?_,.refl I,hk,.junk _,?_⟩
  rw [hrun,h1,h0]
  simp [Builtin.clear_,run_underlying hf.slice]
  exact zbc hm (hp.arr_take hme);have hso:o=off+m*sz:=by rcases ho' with h|h;omega;exact h
  have hmul:(m+q)*sz<=cap*sz:=Au _ hmq;rw [AP] at hmul;have hlen:(Builtin.zeroCells z2.cells q).toList.length=q*sz:=by rw [AN,zjK,hz]
  have hone: ∀v∈(Builtin.zeroCells z2.cells q).toList,v.oneCell'=true:=fun v hv=>by
   simp only [Builtin.zeroCells,Array.toList_map,List.mem_map] at hv;obtain ⟨r,hr,rfl⟩:=hv;have hq':r<q*z2.cells.size:=by simpa using hr
   have hpos:0<z2.cells.size:=by
    rcases A0 z2.cells.size with h|h
    rw [h] at hq';simp at hq';exact h
   have hlt:r%z2.cells.size<z2.cells.size:=BM _ hpos;rw [getElem!_pos z2.cells _ hlt];exact List.all_eq_true.1 hz1 _ (by simp)
  obtain ⟨w',rc',g1,g2,g3,g4,g5,g6,g7,g8,g9⟩:=zdB (P:=P) b el' fr (off+m*sz) (Builtin.zeroCells z2.cells q).toList 0 w rc h2 h3 hone (by rw [hlen];omega);refine ⟨.tuple #[],.junk,_,w',I,?_,.refl I,hk,.junk _,?_⟩
  rw [hrun,h1,hso];obtain ⟨r,rfl⟩: ∃r,q=r+1:=⟨q-1,by omega⟩
  simp [Builtin.clear_,run_underlying hf.slice,hel.run_zero,g1]
  refine zbc hm (hp.change (m':= .arr (.slice (some ⟨b,off,none⟩) m' cap) sz (es.take m')) (fun k hk hnk=>g5 k (by simpa [MObj.blocks] using hnk)) (fun k hk=> .inl hk) (by simp [MObj.blocks]) ?_ g7 g8 g9.1 (fun _=>Ca g9.2.symm))
  have hl:(es.take m').length=m':=by simp;omega
  refine .inr ⟨b,off,cap,rc',el',fr,by rw [hl],g2,by rw [g3];exact h3,fun e he=>h4 e (AR he),by omega,by rw [g3];exact h6,fun p q' y c v a1 a2 a3=> ?_⟩
  have hi:=zl a1;rw [AC (by omega)] at a1;have hq:=zl a2;rw [h4 y (Ab a1)] at hq;have hpm:(p+1)*sz<=m*sz:=Au _ (by omega);rw [AP] at hpm;rw [g4,if_neg (by omega)] at a3;exact h7 p q' y c v a1 a2 a3
theorem zri [Tracks] {I:Imm} {a:Act} {o:Oper} (ho:Opds I e a o) {lo hi:Option Operand} (hlo: ∀x,lo=some x->x∈o.op.operands) (hhi: ∀x,hi=some x->x∈o.op.operands)
 {len cap l h:Nat} (h1:zba e lo 0 l) (h2:zba e hi len h) (h3:l<=h) (h4:h<=cap) (b:Bool) (w:World):
 (Instr.sliceBounds b len cap (lo.map a.eval) (hi.map a.eval) none).run P w= .ok (l,h,cap) w:=by
 unfold Instr.sliceBounds
 cases lo with
 |none=>
   simp only [zba] at h1;subst h1
   cases hi with
   |none=>simp only [zba] at h2;subst h2;simp
   |some y=>
     obtain ⟨k,i,h6,rfl⟩:=h2;have h7:=(ho.one (hhi y rfl) h6).int_inv
     simp [h7,zbI h4]
 |some x=>
   obtain ⟨k',i',h8,rfl⟩:=h1;have h9:=(ho.one (hlo x rfl) h8).int_inv
   cases hi with
   |none=>simp only [zba] at h2;subst h2;simp [h9,zbI h3]
   |some y=>
     obtain ⟨k,i,h6,rfl⟩:=h2;have h7:=(ho.one (hhi y rfl) h6).int_inv
     simp [h7,h9,zbI h4,zbI h3]
theorem zsC [Tracks] {x:Operand} {lo hi:Option Operand} {t el:TypeId} {size bytes sz b2:Nat} {zero z2:Value} {d:TD} {b off n cap l h:Nat}
 (hf:Fits P t (.slice el) size bytes zero) (hel:Fits P el d sz b2 z2) (hx:ze e x=some (.raw (.slice (some ⟨b,off,none⟩) n cap))) (hlo:zba e lo 0 l) (hhi:zba e hi n h) (h1:l<=h) (h2:h<=cap):
 POp P e ⟨dst,.slice t x lo hi none,ty,pos,af,g⟩ (.raw (.slice (some ⟨b,zgB cap off sz l,none⟩) (h-l) (cap-l))):=
 zw fun I a w ho=>by
  have h3:=(ho.one (x:=x) (by simp [Op.operands]) hx).raw_inv;have hb:(Instr.sliceBounds true n cap (Option.map a.eval lo) (Option.map a.eval hi) none).run P w= .ok (l,h,cap) w:=
   zri (P:=P) (e:=e) (lo:=lo) (hi:=hi) (l:=l) (h:=h) (len:=n) (cap:=cap) ho (by intro y hy;simp [Op.operands,hy]) (by intro y hy;simp [Op.operands,hy]) hlo hhi h1 h2 true w
  refine ⟨_,?_,.raw _ rfl⟩
  simp [execOp,Instr.sliceAt,run_underlying hf.slice,h3,Instr.slice,hb,hel.run_sizeOf,zgB]
  try (split<;>simp_all [zcO])
  try omega
theorem zfZ [Tracks] {x:Operand} {hi:Option Operand} {t el:TypeId} {size bytes sz b2:Nat} {zero z2:Value} {d:TD} {b off n cap h:Nat}
 (hf:Fits P t (.slice el) size bytes zero) (hel:Fits P el d sz b2 z2) (hx:ze e x=some (.raw (.slice (some ⟨b,off,none⟩) n cap))) (hhi:zba e hi n h) (h2:h<=cap):
 POp P e ⟨dst,.slice t x none hi none,ty,pos,af,g⟩ (.raw (.slice (some ⟨b,off,none⟩) h cap)):=by
 have:=zsC (P:=P) (dst:=dst) (ty:=ty) (pos:=pos) (af:=af) (g:=g) (lo:=none) (l:=0) hf hel hx rfl hhi (Ad _) h2;have e1:zgB cap off sz 0=off:=by unfold zgB;split<;>omega
 rwa [e1,Nat.sub_zero,Nat.sub_zero] at this
end
end
section
variable {P:Program}
open Go.ChangeShapes Go.WideShapes Go.RowKit
theorem zkX [Tracks] {W W':World} {J:Imm} {M:List MObj} (hl:Le (zbK W) J) (hs:Sat P J M W'):Below W.heap.size W W':=by
 have hb: ∀k,k<W.heap.size->W'.heap[k]? =W.heap[k]?:=fun k hk=>by
  have h1:W.heap[k]? =some W.heap[k]:=by simp [hk]
  rw [h1];exact hs.imm _ _ (hl.heap _ _ h1)
 exact {
  os:=hs.os.trans hl.os
  tape:=hs.tape.trans hl.tape
  output:=hs.output.trans hl.output
  size:=by
   rcases A0 W.heap.size with h|h
   omega
   have h1:=hb (W.heap.size-1) (by omega);have h2:W.heap[W.heap.size-1]? =some (W.heap[W.heap.size-1]'(by omega)):=by simp
   rw [h2] at h1
   rcases Az (W.heap.size-1) W'.heap.size with h3|h3
   omega
   rw [Aj h3] at h1;cases h1
  block:=hb}
theorem zrN [Tracks] {W:World} (ht:TabI P (zbK W)):Sat P (zbK W) [] W:=⟨fun _ _ h=>h,fun _ h=>by simp at h,by simp [blocks],fun _ h=>by simp [blocks] at h,rfl,rfl,rfl,ht,fun _=>Ae _⟩
theorem zqj [Tracks] {P:Program} {f:FuncId} {l:List Int} (hc:ConP P f [.slice 1 (l.map (.int .i64))] (.bool true)) {W:World} (ht:TabI P (zbK W)) {v:Value} (hv:V (zbK W) (.slice 1 (l.map (.int .i64))) v):
 Calls P f #[v] W fun e W'=>e= .returned (.bool true)/\Below W.heap.size W W':=by
 refine (hc (zbK W) [] W [v] (VL.cons hv VL.nil) (zrN ht)).mono ?_;rintro e W' ⟨u,h,M',J,rfl,hle,⟨rfl,rfl⟩,hV,hs⟩;exact ⟨by rw [hV.bool_inv],zkX hle hs⟩
theorem zxi [Tracks] {W:World} {a:Addr} {len cap:Nat} {zs:List Int} (hcell: ∀i,i<zs.length->W.cell? (a.add i)=some (.int .i64 (zs.getD i 0))) (hl:len<=zs.length) (hc:len<=cap):
 V (zbK W) (.slice 1 ((zs.take len).map (.int .i64))) (.slice (some a) len cap):=by
 rcases A0 len with h0|h0
 subst h0;exact .slice0 _ _ _;obtain ⟨b,off,rfl,hj⟩:=ints_at hcell (by omega);have hc0:=hj 0 (by omega);unfold World.cell? at hc0
 cases hh:W.heap[b]? with
 |none=>rw [hh] at hc0;simp at hc0
 |some o=>
   cases o with
   |cells rc el fr=>
     have hrc: ∀j,j<zs.length->rc[off+j]? =some (.int .i64 (zs.getD j 0)):=fun j hj'=>by
      have:=hj j hj';unfold World.cell? at this
      simpa [hh] using this
     have hlen:((zs.take len).map (HVal.int .i64)).length=len:=by simp;omega
     have hsz:off+zs.length<=rc.size:=by
      have:=hrc (zs.length-1) (by omega)
      rcases Az (off+(zs.length-1)) rc.size with h3|h3
      omega
      rw [Aj h3] at this;cases this
     have:=V.slice (I:=zbK W) (sz:=1) (es:=(zs.take len).map (.int .i64)) (b:=b) (off:=off) (cap:=cap) (rc:=rc) (el:=el) (fr:=fr) hh
      (fun e he=>by obtain ⟨n,_,rfl⟩:=List.mem_map.1 he;rfl) (by omega) (by omega) (fun i j e c v h1 h2 h3=>by
        have hi:=zl h1;rw [hlen] at hi;rw [Ag,AC hi] at h1;have e1:zs[i]? =some zs[i]:=Aa (by omega);rw [e1] at h1;simp only [AG,As] at h1;subst h1
        cases j with
        |succ j=>simp [zb] at h2
        |zero=>
          simp only [zb,AU,As] at h2;subst h2;have h4:=hrc i (by omega);rw [Nat.mul_one,Bw,h4] at h3;simp only [As] at h3;subst h3;have:zs.getD i 0=zs[i]:=by simp [List.getD,e1]
          rw [this];exact .int _ _)
     rw [hlen] at this;exact this
   |_=>rw [hh] at hc0;simp at hc0
end
section
open Go.Sort Go.Proofs Go.RowKit
variable {P:Program}
theorem zod {w:World} {name:String} {d:DataW Unit}: ∀{laid:List (String×DataW Unit)} {ps:List MemPlace},DataW.LaidVars P w laid ps->∀(i:Nat),laid[i]? =some (name,d)->
 ∃g t cs fuel p,P.globalNamed name=some g/\(P.globals[g]?).map (·.type)=some t/\w.var? P name=some cs/\DataW.trod (fun _=>()) P w 0 (fun _=>true) false fuel t cs.toList=some (d,p)
 |[],_,_,i,h=>by simp at h
 |(n,x)::r,ps,h,0,hi=>by
   simp at hi
   obtain ⟨rfl,rfl⟩:=hi;obtain ⟨g,t,cs,fuel,p,q,h1,h2,h3,h4,_,_⟩:=h;exact ⟨g,t,cs,fuel,p,h1,h2,h3,h4⟩
 |(n,x)::r,ps,h,i+1,hi=>by
   obtain ⟨g,t,cs,fuel,p,q,_,_,_,_,h5,_⟩:=h;exact zod h5 i (by simpa using hi)
theorem Sat.maxLen [Tracks] {I:Imm} {M:List MObj} {w:World} (hs:Sat P I M w) {g:Nat} (hg:P.globalNamed "internal/bytealg.MaxLen" =some g): ∃m,w.cell? ⟨g,0,none⟩=some (.int .i64 m):=by
 obtain ⟨c,t,fr,m,h1,h2⟩:=hs.tab.2.1 g hg;have h3:=hs.imm _ _ h1;exact ⟨m,by rw [zbu h3];exact h2⟩
theorem Sat.utf8 [Tracks] {I:Imm} {M:List MObj} {w:World} (hs:Sat P I M w) {g3 g4:Nat} (h3:P.globalNamed "unicode/utf8.first" =some g3) (h4:P.globalNamed "unicode/utf8.acceptRanges" =some g4):
 (∀c,c<256->w.cell? ⟨g3,c,none⟩=some (.int .u8 (Lib.firstT c)))/\(∀i,i<16->w.cell? ⟨g4,2*i,none⟩=some (.int .u8 (Lib.accLo i))/\w.cell? ⟨g4,2*i+1,none⟩=some (.int .u8 (Lib.accHi i))):=by
 obtain ⟨c3,t3,f3,c4,t4,f4,e3,e4,u1,u2⟩:=hs.tab.2.2 g3 g4 h3 h4;exact ⟨fun c hc=>by rw [zbu (hs.imm _ _ e3)];exact u1 c hc,fun i hi=>⟨by rw [zbu (hs.imm _ _ e4)];exact (u2 i hi).1,by rw [zbu (hs.imm _ _ e4)];exact (u2 i hi).2⟩⟩
theorem Sat.lt [Tracks] {I:Imm} {M:List MObj} {w:World} (hs:Sat P I M w):(∀b,(∃o,I.heap b=some o)->b<w.heap.size)/\∀b∈blocks M,b<w.heap.size:=by
 have key: ∀b o,w.heap[b]? =some o->b<w.heap.size:=fun b o h=>by
  rcases Az b w.heap.size with h'|h'
  exact h'
  simp [Aj h'] at h
 refine ⟨fun b ⟨o,h⟩=>key b o (hs.imm b o h),fun b hb=> ?_⟩
 simp only [blocks,Bc] at hb;obtain ⟨m,hm,hb⟩:=hb;obtain ⟨o,ho⟩:=(hs.obj m hm).lies hb;exact key b o ho
end
section
section
variable {P:Program} {e:Env} {dst:Option Tmp} {ty:TypeId} {pos:String} {af:Array Edge} {g:Option (Nat×Bool)} {M:List MObj} {K:HVal->List MObj->Prop}
end
end
section
section
variable {P:Program} {e:Env} {dst:Option Tmp} {ty:TypeId} {pos:String} {af:Array Edge} {g:Option (Nat×Bool)} {M:List MObj} {K:HVal->List MObj->Prop}
theorem zhF [Tracks] {I:Imm} {c d:HVal} {u v:Value} (h1:V I c u) (h2:V I d v):V I (.tup [c,d]) (.tuple #[u,v]):=
 .tup (by simp) (fun j c v h3 h4=>(VL.cons h1 (VL.cons h2 VL.nil)).2 j c v h3 (by simpa using h4))
theorem zq7 [Tracks] {x y:Operand} {t kt et:TypeId} {size bytes s2 b2 s3 b3:Nat} {zero z2 z3:Value} {d:TD} {i b:Nat} {ls:List (List UInt8×HVal)} {s:List UInt8}
 (hf:Fits P t (.map kt et) size bytes zero) (hkt:Fits P kt .str s2 b2 z2) (het:Fits P et d s3 b3 z3) (hx:ze e x=some (.raw (.map (some b)))) (hy:ze e y=some (.str s)) (hm:M[i]? =some (.map b (sk ls)))
 (hk:K (.tup [match zQ s ls with|some p=>p.2|none=>zap z3,.bool (zQ s ls).isSome]) M):EOp P e M ⟨dst,.lookup t x y true,ty,pos,af,g⟩ K:=
 EOp.of_run fun I F a w ho hs=>by
  have h1:=(ho.one (x:=x) (by simp [Op.operands]) hx).raw_inv;have h2:=(ho.one (x:=y) (by simp [Op.operands]) hy).str_inv;obtain ⟨es,clk,h3,h4,h5⟩:=hs.obj _ (Al _ (Ab hm));obtain ⟨h6,h7⟩:=zfW h4.1 h5;obtain ⟨n1,n2⟩:=zgS (I:=I) (s:=s) es.toList ls 0 h6 h7
  cases hq:zQ s ls with
  |none=>
    rw [hq] at hk;refine ⟨.tuple #[z3,.bool false],_,M,w,I,?_,.refl I,hk,zhF (zeH I z3) (.bool _),hs⟩
    simp only [execOp,h1,h2,Instr.lookup,Sem.run_bind,run_underlying hf.mapD,Result.andThen_ok,zav h3,Sem.run_pure,zbH hkt.strD,Instr.findKey,run_underlying hkt.strD,n1 hq,het.run_zero]
    simp
  |some p=>
    obtain ⟨j,h⟩:=p;rw [hq] at hk;obtain ⟨v,g1,g2⟩:=n2 j h hq;refine ⟨.tuple #[v,.bool true],_,M,w,I,?_,.refl I,hk,zhF g2 (.bool _),hs⟩
    simp only [execOp,h1,h2,Instr.lookup,Sem.run_bind,run_underlying hf.mapD,Result.andThen_ok,zav h3,Sem.run_pure,zbH hkt.strD,Instr.findKey,run_underlying hkt.strD,g1]
    simp
end
section
variable {P:Program}
end
end
section
section
variable {κ:Type} [DecidableEq κ]
def kk (ek:κ->HVal) (l:List (κ×HVal)):List (HVal×HVal):=l.map fun p=>(ek p.1,p.2)
def za8 (x:κ):List (κ×HVal)->Option Nat
 |[]=>none
 |p::r=>if x=p.1 then some 0 else (za8 x r).map (· +1)
def klk (x:κ):List (κ×HVal)->Option HVal
 |[]=>none
 |p::r=>if x=p.1 then some p.2 else klk x r
def zcW (x:κ) (h:HVal):List (κ×HVal)->List (κ×HVal)
 |[]=>[(x,h)]
 |p::r=>if x=p.1 then (x,h)::r else p::zcW x h r
theorem zdf {x:κ}: ∀{l:List (κ×HVal)} {j:Nat},za8 x l=some j->∃h,l[j]? =some (x,h)/\klk x l=some h/\∀h',zcW x h' l=l.set j (x,h')
 |[],j,h=>by simp [za8] at h
 |p::r,j,h=>by
   simp only [za8] at h
   by_cases e:x=p.1
   rw [if_pos e] at h
   simp at h;subst h
   exact ⟨p.2,by simp [e],by simp [klk,e],fun h'=>by simp [zcW,e]⟩;rw [if_neg e] at h
   cases hr:za8 x r with
   |none=>rw [hr] at h;simp at h
   |some j'=>
     rw [hr] at h;simp at h;subst h;obtain ⟨y,h1,h2,h3⟩:=zdf hr;exact ⟨y,by simpa using h1,by simp [klk,e,h2],fun h'=>by simp [zcW,e,h3]⟩
theorem zdG {x:κ}: ∀{l:List (κ×HVal)},za8 x l=none->klk x l=none/\∀h',zcW x h' l=l++[(x,h')]
 |[],_=>⟨rfl,fun _=>rfl⟩
 |p::r,h=>by
   simp only [za8] at h
   by_cases e:x=p.1
   rw [if_pos e] at h;simp at h;rw [if_neg e] at h;have hr:za8 x r=none:=by cases hq:za8 x r with|none=>rfl|some j=>rw [hq] at h;simp at h
   obtain ⟨h1,h2⟩:=zdG hr;exact ⟨by simp [klk,e,h1],fun h'=>by simp [zcW,e,h2]⟩
def KNodup (l:List (κ×HVal)):Prop:=(l.map (·.1)).Nodup
theorem zoS {x y:κ} {h:HVal}: ∀{l:List (κ×HVal)},y∈(zcW x h l).map (·.1)↔y=x\/y∈l.map (·.1)
 |[]=>by simp [zcW]
 |p::r=>by
   simp only [zcW]
   split
   rename_i e;subst e;simp
   simp only [Ar,BB,zoS]
   constructor
   rintro (a|a|a);exact .inr (.inl a);exact .inl a;exact .inr (.inr a);rintro (a|a|a);exact .inr (.inl a);exact .inl a;exact .inr (.inr a)
theorem KNodup.put {x:κ} {h:HVal}: ∀{l:List (κ×HVal)},KNodup l->KNodup (zcW x h l)
 |[],_=>by simp [KNodup,zcW]
 |p::r,hn=>by
   unfold KNodup at*;simp only [Ar,B9] at hn;simp only [zcW]
   split
   rename_i e;subst e;simpa using hn
   rename_i e
   simp only [Ar,B9];refine ⟨fun q=> ?_,KNodup.put (l:=r) hn.2⟩
   rcases zoS.1 q with q|q
   exact e q.symm;exact hn.1 q
structure KeyOk (P:Program) (kt:TypeId) (ek:κ->HVal):Prop where
 check: ∀(I:Imm) (x:κ) (v:Value) (b:Bool) (w:World),V I (ek x) v->(Instr.checkKey b 10000 kt v).run P w= .ok () w
 eq: ∀(I:Imm) (x y:κ) (u v:Value) (w:World),V I (ek x) u->V I (ek y) v->(Op.equal kt u v).run P w= .ok (decide (x=y)) w
 find: ∀(I:Imm) (x:κ) (v:Value) (es:List MapEntry) (w:World),V I (ek x) v->(∀m∈es,∃y,V I (ek y) m.key)->(Instr.findKey kt v es).run P w=(Instr.findAsking kt v es).run P w
 same: ∀(I:Imm) (x:κ) (u v:Value),V I (ek x) u->V I (ek x) v->Instr.sameBits 10000 u v=true
variable {P:Program} {kt:TypeId} {ek:κ->HVal}
theorem KeyOk.run_key (ok:KeyOk P kt ek) {I:Imm} {x:κ} {v:Value} (hv:V I (ek x) v) (w:World) (es:List MapEntry) (ls:List (κ×HVal)) (hl:es.length=ls.length)
 (hV: ∀(j:Nat) (p:κ×HVal) (m:MapEntry),ls[j]? =some p->es[j]? =some m->V I (ek p.1) m.key/\V I p.2 m.val):(Instr.findKey kt v es).run P w=(Instr.findAsking kt v es).run P w:=
 ok.find I x v es w hv fun m hm=>by
  obtain ⟨j,hj⟩:=Be hm;have h1:=zl hj;exact ⟨_,(hV j _ m (Aa (by omega)) hj).1⟩
theorem zgo (ok:KeyOk P kt ek) {I:Imm} {x:κ} {v:Value} (hv:V I (ek x) v) (w:World): ∀(es:List MapEntry) (ls:List (κ×HVal)) (i:Nat),es.length=ls.length->
 (∀(j:Nat) (p:κ×HVal) (m:MapEntry),ls[j]? =some p->es[j]? =some m->V I (ek p.1) m.key/\V I p.2 m.val)->
 (za8 x ls=none->(Instr.findAsking kt v es i).run P w= .ok none w)/\∀j,za8 x ls=some j->∃m h,es[j]? =some m/\ls[j]? =some (x,h)/\V I h m.val/\(Instr.findAsking kt v es i).run P w= .ok (some (i+j,m.val)) w
 |[],[],i,_,_=>⟨fun _=>by simp [Instr.findAsking],fun j h=>by simp [za8] at h⟩
 |[],_::_,i,hl,_=>by simp at hl
 |_::_,[],i,hl,_=>by simp at hl
 |m::es,p::ls,i,hl,hV=>by
   obtain ⟨h1,h2⟩:=hV 0 p m rfl rfl;obtain ⟨ih1,ih2⟩:=zgo ok hv w es ls (i+1) (by simpa using hl) fun j q n a b=>hV (j+1) q n (by simpa using a) (by simpa using b)
   simp only [Instr.findAsking,Sem.run_bind,ok.eq I x p.1 v m.key w hv h1,Result.andThen_ok,za8]
   by_cases e:x=p.1
   rw [if_pos e];simp only [e,decide_true,if_true,Sem.run_pure];refine ⟨fun h=>by simp at h,fun j h=> ?_⟩
   simp at h;subst h
   exact ⟨m,p.2,rfl,by simp,h2,by simp⟩;rw [if_neg e];simp only [e,decide_false,AQ,if_false];refine ⟨fun h=>ih1 (by cases hq:za8 x ls with|none=>rfl|some j=>rw [hq] at h;simp at h),fun j h=> ?_⟩
   cases hq:za8 x ls with
   |none=>rw [hq] at h;simp at h
   |some j'=>
     rw [hq] at h;simp at h;subst h;obtain ⟨n,y,g1,g2,g3,g4⟩:=ih2 j' hq;exact ⟨n,y,by simpa using g1,by simpa using g2,g3,by rw [g4];congr 3;omega⟩
theorem zlv {A:Type} {eA:A->HVal} {I:Imm} {ls:List (A×HVal)} {es:Array MapEntry} (hl:es.size=(kk eA ls).length)
 (hv: ∀(i:Nat) (p:HVal×HVal) (m:MapEntry),(kk eA ls)[i]? =some p->es[i]? =some m->V I p.1 m.key/\V I p.2 m.val):
 es.toList.length=ls.length/\∀(j:Nat) (p:A×HVal) (m:MapEntry),ls[j]? =some p->es.toList[j]? =some m->V I (eA p.1) m.key/\V I p.2 m.val:=by
 refine ⟨by simpa [kk] using hl,fun j p m a b=> ?_⟩
 exact hv j (eA p.1,p.2) m (by simp [kk,a]) (by simpa using b)
variable [Tracks] {e:Env} {dst:Option Tmp} {ty:TypeId} {pos:String} {af:Array Edge} {g:Option (Nat×Bool)} {M:List MObj} {K:HVal->List MObj->Prop}
theorem zq8 {x y:Operand} {t et:TypeId} {size bytes s3 b3:Nat} {zero z3:Value} {d:TD} {i b:Nat} {ls:List (κ×HVal)} {s:κ}
 (hf:Fits P t (.map kt et) size bytes zero) (ok:KeyOk P kt ek) (het:Fits P et d s3 b3 z3) (hx:ze e x=some (.raw (.map (some b)))) (hy:ze e y=some (ek s)) (hm:M[i]? =some (.map b (kk ek ls)))
 (hk:K ((klk s ls).getD (zap z3)) M):EOp P e M ⟨dst,.lookup t x y false,ty,pos,af,g⟩ K:=
 EOp.of_run fun I F a w ho hs=>by
  have h1:=(ho.one (x:=x) (by simp [Op.operands]) hx).raw_inv;have h2:=ho.one (x:=y) (by simp [Op.operands]) hy;obtain ⟨es,clk,h3,h4,h5⟩:=hs.obj _ (Al _ (Ab hm));obtain ⟨h6,h7⟩:=zlv h4.1 h5;obtain ⟨n1,n2⟩:=zgo ok h2 w es.toList ls 0 h6 h7;have hfk:=ok.run_key h2 w es.toList ls h6 h7
  cases hq:za8 s ls with
  |none=>
    rw [(zdG hq).1] at hk;refine ⟨z3,_,M,w,I,?_,.refl I,hk,zeH I z3,hs⟩
    simp only [execOp,h1,Instr.lookup,Sem.run_bind,run_underlying hf.mapD,Result.andThen_ok,zav h3,Sem.run_pure,ok.check I s _ _ w h2,hfk,n1 hq,het.run_zero]
    simp
  |some j=>
    obtain ⟨m,h,g1,g2,g3,g4⟩:=n2 j hq;obtain ⟨h',g5,g6,_⟩:=zdf hq;rw [g5] at g2;cases g2;rw [g6] at hk;refine ⟨m.val,_,M,w,I,?_,.refl I,hk,g3,hs⟩
    simp only [execOp,h1,Instr.lookup,Sem.run_bind,run_underlying hf.mapD,Result.andThen_ok,zav h3,Sem.run_pure,ok.check I s _ _ w h2,hfk,g4]
    simp
theorem zqm {x y:Operand} {t et:TypeId} {size bytes s3 b3:Nat} {zero z3:Value} {d:TD} {i b:Nat} {ls:List (κ×HVal)} {s:κ}
 (hf:Fits P t (.map kt et) size bytes zero) (ok:KeyOk P kt ek) (het:Fits P et d s3 b3 z3) (hx:ze e x=some (.raw (.map (some b)))) (hy:ze e y=some (ek s)) (hm:M[i]? =some (.map b (kk ek ls)))
 (hk:K (.tup [(klk s ls).getD (zap z3),.bool (klk s ls).isSome]) M):EOp P e M ⟨dst,.lookup t x y true,ty,pos,af,g⟩ K:=
 EOp.of_run fun I F a w ho hs=>by
  have h1:=(ho.one (x:=x) (by simp [Op.operands]) hx).raw_inv;have h2:=ho.one (x:=y) (by simp [Op.operands]) hy;obtain ⟨es,clk,h3,h4,h5⟩:=hs.obj _ (Al _ (Ab hm));obtain ⟨h6,h7⟩:=zlv h4.1 h5;obtain ⟨n1,n2⟩:=zgo ok h2 w es.toList ls 0 h6 h7;have hfk:=ok.run_key h2 w es.toList ls h6 h7
  cases hq:za8 s ls with
  |none=>
    rw [(zdG hq).1] at hk;refine ⟨.tuple #[z3,.bool false],_,M,w,I,?_,.refl I,hk,zhF (zeH I z3) (.bool _),hs⟩
    simp only [execOp,h1,Instr.lookup,Sem.run_bind,run_underlying hf.mapD,Result.andThen_ok,zav h3,Sem.run_pure,ok.check I s _ _ w h2,hfk,n1 hq,het.run_zero]
    simp
  |some j=>
    obtain ⟨m,h,g1,g2,g3,g4⟩:=n2 j hq;obtain ⟨h',g5,g6,_⟩:=zdf hq;rw [g5] at g2;cases g2;rw [g6] at hk;refine ⟨.tuple #[m.val,.bool true],_,M,w,I,?_,.refl I,hk,zhF g3 (.bool _),hs⟩
    simp only [execOp,h1,Instr.lookup,Sem.run_bind,run_underlying hf.mapD,Result.andThen_ok,zav h3,Sem.run_pure,ok.check I s _ _ w h2,hfk,g4]
    simp
theorem zq9 {x y z:Operand} {t et:TypeId} {size bytes:Nat} {zero:Value} {i b:Nat} {ls:List (κ×HVal)} {s:κ} {h:HVal}
 (hf:Fits P t (.map kt et) size bytes zero) (ok:KeyOk P kt ek) (hx:ze e x=some (.raw (.map (some b)))) (hy:ze e y=some (ek s)) (hz:ze e z=some h) (hm:M[i]? =some (.map b (kk ek ls)))
 (hk:K .junk (M.set i (.map b (kk ek (zcW s h ls))))):EOp P e M ⟨dst,.mapUpdate t x y z,ty,pos,af,g⟩ K:=
 ze5 fun I F a w ho hs=>by
  have h1:=(ho.one (x:=x) (by simp [Op.operands]) hx).raw_inv;have h2:=ho.one (x:=y) (by simp [Op.operands]) hy;have h0:=ho.one (x:=z) (by simp [Op.operands]) hz;have hp:=hs.pull hm;obtain ⟨es,clk,h3,h4,h5⟩:=hp.obj _ Am;obtain ⟨h6,h7⟩:=zlv h4.1 h5;obtain ⟨n1,n2⟩:=zgo ok h2 w es.toList ls 0 h6 h7;have hfk:=ok.run_key h2 w es.toList ls h6 h7;have hlt:b<w.heap.size:=by
   rcases Az b w.heap.size with h'|h'
   exact h'
   simp [Aj h'] at h3
  have hsz:es.size=ls.length:=by simpa using h6
  have fin: ∀(es':Array MapEntry) (clk':Nat),es'.size=(kk ek (zcW s h ls)).length/\BornOk es' clk'->
   (∀(i:Nat) (p:HVal×HVal) (m:MapEntry),(kk ek (zcW s h ls))[i]? =some p->es'[i]? =some m->V I p.1 m.key/\V I p.2 m.val)->
   Sat P I (M.set i (.map b (kk ek (zcW s h ls)))++F) {w with heap:=w.heap.setIfInBounds b (.map es' clk')}:=fun es' clk' e1 e2=>by
   refine zbc hm (hp.change (m':= .map b (kk ek (zcW s h ls))) (fun k hk hnk=> ?_) (fun k hk=> .inl hk) (by simp [MObj.blocks]) ⟨es',clk',by simp [hlt],e1,e2⟩ rfl rfl rfl)
   have:k≠b:=by simpa [MObj.blocks] using hnk
   simp [AF (Ne.symm this)]
  cases hq:za8 s ls with
  |none=>
    have hput:=(zdG hq).2 h;refine ⟨_,_,I,?_,.refl I,hk,fin (es.push ⟨a.eval y,a.eval z,clk⟩) (clk+1) ⟨by rw [hput];simp [kk,hsz],h4.2.push rfl⟩ fun j p m a1 a2=> ?_⟩
    simp only [execOp,h1,Instr.mapUpdate,Sem.run_bind,run_underlying hf.mapD,Result.andThen_ok,zav h3,ok.check I s _ _ w h2,hfk,n1 hq,Sem.run_pure,zcz h3];rw [hput] at a1;simp only [kk,AB,Ar,A8] at a1
    by_cases hj:j<ls.length
    rw [Aq (by simpa using hj)] at a1;rw [AM,if_neg (by omega)] at a2;exact h5 j p m (by simpa [kk] using a1) a2;rw [Ao (by simp;omega)] at a1;rw [AM] at a2
    by_cases hje:j=es.size
    rw [if_pos hje] at a2
    simp at a2
    subst a2;have:j-(ls.map fun p=>(ek p.1,p.2)).length=0:=by simp;omega
    rw [this] at a1
    simp at a1
    subst a1;exact ⟨h2,h0⟩;rw [if_neg hje,Aj (by omega)] at a2
    cases a2
  |some j0=>
    obtain ⟨m0,h',g1,g2,g3,g4⟩:=n2 j0 hq;obtain ⟨_,_,_,hput⟩:=zdf hq;have hm0:es[j0]? =some m0:=by simpa using g1
    have hjl:=zl g2;have hkey:=(h7 j0 (s,h') m0 g2 g1).1;refine ⟨_,_,I,?_,.refl I,hk,fin (es.modify j0 fun e=>{e with key:=a.eval y,val:=a.eval z}) clk ⟨by rw [hput];simp [kk,hsz],h4.2.modify _ fun _=>rfl⟩ fun j p m a1 a2=> ?_⟩
    have hstay:(Instr.keyThatStays (((es[j0]?).map (·.key)).getD (a.eval y)) (a.eval y)).run P w= .ok (a.eval y) w:=by
     rw [hm0];simp only [AG,B5,Instr.keyThatStays];rw [if_pos (ok.same I s _ _ hkey h2)];rfl
    simp only [execOp,h1,Instr.mapUpdate,Sem.run_bind,run_underlying hf.mapD,Result.andThen_ok,zav h3,ok.check I s _ _ w h2,hfk,g4,Sem.run_pure,A9,hstay,zcz h3];rw [hput] at a1;simp only [kk] at a1;rw [AH] at a2;rw [Ag,B1] at a1
    by_cases hj:j0=j
    subst hj;rw [if_pos rfl,hm0] at a2;rw [if_pos rfl,if_pos hjl] at a1
    simp at a1 a2
    subst a1 a2;exact ⟨h2,h0⟩;rw [if_neg hj] at a1 a2;exact h5 j p m (by simp only [kk,Ag];exact a1) a2
end
end
section
def zlJ:List HVal->Bool
 |[]=>true
 | .int _ _::r=>zlJ r
 | .str _::r=>zlJ r
 | .bool _::r=>zlJ r
 |_=>false
theorem zqN: ∀{cs:List HVal} {j:Nat} {c:HVal},zlJ cs=true->cs[j]? =some c->(∃k n,c= .int k n)\/(∃s,c= .str s)\/∃b,c= .bool b
 |[],j,c,_,h=>by simp at h
 |x::r,0,c,hs,h=>by
   simp at h;subst h
   cases x<;>simp [zlJ] at hs
   exact .inr (.inr ⟨_,rfl⟩);exact .inl ⟨_,_,rfl⟩;exact .inr (.inl ⟨_,rfl⟩)
 |x::r,j+1,c,hs,h=>by
   simp at h
   cases x<;>simp [zlJ] at hs<;>exact zqN hs h
theorem ztO {I:Imm} {cs:List HVal} {xs ys:List Value} (hs:zlJ cs=true) (hx:VL I cs xs) (hy:VL I cs ys):xs=ys/\∀v∈xs,∀n,Instr.sameBits n v v=true:=by
 have key: ∀(j:Nat) (u v:Value),xs[j]? =some u->ys[j]? =some v->u=v/\∀n,Instr.sameBits n u u=true:=fun j u v h1 h2=>by
  have hj:j<cs.length:=by rw [<-hx.1];exact zl h1
  have hc:=Aa hj;have hu:=hx.2 j _ u hc h1;have hv:=hy.2 j _ v hc h2
  rcases zqN hs hc with ⟨k,n,e⟩|⟨s,e⟩|⟨b,e⟩
  rw [e] at hu hv
  haveI:Tracks:=⟨true⟩
  rw [hu.int_inv,hv.int_inv];exact ⟨rfl,fun m=>by cases m<;>simp [Instr.sameBits]⟩;rw [e] at hu hv
  haveI:Tracks:=⟨true⟩
  rw [hu.str_inv,hv.str_inv];exact ⟨rfl,fun m=>by cases m<;>simp [Instr.sameBits,zgF]⟩;rw [e] at hu hv
  haveI:Tracks:=⟨true⟩
  rw [hu.bool_inv,hv.bool_inv];exact ⟨rfl,fun m=>by cases m<;>simp [Instr.sameBits]⟩
 have hl:xs.length=ys.length:=by rw [hx.1,hy.1]
 refine ⟨BG fun j=> ?_,fun v hv n=> ?_⟩
 rcases Az j xs.length with h|h
 rw [Aa h,Aa (by omega)]
 congr 1
 exact (key j _ _ (Aa h) (Aa (by omega))).1;rw [Ax h,Ax (by omega)];obtain ⟨j,hj⟩:=Be hv;have hlt:=zl hj;exact (key j v _ hj (Aa (by omega))).2 n
section
variable {P:Program}
theorem zh9 {t:TypeId} {d:TD} {s by':Nat} {z:Value} (hf:Fits P t d s by' z) {a:HVal} (hk:zdQ d a a=true) {I:Imm} {u:Value} (hu:V I a u) (em:Bool) (n:Nat) (w:World):(Instr.checkKey em (n+1) t u).run P w= .ok () w:=by
 haveI:Tracks:=⟨true⟩
 cases d<;>cases a<;>focus first|(simp [zdQ] at hk;done)|skip
 rw [hu.bool_inv];simp [Instr.checkKey,run_underlying hf.boolD];rw [hu.int_inv];simp [Instr.checkKey,run_underlying hf.intD];rw [hu.str_inv];simp [Instr.checkKey,run_underlying hf.strD]
theorem znc {I:Imm} {xs:Array Value} {cs:List HVal} (hx:VL I cs xs.toList) (em:Bool) (n:Nat) (w:World):
 ∀(fs:List Field) (k:Nat),zkd P (fs.map fun f=>(f.offset,f.type)) k (cs.drop k) (cs.drop k)->∀f∈fs,∃a,(part f.type xs f.offset).run P w= .ok a w/\(Instr.checkKey em (n+1) f.type a).run P w= .ok () w
 |[],k,_,f,hf=>by simp at hf
 |g::fs,k,hk,f,hf=>by
   haveI:Tracks:=⟨true⟩
   simp only [Ar] at hk
   cases hc:cs.drop k with
   |nil=>rw [hc] at hk;exact hk.elim
   |cons a r=>
     rw [hc] at hk;obtain ⟨h1,⟨d,s,by',z,h2,h3⟩,h4⟩:=hk;simp only at h1 h2;have ha:cs[k]? =some a:=by have:=congrArg (fun l:List HVal=>l[0]?) hc;simpa using this
     have hr:cs.drop (k+1)=r:=by rw [<-Bs (i:=1),hc];rfl
     rcases List.mem_cons.1 hf with rfl|hf
     obtain ⟨u,hu,hu'⟩:=hx.get ha;exact ⟨u,zmM h2 (zlI h3) (by rw [h1];simpa using hu) w,zh9 h2 h3 hu' em n w⟩;exact znc hx em n w fs (k+1) (by rw [hr];exact h4) f hf
theorem zfS {κ:Type} [DecidableEq κ] {kt:TypeId} {fs:List (Nat×Nat)} {s by':Nat} {z:Value} {cs:κ->List HVal} (hf:Fits P kt (.struct fs) s by' z) (hq:EqOk P kt) (hk: ∀x y,zkd P fs 0 (cs x) (cs y))
 (he: ∀x y,zfm (cs x) (cs y)=decide (x=y)) (hs: ∀x,zlJ (cs x)=true):KeyOk P kt (fun x=> .agg (cs x)):=by
 haveI:Tracks:=⟨true⟩
 obtain ⟨gs,h1,h2⟩:=hf.structD;have hn: ∀f∈gs.toList,f.name≠ "_" :=fun f hf=>by
  have:=hq.names;rw [show P.fieldsOf kt=gs by simp [Program.fieldsOf,h1]] at this;have:=List.all_eq_true.1 this f hf;simpa using this
 refine ⟨fun I x v b w hv=> ?_,fun I x y u v w hu hv=> ?_,fun I x v es w hv hes=>run_findKey_eq w (by rw [h1]) v es,fun I x u v hu hv=> ?_⟩
 obtain ⟨xs,rfl,hx⟩:=hv.agg_inv;have each:=znc (P:=P) hx b 9998 w gs.toList 0 (by rw [h2];exact hk x x);rw [show (10000:Nat)=9999+1 from rfl,Instr.checkKey];simp only [Sem.run_bind,run_underlying h1,Result.andThen_ok];rw [<-Array.forIn_toList]
 clear h1 h2
 generalize gs.toList=L at each hn
 induction L with
 |nil=>simp
 |cons f L ih=>
   obtain ⟨a,p1,p2⟩:=each f (by simp);have hn1:=hn f (by simp);simp only [List.forIn_cons,Sem.run_bind,hn1,ne_eq,not_false_eq_true,if_true,Result.andThen_ok,p1,p2,Sem.run_pure];exact ih (fun y hy=>each y (by simp [hy])) (fun y hy=>hn y (by simp [hy]))
 obtain ⟨xs,rfl,hx⟩:=hu.agg_inv;obtain ⟨ys,rfl,hy⟩:=hv.agg_inv;rw [zfp hf hq hx hy (hk x y) w,he];obtain ⟨xs,rfl,hx⟩:=hu.agg_inv;obtain ⟨ys,rfl,hy⟩:=hv.agg_inv;obtain ⟨e1,e2⟩:=ztO (hs x) hx hy;have e3:xs=ys:=by have:=congrArg List.toArray e1;simpa using this
 subst e3
 show Instr.sameBits (9999+1) _ _=true
 simp only [Instr.sameBits,beq_self_eq_true,Bool.true_and,List.all_eq_true]
 intro p hp
 have h9: ∀(l:List Value) (p:Value×Value),p∈l.zip l->p.1∈l/\p.1=p.2:=fun l=>by
  induction l with
  |nil=>intro p hp;simp at hp
  |cons a l ih=>
    intro p hp
    simp only [List.zip_cons_cons,BB] at hp
    rcases hp with rfl|hp
    exact ⟨by simp,rfl⟩;exact ⟨by simp [(ih p hp).1],(ih p hp).2⟩
 obtain ⟨q1,q2⟩:=h9 _ p hp;obtain ⟨u,v⟩:=p;simp only at q1 q2;subst q2;exact e2 u q1 9999
end
/-! ranges-/
theorem zlA {α:Type} [DecidableEq α]: ∀{l m:List α},l.Nodup->(∀x∈l,x∈m)->l.length<=m.length
 |[],_,_,_=>Ad _
 |a::l,m,h,hs=>by
   have ha:=hs a Am;obtain ⟨h1,h2⟩:=List.nodup_cons.1 h;have h3:=zlA (m:=m.erase a) h2 fun x hx=>(List.mem_erase_of_ne (fun e:x=a=>h1 (by rw [<-e];exact hx))).2 (hs x (Av _ hx))
   rw [List.length_erase_of_mem ha] at h3;have:=List.length_pos_of_mem ha
   simp;omega
section
variable {P:Program} {e:Env} {dst:Option Tmp} {ty:TypeId} {pos:String} {af:Array Edge} {g:Option (Nat×Bool)} {M:List MObj} {K:HVal->List MObj->Prop}
theorem zoD [Tracks] {x:Operand} {t kt et:TypeId} {size bytes:Nat} {zero:Value} {i b:Nat} {l:List (HVal×HVal)} (hf:Fits P t (.map kt et) size bytes zero) (hx:ze e x=some (.raw (.map (some b)))) (hm:M[i]? =some (.map b l))
 (hk: ∀r,K (.raw (.pointer (some ⟨r,0,none⟩))) (M.set i (.iter r b l []))):EOp P e M ⟨dst,.range t x,ty,pos,af,g⟩ K:=
 EOp.of_run fun I F a w ho hs=>by
  have h1:=(ho.one (x:=x) (by simp [Op.operands]) hx).raw_inv;have hp:=hs.pull hm;obtain ⟨es,clk,h3,h4,h5⟩:=hp.obj _ Am;have hlt:b<w.heap.size:=by
   rcases Az b w.heap.size with h'|h'
   exact h'
   simp [Aj h'] at h3
  refine ⟨.pointer (some ⟨w.heap.size,0,none⟩),_,_,push w (.mapIter (some b) clk #[] clk),I,?_,.refl I,hk w.heap.size,.raw _ rfl,?_⟩
  simp only [execOp,h1,Instr.range,Sem.run_bind,run_underlying hf.mapD,Result.andThen_ok,zav h3,Sem.run_pure,run_newObj];refine zbc hm (hp.change (m':= .iter w.heap.size b l []) (fun k hk hnk=> ?_) (fun k hk=> ?_) ?_ ⟨es,clk,#[],?_,?_,h4,rfl,h5⟩ rfl rfl rfl)
  simp [push,AM];intro h;omega
  simp [MObj.blocks] at hk⊢;omega
  simp [MObj.blocks];omega
  simp only [push,AM];rw [if_neg (by omega)];exact h3
  simp [push]
theorem zug [Tracks] {x:Operand} {i r b:Nat} {l:List (HVal×HVal)} {vis:List Nat} (hx:ze e x=some (.raw (.pointer (some ⟨r,0,none⟩)))) (hm:M[i]? =some (.iter r b l vis)) (hv:vis.Nodup) (hvl: ∀j∈vis,j<l.length)
 (h0:vis.length=l.length->K (.tup [.bool false]) M) (h1: ∀(j:Nat) (p:HVal×HVal),l[j]? =some p->j∉vis->K (.tup [.bool true,p.1,p.2]) (M.set i (.iter r b l (vis++[j])))):EOp P e M ⟨dst,.next x false,ty,pos,af,g⟩ K:=
 EOp.of_run fun I F a w ho hs=>by
  have h2:=(ho.one (x:=x) (by simp [Op.operands]) hx).raw_inv;have hp:=hs.pull hm;obtain ⟨es,clk,seen,a1,a2,a3,a4,a5⟩:=hp.obj _ Am;have hgr: ∀w1:World,w1.heap=w.heap->(getObj r).run P w1= .ok (.mapIter (some b) clk seen clk) w1:=fun w1 hw=>by simp [getObj,Sem.run,hw,a2]
  have hgb: ∀w1:World,w1.heap=w.heap->(getObj b).run P w1= .ok (.map es clk) w1:=fun w1 hw=>by simp [getObj,Sem.run,hw,a1]
  have hin: ∀(j:Nat) (m:MapEntry),es[j]? =some m->(seen.contains m.born=true↔j∈vis):=fun j m hj=>by
   have e1:seen.contains m.born=seen.toList.contains m.born:=by simp
   rw [e1,a4,B6,List.mem_map]
   constructor
   rintro ⟨q,hq,e⟩;have hlt:=hvl q hq;have hq2:es[q]? =some es[q]:=Ai (by omega);rw [hq2] at e
   simp at e
   have:=a3.2.2 q j _ m hq2 hj e;rw [<-this];exact hq
   intro hq
   exact ⟨j,hq,by rw [hj];simp⟩
  have hbad:(!seen.isEmpty&& !es.isEmpty&&es.all (fun m=>decide (m.born>=clk)))=false:=by
   by_cases he:es.isEmpty=true
   simp [he]
   have hpos:0<es.size:=by
    rcases A0 es.size with h|h
    simp [Array.isEmpty,h] at he
    exact h
   have hb:=a3.2.1 0 _ (Ai hpos);have:es.all (fun m=>decide (m.born>=clk))=false:=by
    rw [BZ]
    intro h
    have:=Array.all_eq_true.1 h 0 hpos
    simp at this;omega
   rw [this];simp
  have hold:(es.filter fun m=> !seen.contains m.born).filter (fun m=>decide (m.born<clk))=es.filter fun m=> !seen.contains m.born:=by
   rw [Array.filter_eq_self]
   intro m hm'
   obtain ⟨j,hj⟩:=BI (Array.mem_filter.1 hm').1
   simpa using a3.2.1 j m hj
  have hnew:(es.filter fun m=> !seen.contains m.born).filter (fun m=>decide (m.born>=clk))= #[]:=by
   rw [Array.filter_eq_empty_iff]
   intro m hm'
   obtain ⟨j,hj⟩:=BI (Array.mem_filter.1 hm').1;have:=a3.2.1 j m hj
   simp;omega
  have hrun:(execOp a.eval ⟨dst,.next x false,ty,pos,af,g⟩).run P w=((Instr.next (.pointer (some ⟨r,0,none⟩)) false ty).run P w).andThen fun v w=> .ok (.value v) w:=by
   simp only [execOp,h2,Sem.run_bind]
   rfl
  generalize hL:(es.filter fun m=> !seen.contains m.born)=left at hold hnew
  by_cases hemp:left.isEmpty=true
  have hfull:vis.length=l.length:=by
   apply Nat.le_antisymm
   have:=zlA (m:=List.range l.length) hv fun j hj=>List.mem_range.2 (hvl j hj)
   simpa using this
   have:=zlA (l:=List.range l.length) (m:=vis) List.nodup_range fun j hj=>by
    have hj':=List.mem_range.1 hj;have hq:es[j]? =some es[j]:=Ai (by omega);rw [<-hin j _ hq]
    cases hc:seen.contains es[j].born with
    |true=>rfl
    |false=>
      have:es[j]∈left:=by rw [<-hL];exact Array.mem_filter.2 ⟨Array.getElem_mem _,by rw [hc];rfl⟩
      have he:left= #[]:=Array.isEmpty_iff.1 hemp;rw [he] at this;simp at this
   simpa using this
  refine ⟨.tuple #[.bool false],.tup [.bool false],M,w,I,?_,.refl I,h0 hfull,.tup (by simp) (fun j c v h h'=> ?_),hs⟩
  rw [hrun];have he:left= #[]:=Array.isEmpty_iff.1 hemp;simp only [Instr.next,Sem.run_bind,hgr w rfl,hgb w rfl,Result.andThen_ok,hbad,AQ,if_false,Sem.run_pure,hL,hold,hnew,hemp,if_true,he]
  simp [Question.forced]
  match j,h,h' with
  |0,h,h'=>simp at h h';subst h h';exact .bool _
  have hemp':left.isEmpty=false:=by simpa using hemp
  have hpos:0<left.size:=by
   rcases A0 left.size with h|h
   exfalso;apply hemp;simp [Array.isEmpty,h]
   exact h
  obtain ⟨c,w1,c1,c2,c3⟩: ∃c w1,(choose (.mapNext left.size)).run P w= .ok c w1/\c<left.size/\(w1=w\/w1={w with drawn:=w.drawn+1}):=by
   by_cases hf:(Question.mapNext left.size).forced=true
   exact ⟨0,w,by simp [hf],hpos,.inl rfl⟩;refine ⟨_,{w with drawn:=w.drawn+1},by simp [hf];rfl,?_,.inr rfl⟩
   simp only [Question.cut];exact BM _ hpos
  have hw1:w1.heap=w.heap:=by rcases c3 with h|h<;>rw [h]
  have hmem:left[c]∈left:=Array.getElem_mem _;have hmf:left[c]∈es/\(!seen.contains left[c].born)=true:=by
   have h9: ∀m,m∈left->m∈es/\(!seen.contains m.born)=true:=fun m hm=>by rw [<-hL] at hm;exact Array.mem_filter.1 hm
   exact h9 _ hmem
  obtain ⟨j,hj⟩:=BI hmf.1;have hnv:j∉vis:=fun q=>by
   have:=(hin j _ hj).2 q;rw [this] at hmf;simp at hmf
  have hjl:j<l.length:=by
   have:j<es.size:=by
    rcases Az j es.size with h'|h'
    exact h'
    simp [Aj h'] at hj
   omega
  have hlj:=Aa hjl;obtain ⟨k1,k2⟩:=a5 j _ _ hlj hj;refine ⟨.tuple #[.bool true,left[c].key,left[c].val],.tup [.bool true,l[j].1,l[j].2],_,{w1 with heap:=w1.heap.setIfInBounds r (.mapIter (some b) clk (seen.push left[c].born) clk)},I,?_,.refl I,h1 j _ hlj hnv,?_,?_⟩
  rw [hrun];have hcand:((#[]:Array (Option MapEntry))++(left++ #[]).map some).size=left.size:=by simp
  have hget:((#[]:Array (Option MapEntry))++(left++ #[]).map some)[c]? =some (some left[c]):=by simp [c2]
  simp only [Instr.next,Sem.run_bind,hgr w rfl,hgb w rfl,Result.andThen_ok,hbad,AQ,if_false,Sem.run_pure,hL,hold,hnew,hemp',hcand,c1,hget]
  simp [setObj,Sem.run,hw1,a2]
  refine .tup (by simp) (fun q c v h h'=> ?_)
  match q,h,h' with
  |0,h,h'=>simp at h h';subst h h';exact .bool _
  |1,h,h'=>simp at h h';subst h h';exact k1
  |2,h,h'=>simp at h h';subst h h';exact k2
  have hrb:r≠b:=by
   have:=hp.nodup;simp only [blocks,AJ,MObj.blocks] at this;have:=(List.nodup_append.1 this).1
   simp at this;exact this
  have hrl:r<w.heap.size:=by
   rcases Az r w.heap.size with h'|h'
   exact h'
   simp [Aj h'] at a2
  refine zbc hm (hp.change (m':= .iter r b l (vis++[j])) (fun k hk hnk=> ?_) (fun k hk=> .inl hk) ?_ ⟨es,clk,seen.push left[c].born,?_,?_,a3,?_,a5⟩ (by rcases c3 with h|h<;>rw [h]) (by rcases c3 with h|h<;>rw [h]) (by rcases c3 with h|h<;>rw [h]) (fun _=>by rcases c3 with h|h<;>rw [h];(exact Ae _);exact Br _))
  have:k≠r:=fun q=>hnk (by rw [q];simp [MObj.blocks])
  simp only [hw1];rw [AF (Ne.symm this)]
  simp [MObj.blocks,hrb]
  simp only [hw1];rw [AF hrb];exact a1
  simp [hw1,hrl]
  simp [a4,hj]
theorem znR [Tracks] {i r b:Nat} {l:List (HVal×HVal)} {vis:List Nat} (hm:M[i]? =some (.iter r b l vis)):Ghost e M e (M.set i (.map b l)):=fun _ I F tmps w h1 hs=>by
 have hp:=hs.pull hm;obtain ⟨es,clk,seen,a1,a2,a3,a4,a5⟩:=hp.obj _ Am;exact ⟨I,.refl I,h1,zbc hm (hp.change (m':= .map b l) (fun _ _ _=>rfl) (fun k hk=> .inl (by simp [MObj.blocks] at hk⊢;exact .inr hk)) (by simp [MObj.blocks]) ⟨es,clk,a1,a3,a5⟩ rfl rfl rfl)⟩
end
end
section
section
variable {P:Program} {e:Env} {dst:Option Tmp} {ty:TypeId} {pos:String} {af:Array Edge} {g:Option (Nat×Bool)} {M:List MObj} {K:HVal->List MObj->Prop}
theorem ztf [Tracks] {x:Operand} {i r b j:Nat} {l:List (HVal×HVal)} {vis:List Nat} {p:HVal×HVal} (hx:ze e x=some (.raw (.pointer (some ⟨r,0,none⟩)))) (hm:M[i]? =some (.iter r b l (vis++[j]))) (hp':l[j]? =some p)
 (hk:K (.tup [p.1,p.2]) M):EOp P e M ⟨dst,.entry x,ty,pos,af,g⟩ K:=
 EOp.of_run fun I F a w ho hs=>by
  have h2:=(ho.one (x:=x) (by simp [Op.operands]) hx).raw_inv;have hp:=hs.pull hm;obtain ⟨es,clk,seen,a1,a2,a3,a4,a5⟩:=hp.obj _ Am;have hjl:=zl hp';have hj:es[j]? =some es[j]:=Ai (by omega);obtain ⟨k1,k2⟩:=a5 j p _ hp' hj;have hback:seen.back? =some es[j].born:=by
   have:seen=(vis.map fun i=>((es[i]?).map (·.born)).getD 0).toArray.push es[j].born:=by
    apply Array.ext'
    rw [a4];simp [hj]
   rw [this];simp
  have hfind:es.find? (fun m=>m.born==es[j].born)=some es[j]:=by
   cases hf:es.find? (fun m=>m.born==es[j].born) with
   |none=>
     have:=Array.find?_eq_none.1 hf es[j] (Array.getElem_mem _)
     simp at this
   |some m=>
     have h1:=Array.find?_some hf;have h3:=Array.mem_of_find?_eq_some hf;obtain ⟨q,hq⟩:=BI h3;have:=a3.2.2 q j m _ hq hj (by simpa using h1);subst this;rw [hj] at hq;exact hq.symm
  refine ⟨.tuple #[es[j].key,es[j].val],.tup [p.1,p.2],M,w,I,?_,.refl I,hk,zhF k1 k2,hs⟩
  have hgr:(getObj r).run P w= .ok (.mapIter (some b) clk seen clk) w:=by simp [getObj,Sem.run,a2]
  have hgb:(getObj b).run P w= .ok (.map es clk) w:=by simp [getObj,Sem.run,a1]
  simp only [execOp,h2,Instr.entry,Sem.run_bind,hgr,Result.andThen_ok,hback,hgb,bne_self_eq_false,AQ,if_false,hfind,Sem.run_pure]
end
section
variable {κ:Type} [DecidableEq κ]
def zcl (s:κ) (z:HVal) (ls:List (κ×HVal)):List (κ×HVal):=match za8 s ls with|some _=>ls|none=>ls++[(s,z)]
theorem ziA {s:κ} {z:HVal}: ∀{ls:List (κ×HVal)},za8 s ls=none->za8 s (ls++[(s,z)])=some ls.length
 |[],_=>by simp [za8]
 |p::r,h=>by
   simp only [za8] at h
   by_cases e:s=p.1
   rw [if_pos e] at h;simp at h;rw [if_neg e] at h;have hr:za8 s r=none:=by cases hq:za8 s r with|none=>rfl|some j=>rw [hq] at h;simp at h
   simp only [AY,za8,if_neg e,ziA hr];simp
theorem zoR (s:κ) (z h:HVal) (ls:List (κ×HVal)):zcW s h (zcl s z ls)=zcW s h ls:=by
 unfold zcl
 cases hq:za8 s ls with
 |some j=>rfl
 |none=>
   simp only
   rw [(zdf (ziA (z:=z) hq)).choose_spec.2.2 h,(zdG hq).2 h]
   simp
theorem zuv {s:κ} {z:HVal} (ls:List (κ×HVal)):(klk s (zcl s z ls)).getD z=(klk s ls).getD z:=by
 unfold zcl
 cases hq:za8 s ls with
 |some j=>rfl
 |none=>
   obtain ⟨h,h1,h2,_⟩:=zdf (ziA (z:=z) hq)
   simp only
   rw [h2,(zdG hq).1]
   simp at h1;simp [h1]
variable {P:Program} {kt:TypeId} {ek:κ->HVal} {e:Env} {dst:Option Tmp} {ty:TypeId} {pos:String} {af:Array Edge} {g:Option (Nat×Bool)} {M:List MObj} {K:HVal->List MObj->Prop}
theorem zlj [Tracks] {x y:Operand} {t et:TypeId} {size bytes s3 b3:Nat} {zero z3:Value} {d:TD} {i b:Nat} {ls:List (κ×HVal)} {s:κ}
 (hf:Fits P t (.map kt et) size bytes zero) (ok:KeyOk P kt ek) (het:Fits P et d s3 b3 z3) (hx:ze e x=some (.raw (.map (some b)))) (hy:ze e y=some (ek s)) (hm:M[i]? =some (.map b (kk ek ls)))
 (hk: ∀(j st:Nat),za8 s (zcl s (zap z3) ls)=some j->K (.tup [(klk s ls).getD (zap z3),.int .i64 (st:Int)]) (M.set i (.mape b (kk ek (zcl s (zap z3) ls)) j st))):EOp P e M ⟨dst,.mapEntry t x y,ty,pos,af,g⟩ K:=
 EOp.of_run fun I F a w ho hs=>by
  have h1:=(ho.one (x:=x) (by simp [Op.operands]) hx).raw_inv;have h2:=ho.one (x:=y) (by simp [Op.operands]) hy;have hp:=hs.pull hm;obtain ⟨es,clk,h3,h4,h5⟩:=hp.obj _ Am;obtain ⟨h6,h7⟩:=zlv h4.1 h5;obtain ⟨n1,n2⟩:=zgo ok h2 w es.toList ls 0 h6 h7;have hfk:=ok.run_key h2 w es.toList ls h6 h7;have hlt:b<w.heap.size:=by
   rcases Az b w.heap.size with h'|h'
   exact h'
   simp [Aj h'] at h3
  have hsz:es.size=ls.length:=by simpa using h6
  have fin: ∀(ls':List (κ×HVal)) (es':Array MapEntry) (clk' j st:Nat),es'.size=(kk ek ls').length/\BornOk es' clk'->
   (∀(i:Nat) (p:HVal×HVal) (m:MapEntry),(kk ek ls')[i]? =some p->es'[i]? =some m->V I p.1 m.key/\V I p.2 m.val)->(∃m,es'[j]? =some m/\m.born=st)->
   Sat P I (M.set i (.mape b (kk ek ls') j st)++F) {w with heap:=w.heap.setIfInBounds b (.map es' clk')}:=fun ls' es' clk' j st e1 e2 e3=>by
   refine zbc hm (hp.change (m':= .mape b (kk ek ls') j st) (fun k hk hnk=> ?_) (fun k hk=> .inl hk) (by simp [MObj.blocks]) ⟨es',clk',by simp [hlt],e1,e2,e3⟩ rfl rfl rfl)
   have:k≠b:=by simpa [MObj.blocks] using hnk
   simp [AF (Ne.symm this)]
  cases hq:za8 s ls with
  |none=>
    have hke:zcl s (zap z3) ls=ls++[(s,zap z3)]:=by simp [zcl,hq]
    have hki:=ziA (z:=zap z3) hq;have hlk:=(zdG hq).1;refine ⟨.tuple #[z3,.int .i64 clk],_,_,_,I,?_,.refl I,hk ls.length clk (by rw [hke];exact hki),by rw [hlk];exact zhF (zeH I z3) (.int _ _),
     fin _ (es.push ⟨a.eval y,z3,clk⟩) (clk+1) _ _ ⟨by rw [hke];simp [kk,hsz],h4.2.push rfl⟩ (fun j p m a1 a2=> ?_) ⟨⟨a.eval y,z3,clk⟩,by rw [<-hsz];simp,rfl⟩⟩
    simp only [execOp,h1,Instr.mapEntry,Sem.run_bind,run_underlying hf.mapD,Result.andThen_ok,zav h3,ok.check I s _ _ w h2,hfk,n1 hq,Sem.run_pure,zcz h3,het.run_zero,goInt];rw [hke] at a1;simp only [kk,AB,Ar,A8] at a1
    by_cases hj:j<ls.length
    rw [Aq (by simpa using hj)] at a1;rw [AM,if_neg (by omega)] at a2;exact h5 j p m (by simpa [kk] using a1) a2;rw [Ao (by simp;omega)] at a1;rw [AM] at a2
    by_cases hje:j=es.size
    rw [if_pos hje] at a2
    simp at a2
    subst a2;have:j-(ls.map fun p=>(ek p.1,p.2)).length=0:=by simp;omega
    rw [this] at a1
    simp at a1
    subst a1;exact ⟨h2,zeH I z3⟩;rw [if_neg hje,Aj (by omega)] at a2
    cases a2
  |some j0=>
    obtain ⟨m0,h',g1,g2,g3,g4⟩:=n2 j0 hq;obtain ⟨h'',g5,g6,_⟩:=zdf hq;rw [g5] at g2;cases g2;have hke:zcl s (zap z3) ls=ls:=by simp [zcl,hq]
    have hm0:es[j0]? =some m0:=by simpa using g1
    have hkey:V I (ek s) m0.key:=(h7 j0 _ m0 g5 g1).1;refine ⟨.tuple #[m0.val,.int .i64 m0.born],_,_,_,I,?_,.refl I,hk j0 m0.born (by rw [hke];exact hq),by rw [g6];exact zhF g3 (.int _ _),
     fin _ (es.modify j0 fun e=>{e with key:=a.eval y}) clk _ _ ⟨by rw [hke];simp [kk,hsz],h4.2.modify _ fun _=>rfl⟩ (fun j p m a1 a2=> ?_) ⟨{m0 with key:=a.eval y},by rw [AH,if_pos rfl,hm0];rfl,rfl⟩⟩
    have hstay:(Instr.keyThatStays m0.key (a.eval y)).run P w= .ok (a.eval y) w:=by
     simp only [Instr.keyThatStays];rw [if_pos (ok.same I s _ _ hkey h2)];rfl
    simp only [execOp,h1,Instr.mapEntry,Sem.run_bind,run_underlying hf.mapD,Result.andThen_ok,zav h3,ok.check I s _ _ w h2,hfk,g4,Sem.run_pure,A9,hstay,zcz h3,goInt,hm0,AG,B5];rw [hke] at a1;rw [AH] at a2
    by_cases hj:j0=j
    subst hj;rw [if_pos rfl,hm0] at a2
    simp at a2
    subst a2;have:=h5 j0 p m0 a1 hm0;simp only [kk,Ag,g5,AG,As] at a1;subst a1;exact ⟨h2,this.2⟩;rw [if_neg hj] at a2;exact h5 j p m a1 a2
theorem zjx [Tracks] {x y z:Operand} {t:TypeId} {i b j st:Nat} {ls:List (κ×HVal)} {s:κ} {h:HVal}
 (hx:ze e x=some (.raw (.map (some b)))) (hy:ze e y=some (.int .i64 (st:Int))) (hz:ze e z=some h) (hm:M[i]? =some (.mape b (kk ek ls) j st)) (hj:za8 s ls=some j)
 (hk:K .junk (M.set i (.map b (kk ek (zcW s h ls))))):EOp P e M ⟨dst,.entryStore t x y z,ty,pos,af,g⟩ K:=
 ze5 fun I F a w ho hs=>by
  have h1:=(ho.one (x:=x) (by simp [Op.operands]) hx).raw_inv;have h2:=(ho.one (x:=y) (by simp [Op.operands]) hy).int_inv;have h0:=ho.one (x:=z) (by simp [Op.operands]) hz;have hp:=hs.pull hm;obtain ⟨es,clk,h3,h4,h5,m0,h6,h7⟩:=hp.obj _ Am;have hlt:b<w.heap.size:=by
   rcases Az b w.heap.size with h'|h'
   exact h'
   simp [Aj h'] at h3
  obtain ⟨h',g1,_,g2⟩:=zdf hj;have hjl:j<es.size:=by
   rcases Az j es.size with h'|h'
   exact h'
   simp [Aj h'] at h6
  have hfi:es.findIdx? (fun m=>(m.born:Int)==(st:Int))=some j:=by
   rw [Array.findIdx?_eq_some_iff_getElem];refine ⟨hjl,?_,fun q hq=> ?_⟩
   rw [Ai hjl] at h6;have:=Aw h6;rw [this];simp [h7]
   intro hc
   have hq2:=Ai (xs:=es) (i:=q) (by omega);have:=h4.2.2 q j _ m0 hq2 h6 (by have h8:((es[q].born:Nat):Int)=(st:Int):=(by simpa using hc);omega)
   omega
  refine ⟨_,{w with heap:=w.heap.setIfInBounds b (.map (es.modify j fun e=>{e with val:=a.eval z}) clk)},I,?_,.refl I,hk,?_⟩
  simp only [execOp,h1,h2,Instr.entryStore,Sem.run_bind,zav h3,Result.andThen_ok,asInt,asIntOf,Sem.run_pure,hfi,zcz h3];refine zbc hm (hp.change (m':= .map b (kk ek (zcW s h ls))) (fun k hk hnk=> ?_) (fun k hk=> .inl hk) (by simp [MObj.blocks]) ⟨es.modify j fun e=>{e with val:=a.eval z},clk,by simp [hlt],⟨by rw [g2];simp [kk];simpa [kk] using h4.1,h4.2.modify _ fun _=>rfl⟩,fun q p m a1 a2=> ?_⟩ rfl rfl rfl)
  have:k≠b:=by simpa [MObj.blocks] using hnk
  simp [AF (Ne.symm this)]
  rw [g2] at a1;simp only [kk] at a1;rw [AH] at a2;rw [Ag,B1] at a1
  by_cases hjq:j=q
  subst hjq;have hl:=zl g1;rw [if_pos rfl,h6] at a2;rw [if_pos rfl,if_pos hl] at a1
  simp at a1 a2
  subst a1 a2;exact ⟨(h5 j (ek s,h') m0 (by simp [kk,g1]) h6).1,h0⟩;rw [if_neg hjq] at a1 a2;exact h5 q p m (by simp only [kk,Ag];exact a1) a2
end
end
section
section
variable {κ:Type} [DecidableEq κ] {α:Type}
def alk (x:κ):List (κ×α)->Option α
 |[]=>none
 |p::r=>if x=p.1 then some p.2 else alk x r
def zv (x:κ) (v:α):List (κ×α)->List (κ×α)
 |[]=>[(x,v)]
 |p::r=>if x=p.1 then (x,v)::r else p::zv x v r
abbrev em (f:α->HVal) (L:List (κ×α)):List (κ×HVal):=L.map fun p=>(p.1,f p.2)
theorem zlw (f:α->HVal) (x:κ): ∀L:List (κ×α),klk x (em f L)=(alk x L).map f
 |[]=>rfl
 |p::r=>by
   have ih:=zlw f x r;simp only [Ar,klk,alk] at ih⊢
   by_cases h:x=p.1
   rw [if_pos h,if_pos h];rfl;rw [if_neg h,if_neg h];exact ih
theorem zlT (f:α->HVal) (x:κ) (v:α): ∀L:List (κ×α),zcW x (f v) (em f L)=em f (zv x v L)
 |[]=>rfl
 |p::r=>by
   have ih:=zlT f x v r;simp only [Ar,zcW,zv] at ih⊢
   by_cases h:x=p.1
   rw [if_pos h,if_pos h];rfl;rw [if_neg h,if_neg h,ih];rfl
theorem zcI (x y:κ) (v:α): ∀(l:List (κ×α)),alk y (zv x v l)=if y=x then some v else alk y l
 |[]=>by simp [zv,alk]
 |p::r=>by
   have ih:=zcI x y v r;simp only [zv]
   by_cases h:x=p.1
   subst h;rw [if_pos rfl];simp only [alk]
   by_cases hy:y=p.1
   rw [if_pos hy,if_pos hy];rw [if_neg hy,if_neg hy,if_neg hy];rw [if_neg h];simp only [alk]
   by_cases hy:y=p.1
   have: ¬y=x:=fun e=>h (e▸hy)
   rw [if_pos hy,if_neg this,if_pos hy];rw [if_neg hy,ih,if_neg hy]
theorem zeh {x:κ}: ∀{l:List (κ×α)},alk x l=none↔x∉l.map (·.1)
 |[]=>by simp [alk]
 |p::r=>by
   have ih:=zeh (x:=x) (l:=r);simp only [alk,Ar,BB,not_or]
   by_cases h:x=p.1
   rw [if_pos h];simp [h];rw [if_neg h,ih];simp [h]
theorem zjN {x:κ} {v:α}: ∀{l:List (κ×α)},alk x l=none->zv x v l=l++[(x,v)]
 |[],_=>rfl
 |p::r,h=>by
   simp only [alk] at h
   by_cases hx:x=p.1
   rw [if_pos hx] at h;cases h;rw [if_neg hx] at h;simp only [zv,if_neg hx,AY,zjN h]
theorem zkS {x y:κ} {v:α}: ∀{l:List (κ×α)},y∈(zv x v l).map (·.1)↔y=x\/y∈l.map (·.1)
 |[]=>by simp [zv]
 |p::r=>by
   have ih:=zkS (x:=x) (y:=y) (v:=v) (l:=r);simp only [zv]
   by_cases h:x=p.1
   subst h;rw [if_pos rfl];simp;rw [if_neg h];simp only [Ar,BB,ih]
   constructor
   rintro (h|h|h);exact .inr (.inl h);exact .inl h;exact .inr (.inr h);rintro (h|h|h);exact .inr (.inl h);exact .inl h;exact .inr (.inr h)
def ANodup (l:List (κ×α)):Prop:=(l.map (·.1)).Nodup
theorem ANodup.nil {A B:Type}:ANodup ([]:List (A×B)):=Bt
theorem ANodup.put {x:κ} {v:α}: ∀{l:List (κ×α)},ANodup l->ANodup (zv x v l)
 |[],_=>by simp [ANodup,zv]
 |p::r,hn=>by
   have h1:=(List.nodup_cons.1 hn)
   by_cases h:x=p.1
   subst h;have e:zv p.1 v (p::r)=(p.1,v)::r:=by simp [zv]
   rw [e];exact List.nodup_cons.2 h1;have e:zv x v (p::r)=p::zv x v r:=by simp [zv,h]
   rw [e];refine List.nodup_cons.2 ⟨fun hm=> ?_,ANodup.put (l:=r) h1.2⟩
   rcases zkS.1 hm with e|e
   exact h e.symm;exact h1.1 e
theorem zga {x:κ} {v:α}: ∀{l:List (κ×α)},ANodup l->((x,v)∈l↔alk x l=some v)
 |[],_=>by simp [alk]
 |p::r,hn=>by
   have h1:=(List.nodup_cons.1 hn);have ih:=zga (x:=x) (v:=v) (l:=r) h1.2;simp only [BB,alk]
   by_cases h:x=p.1
   subst h;rw [if_pos rfl]
   constructor
   rintro (h|h);rw [<-h];exact absurd (BA (f:=(·.1)) h) h1.1
   intro h;left;simp at h;rw [<-h]
   rw [if_neg h,<-ih]
   constructor
   rintro (h'|h');exact absurd (by rw [<-h']) h;exact h';exact .inr
theorem zbl {x:κ} {v:α}: ∀{l:List (κ×α)},alk x l=some v->(x,v)∈l
 |[],h=>by simp [alk] at h
 |p::r,h=>by
   simp only [alk] at h
   by_cases hx:x=p.1
   rw [if_pos hx] at h;cases h;rw [hx];exact Am;rw [if_neg hx] at h;exact Av _ (zbl h)
theorem zp6 (x:κ) (v:α): ∀(l:List (κ×α)),(zv x v l).length=if (alk x l).isSome then l.length else l.length+1
 |[]=>by simp [zv,alk]
 |p::r=>by
   have ih:=zp6 x v r
   by_cases h:x=p.1
   have e1:zv x v (p::r)=(x,v)::r:=by simp [zv,h]
   have e2:alk x (p::r)=some p.2:=by simp [alk,h]
   rw [e1,e2];simp;have e1:zv x v (p::r)=p::zv x v r:=by simp [zv,h]
   have e2:alk x (p::r)=alk x r:=by simp [alk,h]
   rw [e1,e2,Ak,ih];split<;>simp
theorem znV (x:κ) (v:α) (l:List (κ×α)):(zv x v l).length<=l.length+1:=by rw [zp6];split<;>omega
theorem zco {x:κ} {v:α} {p:κ×α}: ∀{l:List (κ×α)},p∈zv x v l->p=(x,v)\/p∈l
 |[],hp=>by simp [zv] at hp;exact .inl hp
 |q::r,hp=>by
   simp only [zv] at hp
   by_cases h:x=q.1
   rw [if_pos h] at hp
   rcases List.mem_cons.1 hp with e|e
   exact .inl e;exact .inr (Av _ e);rw [if_neg h] at hp
   rcases List.mem_cons.1 hp with e|e
   exact .inr (e▸Am)
   rcases zco e with e|e
   exact .inl e;exact .inr (Av _ e)
theorem zkn (f:α->HVal) (s:Str): ∀L:List (Str×α),(zQ s (em f L)).map (·.2)=(alk s L).map f
 |[]=>rfl
 |p::r=>by
   have ih:=zkn f s r;obtain ⟨k,v⟩:=p;simp only [Ar,zQ,alk] at ih⊢
   by_cases h:s=k
   rw [if_pos h,if_pos h];rfl;rw [if_neg h,if_neg h,<-ih];cases zQ s (r.map fun p=>(p.1,f p.2))<;>rfl
theorem zrP (f:α->HVal) (s:Str) (v:α): ∀L:List (Str×α),sput s (f v) (em f L)=em f (zv s v L)
 |[]=>rfl
 |p::r=>by
   have ih:=zrP f s v r;obtain ⟨k,u⟩:=p;simp only [sput,Ar,zQ,zv] at ih⊢
   by_cases h:s=k
   subst h;rw [if_pos rfl,if_pos rfl];rfl;rw [if_neg h,if_neg h]
   cases hq:zQ s (r.map fun p=>(p.1,f p.2)) with
   |none=>rw [hq] at ih;simp only [Option.map_none,AY,Ar,<-ih]
   |some q=>rw [hq] at ih;simp only [AG,BV,Ar,<-ih]
end
section
variable {κ:Type} [DecidableEq κ] {α:Type}
variable {P:Program} {e:Env} {dst:Option Tmp} {ty:TypeId} {pos:String} {af:Array Edge} {g:Option (Nat×Bool)} {M:List MObj} {K:HVal->List MObj->Prop}
theorem zln {f:α->HVal} {o:Option α} {z0:α}:f (o.getD z0)=(o.map f).getD (f z0):=by cases o<;>rfl
theorem zcE [Tracks] {x y:Operand} {t kt et:TypeId} {size bytes s2 b2 s3 b3:Nat} {zero z2 z3:Value} {d:TD} {i b:Nat} {f:α->HVal} {L:List (Str×α)} {s:Str} {z0:α}
 (hf:Fits P t (.map kt et) size bytes zero) (hkt:Fits P kt .str s2 b2 z2) (het:Fits P et d s3 b3 z3) (hx:ze e x=some (.raw (.map (some b)))) (hy:ze e y=some (.str s)) (hm:M[i]? =some (.map b (sk (em f L)))) (hz:zap z3=f z0)
 (hk:K (f ((alk s L).getD z0)) M):EOp P e M ⟨dst,.lookup t x y false,ty,pos,af,g⟩ K:=by
 refine znf hf hkt het hx hy hm ?_;rw [zln (f:=f),<-zkn,<-hz] at hk
 cases h:zQ s (em f L) with
 |none=>rw [h] at hk;exact hk
 |some p=>rw [h] at hk;exact hk
theorem zhX [Tracks] {x y:Operand} {t kt et:TypeId} {size bytes s2 b2 s3 b3:Nat} {zero z2 z3:Value} {d:TD} {i b:Nat} {f:α->HVal} {L:List (Str×α)} {s:Str} {z0:α}
 (hf:Fits P t (.map kt et) size bytes zero) (hkt:Fits P kt .str s2 b2 z2) (het:Fits P et d s3 b3 z3) (hx:ze e x=some (.raw (.map (some b)))) (hy:ze e y=some (.str s)) (hm:M[i]? =some (.map b (sk (em f L)))) (hz:zap z3=f z0)
 (hk:K (.tup [f ((alk s L).getD z0),.bool (alk s L).isSome]) M):EOp P e M ⟨dst,.lookup t x y true,ty,pos,af,g⟩ K:=by
 refine zq7 hf hkt het hx hy hm ?_;have h1:(alk s L).isSome=((alk s L).map f).isSome:=by cases alk s L<;>rfl
 rw [zln (f:=f),h1,<-zkn,<-hz] at hk
 cases h:zQ s (em f L) with
 |none=>rw [h] at hk;exact hk
 |some p=>rw [h] at hk;exact hk
theorem zcF [Tracks] {x y z:Operand} {t kt et:TypeId} {size bytes s2 b2:Nat} {zero z2:Value} {i b:Nat} {f:α->HVal} {L:List (Str×α)} {s:Str} {v:α}
 (hf:Fits P t (.map kt et) size bytes zero) (hkt:Fits P kt .str s2 b2 z2) (hx:ze e x=some (.raw (.map (some b)))) (hy:ze e y=some (.str s)) (hz:ze e z=some (f v)) (hm:M[i]? =some (.map b (sk (em f L))))
 (hk:K .junk (M.set i (.map b (sk (em f (zv s v L)))))):EOp P e M ⟨dst,.mapUpdate t x y z,ty,pos,af,g⟩ K:=by
 refine zkC hf hkt hx hy hz hm ?_;rw [zrP];exact hk
variable {kt:TypeId} {ek:κ->HVal}
theorem zet [Tracks] {x y:Operand} {t et:TypeId} {size bytes s3 b3:Nat} {zero z3:Value} {d:TD} {i b:Nat} {f:α->HVal} {L:List (κ×α)} {s:κ} {z0:α}
 (hf:Fits P t (.map kt et) size bytes zero) (ok:KeyOk P kt ek) (het:Fits P et d s3 b3 z3) (hx:ze e x=some (.raw (.map (some b)))) (hy:ze e y=some (ek s)) (hm:M[i]? =some (.map b (kk ek (em f L)))) (hz:zap z3=f z0)
 (hk:K (f ((alk s L).getD z0)) M):EOp P e M ⟨dst,.lookup t x y false,ty,pos,af,g⟩ K:=by
 refine zq8 hf ok het hx hy hm ?_;rw [zln (f:=f),<-hz] at hk;rw [zlw];exact hk
theorem zpv [Tracks] {x y:Operand} {t et:TypeId} {size bytes s3 b3:Nat} {zero z3:Value} {d:TD} {i b:Nat} {f:α->HVal} {L:List (κ×α)} {s:κ} {z0:α}
 (hf:Fits P t (.map kt et) size bytes zero) (ok:KeyOk P kt ek) (het:Fits P et d s3 b3 z3) (hx:ze e x=some (.raw (.map (some b)))) (hy:ze e y=some (ek s)) (hm:M[i]? =some (.map b (kk ek (em f L)))) (hz:zap z3=f z0)
 (hk:K (.tup [f ((alk s L).getD z0),.bool (alk s L).isSome]) M):EOp P e M ⟨dst,.lookup t x y true,ty,pos,af,g⟩ K:=by
 refine zqm hf ok het hx hy hm ?_;have h1:((alk s L).map f).isSome=(alk s L).isSome:=by cases alk s L<;>rfl
 rw [zln (f:=f),<-hz] at hk;rw [zlw,h1];exact hk
theorem zli [Tracks] {x y:Operand} {t et:TypeId} {size bytes s3 b3:Nat} {zero z3:Value} {d:TD} {i b j st:Nat} {f:α->HVal} {L:List (κ×α)} {s:κ} {z0:α}
 (hf:Fits P t (.map kt et) size bytes zero) (ok:KeyOk P kt ek) (het:Fits P et d s3 b3 z3) (hx:ze e x=some (.raw (.map (some b)))) (hy:ze e y=some (ek s)) (hm:M[i]? =some (.mape b (kk ek (zcl s (f z0) (em f L))) j st)) (hz:zap z3=f z0)
 (hk:K (f ((alk s L).getD z0)) M):EOp P e M ⟨dst,.lookup t x y false,ty,pos,af,g⟩ K:=by
 have h0:f ((alk s L).getD z0)=(klk s (zcl s (f z0) (em f L))).getD (zap z3):=by rw [hz,zuv,zlw,zln (f:=f)]
 rw [h0] at hk
 generalize zcl s (f z0) (em f L)=ls at hm hk
 exact EOp.of_run fun I F a w ho hs=>by
  have h1:=(ho.one (x:=x) (by simp [Op.operands]) hx).raw_inv;have h2:=ho.one (x:=y) (by simp [Op.operands]) hy;obtain ⟨es,clk,h3,h4,h5,_⟩:=hs.obj _ (Al _ (Ab hm));obtain ⟨h6,h7⟩:=zlv h4.1 h5;obtain ⟨n1,n2⟩:=zgo ok h2 w es.toList ls 0 h6 h7;have hfk:=ok.run_key h2 w es.toList ls h6 h7
  cases hq:za8 s ls with
  |none=>
    rw [(zdG hq).1] at hk;refine ⟨z3,_,M,w,I,?_,.refl I,hk,zeH I z3,hs⟩
    simp only [execOp,h1,Instr.lookup,Sem.run_bind,run_underlying hf.mapD,Result.andThen_ok,zav h3,Sem.run_pure,ok.check I s _ _ w h2,hfk,n1 hq,het.run_zero]
    simp
  |some j'=>
    obtain ⟨m,h,g1,g2,g3,g4⟩:=n2 j' hq;obtain ⟨h',g5,g6,_⟩:=zdf hq;rw [g5] at g2;cases g2;rw [g6] at hk;refine ⟨m.val,_,M,w,I,?_,.refl I,hk,g3,hs⟩
    simp only [execOp,h1,Instr.lookup,Sem.run_bind,run_underlying hf.mapD,Result.andThen_ok,zav h3,Sem.run_pure,ok.check I s _ _ w h2,hfk,g4]
    simp
theorem zhY [Tracks] {x y z:Operand} {t et:TypeId} {size bytes:Nat} {zero:Value} {i b:Nat} {f:α->HVal} {L:List (κ×α)} {s:κ} {v:α}
 (hf:Fits P t (.map kt et) size bytes zero) (ok:KeyOk P kt ek) (hx:ze e x=some (.raw (.map (some b)))) (hy:ze e y=some (ek s)) (hz:ze e z=some (f v)) (hm:M[i]? =some (.map b (kk ek (em f L))))
 (hk:K .junk (M.set i (.map b (kk ek (em f (zv s v L)))))):EOp P e M ⟨dst,.mapUpdate t x y z,ty,pos,af,g⟩ K:=by
 refine zq9 hf ok hx hy hz hm ?_;rw [zlT];exact hk
theorem zkA [Tracks] {x y:Operand} {t et:TypeId} {size bytes s3 b3:Nat} {zero z3:Value} {d:TD} {i b:Nat} {f:α->HVal} {L:List (κ×α)} {s:κ} {z0:α}
 (hf:Fits P t (.map kt et) size bytes zero) (ok:KeyOk P kt ek) (het:Fits P et d s3 b3 z3) (hx:ze e x=some (.raw (.map (some b)))) (hy:ze e y=some (ek s)) (hm:M[i]? =some (.map b (kk ek (em f L)))) (hz:zap z3=f z0)
 (hk: ∀(j st:Nat),za8 s (zcl s (f z0) (em f L))=some j->K (.tup [f ((alk s L).getD z0),.int .i64 (st:Int)]) (M.set i (.mape b (kk ek (zcl s (f z0) (em f L))) j st))):EOp P e M ⟨dst,.mapEntry t x y,ty,pos,af,g⟩ K:=by
 refine zlj hf ok het hx hy hm ?_;rw [hz];have h1:(klk s (em f L)).getD (f z0)=f ((alk s L).getD z0):=by rw [zlw];cases alk s L<;>rfl
 rw [h1];exact hk
theorem ziu [Tracks] {x y z:Operand} {t:TypeId} {i b j st:Nat} {f:α->HVal} {L:List (κ×α)} {s:κ} {z0 v:α}
 (hx:ze e x=some (.raw (.map (some b)))) (hy:ze e y=some (.int .i64 (st:Int))) (hz:ze e z=some (f v)) (hm:M[i]? =some (.mape b (kk ek (zcl s (f z0) (em f L))) j st)) (hj:za8 s (zcl s (f z0) (em f L))=some j)
 (hk:K .junk (M.set i (.map b (kk ek (em f (zv s v L)))))):EOp P e M ⟨dst,.entryStore t x y z,ty,pos,af,g⟩ K:=by
 refine zjx hx hy hz hm hj ?_;rw [zoR,zlT];exact hk
theorem zhj [Tracks] {x:Operand} {t kt' et:TypeId} {size bytes:Nat} {zero:Value} {i b:Nat} {l:List (HVal×HVal)} (hf:Fits P t (.map kt' et) size bytes zero) (hx:ze e x=some (.raw (.map (some b)))) (hm:M[i]? =some (.map b l))
 (hk:K (.int .i64 (l.length:Int)) M):EOp P e M ⟨dst,.call ⟨.builtin .len,#[x],#[t]⟩,ty,pos,af,g⟩ K:=
 EOp.of_run fun I F a w ho hs=>by
  have h1:=(ho.one (x:=x) (by simp [Op.operands,Call.operands]) hx).raw_inv;obtain ⟨es,clk,h3,h4,h5⟩:=hs.obj _ (Al _ (Ab hm));exact ⟨.int .i64 (es.size:Int),_,M,w,I,by rw [zjF (ats:= #[])];simp [h1,Builtin.len_,run_underlying hf.mapD,zav h3,goInt],.refl I,hk,by rw [h4.1];exact .int _ _,hs⟩
end
end
section
open Go.Sort Go.Proofs
structure Play where
 Source:Str
 No:Int
 At:Int
 Week:Int
 Match:Str
 Player:Str
 Stat:Str
 Count:Int
 Undo:Int
structure StatS where
 Name:Str
 Count:Int
structure LineS where
 Player:Str
 Week:Int
 Stats:List StatS
abbrev zad (x:Play):HVal:= .agg [.str x.Source,.int .i64 x.No,.int .i64 x.At,.int .i64 x.Week,.str x.Match,.str x.Player,.str x.Stat,.int .i64 x.Count,.int .i64 x.Undo]
abbrev zbq (l:List Play):HVal:= .slice 9 (l.map zad)
abbrev zdc (x:StatS):HVal:= .agg [.str x.Name,.int .i64 x.Count]
abbrev zwS (l:List StatS):HVal:= .slice 2 (l.map zdc)
abbrev zpF (x:LineS):HVal:= .agg [.str x.Player,.int .i64 x.Week,zwS x.Stats]
abbrev zql (l:List LineS):HVal:= .slice 3 (l.map zpF)
abbrev Num:=Str×Int
abbrev Of2:=Str×Str
abbrev zgh (x:Num):HVal:= .agg [.str x.1,.int .i64 x.2]
abbrev eOf (x:Of2):HVal:= .agg [.str x.1,.str x.2]
def zki:Play:=⟨[],0,0,0,[],[],[],0,0⟩
def zcA (n:Int):Bool:= !(out n 1 60)
def playFault (p:Play):Int:=
 if !(key p.Source) then 5 else if out p.No 1 3000|| !(zY p.At)|| !(zcA p.Week) then 1
 else if !(key p.Match)|| !(key p.Player)|| !(key p.Stat) then 5
 else if out p.Count (-100000) 100000||out p.Undo 0 (p.No-1) then 1
 else if decide (0<p.Undo)&&decide (p.Count≠0) then 3 else 0
def byNo (a b:Play):Int:=orI [zS a.Source b.Source,zX a.No b.No]
def zbp (l:List Play):Nat->List Play->Int
 |_,[]=>0
 |k,p::r=>if playFault p≠0 then playFault p else if 0<k/\byNo p (l.getD (k-1) zki)<=0 then 7 else zbp l (k+1) r
structure ChkS where
 S:List Str
 W:List (Str×Int)
 c:Bool
def zgf (q:ChkS) (p:Play):ChkS:=
 ⟨zcf p.Source q.S,zv p.Match p.Week q.W,q.c||((alk p.Match q.W).isSome&&((alk p.Match q.W).getD 0 !=p.Week))⟩
def za1 (l:List Play):ChkS:=l.foldl zgf ⟨[],[],false⟩
theorem zdM {l:List Play} {k:Nat} {x:Play} (h:l[k]? =some x):za1 (l.take (k+1))=zgf (za1 (l.take k)) x:=by
 rw [zaj h];simp [za1,Bg]
def zdH (q:ChkS):Int:=if 20<q.S.length\/400<q.W.length then 2 else if q.c then 13 else 0
def zbT (l:List Play):Int:=if 3000<l.length then 2 else if zbp l 0 l≠0 then zbp l 0 l else zdH (za1 l)
theorem zkj {l:List Play} {k:Nat} {x:Play} {r:List Play} (h1:playFault x=0) (h2:0<k->¬byNo x (l.getD (k-1) zki)<=0):zbp l k (x::r)=zbp l (k+1) r:=by
 rw [zbp,if_neg (by simp [h1]),if_neg (fun h=>h2 h.1 h.2)]
theorem ziE {l:List Play} {c:Int} (h1:l.length<=3000) (h:zbp l 0 l=c) (hc:c≠0):zbT l=c:=by
 rw [zbT,if_neg (by omega),if_pos (by rw [h];exact hc),h]
theorem zd3 {l:List Play} (h1:l.length<=3000) (h:zbp l 0 l=0):zbT l=zdH (za1 l):=by
 rw [zbT,if_neg (by omega),if_neg (by simp [h])]
theorem zo0 {l:List Play} (h:zbT l=0):l.length<=3000/\zbp l 0 l=0:=by
 unfold zbT at h
 split at h
 omega
 split at h
 contradiction
 rename_i h1 h2;exact ⟨by omega,by simpa using h2⟩
theorem zez {p:Play} (h:playFault p=0):key p.Source=true/\(1<=p.No/\p.No<=3000)/\zY p.At=true/\zcA p.Week=true/\(key p.Match=true/\key p.Player=true/\key p.Stat=true)/\(-100000<=p.Count/\p.Count<=100000)/\(0<=p.Undo/\p.Undo<=p.No-1):=by
 unfold playFault at h
 split at h
 omega
 split at h
 omega
 split at h
 omega
 split at h
 omega
 rename_i h1 h2 h3 h4
 simp only [BD,Bool.not_eq_true',not_or,Bool.not_eq_false,Bool.not_eq_true] at h1 h2 h3 h4;exact ⟨h1,zeT h2.1.1,h2.1.2,h2.2,⟨h3.1.1,h3.1.2,h3.2⟩,zeT h4.1,zeT h4.2⟩
theorem znw {l:List Play}: ∀(r:List Play) (k:Nat),zbp l k r=0->∀x∈r,playFault x=0
 |[],_,_,x,hx=>by cases hx
 |p::r,k,h,x,hx=>by
   rw [zbp] at h
   split at h
   contradiction
   split at h
   omega
   rename_i h1 _
   rcases List.mem_cons.1 hx with rfl|hx
   simpa using h1
   exact znw r (k+1) h x hx
theorem zre {l:List Play} (h:zbT l=0): ∀x∈l,playFault x=0:=znw l 0 (zo0 h).2
/-! the source that counts-/
def zdj (trust:List Str) (at':Int) (B:List (Str×Int)) (p:Play):List (Str×Int):=
 if at'<p.At\/zcu p.Source trust 0<0 then B
 else if (alk p.Match B).isSome=false\/zcu p.Source trust 0<(alk p.Match B).getD 0 then zv p.Match (zcu p.Source trust 0) B else B
def zd8 (l:List Play) (trust:List Str) (at':Int):List (Str×Int):=l.foldl (zdj trust at') []
theorem zjP {l:List Play} {trust:List Str} {at':Int} {k:Nat} {x:Play} (h:l[k]? =some x):zd8 (l.take (k+1)) trust at'=zdj trust at' (zd8 (l.take k) trust at') x:=by
 rw [zaj h];simp [zd8,Bg]
def zlZ (l:List Play) (trust:List Str) (at':Int) (m:Str):Option Str:=(alk m (zd8 l trust at')).map fun k=>trust.getD k.toNat []
/-! what is taken back-/
def zlV (at':Int) (A:List (Num×Play)) (p:Play):List (Num×Play):=if p.At<=at' then zv (p.Source,p.No) p A else A
def zmL (l:List Play) (at':Int):List (Num×Play):=l.foldl (zlV at') []
theorem zoY {l:List Play} {at':Int} {k:Nat} {x:Play} (h:l[k]? =some x):zmL (l.take (k+1)) at'=zlV at' (zmL (l.take k) at') x:=by
 rw [zaj h];simp [zmL,Bg]
def zqX (q p:Play):Bool:=decide (q.Undo=0)&&decide (q.Match=p.Match)&&decide (q.Player=p.Player)&&decide (q.Stat=p.Stat)
def zh0 (A:List (Num×Play)) (at':Int) (G:List (Num×Bool)) (p:Play):List (Num×Bool):=
 if at'<p.At\/p.Undo=0 then G else if (alk (p.Source,p.Undo) A).isSome=true/\zqX ((alk (p.Source,p.Undo) A).getD zki) p=true then zv (p.Source,p.Undo) true G else G
def zlp (A:List (Num×Play)) (at':Int) (l:List Play):List (Num×Bool):=l.foldl (zh0 A at') []
def zkb (l:List Play) (at':Int):List (Num×Bool):=zlp (zmL l at') at' l
theorem zi4 {A:List (Num×Play)} {l:List Play} {at':Int} {k:Nat} {x:Play} (h:l[k]? =some x):zlp A at' (l.take (k+1))=zh0 A at' (zlp A at' (l.take k)) x:=by
 rw [zaj h];simp [zlp,Bg]
def zqs (l:List Play) (at':Int) (x:Num):Bool:=(alk x (zkb l at')).getD false
/-! lines-/
def zls (l:List Play) (trust:List Str) (week at':Int) (p:Play):Bool:=
 !(decide (at'<p.At)||p.Week !=week||decide (0<p.Undo)||zqs l at' (p.Source,p.No)||(zlZ l trust at' p.Match).getD [] !=p.Source)
structure LnS where
 S:List Str
 c:List (Of2×Int)
def zvF (q:LnS) (p:Play):LnS:=⟨zcf p.Player q.S,zv (p.Player,p.Stat) ((alk (p.Player,p.Stat) q.c).getD 0+p.Count) q.c⟩
def zh4 (l:List Play) (trust:List Str) (week at':Int) (q:LnS) (p:Play):LnS:=if zls l trust week at' p then zvF q p else q
def zew (l:List Play) (trust:List Str) (week at':Int) (m:List Play):LnS:=m.foldl (zh4 l trust week at') ⟨[],[]⟩
theorem zoU {l m:List Play} {trust:List Str} {week at':Int} {k:Nat} {x:Play} (h:m[k]? =some x):zew l trust week at' (m.take (k+1))=zh4 l trust week at' (zew l trust week at' (m.take k)) x:=by
 rw [zaj h];simp [zew,Bg]
def zei (a b:StatS):Int:=zS a.Name b.Name
def zbj (c:List (Of2×Int)) (s:Str):List StatS:=(c.filter fun e=>e.1.1==s&&e.2 !=0).map fun e=>⟨e.1.2,e.2⟩
def zgq (c:List (Of2×Int)) (s:Str):List StatS:=zag zei (zbj c s)
def zhk (c:List (Of2×Int)) (S:List Str):Bool:=c.any (fun e=>out e.2 (-100000) 100000)||S.any (fun s=>decide (40<(zbj c s).length))
def zhw (c:List (Of2×Int)) (S:List Str):Int:=if zhk c S then 12 else 0
def zhx (c:List (Of2×Int)) (S:List Str) (week:Int):List LineS:=if zhk c S then [] else (za3 S).map fun s=>⟨s,week,zgq c s⟩
def zqv (l:List Play) (trust:List Str) (week at':Int):Int:=zhw (zew l trust week at' l).c (zew l trust week at' l).S
def zqw (l:List Play) (trust:List Str) (week at':Int):List LineS:=zhx (zew l trust week at' l).c (zew l trust week at' l).S week
/-! order of trust-/
def zc8 (l:List Str):Nat->List Str->Int
 |_,[]=>0
 |k,s::r=>if !(key s) then 5 else if (l.take k).contains s then 6 else zc8 l (k+1) r
def zb0 (l:List Str):Int:=if 20<l.length then 2 else zc8 l 0 l
theorem zrB {s:Str} (h:key s=true):s.length<=40:=by
 simp only [key,ziz,BJ,decide_eq_true_eq] at h;exact h.1.1.1.2
theorem zix {α:Type} {c:α->α->Int} (hc:Cmp c fun _=>True) {l l':List α} (he: ∀x y,x∈l->y∈l->c x y=0->x=y) (hp:l'.Perm l) (hw:l'.Pairwise fun a b=> ¬c b a<0):l'=zag c l:=by
 have hs:=zh2 hc (l:=l) (fun _ _=>trivial);have hw':l'.Pairwise fun a b=>c a b<=0:=hw.imp fun {a b} h=>by
  have:=hc.flip b a trivial trivial
  omega
 refine List.Perm.eq_of_pairwise (le:=fun a b=>c a b<=0) (fun a b ha hb h1 h2=> ?_) hw' hs (hp.trans (zbC c l).symm)
 have f1:=hc.flip a b trivial trivial;exact he a b (hp.mem_iff.1 ha) ((zbC c l).mem_iff.1 hb) (by omega)
theorem zgb:Cmp zei fun _=>True where
 flip x y _ _:=by unfold zei;rw [zer x.Name y.Name];omega
 trans x y z _ _ _ h1 h2:=zhi h1 h2
theorem zrR {α:Type} {c:α->α->Int} (hc:Cmp c fun _=>True):SWO (ltOf c):=by
 have h: ∀a b,ltOf c a b=decide (c a b<0):=fun a b=>rfl
 refine ⟨fun x=> ?_,fun x y z h1 h2=> ?_,fun x y z h1 h2=> ?_⟩
 rw [h];have:=hc.flip x x trivial trivial;simp;omega;rw [h] at*;simp only [decide_eq_true_eq] at*;have a1:=hc.trans x y z trivial trivial trivial (by omega) (by omega)
 rcases Int.lt_or_eq_of_le a1 with e|e
 exact e
 exfalso
 have f1:=hc.flip x z trivial trivial;have a2:=hc.trans z x y trivial trivial trivial (by have:=hc.flip z x trivial trivial;omega) (by omega);have f2:=hc.flip y z trivial trivial
 omega
 rw [h] at*;simp only [decide_eq_false_iff_not] at*;have f1:=hc.flip x y trivial trivial;have f2:=hc.flip y z trivial trivial;have f3:=hc.flip x z trivial trivial;have g1:=hc.flip y x trivial trivial;have g2:=hc.flip z y trivial trivial;have g3:=hc.flip z x trivial trivial;have:=hc.trans z y x trivial trivial trivial (by omega) (by omega)
 omega
end
section
theorem zmK {α:Type} {l:List α} (h:l.Nodup) {i j:Nat} {a:α} (hi:l[i]? =some a) (hj:l[j]? =some a):i=j:=by
 have key: ∀(i j:Nat),i<j->l[i]? =some a->l[j]? =some a->False:=fun i j hij h1 h2=>by
  have hi:=zl h1;have hj:=zl h2;rw [Aa hi] at h1;rw [Aa hj] at h2;exact List.pairwise_iff_getElem.1 h i j hi hj hij (Aw (h1.trans h2.symm))
 rcases BH i j with h'|h'|h'
 exact (key i j h' hi hj).elim;exact h';exact (key j i h' hj hi).elim
/-! what a range has come to-/
structure VisOk {β:Type} (L:List β) (vis:List Nat) (E:List β):Prop where
 nd:vis.Nodup
 lt: ∀j∈vis,j<L.length
 eq:E.map some=vis.map fun j=>L[j]?
theorem VisOk.nil {β:Type} (L:List β):VisOk L [] []:=⟨Bt,(fun j h=>by cases h),rfl⟩
theorem VisOk.step {β:Type} {L E:List β} {vis:List Nat} (h:VisOk L vis E) {j:Nat} {q:β} (hj:L[j]? =some q) (hn:j∉vis):VisOk L (vis++[j]) (E++[q]) where
 nd:=List.nodup_append.2 ⟨h.nd,by simp,fun a ha b hb=>by simp at hb;subst hb;exact fun e=>hn (e▸ha)⟩
 lt k hk:=by
  rcases List.mem_append.1 hk with hk|hk
  exact h.lt k hk
  simp at hk;subst hk;exact zl hj
 eq:=by simp only [AB,h.eq,Ar,A8,hj]
theorem VisOk.len {β:Type} {L E:List β} {vis:List Nat} (h:VisOk L vis E):E.length=vis.length:=by
 have:=congrArg List.length h.eq;simpa using this
theorem VisOk.le {β:Type} {L E:List β} {vis:List Nat} (h:VisOk L vis E):vis.length<=L.length:=by
 have:=zlA h.nd (m:=List.range L.length) fun j hj=>List.mem_range.2 (h.lt j hj)
 simpa using this
theorem VisOk.room {β:Type} {L E:List β} {vis:List Nat} (h:VisOk L vis E) {j:Nat} {q:β} (hj:L[j]? =some q) (hn:j∉vis):vis.length<L.length:=by
 have:=(h.step hj hn).le;rw [AA] at this;simp only [Ak,AL] at this
 omega
theorem VisOk.done {β:Type} {L E:List β} {vis:List Nat} (h:VisOk L vis E) (hl:vis.length=L.length):E.Perm L:=by
 have hp:vis.Perm (List.range L.length):=by
  refine (List.perm_ext_iff_of_nodup h.nd List.nodup_range).2 fun a=>⟨fun ha=>List.mem_range.2 (h.lt a ha),fun ha=> ?_⟩
  refine Classical.byContradiction fun hna=> ?_
  have h1:(a::vis).Nodup:=List.nodup_cons.2 ⟨hna,h.nd⟩;have h2:=zlA h1 (m:=List.range L.length) fun j hj=>by
   rcases List.mem_cons.1 hj with rfl|hj
   exact ha;exact List.mem_range.2 (h.lt j hj)
  simp at h2;omega
 have h1:=hp.map fun j=>L[j]?
 rw [<-h.eq] at h1;have h2:((List.range L.length).map fun j=>L[j]?)=L.map some:=by
  refine BG fun i=> ?_
  rw [Ag,Ag]
  rcases Az i L.length with hi|hi
  rw [Bz hi,Aa hi];simp [hi];rw [Ax (by simpa using hi),Ax hi];rfl
 rw [h2] at h1;have h3:=h1.filterMap id;have key: ∀l:List β,(l.map some).filterMap id=l:=fun l=>by
  induction l with
  |nil=>rfl
  |cons x l ih=>simp [ih]
 rwa [key,key] at h3
def NextOk {β:Type} (L:List β) (vis:List Nat) (c:Bool) (vis':List Nat):Prop:=
 (c=false/\vis'=vis/\vis.length=L.length)\/(c=true/\∃j q,L[j]? =some q/\j∉vis/\vis'=vis++[j])
theorem NextOk.t {β:Type} {L:List β} {vis vis':List Nat} {c:Bool} (h:NextOk L vis c vis') (hc:c=true): ∃j q,L[j]? =some q/\j∉vis/\vis'=vis++[j]:=by
 rcases h with ⟨h,_⟩|⟨_,h⟩
 rw [hc] at h;cases h;exact h
theorem NextOk.f {β:Type} {L:List β} {vis vis':List Nat} {c:Bool} (h:NextOk L vis c vis') (hc:c=false):vis'=vis/\vis.length=L.length:=by
 rcases h with ⟨_,h⟩|⟨h,_⟩
 exact h;rw [hc] at h;cases h
section
variable {P:Program} {e:Env} {dst:Option Tmp} {ty:TypeId} {pos:String} {af:Array Edge} {g:Option (Nat×Bool)} {M:List MObj} {K:HVal->List MObj->Prop}
theorem zo4 {α:Type}: ∀{M:List α} {i:Nat} {m:α},M[i]? =some m->M.set i m=M
 |[],i,m,h=>by simp at h
 |x::M,0,m,h=>by simp at h;simp [h]
 |x::M,i+1,m,h=>by simp at h;simp [zo4 h]
theorem zoC [Tracks] {β:Type} {L:List β} {enc:β->HVal×HVal} {x:Operand} {i r b:Nat} {l:List (HVal×HVal)} {vis:List Nat} (hx:ze e x=some (.raw (.pointer (some ⟨r,0,none⟩)))) (hm:M[i]? =some (.iter r b l vis)) (hL:l=L.map enc)
 (hv:vis.Nodup) (hvl: ∀j∈vis,j<L.length) (hk: ∀c R vis',NextOk L vis c vis'->K (.tup (.bool c::R)) (M.set i (.iter r b l vis'))):EOp P e M ⟨dst,.next x false,ty,pos,af,g⟩ K:=by
 have hl:l.length=L.length:=by rw [hL,Ah]
 refine zug hx hm hv (fun j hj=>by rw [hl];exact hvl j hj) (fun hlen=> ?_) (fun j p hj hn=> ?_)
 have:=hk false [] vis (.inl ⟨rfl,rfl,by rw [hlen,hl]⟩);rw [zo4 hm] at this;exact this;rw [hL,Ag] at hj
 cases hq:L[j]? with
 |none=>rw [hq] at hj;cases hj
 |some q=>exact hk true [p.1,p.2] (vis++[j]) (.inr ⟨rfl,j,q,hq,hn,rfl⟩)
theorem zne [Tracks] {β:Type} {L:List β} {enc:β->HVal×HVal} {x:Operand} {i r b j:Nat} {l:List (HVal×HVal)} {vis:List Nat} {q:β} (hx:ze e x=some (.raw (.pointer (some ⟨r,0,none⟩)))) (hm:M[i]? =some (.iter r b l (vis++[j]))) (hL:l=L.map enc) (hq:L[j]? =some q)
 (hk:K (.tup [(enc q).1,(enc q).2]) M):EOp P e M ⟨dst,.entry x,ty,pos,af,g⟩ K:=
 ztf hx hm (p:=enc q) (by rw [hL,Ag,hq];rfl) hk
theorem zvJ {α:Type} (f:α->HVal) (L:List (Str×α)):sk (em f L)=L.map fun p=>(.str p.1,f p.2):=by simp [sk]
theorem zvE {κ α:Type} [DecidableEq κ] (ek:κ->HVal) (f:α->HVal) (L:List (κ×α)):kk ek (em f L)=L.map fun p=>(ek p.1,f p.2):=by simp [kk]
end
theorem zyX {α:Type} {a b c d:α} {X:List α}:(a::b::c::d::X).Perm (a::d::c::b::X):=
 List.Perm.cons a (((List.Perm.swap c b (d::X)).trans ((List.Perm.swap d b X).cons c)).trans (((List.Perm.swap d c (b::X)))))
/-! maps whose values are owned slices-/
section
variable {β:Type}
abbrev Grp (β:Type):=List (Str×(Value×List β))
abbrev fG {β:Type} (q:Value×List β):HVal:= .raw q.1
abbrev gZ (β:Type):Value×List β:=(.slice none 0 0,[])
def gV (s:Str) (G:Grp β):Value:=((alk s G).getD (gZ β)).1
def gL (s:Str) (G:Grp β):List β:=((alk s G).getD (gZ β)).2
def grp (sz:Nat) (e:β->HVal) (G:Grp β):List MObj:=G.map fun p=> .arr p.2.1 sz (p.2.2.map e)
theorem zrm {κ α:Type} [DecidableEq κ] {s:κ} {v:α}: ∀{G:List (κ×α)},alk s G=some v->∃n,G[n]? =some (s,v)/\∀u,zv s u G=G.set n (s,u)
 |[],h=>by simp [alk] at h
 |p::r,h=>by
   simp only [alk] at h
   by_cases hs:s=p.1
   rw [if_pos hs] at h;simp only [As] at h;subst h;exact ⟨0,by simp [hs],fun u=>by simp [zv,hs]⟩;rw [if_neg hs] at h;obtain ⟨n,h1,h2⟩:=zrm h;exact ⟨n+1,by simpa using h1,fun u=>by simp [zv,hs,h2]⟩
theorem zmU {κ α:Type} [DecidableEq κ] {s:κ} {p:κ->Bool}: ∀{G:List (κ×α)},alk s (G.filter fun q=>p q.1)=if p s then alk s G else none
 |[]=>by simp [alk]
 |q::r=>by
   have ih:=zmU (s:=s) (p:=p) (G:=r);rw [AV]
   by_cases hq:p q.1=true
   rw [if_pos hq];simp only [alk]
   by_cases hs:s=q.1
   rw [if_pos hs,if_pos hs,hs,if_pos hq];rw [if_neg hs,if_neg hs,ih];rw [if_neg hq,ih];simp only [alk]
   by_cases hs:s=q.1
   rw [hs,if_neg hq,if_neg hq];rw [if_neg hs]
theorem zjy {κ α:Type} [DecidableEq κ] {s:κ} {G:List (κ×α)} (h:alk s G=none):(G.filter fun q=>decide (q.1≠s))=G:=by
 rw [List.filter_eq_self]
 intro q hq
 rw [zeh] at h;simp only [decide_eq_true_eq];exact fun e=>h (e▸BA hq)
theorem zjz {κ α:Type} [DecidableEq κ] {s:κ} {v:α}: ∀{G:List (κ×α)},ANodup G->alk s G=some v->G.Perm ((s,v)::G.filter fun q=>decide (q.1≠s))
 |[],_,h=>by simp [alk] at h
 |p::r,hn,h=>by
   have h1:=List.nodup_cons.1 hn;simp only [alk] at h
   by_cases hs:s=p.1
   ·rw [if_pos hs] at h;simp only [As] at h;have h2:alk s r=none:=by rw [zeh,hs];exact h1.1
    rw [AV,if_neg (by simp [hs]),zjy h2,hs,<-h]
   ·rw [if_neg hs] at h;rw [AV,if_pos (by simp;exact fun e=>hs e.symm)];exact (List.Perm.cons p (zjz h1.2 h)).trans (List.Perm.swap _ _ _)
end
section
variable {P:Program} {e:Env} {dst:Option Tmp} {ty:TypeId} {pos:String} {af:Array Edge} {g:Option (Nat×Bool)} {M:List MObj} {K:HVal->List MObj->Prop} {β:Type} {eb:β->HVal}
theorem zmn [Tracks] {I:Imm} {M:List MObj} {w:World} (sz:Nat) (hs:Sat P I M w):Sat P I (.arr (.slice none 0 0) sz []::M) w where
 imm:=hs.imm
 obj m hm:=by
  rcases List.mem_cons.1 hm with rfl|hm
  exact .inl ⟨rfl,rfl⟩;exact hs.obj m hm
 nodup:=by simp only [blocks,AJ,MObj.blocks,Bf];exact hs.nodup
 apart b hb:=hs.apart b (by simpa only [blocks,AJ,MObj.blocks,Bf] using hb)
 os:=hs.os
 output:=hs.output
 tape:=hs.tape
 tab:=hs.tab
 low:=hs.low
theorem EOp.pre [Tracks] {M':List MObj} {o:Oper} (hm: ∀I F w,Sat P I (M++F) w->Sat P I (M'++F) w) (h:EOp P e M' o K):EOp P e M o K:=fun I F a w ho hs=>h I F a w ho (hm I F w hs)
theorem zpe [Tracks] {o:Oper} (h:EOp P e M o fun x N=> ∃N',N.Perm N'/\K x N'):EOp P e M o K:=fun I F a w ho hs=>
 zaZ (fun _ _ ⟨v,x,M',J,h1,h2,⟨N',h3,h4⟩,h5,h6⟩=>⟨v,x,N',J,h1,h2,h4,h5,h6.perm (h3.append_right F)⟩) (h I F a w ho hs)
theorem zn8 [Tracks] {x y:Operand} {t el:TypeId} {size bytes sz b2:Nat} {zero z2:Value} {d:TD} {A:List MObj} {G:Grp β} {s:Str} {ys:List β}
 (hf:Fits P t (.slice el) size bytes zero) (hel:Fits P el d sz b2 z2) (hz:z2.cells.size=sz) (hby:Nat.ble b2 100000=true)
 (hx:ze e x=some (.raw (gV s G))) (hy:ze e y=some (.slice sz (ys.map eb))) (hfl: ∀y∈ys.map eb,zas (zb y)=true) (hlen:(gL s G).length+ys.length<=1000000000)
 (hk: ∀v',K (.raw v') (A++grp sz eb (zv s (v',gL s G++ys) G))):EOp P e (A++grp sz eb G) ⟨dst,.call ⟨.builtin .append,#[x,y],#[t,t]⟩,ty,pos,af,g⟩ K:=by
 cases hq:alk s G with
 |none=>
   have h1:gV s G= .slice none 0 0:=by unfold gV;rw [hq];rfl
   have h2:gL s G=[]:=by unfold gL;rw [hq];rfl
   rw [h1] at hx;rw [h2,Bf] at hk;refine EOp.pre (M':= .arr (.slice none 0 0) sz []::(A++grp sz eb G)) (fun I F w hs=>zmn sz hs) (zpe ?_)
   refine zP (i:=0) hf hel hz hby hx hy rfl hfl (by rw [h2] at hlen;simpa using hlen) fun v'=>⟨_,?_,hk v'⟩
   rw [zjN hq];simp only [List.set_cons_zero,grp,AB,Ar,A8,Bf];rw [<-AT];exact (List.perm_append_comm (l₁:=[MObj.arr v' sz (ys.map eb)]) (l₂:=A++G.map fun p=>MObj.arr p.2.1 sz (p.2.2.map eb)))
 |some q=>
   obtain ⟨v,l⟩:=q;have h1:gV s G=v:=by unfold gV;rw [hq];rfl
   have h2:gL s G=l:=by unfold gL;rw [hq];rfl
   obtain ⟨n,h3,h4⟩:=zrm hq;rw [h1] at hx;rw [h2] at hk hlen;have h5:(A++grp sz eb G)[A.length+n]? =some (.arr v sz (l.map eb)):=by
    rw [Ao (by omega),BY]
    simp [grp,h3]
   refine zP (i:=A.length+n) hf hel hz hby hx hy h5 hfl (by simpa using hlen) fun v'=> ?_
   have h6:(A++grp sz eb G).set (A.length+n) (.arr v' sz (l.map eb++ys.map eb))=A++grp sz eb (zv s (v',l++ys) G):=by
    rw [B8 _ _ (by omega),BY,h4]
    simp [grp,List.map_set]
   rw [h6];exact hk v'
theorem znQ [Tracks] {A:List MObj} {G G':Grp β} {s:Str} {sz:Nat} (hn:ANodup G) (hG:alk s G=alk s G'):Ghost e (A++grp sz eb G) e (.arr (gV s G') sz ((gL s G').map eb)::(A++grp sz eb (G.filter fun q=>decide (q.1≠s)))):=by
 cases hq:alk s G with
 |none=>
   have h1:gV s G'= .slice none 0 0:=by unfold gV;rw [<-hG,hq];rfl
   have h2:gL s G'=[]:=by unfold gL;rw [<-hG,hq];rfl
   rw [h1,h2,zjy hq];exact zM sz
 |some q=>
   obtain ⟨v,l⟩:=q;have h1:gV s G'=v:=by unfold gV;rw [<-hG,hq];rfl
   have h2:gL s G'=l:=by unfold gL;rw [<-hG,hq];rfl
   rw [h1,h2];refine Ghost.perm ?_;have h3:=((zjz hn hq).map fun p=>MObj.arr p.2.1 sz (p.2.2.map eb)).append_left A;refine h3.trans ?_;simp only [Ar,grp];exact List.perm_middle
end
end
section
section
variable {κ α γ:Type} [DecidableEq κ]
theorem VisOk.fresh {L E:List (κ×α)} {vis:List Nat} (h:VisOk L vis E) (hn:ANodup L) {j:Nat} {q:κ×α} (hj:L[j]? =some q) (hv:j∉vis):alk q.1 E=none:=by
 rw [zeh]
 intro hm
 obtain ⟨q',h1,h2⟩:=List.mem_map.1 hm;have h3:some q'∈E.map some:=BA h1;rw [h.eq] at h3;obtain ⟨j',h4,h5⟩:=List.mem_map.1 h3;have e:j'=j:=zmK hn (a:=q.1) (by rw [Ag,h5];simp [h2]) (by rw [Ag,hj];rfl);exact hv (e▸h4)
theorem ANodup.perm {A B:Type} {E L:List (A×B)} (hn:ANodup L) (hp:E.Perm L):ANodup E:=(hp.map (fun p:A×B=>p.1)).nodup_iff.2 hn
theorem zp3 {E L:List (κ×α)} (hp:E.Perm L) (hn:ANodup L) (m:κ):alk m E=alk m L:=by
 have hne:ANodup E:=hn.perm hp
 cases h:alk m L with
 |none=>
   rw [zeh] at h⊢;exact fun hm=>h ((hp.map (·.1)).mem_iff.1 hm)
 |some v=>exact (zga hne).1 (hp.mem_iff.2 ((zga hn).2 h))
theorem znT (g:α->γ) (m:κ): ∀(E:List (κ×α)),alk m (E.map fun q=>(q.1,g q.2))=(alk m E).map g
 |[]=>rfl
 |p::r=>by
   have ih:=znT g m r;simp only [Ar,alk]
   by_cases h:m=p.1
   rw [if_pos h,if_pos h];rfl;rw [if_neg h,if_neg h,ih]
theorem ANodup.map {A B C:Type} (g:B->C) {E:List (A×B)} (h:ANodup E):ANodup (E.map fun q=>(q.1,g q.2)):=by
 unfold ANodup at*;rw [AX];exact h
end
theorem zqr (s:Str): ∀(l:List Str) (k:Int),zcu s l k= -1\/(k<=zcu s l k/\zcu s l k<k+l.length)
 |[],k=> .inl rfl
 |x::r,k=>by
   simp only [zcu]
   by_cases h:s=x
   rw [if_pos h];right;simp;omega;rw [if_neg h]
   rcases zqr s r (k+1) with h'|h'
   exact .inl h'
   right;simp only [Ak];omega
theorem znW {trust:List Str} {n:Int}: ∀(l:List Play) (B:List (Str×Int)),ANodup B->(∀q∈B,0<=q.2/\q.2<trust.length)->ANodup (l.foldl (zdj trust n) B)/\∀q∈l.foldl (zdj trust n) B,0<=q.2/\q.2<trust.length
 |[],B,h1,h2=>⟨h1,h2⟩
 |p::r,B,h1,h2=>by
   refine znW r (zdj trust n B p) ?_ ?_;unfold zdj;split;exact h1
   split
   exact h1.put;exact h1;unfold zdj;split;exact h2
   rename_i hc
   split
   intro q hq
   rcases zco hq with rfl|hq
   rcases zqr p.Source trust 0 with h|h
   exfalso;exact hc (.inr (by rw [h];decide))
   dsimp only;omega
   exact h2 q hq;exact h2
theorem zjQ (l:List Play) (trust:List Str) (n:Int):ANodup (zd8 l trust n):=(znW l [] ANodup.nil (fun q h=>by cases h)).1
theorem zrW {l:List Play} {trust:List Str} {n:Int} {q:Str×Int} (h:q∈zd8 l trust n):0<=q.2/\q.2<trust.length:=(znW l [] ANodup.nil (fun q h=>by cases h)).2 q h
abbrev znK (trust:List Str) (E:List (Str×Int)):List (Str×Str):=E.map fun q=>(q.1,trust.getD q.2.toNat [])
theorem ztU {trust:List Str} {L E:List (Str×Int)} {vis:List Nat} (h:VisOk L vis E) (hn:ANodup L) {j:Nat} {q:Str×Int} (hj:L[j]? =some q) (hv:j∉vis):zv q.1 (trust.getD q.2.toNat []) (znK trust E)=znK trust (E++[q]):=by
 rw [zjN]
 simp
 have:=znT (fun k:Int=>trust.getD k.toNat []) q.1 E;rw [this,h.fresh hn hj hv];rfl
theorem zu0 {l:List Play} {trust:List Str} {n:Int} {E:List (Str×Int)} (hp:E.Perm (zd8 l trust n)) (m:Str):alk m (znK trust E)=zlZ l trust n m:=by
 have:=znT (fun k:Int=>trust.getD k.toNat []) m E;rw [this,zp3 hp (zjQ _ _ _)];rfl
theorem zsL {l:List Play} {trust:List Str} {n:Int} {E:List (Str×Int)} (hp:E.Perm (zd8 l trust n)):ANodup (znK trust E):=
 ANodup.map (fun k:Int=>trust.getD k.toNat []) ((zjQ _ _ _).perm hp)
/-! groups of statistics-/
structure GOk (E:List (Of2×Int)) (G:Grp StatS):Prop where
 nd:ANodup G
 raw: ∀s,gL s G=zbj E s
theorem GOk.nil:GOk [] []:=⟨ANodup.nil,fun s=>rfl⟩
theorem zkF (E:List (Of2×Int)) (q:Of2×Int) (s:Str):zbj (E++[q]) s=zbj E s++if q.1.1=s/\q.2≠0 then [⟨q.1.2,q.2⟩] else []:=by
 unfold zbj;rw [BE,AB,AV]
 by_cases h:q.1.1=s/\q.2≠0
 rw [if_pos h,if_pos (by simpa using h)];rfl;rw [if_neg h,if_neg (by simpa using h)];rfl
theorem GOk.skip {E:List (Of2×Int)} {G:Grp StatS} (h:GOk E G) {q:Of2×Int} (hq:q.2=0):GOk (E++[q]) G:=
 ⟨h.nd,fun s=>by rw [zkF,if_neg (by simp [hq]),A7,h.raw]⟩
theorem zwU (s t:Str) (v:Value) (l:List StatS) (G:Grp StatS):gL t (zv s (v,l) G)=if t=s then l else gL t G:=by
 unfold gL;rw [zcI];split<;>rfl
theorem GOk.put {E:List (Of2×Int)} {G:Grp StatS} (h:GOk E G) {q:Of2×Int} (hq: ¬q.2=0) (v:Value):GOk (E++[q]) (zv q.1.1 (v,gL q.1.1 G++[⟨q.1.2,q.2⟩]) G):=by
 refine ⟨h.nd.put,fun s=> ?_⟩
 rw [zwU,zkF]
 by_cases hs:s=q.1.1
 rw [if_pos hs,if_pos ⟨hs.symm,hq⟩,hs,h.raw];rw [if_neg hs,if_neg (fun e=>hs e.1.symm),A7,h.raw]
theorem zmk (E:List (Of2×Int)) (s:Str):(zbj E s).length<=E.length:=by
 unfold zbj;rw [Ah];exact AW _ _
theorem zkE {E c:List (Of2×Int)} (h:E.Perm c) (s:Str):(zbj E s).Perm (zbj c s):=(h.filter _).map _
theorem ztJ {c:List (Of2×Int)} (h:ANodup c) (s:Str) {x y:StatS} (hx:x∈zbj c s) (hy:y∈zbj c s) (e:x.Name=y.Name):x=y:=by
 unfold zbj at hx hy;obtain ⟨p,hp,rfl⟩:=List.mem_map.1 hx;obtain ⟨p',hp',rfl⟩:=List.mem_map.1 hy;have h1:=List.mem_filter.1 hp;have h2:=List.mem_filter.1 hp';have k1:p.1.1=s:=by have:=h1.2;simp only [BJ,beq_iff_eq] at this;exact this.1
 have k2:p'.1.1=s:=by have:=h2.2;simp only [BJ,beq_iff_eq] at this;exact this.1
 have k3:p.1=p'.1:=Prod.ext (k1.trans k2.symm) e;have a1:=(zga h (x:=p.1) (v:=p.2)).1 h1.1;have a2:=(zga h (x:=p'.1) (v:=p'.2)).1 h2.1;rw [<-k3,a1] at a2;have k4:p.2=p'.2:=Aw a2;have k5:p.1.2=p'.1.2:=e;rw [k4,k5]
theorem zqQ {E c:List (Of2×Int)} (hE:E.Perm c) (hn:ANodup c) {G:Grp StatS} (hG:GOk E G) {s:Str} {l':List StatS} (hp:l'.Perm (gL s G)) (hw:l'.Pairwise fun a b=> ¬zei b a<0):l'=zgq c s:=by
 unfold zgq;rw [hG.raw] at hp;exact zix zgb (fun x y hx hy e=>ztJ hn s hx hy (zcb.1 e)) (hp.trans (zkE hE s)) hw
theorem zqp {E c:List (Of2×Int)} (hE:E.Perm c) {G:Grp StatS} (hG:GOk E G) (s:Str):(gL s G).length=(zbj c s).length:=by
 rw [hG.raw];exact (zkE hE s).length_eq
abbrev zf0 (G:Grp StatS) (N:List Str):Grp StatS:=G.filter fun q=> !(N.contains q.1)
theorem zuV (G:Grp StatS):zf0 G []=G:=by unfold zf0;rw [List.filter_eq_self];simp
theorem zuU {G:Grp StatS} {N:List Str} {s:Str} (h:s∉N):alk s (zf0 G N)=alk s G:=by
 have:=zmU (s:=s) (p:=fun k=> !(N.contains k)) (G:=G);unfold zf0;rw [this,if_pos (by simpa using h)]
theorem ztK (G:Grp StatS) (N:List Str) (s:Str):(zf0 G N).filter (fun q=>decide (q.1≠s))=zf0 G (N++[s]):=by
 unfold zf0;rw [List.filter_filter];refine List.filter_congr fun q _=> ?_
 by_cases h1:q.1∈N<;>by_cases h2:q.1=s<;>simp [h1,h2]
theorem zsD {G:Grp StatS} {N:List Str} (h:ANodup G):ANodup (zf0 G N):=by
 unfold ANodup at*;exact h.sublist ((List.filter_sublist).map _)
theorem zsK {l:List Str} (hn:l.Nodup) {k:Nat} {s:Str} (h:l[k]? =some s):s∉l.take k:=by
 intro hm
 obtain ⟨j,hj⟩:=Be hm;have hjk:j<k:=by have:=zl hj;simp at this;omega
 rw [AC hjk] at hj;have:=zmK hn hj h
 omega
theorem zkp (l:List Str):(za3 l).Perm l:=List.mergeSort_perm _ _
theorem zsm {c:List (Of2×Int)} {S:List Str} {q:Of2×Int} (hq:q∈c) (ho:out q.2 (-100000) 100000=true):zhk c S=true:=by
 unfold zhk;rw [BD];left;rw [B3];exact ⟨q,hq,ho⟩
theorem zsn {c:List (Of2×Int)} {S:List Str} {s:Str} (hs:s∈S) (ho:40<(zbj c s).length):zhk c S=true:=by
 unfold zhk;rw [BD];right;rw [B3];exact ⟨s,hs,by simpa using ho⟩
theorem zti {c:List (Of2×Int)} {S:List Str} (h1: ∀q∈c,out q.2 (-100000) 100000=false) (h2: ∀s∈S,¬40<(zbj c s).length):zhk c S=false:=by
 unfold zhk;rw [BK]
 constructor
 rw [B0];intro q hq;rw [h1 q hq];simp;rw [B0];intro s hs;simpa using h2 s hs
/-! lines-/
theorem zkg {s t:Str} {S:List Str}:t∈zcf s S↔t=s\/t∈S:=by
 unfold zcf
 by_cases h:S.contains s=true
 rw [if_pos h];have:s∈S:=by simpa using h
 constructor
 exact .inr;rintro (rfl|h);exact this;exact h;rw [if_neg h];simp;exact Or.comm
theorem zht {s:Str} {S:List Str} (h:S.Nodup):(zcf s S).Nodup:=by
 unfold zcf
 by_cases hc:S.contains s=true
 rw [if_pos hc];exact h;rw [if_neg hc];exact List.nodup_append.2 ⟨h,by simp,fun a ha b hb=>by simp at hb;subst hb;intro e;subst e;simp at hc;exact hc ha⟩
theorem zrM (s:Str) (S:List Str):(zcf s S).length<=S.length+1:=by
 unfold zcf;split
 omega
 simp
structure LnOk (q:LnS) (n:Nat):Prop where
 c:ANodup q.c
 S:q.S.Nodup
 k: ∀s∈q.S,s.length<=40
 cl:q.c.length<=n
 Sl:q.S.length<=n
 bd: ∀e∈q.c,-(100000*(n:Int))<=e.2/\e.2<=100000*(n:Int)
theorem LnOk.val {q:LnS} {n:Nat} (h:LnOk q n) (s:Of2): -(100000*(n:Int))<=(alk s q.c).getD 0/\(alk s q.c).getD 0<=100000*(n:Int):=by
 cases hq:alk s q.c with
 |none=>simp;omega
 |some v=>exact h.bd _ (zbl hq)
theorem LnOk.put {q:LnS} {n:Nat} (h:LnOk q n) {p:Play} (hp:playFault p=0):LnOk (zvF q p) (n+1):=by
 obtain ⟨_,_,_,_,⟨_,k2,_⟩,hb,_⟩:=zez hp;have hv:=h.val (p.Player,p.Stat);refine ⟨h.c.put,zht h.S,fun s hs=> ?_,Ay (znV _ _ _) (by have:=h.cl;omega),Ay (zrM _ _) (by have:=h.Sl;omega),fun e he=> ?_⟩
 rcases zkg.1 hs with rfl|hs
 exact zrB k2;exact h.k s hs
 rcases zco he with rfl|he
 dsimp only;omega
 have:=h.bd e he;omega
theorem LnOk.up {q:LnS} {n:Nat} (h:LnOk q n):LnOk q (n+1):=
 ⟨h.c,h.S,h.k,by have:=h.cl;omega,by have:=h.Sl;omega,fun e he=>by have:=h.bd e he;omega⟩
theorem zrF {l:List Play} {trust:List Str} {week n:Int}: ∀(m:List Play) (q:LnS) (i:Nat),LnOk q i->(∀x∈m,playFault x=0)->LnOk (m.foldl (zh4 l trust week n) q) (i+m.length)
 |[],q,i,h,_=>h
 |x::m,q,i,h,hm=>by
   have h1:LnOk (zh4 l trust week n q x) (i+1):=by
    unfold zh4;split;exact h.put (hm x Am);exact h.up
   have:=zrF (l:=l) (trust:=trust) (week:=week) (n:=n) m _ (i+1) h1 fun y hy=>hm y (Av _ hy)
   rw [BR,Ak,show i+(m.length+1)=i+1+m.length by omega];exact this
theorem zvG {l m:List Play} {trust:List Str} {week n:Int} (hm: ∀x∈m,playFault x=0):LnOk (zew l trust week n m) m.length:=by
 have:=zrF (l:=l) (trust:=trust) (week:=week) (n:=n) m ⟨[],[]⟩ 0 ⟨ANodup.nil,Bt,(fun s h=>by cases h),Ae _,Ae _,fun e h=>by cases h⟩ hm;rw [A9] at this;exact this
theorem zur {l:List Play} {O:List (Str×Str)} {trust:List Str} {week n:Int} {x:Play} (hO: ∀m,alk m O=zlZ l trust n m)
 (h:(((n<x.At\/¬x.Week=week)\/0<x.Undo)\/(alk (x.Source,x.No) (zkb l n)).getD false=true)\/¬(alk x.Match O).getD []=x.Source):zls l trust week n x=false:=by
 rw [hO] at h;simp only [zls,zqs,Bool.not_eq_false',BD,decide_eq_true_eq,bne_iff_ne,ne_eq];exact h
theorem zus {l:List Play} {O:List (Str×Str)} {trust:List Str} {week n:Int} {x:Play} (hO: ∀m,alk m O=zlZ l trust n m)
 (h:(((x.At<=n/\x.Week=week)/\x.Undo<=0)/\(alk (x.Source,x.No) (zkb l n)).getD false=false)/\(alk x.Match O).getD []=x.Source):zls l trust week n x=true:=by
 rw [hO] at h;obtain ⟨⟨⟨⟨h1,h2⟩,h3⟩,h4⟩,h5⟩:=h;simp only [zls,zqs,h4,h5,h2,Bool.not_eq_true',BK,decide_eq_false_iff_not,bne_self_eq_false,and_true]
 omega
def zjn (l:List Play) (t:List Str) (week n:Int):Int:=if orI [zbT l,zb0 t] !=0 then orI [zbT l,zb0 t] else if !(zcA week)|| !(zY n) then 1 else zqv l t week n
def zjo (l:List Play) (t:List Str) (week n:Int):List LineS:=if orI [zbT l,zb0 t] !=0 then [] else if !(zcA week)|| !(zY n) then [] else zqw l t week n
theorem okPT {l:List Play} {t:List Str} (h:orI [zbT l,zb0 t]=0):zbT l=0/\zb0 t=0:=by
 rw [zey] at h;split at h
 contradiction
 rename_i h1;exact ⟨by simpa using h1,h⟩
end
section
structure MendS where
 Player:Str
 Week:Int
 Stat:Str
 Count:Int
 At:Int
 Version:Int
 By:Str
abbrev zbO (x:MendS):HVal:= .agg [.str x.Player,.int .i64 x.Week,.str x.Stat,.int .i64 x.Count,.int .i64 x.At,.int .i64 x.Version,.str x.By]
abbrev zcc (l:List MendS):HVal:= .slice 7 (l.map zbO)
abbrev Plc:=Str×Int
def zdv:MendS:=⟨[],0,[],0,0,0,[]⟩
def zdK (a b:MendS):Int:=orI [zS a.Player b.Player,zX a.Week b.Week,zS a.Stat b.Stat,zX a.Version b.Version]
section
variable {α:Type}
def zdb (f:α->Int) (c:α->α->Int) (d:α) (l:List α):Nat->List α->Int
 |_,[]=>0
 |k,x::r=>if f x≠0 then f x else if 0<k/\c x (l.getD (k-1) d)<=0 then 7 else zdb f c d l (k+1) r
theorem zqd {f:α->Int} {c:α->α->Int} {d:α} {l:List α} {k:Nat} {x:α} {r:List α} (h1:f x=0) (h2:0<k->¬c x (l.getD (k-1) d)<=0):zdb f c d l k (x::r)=zdb f c d l (k+1) r:=by
 rw [zdb,if_neg (by simp [h1]),if_neg (fun h=>h2 h.1 h.2)]
theorem zs2 {f:α->Int} {c:α->α->Int} {d:α} {l:List α} {k:Nat} {x:α} {r:List α} (h1:f x≠0):zdb f c d l k (x::r)=f x:=by
 rw [zdb,if_pos h1]
theorem zs3 {f:α->Int} {c:α->α->Int} {d:α} {l:List α} {k:Nat} {x:α} {r:List α} (h1:f x=0) (h0:0<k) (h2:c x (l.getD (k-1) d)<=0):zdb f c d l k (x::r)=7:=by
 rw [zdb,if_neg (by simp [h1]),if_pos ⟨h0,h2⟩]
theorem zc3 {c d:α->α->Int} (hc:Cmp c fun _=>True) (hd:Cmp d fun _=>True):Cmp (fun a b=>if c a b≠0 then c a b else d a b) fun _=>True where
 flip x y _ _:=by
  have f1:=hc.flip x y trivial trivial;have f2:=hc.flip y x trivial trivial;have f3:=hd.flip x y trivial trivial
  by_cases h:c x y=0
  have h':c y x=0:=by omega
  rw [if_neg (by simp [h]),if_neg (by simp [h'])];exact f3;have h':c y x≠0:=by omega
  rw [if_pos h,if_pos h'];exact f1
 trans x y z _ _ _ h1 h2:=by
  have fxy:=hc.flip x y trivial trivial;have fyx:=hc.flip y x trivial trivial;have fyz:=hc.flip y z trivial trivial;have fzy:=hc.flip z y trivial trivial;have fxz:=hc.flip x z trivial trivial;have fzx:=hc.flip z x trivial trivial;have a1:c x y<=0:=by split at h1<;>omega
  have a2:c y z<=0:=by split at h2<;>omega
  have a3:=hc.trans x y z trivial trivial trivial a1 a2
  by_cases h:c x z=0
  have b1:=hc.trans z x y trivial trivial trivial (by omega) a1;have b2:=hc.trans y z x trivial trivial trivial a2 (by omega);have e1:c x y=0:=by omega
  have e2:c y z=0:=by omega
  rw [if_neg (by simp [e1])] at h1;rw [if_neg (by simp [e2])] at h2;rw [if_neg (by simp [h])];exact hd.trans x y z trivial trivial trivial h1 h2;rw [if_pos h];exact a3
theorem zfz (f:α->Str):Cmp (fun a b=>zS (f a) (f b)) fun _=>True where
 flip x y _ _:=by rw [zer (f x) (f y)];omega
 trans x y z _ _ _ h1 h2:=zhi h1 h2
theorem zeO (f:α->Int):Cmp (fun a b=>zX (f a) (f b)) fun _=>True where
 flip x y _ _:=by rw [zit (f x) (f y)];omega
 trans x y z _ _ _ h1 h2:=by rw [zro] at*;omega
theorem zwl (a:Int):orI [a]=a:=by
 by_cases h:a=0<;>simp [orI,h]
theorem zdP (a b:Int) (r:List Int):orI (a::b::r)=if a≠0 then a else orI (b::r):=by rw [orI]
end
theorem ziq:Cmp zdK fun _=>True:=by
 have h:=zc3 (zfz MendS.Player) (zc3 (zeO MendS.Week) (zc3 (zfz MendS.Stat) (zeO MendS.Version)));have e:zdK=fun a b=>if zS a.Player b.Player≠0 then zS a.Player b.Player else if zX a.Week b.Week≠0 then zX a.Week b.Week else if zS a.Stat b.Stat≠0 then zS a.Stat b.Stat else zX a.Version b.Version:=by
  funext a b;unfold zdK;rw [zdP,zdP,zey]
 rw [e];exact h
theorem zwm {a b:Int} (h:(if a≠0 then a else b)=0):a=0/\b=0:=by
 split at h
 contradiction
 rename_i h1;exact ⟨by simpa using h1,h⟩
def zaD (x:MendS):Int:=
 if !(key x.Player)|| !(key x.Stat)|| !(key x.By) then 5
 else if !(zcA x.Week)||out x.Count (-100000) 100000|| !(zY x.At)||out x.Version 1 1000 then 1 else 0
def zdX (m:List MendS):Int:=if 500<m.length then 2 else zdb zaD zdK zdv m 0 m
theorem zqy {x:MendS} (h:zaD x=0):key x.Player=true/\key x.Stat=true/\zcA x.Week=true/\(-100000<=x.Count/\x.Count<=100000)/\zY x.At=true:=by
 unfold zaD at h
 split at h
 omega
 split at h
 omega
 rename_i h1 h2
 simp only [BD,Bool.not_eq_true',not_or,Bool.not_eq_false,Bool.not_eq_true] at h1 h2;exact ⟨h1.1.1,h1.1.2,h2.1.1.1,zeT h2.1.1.2,h2.1.2⟩
theorem ziD {m r:List MendS} {k:Nat} {x:MendS} {c:Int} (hl: ¬500<m.length) (hg:zdb zaD zdK zdv m 0 m=zdb zaD zdK zdv m k (x::r)) (hc:c≠0) (hf:zaD x=c):c=zdX m:=by
 rw [zdX,if_neg hl,hg,zs2 (by rw [hf];exact hc),hf]
theorem zoW {m r:List MendS} {k:Nat} {x:MendS} (hl: ¬500<m.length) (hg:zdb zaD zdK zdv m 0 m=zdb zaD zdK zdv m k (x::r)) (hf:zaD x=0) (h0:0<k) (h:zdK x (m.getD (k-1) zdv)<=0):7=zdX m:=by
 rw [zdX,if_neg hl,hg,zs3 hf h0 h]
end
section
open Op
structure PlayerS where
 Key:Str
 Name:Str
 Positions:List Str
structure StintS where
 Player:Str
 Club:Str
 Week:Int
structure HealthS where
 Player:Str
 From:Int
 To:Int
 Kind:Int
structure FixS where
 Week:Int
 At:Int
 Home:Str
 Away:Str
structure RuleS where
 Key:Str
 Stat:Str
 Position:Str
 Kind:Int
 Many:Int
 Num:Int
 Den:Int
structure SlotS where
 Key:Str
 Positions:List Str
structure BoundS where
 Most:Int
 Hurt:Int
 Adds:Int
 Hold:Int
structure MoveS where
 At:Int
 Kind:Int
 Team:Str
 Player:Str
structure GameS where
 Week:Int
 Home:Str
 Away:Str
 Played:Bool
 FNum:Int
 FDen:Int
 ONum:Int
 ODen:Int
structure ChoiceS where
 Team:Str
 Week:Int
 At:Int
 Players:List Str
 Captain:Str
structure LeagueS where
 Players:List PlayerS
 Stints:List StintS
 Fixtures:List FixS
 Rules:List RuleS
 Slots:List SlotS
 Bounds:BoundS
 Teams:List Str
 Games:List GameS
 Breaks:List Int
 Trust:List Str
 Start:Int
def HasAB (T:List Str):Prop:=T.contains [116,97]=true/\T.contains [116,98]=true
theorem HasAB.app {T:List Str} (h:HasAB T) (U:List Str):HasAB (T++U):=by
 unfold HasAB at*;simp only [List.contains_eq_mem,decide_eq_true_eq,List.mem_append] at*;exact ⟨.inl h.1,.inl h.2⟩
abbrev zc4 (x:PlayerS):HVal:= .agg [.str x.Key,.str x.Name,eSs x.Positions]
abbrev zaT (l:List PlayerS):HVal:= .slice 3 (l.map zc4)
abbrev zcd (x:StintS):HVal:= .agg [.str x.Player,.str x.Club,.int .i64 x.Week]
abbrev zd2 (l:List StintS):HVal:= .slice 3 (l.map zcd)
abbrev zbF (x:HealthS):HVal:= .agg [.str x.Player,.int .i64 x.From,.int .i64 x.To,.int .i64 x.Kind]
abbrev zbN (l:List HealthS):HVal:= .slice 4 (l.map zbF)
abbrev zaL (x:FixS):HVal:= .agg [.int .i64 x.Week,.int .i64 x.At,.str x.Home,.str x.Away]
abbrev zj8 (l:List FixS):HVal:= .slice 4 (l.map zaL)
abbrev zpG (x:RuleS):HVal:= .agg [.str x.Key,.str x.Stat,.str x.Position,.int .i64 x.Kind,.int .i64 x.Many,.int .i64 x.Num,.int .i64 x.Den]
abbrev zhW (l:List RuleS):HVal:= .slice 7 (l.map zpG)
abbrev zbs (x:SlotS):HVal:= .agg [.str x.Key,eSs x.Positions]
abbrev zgP (l:List SlotS):HVal:= .slice 2 (l.map zbs)
abbrev zdy (x:BoundS):HVal:= .agg [.int .i64 x.Most,.int .i64 x.Hurt,.int .i64 x.Adds,.int .i64 x.Hold]
abbrev zci (x:MoveS):HVal:= .agg [.int .i64 x.At,.int .i64 x.Kind,.str x.Team,.str x.Player]
abbrev zbz (l:List MoveS):HVal:= .slice 4 (l.map zci)
abbrev zaG (x:GameS):HVal:= .agg [.int .i64 x.Week,.str x.Home,.str x.Away,.bool x.Played,.int .i64 x.FNum,.int .i64 x.FDen,.int .i64 x.ONum,.int .i64 x.ODen]
abbrev zjw (l:List GameS):HVal:= .slice 8 (l.map zaG)
abbrev zao (x:ChoiceS):HVal:= .agg [.str x.Team,.int .i64 x.Week,.int .i64 x.At,eSs x.Players,.str x.Captain]
abbrev zmE (l:List ChoiceS):HVal:= .slice 5 (l.map zao)
abbrev zvR (g:LeagueS):List HVal:=[zaT g.Players,zd2 g.Stints,zj8 g.Fixtures,zhW g.Rules,zgP g.Slots,.int .i64 g.Bounds.Most,.int .i64 g.Bounds.Hurt,.int .i64 g.Bounds.Adds,.int .i64 g.Bounds.Hold,eSs g.Teams,zjw g.Games,eIs g.Breaks,eSs g.Trust,.int .i64 g.Start]
abbrev zd1 (g:LeagueS):HVal:= .agg (zvR g)
def zc7:PlayerS:=⟨[],[],[]⟩
def zdY:StintS:=⟨[],[],0⟩
def zeS:HealthS:=⟨[],0,0,0⟩
def zi2:FixS:=⟨0,0,[],[]⟩
def ziG:RuleS:=⟨[],[],[],0,0,0,0⟩
def zhn:MoveS:=⟨0,0,[],[]⟩
def zdu:GameS:=⟨0,[],[],false,0,0,0,0⟩
def zeN:ChoiceS:=⟨[],0,0,[],[]⟩
/-! lists looked through element by element,each with the one ahead-/
section
variable {α:Type}
def zaO (g:Nat->α->α->Int) (d:α) (l:List α):Nat->List α->Int
 |_,[]=>0
 |k,x::r=>if g k x (l.getD (k-1) d)≠0 then g k x (l.getD (k-1) d) else zaO g d l (k+1) r
def zdO (n:Nat) (g:Nat->α->α->Int) (d:α) (l:List α):Int:=if n<l.length then 2 else zaO g d l 0 l
variable {g:Nat->α->α->Int} {d:α} {l r:List α} {k n:Nat} {x:α} {e:Int}
theorem zaN (h:g k x (l.getD (k-1) d)=0):zaO g d l k (x::r)=zaO g d l (k+1) r:=by rw [zaO,if_neg (fun q=>q h)]
theorem zbW (h:n<l.length):2=zdO n g d l:=by rw [zdO,if_pos h]
theorem zbG (hn: ¬n<l.length) (hg:zaO g d l 0 l=zaO g d l l.length []):0=zdO n g d l:=by rw [zdO,if_neg hn,hg];rfl
theorem zA (hn: ¬n<l.length) (hg:zaO g d l 0 l=zaO g d l k (x::r)) (he:g k x (l.getD (k-1) d)=e) (h0:e≠0):e=zdO n g d l:=by
 rw [zdO,if_neg hn,hg,zaO,if_pos (by rw [he];exact h0),he]
theorem zqe: ∀{r:List α} {k:Nat},l.drop k=r->zaO g d l k r=0->∀(i:Nat) (x:α),k<=i->l[i]? =some x->g i x (l.getD (i-1) d)=0
 |[],k,hd,_,i,x,hi,hx=>by
   have h1:l.length<=k:=by simpa using hd
   have:=zl hx
   omega
 |y::r,k,hd,h,i,x,hi,hx=>by
   rw [zaO] at h
   split at h
   contradiction
   rename_i h0
   rcases Nat.eq_or_lt_of_le hi with e|e
   subst e;have:l[k]? =some y:=by have:=congrArg (fun q:List α=>q[0]?) hd;simpa using this
   rw [this] at hx;cases hx
   simpa using h0
   exact zqe (by rw [<-Bs (i:=1),hd];rfl) h i x e hx
theorem zof (h:zdO n g d l=0):l.length<=n/\∀(i:Nat) (x:α),l[i]? =some x->g i x (l.getD (i-1) d)=0:=by
 unfold zdO at h
 split at h
 contradiction
 exact ⟨by omega,fun i x hx=>zqe (k:=0) rfl h i x (Ad _) hx⟩
end
/-! what is wrong-/
abbrev leB (a b:Str):Bool:=bytesLess a b||a==b
def zgl (l:List Str):Int:=if l.length=0 then 8 else if 10<l.length then 2 else zdA l
def zb2 (k:Nat) (x p:PlayerS):Int:=if key x.Key=false then 5 else if 0<k/\leB x.Key p.Key=true then 7 else zgl x.Positions
def zce (l:List PlayerS):Int:=zdO 500 zb2 zc7 l
def zeR (l:List PlayerS) (s:Str):Bool:=(l.map (·.Key)).contains s
def zcV (L:List PlayerS) (k:Nat) (x p:StintS):Int:=
 if zeR L x.Player=false then 8 else if x.Club≠[]/\key x.Club=false then 5 else if zcA x.Week=false then 1
 else if 0<k/\orI [zS x.Player p.Player,zX x.Week p.Week]<=0 then 7 else 0
def zg5 (L:List PlayerS) (l:List StintS):Int:=zdO 1000 (zcV L) zdY l
def zlL (L:List PlayerS) (l:List StintS):Int:=if zce L≠0 then zce L else zg5 L l
def zbn (L:List PlayerS) (k:Nat) (x p:HealthS):Int:=
 if zeR L x.Player=false then 8 else if out x.To 2 61=true\/out x.From 1 (x.To-1)=true then 1 else if out x.Kind 1 2=true then 4
 else if 0<k/\orI [zS x.Player p.Player,zX x.From p.From]<=0 then 7 else if 0<k/\x.Player=p.Player/\x.From<p.To then 13 else 0
def zob (L:List PlayerS) (l:List HealthS):Int:=zdO 1000 (zbn L) zeS l
def zoa (L:List PlayerS) (l:List HealthS):Int:=if zce L≠0 then zce L else zob L l
def zeu (k:Nat) (x p:FixS):Int:=
 if zcA x.Week=false\/zY x.At=false then 1 else if key x.Home=false\/key x.Away=false then 5 else if x.Home=x.Away then 6
 else if 0<k/\orI [zX x.Week p.Week,zX x.At p.At,zS x.Home p.Home]<=0 then 7 else 0
def zhZ (l:List FixS):Int:=zdO 1000 zeu zi2 l
def zmJ (n d:Int):Bool:=Nat.gcd n.natAbs d.natAbs==1
def zcj (n d most:Int):Int:=if d<1\/zmJ n d=false then 3 else if (100:Int).tmod d≠0\/out n (-most*d) (most*d)=true then 1 else 0
def zpK (k:Int):Bool:=k==2||k==3
def zdd (k:Nat) (x p:RuleS):Int:=
 if (key x.Key=false\/key x.Stat=false)\/x.Position≠[]/\key x.Position=false then 5 else if 0<k/\leB x.Key p.Key=true then 7
 else if out x.Kind 1 4=true then 4 else if zpK x.Kind=true/\out x.Many 1 100000=true\/zpK x.Kind=false/\x.Many≠0 then 1
 else zcj x.Num x.Den 10000
def zh8 (l:List RuleS):Int:=zdO 100 zdd ziG l
def zbU (l:List SlotS):Nat->List SlotS->Int
 |_,[]=>0
 |k,x::r=>if key x.Key=false then 5 else if ((l.take k).any fun y=>y.Key==x.Key)=true then 6 else if zgl x.Positions≠0 then zgl x.Positions else zbU l (k+1) r
def zdR (l:List SlotS):Int:=if l.length=0 then 8 else if 12<l.length then 2 else zbU l 0 l
def zbL (b:BoundS):Int:=if ((out b.Most 1 20=true\/out b.Hurt 0 20=true)\/out b.Adds 0 2000=true)\/out b.Hold 0 1209600000=true then 1 else 0
def zfb (a b:MoveS):Int:=orI [zX a.At b.At,zS a.Team b.Team,zS a.Player b.Player,zX a.Kind b.Kind]
def zdt (k:Nat) (x p:MoveS):Int:=
 if zY x.At=false then 1 else if out x.Kind 1 4=true then 4 else if key x.Team=false\/key x.Player=false then 5
 else if 0<k/\zfb x p<=0 then 7 else 0
def zcw (l:List MoveS):Int:=zdO 2000 zdt zhn l
def zcY (l:List Str):Int:=if 20<l.length then 2 else if l.length<2 then 8 else zdA l
def zeI (a b:GameS):Int:=orI [zX a.Week b.Week,zS a.Home b.Home,zS a.Away b.Away]
def zfQ (x:GameS):Int:=
 if x.Played=false then (if ¬(x.FNum=0/\x.FDen=0)\/¬(x.ONum=0/\x.ODen=0) then 3 else 0)
 else if zcj x.FNum x.FDen 1000000=3\/zcj x.ONum x.ODen 1000000=3 then 3 else orI [zcj x.FNum x.FDen 1000000,zcj x.ONum x.ODen 1000000]
def zbP (T:List Str) (k:Nat) (x p:GameS):Int:=
 if zcA x.Week=false then 1 else if T.contains x.Home=false\/T.contains x.Away=false then 8 else if x.Home=x.Away then 6
 else if zfQ x≠0 then zfQ x else if 0<k/\zeI x p<=0 then 7 else 0
def zgO (x y:GameS):Bool:=y.Week==x.Week&&(y.Home==x.Home||y.Home==x.Away||y.Away==x.Home||y.Away==x.Away)
def zcU (l:List GameS):Nat->List GameS->Bool
 |_,[]=>false
 |k,x::r=>(l.take k).any (zgO x)||zcU l (k+1) r
def zdm (T:List Str) (l:List GameS):Int:=if zdO 1000 (zbP T) zdu l≠0 then zdO 1000 (zbP T) zdu l else if zcU l 0 l=true then 13 else 0
def zfP (T:List Str) (l:List GameS):Int:=if zcY T≠0 then zcY T else zdm T l
def zc9 (l:List Int):Nat->List Int->Int
 |_,[]=>0
 |k,n::r=>if out n 1 5=true then 4 else if (l.take k).contains n=true then 6 else zc9 l (k+1) r
def zg0 (l:List Int):Int:=if 5<l.length then 2 else zc9 l 0 l
end
section
section
variable {α:Type}
def Srt (c:α->α->Int) (l:List α):Prop:=l.Pairwise fun a b=>c a b<=0
theorem Cmp.self {c:α->α->Int} (hc:Cmp c fun _=>True) (x:α):c x x<=0:=by
 have:=hc.flip x x trivial trivial;omega
theorem Srt.get {c:α->α->Int} (hc:Cmp c fun _=>True) {l:List α} (h:Srt c l) {i j:Nat} {x y:α} (hij:i<=j) (hx:l[i]? =some x) (hy:l[j]? =some y):c x y<=0:=by
 rcases Az i j with hlt|hge
 have h1:=zl hx;have h2:=zl hy;have:=List.pairwise_iff_getElem.1 h i j h1 h2 hlt;rw [Aa h1] at hx;rw [Aa h2] at hy;rw [Aw hx,Aw hy] at this;exact this;have e:i=j:=by omega
 rw [e,hy] at hx;rw [Aw hx];exact hc.self _
theorem Srt.take {c:α->α->Int} {l:List α} (h:Srt c l) (k:Nat):Srt c (l.take k):=List.Pairwise.sublist (List.take_sublist k l) h
theorem Srt.drop {c:α->α->Int} {l:List α} (h:Srt c l) (k:Nat):Srt c (l.drop k):=List.Pairwise.sublist (List.drop_sublist k l) h
theorem Srt.nil {c:α->α->Int}:Srt c []:=List.Pairwise.nil
end
end
end Go.HL
section
namespace Go.HL
section
variable {P:Program} {ops:Array Oper} {n:Nat} {S:List MObj->Prop} {ld:List Nat} {K:Env->List MObj->Prop} {e:Env} {M:List MObj} {listed:Array Bool} {fuel:Nat} {d:Nat} {op:Op} {ty:TypeId} {pos:String} {af:Array Edge} {h:HVal}
theorem znS [Tracks] (i:Nat) {j:Nat} {want c:Bool} (hi:ops[i]? =some ⟨some d,op,ty,pos,af,some (j,want)⟩) (hd:Nat.blt d n=true) (hf:Region.free .any ops listed i=true) (hr:(Region.ready .any ops listed).contains i=true) (hl:i∈ld) (hS:S M)
 (hg:zde ops e j want=some c) (hp:c=true->∃e2,OpenTo e e2/\∀M,S M->EOp P e2 M ⟨some d,op,ty,pos,af,some (j,want)⟩ fun x M'=>x=h/\M'=M)
 (k:HAny P ops n S ld K fuel (listed.setIfInBounds i true) (upd e d (.opt c h)) M):HAny P ops n S ld K (fuel+1) listed e M:=
 HAny.first (T:=S) hi (fun t ht=>by simp at ht;subst ht;exact ze6 hd) (.inr ⟨rfl,hl⟩) fuel listed e M (Region.free_spec hi hf) (by simpa using hr)
  ⟨c,hg,fun hc M hM=>by
   obtain ⟨e2,h1,h2⟩:=hp hc
   intro I F a w ho hs
   exact zaZ (fun _ _ ⟨v,x,M',J,h3,h4,⟨e1,e3⟩,h5,h6⟩=>⟨v,.opt c h,M,J,h3,h4,⟨rfl,rfl⟩,.opt (fun _=>e1▸h5) (fun hf=>by rw [hc] at hf;cases hf),e3▸h6⟩) (h2 M hM I F a w (ho.open h1) hs),
   fun hc=>⟨h,by rw [hc]⟩⟩ hS k
end
theorem zze {x:Nat} (h:x<16):IntKind.wrap .u8 (x:Int)=(x:Int):=by
 have:(List.range 16).all (fun x=>IntKind.wrap .u8 (x:Int)==(x:Int))=true:=by decide
 simpa using List.all_eq_true.1 this x (List.mem_range.2 h)
theorem zwK {x:Nat} (h:x<16):IntKind.wrap .u64 (x:Int)=(x:Int):=by
 have:(List.range 16).all (fun x=>IntKind.wrap .u64 (x:Int)==(x:Int))=true:=by decide
 simpa using List.all_eq_true.1 this x (List.mem_range.2 h)
theorem zL {k:IntKind} {a b:Int} (h:a=b):some (HVal.int k a)=some (.int k b):=by rw [h]
section
variable {α:Type} {c:α->α->Int}
theorem zi8 (l:List α):zag c (l.take 1)++l.drop 1=l:=by
 cases l with
 |nil=>rfl
 |cons x r=>simp [zag,zcv,zkc]
theorem zeQ {A R:List α} {x:α}:(A++x::R)[A.length]? =some x:=by simp
theorem zfR {A R:List α} {x:α} (h:0<A.length):(A++x::R)[A.length-1]? =some ((A[A.length-1]?).getD x):=by
 rw [Aq (by omega),Aa (by omega)]
 simp [Aa (show A.length-1<A.length by omega)]
theorem zlY {A:List α} (h:0<A.length): ∃B y,A=B++[y]:=by
 have hne:A≠[]:=fun e=>by subst e;simp at h
 exact ⟨_,_,(Bi hne).symm⟩
theorem zgT {A:List α} {y d:α}:((A++[y])[(A++[y]).length-1]?).getD d=y:=by simp
theorem zmO {A R:List α} {x y:α}:(((A++[y])++x::R).set (A++[y]).length y).set ((A++[y]).length-1) x=A++x::y::R:=by
 have e1:((A++[y])++x::R).set (A++[y]).length y=(A++[y])++y::R:=by rw [B8 _ _ (Ae _)];simp
 rw [e1,AT];have e2:(A++[y]).length-1=A.length:=by simp
 rw [e2,B8 _ _ (Ae _)]
 simp
theorem zmH {l A B:List α} {x:α} {k:Nat} (hx:l[k]? =some x) (hB:zcv c x (zag c (l.take k))=zcv c x A++B) (h:0<A.length->¬c x ((A[A.length-1]?).getD x)<0):A++x::(B++l.drop (k+1))=zag c (l.take (k+1))++l.drop (k+1):=by
 rw [zaj hx,znl,hB]
 rcases A0 A.length with h0|h0
 obtain rfl:=List.length_eq_zero_iff.1 h0
 simp [zut]
 obtain ⟨A',y,rfl⟩:=zlY h0;have:=h h0;rw [zgT] at this;rw [zoQ,if_neg this];simp
theorem zmI {A B:List α} {x y:α} {S:List α} (hB:zcv c x S=zcv c x (A++[y])++B) (h:c x y<0):zcv c x S=zcv c x A++(y::B):=by
 rw [hB,zoQ,if_pos h];simp
end
end Go.HL
namespace Go.HL
section
variable {α:Type} {p:α->Bool}
structure DelInv (p:α->Bool) (l:List α) (j:Nat) (D:List α):Prop where
 len:D.length=l.length
 jle:j<=l.length
 lt:((l.take j).filter (fun x=> !p x)).length<j
 kept:D.take ((l.take j).filter (fun x=> !p x)).length=(l.take j).filter (fun x=> !p x)
 rest:D.drop j=l.drop j
theorem zi1 {l:List α} {j:Nat} {x:α} (hx:l[j]? =some x):(l.take (j+1)).filter (fun x=> !p x)=(l.take j).filter (fun x=> !p x)++if p x then [] else [x]:=by
 rw [zaj hx,BE]
 by_cases h:p x<;>simp [h]
theorem DelInv.get {l D:List α} {j:Nat} {x:α} (h:DelInv p l j D) (hx:l[j]? =some x):D[j]? =some x:=by
 have h1:=congrArg (fun t=>t[0]?) h.rest;simp only [AI,Bw] at h1;rw [h1];exact hx
theorem DelInv.drop1 {l D:List α} {j:Nat} (h:DelInv p l j D):D.drop (j+1)=l.drop (j+1):=by
 have:=congrArg (List.drop 1) h.rest
 simpa [Bs] using this
theorem DelInv.skip {l D:List α} {j:Nat} {x:α} (h:DelInv p l j D) (hx:l[j]? =some x) (hp:p x=true):DelInv p l (j+1) D/\((l.take (j+1)).filter (fun x=> !p x)).length=((l.take j).filter (fun x=> !p x)).length:=by
 have e:=zi1 (p:=p) hx;rw [if_pos hp,A7] at e;refine ⟨⟨h.len,by have:=zl hx;omega,by rw [e];have:=h.lt;omega,by rw [e];exact h.kept,h.drop1⟩,by rw [e]⟩
theorem DelInv.keep {l D:List α} {j:Nat} {x:α} (h:DelInv p l j D) (hx:l[j]? =some x) (hp:p x=false):
 DelInv p l (j+1) (D.set ((l.take j).filter (fun x=> !p x)).length x)/\((l.take (j+1)).filter (fun x=> !p x)).length=((l.take j).filter (fun x=> !p x)).length+1:=by
 have e:=zi1 (p:=p) hx;rw [if_neg (by simp [hp])] at e;have hlt:=h.lt;have hj:=zl hx;have hl:=h.len;have el:((l.take (j+1)).filter (fun x=> !p x)).length=((l.take j).filter (fun x=> !p x)).length+1:=by rw [e];simp
 refine ⟨⟨by simp [hl],by omega,by omega,?_,?_⟩,el⟩
 rw [el,e];have hk:=h.kept
 generalize ((l.take j).filter (fun x=> !p x))=F at*
 rw [zaj (Bk (by omega)),List.take_set_of_le (Ae _),hk];rw [List.drop_set_of_lt (by omega)];exact h.drop1
theorem zhl (p:α->Bool): ∀(l:List α) (k:Int),0<=k->zaf p l k≠ -1->∃i:Nat,zaf p l k=k+i/\i<l.length/\(∃x,l[i]? =some x/\p x=true)/\∀y∈l.take i,p y=false
 |[],k,_,h=>by simp [zaf] at h
 |x::r,k,h0,h=>by
   by_cases hx:p x=true
   exact ⟨0,by simp [zaf,hx],by simp,⟨x,rfl,hx⟩,by simp⟩;have e:zaf p (x::r) k=zaf p r (k+1):=by simp [zaf,hx]
   rw [e] at h⊢;obtain ⟨i,h1,h2,⟨y,h3,h4⟩,h5⟩:=zhl p r (k+1) (by omega) h;refine ⟨i+1,by rw [h1];simp;omega,by simp;omega,⟨y,by simpa using h3,h4⟩,fun z hz=> ?_⟩
   simp only [BP,BB] at hz
   rcases hz with rfl|hz
   simpa using hx
   exact h5 z hz
theorem ziw (p:α->Bool): ∀(l:List α) (k:Int),0<=k->zaf p l k= -1->l.filter (fun x=> !p x)=l
 |[],_,_,_=>rfl
 |x::r,k,h0,h=>by
   by_cases hx:p x=true
   simp [zaf,hx] at h;omega
   have e:zaf p (x::r) k=zaf p r (k+1):=by simp [zaf,hx]
   rw [e] at h;rw [AV,if_pos (by simp [hx]),ziw p r (k+1) (by omega) h]
theorem DelInv.start {l:List α} {i:Nat} {x:α} (hi:i<l.length) (hx:l[i]? =some x) (hp:p x=true) (hb: ∀y∈l.take i,p y=false):DelInv p l (i+1) l/\((l.take (i+1)).filter (fun x=> !p x)).length=i:=by
 have e:=zi1 (p:=p) hx;rw [if_pos hp,A7,(List.filter_eq_self (l:=l.take i) (p:=fun x=> !p x)).2 (fun y hy=>by simp [hb y hy])] at e;have hl:(l.take i).length=i:=by simp;omega
 refine ⟨⟨rfl,by omega,by rw [e];omega,by rw [e,hl],rfl⟩,by rw [e,hl]⟩
theorem DelInv.done {l D:List α} (h:DelInv p l l.length D):D.take (l.filter (fun x=> !p x)).length=l.filter (fun x=> !p x):=by
 have:=h.kept
 rwa [Ap] at this
end
theorem zia {cap off sz m n:Nat} (h1:m<=n) (h2:n<=cap):n-m=0\/zgB cap off sz m=off+m*sz:=by
 unfold zgB
 by_cases h:cap=m
 exact .inl (by omega);exact .inr (by rw [if_neg h])
end Go.HL
namespace Go.HL
end Go.HL
end
namespace Go.HL
section
section
variable {α:Type} {c:α->α->Int}
def Blk (c:α->α->Int) (bs:Nat) (l:List α):Prop:= ∀q,Srt c ((l.drop (bs*q)).take bs)
theorem Blk.all {bs:Nat} {l:List α} (h:Blk c bs l) (hl:l.length<=bs):Srt c l:=by
 have:=h 0;rw [Nat.mul_zero,BW,Bl hl] at this;exact this
theorem Blk.nil {bs:Nat}:Blk c bs []:=fun q=>by simp [Srt.nil]
theorem Blk.add {bs k:Nat} {Z W:List α} (h:Blk c bs Z) (hZ:Z.length=bs*k) (hW:Srt c W) (hl:W.length<=bs):Blk c bs (Z++W):=by
 intro q
 rcases BH q k with hq|hq|hq
 have h1:bs*q+bs<=Z.length:=by rw [hZ,<-Nat.mul_succ];exact Nat.mul_le_mul_left bs hq
 rw [List.drop_append_of_le_length (by omega),List.take_append_of_le_length (by rw [Bb];omega)];exact h q;rw [hq,<-hZ,List.drop_left,Bl hl];exact hW;have h1:Z.length+bs<=bs*q:=by rw [hZ,<-Nat.mul_succ];exact Nat.mul_le_mul_left bs hq
 rw [List.drop_of_length_le (by rw [AA];omega)]
 simp [Srt.nil]
theorem Blk.at {bs q a:Nat} {l:List α} (h:Blk c bs l) (ha:a=bs*q):Srt c ((l.drop a).take bs):=by rw [ha];exact h q
theorem zuw {A D:List α} {x:α} (h:0<D.length):((A++D)[(A++D).length-1]?).getD x=(D[D.length-1]?).getD x:=by
 rw [Ao (by rw [AA];omega)]
 congr 2;rw [AA];omega
theorem zlx {A D:List α} {x:α} (h:0<D.length):((A++D)[A.length+D.length-1]?).getD x=(D[D.length-1]?).getD x:=by
 have:=zuw (A:=A) (x:=x) h;rw [AA] at this;exact this
theorem zqt {A D:List α} {x y:α}:((A++(D++[y]))[A.length+(D++[y]).length-1]?).getD x=y:=by
 rw [zlx (by simp)];exact zgT
theorem zke {A D R:List α} {x y:α}:((A++(D++[y]))++x::R)[(A++(D++[y])).length-1]? =some y:=by
 have e:(A++(D++[y]))++x::R=(A++D)++y::x::R:=by simp
 have hl:(A++(D++[y])).length-1=(A++D).length:=by simp [<-AZ]
 rw [e,hl];simp
theorem zrA {A D B E C R:List α} {x:α} (h:D++x::(B++E)=R):(A++D)++x::(B++E++C)=A++R++C:=by rw [<-h];simp
theorem ziy (hc:Cmp c fun _=>True) (l:List α):Srt c (zag c l):=zh2 hc (fun _ _=>trivial)
theorem win {l:List α} {a m:Nat}:l.drop a=(l.drop a).take m++l.drop (a+m):=by rw [<-Bs,Bd]
theorem zpb {l:List α} {a m:Nat}:l.take (a+m)=l.take a++(l.drop a).take m:=List.take_add
end
end
section
section
variable {α:Type} [DecidableEq α]
def zT (p:Option α):List α->List α
 |[]=>[]
 |x::r=>if p=some x then zT (some x) r else x::zT (some x) r
theorem zly: ∀(l:List α) (p:Option α) (s:α),s∈zT p l->s∈l
 |[],_,s,h=>by simp [zT] at h
 |x::r,p,s,h=>by
   simp only [zT] at h
   split at h
   exact Av _ (zly r _ s h)
   rcases List.mem_cons.1 h with h|h
   subst h;simp;exact Av _ (zly r _ s h)
theorem znO (x:α): ∀(A:List α) (p:Option α),zT p (A++[x])=zT p A++if (A.getLast?.or p)=some x then [] else [x]
 |[],p=>by
   by_cases h:p=some x<;>simp [zT,h]
 |y::A,p=>by
   have ih:=znO x A (some y);have e:((y::A).getLast?.or p)=(A.getLast?.or (some y)):=by
    cases A with
    |nil=>simp
    |cons z A=>simp [List.getLast?_cons_cons,List.getLast?_cons]
   simp only [AY,zT];rw [e,ih]
   split<;>simp
theorem zhv {l:List α} {k:Nat} {x y:α} (hx:l[k]? =some x) (hy:l[k-1]? =some y) (h0:0<k):zT none (l.take (k+1))=zT none (l.take k)++if x=y then [] else [x]:=by
 have hk:=zl hx;rw [zaj hx,znO];have e:((l.take k).getLast?.or none)=some y:=by
  rw [List.getLast?_eq_getElem?,AD,Cb (by omega),AC (by omega),hy];rfl
 rw [e]
 by_cases h:x=y
 rw [if_pos h,if_pos (by rw [h])];rw [if_neg h,if_neg (by simpa using fun q:y=x=>h q.symm)]
theorem zpd {l:List α} (h:l.length<2):zT none l=l:=by
 match l,h with
 |[],_=>rfl
 |[x],_=>rfl
structure CmpA (l:List α) (j:Nat) (D:List α):Prop where
 len:D.length=l.length
 lo:D.take (zT none (l.take j)).length=zT none (l.take j)
 lt:(zT none (l.take j)).length<j
 hi: ∀i,j<=i+1->D[i]? =l[i]?
theorem CmpA.start {l:List α} {k:Nat} {x y:α} (hx:l[k]? =some x) (hy:l[k-1]? =some y) (h0:0<k) (e:x=y) (h:zT none (l.take k)=l.take k):CmpA l (k+1) l/\(zT none (l.take (k+1))).length=k:=by
 have hk:=zl hx;have h1:zT none (l.take (k+1))=l.take k:=by rw [zhv hx hy h0,if_pos e,h];simp
 have h2:(l.take k).length=k:=by rw [AD];omega
 exact ⟨⟨rfl,by rw [h1,h2],by rw [h1,h2];omega,fun _ _=>rfl⟩,by rw [h1,h2]⟩
theorem CmpA.same {l D:List α} {j:Nat} (h:CmpA l j D) {x y:α} (hx:l[j]? =some x) (hy:l[j-1]? =some y) (e:x=y):CmpA l (j+1) D/\(zT none (l.take (j+1))).length=(zT none (l.take j)).length:=by
 have h0:=h.lt;have h1:zT none (l.take (j+1))=zT none (l.take j):=by rw [zhv hx hy (by omega),if_pos e];simp
 exact ⟨⟨h.len,by rw [h1];exact h.lo,by rw [h1];omega,fun i hi=>h.hi i (by omega)⟩,by rw [h1]⟩
theorem CmpA.more {l D:List α} {j:Nat} (h:CmpA l j D) {x y:α} (hx:l[j]? =some x) (hy:l[j-1]? =some y) (e:x≠y):CmpA l (j+1) (D.set (zT none (l.take j)).length x)/\(zT none (l.take (j+1))).length=(zT none (l.take j)).length+1:=by
 have h0:=h.lt;have hl:=h.len;have hj:=zl hx;have h1:zT none (l.take (j+1))=zT none (l.take j)++[x]:=by rw [zhv hx hy (by omega),if_neg e]
 have h2:(zT none (l.take (j+1))).length=(zT none (l.take j)).length+1:=by rw [h1];simp
 refine ⟨⟨by simpa using hl,?_,by omega,fun i hi=> ?_⟩,h2⟩
 rw [h2,h1];have h3:(D.set (zT none (l.take j)).length x)[(zT none (l.take j)).length]? =some x:=by
  rw [Bk (by omega)]
 rw [zaj h3,List.take_set_of_le (Ae _),h.lo];rw [A2 (by omega)];exact h.hi i (by omega)
theorem zpc: ∀(l:List α) (p:Option α),(zT p l).length<=l.length
 |[],p=>by simp [zT]
 |x::r,p=>by
   have:=zpc r (some x);simp only [zT]
   split
   simp only [Ak];omega;simp only [Ak];omega
theorem zo8 {cap off sz m:Nat} (h:m<cap):zgB cap off sz m=off+m*sz:=by
 unfold zgB;rw [if_neg (by omega)]
/-! two lists without repeats,each strictly sorted-/
variable {c:α->α->Int}
end
end
end Go.HL
section
namespace Go.HL
theorem zqR (a b:List Asset):zdC (a++b)=zdC a+zdC b:=by simp [zdC]
theorem zos: ∀{L:List Asset},(∀x∈L,-1000000<=x.Value/\x.Value<=1000000)-> -1000000*(L.length:Int)<=zdC L/\zdC L<=1000000*(L.length:Int)
 |[],_=>by simp [zdC]
 |x::L,h=>by
   have ih:=zos (L:=L) fun y hy=>h y (Av _ hy)
   have hx:=h x (by simp);have e:zdC (x::L)=x.Value+zdC L:=by simp [zdC]
   rw [e,Ak];omega
theorem znn {l:List Asset} {pos:Str} {m:Int} {y:Asset} (h:y∈zeq (ofP l pos) m):y∈l:=by
 unfold zeq at h;have h1:=AR (List.mem_filter.1 h).1;unfold ofP zfH at h1;exact (List.mem_filter.1 ((zlu byValue).1 h1)).1
theorem zsf (o:List Asset) (m:Int):(zeq o m).length<=o.length:=by
 unfold zeq;refine Ay (AW _ _) ?_
 simp;omega
theorem zkD (f:Str->List Asset) {p:List Place} {i:Nat} {x:Place} (h:p[i]? =some x):zal f (p.take (i+1))=zal f (p.take i)++zeq (f x.Position) x.Many:=by
 rw [zaj h];simp [zal]
theorem zll {f:Str->List Asset} {n:Nat} (hf: ∀s,(f s).length<=n): ∀p:List Place,(zal f p).length<=n*p.length
 |[]=>by simp [zal]
 |x::p=>by
   have ih:=zll hf p;have h1:=zsf (f x.Position) x.Many;have h2:=hf x.Position;have e:zal f (x::p)=zeq (f x.Position) x.Many++zal f p:=by simp [zal]
   rw [e,AA,Ak,Nat.mul_succ];omega
theorem zqx {f:Str->List Asset} {l:List Asset} (hf: ∀s m y,y∈zeq (f s) m->y∈l) {p:List Place} {y:Asset} (h:y∈zal f p):y∈l:=by
 unfold zal at h;obtain ⟨x,_,hx⟩:=List.mem_flatMap.1 h;exact hf _ _ y hx
theorem zqn {f:Str->List Asset} {l:List Asset} {p:List Place} {i:Nat} (hf: ∀s m y,y∈zeq (f s) m->y∈l) (hn: ∀s,(f s).length<=12) (hp:p.length<=10) (hv: ∀x∈l,-1000000<=x.Value/\x.Value<=1000000):
 (zal f (p.take i)).length<=120/\ -120000000<=zdC (zal f (p.take i))/\zdC (zal f (p.take i))<=120000000:=by
 have h1:=zll hn (p.take i);have h2:(p.take i).length<=10:=by simp;omega
 have h3:=zos (L:=zal f (p.take i)) fun y hy=>hv y (zqx hf hy)
 have h4:(zal f (p.take i)).length<=120:=by omega
 omega
theorem zxc {C l:List Asset} {k:Nat} (hC: ∀y∈C,y∈l) (hn:C.length<=12) (hv: ∀x∈l,-1000000<=x.Value/\x.Value<=1000000):
 ((C.take k).filter (fun y=>decide (0<y.Value))).length<=12/\ -12000000<=zdC ((C.take k).filter (fun y=>decide (0<y.Value)))/\zdC ((C.take k).filter (fun y=>decide (0<y.Value)))<=12000000:=by
 have h1:=AW (fun y:Asset=>decide (0<y.Value)) (C.take k);have h2:(C.take k).length<=12:=by simp;omega
 have h3:=zos (L:=(C.take k).filter (fun y=>decide (0<y.Value))) fun y hy=>hv y (hC y (AR (List.mem_filter.1 hy).1))
 omega
theorem zkl {C:List Asset} {k:Nat} {y:Asset} (h:C[k]? =some y):(C.take (k+1)).filter (fun y=>decide (0<y.Value))=(C.take k).filter (fun y=>decide (0<y.Value))++if 0<y.Value then [y] else []:=by
 rw [zaj h,BE]
 by_cases hy:0<y.Value<;>simp [hy]
theorem zoA {o:List Asset} {m:Int} {N:Nat} (hN:(if (o.length:Int)<m then (o.length:Int) else m)=(N:Int)):zeq o m=((o.take N).drop 0).filter (fun y=>decide (0<y.Value)):=by
 unfold zeq;have:(min m (o.length:Int)).toNat=N:=by split at hN<;>omega
 rw [this,BW]
def zje (l:List Asset) (p:List Place):Int:=orI [zcB l,zcC p]
theorem zwj {l:List Asset} {p:List Place} (h:zje l p=0):zcB l=0/\zcC p=0:=zuD h
def zsJ (l:List Asset) (p:List Place):Int:=zdC (zal (ofP l) p)
end Go.HL
namespace Go.HL
end Go.HL
namespace Go.HL
end Go.HL
end
namespace Go.HL
section
structure GL (α:Type) where
 u:Value
 out:List α
 a:Nat
structure GLok {α:Type} (P:α->Prop) (n m:Nat) (q:GL α):Prop where
 len:q.out.length<=n
 all: ∀x∈q.out,P x
 a:q.a<=m
section
variable {α:Type} {P:α->Prop}
theorem GLok.add {n m m':Nat} {u u':Value} {out:List α} {a1 a2:Nat} {x:α} (h:GLok P n m ⟨u,out,a1⟩) (hx:P x) (ha:a2<=m'):GLok P (n+1) m' ⟨u',out++[x],a2⟩:=
 ⟨by have:=h.len;simp at*;omega,fun y hy=>by
  rcases List.mem_append.1 hy with hy|hy
  exact h.all y hy
  simp at hy;subst hy;exact hx,ha⟩
theorem GLok.same {n m m':Nat} {u:Value} {out:List α} {a1 a2:Nat} (h:GLok P n m ⟨u,out,a1⟩) (ha:a2<=m'):GLok P (n+1) m' ⟨u,out,a2⟩:=
 ⟨by have:=h.len;dsimp only at*;omega,h.all,ha⟩
theorem zd0 {l:List α} {j:Nat} {y:α} (h: ∀x∈l,P x) (hy:P y): ∀x∈l.set j y,P x:=fun x hx=>by
 rcases zst hx with rfl|hx
 exact hy;exact h x hx
end
theorem znt:Sh []:=by simp [Sh]
def zgE:Asset:=⟨[97],[103,107],5⟩
def zjD:Place:=⟨[103,107],1⟩
theorem zw9:zje [zgE] [zjD]=0:=by kernel_rfl
theorem zqC:zal (ofP [zgE]) [zjD]=[zgE]:=by kernel_rfl
theorem zwk:zsJ [zgE] [zjD]=5:=by unfold zsJ;rw [zqC];rfl
theorem ztE:znr (zal (ofP [zgE]) [zjD])=[[97]]:=by rw [zqC];simp [znr,za3,zgE]
end
section
structure PairS where
 Name:Str
 Val:Str
end
section

end
section
open Op (bytesLess)
end
section

end
section

end
section

end
section

end
section

end
section

end
section
section
variable {α:Type} [DecidableEq α]
end
theorem zqg [Tracks] {P:Program} {f:FuncId} {hargs:List HVal} {v:Value} {sz:Nat} {es:List HVal} {Q:HVal->List MObj->Prop} (h0:v= .slice none 0 0->es=[]->Con P f hargs [.arr v sz es] Q)
 (h1: ∀b off cap,v= .slice (some ⟨b,off,none⟩) es.length cap->Con P f hargs [.arr v sz es] Q):Con P f hargs [.arr v sz es] Q:=fun I F w args ha hs=>by
 rcases hs.obj (.arr v sz es) (by simp) with ⟨g1,g2⟩|⟨b,off,cap,rc,el,fr,g1,_⟩
 exact h0 g1 g2 I F w args ha hs;exact h1 b off cap g1 I F w args ha hs
end
section
def zpO:Room:=⟨[[97],[98]],2,2,[[112],[113],[114],[115]],1000,0⟩
theorem zuX:zb5 zpO []=0:=by kernel_rfl
theorem zrh:ziI zpO []=[[97],[98],[98],[97]]:=by kernel_rfl
end
section
def zlS:Str:=[103,111,97,108]
def zlW:Play:=⟨[115],1,0,1,[109],[112],zlS,2,0⟩
def zsr:LineS:=⟨[112],1,[⟨zlS,2⟩]⟩
theorem zqL:zew [zlW] [[115]] 1 5 [zlW]=⟨[[112]],[(([112],zlS),2)]⟩:=by kernel_rfl
theorem zqM:orI [zbT [zlW],zb0 [[115]]]=0:=by kernel_rfl
theorem znB:zhk [(([112],zlS),2)] [[112]]=false:=by kernel_rfl
theorem zrg:zgq [(([112],zlS),2)] [112]=[⟨zlS,2⟩]:=by kernel_rfl
theorem zwB:zjn [zlW] [[115]] 1 5=0:=by
 rw [zjn,zqM,if_neg (by decide),if_neg (by decide),zqv,zqL,zhw,znB];rfl
theorem zwC:zjo [zlW] [[115]] 1 5=[zsr]:=by
 rw [zjo,zqM,if_neg (by decide),if_neg (by decide),zqw,zqL,zhx,znB,if_neg (by decide)]
 simp [za3,zrg,zsr]
end
section

end
section
theorem Cmp.lt_trans {α:Type} {c:α->α->Int} {s:α->Prop} (h:Cmp c s) {x y z:α} (hx:s x) (hy:s y) (hz:s z) (h1:c x y<0) (h2:c y z<0):c x z<0:=by
 rcases Int.lt_or_le (c x z) 0 with q|q
 exact q
 exfalso
 have a1:=h.flip y z hy hz;have a2:=h.flip z x hz hx;have hzx:c z x<=0:=by
  rcases Int.lt_or_le 0 (c z x) with r|r
  have:=h.flip x z hx hz;omega;exact r
 have:=h.trans z x y hz hx hy hzx (by omega)
 omega
theorem zoz (x y:Play):byNo x y= -byNo y x:=by
 unfold byNo;rw [zit,zer x.Source,zqD]
theorem zpr {a b c:Str} (h1:zS a b<=0) (h2:zS b c<=0) (h:zS a c=0):zS a b=0/\zS b c=0:=by
 have e:=zcb.1 h;subst e;rw [zer b a] at*
 omega
end
section
def zb6 {κ:Type} (c:List ((Str×κ)×Int)) (s:Str):List (κ×Int):=(c.filter fun e=>e.1.1==s).map fun e=>(e.1.2,e.2)
theorem zoP {κ:Type} [DecidableEq κ] (s:Str) (st:κ) (v:Int) (s':Str): ∀c:List ((Str×κ)×Int),zb6 (zv (s,st) v c) s'=if s'=s then zv st v (zb6 c s) else zb6 c s'
 |[]=>by
   by_cases e:s'=s
   subst e;simp [zb6,zv];have: ¬s=s':=fun q=>e q.symm
   simp [zb6,zv,e,this]
 |p::r=>by
   have ih:=zoP s st v s' r;obtain ⟨⟨a,b⟩,w⟩:=p;simp only [zv,Prod.mk.injEq]
   by_cases h1:s=a
   subst h1
   by_cases h2:st=b
   subst h2;rw [if_pos ⟨rfl,rfl⟩]
   by_cases e:s'=s
   subst e;simp [zb6,zv];have: ¬s=s':=fun q=>e q.symm
   simp [zb6,e,this]
   rw [if_neg (fun q=>h2 q.2)]
   by_cases e:s'=s
   subst e;rw [if_pos rfl] at ih⊢;simp only [zb6,AV,beq_self_eq_true,if_true,Ar,zv,if_neg h2] at ih⊢;rw [ih];have: ¬s=s':=fun q=>e q.symm
   rw [if_neg e] at ih⊢;simp only [zb6,AV,beq_iff_eq,if_neg this] at ih⊢;exact ih;rw [if_neg (fun q=>h1 q.1)]
   by_cases e:s'=s
   subst e;have: ¬a=s':=fun q=>h1 q.symm
   rw [if_pos rfl] at ih⊢;simp only [zb6,AV,beq_iff_eq,if_neg this] at ih⊢;exact ih;rw [if_neg e] at ih⊢
   by_cases h3:a=s'
   simp only [zb6,AV,beq_iff_eq,if_pos h3,Ar] at ih⊢;rw [ih];simp only [zb6,AV,beq_iff_eq,if_neg h3] at ih⊢;exact ih
theorem zoO {κ:Type} [DecidableEq κ] (s:Str) (st:κ): ∀c:List ((Str×κ)×Int),alk st (zb6 c s)=alk (s,st) c
 |[]=>rfl
 |⟨⟨a,b⟩,w⟩::r=>by
   have ih:=zoO s st r
   by_cases h:a=s
   subst h;simp only [zb6,AV,beq_self_eq_true,if_true,Ar,alk,Prod.mk.injEq,true_and] at ih⊢;rw [ih];have: ¬s=a:=fun q=>h q.symm
   simp only [zb6,AV,beq_iff_eq,if_neg h,alk,Prod.mk.injEq,this,false_and,if_false] at ih⊢;exact ih
def znJ (E:List (Str×Int)):List StatS:=zag zei ((E.filter fun e=>e.2 !=0).map fun e=>⟨e.1,e.2⟩)
end
section
section
variable {α:Type} {f:α->Int} {c:α->α->Int} {d:α} {l r:List α} {k:Nat} {x:α} {e:Int}
end
theorem zn7 {a b:Str}:zS a b<0↔Op.bytesLess a b=true:=by
 have h1:=zer a b
 constructor
 intro h
 rcases zb7 a b with q|q|q
 exact q;rw [zcb.2 q] at h;omega;have:=zlQ.2 (zbR q);omega
 intro h
 have h2: ¬zS a b=0:=fun e=>by rw [zcb.1 e,zaB] at h;cases h
 have h3:=zlQ.2 (zbR h)
 omega
end
section
open Op
theorem zor {l:List Str} (h: ∀(j:Nat) (x y:Str),l[j]? =some x->l[j+1]? =some y->bytesLess x y=true):SortedS l:=by
 have key: ∀(d i:Nat) (a b:Str),l[i]? =some a->l[i+d+1]? =some b->bytesLess a b=true:=by
  intro d
  induction d with
  |zero=>intro i a b ha hb;exact h i a b ha hb
  |succ d ih=>
    intro i a b ha hb
    have hl:=zl hb;obtain ⟨c,hc⟩: ∃c,l[i+d+1]? =some c:=⟨_,Aa (by omega)⟩
    exact zdg (ih i a c ha hc) (h (i+d+1) c b hc (by rw [<-hb];congr 1))
 refine List.pairwise_iff_getElem.2 fun i j hi hj hij=> ?_
 exact key (j-i-1) i _ _ (Aa hi) (by rw [show i+(j-i-1)+1=j by omega];exact Aa hj)
end
section
/-! sets of numbers as bits-/
abbrev zw8:Int:= -1000
inductive WayB (al:Nat->Nat->Bool) (can:List (List Nat)) (fr:Nat) (g:List Nat):List Nat->Int->Prop
 |nil:WayB al can fr g [] 0
 |snoc {q:List Nat} {c:Int} {k:Nat} (h:WayB al can fr g q c) (hk:k∈(fr+q.length)::can.getD (fr+q.length) []) (ha:al (fr+q.length) k=true) (hn:k∉g++q):
    WayB al can fr g (q++[k]) (c+if k=fr+q.length then 0 else 1)
theorem WayB.bd {al:Nat->Nat->Bool} {can:List (List Nat)} {fr:Nat} {g q:List Nat} {c:Int} (h:WayB al can fr g q c):0<=c/\c<=q.length:=by
 induction h with
 |nil=>simp
 |snoc h hk ha hn ih=>rw [AA,B7];split<;>omega
structure CanOk (can:List (List Nat)):Prop where
 lt: ∀i,∀k∈can.getD i [],k<can.length
 ne: ∀i,i∉can.getD i []
 len:can.length<=14
section
variable {al:Nat->Nat->Bool} {can:List (List Nat)} {fr:Nat} {g:List Nat}
theorem WayB.lt {q:List Nat} {c:Int} (hc:CanOk can) (h:WayB al can fr g q c) (hl:fr+q.length<=can.length): ∀k∈q,k<can.length:=by
 induction h with
 |nil=>simp
 |snoc h hk ha hn ih=>
   rw [AA,B7] at hl
   intro k hm
   rcases List.mem_append.1 hm with hm|hm
   exact ih (by omega) k hm;rw [List.mem_singleton.1 hm]
   rcases List.mem_cons.1 hk with e|e
   omega
   exact hc.lt _ _ e
theorem WayB.nodup {q:List Nat} {c:Int} (hg:g.Nodup) (h:WayB al can fr g q c):(g++q).Nodup:=by
 induction h with
 |nil=>simpa using hg
 |snoc h hk ha hn ih=>
   rw [<-AT];refine List.nodup_append.2 ⟨ih,by simp,fun a ha b hb=> ?_⟩
   rw [List.mem_singleton.1 hb];exact fun e=>hn (e▸ha)
end
end
section
/-! ways by their heads-/
section
variable {al:Nat->Nat->Bool} {can:List (List Nat)}
end
end
section
def zyV (S:List Bool) (i:Nat):Int:=if S.getD i false=true then 0 else 1
def cS (S:List Bool):Nat->Nat->Int
 |_,0=>0
 |fr,m+1=>zyV S fr+cS S (fr+1) m
section
variable {can:List (List Nat)} {S:List Bool}
end
end
section
def BdB (m:Int) (l:List Int):Prop:= ∀t,l.getD t 0=zw8\/(0<=l.getD t 0/\l.getD t 0<=m)
theorem BdB.mono {m m':Int} {l:List Int} (h:BdB m l) (hm:m<=m'):BdB m' l:=fun t=>by
 rcases h t with e|e
 exact .inl e;exact .inr ⟨e.1,by omega⟩
end
section
open Op
end
section
open Go
section
variable {P:Program} {e:Env} {dst:Option Tmp} {ty:TypeId} {pos:String} {af:Array Edge} {g:Option (Nat×Bool)} {M:List MObj} {K:HVal->List MObj->Prop}
def zbY {α:Type} (x:Str):List (Str×α)->List (Str×α)
 |[]=>[]
 |p::r=>if x=p.1 then r else p::zbY x r
theorem zo5 {s:Str}: ∀{l:List (Str×HVal)},(∀j h,zQ s l=some (j,h)->zbY s l=l.eraseIdx j)/\(zQ s l=none->zbY s l=l)
 |[]=>⟨fun j h hh=>by simp [zQ] at hh,fun _=>rfl⟩
 |(k,x)::r=>by
   obtain ⟨h1,h2⟩:=zo5 (s:=s) (l:=r)
   by_cases hk:s=k
   refine ⟨fun j h hh=> ?_,fun hh=> ?_⟩
   simp [zQ,hk] at hh;rw [<-hh.1];simp [zbY,hk]
   simp [zQ,hk] at hh
   refine ⟨fun j h hh=> ?_,fun hh=> ?_⟩
   simp only [zQ,if_neg hk] at hh
   cases hr:zQ s r with
   |none=>rw [hr] at hh;simp at hh
   |some p=>
     rw [hr] at hh
     simp at hh
     rw [<-hh.1,zbY,if_neg hk,h1 p.1 p.2 hr];rfl
   simp only [zQ,if_neg hk] at hh
   cases hr:zQ s r with
   |none=>rw [zbY,if_neg hk,h2 hr]
   |some p=>rw [hr] at hh;simp at hh
theorem zrk {α:Type} {f:α->HVal} {s:Str}: ∀L:List (Str×α),zbY s (em f L)=em f (zbY s L)
 |[]=>rfl
 |p::r=>by
   have ih:=zrk (f:=f) (s:=s) r;simp only [Ar,zbY] at ih⊢
   by_cases h:s=p.1
   rw [if_pos h,if_pos h];rw [if_neg h,if_neg h,ih];rfl
theorem BornOk.erase {es:Array MapEntry} {clk:Nat} (h:BornOk es clk) {k:Nat} (hk:k<es.size):BornOk (es.eraseIdx k hk) clk:=by
 have key: ∀i m,(es.eraseIdx k hk)[i]? =some m->es[if i<k then i else i+1]? =some m:=fun i m hm=>by
  rw [Array.getElem?_eraseIdx] at hm;split at hm<;>rename_i hi<;>simp [hi,hm]
 refine ⟨fun i m hm=>h.1 _ m (key i m hm),fun i j m n hm hn he=> ?_⟩
 have:=h.2 _ _ m n (key i m hm) (key j n hn) he
 split at this<;>split at this<;>omega
theorem znE {at':Array TypeId} {xs:Array Operand} {ρ:Operand->Value} (w:World):
 (execOp ρ ⟨dst,.call ⟨.builtin .delete,xs,at'⟩,ty,pos,af,g⟩).run P w=((Builtin.delete_ at' ty (xs.map ρ)).run P w).andThen (fun v w=> .ok (.value v) w):=by
 simp [execOp,resolve,invoke,builtin]
theorem zsj [Tracks] {α:Type} {x y:Operand} {t kt et:TypeId} {size bytes s2 b2:Nat} {zero z2:Value} {i b:Nat} {f:α->HVal} {L:List (Str×α)} {s:Str}
 (hf:Fits P t (.map kt et) size bytes zero) (hkt:Fits P kt .str s2 b2 z2) (hx:ze e x=some (.raw (.map (some b)))) (hy:ze e y=some (.str s)) (hm:M[i]? =some (.map b (sk (em f L))))
 (hk:K (.tup []) (M.set i (.map b (sk (em f (zbY s L)))))):EOp P e M ⟨dst,.call ⟨.builtin .delete,#[x,y],#[t,kt]⟩,ty,pos,af,g⟩ K:=
 EOp.of_run fun I F a w ho hs=>by
  have h1:=(ho.one (x:=x) (by simp [Op.operands,Call.operands]) hx).raw_inv;have h2:=(ho.one (x:=y) (by simp [Op.operands,Call.operands]) hy).str_inv;have hp:=hs.pull hm;obtain ⟨es,clk,h3,h4,h5⟩:=hp.obj _ Am;obtain ⟨h6,h7⟩:=zfW h4.1 h5;obtain ⟨n1,n2⟩:=zgS (I:=I) (s:=s) es.toList (em f L) 0 h6 h7;obtain ⟨d1,d2⟩:=zo5 (s:=s) (l:=em f L);rw [zrk] at d1 d2;have hlt:b<w.heap.size:=(Array.getElem?_eq_some_iff.1 h3).1;have fin: ∀(es':Array MapEntry),es'.size=(sk (em f (zbY s L))).length/\BornOk es' clk->
   (∀(i:Nat) (p:HVal×HVal) (m:MapEntry),(sk (em f (zbY s L)))[i]? =some p->es'[i]? =some m->V I p.1 m.key/\V I p.2 m.val)->
   Sat P I (M.set i (.map b (sk (em f (zbY s L))))++F) {w with heap:=w.heap.setIfInBounds b (.map es' clk)}:=fun es' e1 e2=>by
   refine zbc hm (hp.change (m':= .map b (sk (em f (zbY s L)))) (fun k hk hnk=> ?_) (fun k hk=> .inl hk) (by simp [MObj.blocks]) ⟨es',clk,by simp [hlt],e1,e2⟩ rfl rfl rfl)
   have:k≠b:=by simpa [MObj.blocks] using hnk
   simp [AF (Ne.symm this)]
  cases hq:zQ s (em f L) with
  |none=>
    rw [d2 hq] at fin;refine ⟨.tuple #[],.tup [],_,{w with heap:=w.heap.setIfInBounds b (.map es clk)},I,?_,.refl I,hk,.tup rfl (fun j c v h _=>by simp at h),?_⟩
    rw [znE];simp only [BL,Ar,A8,h1,h2,Builtin.delete_,A4,AU,AO,Sem.run_bind,run_underlying hf.mapD,Result.andThen_ok,zav h3,zbH hkt.strD,Instr.findKey,run_underlying hkt.strD,n1 hq,Sem.run_pure,zcz h3];rw [d2 hq];exact fin es h4 h5
  |some q=>
    obtain ⟨j0,h'⟩:=q;obtain ⟨v,g1,g2⟩:=n2 j0 h' hq;have hj0:=zmN hq;have hjl:=zl hj0;have hsz:es.size=(em f L).length:=by simpa [sk] using h4.1
    have hjs:j0<es.size:=by omega
    have hes:es.eraseIdxIfInBounds j0=es.eraseIdx j0 hjs:=by unfold Array.eraseIdxIfInBounds;rw [dif_pos hjs]
    have hd:sk (em f (zbY s L))=(sk (em f L)).eraseIdx j0:=by
     rw [d1 j0 h' hq];have e1: ∀(l:List (Str×HVal)) (j:Nat),sk (l.eraseIdx j)=(sk l).eraseIdx j:=fun l=>by
      induction l with
      |nil=>intro j;rfl
      |cons p r ih=>
        intro j
        cases j with
        |zero=>rfl
        |succ j=>simp only [BX,sk,Ar] at ih⊢;rw [ih]
     exact e1 _ _
    refine ⟨.tuple #[],.tup [],_,{w with heap:=w.heap.setIfInBounds b (.map (es.eraseIdx j0 hjs) clk)},I,?_,.refl I,hk,.tup rfl (fun j c v h _=>by simp at h),fin (es.eraseIdx j0 hjs) ⟨?_,h4.2.erase hjs⟩ fun p q m a1 a2=> ?_⟩
    rw [znE];simp only [BL,Ar,A8,h1,h2,Builtin.delete_,A4,AU,AO,Sem.run_bind,run_underlying hf.mapD,Result.andThen_ok,zav h3,zbH hkt.strD,Instr.findKey,run_underlying hkt.strD,g1,Sem.run_pure,A9,hes,zcz h3];rw [hd,Array.size_eraseIdx,List.length_eraseIdx];have:(sk (em f L)).length=es.size:=h4.1.symm;rw [this,if_pos hjs];rw [hd,List.getElem?_eraseIdx] at a1;rw [Array.getElem?_eraseIdx] at a2
    split at a1
    rename_i hp1;rw [if_pos hp1] at a2;exact h5 _ _ _ a1 a2
    rename_i hp1;rw [if_neg hp1] at a2;exact h5 _ _ _ a1 a2
end
end
section
open Go
section
variable {P:Program} {e:Env} {dst:Option Tmp} {ty:TypeId} {pos:String} {af:Array Edge} {g:Option (Nat×Bool)} {M:List MObj} {K:HVal->List MObj->Prop}
end
/-! a row that fills up-/
end
section
open Go
section
variable {P:Program} {e:Env} {dst:Option Tmp} {ty:TypeId} {pos:String} {af:Array Edge} {g:Option (Nat×Bool)}
end
end
section
open Op
def zd7:List Int->List Int->Int
 |[],[]=>0
 |[],_::_=> -1
 |_::_,[]=>1
 |x::a,y::b=>if zX x y≠0 then zX x y else zd7 a b
end
section
open Op
theorem zwc {s:Str} (h:key s=true):leB s []=false:=by
 have hn:s≠[]:=by
  rintro rfl;have:key ([]:Str)=false:=by decide
  rw [this] at h;cases h
 cases s with
 |nil=>exact absurd rfl hn
 |cons a t=>rfl
theorem ord2 {a b:Str} {m n:Int}:orI [zS a b,zX m n]<=0↔bytesLess a b=true\/a=b/\m<=n:=by
 rw [zey]
 split
 rename_i h
 have h0:a≠b:=fun e=>h (zcb.2 e)
 rw [<-zn7]
 constructor
 intro q;left;omega
 rintro (q|q)
 omega
 exact absurd q.1 h0
 rename_i h
 have h0:a=b:=zcb.1 (by simpa using h);subst h0;rw [zro]
 constructor
 intro q;exact .inr ⟨rfl,q⟩
 rintro (q|q);rw [zaB] at q;cases q;exact q.2
def zko (n:Int):Int:=if n<0 then-1 else if 0<n then 1 else 0
theorem zuY {a b:Int}:zko (a-b)=zX a b:=by
 unfold zko zX
 (repeat' split)<;>first|rfl|omega
theorem zuc {a b c d:Int}:zd7 [a,b] [c,d]=orI [zX a c,zX b d]:=by
 rw [zey,zd7,zd7,zd7]
 split
 rfl
 split
 rfl
 rename_i h;have:zX b d=0:=by simpa using h
 rw [this]
theorem zvX {x p:FixS}:orI [zX x.Week p.Week,zX x.At p.At,zS x.Home p.Home]<=0↔0<zd7 [p.Week,p.At] [x.Week,x.At]\/zd7 [p.Week,p.At] [x.Week,x.At]=0/\bytesLess p.Home x.Home=false:=by
 rw [zuc,zey,<-zlQ];unfold orI
 by_cases h1:x.Week=p.Week
 by_cases h2:x.At=p.At
 have e1:zX x.Week p.Week=0:=zcD.2 h1;have e2:zX x.At p.At=0:=zcD.2 h2;have e3:zX p.Week x.Week=0:=zcD.2 h1.symm;have e4:zX p.At x.At=0:=zcD.2 h2.symm;simp only [e1,e2,e3,e4];rw [zey]
 constructor
 intro h
 refine .inr ⟨rfl,?_⟩
 simpa [orI] using h
 rintro (h|⟨_,h⟩);exact absurd h (by decide)
 simpa [orI] using h
 have e1:zX x.Week p.Week=0:=zcD.2 h1;have e3:zX p.Week x.Week=0:=zcD.2 h1.symm;have e2:zX x.At p.At≠0:=fun e=>h2 (zcD.1 e)
 have e4:=zit x.At p.At;simp only [e1,e3];rw [zey,if_pos e2]
 simp
 omega
 have e1:zX x.Week p.Week≠0:=fun e=>h1 (zcD.1 e)
 have e3:=zit x.Week p.Week;have e4:zX p.Week x.Week≠0:=by omega
 rw [if_pos e1,if_pos e4]
 omega
end
section
open Op
structure BookS where
 League:LeagueS
 Moves:List MoveS
 Plays:List Play
 Mends:List MendS
 Health:List HealthS
 Choices:List ChoiceS
abbrev zu9 (b:BookS):List HVal:=[zaT b.League.Players,zd2 b.League.Stints,zj8 b.League.Fixtures,zhW b.League.Rules,zgP b.League.Slots,.int .i64 b.League.Bounds.Most,.int .i64 b.League.Bounds.Hurt,.int .i64 b.League.Bounds.Adds,.int .i64 b.League.Bounds.Hold,
 eSs b.League.Teams,zjw b.League.Games,eIs b.League.Breaks,eSs b.League.Trust,.int .i64 b.League.Start,zbz b.Moves,zbq b.Plays,zcc b.Mends,zbN b.Health,zmE b.Choices]
abbrev zeb (b:BookS):HVal:= .agg (zu9 b)
def zim (a b:ChoiceS):Int:=orI [zS a.Team b.Team,zX a.Week b.Week,zX a.At b.At]
def zbo (s:Str):Bool:=s==[]||key s
def zbv (T:List Str) (n:Nat) (k:Nat) (x p:ChoiceS):Int:=
 if T.contains x.Team=false then 8 else if zcA x.Week=false\/zY x.At=false then 1 else if x.Players.length≠n then 3
 else if ((x.Players++[x.Captain]).all zbo)=false then 5 else if 0<k/\zim x p<=0 then 7 else 0
def zse (T:List Str) (n:Nat) (l:List ChoiceS):Int:=zdO 1000 (zbv T n) zeN l
def zfT (g:LeagueS):Int:=orI [zlL g.Players g.Stints,zhZ g.Fixtures,zh8 g.Rules,zdR g.Slots,zbL g.Bounds,zfP g.Teams g.Games]
def zja (g:LeagueS):Int:=orI [zg0 g.Breaks,zb0 g.Trust]
def zcK (l:List GameS):Bool:=l.any (·.Played)
def zbQ (g:LeagueS):Int:=
 if zfT g≠0 then zfT g else if zcK g.Games=true then 11 else if zja g≠0 then zja g
 else if zY g.Start=false\/345686400000<g.Start+36288000000 then 1 else 0
def zdJ (b:BookS):Int:=if zbQ b.League≠0 then zbQ b.League else orI [zcw b.Moves,zbT b.Plays,zdX b.Mends,zob b.League.Players b.Health,zse b.League.Teams b.League.Slots.length b.Choices]
theorem zbS: ∀{a b:List Int},orI (a++b)=if orI a≠0 then orI a else orI b
 |[],b=>by simp [orI]
 |x::a,b=>by
   rw [AY,orI,orI,zbS]
   by_cases h:x≠0
   rw [if_pos h,if_pos h,if_pos h];rw [if_neg h,if_neg h]
theorem zuC {a r:List Int}:orI (orI a::r)=orI (a++r):=by rw [zbS,orI]
theorem zoe (g:LeagueS):zfT g=orI ([zce g.Players]++([zg5 g.Players g.Stints,zhZ g.Fixtures,zh8 g.Rules,zdR g.Slots,zbL g.Bounds,zcY g.Teams]++[zdm g.Teams g.Games])):=by
 have e1:zlL g.Players g.Stints=orI [zce g.Players,zg5 g.Players g.Stints]:=by rw [zey];rfl
 have e2:zfP g.Teams g.Games=orI [zcY g.Teams,zdm g.Teams g.Games]:=by rw [zey];rfl
 unfold zfT;rw [e1,zuC]
 show orI [zce g.Players,zg5 g.Players g.Stints,zhZ g.Fixtures,zh8 g.Rules,zdR g.Slots,zbL g.Bounds,zfP g.Teams g.Games]=orI [zce g.Players,zg5 g.Players g.Stints,zhZ g.Fixtures,zh8 g.Rules,zdR g.Slots,zbL g.Bounds,zcY g.Teams,zdm g.Teams g.Games]
 have e3: ∀l:List Int,orI (l++[zfP g.Teams g.Games])=orI (l++[zcY g.Teams,zdm g.Teams g.Games]):=fun l=>by
  rw [zbS,zbS,e2]
  congr 1
  rw [orI]
  split
  rfl
  rename_i h;have h0:orI [zcY g.Teams,zdm g.Teams g.Games]=0:=by simpa using h
  rw [h0];rfl
 exact e3 [zce g.Players,zg5 g.Players g.Stints,zhZ g.Fixtures,zh8 g.Rules,zdR g.Slots,zbL g.Bounds]
theorem zts {g:LeagueS} (h:zce g.Players≠0):zce g.Players=zbQ g:=by
 have e:zfT g=zce g.Players:=by rw [zoe,zbS,zwl,if_pos h]
 rw [zbQ,e,if_pos h]
def zg4 (g:LeagueS):Int:=orI [zg5 g.Players g.Stints,zhZ g.Fixtures,zh8 g.Rules,zdR g.Slots,zbL g.Bounds,zcY g.Teams]
theorem zw1 {g:LeagueS} (h:zce g.Players=0) (h2:zg4 g≠0):zg4 g=zbQ g:=by
 have e:zfT g=zg4 g:=by
  rw [zoe,zbS,if_neg (by simp [orI,h]),zbS];exact if_pos h2
 rw [zbQ,e,if_pos h2]
theorem zpJ {g:LeagueS} (h:zce g.Players=0) (h2:zg4 g=0):zfT g=zdm g.Teams g.Games:=by
 rw [zoe,zbS,if_neg (by simp [orI,h]),zbS,if_neg (by rw [show orI [zg5 g.Players g.Stints,zhZ g.Fixtures,zh8 g.Rules,zdR g.Slots,zbL g.Bounds,zcY g.Teams]=zg4 g from rfl,h2];simp)];rw [orI]
 split
 rfl
 rename_i h;simp at h;rw [h];rfl
theorem zux {g:LeagueS} (h2:zg4 g=0):zcY g.Teams=0:=by
 unfold zg4 at h2;have e:([zg5 g.Players g.Stints,zhZ g.Fixtures,zh8 g.Rules,zdR g.Slots,zbL g.Bounds,zcY g.Teams]:List Int)=[zg5 g.Players g.Stints,zhZ g.Fixtures,zh8 g.Rules,zdR g.Slots,zbL g.Bounds]++[zcY g.Teams]:=rfl;rw [e,zbS] at h2
 split at h2
 contradiction
 rw [orI] at h2
 split at h2
 contradiction
 rename_i h;simpa using h
theorem zvY {T:List Str} {l:List GameS} (h:zcY T=0):zfP T l=zdm T l:=by rw [zfP,if_neg (by simp [h])]
theorem zw2 {g:LeagueS} (h:zce g.Players=0) (h2:zg4 g=0) (h3:zdm g.Teams g.Games≠0):zdm g.Teams g.Games=zbQ g:=by
 rw [zbQ,zpJ h h2,if_pos h3]
theorem zw3 {g:LeagueS} (h:zce g.Players=0) (h2:zg4 g=0) (h3:zdm g.Teams g.Games=0) (h4:zcK g.Games=true):11=zbQ g:=by
 rw [zbQ,zpJ h h2,if_neg (by simp [h3]),if_pos h4]
def zqu (g:LeagueS):Int:=orI [zg0 g.Breaks,zb0 g.Trust,if zY g.Start then 0 else 1]
theorem zrD (g:LeagueS):zqu g=if zja g≠0 then zja g else if zY g.Start=false then 1 else 0:=by
 unfold zqu zja;rw [show ([zg0 g.Breaks,zb0 g.Trust,if zY g.Start then 0 else 1]:List Int)=[zg0 g.Breaks,zb0 g.Trust]++[if zY g.Start then 0 else 1] from rfl,zbS]
 congr 1
 rw [orI]
 cases zY g.Start<;>rfl
theorem zw4 {g:LeagueS} (h:zce g.Players=0) (h2:zg4 g=0) (h3:zdm g.Teams g.Games=0) (h4:zcK g.Games=false) (h5:zqu g≠0):zqu g=zbQ g:=by
 rw [zbQ,zpJ h h2,if_neg (by simp [h3]),if_neg (by rw [h4];simp)];rw [zrD] at h5⊢
 split
 rfl
 rename_i h6
 rw [if_neg h6] at h5
 cases h7:zY g.Start with
 |false=>simp
 |true=>rw [h7] at h5;simp at h5
theorem ztt {g:LeagueS} (h:zce g.Players=0) (h2:zg4 g=0) (h3:zdm g.Teams g.Games=0) (h4:zcK g.Games=false) (h5:zqu g=0):zbQ g=if 345686400000<g.Start+36288000000 then 1 else 0:=by
 rw [zbQ,zpJ h h2,if_neg (by simp [h3]),if_neg (by rw [h4];simp)];rw [zrD] at h5
 split at h5
 contradiction
 rename_i h6
 rw [if_neg h6]
 cases h7:zY g.Start with
 |false=>rw [h7] at h5;simp at h5
 |true=>simp
def zb8:List Str:=[[77,97,114,121,32,74,111,32,83,109,105,116,104],[77,97,120,32,77,97,114,116,105,110],[74,111],[65,110,97,32,77,97,114,105,97,32,77,97],[79,39,78,101,105,108,32,109],[90,111,195,171,32,77,97]]
/-! what generated leagues and books are-/
end
section
open Op
def zj9 (N:List Str) (s:Str):Int:=if N.contains s=true then ((ze0 N s:Nat):Int) else-1
theorem zoG {N:List Str} {s:Str}:zj9 N s<0↔N.contains s=false:=by
 unfold zj9
 cases N.contains s with
 |true=>simp
 |false=>simp
theorem zsZ {l:List PlayerS} {s:Str} {i:Nat}:(bif decide ((i:Int)<(l.length:Int)) then zS (l.getD i zc7).Key s==0 else false)=((l.map (·.Key))[i]? ==some s):=by
 by_cases h:i<l.length
 obtain ⟨x,hx⟩: ∃x,l[i]? =some x:=⟨_,Aa h⟩
 have e:l.getD i zc7=x:=by rw [Af,hx];rfl
 rw [Ag,hx,e];have h2:(i:Int)<(l.length:Int):=by omega
 simp only [h2,decide_true,cond_true,AG];rw [AK]
 simp [zcb]
 have h2: ¬(i:Int)<(l.length:Int):=by omega
 rw [Ax (by simpa using Nat.le_of_not_lt h)]
 simp [h2]
theorem znv {L:List PlayerS} {s:Str}:zaf (fun x:PlayerS=>x.Key==s) L 0<0↔zeR L s=false:=by
 have h:=zcH (fun x:PlayerS=>x.Key==s) L 0 (by omega);have e:L.any (fun x:PlayerS=>x.Key==s)=zeR L s:=by
  unfold zeR;rw [AK,B3,B6,List.mem_map]
  constructor
  rintro ⟨x,h1,h2⟩;exact ⟨x,h1,by simpa using h2⟩;rintro ⟨x,h1,h2⟩;exact ⟨x,h1,by simpa using h2⟩
 rw [e] at h
 constructor
 intro q;rw [<-h];simp;omega
 intro q;rw [q] at h;simp at h;omega
theorem znx {l:List PlayerS} (h:zce l=0):SortedS (l.map (·.Key)):=by
 obtain ⟨_,h2⟩:=zof h;have nx: ∀(j:Nat) (x y:Str),(l.map (·.Key))[j]? =some x->(l.map (·.Key))[j+1]? =some y->bytesLess x y=true:=by
  intro j x y hx hy
  rw [Ag] at hx hy;obtain ⟨a,ha,rfl⟩:=Option.map_eq_some_iff.1 hx;obtain ⟨b,hb,rfl⟩:=Option.map_eq_some_iff.1 hy;have:=h2 (j+1) b hb;have ed:l.getD (j+1-1) zc7=a:=by rw [Nat.add_sub_cancel,Af,ha];rfl
  rw [ed] at this;unfold zb2 at this
  split at this
  omega
  split at this
  omega
  rename_i h3
  have h4:leB b.Key a.Key=false:=by
   cases e:leB b.Key a.Key with
   |false=>rfl
   |true=>exact absurd ⟨by omega,e⟩ h3
  unfold leB at h4;rw [BK] at h4
  rcases zb7 a.Key b.Key with q|q|q
  exact q;rw [q] at h4;simp at h4;rw [q] at h4;cases h4.1
 exact zor nx
/-! games-/
def zhu (l:List GameS):List ((Str×Int)×Bool):=l.foldl (fun L x=>zv (x.Away,x.Week) true (zv (x.Home,x.Week) true L)) []
def ofG (t:Str) (w:Int) (y:GameS):Bool:=y.Week==w&&(y.Home==t||y.Away==t)
theorem ztP {l:List GameS} {x:GameS}:zhu (l++[x])=zv (x.Away,x.Week) true (zv (x.Home,x.Week) true (zhu l)):=by unfold zhu;rw [Bg];rfl
theorem zo3 {t:Str} {w:Int}: ∀{l:List GameS} {L:List ((Str×Int)×Bool)},(alk (t,w) (l.foldl (fun L x=>zv (x.Away,x.Week) true (zv (x.Home,x.Week) true L)) L)).getD false=((alk (t,w) L).getD false||l.any (ofG t w))
 |[],L=>by simp
 |x::l,L=>by
   rw [BR,zo3,Bp,<-B2]
   congr 1
   rw [zcI,zcI];unfold ofG
   by_cases h1:(t,w)=(x.Away,x.Week)
   rw [if_pos h1]
   cases h1
   simp
   rw [if_neg h1]
   by_cases h2:(t,w)=(x.Home,x.Week)
   rw [if_pos h2]
   cases h2
   simp
   rw [if_neg h2];have e:(x.Week==w&&(x.Home==t||x.Away==t))=false:=by
    rw [BZ]
    intro h
    simp at h
    rcases h.2 with q|q
    exact h2 (by rw [h.1,q]);exact h1 (by rw [h.1,q])
   rw [e,Ba]
theorem zrO {t:Str} {w:Int} {l:List GameS}:(alk (t,w) (zhu l)).getD false=l.any (ofG t w):=by
 unfold zhu;rw [zo3];rfl
theorem zs4 {l:List GameS} {x:GameS}:l.any (zgO x)=(l.any (ofG x.Home x.Week)||l.any (ofG x.Away x.Week)):=by
 induction l with
 |nil=>rfl
 |cons y l ih=>
   rw [Bp,Bp,Bp,ih];unfold zgO ofG
   cases y.Week==x.Week<;>cases y.Home==x.Home<;>cases y.Home==x.Away<;>cases y.Away==x.Home<;>cases y.Away==x.Away<;>simp
def zhV (l:List GameS) (k:Nat):Bool:=(List.range k).any fun i=>(l.take i).any (zgO (l.getD i zdu))
theorem zqi {l:List GameS} {k:Nat} {x:GameS} (h:l[k]? =some x):zhV l (k+1)=(zhV l k||(l.take k).any (zgO x)):=by
 unfold zhV;rw [List.range_succ,List.any_append,Bp,List.any_nil,Ba,Af,h];rfl
theorem zqh {l:List GameS}: ∀{r:List GameS} {k:Nat},l.drop k=r->k<=l.length->(zhV l k||zcU l k r)=zhV l l.length
 |[],k,hd,hk=>by
   have:l.length<=k:=by simpa using hd
   have e:k=l.length:=by omega
   subst e;rw [zcU,Ba]
 |x::r,k,hd,hk=>by
   have hx:l[k]? =some x:=by have:=congrArg (fun q:List GameS=>q[0]?) hd;simpa using this
   have hkl:=zl hx;rw [zcU,<-B2,<-zqi hx];exact zqh (by rw [<-Bs (i:=1),hd];rfl) (by omega)
theorem zvU {l:List GameS}:zcU l 0 l=zhV l l.length:=by
 have:=zqh (l:=l) (r:=l) (k:=0) rfl (Ad _);rw [<-this];rfl
end
section
open Op
theorem zoJ {a b:Nat}:Nat.gcd b (a%b)=Nat.gcd a b:=by rw [Nat.gcd_comm b,<-Nat.gcd_rec,Nat.gcd_comm]
theorem zlz {s:Str} (h:s∈zb8):out (s.length:Int) 1 60=false:=by
 revert h;revert s;decide
structure LeaB (g:LeagueS):Prop where
 pl:g.Players.length<=1000000
 nm: ∀p∈g.Players,p.Name∈zb8
 po: ∀p∈g.Players,p.Positions.length<=1000000
 st:g.Stints.length<=1000000
 fx:g.Fixtures.length<=1000000
 ru:g.Rules.length<=1000000
 rw': ∀x∈g.Rules,(-1000000000<=x.Num/\x.Num<=1000000000)/\ -1000000000<=x.Den/\x.Den<=1000000000
 sl:g.Slots.length<=1000000
 sp: ∀x∈g.Slots,x.Positions.length<=1000000
 tm:g.Teams.length<=1000000
 ga:g.Games.length<=1000000
 gb: ∀x∈g.Games,((-1000000000<=x.FNum/\x.FNum<=1000000000)/\ -1000000000<=x.FDen/\x.FDen<=1000000000)/\(-1000000000<=x.ONum/\x.ONum<=1000000000)/\ -1000000000<=x.ODen/\x.ODen<=1000000000
 br:g.Breaks.length<=1000000
 tr:g.Trust.length<=1000000
 sta: -1000000000000000<=g.Start/\g.Start<=1000000000000000
structure BookB (b:BookS):Prop where
 lea:LeaB b.League
 mv:b.Moves.length<=1000000
 pl:b.Plays.length<=1000000
 me:b.Mends.length<=1000000
 he:b.Health.length<=1000000
 ch:b.Choices.length<=1000000
 cp: ∀x∈b.Choices,x.Players.length<=1000000
/-! slots,breaks-/
theorem zqP {l:List SlotS} (h0:l.length≠0) (h1: ¬12<l.length) (hg:zbU l 0 l=zbU l l.length []):0=zdR l:=by
 rw [zdR,if_neg h0,if_neg h1,hg];rfl
theorem zgp {l r:List SlotS} {k:Nat} {x:SlotS} {e:Int} (h0:l.length≠0) (h1: ¬12<l.length) (hg:zbU l 0 l=zbU l k (x::r)) (he:zbU l k (x::r)=e):e=zdR l:=by
 rw [zdR,if_neg h0,if_neg h1,hg,he]
theorem zrn {l:List Int} (h1: ¬5<l.length) (hg:zc9 l 0 l=zc9 l l.length []):0=zg0 l:=by rw [zg0,if_neg h1,hg];rfl
theorem zlP {l r:List Int} {k:Nat} {x:Int} {e:Int} (h1: ¬5<l.length) (hg:zc9 l 0 l=zc9 l k (x::r)) (he:zc9 l k (x::r)=e):e=zg0 l:=by rw [zg0,if_neg h1,hg,he]
/-! names of a choice-/
theorem zwf {s:Str} (h1:s≠[]) (h2:key s=false):zbo s=false:=by
 unfold zbo;rw [h2,Ba,beq_eq_false_iff_ne];exact h1
theorem zwg {s:Str} (h:s≠[]->key s=true):zbo s=true:=by
 unfold zbo
 by_cases e:s=[]
 rw [e];rfl;rw [h e,Bool.or_true]
theorem ztD {l:List Str} {s:Str} (hs:s∈l) (h:zbo s=false):l.all zbo=false:=by
 rw [List.all_eq_false];exact ⟨s,hs,by rw [h];simp⟩
/-! games-/
def inC (l:List GameS) (x:GameS) (k j:Nat):Bool:=zhV l k||([x.Home,x.Away].take j).any fun t=>(l.take k).any (ofG t x.Week)
def inM (l:List GameS) (x:GameS) (k j:Nat):List ((Str×Int)×Bool):=([x.Home,x.Away].take j).foldl (fun L t=>zv (t,x.Week) true L) (zhu (l.take k))
theorem zv4 {l:List GameS} {x:GameS} {k j:Nat} {s:Str} (hne:x.Home≠x.Away) (hs:[x.Home,x.Away][j]? =some s):
 (inC l x k j||(alk (s,x.Week) (inM l x k j)).getD false)=inC l x k (j+1)/\zv (s,x.Week) true (inM l x k j)=inM l x k (j+1):=by
 match j,hs with
 |0,hs=>
   simp at hs;subst hs
   refine ⟨?_,rfl⟩
   unfold inC inM;simp only [List.take_zero,List.any_nil,Ba,List.foldl_nil,BP,Bp];rw [zrO]
 |1,hs=>
   simp at hs;subst hs
   refine ⟨?_,rfl⟩
   unfold inC inM;simp only [List.take_zero,List.any_nil,Ba,List.foldl_nil,BP,Bp,BR];rw [zcI,if_neg (fun e=>by have e9:=congrArg Prod.fst e;first|exact hne e9|exact hne e9.symm),zrO,B2]
theorem zrz {l:List GameS} {x:GameS} {k:Nat}:inC l x k 0=zhV l k/\inM l x k 0=zhu (l.take k):=by
 unfold inC inM;simp
theorem zwY {l:List GameS} {x:GameS} {k:Nat} (hx:l[k]? =some x):inC l x k 2=zhV l (k+1)/\inM l x k 2=zhu (l.take (k+1)):=by
 refine ⟨?_,?_⟩
 rw [zqi hx,zs4];unfold inC
 simp
 rw [zaj hx,ztP];unfold inM
 simp
theorem zrv {T:List Str} {l:List GameS} (hn: ¬1000<l.length) (hg:zaO (zbP T) zdu l 0 l=zaO (zbP T) zdu l l.length []):zdm T l=if zhV l l.length=true then 13 else 0:=by
 have h0:zdO 1000 (zbP T) zdu l=0:=(zbG hn hg).symm;rw [zdm,h0,if_neg (by simp),zvU]
theorem zc5 {T:List Str} {l:List GameS} {e:Int} (h:e=zdO 1000 (zbP T) zdu l) (h0:e≠0):e=zdm T l:=by
 rw [zdm,<-h,if_pos h0]
theorem zxk {m:Int} (h1: -18446744073709551616<=m) (h2:m<0):IntKind.wrap .u64 m=m+18446744073709551616:=by
 unfold IntKind.wrap
 simp [IntKind.bits,IntKind.signed]
 omega
theorem zwV {b:BookS} (h: ¬zbQ b.League≠0):zoa b.League.Players b.Health=zob b.League.Players b.Health:=by
 have h0:zbQ b.League=0:=by simpa using h
 have h1:zce b.League.Players=0:=by
  refine Classical.byContradiction fun hq=> ?_
  have:=zts hq;rw [h0] at this;exact hq this
 rw [zoa,if_neg (by simp [h1])]
end
section
open Go
def spl (c:UInt8):Str->List Str
 |[]=>[[]]
 |b::l=>if b=c then []::spl c l else match spl c l with
   |[]=>[[b]]
   |x::r=>(b::x)::r
def jn (c:UInt8):List Str->Str
 |[]=>[]
 |[x]=>x
 |x::r=>x++c::jn c r
theorem zv6 {c:UInt8} {x:Str} {r:List Str} (h:r≠[]):jn c (x::r)=x++c::jn c r:=by
 cases r with
 |nil=>exact absurd rfl h
 |cons y r=>rfl
theorem zoc (c:UInt8): ∀l:List Str,Lib.join l [c]=jn c l
 |[]=>rfl
 |[x]=>Lib.join_one x [c]
 |x::y::r=>by
   rw [zv6 (by simp),<-zoc c (y::r),Lib.join_cons,Lib.join_cons]
   simp [Lib.joinTail]
end
section
open Go.Proofs Go.RowKit Go.Maps Go.Sort Go.Shelf
section
variable {P:Program}
def znU (H:Type):Value->Option (DataW H×List MemPlace):=fun _=>some (.nil,[])
theorem zuA {I:Imm} {w:World} {b:Nat} {α:Type} {f:α->HVal} {L:List (Str×α)} (hm:MSat I w (.map b (sk (em f L)))):
 ∃es clk,w.heap[b]? =some (.map es clk)/\BornOk es clk/\es.size=L.length/\es.toList.map (·.key)=L.map fun p=>encStr p.1:=by
 obtain ⟨es,clk,h1,⟨h2,h4⟩,h3⟩:=hm;have hl:es.size=L.length:=by rw [h2];simp [sk]
 refine ⟨es,clk,h1,h4,hl,BG fun i=> ?_⟩
 rw [Ag,Ag]
 rcases Az i L.length with h|h
 have a1:L[i]? =some L[i]:=Aa h;have a2:es[i]? =some es[i]:=Ai (by omega);have a3:(sk (em f L))[i]? =some (.str L[i].1,f L[i].2):=by simp [sk,a1]
 have a4:=(h3 i _ _ a3 a2).1.str_inv;rw [a1,AS,a2];simp only [AG,As];rw [a4]
 try rfl
 rw [Ax h,Ax (by rw [AN];omega)];rfl
theorem zsx {es:Array MapEntry} {clk:Nat} (h:BornOk es clk):(es.toList.map (·.born)).Nodup:=by
 refine List.pairwise_iff_getElem.2 fun i j hi hj hij e=> ?_
 rw [List.getElem_map,List.getElem_map] at e;rw [Ah,AN] at hi hj;have:=h.2 i j es[i] es[j] (Ai hi) (Ai hj) (by simpa using e)
 omega
theorem zrd {I:Imm} {w:World} {b:Nat} {α:Type} {f:α->HVal} {L:List (Str×α)} {k:TypeId} (hk:P.underlying k=some .string) (hm:MSat I w (.map b (sk (em f L)))) (hn:ANodup L)
 (hl: ∀p∈L,p.1.length<=1000000) (hs:L.length<=1000000): ∃D:DataW Unit,w.ownsMap P k (znU Unit) b L.length D/\(strKeys D).Perm (L.map (·.1))/\Maps.size D=L.length:=by
 obtain ⟨es,clk,h1,h2,h3,h4⟩:=zuA hm;have hx: ∀x∈es.toList,∃p∈L,x.key=encStr p.1:=fun x hx=>by
  have:=BA (f:=(·.key)) hx;rw [h4] at this;obtain ⟨p,hp,e⟩:=List.mem_map.1 this;exact ⟨p,hp,e.symm⟩
 have hrd: ∀x∈es.toList,∀p∈L,x.key=encStr p.1->WideElems.rd P k (znU Unit) x=some (.string p.1,.nil):=fun x _ p hp e=>by
  have:=hl p hp;have hm:maxLen=9223372036854775807:=by rfl
  simp [WideElems.rd,keyOf,hk,e,mapKey,encStr,znU,hm]
  rw [if_pos (by show p.1.toArray.size<=_;simp;omega)]
  rfl
 have hkeys:es.toList.map (fun x=>strOf (WideElems.rg P k (znU Unit) x).1)=L.map (·.1):=by
  have e2:es.toList.map (fun x=>strOf (WideElems.rg P k (znU Unit) x).1)=(es.toList.map (·.key)).map fun v=>match v with| .string s=>s.data.toList|_=>[]:=by
   rw [AX];refine List.map_congr_left fun x hx'=> ?_
   obtain ⟨p,hp,e⟩:=hx x hx';rw [WideElems.rg_of (hrd x hx' p hp e)]
   simp [e,encStr,strOf]
  rw [e2,h4,AX];refine List.map_congr_left fun p _=> ?_
  simp [encStr]
 have hml:maxLen=9223372036854775807:=by rfl
 refine ⟨_,⟨es,clk,h1,⟨by omega,⟨fun x hx'=> ?_,zsx h2,?_⟩,fun x hx'=> ?_⟩,by omega,rfl⟩,?_,?_⟩
 obtain ⟨i,hi⟩:=Be hx';exact h2.1 i x (by simpa using hi);rw [h4];have:(L.map fun p=>encStr p.1)=(L.map (·.1)).map encStr:=by rw [AX];rfl
 rw [this];exact List.Pairwise.map encStr (fun a b hab e=>hab (encStr_inj e)) hn;obtain ⟨p,hp,e⟩:=hx x hx';exact ⟨_,hrd x hx' p hp e⟩
 show ((List.foldr DataW.insert [] _).map fun p=>strOf p.1).Perm _
 rw [<-hkeys];have:=(WideShapes.sorted_perm (es.toList.map (WideElems.rg P k (znU Unit)))).map fun p=>strOf p.1
 rw [AX] at this;exact this
 show (List.foldr DataW.insert [] _).length=_
 rw [(WideShapes.sorted_perm _).length_eq,Ah,AN,h3]
theorem zue [Tracks] {ρ:Ren} (L:SlLaysZ.n7 P ρ) {b:Nat}:Con P (ρ.f 7) [.raw (.map (some b))] [] fun x M'=> ∃bx,x= .fn (.func (ρ.f 10)) [] [.raw (.pointer (some ⟨bx,0,none⟩))]/\M'=[.cells bx [.raw (.map (some b))]]:=by
 intro I F w args ha hs
 obtain ⟨u,rfl,hu⟩:=ha.one;obtain rfl:=hu.raw_inv;refine ((callsIn_wide (n:=1)).1 (AnyZ.keys_in L Fence.wide 1 trivial rfl (some b) w)).mono ?_;rintro _ w' ⟨rfl,rfl⟩;refine ⟨_,_,_,I,rfl,.refl I,⟨w.heap.size,rfl,rfl⟩,.fn rfl rfl (fun j c v h _=>by simp at h) (fun j c v h1 h2=> ?_),?_⟩
 exact (VL.cons (.raw _ rfl) VL.nil:VL I [.raw (.pointer (some ⟨w.heap.size,0,none⟩))] [.pointer (some ⟨w.heap.size,0,none⟩)]).2 j c v h1 (by simpa using h2);exact hs.new_own _ _ rfl ⟨#[.map (some b)],ρ.t 23,(0,0),by simp,Free.zero _,VL.cons (.raw _ rfl) VL.nil⟩
theorem zsi [Tracks] (hT:Tracks.on=false) {ρ ρk:Ren} (L:SlLaysZ.n6 P ρ) (Lk:SlLaysZ.n7 P ρk) (hsort: ∀m,AnyZ.SortsIn P ρ Fence.wide m)
 (e9: ∀args w,(callFunc (ρ.f 9) args).run P w= .ok (.enter (ρ.f 9) args) w) (eg: ∀args w,(callFunc (ρk.f 10) args).run P w= .ok (.enter (ρk.f 10) args) w)
 {α:Type} {f:α->HVal} {l:List (Str×α)} (hn:ANodup l) (hl: ∀p∈l,p.1.length<=1000000) (hs:l.length<=1000000) {b bx:Nat}:
 Con P (ρ.f 6) [.fn (.func (ρk.f 10)) [] [.raw (.pointer (some ⟨bx,0,none⟩))]] [.cells bx [.raw (.map (some b))],.map b (sk (em f l))] fun x M'=> ∃v,x= .raw v/\M'=[.arr v 1 ((za3 (l.map (·.1))).map .str),.map b (sk (em f l))]:=by
 intro I F w args ha hsat
 obtain ⟨u,rfl,hu⟩:=ha.one;obtain ⟨v1,v2,rfl,hv1,hv2,hc⟩: ∃v1 v2,u= .func (.func (ρk.f 10)) v1 v2/\v1= #[]/\v2.size=1/\∀(j:Nat) (c:HVal) (v:Value),[HVal.raw (.pointer (some ⟨bx,0,none⟩))][j]? =some c->v2[j]? =some v->V I c v:=by
  cases hu with
  |fn h1 h2 h3 h4=>exact ⟨_,_,rfl,BC (by simpa using h1),by simpa using h2,h4⟩
 subst hv1;obtain rfl:v2= #[.pointer (some ⟨bx,0,none⟩)]:=by
  match v2,hv2 with
  |⟨[y]⟩,_=>have:=(hc 0 _ y rfl rfl).raw_inv;rw [this]
 obtain ⟨rc,el,fr,c1,c2,c3⟩:=hsat.obj (.cells bx [.raw (.map (some b))]) (by simp);have hmap:=hsat.obj (.map b (sk (em f l))) (by simp);obtain ⟨D,d1,d2,d3⟩:=zrd (k:=ρk.t 26) (by exact Lk.t26) hmap hn hl hs;have hbx:bx<w.heap.size:=(Array.getElem?_eq_some_iff.1 c1).1;have hcell:w.cell? ⟨bx,0,none⟩=some (.map (some b)):=by
  have:=c3.1
  match rc,this,c1,c3 with
  |⟨[y]⟩,_,c1,c3=>
    have hy:=c3.head.raw_inv;subst hy
    simp [World.cell?,c1]
 have hseq:=AnyZ.keys_gives (ρ:=ρk) {Lk with} Fence.wide 2 trivial rfl (by omega) bx b l.length D w hbx hcell d1;have cS:=AnyZ.sorted_in L Fence.wide 5 trivial trivial trivial trivial rfl (by omega) (hsort _) e9 (ρk.f 10) #[.pointer (some ⟨bx,0,none⟩)] trivial eg _ _ (by rw [d3];exact Ay hs (by decide)) (by rw [d3];omega) w hseq;refine ((callsIn_wide (n:=5)).1 cS).mono ?_;rintro e w' ⟨v,ss,rfl,hS,hrow,hnil,hb⟩;have hss:(ss.mergeSort fun x y=>decide (x<=y))=za3 (l.map (·.1)):=mergeSort_of_perm (hS.trans d2);rw [hss] at hrow;have hlen:ss.length=(za3 (l.map (·.1))).length:=by rw [ziH,(hS.trans d2).length_eq]
 have hmem:MSat I w' (.arr v 1 ((za3 (l.map (·.1))).map .str)):=by
  rcases hrow.2 with ⟨rfl,hz⟩|⟨gb,cap,cur,rfl,hbase,hgb,r1,r2,r3,r4⟩
  refine .inl ⟨rfl,?_⟩
  have:za3 (l.map (·.1))=[]:=List.length_eq_zero_iff.1 (by omega);rw [this];rfl;refine .inr ⟨gb,0,cap,cur,_,_,by rw [Ah,<-hlen],hgb,Free.zero _,fun e he=> ?_,⟨by rw [Ah];omega,Ay r2 (by decide)⟩,by omega,fun i j e c y h1 h2 h3=> ?_⟩
  obtain ⟨s,_,rfl⟩:=List.mem_map.1 he;rfl;rw [Ag] at h1
  cases hq:(za3 (l.map (·.1)))[i]? with
  |none=>rw [hq] at h1;cases h1
  |some s=>
    rw [hq] at h1;simp only [AG,As] at h1;subst h1;have hj:j=0:=by
     cases j with
     |zero=>rfl
     |succ j=>simp [zb] at h2
    subst hj;simp only [zb,AU,As] at h2;subst h2;have hi:=zl hq;have h4:(cur.toList.take (ss.length*1))[i]? =some (encStr s):=by rw [r4,Ag,hq];rfl
    rw [AC (by omega),AS] at h4;have e0:0+i*1+0=i:=by omega
    rw [e0,h4] at h3
    cases h3
    exact .str s
 have hown: ∀k,v.ownBlock=some k->w.heap.size<=k/\k<w'.heap.size:=hrow.lt
 refine ⟨v,.raw v,_,I,rfl,.refl I,⟨v,rfl,rfl⟩,?_,?_⟩
 rcases hrow.2 with ⟨rfl,_⟩|⟨gb,cap,cur,rfl,_⟩
 exact .raw _ rfl;exact .raw _ rfl;refine hsat.change (m':= .arr v 1 _) (fun k hk _=>hb.block k hk) (fun k hk=> .inr ?_) ?_ hmem hb.os hb.output hb.tape (fun ht=>by rw [hT] at ht;cases ht)
 rcases hrow.2 with ⟨rfl,_⟩|⟨gb,cap,cur,rfl,hbase,_⟩
 simp [MObj.blocks] at hk
 simp [MObj.blocks] at hk;omega
 rcases hrow.2 with ⟨rfl,_⟩|⟨gb,cap,cur,rfl,hbase,_⟩<;>simp [MObj.blocks]
theorem zps [Tracks] (hT:Tracks.on=false) {ρ ρk:Ren} (L:SlLaysZ.n6 P ρ) (Lk:SlLaysZ.n7 P ρk) (hsort: ∀m,AnyZ.SortsIn P ρ Fence.wide m)
 (e9: ∀args w,(callFunc (ρ.f 9) args).run P w= .ok (.enter (ρ.f 9) args) w) (eg: ∀args w,(callFunc (ρk.f 10) args).run P w= .ok (.enter (ρk.f 10) args) w)
 {S:List Str} (hn:S.Nodup) (hl: ∀s∈S,s.length<=1000000) (hs:S.length<=1000000) {b bx:Nat}:
 Con P (ρ.f 6) [.fn (.func (ρk.f 10)) [] [.raw (.pointer (some ⟨bx,0,none⟩))]] [.cells bx [.raw (.map (some b))],.map b (sk (zbe S))] fun x M'=> ∃v,x= .raw v/\M'=[.arr v 1 ((za3 S).map .str),.map b (sk (zbe S))]:=by
 have e1:zbe S=em HVal.bool (S.map fun s=>(s,true)):=by simp [zbe]
 have e2:(S.map fun s=>(s,true)).map (·.1)=S:=by simp [Function.comp_def]
 have:=zsi hT L Lk hsort e9 eg (f:=HVal.bool) (l:=S.map fun s=>(s,true)) (by unfold ANodup;rw [e2];exact hn) (fun p hp=>by obtain ⟨s,hs,rfl⟩:=List.mem_map.1 hp;exact hl s hs) (by simpa using hs) (b:=b) (bx:=bx);rw [e2,<-e1] at this;exact this
end
end
section
open Go.Proofs Go.RowKit Go.Sort Go.Shelf
variable {P:Program}
theorem Sat.below [Tracks] (hT:Tracks.on=false) {I:Imm} {M:List MObj} {w w':World} (hs:Sat P I M w) (hb:Below w.heap.size w w'):Sat P I M w':=by
 obtain ⟨h1,h2⟩:=hs.lt;exact hs.of_same (fun b hb'=>hb.block b (h1 b hb')) (fun b hb'=>hb.block b (h2 b hb')) hb.os hb.output hb.tape (fun h=>by rw [hT] at h;cases h)
theorem zs7 [Tracks] (hT:Tracks.on=false) {ρ:Ren} (L:Lays.n196 P ρ) (h3:P.globalNamed "unicode/utf8.first" =some (ρ.g 3)) (h4:P.globalNamed "unicode/utf8.acceptRanges" =some (ρ.g 4)) {s:Str} (hs:s.length<=1000000):
 ConP P (ρ.f 196) [.str s] (.bool (Lib.validD s)):=by
 intro I F w args ha hsat
 obtain ⟨u,rfl,hu⟩:=ha.one;obtain rfl:=hu.str_inv;refine (Any.utf8_ValidString L ⟨s.toArray⟩ w (by show s.toArray.size<=_;simp;omega) (hsat.utf8 h3 h4)).mono ?_;rintro e w' ⟨rfl,hb⟩;exact ⟨_,.bool _,[],I,rfl,.refl I,⟨by simp,rfl⟩,.bool _,hsat.below hT hb⟩
theorem zrV {I:Imm} {w':World} {B:Nat} {t:TypeId} {v:Value} {l:List Str} (hl:l.length<=1000000) (hrow:w'.ownsRow B t 1 v l.length (l.map encStr)):MSat I w' (.arr v 1 (l.map .str)):=by
 rcases hrow.2 with ⟨rfl,hz⟩|⟨gb,cap,cur,rfl,hbase,hgb,r1,r2,r3,r4⟩
 refine .inl ⟨rfl,?_⟩
 rw [List.length_eq_zero_iff.1 hz];rfl;refine .inr ⟨gb,0,cap,cur,_,_,by rw [Ah],hgb,Free.zero _,fun e he=> ?_,⟨by rw [Ah];omega,Ay r2 (by decide)⟩,by omega,fun i j e c y h1 h2 h3=> ?_⟩
 obtain ⟨s,_,rfl⟩:=List.mem_map.1 he;rfl;rw [Ag] at h1
 cases hq:l[i]? with
 |none=>rw [hq] at h1;cases h1
 |some s=>
   rw [hq] at h1;simp only [AG,As] at h1;subst h1;have hj:j=0:=by
    cases j with
    |zero=>rfl
    |succ j=>simp [zb] at h2
   subst hj;simp only [zb,AU,As] at h2;subst h2;have hi:=zl hq;have h4:(cur.toList.take (l.length*1))[i]? =some (encStr s):=by rw [r4,Ag,hq];rfl
   rw [AC (by omega),AS] at h4;have e0:0+i*1+0=i:=by omega
   rw [e0,h4] at h3
   cases h3
   exact .str s
theorem zsg [Tracks] (hT:Tracks.on=false) {ρ:Ren} (L:Lays.n229 P ρ) (g:Nat) (eg: ∀args w,(callFunc g args).run P w= .ok (.enter g args) w) (p:Nat->Bool) {s:Str} (hs:s.length<=1000000) (hp: ∀w,PredAt P g #[] encR p w)
 (hi154:(P.info? (ρ.t 154)).map (fun i=>(i.zero,i.size,i.bytes))=some (some (.agg #[.int .i64 0,.int .i64 0]),2,16))
 (hi9:(P.info? (ρ.t 9)).map (fun i=>(i.zero,i.size,i.bytes))=some (some (.string ⟨#[]⟩),1,16))
 {l:List Str} (hl:l.length<=1000000) (hf:Lib.goFieldsP p ⟨s.toArray⟩=l.map fun x=>⟨x.toArray⟩):
 Con P (ρ.f 229) [.str s,.fn (.func g) [] []] [] fun x M'=> ∃v,x= .raw v/\M'=[.arr v 1 (l.map .str)]:=by
 intro I F w args ha hsat
 obtain ⟨u1,u2,rfl,hu1,hu2⟩: ∃u1 u2,args=[u1,u2]/\V I (.str s) u1/\V I (.fn (.func g) [] []) u2:=by
  match args,ha with
  |[u1,u2],h=>exact ⟨u1,u2,rfl,h.2 0 _ _ rfl rfl,h.2 1 _ _ rfl rfl⟩
  |[],h=>exact absurd h.1 (by simp)
  |[_],h=>exact absurd h.1 (by simp)
  |_::_::_::_,h=>exact absurd h.1 (by simp)
 obtain rfl:=hu1.str_inv;obtain ⟨v1,v2,rfl,hv1,hv2⟩: ∃v1 v2,u2= .func (.func g) v1 v2/\v1= #[]/\v2= #[]:=by
  cases hu2 with
  |fn h1 h2 h3 h4=>exact ⟨_,_,rfl,BC (by simpa using h1),BC (by simpa using h2)⟩
 subst hv1 hv2;refine (Any.strings_FieldsFunc L g #[] eg p ⟨s.toArray⟩ w (by show s.toArray.size<=_;simp;omega) (hp w) hi154 hi9).mono ?_;rintro e w' ⟨A,rfl,hA,hrow,hb⟩;have e1:(Lib.goFieldsP p ⟨s.toArray⟩).length=l.length:=by rw [hf,Ah]
 have e2:(Lib.goFieldsP p ⟨s.toArray⟩).map Value.string=l.map encStr:=by rw [hf,AX];rfl
 rw [e1,e2] at hrow;rw [e1];have hmem:=zrV (I:=I) hl hrow;refine ⟨_,.raw _,_,I,rfl,.refl I,⟨_,rfl,rfl⟩,.raw _ rfl,?_⟩
 refine (zmn 1 hsat).change (m':= .arr _ 1 _) (fun k hk _=>hb.block k hk) (fun k hk=> .inr ?_) ?_ hmem hb.os hb.output hb.tape (fun ht=>by rw [hT] at ht;cases ht)
 simp [MObj.blocks] at hk;omega
 simp [MObj.blocks]
end
section
open Go.Proofs Go.RowKit Go.Sort Go.Shelf
variable {P:Program}
theorem zpt [Tracks] {ρ:Ren} (L:Lays.n144 P ρ) (hg:P.globalNamed "internal/bytealg.MaxLen" =some (ρ.g 1)) {s t:Str} (hs:s.length<4294967281):
 ConP P (ρ.f 144) [.str s,.str t] (.bool (Lib.contains s t)):=by
 intro I F w args ha hs0
 obtain ⟨u,v,rfl,hu,hv⟩: ∃u v,args=[u,v]/\V I (.str s) u/\V I (.str t) v:=by
  match args,ha with
  |[u,v],h=>exact ⟨u,v,rfl,h.2 0 _ _ rfl rfl,h.2 1 _ _ rfl rfl⟩
  |[],h=>exact absurd h.1 (by simp)
  |[_],h=>exact absurd h.1 (by simp)
  |_::_::_::_,h=>exact absurd h.1 (by simp)
 obtain rfl:=hu.str_inv;obtain rfl:=hv.str_inv;obtain ⟨m,hm⟩:=hs0.maxLen hg;refine (Any.strings_Contains L ⟨s.toArray⟩ ⟨t.toArray⟩ m w (by show s.toArray.size<_;simpa using hs) hm).mono ?_;rintro _ w' ⟨rfl,rfl⟩;exact ⟨_,.bool _,[],I,rfl,.refl I,⟨rfl,rfl⟩,.bool _,hs0⟩
theorem zq6 [Tracks] (hT:Tracks.on=false) {ρ:Ren} (L:Lays.n229 P ρ) (g:Nat) (eg: ∀args w,(callFunc g args).run P w= .ok (.enter g args) w) (p:Nat->Bool) {s:Str} (hs:s.length<=1000000) (hp: ∀w,PredAt P g #[] encR p w)
 (hi154:(P.info? (ρ.t 154)).map (fun i=>(i.zero,i.size,i.bytes))=some (some (.agg #[.int .i64 0,.int .i64 0]),2,16))
 (hi9:(P.info? (ρ.t 9)).map (fun i=>(i.zero,i.size,i.bytes))=some (some (.string ⟨#[]⟩),1,16))
 {l:List Str} (hl:l.length<=1000000) (hf:Lib.goFieldsP p ⟨s.toArray⟩=l.map fun x=>⟨x.toArray⟩):
 ConP P (ρ.f 229) [.str s,.fn (.func g) [] []] (.slice 1 (l.map .str)):=by
 intro I F w args ha hsat
 refine (zsg hT L g eg p hs hp hi154 hi9 hl hf I F w args ha hsat).mono ?_;rintro e w' ⟨u,x,M',K,rfl,hk,⟨v,rfl,rfl⟩,h3,h4⟩;obtain ⟨J,hl',hs',hv⟩:=h4.freeze_arr;have:=h3.raw_inv;subst this;exact ⟨_,_,[],J,rfl,hk.trans hl',⟨rfl,rfl⟩,hv,hs'⟩
end
section
open Op
theorem zpT {x c:UInt8}:((x.toNat:Nat):Int)=((c.toNat:Nat):Int)↔x=c:=by
 constructor
 intro h;exact UInt8.toNat_inj.1 (by omega)
 intro h;rw [h]
theorem znq {s:Str} (h:s∈zb8):s.length<=60:=by
 have:=zlz h
 simp [out] at this
 omega
theorem znp {s:Str} (h:s∈zb8) {c:UInt8} (hc:c∈s): ¬c.toNat<32/\c.toNat≠127:=by
 revert c;revert h;revert s;decide
theorem zmi {s:Str} (h:s∈zb8):Lib.validD s=true:=by
 revert h;revert s
 have:(zb8.all fun s=>Lib.validD s)=true:=by kernel_rfl
 intro s h;exact List.all_eq_true.1 this s h
theorem zsw {s:Str} (h:s∈zb8):(zcy (· ==32) s).dropWhile (· ==32)=s:=by
 have:(zb8.all fun s=>(zcy (· ==32) s).dropWhile (· ==32)==s)=true:=by kernel_rfl
 simpa using List.all_eq_true.1 this s h
theorem zsv {s:Str} (h:s∈zb8):Lib.contains s [32,32]=false:=by
 have:(zb8.all fun s=> !Lib.contains s [32,32])=true:=by kernel_rfl
 simpa using List.all_eq_true.1 this s h
theorem zqB {s:Str} (h:s∈zb8):(spl 32 s).length<=60/\Lib.goFieldsP (fun r=>decide ((r:Int)=32)) ⟨s.toArray⟩=(spl 32 s).map (fun x=>⟨x.toArray⟩)/\jn 32 (spl 32 s)=s:=by
 have h1:(zb8.all fun s=>decide ((spl 32 s).length<=60))=true:=by kernel_rfl
 have h2:(zb8.all fun s=>(Lib.goFieldsP (fun r=>decide ((r:Int)=32)) ⟨s.toArray⟩).map (fun x=>x.data.toList)==spl 32 s)=true:=by kernel_rfl
 have h3:(zb8.all fun s=>jn 32 (spl 32 s)==s)=true:=by kernel_rfl
 refine ⟨by simpa using List.all_eq_true.1 h1 s h,?_,by simpa using List.all_eq_true.1 h3 s h⟩
 have h4:(Lib.goFieldsP (fun r=>decide ((r:Int)=32)) ⟨s.toArray⟩).map (fun x=>x.data.toList)=spl 32 s:=by simpa using List.all_eq_true.1 h2 s h
 rw [<-h4,AX]
 conv=>lhs;rw [<-List.map_id (Lib.goFieldsP (fun r=>decide ((r:Int)=32)) ⟨s.toArray⟩)]
 exact List.map_congr_left fun x _=>by cases x;simp
end
end Go.HL
namespace Go.Proofs
section
open Go.Shelf
def Tryz.lays144_ren:Go.Shelf.Ren:=⟨fun|144=>270|143=>301|219=>316|217=>222|225=>315|224=>314|267=>319|266=>268|314=>320|n=>n,fun|9=>9|4=>4|3=>3|5=>5|46=>223|146=>362|51=>270|n=>n,fun|1=>0|n=>n⟩
theorem zpX:Go.Proofs.Lays.n144 Tryz.prog Tryz.lays144_ren:={
 mixed:=by kernel_rfl
 f143:=Tryz.func301.trans (congrArg some (by kernel_rfl))
 f144:=Tryz.func270.trans (congrArg some (by kernel_rfl))
 f217:=Tryz.func222.trans (congrArg some (by kernel_rfl))
 f219:=Tryz.func316.trans (congrArg some (by kernel_rfl))
 f224:=Tryz.func314.trans (congrArg some (by kernel_rfl))
 f225:=Tryz.func315.trans (congrArg some (by kernel_rfl))
 f266:=Tryz.func268.trans (congrArg some (by kernel_rfl))
 f267:=Tryz.func319.trans (congrArg some (by kernel_rfl))
 f314:=Tryz.func320.trans (congrArg some (by kernel_rfl))
 t3:=Tryz.underlying3
 a3:=Tryz.isAgg3
 z3:=Tryz.sizeOf3
 v3:=Tryz.zeroValue3
 t4:=Tryz.underlying4
 a4:=Tryz.isAgg4
 z4:=Tryz.sizeOf4
 v4:=Tryz.zeroValue4
 t5:=Tryz.underlying5
 a5:=Tryz.isAgg5
 z5:=Tryz.sizeOf5
 v5:=Tryz.zeroValue5
 t9:=Tryz.underlying9
 a9:=Tryz.isAgg9
 z9:=Tryz.sizeOf9
 v9:=Tryz.zeroValue9
 t46:=Tryz.underlying223
 a46:=Tryz.isAgg223
 z46:=Tryz.sizeOf223
 v46:=Tryz.zeroValue223
 t51:=Tryz.underlying270
 a51:=Tryz.isAgg270
 z51:=Tryz.sizeOf270
 v51:=Tryz.zeroValue270
 t146:=Tryz.underlying362
 a146:=Tryz.isAgg362
 z146:=Tryz.sizeOf362
 v146:=Tryz.zeroValue362
 g1:=by kernel_rfl}
def Tryz.lays196_ren:Go.Shelf.Ren:=⟨fun|196=>208|259=>260|n=>n,fun|9=>9|4=>4|3=>3|5=>5|12=>12|119=>311|0=>0|46=>223|139=>314|138=>313|53=>272|n=>n,fun|3=>1|4=>2|n=>n⟩
theorem zp0:Go.Proofs.Lays.n196 Tryz.prog Tryz.lays196_ren:={
 mixed:=by kernel_rfl
 f196:=Tryz.func208.trans (congrArg some (by kernel_rfl))
 f259:=Tryz.func260.trans (congrArg some (by kernel_rfl))
 t0:=Tryz.underlying0
 a0:=Tryz.isAgg0
 z0:=Tryz.sizeOf0
 v0:=Tryz.zeroValue0
 t3:=Tryz.underlying3
 a3:=Tryz.isAgg3
 z3:=Tryz.sizeOf3
 v3:=Tryz.zeroValue3
 t4:=Tryz.underlying4
 a4:=Tryz.isAgg4
 z4:=Tryz.sizeOf4
 v4:=Tryz.zeroValue4
 t5:=Tryz.underlying5
 a5:=Tryz.isAgg5
 z5:=Tryz.sizeOf5
 v5:=Tryz.zeroValue5
 t9:=Tryz.underlying9
 a9:=Tryz.isAgg9
 z9:=Tryz.sizeOf9
 v9:=Tryz.zeroValue9
 t12:=Tryz.underlying12
 a12:=Tryz.isAgg12
 z12:=Tryz.sizeOf12
 v12:=Tryz.zeroValue12
 t46:=Tryz.underlying223
 a46:=Tryz.isAgg223
 z46:=Tryz.sizeOf223
 v46:=Tryz.zeroValue223
 t53:=Tryz.underlying272
 a53:=Tryz.isAgg272
 z53:=Tryz.sizeOf272
 v53:=Tryz.zeroValue272
 t119:=Tryz.underlying311
 a119:=Tryz.isAgg311
 z119:=Tryz.sizeOf311
 t138:=Tryz.underlying313
 a138:=Tryz.isAgg313
 z138:=Tryz.sizeOf313
 v138:=Tryz.zeroValue313
 t139:=Tryz.underlying314
 a139:=Tryz.isAgg314
 z139:=Tryz.sizeOf314
 v139:=Tryz.zeroValue314
 g3:=by kernel_rfl
 g4:=by kernel_rfl}
def Tryz.lays229_ren:Go.Shelf.Ren:=⟨fun|229=>210|n=>n,fun|9=>9|40=>276|31=>33|152=>325|3=>3|0=>0|4=>4|21=>21|154=>327|n=>n,fun|n=>n⟩
theorem zp2:Go.Proofs.Lays.n229 Tryz.prog Tryz.lays229_ren:={
 mixed:=by kernel_rfl
 f229:=Tryz.func210.trans (congrArg some (by kernel_rfl))
 t0:=Tryz.underlying0
 a0:=Tryz.isAgg0
 z0:=Tryz.sizeOf0
 v0:=Tryz.zeroValue0
 t3:=Tryz.underlying3
 a3:=Tryz.isAgg3
 z3:=Tryz.sizeOf3
 v3:=Tryz.zeroValue3
 t4:=Tryz.underlying4
 a4:=Tryz.isAgg4
 z4:=Tryz.sizeOf4
 v4:=Tryz.zeroValue4
 t9:=Tryz.underlying9
 a9:=Tryz.isAgg9
 z9:=Tryz.sizeOf9
 v9:=Tryz.zeroValue9
 t21:=Tryz.underlying21
 a21:=Tryz.isAgg21
 z21:=Tryz.sizeOf21
 v21:=Tryz.zeroValue21
 t31:=Tryz.underlying33
 a31:=Tryz.isAgg33
 z31:=Tryz.sizeOf33
 v31:=Tryz.zeroValue33
 t40:=Tryz.underlying276
 a40:=Tryz.isAgg276
 z40:=Tryz.sizeOf276
 v40:=Tryz.zeroValue276
 t152:=Tryz.underlying325
 a152:=Tryz.isAgg325
 z152:=Tryz.sizeOf325
 v152:=Tryz.zeroValue325
 t154:=Tryz.underlying327
 a154:=Tryz.isAgg327
 z154:=Tryz.sizeOf327
 v154:=Tryz.zeroValue327}
def Tryz.lays156_ren:Go.Shelf.Ren:=⟨fun|156=>209|165=>261|166=>262|169=>263|240=>296|241=>297|276=>311|277=>312|n=>n,fun|31=>33|9=>9|3=>3|4=>4|0=>0|20=>20|72=>318|76=>322|70=>315|37=>316|75=>321|127=>350|164=>357|5=>5|80=>324|n=>n,fun|n=>n⟩
theorem zpY:Go.Proofs.Lays.n156 Tryz.prog Tryz.lays156_ren:={
 mixed:=by kernel_rfl
 f156:=Tryz.func209.trans (congrArg some (by kernel_rfl))
 f165:=Tryz.func261.trans (congrArg some (by kernel_rfl))
 f166:=Tryz.func262.trans (congrArg some (by kernel_rfl))
 f169:=Tryz.func263.trans (congrArg some (by kernel_rfl))
 f240:=Tryz.func296.trans (congrArg some (by kernel_rfl))
 f241:=Tryz.func297.trans (congrArg some (by kernel_rfl))
 f276:=Tryz.func311.trans (congrArg some (by kernel_rfl))
 f277:=Tryz.func312.trans (congrArg some (by kernel_rfl))
 t0:=Tryz.underlying0
 a0:=Tryz.isAgg0
 z0:=Tryz.sizeOf0
 v0:=Tryz.zeroValue0
 t3:=Tryz.underlying3
 a3:=Tryz.isAgg3
 z3:=Tryz.sizeOf3
 v3:=Tryz.zeroValue3
 t4:=Tryz.underlying4
 a4:=Tryz.isAgg4
 z4:=Tryz.sizeOf4
 v4:=Tryz.zeroValue4
 t9:=Tryz.underlying9
 a9:=Tryz.isAgg9
 z9:=Tryz.sizeOf9
 v9:=Tryz.zeroValue9
 t20:=Tryz.underlying20
 a20:=Tryz.isAgg20
 z20:=Tryz.sizeOf20
 v20:=Tryz.zeroValue20
 t31:=Tryz.underlying33
 a31:=Tryz.isAgg33
 z31:=Tryz.sizeOf33
 v31:=Tryz.zeroValue33
 t37:=Tryz.underlying316
 a37:=Tryz.isAgg316
 z37:=Tryz.sizeOf316
 v37:=Tryz.zeroValue316
 t70:=Tryz.underlying315
 a70:=Tryz.isAgg315
 z70:=Tryz.sizeOf315
 v70:=Tryz.zeroValue315
 t72:=Tryz.underlying318
 a72:=Tryz.isAgg318
 z72:=Tryz.sizeOf318
 v72:=Tryz.zeroValue318
 t75:=Tryz.underlying321
 a75:=Tryz.isAgg321
 z75:=Tryz.sizeOf321
 v75:=Tryz.zeroValue321
 t76:=Tryz.underlying322
 a76:=Tryz.isAgg322
 z76:=Tryz.sizeOf322
 v76:=Tryz.zeroValue322
 t127:=Tryz.underlying350
 a127:=Tryz.isAgg350
 z127:=Tryz.sizeOf350
 v127:=Tryz.zeroValue350
 t164:=Tryz.underlying357
 a164:=Tryz.isAgg357
 z164:=Tryz.sizeOf357
 v164:=Tryz.zeroValue357}
end
end Go.Proofs
namespace Go.HL
section

end
section
variable {P:Program}
section
variable {e:Env} {dst:Option Tmp} {ty:TypeId} {pos:String} {af:Array Edge} {g:Option (Nat×Bool)} {M:List MObj} {K:HVal->List MObj->Prop}
end
end
section
open Go.Proofs Go.Shelf
variable {P:Program}
section
variable {e:Env} {dst:Option Tmp} {ty:TypeId} {pos:String} {af:Array Edge} {g:Option (Nat×Bool)} {M:List MObj} {K:HVal->List MObj->Prop}
end
end
section
open Go.Proofs Go.Shelf Go.RowKit
variable {P:Program}
theorem VL.two {I:Imm} {c d:HVal} {vs:List Value} (h:VL I [c,d] vs): ∃u v,vs=[u,v]/\V I c u/\V I d v:=by
 match vs,h with
 |[u,v],h=>exact ⟨u,v,rfl,h.head,h.tail.head⟩
 |[],h=>have:=h.1;simp at this
 |[_],h=>have:=h.1;simp at this
 |_::_::_::_,h=>have:=h.1;simp at this
theorem zs8 [Tracks] {ρ:Ren} (hT:Tracks.on=false) (L:Lays.n156 P ρ) (X:Builder.Extra P ρ) {l:List Str} {c:UInt8} (hl:(jn c l).length<=1000000000) (hn:l.length<=1000000000):ConP P (ρ.f 156) [.slice 1 (l.map .str),.str [c]] (.str (jn c l)):=by
 intro I F w args ha hs0
 obtain ⟨u,v,rfl,hu,hv⟩:=ha.two;obtain rfl:=hv.str_inv
 rcases hu.slice_inv with ⟨h0,a,cap,rfl⟩|⟨b,off,cap,rc,el,fr,rfl,h3,h4,h5,h6,h7⟩
 have:l=[]:=by simpa using h0
 subst this;refine (Any.strings_Join_none L X a cap ⟨[c].toArray⟩ w).mono ?_;rintro _ w' ⟨rfl,rfl⟩;exact ⟨_,_,[],I,rfl,.refl I,⟨rfl,rfl⟩,.str [],hs0⟩;have hb:=hs0.imm _ _ h3
 let xs:List ByteArray:=l.map fun s=>⟨s.toArray⟩
 have hx:xs.map (·.data.toList)=l:=by simp [xs,AX,Function.comp_def]
 have hxl:xs.length=l.length:=by simp [xs]
 have hlt:b<w.heap.size:=by
  rcases Az b w.heap.size with h'|h'
  exact h'
  simp [Aj h'] at hb
 have hsz:(l.map HVal.str).length=xs.length:=by simp [xs]
 rw [hsz] at h5 h6⊢;refine (Any.strings_Join L X b off cap xs ⟨[c].toArray⟩ w (fun j x hj=> ?_) hlt (by omega) h5 (by rw [hx];show (Lib.join l [c]).length<=_;rw [zoc];omega)).mono ?_;have hq:l[j]? =some x.data.toList:=by rw [<-hx,Ag,hj];rfl
 have hj':=zl hj;have hr:off+j<rc.size:=by omega
 have h8:=h7 j 0 (.str x.data.toList) (.str x.data.toList) rc[off+j] (by rw [Ag,hq];rfl) rfl (by rw [Nat.mul_one,Bw];exact Ai hr);rw [zbu hb,Ai hr,h8.str_inv];rintro _ w' ⟨rfl,hbw⟩;refine ⟨_,_,[],I,rfl,.refl I,⟨rfl,rfl⟩,?_,?_⟩
 rw [hx,show ((⟨[c].toArray⟩:ByteArray).data.toList:Str)=[c] from rfl,zoc];exact .str _;obtain ⟨h1,h2⟩:=hs0.lt;exact hs0.of_same (fun k hk=>hbw.block k (h1 k hk)) (fun k hk=>hbw.block k (h2 k hk)) hbw.os hbw.output hbw.tape (fun h=>by rw [hT] at h;cases h)
end
end Go.HL
namespace Go.Proofs.YtaihpegdcgdcgaaGreatDoor
set_option maxRecDepth 100000
set_option linter.unusedVariables false
set_option linter.unusedSimpArgs false
section
open Go.Proofs.Tryz
open Go.HL
theorem zgN [Tracks] (hT:Tracks.on=false) {s:Str} (hs:s.length<=1000000):ConP prog 208 [.str s] (.bool (Lib.validD s)):=
 zs7 hT zp0 (by kernel_rfl) (by kernel_rfl) hs
theorem zkM [Tracks] {s t:Str} (hs:s.length<4294967281):ConP prog 270 [.str s,.str t] (.bool (Lib.contains s t)):=
 zpt zpX (by kernel_rfl) hs
theorem zv5 [Tracks] (w:World):PredAt prog 211 #[] encR (fun r=>decide ((r:Int)=32)) w:=fun W r _=>by
 unfold FnGives
 go_enter func211,ntmps211
 go_wp2
 go_ret
 exact ⟨rfl,0,rfl⟩
theorem zjv [Tracks] (hT:Tracks.on=false) {s:Str} (hs:s.length<=1000000) {l:List Str} (hl:l.length<=1000000) (hf:Lib.goFieldsP (fun r=>decide ((r:Int)=32)) ⟨s.toArray⟩=l.map fun x=>⟨x.toArray⟩):ConP prog 210 [.str s,.fn (.func 211) [] []] (.slice 1 (l.map .str)):=
 zq6 hT zp2 _ (enters_of func211 (by kernel_rfl) rfl) _ hs zv5 (by kernel_rfl) (by kernel_rfl) hl hf
theorem zn1 [Tracks] (hT:Tracks.on=false) {l:List Str} {c:UInt8} (hl:(jn c l).length<=1000000000) (hn:l.length<=1000000000):ConP prog 209 [.slice 1 (l.map .str),.str [c]] (.str (jn c l)):=
 zs8 hT zpY {t5:=underlying5,a5:=fun w=>by kernel_rfl,z5:=fun w=>by kernel_rfl,v5:=fun w=>by kernel_rfl,infoByte:=by kernel_rfl,cellsByte:=by kernel_rfl,sizeByte:=by kernel_rfl,neB5:=by decide,sizeBuilder:=by kernel_rfl,liesBuilder:=by kernel_rfl} hl hn
theorem zi0 [Tracks] {s:Str} {c:UInt8} (hl:s.length<=1000000):ConP prog 215 [.str s,.int .u8 c.toNat] (.str (s.dropWhile (· ==c))):=by
 refine uOb func215 ntmps215 ?_;refine gz5 ?_;refine uU1 [0,1,5,11] (fun (t:Str)=>[(0,.str t)]) (fun (t:Str)=>[]) (fun (t:Str)=>t.length<=s.length/\s.dropWhile (· ==c)=t.dropWhile (· ==c)) (fun (t:Str)=>t.length) (s) ?_ ?_;exact ⟨Ae _,rfl⟩;rintro t ⟨ht,hg⟩;refine gz7 ?_;refine dg rfl rfl (fun hc=>by
  have hc0:t≠[]:=by (rintro rfl;simp at hc)
  exact ⟨_,OpenTo.upd (t:=9) rfl (hc) (OpenTo.refl _),zaA (j:=0) (b:=t.headD 0) ty9 rfl rfl rfl (hd0 hc0)⟩) ?_
 refine gz4 ?_;refine uCo (fun h1=> ?_) fun h2=> ?_
 obtain ⟨x,u,rfl⟩: ∃x u,t=x::u:=by cases t with|nil=>simp at h1|cons x u=>exact ⟨x,u,rfl⟩
 have hlen:(x::u).length=u.length+1:=rfl;refine gz5 ?_;refine dq (zfY (l:=1) ty9 rfl ⟨_,_,rfl,rfl⟩ rfl uO uO) ?_;refine gz3 ?_;refine ⟨_,?_,?_,⟨rfl,trivial⟩,uK,Ac _⟩
 refine ⟨by simp at ht⊢;omega,?_⟩
 rw [hg];simp_all [A3,zpT]
 dsimp only;simp
 refine gz2 ?_;refine zn ?_;refine gz7 ?_;refine zB rfl ?_
 show HVal.str _=_
 rw [hg]
 cases t with
 |nil=>rfl
 |cons x u=>simp_all [A3,zpT]
theorem zii [Tracks] {s:Str} {c:UInt8} (hl:s.length<=1000000):ConP prog 216 [.str s,.int .u8 c.toNat] (.str (zcy (· ==c) s)):=by
 refine uOb func216 ntmps216 ?_;refine gz5 ?_;refine uU1 [0,1,5,17] (fun (t:Str)=>[(0,.str t)]) (fun (t:Str)=>[]) (fun (t:Str)=>t.length<=s.length/\zcy (· ==c) s=zcy (· ==c) t) (fun (t:Str)=>t.length) (s) ?_ ?_;exact ⟨Ae _,rfl⟩;rintro t ⟨ht,hg⟩;refine zat ?_;refine dg rfl rfl (fun hc=>by
  have hc0:0<t.length:=by (simp at hc;omega)
  exact ⟨_,OpenTo.upd (t:=12) rfl (hc) (OpenTo.upd (t:=9) rfl (hc) (OpenTo.refl _)),zaA (j:=t.length-1) (b:=t.getD (t.length-1) 0) ty9 rfl rfl uO (getD_some uO)⟩) ?_
 refine gz4 ?_;refine uCo (fun h1=> ?_) fun h2=> ?_
 obtain ⟨u,x,rfl⟩: ∃u x,t=u++[x]:=⟨_,_,(Bi (by intro h0;subst h0;simp at h1)).symm⟩
 have hlen:(u++[x]).length=u.length+1:=by simp
 refine gz8 ?_;refine dq (zfY (l:=0) (h:=u.length) ty9 rfl rfl ⟨_,_,rfl,by omega⟩ uO uO) ?_;refine gz3 ?_;refine ⟨_,?_,?_,⟨rfl,trivial⟩,uK,Ac _⟩
 refine ⟨by simp at ht⊢;omega,?_⟩
 rw [hg,zeV,if_pos (by simp_all [zpT])];simp
 dsimp only;simp
 refine gz2 ?_;refine zn ?_;refine gz7 ?_;refine zB rfl ?_
 show HVal.str _=_
 rw [hg]
 rcases List.eq_nil_or_concat t with rfl|⟨u,x,rfl⟩
 rfl
 rw [List.concat_eq_append] at*;rw [zeV,if_neg (by simp_all [zpT])]
theorem zm6 [Tracks] {s:Str} {c:UInt8} (hs:s.length<=1000000) (hc7:c.toNat<128):ConP prog 161 [.str s,.str [c]] (.str ((zcy (· ==c) s).dropWhile (· ==c))):=by
 refine uOb func161 ntmps161 ?_;refine zdz ?_;refine uCo (fun h1=> ?_) fun h2=> ?_
 refine gz5 ?_;refine zB rfl ?_
 show HVal.str _=_
 (simp_all [zcy])
 refine gz9 ?_;refine uGr rfl (fun hc=>zaA (j:=0) (b:=c) ty9 rfl rfl rfl rfl) ?_;refine gz3 ?_;refine zaF rfl (fun h3=> ?_) (fun h3=> ?_)
 try simp at h3
 refine uDr mixed ?_;refine gz2 ?_;refine uB 2 rfl (zaA (j:=0) (b:=c) ty9 rfl rfl rfl rfl) ?_;refine uB 3 rfl (uCl zys rfl (zii (c:=c) hs)) ?_;refine gz1 ?_;refine uB 5 rfl (zaA (j:=0) (b:=c) ty9 rfl rfl rfl rfl) ?_;refine uB 6 rfl (uCl zyr rfl (zi0 (c:=c) (Ay (zo2 _ _) hs))) ?_;refine gz3 ?_;refine zB rfl ?_
 show HVal.str _=_
 rfl
 exfalso
 try simp at h3
 omega
theorem zp9 [Tracks] {s:Str} (hT:Tracks.on=false) (hs:s∈zb8):ConP prog 229 [.str s] (.bool true):=by
 have hsl:=znq hs;have hv:=zmi hs;have ht6:=zsw hs;have hc6:=zsv hs;refine uOb func229 ntmps229 ?_;refine zat ?_;refine uT1 [2,2,6,14] (fun k=>[(6,.int .i64 (k:Int))]) (fun k=>[]) (fun k=>k<=s.length) (fun k=>s.length-k) (0) ?_ ?_;exact Ad _
 intro k hk
 refine gz4 ?_;refine uCo (fun h1=> ?_) fun h2=> ?_
 obtain ⟨x,hx⟩: ∃x,s[k]? =some x:=⟨_,Aa uO⟩
 obtain ⟨hx1,hx2⟩:=znp hs (Ab hx);refine zct ?_;refine dq (zaA (j:=k) (b:=x) ty9 rfl rfl rfl hx) ?_;refine gz4 ?_;refine uGr rfl (fun hc=>zaA (j:=k) (b:=x) ty9 rfl rfl rfl hx) ?_;refine gz3 ?_;refine zaF rfl (fun h3=> ?_) (fun h3=> ?_)
 exfalso
 try simp at h3
 omega
 try simp at h3
 refine gz7 ?_;refine ⟨k+1,?_,?_,⟨rfl,trivial⟩,uK,Ac _⟩
 omega
 dsimp only;omega
 refine gz2 ?_;refine zn ?_;refine gz4 ?_;refine dq (uCl zvw rfl (zgN hT uO)) ?_;refine gz2 ?_;refine uGr rfl (fun hc=>by have hq:=hc;(try simp at hq);exact uCl zvo rfl (zm6 (s:=s) (c:=32) uO (by decide))) ?_;refine gz5 ?_;refine uGr rfl (fun hc=>by have hq:=hc;(try simp at hq);exact uCl zyL rfl (zkM (s:=s) (t:=[32,32]) uO)) ?_;refine gz5 ?_;refine zB rfl ?_
 show HVal.bool _=_
 simp_all
theorem zl2 [Tracks] {s:Str} (hT:Tracks.on=false) (hs:s∈zb8):ConP prog 148 [.str s] (.bool true):=by
 have hsl:=znq hs;have hv:=zmi hs;obtain ⟨hf1,hf2,hf3⟩:=zqB hs;refine uOb func148 ntmps148 ?_;refine gz6 ?_;refine dq (uCl zvw rfl (zgN hT uO)) ?_;refine gz4 ?_;refine uGr rfl (fun hc=>by have hq:=hc;(try simp at hq);exact uCl zyo rfl (zjv hT (s:=s) uO (l:=spl 32 s) uO hf2)) ?_;refine uGr rfl (fun hc=>by have hq:=hc;(try simp at hq);exact uCl zyn rfl (zn1 hT (l:=spl 32 s) (c:=32) (by rw [hf3];omega) uO)) ?_;refine gz3 ?_;refine zaF rfl (fun h1=> ?_) (fun h1=> ?_)
 exfalso
 try simp at h1
 (clear hf1 hf2 hs;simp_all)
 try simp at h1
 refine gz3 ?_
 clear hf1 hf2 hf3
 try clear h1
 try clear h2
 refine gz6 ?_;refine uT1 [2,2,16,14] (fun k=>[(16,.int .i64 (k:Int))]) (fun k=>[]) (fun k=>k<=s.length) (fun k=>s.length-k) (0) ?_ ?_;exact Ad _
 intro k hk
 refine gz4 ?_;refine uCo (fun h2=> ?_) fun h3=> ?_
 obtain ⟨x,hx⟩: ∃x,s[k]? =some x:=⟨_,Aa uO⟩
 obtain ⟨hx1,hx2⟩:=znp hs (Ab hx);refine zct ?_;refine dq (zaA (j:=k) (b:=x) ty9 rfl rfl rfl hx) ?_;refine gz4 ?_;refine uGr rfl (fun hc=>zaA (j:=k) (b:=x) ty9 rfl rfl rfl hx) ?_;refine gz3 ?_;refine zaF rfl (fun h4=> ?_) (fun h4=> ?_)
 exfalso
 try simp at h4
 omega
 try simp at h4
 refine gz7 ?_;refine ⟨k+1,?_,?_,⟨rfl,trivial⟩,uK,Ac _⟩
 omega
 dsimp only;omega
 refine gz2 ?_;refine zn ?_;refine gz6 ?_;refine zB rfl ?_
 show HVal.bool _=_
 rfl
end
end Go.Proofs.YtaihpegdcgdcgaaGreatDoor
namespace Go.HL
section

end
section
structure Hall where
 Teams:List Str
 Players:List Str
 Budget:Int
 Places:Int
structure Sale where
 Player:Str
 Team:Str
 Price:Int
def zkq:List Sale->Str->Int
 |[],_=>0
 |x::r,t=>(if x.Team=t then x.Price else 0)+zkq r t
def zfV:List Sale->Str->Int
 |[],_=>0
 |x::r,t=>(if x.Team=t then 1 else 0)+zfV r t
theorem zsF (l:List Sale) (x:Sale) (t:Str):zkq (l++[x]) t=zkq l t+(if x.Team=t then x.Price else 0):=by
 induction l with
 |nil=>simp [zkq]
 |cons y r ih=>simp only [AY,zkq,ih];omega
theorem ztv (l:List Sale) (x:Sale) (t:Str):zfV (l++[x]) t=zfV l t+(if x.Team=t then 1 else 0):=by
 induction l with
 |nil=>simp [zfV]
 |cons y r ih=>simp only [AY,zfV,ih];omega
abbrev zfG:=List (Str×HVal)
def lkI (L:zfG) (t:Str):HVal:=match zQ t L with|some p=>p.2|none=> .int .i64 0
theorem zhe {s t:Str} {v:HVal}: ∀{L:zfG},zQ s L=none->zQ t (L++[(s,v)])=if t=s then some (L.length,v) else zQ t L
 |[],_=>by by_cases h:t=s<;>simp [zQ,h]
 |(k,h)::r,hn=>by
   simp only [zQ] at hn
   by_cases hk:s=k
   rw [if_pos hk] at hn;cases hn;rw [if_neg hk] at hn;have hr:zQ s r=none:=by cases hq:zQ s r with
    |none=>rfl
    |some p=>rw [hq] at hn;cases hn
   have ih:=zhe (t:=t) (v:=v) hr;simp only [AY,zQ]
   by_cases ht:t=k
   have: ¬t=s:=fun e=>hk (e▸ht)
   rw [if_pos ht,if_neg this,if_pos ht];rw [if_neg ht,ih]
   by_cases hs:t=s
   rw [if_pos hs,if_pos hs];simp;rw [if_neg hs,if_neg hs,if_neg ht]
theorem zo7 {s t:Str} {v:HVal}: ∀{L:zfG} {j:Nat} {h:HVal},zQ s L=some (j,h)->(zQ t (L.set j (s,v)))=if t=s then some (j,v) else zQ t L
 |[],j,h,hh=>by simp [zQ] at hh
 |(k,x)::r,j,h,hh=>by
   simp only [zQ] at hh
   by_cases hk:s=k
   rw [if_pos hk] at hh;simp only [As,Prod.mk.injEq] at hh;obtain ⟨rfl,rfl⟩:=hh;subst hk;simp only [List.set_cons_zero,zQ]
   by_cases ht:t=s
   rw [if_pos ht,if_pos ht];rw [if_neg ht,if_neg ht,if_neg ht];rw [if_neg hk] at hh
   cases hq:zQ s r with
   |none=>rw [hq] at hh;cases hh
   |some p=>
     rw [hq] at hh;simp only [AG,As,Prod.mk.injEq] at hh;obtain ⟨rfl,rfl⟩:=hh;have ih:=zo7 (t:=t) (v:=v) (L:=r) (j:=p.1) (h:=p.2) (by rw [hq]);simp only [BV,zQ]
     by_cases ht:t=k
     have: ¬t=s:=fun e=>hk (e▸ht)
     rw [if_pos ht,if_neg this,if_pos ht];rw [if_neg ht,ih,if_neg ht]
     by_cases hs:t=s
     rw [if_pos hs,if_pos hs];rfl;rw [if_neg hs,if_neg hs]
theorem zo6 (s t:Str) (v:HVal) (L:zfG):(zQ t (sput s v L)).map (·.2)=if t=s then some v else (zQ t L).map (·.2):=by
 unfold sput
 cases hq:zQ s L with
 |none=>simp only [];rw [zhe hq];split<;>rfl
 |some p=>obtain ⟨j,h⟩:=p;simp only [];rw [zo7 hq];split<;>rfl
theorem ztu (L:zfG) (t:Str):lkI L t=((zQ t L).map (·.2)).getD (.int .i64 0):=by
 unfold lkI;cases zQ t L<;>rfl
theorem zrE (s t:Str) (v:HVal) (L:zfG):lkI (sput s v L) t=if t=s then v else lkI L t:=by
 rw [ztu,zo6,ztu];split<;>rfl
structure AucOk (h:Hall) (l:List Sale) (S:List Str) (L H:zfG):Prop where
 sold: ∀s,S.contains s=l.any (fun y=>y.Player==s)
 left: ∀t,h.Teams.contains t=true->lkI L t= .int .i64 (h.Budget-zkq l t)
 got: ∀t,lkI H t= .int .i64 (zfV l t)
theorem zkG (s t:Str) (l:List Str):(zcf s l).contains t=(l.contains t||s==t):=by
 unfold zcf
 by_cases hc:l.contains s=true
 rw [if_pos hc]
 by_cases h:s=t
 subst h;rw [hc];simp;have:(s==t)=false:=by simpa using h
 simp [this]
 rw [if_neg hc,List.contains_eq_any_beq,List.any_append,<-List.contains_eq_any_beq]
 congr 1
 simp only [Bp,List.any_nil,Ba];rw [AK,beq_iff_eq,beq_iff_eq];exact eq_comm
theorem AucOk.add {h:Hall} {l:List Sale} {S:List Str} {L H:zfG} (ok:AucOk h l S L H) (x:Sale) (hx:h.Teams.contains x.Team=true):
 AucOk h (l++[x]) (zcf x.Player S) (sput x.Team (.int .i64 (h.Budget-zkq l x.Team-x.Price)) L) (sput x.Team (.int .i64 (zfV l x.Team+1)) H) where
 sold s:=by rw [zkG,ok.sold,List.any_append];simp
 left t ht:=by
  rw [zrE,zsF]
  by_cases e:t=x.Team
  subst e;rw [if_pos rfl,if_pos rfl];congr 1;omega;rw [if_neg e,if_neg (fun q=>e q.symm),ok.left t ht];congr 1;omega
 got t:=by
  rw [zrE,ztv]
  by_cases e:t=x.Team
  subst e;rw [if_pos rfl,if_pos rfl];rw [if_neg e,if_neg (fun q=>e q.symm),ok.got t];congr 1;omega
end
section
/-! numbers in decimal-/
def dig (c:UInt8):Bool:=decide (48<=c.toNat)&&decide (c.toNat<=57)
def zgg (s:Str):Str:=match s with|45::r=>r|_=>s
def numC (s:Str) (n:Int):Bool:=decide ((zgg s=[]\/n<((zgg s).length:Int))\/((((zgg s).head?).getD 0).toNat:Int)=48/\((1:Int)<((zgg s).length:Int)\/(zgg s).length<s.length))
def numB (s:Str) (n:Int):Bool:= !(numC s n)&&(zgg s).all dig
def numV (s:Str):Int:=(Lib.atoi s).getD 0
def numR (s:Str) (n:Int):Int:=if numB s n then numV s else 0
def LimOk (l:List PairS) (L:zfG):Prop:= ∀t,(zQ t L).map (·.2)=(l.find? (fun p=>p.Name==t)).map (fun p=> .int .i64 (numR p.Val 9))
theorem LimOk.add {l:List PairS} {L:zfG} (ok:LimOk l L) (x:PairS) (hx:l.any (fun y=>y.Name==x.Name)=false):LimOk (l++[x]) (sput x.Name (.int .i64 (numR x.Val 9)) L):=fun t=>by
 rw [zo6,List.find?_append,ok t]
 by_cases e:t=x.Name
 subst e;rw [if_pos rfl];have:l.find? (fun p=>p.Name==x.Name)=none:=by
  rw [List.find?_eq_none];intro y hy;have:=List.any_eq_false.1 hx y hy
  simpa using this
 rw [this];simp;rw [if_neg e];have hn:(x.Name==t)=false:=by simpa using fun q=>e q.symm
 cases l.find? (fun p=>p.Name==t) with
 |none=>simp [List.find?,hn]
 |some p=>simp
structure Top where
 team:Str
 first:Int
 second:Int
def Top.step (q:Top) (t:Str) (n:Int):Top:=if q.first<n then ⟨t,n,q.first⟩ else ⟨q.team,q.first,max q.second n⟩
end
section
section
variable {h:Hall} {l:List Sale} {x:Sale} (h6:x.Player∈h.Players/\x.Team∈h.Teams) (h8: ∀y∈l,¬y.Player=x.Player)
include h6 h8
end
end
section

end
section
theorem Ghost.clear [Tracks] {e:Env}: ∀{M:List MObj},Ghost e M e []
 |[]=>Ghost.perm (Ac _)
 |_::_=>Ghost.trans Ghost.drop Ghost.clear
theorem zmQ [Tracks] {e:Env} {m:MObj}: ∀{R:List MObj},Ghost e (R++[m]) e [m]
 |[]=>Ghost.perm (Ac _)
 |x::R=>Ghost.trans (M':=R++[m]) Ghost.drop zmQ
theorem Ghost.only [Tracks] {e:Env} {M:List MObj} {i:Nat} {m:MObj} (h:M[i]? =some m):Ghost e M e [m]:=
 Ghost.trans (Ghost.perm ((zhp h).trans (List.perm_append_comm (l₁:=[m]) (l₂:=M.eraseIdx i)))) zmQ
end
section
theorem zkQ [Tracks] {e:Env} {M:List MObj}: ∀{R:List MObj},Ghost e (R++M) e M
 |[]=>Ghost.perm (Ac _)
 |x::R=>Ghost.trans (M':=R++M) Ghost.drop zkQ
section
variable {P:Program} {e:Env} {dst:Option Tmp} {ty:TypeId} {pos:String} {af:Array Edge} {g:Option (Nat×Bool)} {M:List MObj} {K:HVal->List MObj->Prop}
end
end
end Go.HL
