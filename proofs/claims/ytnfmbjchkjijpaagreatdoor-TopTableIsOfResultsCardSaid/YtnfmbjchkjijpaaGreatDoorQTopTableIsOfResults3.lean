/- Part 3 of the proof: a program logic, contracts of functions and plain facts; no conditions. -/
import Derived.Test.YtnfmbjchkjijpaaGreatDoorQTopTableIsOfResults2
import Derived.Ground.GgzProg
import Derived.Ground.Names2Prog
import Derived.Ground.SlgmProg
import Derived.Ground.SlmcProg
import Derived.Ground.SlsfProg
import Derived.Lib.AppendStr
import Derived.Lib.Join
import Derived.Lib.SplitLaws
import Derived.Lib.UnsafeStr
import Derived.Shelf.SlIter.Collect
import Derived.Shelf.SlIter.Keys
import Derived.Shelf.SlIter.Sorted
import Derived.Shelf.SlMaps.Clone
import Derived.Shelf.SlSortCmp.NoneTotal
import Derived.Shelf.Slices.CompactS
import Derived.Shelf.Slices.Delete
import Derived.Shelf.Small.Wraps
import Derived.Shelf.Sort.Plain
import Derived.Shelf.SortM.Plain
import Derived.Shelf.SortM.SortNone
import Derived.Shelf.Spec.SlicesInsert
import Derived.Shelf.Spec.SlicesInsertGrow
import Derived.Shelf.Strconv.Atoi
import Derived.Shelf.Strconv.Itoa3
import Derived.Shelf.Strings.Builder1
import Derived.Shelf.Strings.Cut
import Derived.Shelf.Strings.FieldsFuncAny
import Derived.Shelf.Strings.OnBuilder
import Derived.Shelf.Strings.Prefix
import Derived.Shelf.Strings.Search3
import Derived.Shelf.Strings.Split
import Derived.Shelf.Unicode.ValidAny
import Derived.Test.YtnfmbjchkjijpaaGreatDoorProg
set_option linter.unusedVariables false
set_option linter.unusedSimpArgs false
set_option maxHeartbeats 16000000
namespace Go.HL
section
open Op
structure BookS where
 League:LeagueS
 Moves:List MoveS
 Plays:List Play
 Mends:List MendS
 Health:List HealthS
 Choices:List ChoiceS
abbrev zxv (b:BookS):List HVal:=[zbm b.League.Players,zfP b.League.Stints,znb b.League.Fixtures,zgp b.League.Rules,ze8 b.League.Slots,.int .i64 b.League.Bounds.Most,.int .i64 b.League.Bounds.Hurt,.int .i64 b.League.Bounds.Adds,.int .i64 b.League.Bounds.Hold,
 eSs b.League.Teams,zb3 b.League.Games,eIs b.League.Breaks,eSs b.League.Trust,.int .i64 b.League.Start,zcJ b.Moves,zb4 b.Plays,zcy b.Mends,zcI b.Health,zkJ b.Choices]
abbrev zbp (b:BookS):HVal:= .agg (zxv b)
def zll (a b:ChoiceS):Int:=orI [zZ a.Team b.Team,zab a.Week b.Week,zab a.At b.At]
def zcg (s:Str):Bool:=s==[]||key s
def zcc (T:List Str) (n:Nat) (k:Nat) (x p:ChoiceS):Int:=
 if T.contains x.Team=false then 8 else if za4 x.Week=false\/zac x.At=false then 1 else if x.Players.length≠n then 3
 else if ((x.Players++[x.Captain]).all zcg)=false then 5 else if 0<k/\zll x p<=0 then 7 else 0
def zsr (T:List Str) (n:Nat) (l:List ChoiceS):Int:=zen 1000 (zcc T n) zfM l
def zic (g:LeagueS):Int:=orI [zkX g.Players g.Stints,zjs g.Fixtures,zg5 g.Rules,zdK g.Slots,zdZ g.Bounds,zc7 g.Teams g.Games]
def zl4 (g:LeagueS):Int:=orI [zd0 g.Breaks,zb5 g.Trust]
def zdc (l:List GameS):Bool:=l.any (·.Played)
def zcu (g:LeagueS):Int:=
 if zic g≠0 then zic g else if zdc g.Games=true then 11 else if zl4 g≠0 then zl4 g
 else if zac g.Start=false\/345686400000<g.Start+36288000000 then 1 else 0
def zdt (b:BookS):Int:=if zcu b.League≠0 then zcu b.League else orI [zgv b.Moves,zcj b.Plays,zbH b.Mends,zsy b.League.Players b.Health,zsr b.League.Teams b.League.Slots.length b.Choices]
theorem zcs: ∀{a b:List Int},orI (a++b)=if orI a≠0 then orI a else orI b
 |[],b=>by simp [orI]
 |x::a,b=>by
   rw [AX,orI,orI,zcs]
   by_cases h:x≠0
   rw [if_pos h,if_pos h,if_pos h];rw [if_neg h,if_neg h]
theorem zAX {a r:List Int}:orI (orI a::r)=orI (a++r):=by rw [zcs,orI]
theorem zsC (g:LeagueS):zic g=orI ([zcP g.Players]++([zjz g.Players g.Stints,zjs g.Fixtures,zg5 g.Rules,zdK g.Slots,zdZ g.Bounds,zdr g.Teams]++[zd7 g.Teams g.Games])):=by
 have e1:zkX g.Players g.Stints=orI [zcP g.Players,zjz g.Players g.Stints]:=by rw [zeo];rfl
 have e2:zc7 g.Teams g.Games=orI [zdr g.Teams,zd7 g.Teams g.Games]:=by rw [zeo];rfl
 unfold zic;rw [e1,zAX]
 show orI [zcP g.Players,zjz g.Players g.Stints,zjs g.Fixtures,zg5 g.Rules,zdK g.Slots,zdZ g.Bounds,zc7 g.Teams g.Games]=orI [zcP g.Players,zjz g.Players g.Stints,zjs g.Fixtures,zg5 g.Rules,zdK g.Slots,zdZ g.Bounds,zdr g.Teams,zd7 g.Teams g.Games]
 have e3: ∀l:List Int,orI (l++[zc7 g.Teams g.Games])=orI (l++[zdr g.Teams,zd7 g.Teams g.Games]):=fun l=>by
  rw [zcs,zcs,e2]
  congr 1
  rw [orI]
  split
  rfl
  rename_i h;have h0:orI [zdr g.Teams,zd7 g.Teams g.Games]=0:=by simpa using h
  rw [h0];rfl
 exact e3 [zcP g.Players,zjz g.Players g.Stints,zjs g.Fixtures,zg5 g.Rules,zdK g.Slots,zdZ g.Bounds]
theorem zzn {g:LeagueS} (h:zcP g.Players≠0):zcP g.Players=zcu g:=by
 have e:zic g=zcP g.Players:=by rw [zsC,zcs,zDk,if_pos h]
 rw [zcu,e,if_pos h]
def zjt (g:LeagueS):Int:=orI [zjz g.Players g.Stints,zjs g.Fixtures,zg5 g.Rules,zdK g.Slots,zdZ g.Bounds,zdr g.Teams]
theorem zEd {g:LeagueS} (h:zcP g.Players=0) (h2:zjt g≠0):zjt g=zcu g:=by
 have e:zic g=zjt g:=by
  rw [zsC,zcs,if_neg (by simp [orI,h]),zcs];exact if_pos h2
 rw [zcu,e,if_pos h2]
theorem zuo {g:LeagueS} (h:zcP g.Players=0) (h2:zjt g=0):zic g=zd7 g.Teams g.Games:=by
 rw [zsC,zcs,if_neg (by simp [orI,h]),zcs,if_neg (by rw [show orI [zjz g.Players g.Stints,zjs g.Fixtures,zg5 g.Rules,zdK g.Slots,zdZ g.Bounds,zdr g.Teams]=zjt g from rfl,h2];simp)];rw [orI]
 split
 rfl
 rename_i h;simp at h;rw [h];rfl
theorem zAL {g:LeagueS} (h2:zjt g=0):zdr g.Teams=0:=by
 unfold zjt at h2;have e:([zjz g.Players g.Stints,zjs g.Fixtures,zg5 g.Rules,zdK g.Slots,zdZ g.Bounds,zdr g.Teams]:List Int)=[zjz g.Players g.Stints,zjs g.Fixtures,zg5 g.Rules,zdK g.Slots,zdZ g.Bounds]++[zdr g.Teams]:=rfl;rw [e,zcs] at h2
 split at h2
 contradiction
 rw [orI] at h2
 split at h2
 contradiction
 rename_i h;simpa using h
theorem zCQ {T:List Str} {l:List GameS} (h:zdr T=0):zc7 T l=zd7 T l:=by rw [zc7,if_neg (by simp [h])]
theorem zEe {g:LeagueS} (h:zcP g.Players=0) (h2:zjt g=0) (h3:zd7 g.Teams g.Games≠0):zd7 g.Teams g.Games=zcu g:=by
 rw [zcu,zuo h h2,if_pos h3]
theorem zEf {g:LeagueS} (h:zcP g.Players=0) (h2:zjt g=0) (h3:zd7 g.Teams g.Games=0) (h4:zdc g.Games=true):11=zcu g:=by
 rw [zcu,zuo h h2,if_neg (by simp [h3]),if_pos h4]
def zvg (g:LeagueS):Int:=orI [zd0 g.Breaks,zb5 g.Trust,if zac g.Start then 0 else 1]
theorem zwT (g:LeagueS):zvg g=if zl4 g≠0 then zl4 g else if zac g.Start=false then 1 else 0:=by
 unfold zvg zl4;rw [show ([zd0 g.Breaks,zb5 g.Trust,if zac g.Start then 0 else 1]:List Int)=[zd0 g.Breaks,zb5 g.Trust]++[if zac g.Start then 0 else 1] from rfl,zcs]
 congr 1
 rw [orI]
 cases zac g.Start<;>rfl
theorem zEg {g:LeagueS} (h:zcP g.Players=0) (h2:zjt g=0) (h3:zd7 g.Teams g.Games=0) (h4:zdc g.Games=false) (h5:zvg g≠0):zvg g=zcu g:=by
 rw [zcu,zuo h h2,if_neg (by simp [h3]),if_neg (by rw [h4];simp)];rw [zwT] at h5⊢
 split
 rfl
 rename_i h6
 rw [if_neg h6] at h5
 cases h7:zac g.Start with
 |false=>simp
 |true=>rw [h7] at h5;simp at h5
theorem zzo {g:LeagueS} (h:zcP g.Players=0) (h2:zjt g=0) (h3:zd7 g.Teams g.Games=0) (h4:zdc g.Games=false) (h5:zvg g=0):zcu g=if 345686400000<g.Start+36288000000 then 1 else 0:=by
 rw [zcu,zuo h h2,if_neg (by simp [h3]),if_neg (by rw [h4];simp)];rw [zwT] at h5
 split at h5
 contradiction
 rename_i h6
 rw [if_neg h6]
 cases h7:zac g.Start with
 |false=>rw [h7] at h5;simp at h5
 |true=>simp
def zdk:List Str:=[[77,97,114,121,32,74,111,32,83,109,105,116,104],[77,97,120,32,77,97,114,116,105,110],[74,111],[65,110,97,32,77,97,114,105,97,32,77,97],[79,39,78,101,105,108,32,109],[90,111,195,171,32,77,97]]
/-! what generated leagues and books are-/
end
section
open Op
def zf5 (N:List Str) (s:Str):Int:=if N.contains s=true then ((zck N s:Nat):Int) else-1
theorem zs4 {N:List Str} {s:Str}:zf5 N s<0↔N.contains s=false:=by
 unfold zf5
 cases N.contains s with
 |true=>simp
 |false=>simp
theorem zyR {l:List PlayerS} {s:Str} {i:Nat}:(bif decide ((i:Int)<(l.length:Int)) then zZ (l.getD i zex).Key s==0 else false)=((l.map (·.Key))[i]? ==some s):=by
 by_cases h:i<l.length
 obtain ⟨x,hx⟩: ∃x,l[i]? =some x:=⟨_,Aa h⟩
 have e:l.getD i zex=x:=by rw [Ag,hx];rfl
 rw [Ah,hx,e];have h2:(i:Int)<(l.length:Int):=by omega
 simp only [h2,decide_true,cond_true,AK];rw [AF]
 simp [zbs]
 have h2: ¬(i:Int)<(l.length:Int):=by omega
 rw [AC (by simpa using Nat.le_of_not_lt h)]
 simp [h2]
theorem zrH {L:List PlayerS} {s:Str}:zW (fun x:PlayerS=>x.Key==s) L 0<0↔zgO L s=false:=by
 have h:=zcH (fun x:PlayerS=>x.Key==s) L 0 (by omega);have e:L.any (fun x:PlayerS=>x.Key==s)=zgO L s:=by
  unfold zgO;rw [AF,Cs,B4,List.mem_map]
  constructor
  rintro ⟨x,h1,h2⟩;exact ⟨x,h1,by simpa using h2⟩;rintro ⟨x,h1,h2⟩;exact ⟨x,h1,by simpa using h2⟩
 rw [e] at h
 constructor
 intro q;rw [<-h];simp;omega
 intro q;rw [q] at h;simp at h;omega
theorem znp {l:List PlayerS} (h:zcP l=0):SortedS (l.map (·.Key)):=by
 obtain ⟨_,h2⟩:=zfS h;have nx: ∀(j:Nat) (x y:Str),(l.map (·.Key))[j]? =some x->(l.map (·.Key))[j+1]? =some y->bytesLess x y=true:=by
  intro j x y hx hy
  rw [Ah] at hx hy;obtain ⟨a,ha,rfl⟩:=Option.map_eq_some_iff.1 hx;obtain ⟨b,hb,rfl⟩:=Option.map_eq_some_iff.1 hy;have:=h2 (j+1) b hb;have ed:l.getD (j+1-1) zex=a:=by rw [Nat.add_sub_cancel,Ag,ha];rfl
  rw [ed] at this;unfold zcS at this
  split at this
  omega
  split at this
  omega
  rename_i h3
  have h4:leB b.Key a.Key=false:=by
   cases e:leB b.Key a.Key with
   |false=>rfl
   |true=>exact absurd ⟨by omega,e⟩ h3
  unfold leB at h4;rw [Bc] at h4
  rcases zcf a.Key b.Key with q|q|q
  exact q;rw [q] at h4;simp at h4;rw [q] at h4;cases h4.1
 exact zmF nx
/-! games-/
def zj1 (l:List GameS):List ((Str×Int)×Bool):=l.foldl (fun L x=>zz (x.Away,x.Week) true (zz (x.Home,x.Week) true L)) []
def ofG (t:Str) (w:Int) (y:GameS):Bool:=y.Week==w&&(y.Home==t||y.Away==t)
theorem zzS {l:List GameS} {x:GameS}:zj1 (l++[x])=zz (x.Away,x.Week) true (zz (x.Home,x.Week) true (zj1 l)):=by unfold zj1;rw [A2];rfl
theorem ztz {t:Str} {w:Int}: ∀{l:List GameS} {L:List ((Str×Int)×Bool)},(alk (t,w) (l.foldl (fun L x=>zz (x.Away,x.Week) true (zz (x.Home,x.Week) true L)) L)).getD false=((alk (t,w) L).getD false||l.any (ofG t w))
 |[],L=>by simp
 |x::l,L=>by
   rw [Bt,ztz,BG,<-Cq]
   congr 1
   rw [zc1,zc1];unfold ofG
   by_cases h1:(t,w)=(x.Away,x.Week)
   rw [if_pos h1]
   cases h1
   simp
   rw [if_neg h1]
   by_cases h2:(t,w)=(x.Home,x.Week)
   rw [if_pos h2]
   cases h2
   simp
   rw [if_neg h2];have e:(x.Week==w&&(x.Home==t||x.Away==t))=false:=by
    rw [Cn]
    intro h
    simp at h
    rcases h.2 with q|q
    exact h2 (by rw [h.1,q]);exact h1 (by rw [h.1,q])
   rw [e,Bo]
theorem zxh {t:Str} {w:Int} {l:List GameS}:(alk (t,w) (zj1 l)).getD false=l.any (ofG t w):=by
 unfold zj1;rw [ztz];rfl
theorem zyU {l:List GameS} {x:GameS}:l.any (zjg x)=(l.any (ofG x.Home x.Week)||l.any (ofG x.Away x.Week)):=by
 induction l with
 |nil=>rfl
 |cons y l ih=>
   rw [BG,BG,BG,ih];unfold zjg ofG
   cases y.Week==x.Week<;>cases y.Home==x.Home<;>cases y.Home==x.Away<;>cases y.Away==x.Home<;>cases y.Away==x.Away<;>simp
def zkI (l:List GameS) (k:Nat):Bool:=(List.range k).any fun i=>(l.take i).any (zjg (l.getD i zeg))
theorem zu4 {l:List GameS} {k:Nat} {x:GameS} (h:l[k]? =some x):zkI l (k+1)=(zkI l k||(l.take k).any (zjg x)):=by
 unfold zkI;rw [List.range_succ,List.any_append,BG,List.any_nil,Bo,Ag,h];rfl
theorem zu3 {l:List GameS}: ∀{r:List GameS} {k:Nat},l.drop k=r->k<=l.length->(zkI l k||zd5 l k r)=zkI l l.length
 |[],k,hd,hk=>by
   have:l.length<=k:=by simpa using hd
   have e:k=l.length:=by omega
   subst e;rw [zd5,Bo]
 |x::r,k,hd,hk=>by
   have hx:l[k]? =some x:=by have:=congrArg (fun q:List GameS=>q[0]?) hd;simpa using this
   have hkl:=zm hx;rw [zd5,<-Cq,<-zu4 hx];exact zu3 (by rw [<-AZ (i:=1),hd];rfl) (by omega)
theorem zCH {l:List GameS}:zd5 l 0 l=zkI l l.length:=by
 have:=zu3 (l:=l) (r:=l) (k:=0) rfl (Ad _);rw [<-this];rfl
end
section
open Op
theorem zoS {a b:Nat}:Nat.gcd b (a%b)=Nat.gcd a b:=by rw [Nat.gcd_comm b,<-Nat.gcd_rec,Nat.gcd_comm]
theorem zo8 {s:Str} (h:s∈zdk):out (s.length:Int) 1 60=false:=by
 revert h;revert s;decide
structure LeaB (g:LeagueS):Prop where
 pl:g.Players.length<=1000000
 nm: ∀p∈g.Players,p.Name∈zdk
 po: ∀p∈g.Players,p.Positions.length<=1000000
 st:g.Stints.length<=1000000
 fx:g.Fixtures.length<=1000000
 ru:g.Rules.length<=1000000
 rw': ∀x∈g.Rules,(-1000000000<=x.Num/\x.Num<=1000000000)/\ -1000000000<=x.Den/\x.Den<=1000000000
 sl:g.Slots.length<=1000000
 sp: ∀x∈g.Slots,x.Positions.length<=1000000
 tm:g.Teams.length<=1000000
 ga:g.Games.length<=1000000
 gb: ∀x∈g.Games,((-1000000000<=x.FNum/\x.FNum<=1000000000)/\ -1000000000<=x.FDen/\x.FDen<=1000000000)/\(-1000000000<=x.ONum/\x.ONum<=1000000000)/\ -1000000000<=x.ODen/\x.ODen<=1000000000
 br:g.Breaks.length<=1000000
 tr:g.Trust.length<=1000000
 sta: -1000000000000000<=g.Start/\g.Start<=1000000000000000
structure BookB (b:BookS):Prop where
 lea:LeaB b.League
 mv:b.Moves.length<=1000000
 pl:b.Plays.length<=1000000
 me:b.Mends.length<=1000000
 he:b.Health.length<=1000000
 ch:b.Choices.length<=1000000
 cp: ∀x∈b.Choices,x.Players.length<=1000000
/-! slots,breaks-/
theorem zvT {l:List SlotS} (h0:l.length≠0) (h1: ¬12<l.length) (hg:zcQ l 0 l=zcQ l l.length []):0=zdK l:=by
 rw [zdK,if_neg h0,if_neg h1,hg];rfl
theorem ziO {l r:List SlotS} {k:Nat} {x:SlotS} {e:Int} (h0:l.length≠0) (h1: ¬12<l.length) (hg:zcQ l 0 l=zcQ l k (x::r)) (he:zcQ l k (x::r)=e):e=zdK l:=by
 rw [zdK,if_neg h0,if_neg h1,hg,he]
theorem zj6 {l:List Int} (h1: ¬5<l.length) (hg:zbW l 0 l=zbW l l.length []):0=zd0 l:=by rw [zd0,if_neg h1,hg];rfl
theorem zeu {l r:List Int} {k:Nat} {x:Int} {e:Int} (h1: ¬5<l.length) (hg:zbW l 0 l=zbW l k (x::r)) (he:zbW l k (x::r)=e):e=zd0 l:=by rw [zd0,if_neg h1,hg,he]
/-! names of a choice-/
theorem zDe {s:Str} (h1:s≠[]) (h2:key s=false):zcg s=false:=by
 unfold zcg;rw [h2,Bo,beq_eq_false_iff_ne];exact h1
theorem zDf {s:Str} (h:s≠[]->key s=true):zcg s=true:=by
 unfold zcg
 by_cases e:s=[]
 rw [e];rfl;rw [h e,Bool.or_true]
theorem zzA {l:List Str} {s:Str} (hs:s∈l) (h:zcg s=false):l.all zcg=false:=by
 rw [List.all_eq_false];exact ⟨s,hs,by rw [h];simp⟩
/-! games-/
def inC (l:List GameS) (x:GameS) (k j:Nat):Bool:=zkI l k||([x.Home,x.Away].take j).any fun t=>(l.take k).any (ofG t x.Week)
def inM (l:List GameS) (x:GameS) (k j:Nat):List ((Str×Int)×Bool):=([x.Home,x.Away].take j).foldl (fun L t=>zz (t,x.Week) true L) (zj1 (l.take k))
theorem zC0 {l:List GameS} {x:GameS} {k j:Nat} {s:Str} (hne:x.Home≠x.Away) (hs:[x.Home,x.Away][j]? =some s):
 (inC l x k j||(alk (s,x.Week) (inM l x k j)).getD false)=inC l x k (j+1)/\zz (s,x.Week) true (inM l x k j)=inM l x k (j+1):=by
 match j,hs with
 |0,hs=>
   simp at hs;subst hs
   refine ⟨?_,rfl⟩
   unfold inC inM;simp only [B6,List.any_nil,Bo,List.foldl_nil,Cd,BG];rw [zxh]
 |1,hs=>
   simp at hs;subst hs
   refine ⟨?_,rfl⟩
   unfold inC inM;simp only [B6,List.any_nil,Bo,List.foldl_nil,Cd,BG,Bt];rw [zc1,if_neg (fun e=>by have e9:=congrArg Prod.fst e;first|exact hne e9|exact hne e9.symm),zxh,Cq]
theorem zwP {l:List GameS} {x:GameS} {k:Nat}:inC l x k 0=zkI l k/\inM l x k 0=zj1 (l.take k):=by
 unfold inC inM;simp
theorem zD7 {l:List GameS} {x:GameS} {k:Nat} (hx:l[k]? =some x):inC l x k 2=zkI l (k+1)/\inM l x k 2=zj1 (l.take (k+1)):=by
 refine ⟨?_,?_⟩
 rw [zu4 hx,zyU];unfold inC
 simp
 rw [zR hx,zzS];unfold inM
 simp
theorem zwJ {T:List Str} {l:List GameS} (hn: ¬1000<l.length) (hg:za1 (zcd T) zeg l 0 l=za1 (zcd T) zeg l l.length []):zd7 T l=if zkI l l.length=true then 13 else 0:=by
 have h0:zen 1000 (zcd T) zeg l=0:=(zbB hn hg).symm;rw [zd7,h0,if_neg (by simp),zCH]
theorem zev {T:List Str} {l:List GameS} {e:Int} (h:e=zen 1000 (zcd T) zeg l) (h0:e≠0):e=zd7 T l:=by
 rw [zd7,<-h,if_pos h0]
theorem zz1 {m:Int} (h1: -18446744073709551616<=m) (h2:m<0):IntKind.wrap .u64 m=m+18446744073709551616:=by
 unfold IntKind.wrap
 simp [IntKind.bits,IntKind.signed]
 omega
theorem zD4 {b:BookS} (h: ¬zcu b.League≠0):zoX b.League.Players b.Health=zsy b.League.Players b.Health:=by
 have h0:zcu b.League=0:=by simpa using h
 have h1:zcP b.League.Players=0:=by
  refine Classical.byContradiction fun hq=> ?_
  have:=zzn hq;rw [h0] at this;exact hq this
 rw [zoX,if_neg (by simp [h1])]
end
section
open Go
def spl (c:UInt8):Str->List Str
 |[]=>[[]]
 |b::l=>if b=c then []::spl c l else match spl c l with
   |[]=>[[b]]
   |x::r=>(b::x)::r
def jn (c:UInt8):List Str->Str
 |[]=>[]
 |[x]=>x
 |x::r=>x++c::jn c r
theorem zC2 {c:UInt8} {x:Str} {r:List Str} (h:r≠[]):jn c (x::r)=x++c::jn c r:=by
 cases r with
 |nil=>exact absurd rfl h
 |cons y r=>rfl
theorem zsz (c:UInt8): ∀l:List Str,Lib.join l [c]=jn c l
 |[]=>rfl
 |[x]=>Lib.join_one x [c]
 |x::y::r=>by
   rw [zC2 (by simp),<-zsz c (y::r),Lib.join_cons,Lib.join_cons]
   simp [Lib.joinTail]
end
section
open Go.Proofs Go.RowKit Go.Maps Go.Sort Go.Shelf
section
variable {P:Program}
def zr7 (H:Type):Value->Option (DataW H×List MemPlace):=fun _=>some (.nil,[])
theorem zAR {I:Imm} {w:World} {b:Nat} {α:Type} {f:α->HVal} {L:List (Str×α)} (hm:MSat I w (.map b (sk (em f L)))):
 ∃es clk,w.heap[b]? =some (.map es clk)/\BornOk es clk/\es.size=L.length/\es.toList.map (·.key)=L.map fun p=>encStr p.1:=by
 obtain ⟨es,clk,h1,⟨h2,h4⟩,h3⟩:=hm;have hl:es.size=L.length:=by rw [h2];simp [sk]
 refine ⟨es,clk,h1,h4,hl,B0 fun i=> ?_⟩
 rw [Ah,Ah]
 rcases AE i L.length with h|h
 have a1:L[i]? =some L[i]:=Aa h;have a2:es[i]? =some es[i]:=As (by omega);have a3:(sk (em f L))[i]? =some (.str L[i].1,f L[i].2):=by simp [sk,a1]
 have a4:=(h3 i _ _ a3 a2).1.str_inv;rw [a1,AU,a2];simp only [AK,Az];rw [a4]
 try rfl
 rw [AC h,AC (by rw [AP];omega)];rfl
theorem zyg {es:Array MapEntry} {clk:Nat} (h:BornOk es clk):(es.toList.map (·.born)).Nodup:=by
 refine List.pairwise_iff_getElem.2 fun i j hi hj hij e=> ?_
 rw [List.getElem_map,List.getElem_map] at e;rw [Af,AP] at hi hj;have:=h.2 i j es[i] es[j] (As hi) (As hj) (by simpa using e)
 omega
theorem zwr {I:Imm} {w:World} {b:Nat} {α:Type} {f:α->HVal} {L:List (Str×α)} {k:TypeId} (hk:P.underlying k=some .string) (hm:MSat I w (.map b (sk (em f L)))) (hn:ANodup L)
 (hl: ∀p∈L,p.1.length<=1000000) (hs:L.length<=1000000): ∃D:DataW Unit,w.ownsMap P k (zr7 Unit) b L.length D/\(strKeys D).Perm (L.map (·.1))/\Maps.size D=L.length:=by
 obtain ⟨es,clk,h1,h2,h3,h4⟩:=zAR hm;have hx: ∀x∈es.toList,∃p∈L,x.key=encStr p.1:=fun x hx=>by
  have:=Bl (f:=(·.key)) hx;rw [h4] at this;obtain ⟨p,hp,e⟩:=List.mem_map.1 this;exact ⟨p,hp,e.symm⟩
 have hrd: ∀x∈es.toList,∀p∈L,x.key=encStr p.1->WideElems.rd P k (zr7 Unit) x=some (.string p.1,.nil):=fun x _ p hp e=>by
  have:=hl p hp;have hm:maxLen=9223372036854775807:=by rfl
  simp [WideElems.rd,keyOf,hk,e,mapKey,encStr,zr7,hm]
  rw [if_pos (by show p.1.toArray.size<=_;simp;omega)]
  rfl
 have hkeys:es.toList.map (fun x=>strOf (WideElems.rg P k (zr7 Unit) x).1)=L.map (·.1):=by
  have e2:es.toList.map (fun x=>strOf (WideElems.rg P k (zr7 Unit) x).1)=(es.toList.map (·.key)).map fun v=>match v with| .string s=>s.data.toList|_=>[]:=by
   rw [A6];refine List.map_congr_left fun x hx'=> ?_
   obtain ⟨p,hp,e⟩:=hx x hx';rw [WideElems.rg_of (hrd x hx' p hp e)]
   simp [e,encStr,strOf]
  rw [e2,h4,A6];refine List.map_congr_left fun p _=> ?_
  simp [encStr]
 have hml:maxLen=9223372036854775807:=by rfl
 refine ⟨_,⟨es,clk,h1,⟨by omega,⟨fun x hx'=> ?_,zyg h2,?_⟩,fun x hx'=> ?_⟩,by omega,rfl⟩,?_,?_⟩
 obtain ⟨i,hi⟩:=Bd hx';exact h2.1 i x (by simpa using hi);rw [h4];have:(L.map fun p=>encStr p.1)=(L.map (·.1)).map encStr:=by rw [A6];rfl
 rw [this];exact List.Pairwise.map encStr (fun a b hab e=>hab (encStr_inj e)) hn;obtain ⟨p,hp,e⟩:=hx x hx';exact ⟨_,hrd x hx' p hp e⟩
 show ((List.foldr DataW.insert [] _).map fun p=>strOf p.1).Perm _
 rw [<-hkeys];have:=(WideShapes.sorted_perm (es.toList.map (WideElems.rg P k (zr7 Unit)))).map fun p=>strOf p.1
 rw [A6] at this;exact this
 show (List.foldr DataW.insert [] _).length=_
 rw [(WideShapes.sorted_perm _).length_eq,Af,AP,h3]
theorem zAl [Tracks] {ρ:Ren} (L:SlLaysZ.n7 P ρ) {b:Nat}:Con P (ρ.f 7) [.raw (.map (some b))] [] fun x M'=> ∃bx,x= .fn (.func (ρ.f 10)) [] [.raw (.pointer (some ⟨bx,0,none⟩))]/\M'=[.cells bx [.raw (.map (some b))]]:=by
 intro I F w args ha hs
 obtain ⟨u,rfl,hu⟩:=ha.one;obtain rfl:=hu.raw_inv;refine ((callsIn_wide (n:=1)).1 (AnyZ.keys_in L Fence.wide 1 trivial rfl (some b) w)).mono ?_;rintro _ w' ⟨rfl,rfl⟩;refine ⟨_,_,_,I,rfl,.refl I,⟨w.heap.size,rfl,rfl⟩,.fn rfl rfl (fun j c v h _=>by simp at h) (fun j c v h1 h2=> ?_),?_⟩
 exact (VL.cons (.raw _ rfl) VL.nil:VL I [.raw (.pointer (some ⟨w.heap.size,0,none⟩))] [.pointer (some ⟨w.heap.size,0,none⟩)]).2 j c v h1 (by simpa using h2);exact hs.new_own _ _ rfl ⟨#[.map (some b)],ρ.t 23,(0,0),by simp,Free.zero _,VL.cons (.raw _ rfl) VL.nil⟩
theorem zxS [Tracks] (hT:Tracks.on=false) {ρ ρk:Ren} (L:SlLaysZ.n6 P ρ) (Lk:SlLaysZ.n7 P ρk) (hsort: ∀m,AnyZ.SortsIn P ρ Fence.wide m)
 (e9: ∀args w,(callFunc (ρ.f 9) args).run P w= .ok (.enter (ρ.f 9) args) w) (eg: ∀args w,(callFunc (ρk.f 10) args).run P w= .ok (.enter (ρk.f 10) args) w)
 {α:Type} {f:α->HVal} {l:List (Str×α)} (hn:ANodup l) (hl: ∀p∈l,p.1.length<=1000000) (hs:l.length<=1000000) {b bx:Nat}:
 Con P (ρ.f 6) [.fn (.func (ρk.f 10)) [] [.raw (.pointer (some ⟨bx,0,none⟩))]] [.cells bx [.raw (.map (some b))],.map b (sk (em f l))] fun x M'=> ∃v,x= .raw v/\M'=[.arr v 1 ((zbk (l.map (·.1))).map .str),.map b (sk (em f l))]:=by
 intro I F w args ha hsat
 obtain ⟨u,rfl,hu⟩:=ha.one;obtain ⟨v1,v2,rfl,hv1,hv2,hc⟩: ∃v1 v2,u= .func (.func (ρk.f 10)) v1 v2/\v1= #[]/\v2.size=1/\∀(j:Nat) (c:HVal) (v:Value),[HVal.raw (.pointer (some ⟨bx,0,none⟩))][j]? =some c->v2[j]? =some v->V I c v:=by
  cases hu with
  |fn h1 h2 h3 h4=>exact ⟨_,_,rfl,BT (by simpa using h1),by simpa using h2,h4⟩
 subst hv1;obtain rfl:v2= #[.pointer (some ⟨bx,0,none⟩)]:=by
  match v2,hv2 with
  |⟨[y]⟩,_=>have:=(hc 0 _ y rfl rfl).raw_inv;rw [this]
 obtain ⟨rc,el,fr,c1,c2,c3⟩:=hsat.obj (.cells bx [.raw (.map (some b))]) (by simp);have hmap:=hsat.obj (.map b (sk (em f l))) (by simp);obtain ⟨D,d1,d2,d3⟩:=zwr (k:=ρk.t 26) (by exact Lk.t26) hmap hn hl hs;have hbx:bx<w.heap.size:=(Array.getElem?_eq_some_iff.1 c1).1;have hcell:w.cell? ⟨bx,0,none⟩=some (.map (some b)):=by
  have:=c3.1
  match rc,this,c1,c3 with
  |⟨[y]⟩,_,c1,c3=>
    have hy:=c3.head.raw_inv;subst hy
    simp [World.cell?,c1]
 have hseq:=AnyZ.keys_gives (ρ:=ρk) {Lk with} Fence.wide 2 trivial rfl (by omega) bx b l.length D w hbx hcell d1;have cS:=AnyZ.sorted_in L Fence.wide 5 trivial trivial trivial trivial rfl (by omega) (hsort _) e9 (ρk.f 10) #[.pointer (some ⟨bx,0,none⟩)] trivial eg _ _ (by rw [d3];exact Ar hs (by decide)) (by rw [d3];omega) w hseq;refine ((callsIn_wide (n:=5)).1 cS).mono ?_;rintro e w' ⟨v,ss,rfl,hS,hrow,hnil,hb⟩;have hss:(ss.mergeSort fun x y=>decide (x<=y))=zbk (l.map (·.1)):=mergeSort_of_perm (hS.trans d2);rw [hss] at hrow;have hlen:ss.length=(zbk (l.map (·.1))).length:=by rw [zlD,(hS.trans d2).length_eq]
 have hmem:MSat I w' (.arr v 1 ((zbk (l.map (·.1))).map .str)):=by
  rcases hrow.2 with ⟨rfl,hz⟩|⟨gb,cap,cur,rfl,hbase,hgb,r1,r2,r3,r4⟩
  refine .inl ⟨rfl,?_⟩
  have:zbk (l.map (·.1))=[]:=List.length_eq_zero_iff.1 (by omega);rw [this];rfl;refine .inr ⟨gb,0,cap,cur,_,_,by rw [Af,<-hlen],hgb,Free.zero _,fun e he=> ?_,⟨by rw [Af];omega,Ar r2 (by decide)⟩,by omega,fun i j e c y h1 h2 h3=> ?_⟩
  obtain ⟨s,_,rfl⟩:=List.mem_map.1 he;rfl;rw [Ah] at h1
  cases hq:(zbk (l.map (·.1)))[i]? with
  |none=>rw [hq] at h1;cases h1
  |some s=>
    rw [hq] at h1;simp only [AK,Az] at h1;subst h1;have hj:j=0:=by
     cases j with
     |zero=>rfl
     |succ j=>simp [zb] at h2
    subst hj;simp only [zb,AW,Az] at h2;subst h2;have hi:=zm hq;have h4:(cur.toList.take (ss.length*1))[i]? =some (encStr s):=by rw [r4,Ah,hq];rfl
    rw [AD (by omega),AU] at h4;have e0:0+i*1+0=i:=by omega
    rw [e0,h4] at h3
    cases h3
    exact .str s
 have hown: ∀k,v.ownBlock=some k->w.heap.size<=k/\k<w'.heap.size:=hrow.lt
 refine ⟨v,.raw v,_,I,rfl,.refl I,⟨v,rfl,rfl⟩,?_,?_⟩
 rcases hrow.2 with ⟨rfl,_⟩|⟨gb,cap,cur,rfl,_⟩
 exact .raw _ rfl;exact .raw _ rfl;refine hsat.change (m':= .arr v 1 _) (fun k hk _=>hb.block k hk) (fun k hk=> .inr ?_) ?_ hmem hb.os hb.output hb.tape (fun ht=>by rw [hT] at ht;cases ht)
 rcases hrow.2 with ⟨rfl,_⟩|⟨gb,cap,cur,rfl,hbase,_⟩
 simp [MObj.blocks] at hk
 simp [MObj.blocks] at hk;omega
 rcases hrow.2 with ⟨rfl,_⟩|⟨gb,cap,cur,rfl,hbase,_⟩<;>simp [MObj.blocks]
theorem zt3 [Tracks] (hT:Tracks.on=false) {ρ ρk:Ren} (L:SlLaysZ.n6 P ρ) (Lk:SlLaysZ.n7 P ρk) (hsort: ∀m,AnyZ.SortsIn P ρ Fence.wide m)
 (e9: ∀args w,(callFunc (ρ.f 9) args).run P w= .ok (.enter (ρ.f 9) args) w) (eg: ∀args w,(callFunc (ρk.f 10) args).run P w= .ok (.enter (ρk.f 10) args) w)
 {S:List Str} (hn:S.Nodup) (hl: ∀s∈S,s.length<=1000000) (hs:S.length<=1000000) {b bx:Nat}:
 Con P (ρ.f 6) [.fn (.func (ρk.f 10)) [] [.raw (.pointer (some ⟨bx,0,none⟩))]] [.cells bx [.raw (.map (some b))],.map b (sk (zaY S))] fun x M'=> ∃v,x= .raw v/\M'=[.arr v 1 ((zbk S).map .str),.map b (sk (zaY S))]:=by
 have e1:zaY S=em HVal.bool (S.map fun s=>(s,true)):=by simp [zaY]
 have e2:(S.map fun s=>(s,true)).map (·.1)=S:=by simp [Function.comp_def]
 have:=zxS hT L Lk hsort e9 eg (f:=HVal.bool) (l:=S.map fun s=>(s,true)) (by unfold ANodup;rw [e2];exact hn) (fun p hp=>by obtain ⟨s,hs,rfl⟩:=List.mem_map.1 hp;exact hl s hs) (by simpa using hs) (b:=b) (bx:=bx);rw [e2,<-e1] at this;exact this
end
end
section
open Go.Proofs Go.RowKit Go.Sort Go.Shelf
variable {P:Program}
theorem Sat.below [Tracks] (hT:Tracks.on=false) {I:Imm} {M:List MObj} {w w':World} (hs:Sat P I M w) (hb:Below w.heap.size w w'):Sat P I M w':=by
 obtain ⟨h1,h2⟩:=hs.lt;exact hs.of_same (fun b hb'=>hb.block b (h1 b hb')) (fun b hb'=>hb.block b (h2 b hb')) hb.os hb.output hb.tape (fun h=>by rw [hT] at h;cases h)
theorem zyY [Tracks] (hT:Tracks.on=false) {ρ:Ren} (L:Lays.n196 P ρ) (h3:P.globalNamed "unicode/utf8.first" =some (ρ.g 3)) (h4:P.globalNamed "unicode/utf8.acceptRanges" =some (ρ.g 4)) {s:Str} (hs:s.length<=1000000):
 ConP P (ρ.f 196) [.str s] (.bool (Lib.validD s)):=by
 intro I F w args ha hsat
 obtain ⟨u,rfl,hu⟩:=ha.one;obtain rfl:=hu.str_inv;refine (Any.utf8_ValidString L ⟨s.toArray⟩ w (by show s.toArray.size<=_;simp;omega) (hsat.utf8 h3 h4)).mono ?_;rintro e w' ⟨rfl,hb⟩;exact ⟨_,.bool _,[],I,rfl,.refl I,⟨by simp,rfl⟩,.bool _,hsat.below hT hb⟩
theorem zxp {I:Imm} {w':World} {B:Nat} {t:TypeId} {v:Value} {l:List Str} (hl:l.length<=1000000) (hrow:w'.ownsRow B t 1 v l.length (l.map encStr)):MSat I w' (.arr v 1 (l.map .str)):=by
 rcases hrow.2 with ⟨rfl,hz⟩|⟨gb,cap,cur,rfl,hbase,hgb,r1,r2,r3,r4⟩
 refine .inl ⟨rfl,?_⟩
 rw [List.length_eq_zero_iff.1 hz];rfl;refine .inr ⟨gb,0,cap,cur,_,_,by rw [Af],hgb,Free.zero _,fun e he=> ?_,⟨by rw [Af];omega,Ar r2 (by decide)⟩,by omega,fun i j e c y h1 h2 h3=> ?_⟩
 obtain ⟨s,_,rfl⟩:=List.mem_map.1 he;rfl;rw [Ah] at h1
 cases hq:l[i]? with
 |none=>rw [hq] at h1;cases h1
 |some s=>
   rw [hq] at h1;simp only [AK,Az] at h1;subst h1;have hj:j=0:=by
    cases j with
    |zero=>rfl
    |succ j=>simp [zb] at h2
   subst hj;simp only [zb,AW,Az] at h2;subst h2;have hi:=zm hq;have h4:(cur.toList.take (l.length*1))[i]? =some (encStr s):=by rw [r4,Ah,hq];rfl
   rw [AD (by omega),AU] at h4;have e0:0+i*1+0=i:=by omega
   rw [e0,h4] at h3
   cases h3
   exact .str s
theorem zxQ [Tracks] (hT:Tracks.on=false) {ρ:Ren} (L:Lays.n229 P ρ) (g:Nat) (eg: ∀args w,(callFunc g args).run P w= .ok (.enter g args) w) (p:Nat->Bool) {s:Str} (hs:s.length<=1000000) (hp: ∀w,PredAt P g #[] encR p w)
 (hi154:(P.info? (ρ.t 154)).map (fun i=>(i.zero,i.size,i.bytes))=some (some (.agg #[.int .i64 0,.int .i64 0]),2,16))
 (hi9:(P.info? (ρ.t 9)).map (fun i=>(i.zero,i.size,i.bytes))=some (some (.string ⟨#[]⟩),1,16))
 {l:List Str} (hl:l.length<=1000000) (hf:Lib.goFieldsP p ⟨s.toArray⟩=l.map fun x=>⟨x.toArray⟩):
 Con P (ρ.f 229) [.str s,.fn (.func g) [] []] [] fun x M'=> ∃v,x= .raw v/\M'=[.arr v 1 (l.map .str)]:=by
 intro I F w args ha hsat
 obtain ⟨u1,u2,rfl,hu1,hu2⟩: ∃u1 u2,args=[u1,u2]/\V I (.str s) u1/\V I (.fn (.func g) [] []) u2:=by
  match args,ha with
  |[u1,u2],h=>exact ⟨u1,u2,rfl,h.2 0 _ _ rfl rfl,h.2 1 _ _ rfl rfl⟩
  |[],h=>exact absurd h.1 (by simp)
  |[_],h=>exact absurd h.1 (by simp)
  |_::_::_::_,h=>exact absurd h.1 (by simp)
 obtain rfl:=hu1.str_inv;obtain ⟨v1,v2,rfl,hv1,hv2⟩: ∃v1 v2,u2= .func (.func g) v1 v2/\v1= #[]/\v2= #[]:=by
  cases hu2 with
  |fn h1 h2 h3 h4=>exact ⟨_,_,rfl,BT (by simpa using h1),BT (by simpa using h2)⟩
 subst hv1 hv2;refine (Any.strings_FieldsFunc L g #[] eg p ⟨s.toArray⟩ w (by show s.toArray.size<=_;simp;omega) (hp w) hi154 hi9).mono ?_;rintro e w' ⟨A,rfl,hA,hrow,hb⟩;have e1:(Lib.goFieldsP p ⟨s.toArray⟩).length=l.length:=by rw [hf,Af]
 have e2:(Lib.goFieldsP p ⟨s.toArray⟩).map Value.string=l.map encStr:=by rw [hf,A6];rfl
 rw [e1,e2] at hrow;rw [e1];have hmem:=zxp (I:=I) hl hrow;refine ⟨_,.raw _,_,I,rfl,.refl I,⟨_,rfl,rfl⟩,.raw _ rfl,?_⟩
 refine (zqa 1 hsat).change (m':= .arr _ 1 _) (fun k hk _=>hb.block k hk) (fun k hk=> .inr ?_) ?_ hmem hb.os hb.output hb.tape (fun ht=>by rw [hT] at ht;cases ht)
 simp [MObj.blocks] at hk;omega
 simp [MObj.blocks]
end
section
open Go.Proofs Go.RowKit Go.Sort Go.Shelf
variable {P:Program}
theorem zt4 [Tracks] {ρ:Ren} (L:Lays.n144 P ρ) (hg:P.globalNamed "internal/bytealg.MaxLen" =some (ρ.g 1)) {s t:Str} (hs:s.length<4294967281):
 ConP P (ρ.f 144) [.str s,.str t] (.bool (Lib.contains s t)):=by
 intro I F w args ha hs0
 obtain ⟨u,v,rfl,hu,hv⟩: ∃u v,args=[u,v]/\V I (.str s) u/\V I (.str t) v:=by
  match args,ha with
  |[u,v],h=>exact ⟨u,v,rfl,h.2 0 _ _ rfl rfl,h.2 1 _ _ rfl rfl⟩
  |[],h=>exact absurd h.1 (by simp)
  |[_],h=>exact absurd h.1 (by simp)
  |_::_::_::_,h=>exact absurd h.1 (by simp)
 obtain rfl:=hu.str_inv;obtain rfl:=hv.str_inv;obtain ⟨m,hm⟩:=hs0.maxLen hg;refine (Any.strings_Contains L ⟨s.toArray⟩ ⟨t.toArray⟩ m w (by show s.toArray.size<_;simpa using hs) hm).mono ?_;rintro _ w' ⟨rfl,rfl⟩;exact ⟨_,.bool _,[],I,rfl,.refl I,⟨rfl,rfl⟩,.bool _,hs0⟩
theorem zwg [Tracks] (hT:Tracks.on=false) {ρ:Ren} (L:Lays.n229 P ρ) (g:Nat) (eg: ∀args w,(callFunc g args).run P w= .ok (.enter g args) w) (p:Nat->Bool) {s:Str} (hs:s.length<=1000000) (hp: ∀w,PredAt P g #[] encR p w)
 (hi154:(P.info? (ρ.t 154)).map (fun i=>(i.zero,i.size,i.bytes))=some (some (.agg #[.int .i64 0,.int .i64 0]),2,16))
 (hi9:(P.info? (ρ.t 9)).map (fun i=>(i.zero,i.size,i.bytes))=some (some (.string ⟨#[]⟩),1,16))
 {l:List Str} (hl:l.length<=1000000) (hf:Lib.goFieldsP p ⟨s.toArray⟩=l.map fun x=>⟨x.toArray⟩):
 ConP P (ρ.f 229) [.str s,.fn (.func g) [] []] (.slice 1 (l.map .str)):=by
 intro I F w args ha hsat
 refine (zxQ hT L g eg p hs hp hi154 hi9 hl hf I F w args ha hsat).mono ?_;rintro e w' ⟨u,x,M',K,rfl,hk,⟨v,rfl,rfl⟩,h3,h4⟩;obtain ⟨J,hl',hs',hv⟩:=h4.freeze_arr;have:=h3.raw_inv;subst this;exact ⟨_,_,[],J,rfl,hk.trans hl',⟨rfl,rfl⟩,hv,hs'⟩
end
section
open Op
theorem zuz {x c:UInt8}:((x.toNat:Nat):Int)=((c.toNat:Nat):Int)↔x=c:=by
 constructor
 intro h;exact UInt8.toNat_inj.1 (by omega)
 intro h;rw [h]
theorem zrB {s:Str} (h:s∈zdk):s.length<=60:=by
 have:=zo8 h
 simp [out] at this
 omega
theorem zrA {s:Str} (h:s∈zdk) {c:UInt8} (hc:c∈s): ¬c.toNat<32/\c.toNat≠127:=by
 revert c;revert h;revert s;decide
theorem zp5 {s:Str} (h:s∈zdk):Lib.validD s=true:=by
 revert h;revert s
 have:(zdk.all fun s=>Lib.validD s)=true:=by kernel_rfl
 intro s h;exact List.all_eq_true.1 this s h
theorem zyf {s:Str} (h:s∈zdk):(zdI (· ==32) s).dropWhile (· ==32)=s:=by
 have:(zdk.all fun s=>(zdI (· ==32) s).dropWhile (· ==32)==s)=true:=by kernel_rfl
 simpa using List.all_eq_true.1 this s h
theorem zye {s:Str} (h:s∈zdk):Lib.contains s [32,32]=false:=by
 have:(zdk.all fun s=> !Lib.contains s [32,32])=true:=by kernel_rfl
 simpa using List.all_eq_true.1 this s h
theorem zvs {s:Str} (h:s∈zdk):(spl 32 s).length<=60/\Lib.goFieldsP (fun r=>decide ((r:Int)=32)) ⟨s.toArray⟩=(spl 32 s).map (fun x=>⟨x.toArray⟩)/\jn 32 (spl 32 s)=s:=by
 have h1:(zdk.all fun s=>decide ((spl 32 s).length<=60))=true:=by kernel_rfl
 have h2:(zdk.all fun s=>(Lib.goFieldsP (fun r=>decide ((r:Int)=32)) ⟨s.toArray⟩).map (fun x=>x.data.toList)==spl 32 s)=true:=by kernel_rfl
 have h3:(zdk.all fun s=>jn 32 (spl 32 s)==s)=true:=by kernel_rfl
 refine ⟨by simpa using List.all_eq_true.1 h1 s h,?_,by simpa using List.all_eq_true.1 h3 s h⟩
 have h4:(Lib.goFieldsP (fun r=>decide ((r:Int)=32)) ⟨s.toArray⟩).map (fun x=>x.data.toList)=spl 32 s:=by simpa using List.all_eq_true.1 h2 s h
 rw [<-h4,A6]
 conv=>lhs;rw [<-List.map_id (Lib.goFieldsP (fun r=>decide ((r:Int)=32)) ⟨s.toArray⟩)]
 exact List.map_congr_left fun x _=>by cases x;simp
end
end Go.HL
namespace Go.Proofs
section
open Go.Shelf
def Tryz.lays144_ren:Go.Shelf.Ren:=⟨fun|144=>311|143=>361|219=>386|217=>249|225=>385|224=>384|267=>397|266=>310|314=>403|n=>n,fun|9=>9|4=>4|3=>3|5=>5|46=>245|146=>459|51=>307|n=>n,fun|1=>0|n=>n⟩
theorem zuI:Go.Proofs.Lays.n144 Tryz.prog Tryz.lays144_ren:={
 mixed:=by kernel_rfl
 f143:=Tryz.func361.trans (congrArg some (by kernel_rfl))
 f144:=Tryz.func311.trans (congrArg some (by kernel_rfl))
 f217:=Tryz.func249.trans (congrArg some (by kernel_rfl))
 f219:=Tryz.func386.trans (congrArg some (by kernel_rfl))
 f224:=Tryz.func384.trans (congrArg some (by kernel_rfl))
 f225:=Tryz.func385.trans (congrArg some (by kernel_rfl))
 f266:=Tryz.func310.trans (congrArg some (by kernel_rfl))
 f267:=Tryz.func397.trans (congrArg some (by kernel_rfl))
 f314:=Tryz.func403.trans (congrArg some (by kernel_rfl))
 t3:=Tryz.underlying3
 a3:=Tryz.isAgg3
 z3:=Tryz.sizeOf3
 v3:=Tryz.zeroValue3
 t4:=Tryz.underlying4
 a4:=Tryz.isAgg4
 z4:=Tryz.sizeOf4
 v4:=Tryz.zeroValue4
 t5:=Tryz.underlying5
 a5:=Tryz.isAgg5
 z5:=Tryz.sizeOf5
 v5:=Tryz.zeroValue5
 t9:=Tryz.underlying9
 a9:=Tryz.isAgg9
 z9:=Tryz.sizeOf9
 v9:=Tryz.zeroValue9
 t46:=Tryz.underlying245
 a46:=Tryz.isAgg245
 z46:=Tryz.sizeOf245
 v46:=Tryz.zeroValue245
 t51:=Tryz.underlying307
 a51:=Tryz.isAgg307
 z51:=Tryz.sizeOf307
 v51:=Tryz.zeroValue307
 t146:=Tryz.underlying459
 a146:=Tryz.isAgg459
 z146:=Tryz.sizeOf459
 v146:=Tryz.zeroValue459
 g1:=by kernel_rfl}
def Tryz.lays196_ren:Go.Shelf.Ren:=⟨fun|196=>236|259=>302|n=>n,fun|9=>9|4=>4|3=>3|5=>5|12=>12|119=>364|0=>0|46=>245|139=>367|138=>366|53=>288|n=>n,fun|3=>1|4=>2|n=>n⟩
theorem zuL:Go.Proofs.Lays.n196 Tryz.prog Tryz.lays196_ren:={
 mixed:=by kernel_rfl
 f196:=Tryz.func236.trans (congrArg some (by kernel_rfl))
 f259:=Tryz.func302.trans (congrArg some (by kernel_rfl))
 t0:=Tryz.underlying0
 a0:=Tryz.isAgg0
 z0:=Tryz.sizeOf0
 v0:=Tryz.zeroValue0
 t3:=Tryz.underlying3
 a3:=Tryz.isAgg3
 z3:=Tryz.sizeOf3
 v3:=Tryz.zeroValue3
 t4:=Tryz.underlying4
 a4:=Tryz.isAgg4
 z4:=Tryz.sizeOf4
 v4:=Tryz.zeroValue4
 t5:=Tryz.underlying5
 a5:=Tryz.isAgg5
 z5:=Tryz.sizeOf5
 v5:=Tryz.zeroValue5
 t9:=Tryz.underlying9
 a9:=Tryz.isAgg9
 z9:=Tryz.sizeOf9
 v9:=Tryz.zeroValue9
 t12:=Tryz.underlying12
 a12:=Tryz.isAgg12
 z12:=Tryz.sizeOf12
 v12:=Tryz.zeroValue12
 t46:=Tryz.underlying245
 a46:=Tryz.isAgg245
 z46:=Tryz.sizeOf245
 v46:=Tryz.zeroValue245
 t53:=Tryz.underlying288
 a53:=Tryz.isAgg288
 z53:=Tryz.sizeOf288
 v53:=Tryz.zeroValue288
 t119:=Tryz.underlying364
 a119:=Tryz.isAgg364
 z119:=Tryz.sizeOf364
 t138:=Tryz.underlying366
 a138:=Tryz.isAgg366
 z138:=Tryz.sizeOf366
 v138:=Tryz.zeroValue366
 t139:=Tryz.underlying367
 a139:=Tryz.isAgg367
 z139:=Tryz.sizeOf367
 v139:=Tryz.zeroValue367
 g3:=by kernel_rfl
 g4:=by kernel_rfl}
def Tryz.lays229_ren:Go.Shelf.Ren:=⟨fun|229=>238|n=>n,fun|9=>9|40=>312|31=>33|152=>378|3=>3|0=>0|4=>4|21=>21|154=>380|n=>n,fun|n=>n⟩
theorem zuN:Go.Proofs.Lays.n229 Tryz.prog Tryz.lays229_ren:={
 mixed:=by kernel_rfl
 f229:=Tryz.func238.trans (congrArg some (by kernel_rfl))
 t0:=Tryz.underlying0
 a0:=Tryz.isAgg0
 z0:=Tryz.sizeOf0
 v0:=Tryz.zeroValue0
 t3:=Tryz.underlying3
 a3:=Tryz.isAgg3
 z3:=Tryz.sizeOf3
 v3:=Tryz.zeroValue3
 t4:=Tryz.underlying4
 a4:=Tryz.isAgg4
 z4:=Tryz.sizeOf4
 v4:=Tryz.zeroValue4
 t9:=Tryz.underlying9
 a9:=Tryz.isAgg9
 z9:=Tryz.sizeOf9
 v9:=Tryz.zeroValue9
 t21:=Tryz.underlying21
 a21:=Tryz.isAgg21
 z21:=Tryz.sizeOf21
 v21:=Tryz.zeroValue21
 t31:=Tryz.underlying33
 a31:=Tryz.isAgg33
 z31:=Tryz.sizeOf33
 v31:=Tryz.zeroValue33
 t40:=Tryz.underlying312
 a40:=Tryz.isAgg312
 z40:=Tryz.sizeOf312
 v40:=Tryz.zeroValue312
 t152:=Tryz.underlying378
 a152:=Tryz.isAgg378
 z152:=Tryz.sizeOf378
 v152:=Tryz.zeroValue378
 t154:=Tryz.underlying380
 a154:=Tryz.isAgg380
 z154:=Tryz.sizeOf380
 v154:=Tryz.zeroValue380}
def Tryz.lays156_ren:Go.Shelf.Ren:=⟨fun|156=>237|165=>303|166=>304|169=>305|240=>356|241=>357|276=>381|277=>382|n=>n,fun|31=>33|9=>9|3=>3|4=>4|0=>0|20=>20|72=>371|76=>375|70=>368|37=>369|75=>374|127=>418|164=>438|5=>5|80=>377|n=>n,fun|n=>n⟩
theorem zuJ:Go.Proofs.Lays.n156 Tryz.prog Tryz.lays156_ren:={
 mixed:=by kernel_rfl
 f156:=Tryz.func237.trans (congrArg some (by kernel_rfl))
 f165:=Tryz.func303.trans (congrArg some (by kernel_rfl))
 f166:=Tryz.func304.trans (congrArg some (by kernel_rfl))
 f169:=Tryz.func305.trans (congrArg some (by kernel_rfl))
 f240:=Tryz.func356.trans (congrArg some (by kernel_rfl))
 f241:=Tryz.func357.trans (congrArg some (by kernel_rfl))
 f276:=Tryz.func381.trans (congrArg some (by kernel_rfl))
 f277:=Tryz.func382.trans (congrArg some (by kernel_rfl))
 t0:=Tryz.underlying0
 a0:=Tryz.isAgg0
 z0:=Tryz.sizeOf0
 v0:=Tryz.zeroValue0
 t3:=Tryz.underlying3
 a3:=Tryz.isAgg3
 z3:=Tryz.sizeOf3
 v3:=Tryz.zeroValue3
 t4:=Tryz.underlying4
 a4:=Tryz.isAgg4
 z4:=Tryz.sizeOf4
 v4:=Tryz.zeroValue4
 t9:=Tryz.underlying9
 a9:=Tryz.isAgg9
 z9:=Tryz.sizeOf9
 v9:=Tryz.zeroValue9
 t20:=Tryz.underlying20
 a20:=Tryz.isAgg20
 z20:=Tryz.sizeOf20
 v20:=Tryz.zeroValue20
 t31:=Tryz.underlying33
 a31:=Tryz.isAgg33
 z31:=Tryz.sizeOf33
 v31:=Tryz.zeroValue33
 t37:=Tryz.underlying369
 a37:=Tryz.isAgg369
 z37:=Tryz.sizeOf369
 v37:=Tryz.zeroValue369
 t70:=Tryz.underlying368
 a70:=Tryz.isAgg368
 z70:=Tryz.sizeOf368
 v70:=Tryz.zeroValue368
 t72:=Tryz.underlying371
 a72:=Tryz.isAgg371
 z72:=Tryz.sizeOf371
 v72:=Tryz.zeroValue371
 t75:=Tryz.underlying374
 a75:=Tryz.isAgg374
 z75:=Tryz.sizeOf374
 v75:=Tryz.zeroValue374
 t76:=Tryz.underlying375
 a76:=Tryz.isAgg375
 z76:=Tryz.sizeOf375
 v76:=Tryz.zeroValue375
 t127:=Tryz.underlying418
 a127:=Tryz.isAgg418
 z127:=Tryz.sizeOf418
 v127:=Tryz.zeroValue418
 t164:=Tryz.underlying438
 a164:=Tryz.isAgg438
 z164:=Tryz.sizeOf438
 v164:=Tryz.zeroValue438}
end
end Go.Proofs
namespace Go.HL
section

end
section
variable {P:Program}
section
variable {e:Env} {dst:Option Tmp} {ty:TypeId} {pos:String} {af:Array Edge} {g:Option (Nat×Bool)} {M:List MObj} {K:HVal->List MObj->Prop}
end
end
section
open Go.Proofs Go.Shelf
variable {P:Program}
section
variable {e:Env} {dst:Option Tmp} {ty:TypeId} {pos:String} {af:Array Edge} {g:Option (Nat×Bool)} {M:List MObj} {K:HVal->List MObj->Prop}
end
end
section
open Go.Proofs Go.Shelf Go.RowKit
variable {P:Program}
theorem VL.two {I:Imm} {c d:HVal} {vs:List Value} (h:VL I [c,d] vs): ∃u v,vs=[u,v]/\V I c u/\V I d v:=by
 match vs,h with
 |[u,v],h=>exact ⟨u,v,rfl,h.head,h.tail.head⟩
 |[],h=>have:=h.1;simp at this
 |[_],h=>have:=h.1;simp at this
 |_::_::_::_,h=>have:=h.1;simp at this
theorem zyZ [Tracks] {ρ:Ren} (hT:Tracks.on=false) (L:Lays.n156 P ρ) (X:Builder.Extra P ρ) {l:List Str} {c:UInt8} (hl:(jn c l).length<=1000000000) (hn:l.length<=1000000000):ConP P (ρ.f 156) [.slice 1 (l.map .str),.str [c]] (.str (jn c l)):=by
 intro I F w args ha hs0
 obtain ⟨u,v,rfl,hu,hv⟩:=ha.two;obtain rfl:=hv.str_inv
 rcases hu.slice_inv with ⟨h0,a,cap,rfl⟩|⟨b,off,cap,rc,el,fr,rfl,h3,h4,h5,h6,h7⟩
 have:l=[]:=by simpa using h0
 subst this;refine (Any.strings_Join_none L X a cap ⟨[c].toArray⟩ w).mono ?_;rintro _ w' ⟨rfl,rfl⟩;exact ⟨_,_,[],I,rfl,.refl I,⟨rfl,rfl⟩,.str [],hs0⟩;have hb:=hs0.imm _ _ h3
 let xs:List ByteArray:=l.map fun s=>⟨s.toArray⟩
 have hx:xs.map (·.data.toList)=l:=by simp [xs,A6,Function.comp_def]
 have hxl:xs.length=l.length:=by simp [xs]
 have hlt:b<w.heap.size:=by
  rcases AE b w.heap.size with h'|h'
  exact h'
  simp [Av h'] at hb
 have hsz:(l.map HVal.str).length=xs.length:=by simp [xs]
 rw [hsz] at h5 h6⊢;refine (Any.strings_Join L X b off cap xs ⟨[c].toArray⟩ w (fun j x hj=> ?_) hlt (by omega) h5 (by rw [hx];show (Lib.join l [c]).length<=_;rw [zsz];omega)).mono ?_;have hq:l[j]? =some x.data.toList:=by rw [<-hx,Ah,hj];rfl
 have hj':=zm hj;have hr:off+j<rc.size:=by omega
 have h8:=h7 j 0 (.str x.data.toList) (.str x.data.toList) rc[off+j] (by rw [Ah,hq];rfl) rfl (by rw [Nat.mul_one,BO];exact As hr);rw [zcm hb,As hr,h8.str_inv];rintro _ w' ⟨rfl,hbw⟩;refine ⟨_,_,[],I,rfl,.refl I,⟨rfl,rfl⟩,?_,?_⟩
 rw [hx,show ((⟨[c].toArray⟩:ByteArray).data.toList:Str)=[c] from rfl,zsz];exact .str _;obtain ⟨h1,h2⟩:=hs0.lt;exact hs0.of_same (fun k hk=>hbw.block k (h1 k hk)) (fun k hk=>hbw.block k (h2 k hk)) hbw.os hbw.output hbw.tape (fun h=>by rw [hT] at h;cases h)
end
end Go.HL
namespace Go.Proofs.YtnfmbjchkjijpaaGreatDoor
set_option maxRecDepth 100000
set_option linter.unusedVariables false
set_option linter.unusedSimpArgs false
section
open Go.Proofs.Tryz
open Go.HL
theorem zjf [Tracks] (hT:Tracks.on=false) {s:Str} (hs:s.length<=1000000):ConP prog 236 [.str s] (.bool (Lib.validD s)):=
 zyY hT zuL (by kernel_rfl) (by kernel_rfl) hs
theorem zn4 [Tracks] {s t:Str} (hs:s.length<4294967281):ConP prog 311 [.str s,.str t] (.bool (Lib.contains s t)):=
 zt4 zuI (by kernel_rfl) hs
theorem zC1 [Tracks] (w:World):PredAt prog 239 #[] encR (fun r=>decide ((r:Int)=32)) w:=fun W r _=>by
 unfold FnGives
 go_enter func239,ntmps239
 go_wp2
 go_ret
 exact ⟨rfl,0,rfl⟩
theorem zmr [Tracks] (hT:Tracks.on=false) {s:Str} (hs:s.length<=1000000) {l:List Str} (hl:l.length<=1000000) (hf:Lib.goFieldsP (fun r=>decide ((r:Int)=32)) ⟨s.toArray⟩=l.map fun x=>⟨x.toArray⟩):ConP prog 238 [.str s,.fn (.func 239) [] []] (.slice 1 (l.map .str)):=
 zwg hT zuN _ (enters_of func239 (by kernel_rfl) rfl) _ hs zC1 (by kernel_rfl) (by kernel_rfl) hl hf
theorem zsl [Tracks] (hT:Tracks.on=false) {l:List Str} {c:UInt8} (hl:(jn c l).length<=1000000000) (hn:l.length<=1000000000):ConP prog 237 [.slice 1 (l.map .str),.str [c]] (.str (jn c l)):=
 zyZ hT zuJ {t5:=underlying5,a5:=fun w=>by kernel_rfl,z5:=fun w=>by kernel_rfl,v5:=fun w=>by kernel_rfl,infoByte:=by kernel_rfl,cellsByte:=by kernel_rfl,sizeByte:=by kernel_rfl,neB5:=by decide,sizeBuilder:=by kernel_rfl,liesBuilder:=by kernel_rfl} hl hn
theorem zlZ [Tracks] {s:Str} {c:UInt8} (hl:s.length<=1000000):ConP prog 242 [.str s,.int .u8 c.toNat] (.str (s.dropWhile (· ==c))):=by
 refine uOb func242 ntmps242 ?_;refine gz5 ?_;refine uU1 [0,1,5,11] (fun (t:Str)=>[(0,.str t)]) (fun (t:Str)=>[]) (fun (t:Str)=>t.length<=s.length/\s.dropWhile (· ==c)=t.dropWhile (· ==c)) (fun (t:Str)=>t.length) (s) ?_ ?_;exact ⟨Ae _,rfl⟩;rintro t ⟨ht,hg⟩;refine gz7 ?_;refine dg rfl rfl (fun hc=>by
  have hc0:t≠[]:=by (rintro rfl;simp at hc)
  exact ⟨_,OpenTo.upd (t:=9) rfl (hc) (OpenTo.refl _),zaU (j:=0) (b:=t.headD 0) ty9 rfl rfl rfl (hd0 hc0)⟩) ?_
 refine gz4 ?_;refine uCo (fun h1=> ?_) fun h2=> ?_
 obtain ⟨x,u,rfl⟩: ∃x u,t=x::u:=by cases t with|nil=>simp at h1|cons x u=>exact ⟨x,u,rfl⟩
 have hlen:(x::u).length=u.length+1:=rfl;refine gz5 ?_;refine dq (zik (l:=1) ty9 rfl ⟨_,_,rfl,rfl⟩ rfl uO uO) ?_;refine gz3 ?_;refine ⟨_,?_,?_,⟨rfl,trivial⟩,uK,Ac _⟩
 refine ⟨by simp at ht⊢;omega,?_⟩
 rw [hg];simp_all [Bf,zuz]
 dsimp only;simp
 refine gz2 ?_;refine zu ?_;refine gz7 ?_;refine zt rfl ?_
 show HVal.str _=_
 rw [hg]
 cases t with
 |nil=>rfl
 |cons x u=>simp_all [Bf,zuz]
theorem zk8 [Tracks] {s:Str} {c:UInt8} (hl:s.length<=1000000):ConP prog 243 [.str s,.int .u8 c.toNat] (.str (zdI (· ==c) s)):=by
 refine uOb func243 ntmps243 ?_;refine gz5 ?_;refine uU1 [0,1,5,17] (fun (t:Str)=>[(0,.str t)]) (fun (t:Str)=>[]) (fun (t:Str)=>t.length<=s.length/\zdI (· ==c) s=zdI (· ==c) t) (fun (t:Str)=>t.length) (s) ?_ ?_;exact ⟨Ae _,rfl⟩;rintro t ⟨ht,hg⟩;refine zay ?_;refine dg rfl rfl (fun hc=>by
  have hc0:0<t.length:=by (simp at hc;omega)
  exact ⟨_,OpenTo.upd (t:=12) rfl (hc) (OpenTo.upd (t:=9) rfl (hc) (OpenTo.refl _)),zaU (j:=t.length-1) (b:=t.getD (t.length-1) 0) ty9 rfl rfl uO (getD_some uO)⟩) ?_
 refine gz4 ?_;refine uCo (fun h1=> ?_) fun h2=> ?_
 obtain ⟨u,x,rfl⟩: ∃u x,t=u++[x]:=⟨_,_,(Bx (by intro h0;subst h0;simp at h1)).symm⟩
 have hlen:(u++[x]).length=u.length+1:=by simp
 refine gz8 ?_;refine dq (zik (l:=0) (h:=u.length) ty9 rfl rfl ⟨_,_,rfl,by omega⟩ uO uO) ?_;refine gz3 ?_;refine ⟨_,?_,?_,⟨rfl,trivial⟩,uK,Ac _⟩
 refine ⟨by simp at ht⊢;omega,?_⟩
 rw [hg,zgT,if_pos (by simp_all [zuz])];simp
 dsimp only;simp
 refine gz2 ?_;refine zu ?_;refine gz7 ?_;refine zt rfl ?_
 show HVal.str _=_
 rw [hg]
 rcases List.eq_nil_or_concat t with rfl|⟨u,x,rfl⟩
 rfl
 rw [List.concat_eq_append] at*;rw [zgT,if_neg (by simp_all [zuz])]
theorem zq8 [Tracks] {s:Str} {c:UInt8} (hs:s.length<=1000000) (hc7:c.toNat<128):ConP prog 175 [.str s,.str [c]] (.str ((zdI (· ==c) s).dropWhile (· ==c))):=by
 refine uOb func175 ntmps175 ?_;refine zc9 ?_;refine uCo (fun h1=> ?_) fun h2=> ?_
 refine gz5 ?_;refine zt rfl ?_
 show HVal.str _=_
 (simp_all [zdI])
 refine gz9 ?_;refine uGr rfl (fun hc=>zaU (j:=0) (b:=c) ty9 rfl rfl rfl rfl) ?_;refine gz3 ?_;refine z7 rfl (fun h3=> ?_) (fun h3=> ?_)
 try simp at h3
 refine uDr mixed ?_;refine gz2 ?_;refine uB 2 rfl (zaU (j:=0) (b:=c) ty9 rfl rfl rfl rfl) ?_;refine uB 3 rfl (uCl zFZ rfl (zk8 (c:=c) hs)) ?_;refine gz1 ?_;refine uB 5 rfl (zaU (j:=0) (b:=c) ty9 rfl rfl rfl rfl) ?_;refine uB 6 rfl (uCl zFY rfl (zlZ (c:=c) (Ar (zty _ _) hs))) ?_;refine gz3 ?_;refine zt rfl ?_
 show HVal.str _=_
 rfl
 exfalso
 try simp at h3
 omega
theorem zuW [Tracks] {s:Str} (hT:Tracks.on=false) (hs:s∈zdk):ConP prog 252 [.str s] (.bool true):=by
 have hsl:=zrB hs;have hv:=zp5 hs;have ht6:=zyf hs;have hc6:=zye hs;refine uOb func252 ntmps252 ?_;refine zay ?_;refine uT1 [2,2,6,14] (fun k=>[(6,.int .i64 (k:Int))]) (fun k=>[]) (fun k=>k<=s.length) (fun k=>s.length-k) (0) ?_ ?_;exact Ad _
 intro k hk
 refine gz4 ?_;refine uCo (fun h1=> ?_) fun h2=> ?_
 obtain ⟨x,hx⟩: ∃x,s[k]? =some x:=⟨_,Aa uO⟩
 obtain ⟨hx1,hx2⟩:=zrA hs (Ab hx);refine zco ?_;refine dq (zaU (j:=k) (b:=x) ty9 rfl rfl rfl hx) ?_;refine gz4 ?_;refine uGr rfl (fun hc=>zaU (j:=k) (b:=x) ty9 rfl rfl rfl hx) ?_;refine gz3 ?_;refine z7 rfl (fun h3=> ?_) (fun h3=> ?_)
 exfalso
 try simp at h3
 omega
 try simp at h3
 refine gz7 ?_;refine ⟨k+1,?_,?_,⟨rfl,trivial⟩,uK,Ac _⟩
 omega
 dsimp only;omega
 refine gz2 ?_;refine zu ?_;refine gz4 ?_;refine dq (uCl zB5 rfl (zjf hT uO)) ?_;refine gz2 ?_;refine uGr rfl (fun hc=>by have hq:=hc;(try simp at hq);exact uCl zBQ rfl (zq8 (s:=s) (c:=32) uO (by decide))) ?_;refine gz5 ?_;refine uGr rfl (fun hc=>by have hq:=hc;(try simp at hq);exact uCl zGp rfl (zn4 (s:=s) (t:=[32,32]) uO)) ?_;refine gz5 ?_;refine zt rfl ?_
 show HVal.bool _=_
 simp_all
theorem zpJ [Tracks] {s:Str} (hT:Tracks.on=false) (hs:s∈zdk):ConP prog 163 [.str s] (.bool true):=by
 have hsl:=zrB hs;have hv:=zp5 hs;obtain ⟨hf1,hf2,hf3⟩:=zvs hs;refine uOb func163 ntmps163 ?_;refine gz6 ?_;refine dq (uCl zB5 rfl (zjf hT uO)) ?_;refine gz4 ?_;refine uGr rfl (fun hc=>by have hq:=hc;(try simp at hq);exact uCl zFW rfl (zmr hT (s:=s) uO (l:=spl 32 s) uO hf2)) ?_;refine uGr rfl (fun hc=>by have hq:=hc;(try simp at hq);exact uCl zFV rfl (zsl hT (l:=spl 32 s) (c:=32) (by rw [hf3];omega) uO)) ?_;refine gz3 ?_;refine z7 rfl (fun h1=> ?_) (fun h1=> ?_)
 exfalso
 try simp at h1
 (clear hf1 hf2 hs;simp_all)
 try simp at h1
 refine gz3 ?_
 clear hf1 hf2 hf3
 try clear h1
 try clear h2
 refine gz6 ?_;refine uT1 [2,2,16,14] (fun k=>[(16,.int .i64 (k:Int))]) (fun k=>[]) (fun k=>k<=s.length) (fun k=>s.length-k) (0) ?_ ?_;exact Ad _
 intro k hk
 refine gz4 ?_;refine uCo (fun h2=> ?_) fun h3=> ?_
 obtain ⟨x,hx⟩: ∃x,s[k]? =some x:=⟨_,Aa uO⟩
 obtain ⟨hx1,hx2⟩:=zrA hs (Ab hx);refine zco ?_;refine dq (zaU (j:=k) (b:=x) ty9 rfl rfl rfl hx) ?_;refine gz4 ?_;refine uGr rfl (fun hc=>zaU (j:=k) (b:=x) ty9 rfl rfl rfl hx) ?_;refine gz3 ?_;refine z7 rfl (fun h4=> ?_) (fun h4=> ?_)
 exfalso
 try simp at h4
 omega
 try simp at h4
 refine gz7 ?_;refine ⟨k+1,?_,?_,⟨rfl,trivial⟩,uK,Ac _⟩
 omega
 dsimp only;omega
 refine gz2 ?_;refine zu ?_;refine gz6 ?_;refine zt rfl ?_
 show HVal.bool _=_
 rfl
end
end Go.Proofs.YtnfmbjchkjijpaaGreatDoor
namespace Go.HL
section

end
section
structure Hall where
 Teams:List Str
 Players:List Str
 Budget:Int
 Places:Int
structure Sale where
 Player:Str
 Team:Str
 Price:Int
def znz:List Sale->Str->Int
 |[],_=>0
 |x::r,t=>(if x.Team=t then x.Price else 0)+znz r t
def zig:List Sale->Str->Int
 |[],_=>0
 |x::r,t=>(if x.Team=t then 1 else 0)+zig r t
theorem zyt (l:List Sale) (x:Sale) (t:Str):znz (l++[x]) t=znz l t+(if x.Team=t then x.Price else 0):=by
 induction l with
 |nil=>simp [znz]
 |cons y r ih=>simp only [AX,znz,ih];omega
theorem zzr (l:List Sale) (x:Sale) (t:Str):zig (l++[x]) t=zig l t+(if x.Team=t then 1 else 0):=by
 induction l with
 |nil=>simp [zig]
 |cons y r ih=>simp only [AX,zig,ih];omega
abbrev zhZ:=List (Str×HVal)
def lkI (L:zhZ) (t:Str):HVal:=match z8 t L with|some p=>p.2|none=> .int .i64 0
theorem zjH {s t:Str} {v:HVal}: ∀{L:zhZ},z8 s L=none->z8 t (L++[(s,v)])=if t=s then some (L.length,v) else z8 t L
 |[],_=>by by_cases h:t=s<;>simp [z8,h]
 |(k,h)::r,hn=>by
   simp only [z8] at hn
   by_cases hk:s=k
   rw [if_pos hk] at hn;cases hn;rw [if_neg hk] at hn;have hr:z8 s r=none:=by cases hq:z8 s r with
    |none=>rfl
    |some p=>rw [hq] at hn;cases hn
   have ih:=zjH (t:=t) (v:=v) hr;simp only [AX,z8]
   by_cases ht:t=k
   have: ¬t=s:=fun e=>hk (e▸ht)
   rw [if_pos ht,if_neg this,if_pos ht];rw [if_neg ht,ih]
   by_cases hs:t=s
   rw [if_pos hs,if_pos hs];simp;rw [if_neg hs,if_neg hs,if_neg ht]
theorem ztD {s t:Str} {v:HVal}: ∀{L:zhZ} {j:Nat} {h:HVal},z8 s L=some (j,h)->(z8 t (L.set j (s,v)))=if t=s then some (j,v) else z8 t L
 |[],j,h,hh=>by simp [z8] at hh
 |(k,x)::r,j,h,hh=>by
   simp only [z8] at hh
   by_cases hk:s=k
   rw [if_pos hk] at hh;simp only [Az,Prod.mk.injEq] at hh;obtain ⟨rfl,rfl⟩:=hh;subst hk;simp only [Ck,z8]
   by_cases ht:t=s
   rw [if_pos ht,if_pos ht];rw [if_neg ht,if_neg ht,if_neg ht];rw [if_neg hk] at hh
   cases hq:z8 s r with
   |none=>rw [hq] at hh;cases hh
   |some p=>
     rw [hq] at hh;simp only [AK,Az,Prod.mk.injEq] at hh;obtain ⟨rfl,rfl⟩:=hh;have ih:=ztD (t:=t) (v:=v) (L:=r) (j:=p.1) (h:=p.2) (by rw [hq]);simp only [Cj,z8]
     by_cases ht:t=k
     have: ¬t=s:=fun e=>hk (e▸ht)
     rw [if_pos ht,if_neg this,if_pos ht];rw [if_neg ht,ih,if_neg ht]
     by_cases hs:t=s
     rw [if_pos hs,if_pos hs];rfl;rw [if_neg hs,if_neg hs]
theorem ztC (s t:Str) (v:HVal) (L:zhZ):(z8 t (sput s v L)).map (·.2)=if t=s then some v else (z8 t L).map (·.2):=by
 unfold sput
 cases hq:z8 s L with
 |none=>simp only [];rw [zjH hq];split<;>rfl
 |some p=>obtain ⟨j,h⟩:=p;simp only [];rw [ztD hq];split<;>rfl
theorem zzp (L:zhZ) (t:Str):lkI L t=((z8 t L).map (·.2)).getD (.int .i64 0):=by
 unfold lkI;cases z8 t L<;>rfl
theorem zwV (s t:Str) (v:HVal) (L:zhZ):lkI (sput s v L) t=if t=s then v else lkI L t:=by
 rw [zzp,ztC,zzp];split<;>rfl
structure AucOk (h:Hall) (l:List Sale) (S:List Str) (L H:zhZ):Prop where
 sold: ∀s,S.contains s=l.any (fun y=>y.Player==s)
 left: ∀t,h.Teams.contains t=true->lkI L t= .int .i64 (h.Budget-znz l t)
 got: ∀t,lkI H t= .int .i64 (zig l t)
theorem znW (s t:Str) (l:List Str):(zci s l).contains t=(l.contains t||s==t):=by
 unfold zci
 by_cases hc:l.contains s=true
 rw [if_pos hc]
 by_cases h:s=t
 subst h;rw [hc];simp;have:(s==t)=false:=by simpa using h
 simp [this]
 rw [if_neg hc,List.contains_eq_any_beq,List.any_append,<-List.contains_eq_any_beq]
 congr 1
 simp only [BG,List.any_nil,Bo];rw [AF,beq_iff_eq,beq_iff_eq];exact eq_comm
theorem AucOk.add {h:Hall} {l:List Sale} {S:List Str} {L H:zhZ} (ok:AucOk h l S L H) (x:Sale) (hx:h.Teams.contains x.Team=true):
 AucOk h (l++[x]) (zci x.Player S) (sput x.Team (.int .i64 (h.Budget-znz l x.Team-x.Price)) L) (sput x.Team (.int .i64 (zig l x.Team+1)) H) where
 sold s:=by rw [znW,ok.sold,List.any_append];simp
 left t ht:=by
  rw [zwV,zyt]
  by_cases e:t=x.Team
  subst e;rw [if_pos rfl,if_pos rfl];congr 1;omega;rw [if_neg e,if_neg (fun q=>e q.symm),ok.left t ht];congr 1;omega
 got t:=by
  rw [zwV,zzr]
  by_cases e:t=x.Team
  subst e;rw [if_pos rfl,if_pos rfl];rw [if_neg e,if_neg (fun q=>e q.symm),ok.got t];congr 1;omega
end
section
/-! numbers in decimal-/
def dig (c:UInt8):Bool:=decide (48<=c.toNat)&&decide (c.toNat<=57)
def ziE (s:Str):Str:=match s with|45::r=>r|_=>s
def numC (s:Str) (n:Int):Bool:=decide ((ziE s=[]\/n<((ziE s).length:Int))\/((((ziE s).head?).getD 0).toNat:Int)=48/\((1:Int)<((ziE s).length:Int)\/(ziE s).length<s.length))
def numB (s:Str) (n:Int):Bool:= !(numC s n)&&(ziE s).all dig
def numV (s:Str):Int:=(Lib.atoi s).getD 0
def numR (s:Str) (n:Int):Int:=if numB s n then numV s else 0
def LimOk (l:List PairS) (L:zhZ):Prop:= ∀t,(z8 t L).map (·.2)=(l.find? (fun p=>p.Name==t)).map (fun p=> .int .i64 (numR p.Val 9))
theorem LimOk.add {l:List PairS} {L:zhZ} (ok:LimOk l L) (x:PairS) (hx:l.any (fun y=>y.Name==x.Name)=false):LimOk (l++[x]) (sput x.Name (.int .i64 (numR x.Val 9)) L):=fun t=>by
 rw [ztC,List.find?_append,ok t]
 by_cases e:t=x.Name
 subst e;rw [if_pos rfl];have:l.find? (fun p=>p.Name==x.Name)=none:=by
  rw [List.find?_eq_none];intro y hy;have:=List.any_eq_false.1 hx y hy
  simpa using this
 rw [this];simp;rw [if_neg e];have hn:(x.Name==t)=false:=by simpa using fun q=>e q.symm
 cases l.find? (fun p=>p.Name==t) with
 |none=>simp [List.find?,hn]
 |some p=>simp
structure Top where
 team:Str
 first:Int
 second:Int
def Top.step (q:Top) (t:Str) (n:Int):Top:=if q.first<n then ⟨t,n,q.first⟩ else ⟨q.team,q.first,max q.second n⟩
end
section
section
variable {h:Hall} {l:List Sale} {x:Sale} (h6:x.Player∈h.Players/\x.Team∈h.Teams) (h8: ∀y∈l,¬y.Player=x.Player)
include h6 h8
end
end
section

end
section
theorem Ghost.clear [Tracks] {e:Env}: ∀{M:List MObj},Ghost e M e []
 |[]=>Ghost.perm (Ac _)
 |_::_=>Ghost.trans Ghost.drop Ghost.clear
theorem zqM [Tracks] {e:Env} {m:MObj}: ∀{R:List MObj},Ghost e (R++[m]) e [m]
 |[]=>Ghost.perm (Ac _)
 |x::R=>Ghost.trans (M':=R++[m]) Ghost.drop zqM
theorem Ghost.only [Tracks] {e:Env} {M:List MObj} {i:Nat} {m:MObj} (h:M[i]? =some m):Ghost e M e [m]:=
 Ghost.trans (Ghost.perm ((zjW h).trans (List.perm_append_comm (l₁:=[m]) (l₂:=M.eraseIdx i)))) zqM
end
section
theorem zn8 [Tracks] {e:Env} {M:List MObj}: ∀{R:List MObj},Ghost e (R++M) e M
 |[]=>Ghost.perm (Ac _)
 |x::R=>Ghost.trans (M':=R++M) Ghost.drop zn8
section
variable {P:Program} {e:Env} {dst:Option Tmp} {ty:TypeId} {pos:String} {af:Array Edge} {g:Option (Nat×Bool)} {M:List MObj} {K:HVal->List MObj->Prop}
end
end
end Go.HL
namespace Go.Proofs.YtnfmbjchkjijpaaGreatDoor
set_option maxRecDepth 100000
set_option linter.unusedVariables false
set_option linter.unusedSimpArgs false
section
open Go.Proofs.Tryz
open Go.HL
theorem zur [Tracks]:KeyOk prog 202 ziF:=zgu (cs:=fun x:Num=>zb (ziF x)) znB zGY (fun x y=>⟨rfl,⟨_,_,_,_,ty9,rfl⟩,⟨rfl,⟨_,_,_,_,ty3,rfl⟩,trivial⟩⟩)
 (fun x y=>by obtain ⟨a,b⟩:=x;obtain ⟨c,d⟩:=y;show (_&&(_&&true))=_;rw [AF];simp [eqH,Prod.mk.injEq]) (fun x=>rfl)
theorem zyh [Tracks]:KeyOk prog 204 eOf:=zgu (cs:=fun x:Of2=>zb (eOf x)) zr0 zGZ (fun x y=>⟨rfl,⟨_,_,_,_,ty9,rfl⟩,⟨rfl,⟨_,_,_,_,ty9,rfl⟩,trivial⟩⟩)
 (fun x y=>by obtain ⟨a,b⟩:=x;obtain ⟨c,d⟩:=y;show (_&&(_&&true))=_;rw [AF];simp [eqH,Prod.mk.injEq]) (fun x=>rfl)
theorem zdg [Tracks] {n:Int}:ConP prog 22 [.int .i64 n] (.bool (za4 n)):=by
 refine uOb func22 ntmps22 ?_;refine gz5 ?_;refine dq (uCl zct rfl zai) ?_;refine gz4 ?_;refine zt rfl ?_
 rfl
theorem zqq [Tracks] {p:Play}:ConP prog 122 [zaA p] (.int .i64 (playFault p)):=by
 refine uOb func122 ntmps122 ?_;refine gz9 ?_;refine dq (uCl zbK rfl zak) ?_;refine gz3 ?_;refine uCo (fun h1=> ?_) fun h2=> ?_
 refine gz4 ?_;refine uRp ?_
 simp_all [playFault]
 refine gz3 ?_;refine dq (uCl zct rfl zai) ?_;refine gz3 ?_;refine uGr rfl (fun hc=>uCl zkE rfl zbD) ?_;refine gz5 ?_;refine uGr rfl (fun hc=>uCl zm7 rfl zdg) ?_;refine gz4 ?_;refine uCo (fun h3=> ?_) fun h4=> ?_
 refine gz4 ?_;refine uRp ?_
 simp_all [playFault]
 refine gz3 ?_;refine dq (uCl zbK rfl zak) ?_;refine gz4 ?_;refine uGr rfl (fun hc=>uCl zbK rfl zak) ?_;refine gz5 ?_;refine uGr rfl (fun hc=>uCl zbK rfl zak) ?_;refine gz4 ?_;refine uCo (fun h5=> ?_) fun h6=> ?_
 refine gz4 ?_;refine uRp ?_
 simp_all [playFault]
 refine gz3 ?_;refine dq (uCl zct rfl zai) ?_;refine gz5 ?_;have hN:=zfy (n:=p.No) (lo:=1) (hi:=3000) uSa;refine gz1 ?_;refine uGr rfl (fun hc=>uCl zct rfl zai) ?_;refine gz3 ?_;refine uCo (fun h7=> ?_) fun h8=> ?_
 refine gz4 ?_;refine uRp ?_
 simp_all [playFault]
 refine zco ?_;refine uCo (fun h9=> ?_) fun h10=> ?_
 refine gz4 ?_;refine uRp ?_
 simp_all [playFault]
 refine gz7 ?_;refine uRp ?_
 simp_all [playFault]
theorem zv9 [Tracks] {a b:Play}:ConP prog 123 [zaA a,zaA b] (.int .i64 (byNo a b)):=by
 refine uOb func123 ntmps123 ?_;refine gz5 ?_;refine uDr mixed ?_;refine gz4 ?_;refine uB 4 rfl (uCl zc3 rfl zN) ?_;refine gz4 ?_;refine uB 9 rfl (uCl zd4 rfl zU) ?_;refine uB 10 rfl (za (hs:=[_,_]) zX ty3 rfl rfl (by decide) (by decide) rfl) ?_;refine uB 11 rfl (uCl zia rfl (zbe (l:=[_,_]) (by simp))) ?_;refine gz3 ?_;refine zt rfl ?_
 rfl
theorem zjF [Tracks] {l:List Play} (hl:l.length<=1000000):ConP prog 53 [zb4 l] (.int .i64 (zcj l)):=by
 refine uOb func53 ntmps53 ?_;refine gz9 ?_;refine uCo (fun h1=> ?_) fun h2=> ?_
 refine gz4 ?_;refine zao Ghost.clear rfl ⟨?_,rfl⟩
 show HVal.int .i64 _=_
 (rw [zcj,if_pos uO])
 refine gz3 ?_;refine de rfl (zaN fun m14=> ?_)
 refine de rfl (zaN fun m15=> ?_)
 refine zdy ?_;refine uT1 [2,1,5,6,18,45] (fun k=>[(18,.int .i64 k),(5,.bool (zby (l.take k)).c)]) (fun k=>[.map m15 (sk (em (.int .i64) (zby (l.take k)).W)),.map m14 (sk (zaY (zby (l.take k)).S))]) (fun k=>k<=l.length/\(zch l 0 l=zch l k (l.drop k))) (fun k=>l.length-k) (0) ?_ ?_;exact ⟨Ad _,rfl⟩;rintro k ⟨hk,hg⟩;refine gz4 ?_;refine uCo (fun h3=> ?_) fun h4=> ?_
 obtain ⟨x,hx⟩: ∃x,l[k]? =some x:=⟨_,Aa h3⟩
 have hdx:=zg hx;rw [hdx] at hg;refine gz8 ?_;refine de rfl (zj zb7 rfl fun b7=> ?_)
 refine gz1 ?_;refine de0 (zn zb7 rfl rfl rfl rfl rfl ?_)
 refine gz1 ?_;refine ze (zo 7 rfl) ?_;refine gz3 ?_;refine dq (uCl zET rfl zqq) ?_;refine gz6 ?_;refine uCo (fun h5=> ?_) fun h6=> ?_
 refine gz5 ?_;refine zao Ghost.clear rfl ⟨?_,rfl⟩
 show HVal.int .i64 _=_
 (rw [zlB uO (by rw [hg,zch,if_pos (by simpa using h5)]) (by simpa using h5)])
 refine gz3 ?_;refine uDr mixed ?_;refine gz7 ?_;refine uGy 7 rfl rfl (fun hc=>by have hq:=hc;(try simp at hq);exact zB (j:=k-1) (a:=l.getD (k-1) znn) zhH zb7 rfl rfl uO (getD_some uO)) ?_;refine gz1 ?_;refine uGy 9 rfl rfl (fun hc=>uCl zEU rfl zv9) ?_;refine gz3 ?_;refine uCo (fun h7=> ?_) fun h8=> ?_
 refine gz4 ?_;refine zao Ghost.clear rfl ⟨?_,rfl⟩
 show HVal.int .i64 _=_
 (rw [zlB (c:=7) uO (by rw [hg,zch,if_neg (by simpa using h6),if_pos (by obtain ⟨qa,qb⟩:=h7;exact ⟨by omega,by simpa using qb⟩)]) (by decide)])
 refine gz6 ?_;refine de0 (zc5 (i:=1) ziY ty9 rfl rfl rfl rfl ?_)
 refine gz6 ?_;refine de rfl (zkK (i:=0) (z0:=(0:Int)) ze1 ty9 ty3 rfl rfl rfl rfl ?_)
 refine ziG ?_;refine uCo (fun h9=> ?_) fun h10=> ?_
 refine zay ?_;refine de0 (zdP (i:=0) ze1 ty9 rfl rfl rfl rfl ?_)
 refine gz7 ?_;refine ⟨k+1,⟨by omega,?_⟩,uD,⟨rfl,?_,trivial⟩,uK,?_⟩
 rw [hg,zno (by simpa using h6) (fun hk0=>by simp_all)];rw [zfu hx];exact congrArg (fun b=>some (HVal.bool b)) (by simp_all [ziC]);exact zk (by dsimp only;rw [zfu hx];rfl);refine gz8 ?_;refine de0 (zdP (i:=0) ze1 ty9 rfl rfl rfl rfl ?_)
 refine gz7 ?_;refine ⟨k+1,⟨by omega,?_⟩,uD,⟨rfl,?_,trivial⟩,uK,?_⟩
 rw [hg,zno (by simpa using h6) (fun hk0=>by simp_all)];rw [zfu hx];exact congrArg (fun b=>some (HVal.bool b)) (by simp_all [ziC]);exact zk (by dsimp only;rw [zfu hx];rfl);have hnk:l.length<=k:=by omega
 obtain rfl:k=l.length:=by omega
 rw [zC (Ae _)] at hg;rw [Ai];refine gz2 ?_;refine zu ?_;refine gz4 ?_;have e1:(sk (zaY (zby l).S)).length=(zby l).S.length:=by simp [sk,zaY]
 have e2:(sk (em (HVal.int .i64) (zby l).W)).length=(zby l).W.length:=by simp [sk]
 refine gz2 ?_;refine de rfl (zeC (i:=1) ziY rfl rfl ?_)
 refine gz3 ?_;refine dgl rfl rfl (fun hc=>⟨_,OpenTo.upd (t:=68) rfl (hc) (OpenTo.refl _),zeC (i:=0) ze1 rfl rfl ⟨rfl,rfl⟩⟩) ?_;refine gz4 ?_;refine uCo (fun h11=> ?_) fun h12=> ?_
 refine gz4 ?_;refine zao Ghost.clear rfl ⟨?_,rfl⟩
 show HVal.int .i64 _=_
 (rw [zfT uO hg,zfm,if_pos uO])
 refine gz4 ?_;refine uCo (fun h13=> ?_) fun h14=> ?_
 refine gz4 ?_;refine zao Ghost.clear rfl ⟨?_,rfl⟩
 show HVal.int .i64 _=_
 (rw [zfT uO hg,zfm,if_neg uO,if_pos (by assumption)])
 refine gz7 ?_;refine zao Ghost.clear rfl ⟨?_,rfl⟩
 show HVal.int .i64 _=_
 (rw [zfT uO hg,zfm,if_neg uO,if_neg uSa])
theorem zjG [Tracks] {l:List Str} (hl:l.length<=1000000):ConP prog 54 [eSs l] (.int .i64 (zb5 l)):=by
 refine uOb func54 ntmps54 ?_;refine gz9 ?_;refine uCo (fun h1=> ?_) fun h2=> ?_
 refine gz4 ?_;refine uRp ?_
 (rw [zb5,if_pos uO])
 refine gz9 ?_;refine uT1 [2,3,10,14] (fun k=>[(10,.int .i64 k)]) (fun k=>[]) (fun k=>k<=l.length/\(zb5 l=zey l k (l.drop k))) (fun k=>l.length-k) (0) ?_ ?_;refine ⟨Ad _,?_⟩
 rw [zb5,if_neg uO];rfl;rintro k ⟨hk,hg⟩;refine gz4 ?_;refine uCo (fun h3=> ?_) fun h4=> ?_
 obtain ⟨x,hx⟩: ∃x,l[k]? =some x:=⟨_,Aa h3⟩
 have hdx:=zg hx;rw [hdx] at hg;refine zda ?_;refine dq (uCl zbK rfl zak) ?_;refine gz2 ?_;refine uCo (fun h5=> ?_) fun h6=> ?_
 refine gz4 ?_;refine uRp ?_
 (rw [hg];simp_all [zey])
 refine gz5 ?_;refine dq (zaK zp ty9 rfl rfl ⟨_,_,rfl,rfl⟩ uO uO) ?_;refine gz1 ?_;refine dq (uCl zh9 rfl (zO uSo)) ?_;refine gz1 ?_;refine uCo (fun h7=> ?_) fun h8=> ?_
 refine gz4 ?_;refine uRp ?_
 (rw [hg];simp_all [zey])
 refine gz7 ?_;refine ⟨k+1,?_,?_,⟨rfl,trivial⟩,uK,Ac _⟩
 refine ⟨by omega,?_⟩
 rw [hg];simp_all [zey]
 dsimp only;omega
 have hnk:l.length<=k:=by omega
 obtain rfl:k=l.length:=by omega
 rw [zC (Ae _)] at hg;refine gz2 ?_;refine zu ?_;refine gz6 ?_;refine uRp ?_
 (rw [hg];simp_all [zey])
theorem zwa [Tracks] {l:List Play} {trust:List Str} {n:Int} (hl:l.length<=1000000) (ht:trust.length<=1000000):Con prog 125 [zb4 l,eSs trust,.int .i64 n] [] (fun x M'=> ∃b O,x= .raw (.map (some b))/\ANodup O/\(∀m,alk m O=zpF l trust n m)/\M'=[.map b (sk (em .str O))]):=by
 refine uOb func125 ntmps125 ?_;refine gz4 ?_;refine de rfl (zaN fun m16=> ?_)
 refine gz9 ?_;refine uT1 [9,4,19,35] (fun k=>[(19,.int .i64 k)]) (fun k=>[.map m16 (sk (em (.int .i64) (zf2 (l.take k) trust n)))]) (fun k=>k<=l.length/\(True)) (fun k=>l.length-k) (0) ?_ ?_;exact ⟨Ad _,trivial⟩;rintro k ⟨hk,-⟩;refine gz4 ?_;refine uCo (fun h1=> ?_) fun h2=> ?_
 obtain ⟨x,hx⟩: ∃x,l[k]? =some x:=⟨_,Aa h1⟩
 have hdx:=zg hx;refine gz7 ?_;refine de rfl (zj zb7 rfl fun b9=> ?_)
 refine de0 (zn zb7 rfl rfl rfl rfl rfl ?_)
 refine gz1 ?_;refine ze (zo 9 rfl) ?_;refine gz4 ?_;refine dq (uCl ca63 rfl (ze4 uO)) ?_;refine zdy ?_;refine uCo (fun h3=> ?_) fun h4=> ?_
 refine gz8 ?_;exact ⟨k+1,⟨by omega,trivial⟩,uD,⟨rfl,trivial⟩,uK,zk (by dsimp only;rw [zmN hx,zeM,if_pos (by simpa using h3)];try rfl)⟩;refine gz6 ?_;refine de rfl (zkK (i:=0) (z0:=(0:Int)) ze1 ty9 ty3 rfl rfl rfl rfl ?_)
 refine ziG ?_;refine uCo (fun h5=> ?_) fun h6=> ?_
 refine gz5 ?_;refine de0 (zdP (i:=0) ze1 ty9 rfl rfl rfl rfl ?_)
 refine gz7 ?_;exact ⟨k+1,⟨by omega,trivial⟩,uD,⟨rfl,trivial⟩,uK,zk (by dsimp only;rw [zmN hx,zeM,if_neg (by simp_all;try omega),if_pos (by simpa using h5)];try rfl)⟩;refine gz7 ?_;exact ⟨k+1,⟨by omega,trivial⟩,uD,⟨rfl,trivial⟩,uK,zk (by dsimp only;rw [zmN hx,zeM,if_neg (by simp_all;try omega),if_neg (by simp_all;try omega)];try rfl)⟩;have hnk:l.length<=k:=by omega
 obtain rfl:k=l.length:=by omega
 refine gz2 ?_;refine zu ?_;refine gz2 ?_;rw [Ai];refine gz1 ?_;refine de rfl (zaN fun m54=> ?_)
 refine gz5 ?_;refine de rfl (zoM (i:=1) ze1 rfl rfl fun r=> ?_)
 refine gz2 ?_;refine uU2 [14,2,57,11] (fun (vis:List Nat) (E:List (Str×Int))=>[]) (fun (vis:List Nat) (E:List (Str×Int))=>[.map m54 (sk (em .str (zrY trust E))),.iter r m16 (sk (em (.int .i64) (zf2 l trust n))) vis]) (fun (vis:List Nat) (E:List (Str×Int))=>VisOk ((zf2 l trust n)) vis E/\(True)) (fun (vis:List Nat) (E:List (Str×Int))=>((zf2 l trust n)).length-vis.length) ([]) ([]) ?_ ?_;exact ⟨VisOk.nil _,trivial⟩;rintro vis E ⟨hvis,-⟩;refine gz1 ?_;refine de rfl (zoL (i:=1) (L:=(zf2 l trust n)) (enc:=(fun p:Str×Int=>(HVal.str p.1,HVal.int .i64 p.2))) rfl rfl (zCt _ _) hvis.nd hvis.lt fun cb R vis' hnx=> ?_)
 refine gz3 ?_;refine uCo (fun h7=> ?_) fun h8=> ?_
 obtain ⟨j,q,hq,hj,rfl⟩:=hnx.t h7;have hroom:=hvis.room hq hj;have hstep:=hvis.step hq hj;have hqm:=Ab hq;refine gz4 ?_;refine de rfl (znd (i:=1) (L:=(zf2 l trust n)) (enc:=(fun p:Str×Int=>(HVal.str p.1,HVal.int .i64 p.2))) rfl rfl (zCt _ _) hq ?_)
 refine zay ?_;obtain ⟨hq0,hq1⟩:=zxq hqm;refine dq (zB (j:=q.2.toNat) (a:=trust.getD q.2.toNat []) zp ty9 rfl rfl uO (getD_some uO)) ?_;refine gz1 ?_;refine de0 (zdP (i:=0) (v:=trust.getD q.2.toNat []) ziZ ty9 rfl rfl rfl rfl ?_)
 refine gz2 ?_;exact ⟨_,E++[q],⟨hstep,trivial⟩,by dsimp only;rw [Ax];simp only [Aj,AA];omega,trivial,uK,zk (by dsimp only;rw [zzY hvis (zmO _ _ _) hq hj];rfl)⟩;obtain ⟨rfl,hlen⟩:=hnx.f h8;have hEp:=hvis.done hlen;refine gz2 ?_;refine zI ?_;refine gz2 ?_;refine ze (Ghost.only (i:=0) rfl) ?_;refine gz5 ?_;exact zah rfl ⟨_,_,rfl,zyz hEp,zBq hEp,rfl⟩
end
end Go.Proofs.YtnfmbjchkjijpaaGreatDoor
namespace Go.HL
section
variable {P:Program}
abbrev hsm (L:zhZ):HVal:= .hmap (L.map fun p=> .str p.1) (L.map (·.2))
abbrev zx2 (S:List (List UInt8)):HVal:=hsm (zaY S)
theorem zEz (L:zhZ):(sk L).map (·.1)=L.map fun p=>HVal.str p.1:=by simp [sk,Function.comp_def]
theorem zEA (L:zhZ):(sk L).map (·.2)=L.map (·.2):=by simp [sk,Function.comp_def]
section
variable {e:Env} {dst:Option Tmp} {ty:TypeId} {pos:String} {af:Array Edge} {g:Option (Nat×Bool)}
end
inductive Bow (M:List MObj):HVal->HVal->Prop
 |weak {h h':HVal} (hw:Weak h h'):Bow M h h'
 |arr {i:Nat} {v:Value} {sz:Nat} {es:List HVal} (hm:M[i]? =some (.arr v sz es)):Bow M (.raw v) (.slice sz es)
 |cells {i b off:Nat} {cs cs':List HVal} (hm:M[i]? =some (.cells b cs)) (hl:cs.length=cs'.length) (h: ∀(j:Nat) (c c':HVal),cs[j]? =some c->cs'[j]? =some c'->Bow M c c'):Bow M (.raw (.pointer (some ⟨b,off,none⟩))) (.vptr cs' off)
 |map {i b:Nat} {L:zhZ} (hm:M[i]? =some (.map b (sk L))):Bow M (.raw (.map (some b))) (hsm L)
 |vptr {off:Nat} {l l':List HVal} (hl:l.length=l'.length) (h: ∀(j:Nat) (c c':HVal),l[j]? =some c->l'[j]? =some c'->Bow M c c'):Bow M (.vptr l off) (.vptr l' off)
 |fn {f:Fn} {c1 l l':List HVal} (hl:l.length=l'.length) (h: ∀(j:Nat) (c c':HVal),l[j]? =some c->l'[j]? =some c'->Bow M c c'):Bow M (.fn f c1 l) (.fn f c1 l')
theorem Bow.refl {M:List MObj} {h:HVal}:Bow M h h:= .weak (Weak.refl _)
theorem V.vptr_inv' {I:Imm} {cs:List HVal} {off:Nat} {v:Value} (h:V I (.vptr cs off) v): ∃b base rc el fr,v= .pointer (some ⟨b,base+off,none⟩)/\I.heap b=some (.cells rc el fr)/\base+cs.length<=rc.size/\
 ∀(j:Nat) (c:HVal) (v:Value),cs[j]? =some c->rc[base+j]? =some v->V I c v:=by
 cases h with
 |vptr h1 h2 h3=>exact ⟨_,_,_,_,_,rfl,h1,h2,h3⟩
theorem Bow.v [Tracks] {M:List MObj} {I:Imm} {F:List MObj} {w:World} {h h':HVal} (hb:Bow M h h') (hs:Sat P I (M++F) w): ∀{v:Value},V I h v->V (zcF w) h' v:=by
 induction hb with
 |weak hw=>intro v hv;exact hw _ _ (hv.mono hs.le_all)
 |arr hm=>intro v hv;exact (Bor.arr hm).v hs hv
 | @cells i b off cs cs' hm hl _ ih=>
   intro v hv
   rw [hv.raw_inv];obtain ⟨rc,el,fr,h2,h3,h4⟩:=hs.obj _ (An _ (Ab hm));have:=V.vptr (I:=zcF w) (cs:=cs') (off:=off) (base:=0) h2 (by have:=h4.1;simp at this;omega) fun j c v a1 a2=>by
    have hj:=zm a1;have hj':=Aa (l:=cs) (i:=j) (by omega);exact ih j _ c hj' a1 (h4.2 j _ v hj' (by simpa using a2))
   rwa [Bn] at this
 | @map i b L hm=>
   intro v hv
   rw [hv.raw_inv];obtain ⟨es,clk,h1,h2,h3⟩:=hs.obj _ (An _ (Ab hm));have hn:es.size=L.length:=by simpa [sk] using h2.1
   refine .hmap (I:=zcF w) h1 (by simp [hn]) (by simp [hn]) (fun j c m a1 a2=> ?_) (fun j c m a1 a2=> ?_)
   rw [<-zEz,Ah] at a1
   cases hq:(sk L)[j]? with
   |none=>rw [hq] at a1;simp at a1
   |some p=>rw [hq] at a1;simp at a1;subst a1;exact ((h3 j p m hq a2).1).mono hs.le_all
   rw [<-zEA,Ah] at a1
   cases hq:(sk L)[j]? with
   |none=>rw [hq] at a1;simp at a1
   |some p=>rw [hq] at a1;simp at a1;subst a1;exact ((h3 j p m hq a2).2).mono hs.le_all
 | @vptr off l l' hl _ ih=>
   intro v hv
   obtain ⟨b,base,rc,el,fr,rfl,h1,h2,h3⟩:=hv.vptr_inv';refine .vptr (I:=zcF w) (hs.imm _ _ h1) (by omega) fun j c u a1 a2=> ?_
   have hj:=zm a1;have hj':=Aa (l:=l) (i:=j) (by omega);exact ih j _ c hj' a1 (h3 j _ u hj' a2)
 | @fn f c1 l l' hl _ ih=>
   intro v hv
   cases hv with
   |fn g1 g2 g3 g4=>
     refine .fn g1 (by omega) (fun j c u a1 a2=>(g3 j c u a1 a2).mono hs.le_all) fun j c u a1 a2=> ?_
     have hj:=zm a1;have hj':=Aa (l:=l) (i:=j) (by omega);exact ih j _ c hj' a1 (g4 j _ u hj' a2)
end
section
open Go
variable {P:Program} {e:Env} {dst:Option Tmp} {ty:TypeId} {pos:String} {af:Array Edge} {g:Option (Nat×Bool)}
theorem zvH [Tracks] {x:Operand} {t:TypeId} {m:Int} (hx:zi e x=some (.int .u64 m)):POp P e ⟨dst,.unOp .neg t x,ty,pos,af,g⟩ (.int .u64 (IntKind.wrap .u64 (-m))):=
 zD fun I a w ho=>⟨.int .u64 (IntKind.wrap .u64 (-m)),by
  have h1:=(ho.one (x:=x) (by simp [Op.operands]) hx).int_inv;simp only [execOp,h1,Op.unary,Op.intArith,Sem.run_bind,Sem.run_pure,Result.andThen_ok];rw [Int.zero_sub],.int _ _⟩
theorem zuA {n:Int} (h1: -9223372036854775808<=n) (h2:n<=9223372036854775807):IntKind.wrap .u64 n=if n<0 then n+18446744073709551616 else n:=by
 unfold IntKind.wrap
 split<;>simp [IntKind.bits,IntKind.signed]<;>omega
end
end Go.HL
namespace Go.Proofs.YtnfmbjchkjijpaaGreatDoor
set_option maxRecDepth 100000
set_option linter.unusedVariables false
set_option linter.unusedSimpArgs false
section
open Go.Proofs.Tryz
open Go.HL
theorem zhq [Tracks] {l:List Str} (hl:l.length<=1000000):ConP prog 251 [eSs l] (.int .i64 (zdq l)):=by
 refine uOb func251 ntmps251 ?_;refine zco ?_;refine uCo (fun h1=> ?_) fun h2=> ?_
 refine gz4 ?_;refine uRp ?_;unfold zdq
 (try clear hdx hg);(try simp only [Ag]);focus first|rfl|(simp_all;done)|((repeat' split)<;>focus first|rfl|(exfalso;omega)|(simp_all;done)|(exfalso;rcases ‹_\/_› with q|q<;>simp_all;done)|(exfalso;simp_all;omega))
 refine gz6 ?_;refine uCo (fun h3=> ?_) fun h4=> ?_
 refine gz4 ?_;refine uRp ?_;unfold zdq
 (try clear hdx hg);(try simp only [Ag]);focus first|rfl|(simp_all;done)|((repeat' split)<;>focus first|rfl|(exfalso;omega)|(simp_all;done)|(exfalso;rcases ‹_\/_› with q|q<;>simp_all;done)|(exfalso;simp_all;omega))
 refine gz5 ?_;refine dq (uCl zxJ rfl (zhi (by assumption))) ?_;refine gz3 ?_;refine uRp ?_;unfold zdq
 (try clear hdx hg);(try simp only [Ag]);focus first|rfl|(simp_all;done)|((repeat' split)<;>focus first|rfl|(exfalso;omega)|(simp_all;done)|(exfalso;rcases ‹_\/_› with q|q<;>simp_all;done)|(exfalso;simp_all;omega))
theorem ztP [Tracks] {n d:Int} (hn: -1000000000000<=n/\n<=1000000000000) (hd:1<=d/\d<=1000000000000):ConP prog 135 [.agg [.int .i64 n,.int .i64 d]] (.bool (znm n d)):=by
 refine uOb func135 ntmps135 ?_;refine gz4 ?_;refine uDr mixed ?_;refine gz2 ?_;refine uB 2 rfl (zY (zbO ty3 zpI rfl) (congrArg (HVal.int .u64) (zuA uO uO))) ?_;refine gz2 ?_;refine uB 5 rfl (zY (zbO ty3 zpI rfl) (congrArg (HVal.int .u64) (show IntKind.wrap .u64 d=((d.natAbs:Nat):Int) by rw [zuA uO uO,if_neg uO];omega))) ?_;refine gz3 ?_;refine uVj [3,1,11,5] (fun (z0:Unit)=>[(3,.int .u64 ((n.natAbs:Nat):Int))]) (fun (z0:Unit)=>[]) (fun (z0:Unit)=>True) ?_ ?_
 skip
 refine gz5 ?_;refine uCo (fun h1=> ?_) fun h2=> ?_
 refine gz2 ?_;refine dq (zY (zvH rfl) (congrArg (HVal.int .u64) (show IntKind.wrap .u64 (-(if n<0 then n+18446744073709551616 else n))=((n.natAbs:Nat):Int) by rw [if_pos (by assumption),zz1 uO uO];omega))) ?_;refine gz2 ?_;exact ⟨(),trivial,⟨rfl,trivial⟩,uK,Ac _⟩;refine gz1 ?_;exact ⟨(),trivial,⟨congrArg (fun q=>some (HVal.int .u64 q)) (show (if n<0 then n+18446744073709551616 else n)=((n.natAbs:Nat):Int) by rw [if_neg uO];omega),trivial⟩,uK,Ac _⟩
 intro z0 _
 refine gz2 ?_;refine uT2 [3,2,16,6] (fun a b=>[(3,.int .u64 ((a:Nat):Int)),(4,.int .u64 ((b:Nat):Int))]) (fun a b=>[]) (fun a b=>Nat.gcd a b=Nat.gcd n.natAbs d.natAbs) (fun a b=>b) (n.natAbs) (d.natAbs) ?_ ?_
 rfl
 intro a b hg
 refine gz5 ?_;refine uCo (fun h3=> ?_) fun h4=> ?_
 have hb0:0<b:=by omega
 refine gz3 ?_;refine zgC mixed ?_;refine gz3 ?_;refine uB 3 rfl (zY (zcT rfl rfl uO) (congrArg (HVal.int .u64) (zqH a b))) ?_;refine gz4 ?_;refine ⟨b,a%b,?_,?_,⟨rfl,rfl,trivial⟩,uK,Ac _⟩
 exact zoS.trans hg
 dsimp only;exact BW _ hb0
 obtain rfl:b=0:=by omega
 rw [Nat.gcd_zero_right] at hg;refine gz2 ?_;refine zI ?_;refine gz8 ?_;refine zt rfl ?_
 show HVal.bool _=_
 unfold znm;rw [<-hg]
 congr 1
 rw [AF]
 simp
 try omega
theorem zjp [Tracks] {n d most:Int} (hn: -1000000000<=n/\n<=1000000000) (hd: -1000000000<=d/\d<=1000000000) (hm:0<=most/\most<=1000000):ConP prog 64 [.agg [.int .i64 n,.int .i64 d],.int .i64 most] (.int .i64 (zbA n d most)):=by
 refine uOb func64 ntmps64 ?_;refine zc9 ?_;refine dg rfl rfl (fun hc=>by
  have hd1:1<=d:=by (have q:=hc;simp at q;omega)
  exact ⟨_,OpenTo.upd (t:=10) rfl (hc) (OpenTo.refl _),uCl zBE rfl (ztP (n:=n) (d:=d) uO uO)⟩) ?_
 refine gz4 ?_;refine uCo (fun h1=> ?_) fun h2=> ?_
 refine gz4 ?_;refine uRp ?_;unfold zbA
 (rw [if_pos uSa])
 have hd1:1<=d:=by (first|omega|(simp_all;omega))
 have hmd:=zrz (a:=most) (b:=d) (A:=1000000) (B:=1000000000) uO uO uO uO;have hmn: -most*d= -(most*d):=Bs _ _;refine gz3 ?_;refine dq (zcT rfl rfl uO) ?_;refine gz5 ?_;refine uGr rfl (fun hc=>by have hq:=hc;(try simp at hq);exact zjj rfl uO uO) ?_;refine gz2 ?_;refine uGr rfl (fun hc=>by have hq:=hc;(try simp at hq);exact zcA rfl rfl uO uO) ?_;refine gz3 ?_;refine uGr rfl (fun hc=>by have hq:=hc;(try simp at hq);exact zcA rfl rfl uO uO) ?_;refine uGr rfl (fun hc=>uCl zct rfl zai) ?_;refine gz3 ?_;refine uCo (fun h3=> ?_) fun h4=> ?_
 refine gz4 ?_;refine uRp ?_;unfold zbA
 (rw [if_neg uSa,if_pos uSa])
 refine gz7 ?_;refine uRp ?_;unfold zbA
 (rw [if_neg uSa,if_neg uSa])
theorem zd2 [Tracks] {l:List PlayerS} {s:Str} {fid:FuncId} (hca:Callable prog fid) (hp: ∀x:PlayerS,ConP prog fid [ze7 x,.str s] (.int .i64 (zZ x.Key s))) (hl:l.length<=1000000) (hs:SortedS (l.map (·.Key))):ConP prog 253 [zbm l,.str s,.fn (.func fid) [] []] (.tup [.int .i64 (zck (l.map (·.Key)) s),.bool ((l.map (·.Key)).contains s)]):=by
 have hLl:(l.map (·.Key)).length=l.length:=Af _;refine uOb func253 ntmps253 ?_;refine zoW ?_;refine uT2 [9,3,15,20] (fun i j=>[(9,.int .i64 i),(10,.int .i64 j)]) (fun i j=>[]) (fun i j=>i<=j/\j<=(l.map (·.Key)).length/\(∀(k:Nat) (x:Str),k<i->(l.map (·.Key))[k]? =some x->Op.bytesLess x s=true)/\(∀(k:Nat) (x:Str),j<=k->(l.map (·.Key))[k]? =some x->Op.bytesLess x s=false)) (fun i j=>j-i) (0) (l.length) ?_ ?_;exact ⟨Ad _,by rw [hLl];exact Ae _,fun k x h=>by omega,fun k x h1 h2=>by have:=zm h2;omega⟩;rintro i j ⟨hij,hjl,ha,hb⟩;rw [hLl] at hjl;refine gz6 ?_;refine uCo (fun h1=> ?_) fun h2=> ?_
 obtain ⟨x,hx⟩: ∃x,l[(i+j)/2]? =some x:=⟨_,Aa uO⟩
 have hxL:(l.map (·.Key))[(i+j)/2]? =some x.Key:=by rw [Ah,hx];rfl
 have hm:(i+j)/2<j/\i<=(i+j)/2:=by omega
 refine gz7 ?_;refine dq (zbO ty3 zi1 rfl) ?_;refine dq (zsF rfl rfl uO) ?_;refine dq (zY (zbO zi1 ty3 rfl) (zvr (i:=i) (j:=j) uO)) ?_;refine gz6 ?_;refine dq (zB (j:=(i+j)/2) (a:=x) znD ze2 rfl rfl rfl hx) ?_;refine gz2 ?_;refine dq (zag hca rfl rfl (WeakL.refl _) (hp _)) ?_;refine gz2 ?_;refine uCo (fun h3=> ?_) fun h4=> ?_
 refine gz6 ?_;exact ⟨(i+j)/2+1,j,⟨by omega,by rw [hLl];exact hjl,zxr hs hxL (zhR.1 h3),hb⟩,uD,⟨rfl,rfl,trivial⟩,uK,Ac _⟩;refine gz5 ?_;exact ⟨i,(i+j)/2,⟨by omega,by omega,ha,zub hs hxL (by have q:=fun e=>(show ¬zZ x.Key s<0 by omega) (zhR.2 e);simpa using q)⟩,uD,⟨rfl,rfl,trivial⟩,uK,Ac _⟩;obtain rfl:i=j:=by omega
 have hjl2:i<=(l.map (·.Key)).length:=by rw [hLl];exact hjl
 refine gz2 ?_;refine zI ?_;refine zco ?_;refine uGr rfl (fun hc=>by have hq:=hc;(try simp at hq);exact zB (j:=i) (a:=l.getD i zex) znD ze2 rfl rfl rfl (getD_some uO)) ?_;refine gz2 ?_;refine uGr rfl (fun hc=>zag hca rfl rfl (WeakL.refl _) (hp _)) ?_;refine gz6 ?_;refine zt rfl ?_;rw [zmy hjl2 ha hb,<-zqv hs hjl2 ha hb,<-zyR]
theorem zq3 [Tracks] {x:PlayerS} {s:Str}:ConP prog 254 [ze7 x,.str s] (.int .i64 (zZ x.Key s)):=by
 refine uOb func254 ntmps254 ?_;refine gz8 ?_;refine dq (uCl zc3 rfl zN) ?_;refine gz3 ?_;refine zt rfl ?_
 rfl
theorem znN [Tracks] {l:List PlayerS} {s:Str} (hl:l.length<=1000000) (hs:SortedS (l.map (·.Key))):ConP prog 190 [zbm l,.str s] (.int .i64 (zf5 (l.map (·.Key)) s)):=by
 refine uOb func190 ntmps190 ?_;refine gz6 ?_;refine dq (uCl zB7 rfl (zd2 (l:=l) zF6 (fun _=>zq3) hl hs)) ?_;refine zco ?_;refine uCo (fun h1=> ?_) fun h2=> ?_
 refine gz4 ?_;refine uRp ?_;unfold zf5
 simp_all
 refine gz7 ?_;refine uRp ?_;unfold zf5
 simp_all
theorem zhN [Tracks] {l:List PlayerS} (hT:Tracks.on=false) (hl:l.length<=1000000) (hn: ∀p∈l,p.Name∈zdk) (hp: ∀p∈l,p.Positions.length<=1000000):ConP prog 189 [zbm l] (.int .i64 (zcP l)):=by
 refine uOb func189 ntmps189 ?_;refine gz9 ?_;refine uCo (fun h1=> ?_) fun h2=> ?_
 refine gz4 ?_;refine uRp ?_
 (refine congrArg _ (zbN ?_)
  omega)
 refine gz9 ?_;refine uT1 [2,4,11,42] (fun k=>[(11,.int .i64 k)]) (fun k=>[]) (fun k=>k<=l.length/\(za1 zcS zex l 0 l=za1 zcS zex l k (l.drop k))) (fun k=>l.length-k) (0) ?_ ?_;exact ⟨Ad _,rfl⟩;rintro k ⟨hk,hg⟩;refine gz4 ?_;refine uCo (fun h3=> ?_) fun h4=> ?_
 obtain ⟨x,hx⟩: ∃x,l[k]? =some x:=⟨_,Aa h3⟩
 have hdx:=zg hx;rw [hdx] at hg;refine gz8 ?_;refine de rfl (zj ze2 rfl fun b4=> ?_)
 refine gz1 ?_;refine de0 (zn ze2 rfl rfl rfl rfl rfl ?_)
 refine gz1 ?_;refine ze (zo 4 rfl) ?_;refine gz5 ?_;refine dq (uCl zbK rfl zak) ?_;refine gz3 ?_;refine uCo (fun h5=> ?_) fun h6=> ?_
 refine gz4 ?_;refine uRp ?_
 (refine congrArg _ (zA (e:=5) ?_ hg ?_ ?_)
  omega
  unfold zcS;exact uT
  first|decide|assumption)
 refine uDr mixed ?_;refine gz8 ?_;refine uGy 8 rfl rfl (fun hc=>by have hq:=hc;(try simp at hq);exact zB (j:=k-1) (a:=l.getD (k-1) zex) znD ze2 rfl rfl uO (getD_some uO)) ?_;refine gz6 ?_;refine uCo (fun h7=> ?_) fun h8=> ?_
 refine gz4 ?_;refine uRp ?_
 (refine congrArg _ (zA (e:=7) ?_ hg ?_ ?_)
  omega
  unfold zcS;exact uT
  first|decide|assumption)
 have hn6:=zo8 (hn x (Ab hx));refine gz3 ?_;refine dq (uCl zF5 rfl (zuW hT (hn x (Ab hx)))) ?_;refine gz5 ?_;refine uGr rfl (fun hc=>uCl zct rfl zai) ?_;refine gz3 ?_;refine z7 rfl (fun h9=> ?_) (fun h9=> ?_)
 exfalso
 try simp at h9
 simp_all
 try simp at h9
 refine gz6 ?_;refine dq (uCl zxF rfl (zhq (hp x (Ab hx)))) ?_;refine gz6 ?_;refine uCo (fun h10=> ?_) fun h11=> ?_
 refine gz5 ?_;refine uRp ?_
 (refine congrArg _ (zA (e:=(zdq x.Positions)) ?_ hg ?_ ?_)
  omega
  unfold zcS;exact uT
  first|decide|assumption)
 refine gz7 ?_;refine ⟨k+1,?_,?_,⟨rfl,trivial⟩,uK,Ac _⟩
 refine ⟨by omega,?_⟩
 rw [hg,zaZ (by unfold zcS;(try clear hdx hg);(try simp only [Ag]);focus first|(simp_all;done)|((repeat' split)<;>focus first|rfl|(exfalso;omega)|(simp_all;done)|(exfalso;rcases ‹_\/_› with q|q<;>simp_all;done)|(exfalso;simp_all;omega)))]
 dsimp only;omega
 have hnk:l.length<=k:=by omega
 obtain rfl:k=l.length:=by omega
 rw [zC (Ae _)] at hg;refine gz2 ?_;refine zu ?_;refine gz6 ?_;refine uRp ?_
 (refine congrArg _ (zbB ?_ hg)
  omega)
theorem zm1 [Tracks] {L:List PlayerS} {l:List StintS} (hT:Tracks.on=false) (hL:L.length<=1000000) (hn: ∀p∈L,p.Name∈zdk) (hp: ∀p∈L,p.Positions.length<=1000000) (hl:l.length<=1000000):ConP prog 180 [zbm L,zfP l] (.int .i64 (zkX L l)):=by
 refine uOb func180 ntmps180 ?_;refine gz6 ?_;refine dq (uCl zBV rfl (zhN (l:=L) hT hL hn hp)) ?_;refine gz6 ?_;refine uCo (fun h1=> ?_) fun h2=> ?_
 refine gz5 ?_;refine uRp ?_
 try rw [hE]
 (rw [zkX,if_pos (by assumption)])
 refine gz3 ?_;have hz:zcP L=0:=by first|assumption|simp_all
 have hE:zkX L l=zjz L l:=by rw [zkX,if_neg (by simp [hz])]
 refine gz5 ?_;refine uCo (fun h3=> ?_) fun h4=> ?_
 refine gz4 ?_;refine uRp ?_
 try rw [hE]
 (refine congrArg _ (zbN ?_)
  omega)
 refine gz9 ?_;refine uT1 [4,1,6,2,18,53] (fun k=>[(18,.int .i64 k)]) (fun k=>[]) (fun k=>k<=l.length/\(za1 (zd6 L) zfJ l 0 l=za1 (zd6 L) zfJ l k (l.drop k))) (fun k=>l.length-k) (0) ?_ ?_;exact ⟨Ad _,rfl⟩;rintro k ⟨hk,hg⟩;refine gz4 ?_;refine uCo (fun h5=> ?_) fun h6=> ?_
 obtain ⟨x,hx⟩: ∃x,l[k]? =some x:=⟨_,Aa h5⟩
 have hdx:=zg hx;rw [hdx] at hg;refine gz8 ?_;refine de rfl (zj zcR rfl fun b7=> ?_)
 refine gz1 ?_;refine de0 (zn zcR rfl rfl rfl rfl rfl ?_)
 refine gz1 ?_;refine ze (zo 7 rfl) ?_;refine gz1 ?_;have hfn:zf5 (L.map (·.Key)) x.Player<0↔zgO L x.Player=false:=zs4;refine gz4 ?_;refine dq (uCl zBW rfl (znN (l:=L) hL (znp hz))) ?_;refine gz3 ?_;refine uCo (fun h7=> ?_) fun h8=> ?_
 refine gz4 ?_;refine uRp ?_
 try rw [hE]
 (refine congrArg _ (zA (e:=8) ?_ hg ?_ ?_)
  omega
  unfold zd6;exact uT
  first|decide|assumption)
 refine gz7 ?_;refine uGr rfl (fun hc=>uCl zbK rfl zak) ?_;refine gz4 ?_;refine uCo (fun h9=> ?_) fun h10=> ?_
 refine gz4 ?_;refine uRp ?_
 try rw [hE]
 (refine congrArg _ (zA (e:=5) ?_ hg ?_ ?_)
  omega
  unfold zd6;exact uT
  first|decide|assumption)
 refine gz3 ?_;refine dq (uCl zm7 rfl zdg) ?_;refine gz3 ?_;refine uCo (fun h11=> ?_) fun h12=> ?_
 refine gz4 ?_;refine uRp ?_
 try rw [hE]
 (refine congrArg _ (zA (e:=1) ?_ hg ?_ ?_)
  omega
  unfold zd6;exact uT
  first|decide|assumption)
 refine uDr mixed ?_;refine gz8 ?_;refine uGy 8 rfl rfl (fun hc=>by have hq:=hc;(try simp at hq);exact zB (j:=k-1) (a:=l.getD (k-1) zfJ) zhG zcR rfl rfl uO (getD_some uO)) ?_;refine gz2 ?_;refine uGy 11 rfl rfl (fun hc=>uCl zc3 rfl zN) ?_;refine gz5 ?_;refine uGy 17 rfl rfl (fun hc=>by have hq:=hc;(try simp at hq);exact zB (j:=k-1) (a:=l.getD (k-1) zfJ) zhG zcR rfl rfl uO (getD_some uO)) ?_;refine gz2 ?_;refine uGy 20 rfl rfl (fun hc=>uCl zd4 rfl zU) ?_;refine uGy 21 rfl rfl (fun hc=>za (hs:=[_,_]) zX ty3 rfl rfl (by decide) (by decide) rfl) ?_;refine uGy 22 rfl rfl (fun hc=>uCl zia rfl (zbe (l:=[_,_]) (by simp))) ?_;refine gz4 ?_;refine uCo (fun h13=> ?_) fun h14=> ?_
 refine gz4 ?_;refine uRp ?_
 try rw [hE]
 (refine congrArg _ (zA (e:=7) ?_ hg ?_ ?_)
  omega
  unfold zd6;exact uT
  first|decide|assumption)
 refine gz8 ?_;refine ⟨k+1,?_,?_,⟨rfl,trivial⟩,uK,Ac _⟩
 refine ⟨by omega,?_⟩
 rw [hg,zaZ (by unfold zd6;(try clear hdx hg);(try simp only [Ag]);focus first|(simp_all;done)|((repeat' split)<;>focus first|rfl|(exfalso;omega)|(simp_all;done)|(exfalso;rcases ‹_\/_› with q|q<;>simp_all;done)|(exfalso;simp_all;omega)))]
 dsimp only;omega
 have hnk:l.length<=k:=by omega
 obtain rfl:k=l.length:=by omega
 rw [zC (Ae _)] at hg;refine gz2 ?_;refine zu ?_;refine gz6 ?_;refine uRp ?_
 try rw [hE]
 (refine congrArg _ (zbB ?_ hg)
  omega)
theorem zlT [Tracks] {l:List FixS} (hl:l.length<=1000000):ConP prog 181 [znb l] (.int .i64 (zjs l)):=by
 refine uOb func181 ntmps181 ?_;refine gz9 ?_;refine uCo (fun h1=> ?_) fun h2=> ?_
 refine gz4 ?_;refine uRp ?_
 (refine congrArg _ (zbN ?_)
  omega)
 refine gz9 ?_;refine uT1 [2,4,11,59] (fun k=>[(11,.int .i64 k)]) (fun k=>[]) (fun k=>k<=l.length/\(za1 zgq zl1 l 0 l=za1 zgq zl1 l k (l.drop k))) (fun k=>l.length-k) (0) ?_ ?_;exact ⟨Ad _,rfl⟩;rintro k ⟨hk,hg⟩;refine gz4 ?_;refine uCo (fun h3=> ?_) fun h4=> ?_
 obtain ⟨x,hx⟩: ∃x,l[k]? =some x:=⟨_,Aa h3⟩
 have hdx:=zg hx;rw [hdx] at hg;refine gz8 ?_;refine de rfl (zj zaR rfl fun b4=> ?_)
 refine gz1 ?_;refine de0 (zn zaR rfl rfl rfl rfl rfl ?_)
 refine gz1 ?_;refine ze (zo 4 rfl) ?_;refine gz5 ?_;refine dq (uCl zm7 rfl zdg) ?_;refine gz4 ?_;refine uGr rfl (fun hc=>uCl zkE rfl zbD) ?_;refine gz4 ?_;refine uCo (fun h5=> ?_) fun h6=> ?_
 refine gz4 ?_;refine uRp ?_
 (refine congrArg _ (zA (e:=1) ?_ hg ?_ ?_)
  omega
  unfold zgq;exact uT
  first|decide|assumption)
 refine gz3 ?_;refine dq (uCl zbK rfl zak) ?_;refine gz4 ?_;refine uGr rfl (fun hc=>uCl zbK rfl zak) ?_;refine gz4 ?_;refine uCo (fun h7=> ?_) fun h8=> ?_
 refine gz4 ?_;refine uRp ?_
 (refine congrArg _ (zA (e:=5) ?_ hg ?_ ?_)
  omega
  unfold zgq;exact uT
  first|decide|assumption)
 refine gz8 ?_;refine uCo (fun h9=> ?_) fun h10=> ?_
 refine gz4 ?_;refine uRp ?_
 (refine congrArg _ (zA (e:=6) ?_ hg ?_ ?_)
  omega
  unfold zgq;exact uT
  first|decide|assumption)
 refine gz8 ?_;refine uCo (fun h11=> ?_) fun h12=> ?_
 refine gz8 ?_;refine ⟨k+1,?_,?_,⟨rfl,trivial⟩,uK,Ac _⟩
 refine ⟨by omega,?_⟩
 rw [hg,zaZ (by unfold zgq;(try clear hdx hg);(try simp only [Ag]);focus first|(simp_all;done)|((repeat' split)<;>focus first|rfl|(exfalso;omega)|(simp_all;done)|(exfalso;rcases ‹_\/_› with q|q<;>simp_all;done)|(exfalso;simp_all;omega)))]
 dsimp only;omega
 refine gz6 ?_;refine dq (zB (j:=k-1) (a:=l.getD (k-1) zl1) zde zaR rfl rfl uO (getD_some uO)) ?_;refine gz1 ?_;refine de rfl (zj zaR rfl fun b5=> ?_)
 refine de0 (zn zaR rfl rfl rfl rfl rfl ?_)
 refine gz1 ?_;refine ze (zo 5 rfl) ?_;refine uDr mixed ?_;refine gz4 ?_;refine uB 4 rfl (uCl zd4 rfl zU) ?_;refine gz4 ?_;refine uB 9 rfl (uCl zd4 rfl zU) ?_;refine gz4 ?_;refine uB 14 rfl (uCl zc3 rfl zN) ?_;refine uB 15 rfl (za (hs:=[_,_,_]) zX ty3 rfl rfl (by decide) (by decide) rfl) ?_;refine uB 16 rfl (uCl zia rfl (zbe (l:=[_,_,_]) (by simp))) ?_;refine gz2 ?_;refine uCo (fun h13=> ?_) fun h14=> ?_
 refine gz4 ?_;refine uRp ?_
 (refine congrArg _ (zA (e:=7) ?_ hg ?_ ?_)
  omega
  unfold zgq;exact uT
  first|decide|assumption)
 refine gz7 ?_;refine ⟨k+1,?_,?_,⟨rfl,trivial⟩,uK,Ac _⟩
 refine ⟨by omega,?_⟩
 rw [hg,zaZ (by unfold zgq;(try clear hdx hg);(try simp only [Ag]);focus first|(simp_all;done)|((repeat' split)<;>focus first|rfl|(exfalso;omega)|(simp_all;done)|(exfalso;rcases ‹_\/_› with q|q<;>simp_all;done)|(exfalso;simp_all;omega)))]
 dsimp only;omega
 have hnk:l.length<=k:=by omega
 obtain rfl:k=l.length:=by omega
 rw [zC (Ae _)] at hg;refine gz2 ?_;refine zu ?_;refine gz6 ?_;refine uRp ?_
 (refine congrArg _ (zbB ?_ hg)
  omega)
theorem zm0 [Tracks] {L:List PlayerS} {l:List HealthS} (hT:Tracks.on=false) (hL:L.length<=1000000) (hn: ∀p∈L,p.Name∈zdk) (hp: ∀p∈L,p.Positions.length<=1000000) (hl:l.length<=1000000) (hw: ∀x∈l,-1000000000000000<=x.To/\x.To<=1000000000000000):ConP prog 118 [zbm L,zcI l] (.int .i64 (zoX L l)):=by
 refine uOb func118 ntmps118 ?_;refine gz6 ?_;refine dq (uCl zBV rfl (zhN (l:=L) hT hL hn hp)) ?_;refine gz6 ?_;refine uCo (fun h1=> ?_) fun h2=> ?_
 refine gz5 ?_;refine uRp ?_
 try rw [hE]
 (rw [zoX,if_pos (by assumption)])
 refine gz3 ?_;have hz:zcP L=0:=by first|assumption|simp_all
 have hE:zoX L l=zsy L l:=by rw [zoX,if_neg (by simp [hz])]
 refine gz5 ?_;refine uCo (fun h3=> ?_) fun h4=> ?_
 refine gz4 ?_;refine uRp ?_
 try rw [hE]
 (refine congrArg _ (zbN ?_)
  omega)
 refine gz9 ?_;refine uT1 [4,1,6,3,19,60] (fun k=>[(19,.int .i64 k)]) (fun k=>[]) (fun k=>k<=l.length/\(za1 (zce L) zgP l 0 l=za1 (zce L) zgP l k (l.drop k))) (fun k=>l.length-k) (0) ?_ ?_;exact ⟨Ad _,rfl⟩;rintro k ⟨hk,hg⟩;refine gz4 ?_;refine uCo (fun h5=> ?_) fun h6=> ?_
 obtain ⟨x,hx⟩: ∃x,l[k]? =some x:=⟨_,Aa h5⟩
 have hdx:=zg hx;rw [hdx] at hg;refine gz8 ?_;refine de rfl (zj zcE rfl fun b7=> ?_)
 refine gz1 ?_;refine de0 (zn zcE rfl rfl rfl rfl rfl ?_)
 refine gz1 ?_;refine ze (zo 7 rfl) ?_;refine gz2 ?_;have hfn:zf5 (L.map (·.Key)) x.Player<0↔zgO L x.Player=false:=zs4;have hwx:=hw x (Ab hx);refine gz4 ?_;refine dq (uCl zBW rfl (znN (l:=L) hL (znp hz))) ?_;refine gz3 ?_;refine uCo (fun h7=> ?_) fun h8=> ?_
 refine gz4 ?_;refine uRp ?_
 try rw [hE]
 (refine congrArg _ (zA (e:=8) ?_ hg ?_ ?_)
  omega
  unfold zce;exact uT
  first|decide|assumption)
 refine gz3 ?_;refine dq (uCl zct rfl zai) ?_;refine gz6 ?_;refine uGr rfl (fun hc=>uCl zct rfl zai) ?_;refine gz3 ?_;refine uCo (fun h9=> ?_) fun h10=> ?_
 refine gz4 ?_;refine uRp ?_
 try rw [hE]
 (refine congrArg _ (zA (e:=1) ?_ hg ?_ ?_)
  omega
  unfold zce;exact uT
  first|decide|assumption)
 refine gz3 ?_;refine dq (uCl zct rfl zai) ?_;refine gz2 ?_;refine uCo (fun h11=> ?_) fun h12=> ?_
 refine gz4 ?_;refine uRp ?_
 try rw [hE]
 (refine congrArg _ (zA (e:=4) ?_ hg ?_ ?_)
  omega
  unfold zce;exact uT
  first|decide|assumption)
 refine gz8 ?_;refine uCo (fun h13=> ?_) fun h14=> ?_
 refine gz8 ?_;refine ⟨k+1,?_,?_,⟨rfl,trivial⟩,uK,Ac _⟩
 refine ⟨by omega,?_⟩
 rw [hg,zaZ (by unfold zce;(try clear hdx hg);(try simp only [Ag]);focus first|(simp_all;done)|((repeat' split)<;>focus first|rfl|(exfalso;omega)|(simp_all;done)|(exfalso;rcases ‹_\/_› with q|q<;>simp_all;done)|(exfalso;simp_all;omega)))]
 dsimp only;omega
 refine gz2 ?_;have hk0:0<k:=by omega
 have hpl:zgO L x.Player=true:=by
  cases hq:zgO L x.Player with
  |true=>rfl
  |false=>have:=hfn.2 hq;omega
 refine gz4 ?_;refine dq (zB (j:=k-1) (a:=l.getD (k-1) zgP) zjC zcE rfl rfl uO (getD_some uO)) ?_;refine gz1 ?_;refine de rfl (zj zcE rfl fun b8=> ?_)
 refine de0 (zn zcE rfl rfl rfl rfl rfl ?_)
 refine gz1 ?_;refine ze (zo 8 rfl) ?_;refine gz1 ?_;refine uDr mixed ?_;refine gz4 ?_;refine uB 4 rfl (uCl zc3 rfl zN) ?_;refine gz4 ?_;refine uB 9 rfl (uCl zd4 rfl zU) ?_;refine uB 10 rfl (za (hs:=[_,_]) zX ty3 rfl rfl (by decide) (by decide) rfl) ?_;refine uB 11 rfl (uCl zia rfl (zbe (l:=[_,_]) (by simp))) ?_;refine gz2 ?_;refine uCo (fun h15=> ?_) fun h16=> ?_
 refine gz4 ?_;refine uRp ?_
 try rw [hE]
 (refine congrArg _ (zA (e:=7) ?_ hg ?_ ?_)
  omega
  unfold zce;exact uT
  first|decide|assumption)
 refine zoW ?_;refine uCo (fun h17=> ?_) fun h18=> ?_
 refine gz4 ?_;refine uRp ?_
 try rw [hE]
 (refine congrArg _ (zA (e:=13) ?_ hg ?_ ?_)
  omega
  unfold zce;exact uT
  first|decide|assumption)
 refine gz7 ?_;refine ⟨k+1,?_,?_,⟨rfl,trivial⟩,uK,Ac _⟩
 refine ⟨by omega,?_⟩
 rw [hg,zaZ (by unfold zce;(try clear hdx hg);(try simp only [Ag]);focus first|(simp_all;done)|((repeat' split)<;>focus first|rfl|(exfalso;omega)|(simp_all;done)|(exfalso;rcases ‹_\/_› with q|q<;>simp_all;done)|(exfalso;simp_all;omega)))]
 dsimp only;omega
 have hnk:l.length<=k:=by omega
 obtain rfl:k=l.length:=by omega
 rw [zC (Ae _)] at hg;refine gz2 ?_;refine zu ?_;refine gz6 ?_;refine uRp ?_
 try rw [hE]
 (refine congrArg _ (zbB ?_ hg)
  omega)
theorem zjd [Tracks] {l:List RuleS} (hl:l.length<=1000000) (hb: ∀x∈l,((-1000000000<=x.Num/\x.Num<=1000000000)/\ -1000000000<=x.Den/\x.Den<=1000000000)):ConP prog 182 [zgp l] (.int .i64 (zg5 l)):=by
 refine uOb func182 ntmps182 ?_;refine gz9 ?_;refine uCo (fun h1=> ?_) fun h2=> ?_
 refine gz4 ?_;refine uRp ?_
 (refine congrArg _ (zbN ?_)
  omega)
 refine gz9 ?_;refine uT1 [2,5,12,75] (fun k=>[(12,.int .i64 k)]) (fun k=>[]) (fun k=>k<=l.length/\(za1 zef zlC l 0 l=za1 zef zlC l k (l.drop k))) (fun k=>l.length-k) (0) ?_ ?_;exact ⟨Ad _,rfl⟩;rintro k ⟨hk,hg⟩;refine gz4 ?_;refine uCo (fun h3=> ?_) fun h4=> ?_
 obtain ⟨x,hx⟩: ∃x,l[k]? =some x:=⟨_,Aa h3⟩
 have hdx:=zg hx;rw [hdx] at hg;refine gz8 ?_;refine de rfl (zj zgV rfl fun b4=> ?_)
 refine gz1 ?_;refine de0 (zn zgV rfl rfl rfl rfl rfl ?_)
 refine gz1 ?_;refine ze (zo 4 rfl) ?_;refine gz5 ?_;refine dq (uCl zbK rfl zak) ?_;refine gz4 ?_;refine uGr rfl (fun hc=>uCl zbK rfl zak) ?_;refine gz9 ?_;refine uGr rfl (fun hc=>uCl zbK rfl zak) ?_;refine gz5 ?_;refine uCo (fun h5=> ?_) fun h6=> ?_
 refine gz4 ?_;refine uRp ?_
 (refine congrArg _ (zA (e:=5) ?_ hg ?_ ?_)
  omega
  unfold zef;exact uT
  first|decide|assumption)
 refine uDr mixed ?_;refine gz8 ?_;refine uGy 8 rfl rfl (fun hc=>by have hq:=hc;(try simp at hq);exact zB (j:=k-1) (a:=l.getD (k-1) zlC) zpl zgV rfl rfl uO (getD_some uO)) ?_;refine gz6 ?_;refine uCo (fun h7=> ?_) fun h8=> ?_
 refine gz4 ?_;refine uRp ?_
 (refine congrArg _ (zA (e:=7) ?_ hg ?_ ?_)
  omega
  unfold zef;exact uT
  first|decide|assumption)
 refine gz3 ?_;refine dq (uCl zct rfl zai) ?_;refine gz2 ?_;refine uCo (fun h9=> ?_) fun h10=> ?_
 refine gz4 ?_;refine uRp ?_
 (refine congrArg _ (zA (e:=4) ?_ hg ?_ ?_)
  omega
  unfold zef;exact uT
  first|decide|assumption)
 refine zc9 ?_;refine dq (zY (h':= .bool (zrv x.Kind)) (zjX rfl) rfl) ?_;refine gz7 ?_;refine uGr rfl (fun hc=>uCl zct rfl zai) ?_;refine zco ?_;refine uCo (fun h11=> ?_) fun h12=> ?_
 refine gz4 ?_;refine uRp ?_
 (refine congrArg _ (zA (e:=1) ?_ hg ?_ ?_)
  omega
  unfold zef;exact uT
  first|decide|assumption)
 refine gz4 ?_;refine dq (zY (h':= .agg [.int .i64 x.Num,.int .i64 x.Den]) (zaF zaj rfl rfl (Ak rfl)) rfl) ?_;refine dq (uCl zxK rfl (zjp (n:=x.Num) (d:=x.Den) (most:=10000) (hb x (Ab hx)).1 (hb x (Ab hx)).2 uO)) ?_;refine gz6 ?_;refine uCo (fun h13=> ?_) fun h14=> ?_
 refine gz5 ?_;refine uRp ?_
 (refine congrArg _ (zA (e:=(zbA x.Num x.Den 10000)) ?_ hg ?_ ?_)
  omega
  unfold zef;exact uT
  first|decide|assumption)
 refine gz7 ?_;refine ⟨k+1,?_,?_,⟨rfl,trivial⟩,uK,Ac _⟩
 refine ⟨by omega,?_⟩
 rw [hg,zaZ (by unfold zef;(try clear hdx hg);(try simp only [Ag]);focus first|(simp_all;done)|((repeat' split)<;>focus first|rfl|(exfalso;omega)|(simp_all;done)|(exfalso;rcases ‹_\/_› with q|q<;>simp_all;done)|(exfalso;simp_all;omega)))]
 dsimp only;omega
 have hnk:l.length<=k:=by omega
 obtain rfl:k=l.length:=by omega
 rw [zC (Ae _)] at hg;refine gz2 ?_;refine zu ?_;refine gz6 ?_;refine uRp ?_
 (refine congrArg _ (zbB ?_ hg)
  omega)
theorem zgk [Tracks] {l:List SlotS} {fid:FuncId} {caps:List HVal} {p:SlotS->Bool} (hca:Callable prog fid) (hp: ∀x,ConP prog fid ([zbZ x]++caps) (.bool (p x))) (hl:l.length<=1000000):ConP prog 241 [.slice 2 (l.map zbZ),.fn (.func fid) [] caps] (.int .i64 (zW p l 0)):=by
 refine uOb func241 ntmps241 ?_;refine zay ?_;refine uT1 [4,2,8,11] (fun k=>[(8,.int .i64 k)]) (fun k=>[]) (fun k=>k<=l.length/\(zW p l 0=zW p (l.drop k) k)) (fun k=>l.length-k) (0) ?_ ?_;exact ⟨Ad _,rfl⟩;rintro k ⟨hk,hg⟩;refine gz4 ?_;refine uCo (fun h1=> ?_) fun h2=> ?_
 obtain ⟨x,hx⟩: ∃x,l[k]? =some x:=⟨_,Aa h1⟩
 have hdx:=zg hx;rw [hdx] at hg;refine zda ?_;refine dq (zag hca rfl rfl (WeakL.refl _) (hp _)) ?_;refine gz1 ?_;refine uCo (fun h3=> ?_) fun h4=> ?_
 refine gz5 ?_;refine uRp ?_
 (rw [hg];simp_all [zW])
 refine gz7 ?_;refine ⟨k+1,?_,?_,⟨rfl,trivial⟩,uK,Ac _⟩
 refine ⟨by omega,?_⟩
 rw [hg,zW,if_neg uSa];rfl
 dsimp only;omega
 have hnk:l.length<=k:=by omega
 obtain rfl:k=l.length:=by omega
 rw [zC (Ae _)] at hg;refine gz2 ?_;refine zu ?_;refine gz6 ?_;refine uRp ?_
 (rw [hg];rfl)
theorem zcV [Tracks] {l:List SlotS} {fid:FuncId} {caps:List HVal} {p:SlotS->Bool} (hca:Callable prog fid) (hp: ∀x,ConP prog fid ([zbZ x]++caps) (.bool (p x))) (hl:l.length<=1000000):ConP prog 167 [.slice 2 (l.map zbZ),.fn (.func fid) [] caps] (.bool (l.any p)):=by
 refine uOb func167 ntmps167 ?_;refine gz6 ?_;refine dq (uCl zFX rfl (zgk hca hp hl)) ?_;refine gz4 ?_;refine zt rfl ?_
 congr 1;exact zcH p l 0 uO
theorem zm4 [Tracks] {y x:SlotS}:ConP prog 250 [zbZ y,.vptr (zb (zbZ x)) 0] (.bool (y.Key==x.Key)):=by
 refine uOb func250 ntmps250 ?_;refine zdy ?_;refine zt rfl ?_
 rfl
theorem zje [Tracks] {l:List SlotS} (hl:l.length<=1000000) (hp: ∀x∈l,x.Positions.length<=1000000):ConP prog 183 [ze8 l] (.int .i64 (zdK l)):=by
 refine uOb func183 ntmps183 ?_;refine zco ?_;refine uCo (fun h1=> ?_) fun h2=> ?_
 ·refine gz4 ?_;refine uRp ?_
  (unfold zdK;simp_all;done)
 ·refine gz6 ?_;refine uCo (fun h3=> ?_) fun h4=> ?_
  ·refine gz4 ?_;refine uRp ?_
   (rw [zdK,if_neg (by first|omega|simp_all),if_pos uO];done)
  ·refine zay ?_;refine uT1 [2,4,16,23] (fun k=>[(16,.int .i64 k)]) (fun k=>[]) (fun k=>k<=l.length/\(zcQ l 0 l=zcQ l k (l.drop k))) (fun k=>l.length-k) (0) ?_ ?_
   ·exact ⟨Ad _,rfl⟩
   ·rintro k ⟨hk,hg⟩;refine gz4 ?_;refine uCo (fun h5=> ?_) fun h6=> ?_
    ·obtain ⟨x,hx⟩: ∃x,l[k]? =some x:=⟨_,Aa h5⟩
     have hdx:=zg hx;rw [hdx] at hg;refine gz8 ?_;refine de rfl (zj zdM rfl fun b4=> ?_)
     refine gz1 ?_;refine de0 (zn zdM rfl rfl rfl rfl rfl ?_)
     refine gz1 ?_;refine ze (zo 4 rfl) ?_;refine gz5 ?_;refine dq (uCl zbK rfl zak) ?_;refine gz3 ?_;refine uCo (fun h7=> ?_) fun h8=> ?_
     ·refine gz4 ?_;refine uRp ?_
      (refine congrArg _ (ziO (e:=5) ?_ ?_ hg ?_)
       ·first|omega|simp_all
       ·omega
       ·rw [zcQ]
        simp_all
        done)
     ·refine gz3 ?_;refine dq (zaK zf0 zdM rfl rfl ⟨_,_,rfl,rfl⟩ uO uO) ?_;refine gz1 ?_;refine dq (uCl zBM rfl (zcV (l:=l.take k) (p:=fun y=>y.Key==x.Key) zF4 (fun _=>zm4) (by rw [Am];omega))) ?_;refine gz2 ?_;refine uCo (fun h9=> ?_) fun h10=> ?_
      ·refine gz4 ?_;refine uRp ?_
       (refine congrArg _ (ziO (e:=6) ?_ ?_ hg ?_)
        ·first|omega|simp_all
        ·omega
        ·rw [zcQ]
         simp_all
         done)
      ·refine gz6 ?_;refine dq (uCl zxF rfl (zhq (hp x (Ab hx)))) ?_;refine gz6 ?_;refine uCo (fun h11=> ?_) fun h12=> ?_
       ·refine gz5 ?_;refine uRp ?_
        (refine congrArg _ (ziO (e:=(zdq x.Positions)) ?_ ?_ hg ?_)
         ·first|omega|simp_all
         ·omega
         ·rw [zcQ]
          simp_all
          done)
       ·refine gz7 ?_;refine ⟨k+1,?_,?_,⟨rfl,trivial⟩,uK,Ac _⟩
        ·refine ⟨by omega,?_⟩
         rw [hg,zcQ,if_neg uSa,if_neg uSa,if_neg uSa]
        ·dsimp only;omega
    ·have hnk:l.length<=k:=by omega
     obtain rfl:k=l.length:=by omega
     rw [zC (Ae _)] at hg;refine gz2 ?_;refine zu ?_;refine gz6 ?_;refine uRp ?_
     (refine congrArg _ (zvT ?_ ?_ hg)<;>first|omega|simp_all)
theorem zh3 [Tracks] {b:BoundS}:ConP prog 184 [zgo b] (.int .i64 (zdZ b)):=by
 refine uOb func184 ntmps184 ?_;refine gz8 ?_;refine dq (uCl zct rfl zai) ?_;refine gz3 ?_;refine uGr rfl (fun hc=>uCl zct rfl zai) ?_;refine gz4 ?_;refine uGr rfl (fun hc=>uCl zct rfl zai) ?_;refine gz4 ?_;refine uGr rfl (fun hc=>uCl zct rfl zai) ?_;refine gz2 ?_;refine uCo (fun h1=> ?_) fun h2=> ?_
 refine gz4 ?_;refine uRp ?_;unfold zdZ
 (rw [if_pos uSa])
 refine gz6 ?_;refine uRp ?_;unfold zdZ
 (rw [if_neg uSa])
theorem zpT [Tracks] {a b:MoveS}:ConP prog 187 [zdu a,zdu b] (.int .i64 (zhh a b)):=by
 refine uOb func187 ntmps187 ?_;refine gz5 ?_;refine uDr mixed ?_;refine gz4 ?_;refine uB 4 rfl (uCl zd4 rfl zU) ?_;refine gz4 ?_;refine uB 9 rfl (uCl zc3 rfl zN) ?_;refine gz4 ?_;refine uB 14 rfl (uCl zc3 rfl zN) ?_;refine gz4 ?_;refine uB 19 rfl (uCl zd4 rfl zU) ?_;refine uB 20 rfl (za (hs:=[_,_,_,_]) zX ty3 rfl rfl (by decide) (by decide) rfl) ?_;refine uB 21 rfl (uCl zia rfl (zbe (l:=[_,_,_,_]) (by simp))) ?_;refine gz3 ?_;refine zt rfl ?_
 rfl
theorem zix [Tracks] {l:List MoveS} (hl:l.length<=1000000):ConP prog 116 [zcJ l] (.int .i64 (zgv l)):=by
 refine uOb func116 ntmps116 ?_;refine gz9 ?_;refine uCo (fun h1=> ?_) fun h2=> ?_
 refine gz4 ?_;refine uRp ?_
 (refine congrArg _ (zbN ?_)
  omega)
 refine gz9 ?_;refine uT1 [2,3,10,39] (fun k=>[(10,.int .i64 k)]) (fun k=>[]) (fun k=>k<=l.length/\(za1 zeW zjT l 0 l=za1 zeW zjT l k (l.drop k))) (fun k=>l.length-k) (0) ?_ ?_;exact ⟨Ad _,rfl⟩;rintro k ⟨hk,hg⟩;refine gz4 ?_;refine uCo (fun h3=> ?_) fun h4=> ?_
 obtain ⟨x,hx⟩: ∃x,l[k]? =some x:=⟨_,Aa h3⟩
 have hdx:=zg hx;rw [hdx] at hg;refine gz8 ?_;refine de rfl (zj zG rfl fun b4=> ?_)
 refine gz1 ?_;refine de0 (zn zG rfl rfl rfl rfl rfl ?_)
 refine gz1 ?_;refine ze (zo 4 rfl) ?_;refine gz4 ?_;refine dq (uCl zkE rfl zbD) ?_;refine gz3 ?_;refine uCo (fun h5=> ?_) fun h6=> ?_
 refine gz4 ?_;refine uRp ?_
 (refine congrArg _ (zA (e:=1) ?_ hg ?_ ?_)
  omega
  unfold zeW;exact uT
  first|decide|assumption)
 refine gz3 ?_;refine dq (uCl zct rfl zai) ?_;refine gz2 ?_;refine uCo (fun h7=> ?_) fun h8=> ?_
 refine gz4 ?_;refine uRp ?_
 (refine congrArg _ (zA (e:=4) ?_ hg ?_ ?_)
  omega
  unfold zeW;exact uT
  first|decide|assumption)
 refine gz3 ?_;refine dq (uCl zbK rfl zak) ?_;refine gz4 ?_;refine uGr rfl (fun hc=>uCl zbK rfl zak) ?_;refine gz4 ?_;refine uCo (fun h9=> ?_) fun h10=> ?_
 refine gz4 ?_;refine uRp ?_
 (refine congrArg _ (zA (e:=5) ?_ hg ?_ ?_)
  omega
  unfold zeW;exact uT
  first|decide|assumption)
 refine uDr mixed ?_;refine gz7 ?_;refine uGy 7 rfl rfl (fun hc=>by have hq:=hc;(try simp at hq);exact zB (j:=k-1) (a:=l.getD (k-1) zjT) zcv zG rfl rfl uO (getD_some uO)) ?_;refine gz1 ?_;refine uGy 9 rfl rfl (fun hc=>uCl zFv rfl zpT) ?_;refine gz4 ?_;refine uCo (fun h11=> ?_) fun h12=> ?_
 refine gz4 ?_;refine uRp ?_
 (refine congrArg _ (zA (e:=7) ?_ hg ?_ ?_)
  omega
  unfold zeW;exact uT
  first|decide|assumption)
 refine gz8 ?_;refine ⟨k+1,?_,?_,⟨rfl,trivial⟩,uK,Ac _⟩
 refine ⟨by omega,?_⟩
 rw [hg,zaZ (by unfold zeW;(try clear hdx hg);(try simp only [Ag]);focus first|(simp_all;done)|((repeat' split)<;>focus first|rfl|(exfalso;omega)|(simp_all;done)|(exfalso;rcases ‹_\/_› with q|q<;>simp_all;done)|(exfalso;simp_all;omega)))]
 dsimp only;omega
 have hnk:l.length<=k:=by omega
 obtain rfl:k=l.length:=by omega
 rw [zC (Ae _)] at hg;refine gz2 ?_;refine zu ?_;refine gz6 ?_;refine uRp ?_
 (refine congrArg _ (zbB ?_ hg)
  omega)
theorem zop [Tracks] {l:List Str} (hl:l.length<=1000000):ConP prog 21 [eSs l] (.int .i64 (zdr l)):=by
 refine uOb func21 ntmps21 ?_;refine zco ?_;refine uCo (fun h1=> ?_) fun h2=> ?_
 refine gz4 ?_;refine uRp ?_
 (rw [zdr,if_pos uO])
 refine gz6 ?_;refine uCo (fun h3=> ?_) fun h4=> ?_
 refine gz4 ?_;refine uRp ?_
 (rw [zdr,if_neg uO,if_pos uO])
 refine gz5 ?_;refine dq (uCl zxJ rfl (zhi (by assumption))) ?_;refine gz3 ?_;refine uRp ?_
 (rw [zdr,if_neg uO,if_neg uO])
theorem zsd [Tracks] {a b:GameS}:ConP prog 25 [zam a,zam b] (.int .i64 (zgG a b)):=by
 refine uOb func25 ntmps25 ?_;refine gz5 ?_;refine uDr mixed ?_;refine gz4 ?_;refine uB 4 rfl (uCl zd4 rfl zU) ?_;refine gz4 ?_;refine uB 9 rfl (uCl zc3 rfl zN) ?_;refine gz4 ?_;refine uB 14 rfl (uCl zc3 rfl zN) ?_;refine uB 15 rfl (za (hs:=[_,_,_]) zX ty3 rfl rfl (by decide) (by decide) rfl) ?_;refine uB 16 rfl (uCl zia rfl (zbe (l:=[_,_,_]) (by simp))) ?_;refine gz3 ?_;refine zt rfl ?_
 rfl
theorem zn0 [Tracks] {x:GameS} (hb:((-1000000000<=x.FNum/\x.FNum<=1000000000)/\ -1000000000<=x.FDen/\x.FDen<=1000000000)/\((-1000000000<=x.ONum/\x.ONum<=1000000000)/\ -1000000000<=x.ODen/\x.ODen<=1000000000)):ConP prog 24 [zam x] (.int .i64 (zgr x)):=by
 refine uOb func24 ntmps24 ?_;refine zay ?_;refine uCo (fun h1=> ?_) fun h2=> ?_
 refine gz3 ?_;refine dq (zY (h':= .agg [.int .i64 x.FNum,.int .i64 x.FDen]) (zaF zaj rfl rfl (Ak rfl)) rfl) ?_;refine dq (zF (cs:=[_,_]) zaj zl8 rfl) ?_;refine dq (zjk zaj zsv rfl rfl ⟨rfl,⟨_,_,_,_,ty3,rfl⟩,⟨rfl,⟨_,_,_,_,ty3,rfl⟩,trivial⟩⟩) ?_;refine gz2 ?_;refine uGr rfl (fun hc=>zY (h':= .agg [.int .i64 x.ONum,.int .i64 x.ODen]) (zaF zaj rfl rfl (Ak rfl)) rfl) ?_;refine uGr rfl (fun hc=>zF (cs:=[_,_]) zaj zl8 rfl) ?_;refine uGr rfl (fun hc=>zjk zaj zsv rfl rfl ⟨rfl,⟨_,_,_,_,ty3,rfl⟩,⟨rfl,⟨_,_,_,_,ty3,rfl⟩,trivial⟩⟩) ?_;refine gz2 ?_;refine uCo (fun h3=> ?_) fun h4=> ?_
 simp [za6,zca,eqH] at h3
 refine gz4 ?_;refine uRp ?_;unfold zgr
 (try clear hdx hg);(try simp only [Ag]);focus first|rfl|(simp_all;done)|((repeat' split)<;>focus first|rfl|(exfalso;omega)|(simp_all;done)|(exfalso;rcases ‹_\/_› with q|q<;>simp_all;done)|(exfalso;simp_all;omega))
 refine gz2 ?_
 simp [za6,zca,eqH] at h4
 refine gz4 ?_;refine uRp ?_;unfold zgr
 (try clear hdx hg);(try simp only [Ag]);focus first|rfl|(simp_all;done)|((repeat' split)<;>focus first|rfl|(exfalso;omega)|(simp_all;done)|(exfalso;rcases ‹_\/_› with q|q<;>simp_all;done)|(exfalso;simp_all;omega))
 refine gz2 ?_;refine uDr mixed ?_;refine gz1 ?_;refine uB 1 rfl (zY (h':= .agg [.int .i64 x.FNum,.int .i64 x.FDen]) (zaF zaj rfl rfl (Ak rfl)) rfl) ?_;refine uB 2 rfl (uCl zxK rfl (zjp (n:=x.FNum) (d:=x.FDen) (most:=1000000) hb.1.1 hb.1.2 uO)) ?_;refine gz1 ?_;refine uB 4 rfl (zY (h':= .agg [.int .i64 x.ONum,.int .i64 x.ODen]) (zaF zaj rfl rfl (Ak rfl)) rfl) ?_;refine uB 5 rfl (uCl zxK rfl (zjp (n:=x.ONum) (d:=x.ODen) (most:=1000000) hb.2.1 hb.2.2 uO)) ?_;refine zc9 ?_;refine uCo (fun h5=> ?_) fun h6=> ?_
 refine gz4 ?_;refine uRp ?_;unfold zgr
 (try clear hdx hg);(try simp only [Ag]);focus first|rfl|(simp_all;done)|((repeat' split)<;>focus first|rfl|(exfalso;omega)|(simp_all;done)|(exfalso;rcases ‹_\/_› with q|q<;>simp_all;done)|(exfalso;simp_all;omega))
 refine gz5 ?_;refine dq (za (hs:=[_,_]) zej zgB rfl rfl (by decide) (by decide) rfl) ?_;refine dq (uCl zkC rfl (zb0 (l:=[_,_]) (by simp))) ?_;refine gz3 ?_;refine uRp ?_;unfold zgr
 (try clear hdx hg);(try simp only [Ag]);focus first|rfl|(simp_all;done)|((repeat' split)<;>focus first|rfl|(exfalso;omega)|(simp_all;done)|(exfalso;rcases ‹_\/_› with q|q<;>simp_all;done)|(exfalso;simp_all;omega))
end
end Go.Proofs.YtnfmbjchkjijpaaGreatDoor
namespace Go.HL
section
open Go Go.Proofs Go.Shelf
variable {P:Program} {ρ:Ren}
theorem zew (b:Nat) (el:TypeId) (fr:Nat×Nat): ∀(vs:List Value) (o:Nat) (w:World) (rc:Array Value),w.heap[b]? =some (.cells rc el fr)->o+vs.length<=rc.size->
 ∃rc',(w.setCells b o vs).heap[b]? =some (.cells rc' el fr)/\rc'.size=rc.size/\(∀x,rc'[x]? =if o<=x/\x<o+vs.length then vs[x-o]? else rc[x]?)/\(∀k,k≠b->(w.setCells b o vs).heap[k]? =w.heap[k]?)/\
  (w.setCells b o vs).heap.size=w.heap.size/\(w.setCells b o vs).os=w.os/\(w.setCells b o vs).output=w.output/\(w.setCells b o vs).tape=w.tape/\(w.setCells b o vs).drawn=w.drawn
 |[],o,w,rc,hw,_=>⟨rc,hw,rfl,fun x=>by rw [if_neg (by simp)],fun _ _=>rfl,rfl,rfl,rfl,rfl,rfl⟩
 |v::vs,o,w,rc,hw,hle=>by
   simp only [Aj] at hle;have zx2:(w.setCell ⟨b,o,none⟩ v).heap[b]? =some (.cells (rc.setIfInBounds o v) el fr):=by simp [World.setCell,AL,hw]
   obtain ⟨rc',h1,h2,h3,h4,h5,h6,h7,h8,h9⟩:=zew b el fr vs (o+1) (w.setCell ⟨b,o,none⟩ v) (rc.setIfInBounds o v) zx2 (by simp;omega);refine ⟨rc',h1,by rw [h2];simp,fun x=> ?_,fun k hk=> ?_,by rw [World.setCells,h5];simp [World.setCell],by rw [World.setCells,h6];rfl,by rw [World.setCells,h7];rfl,by rw [World.setCells,h8];rfl,by rw [World.setCells,h9];rfl⟩
   rw [h3 x];simp only [Aj]
   by_cases e1:x=o
   subst e1;rw [if_neg (by omega),if_pos (by omega),Array.getElem?_setIfInBounds,if_pos rfl,if_pos (by omega)]
   simp
   by_cases e2:o+1<=x/\x<o+1+vs.length
   rw [if_pos e2,if_pos (by omega),show x-o=(x-(o+1))+1 by omega,AQ];rw [if_neg e2,if_neg (by omega),Array.getElem?_setIfInBounds,if_neg (fun h=>e1 h.symm)];rw [World.setCells,h4 k hk];simp only [World.setCell,AL];rw [if_neg (fun h=>hk h.symm)]
theorem zsH {w:World} {o:Obj}:(w.heap.push o)[w.heap.size]? =some o:=by simp
theorem zsI {w:World} {o:Obj} {k:Nat} (hk:k<w.heap.size):(w.heap.push o)[k]? =w.heap[k]?:=by rw [AO,if_neg (by omega)]
def zbF (s:Str):Value:= .string ⟨s.toArray⟩
def zf8 (l:List Str) (i:Nat) (s:Str):List Str:=l.take i++s::l.drop i
theorem zpc {l:List Str} {i:Nat} (hi:i<=l.length) (s:Str) (p:Nat):(zf8 l i s)[p]? =if p<i then l[p]? else if p=i then some s else l[p-1]?:=by
 unfold zf8;have ht:(l.take i).length=i:=by simp;omega
 split
 rename_i h;rw [Au (by omega),AD h]
 rename_i h
 rw [Ap (by omega),ht]
 split
 rename_i e;subst e;simp
 rename_i e
 rw [show p-i=(p-i-1)+1 by omega,AQ,AG,show i+(p-i-1)=p-1 by omega]
theorem zzH {l:List Str} {i:Nat} (hi:i<=l.length) (s:Str):(zf8 l i s).length=l.length+1:=by unfold zf8;simp;omega
theorem ztq {I:Imm} {w:World} {b off n cap:Nat} {rc:Array Value} {el:TypeId} {fr:Nat×Nat} {l:List Str} (hn:n=l.length) (hw:w.heap[b]? =some (.cells rc el fr)) (hf:Free fr rc.size) (hc:n<=cap/\cap<=9223372036854775807) (ho:off+cap<=rc.size)
 (hv: ∀(p:Nat) (x:Str),l[p]? =some x->rc[off+p]? =some (zbF x)):MSat I w (.arr (.slice (some ⟨b,off,none⟩) n cap) 1 (l.map .str)):=by
 refine .inr ⟨b,off,cap,rc,el,fr,by simp [hn],hw,hf,fun e he=> ?_,by simp only [Af];omega,by omega,fun i j e c v a1 a2 a3=> ?_⟩
 obtain ⟨a,_,rfl⟩:=List.mem_map.1 he;rfl;rw [Ah] at a1
 cases hq:l[i]? with
 |none=>rw [hq] at a1;cases a1
 |some s=>
   rw [hq] at a1;obtain rfl:HVal.str s=e:=Ay a1;have hj:j=0:=by have:=zm a2;simp [zb] at this;omega
   subst hj;obtain rfl:HVal.str s=c:=Ay a2;rw [show off+i*1+0=off+i by omega,hv i s hq] at a3;rw [<-Ay a3];exact .str s
theorem zxR [Tracks] (L:Lays2.n22 P ρ) {v:Value} {l:List Str} {s:Str} {i ub:Nat} {el2:TypeId} (hi:i<=l.length) (hl:l.length<=1000000):
 Con P (ρ.f 22) [.raw v,.int .i64 i,.raw (.slice (some ⟨ub,0,none⟩) 1 1)] [.arr v 1 (l.map .str),.obj ub (.cells #[zbF s] el2 (0,0))]
  fun x M'=> ∃v',x= .raw v'/\M'=[.arr v' 1 ((zf8 l i s).map .str),.obj ub (.cells #[zbF s] el2 (0,0))]:=by
 intro I F w args hA hS
 obtain ⟨v1,r1,rfl,hv1,hr1⟩: ∃v1 r1,args=v1::r1/\V I (.raw v) v1/\VL I [.int .i64 i,.raw (.slice (some ⟨ub,0,none⟩) 1 1)] r1:=by
  cases args with
  |nil=>have:=hA.1;simp at this
  |cons a r=>exact ⟨a,r,rfl,hA.head,hA.tail⟩
 obtain ⟨v2,r2,rfl,hv2,hr2⟩: ∃v2 r2,r1=v2::r2/\V I (.int .i64 i) v2/\VL I [.raw (.slice (some ⟨ub,0,none⟩) 1 1)] r2:=by
  cases r1 with
  |nil=>have:=hr1.1;simp at this
  |cons a r=>exact ⟨a,r,rfl,hr1.head,hr1.tail⟩
 obtain ⟨v3,rfl,hv3⟩: ∃v3,r2=[v3]/\V I (.raw (.slice (some ⟨ub,0,none⟩) 1 1)) v3:=by
  cases r2 with
  |nil=>have:=hr2.1;simp at this
  |cons a r=>cases r with
    |nil=>exact ⟨a,rfl,hr2.head⟩
    |cons b r=>have:=hr2.1;simp at this
 have hv1:=hv1.raw_inv;have hv2:=hv2.int_inv;have hv3:=hv3.raw_inv;subst hv1 hv2 hv3;have hu:w.heap[ub]? =some (.cells #[zbF s] el2 (0,0)):=hS.obj (.obj ub _) (by simp);have hvs: ∀(j:Nat) (u:Value),[zbF s][j]? =some u->w.cell? ⟨ub,0+j,none⟩=some u:=fun j u hj=>by
  rw [zcm hu,Bn];simpa using hj
 have h1v: ∀u∈[zbF s],u.oneCell'=true:=fun u h=>by simp at h;subst h;rfl
 have h1c: ∀u∈l.map zbF,u.oneCell'=true:=fun u h=>by obtain ⟨a,_,rfl⟩:=List.mem_map.1 h;rfl
 have hcl:(l.map zbF).length=l.length:=by simp
 have hplen:=zzH hi s
 
 have fresh: ∀(w':World) (rc:Array Value) (el:TypeId) (cap:Nat),w'.heap[w.heap.size]? =some (.cells rc el (0,0))->(l.length+1<=cap/\cap<=9223372036854775807)->cap<=rc.size->
  (∀(p:Nat) (x:Str),(zf8 l i s)[p]? =some x->rc[p]? =some (zbF x))->(∀k,k<w.heap.size->w'.heap[k]? =w.heap[k]?)->w'.os=w.os->w'.output=w.output->w'.tape=w.tape->w.drawn<=w'.drawn->
  Sat P I ([.arr (.slice (some ⟨w.heap.size,0,none⟩) (l.length+1) cap) 1 ((zf8 l i s).map .str),.obj ub (.cells #[zbF s] el2 (0,0))]++F) w':=fun w' rc el cap g1 g2 g3 g4 g5 g6 g7 g8 g9=>
  hS.change (m':= .arr (.slice (some ⟨w.heap.size,0,none⟩) (l.length+1) cap) 1 ((zf8 l i s).map .str)) (fun k hk _=>g5 k hk) (fun k hk=>by simp [MObj.blocks] at hk;exact .inr (by omega)) (by simp [MObj.blocks])
   (ztq hplen.symm g1 (Free.zero _) g2 (by omega) fun p x hx=>by rw [Bn];exact g4 p x hx) g6 g7 g8 (fun _=>g9)
 rcases hS.obj _ (Al) with ⟨rfl,hnil⟩|⟨b,off,cap,rc,el,fr,rfl,h2,h3,h4,h5,h6,h7⟩
 
 obtain rfl:l=[]:=List.map_eq_nil_iff.1 hnil;obtain rfl:i=0:=by simpa using hi
 refine (Any2.slices_Insert_string_end_grow L none 0 0 ub 0 1 1 [] [zbF s] w (by omega) (by omega) (by omega) (by omega) rfl rfl (fun _=>rfl) (fun a h=>by cases h) hvs h1v).mono ?_;rintro e w' ⟨rfl,rfl⟩;have hge:=grownCap_ge w (0+1) 0 (ρ.t 9);have hle:=grownCap_le_maxLen w (0+1) 0 (ρ.t 9) (by unfold maxLen;omega);refine ⟨_,.raw _,_,I,rfl,.refl I,⟨_,rfl,rfl⟩,.raw _ rfl,fresh _ _ _ _ zsH ⟨by simpa using hge,by unfold maxLen at hle;exact hle⟩ ?_ ?_ ?_ rfl rfl rfl (BL _)⟩
 simp [Builtin.zeroCells,Value.cells];omega
 intro p x hx
 have hp:=zm hx;rw [hplen] at hp;obtain rfl:p=0:=by simpa using hp
 simp [zf8] at hx;subst hx
 rw [AH (by simp)];simp
 intro k hk;exact zsI hk
 simp only [Af] at h5 h6⊢;have hlt:b<w.heap.size:=by
  rcases AE b w.heap.size with h|h
  exact h
  simp [Av h] at h2
 have hrow: ∀(j:Nat) (x:Str),l[j]? =some x->rc[off+j]? =some (zbF x):=fun j x hx=>by
  have hj:=zm hx;have hr:off+j<rc.size:=by omega
  have:=h7 j 0 (.str x) (.str x) rc[off+j] (by rw [Ah,hx];rfl) rfl (by simp [As hr]);rw [As hr,this.str_inv];rfl
 have hcs: ∀(j:Nat) (u:Value),(l.map zbF)[j]? =some u->w.cell? ⟨b,off+j,none⟩=some u:=fun j u hj=>by
  rw [Ah] at hj
  cases hq:l[j]? with
  |none=>rw [hq] at hj;cases hj
  |some x=>rw [hq] at hj;rw [zcm h2,hrow j x hq];exact hj
 have hfz: ∀j,off+j<rc.size->w.frozen? ⟨b,off+j,none⟩=false:=fun j hj=>by
  have:=h3 (off+j) hj;simp only [World.frozen?,h2]
  simpa using this
 have hsome: ∀j,off+j<rc.size->(w.cell? ⟨b,off+j,none⟩).isSome=true:=fun j hj=>by rw [zcm h2,As hj];rfl
 have hne:ub≠b:=fun e=>by
  have:=hS.nodup;subst e
  simp [blocks,MObj.blocks] at this
 have inplace: ∀(w':World) (rc':Array Value),w'.heap[b]? =some (.cells rc' el fr)->rc'.size=rc.size->l.length+1<=cap->
  (∀(p:Nat) (x:Str),(zf8 l i s)[p]? =some x->rc'[off+p]? =some (zbF x))->(∀k,k≠b->w'.heap[k]? =w.heap[k]?)->w'.os=w.os->w'.output=w.output->w'.tape=w.tape->w.drawn<=w'.drawn->
  Sat P I ([.arr (.slice (some ⟨b,off,none⟩) (l.length+1) cap) 1 ((zf8 l i s).map .str),.obj ub (.cells #[zbF s] el2 (0,0))]++F) w':=fun w' rc' g1 g2 g3 g4 g5 g6 g7 g8 g9=>
  hS.change (m':= .arr (.slice (some ⟨b,off,none⟩) (l.length+1) cap) 1 ((zf8 l i s).map .str)) (fun k _ hk=>g5 k (by simpa [MObj.blocks] using hk)) (fun k hk=> .inl (by simpa [MObj.blocks] using hk)) (by simp [MObj.blocks])
   (ztq hplen.symm g1 (by rw [g2];exact h3) ⟨g3,h5.2⟩ (by omega) g4) g6 g7 g8 (fun _=>g9)
 rcases AE i l.length with hin|hin
 rcases AE cap (l.length+1) with hroom|hroom
 
 refine (Any2.slices_Insert_string_grow L b off l.length cap i ub 0 1 1 (l.map zbF) [zbF s] w hin (by omega) h5.1 hroom (by omega) hcl rfl hcs hvs h1c h1v).mono ?_;rintro e w' ⟨rfl,rfl⟩;have hge:=grownCap_ge w (l.length+1) cap (ρ.t 9);have hle:=grownCap_le_maxLen w (l.length+1) cap (ρ.t 9) (by unfold maxLen;omega)
 generalize hG:grownCap w (l.length+1) cap (ρ.t 9)=G at*
 let r0:Array Value:=((l.map zbF).take i).toArray++Builtin.zeroCells (Value.string ⟨#[]⟩).cells (l.length+1-i)++Builtin.zeroCells (Value.string ⟨#[]⟩).cells (G-(l.length+1))
 have hz: ∀k,(Builtin.zeroCells (Value.string ⟨#[]⟩).cells k).size=k:=fun k=>by simp [Builtin.zeroCells,Value.cells]
 have hr0:r0.size=G:=by simp only [r0,Array.size_append,hz];simp;omega
 have ha:(w.alloc (.cells r0 (ρ.t 9))).drew.heap[w.heap.size]? =some (.cells r0 (ρ.t 9) (0,0)):=zsH;obtain ⟨r1,a1,a2,a3,a4,a5,a6,a7,a8,a9⟩:=zew w.heap.size (ρ.t 9) (0,0) [zbF s] i (w.alloc (.cells r0 (ρ.t 9))).drew r0 ha (by simp only [Aj,AA];omega);obtain ⟨r2,b1,b2,b3,b4,b5,b6,b7,b8,b9⟩:=zew w.heap.size (ρ.t 9) (0,0) ((l.map zbF).drop i) (i+1) ((w.alloc (.cells r0 (ρ.t 9))).drew.setCells w.heap.size i [zbF s]).drew r1 a1 (by simp;omega);refine ⟨_,.raw _,_,I,rfl,.refl I,⟨_,rfl,rfl⟩,.raw _ rfl,fresh _ r2 _ _ b1 ⟨hge,by unfold maxLen at hle;exact hle⟩ (by omega) (fun p x hx=> ?_) (fun k hk=> ?_) (b6.trans a6) (b7.trans a7) (b8.trans a8) (by rw [b9];exact Ar (Bv a9.symm|>fun h=>Ar (BL _) h) (BL _))⟩
 rw [b3,a3];rw [zpc hi] at hx;simp only [A5,Af,Aj,AA]
 split at hx
 rename_i q
 rw [if_neg (by omega),if_neg (by omega)];have hq:p<((l.map zbF).take i).toArray.size:=by simp;omega
 simp only [r0];rw [Array.append_assoc,AH hq]
 simp [q,hx]
 split at hx
 rename_i q;subst q
 rw [if_neg (by omega),if_pos (by omega)]
 cases hx;simp
 rename_i q1 q2
 have hp:=zm hx;rw [if_pos (by omega),AG,show i+(p-(i+1))=p-1 by omega,Ah,hx];rfl;rw [b4 k (by omega)];exact (a4 k (by omega)).trans (zsI hk)
 
 refine (Any2.slices_Insert_string_shift L b off l.length cap i ub 0 1 1 (l.map zbF) [zbF s] w hin (by omega) hroom h5.2 hne hcl rfl hcs (fun j hj=>hsome j (by omega)) (fun j hj=>hfz j (by omega)) hvs h1c h1v el2 el 1 rc.size (by simp [World.shape?,hu]) (by simp [World.shape?,h2]) (by omega) (by simp [World.frozen?,hu]) (by simp [World.frozen?,hu])).mono ?_;rintro e w' ⟨rfl,rfl⟩;obtain ⟨r1,a1,a2,a3,a4,a5,a6,a7,a8,a9⟩:=zew b el fr ((l.map zbF).drop i) (off+(i+1)) w.drew rc h2 (by simp;omega);obtain ⟨r2,b1,b2,b3,b4,b5,b6,b7,b8,b9⟩:=zew b el fr [zbF s] (off+i) _ r1 a1 (by simp;omega);refine ⟨_,.raw _,_,I,rfl,.refl I,⟨_,rfl,rfl⟩,.raw _ rfl,inplace _ r2 b1 (b2.trans a2) hroom (fun p x hx=> ?_) (fun k hk=>(b4 k hk).trans (a4 k hk)) (b6.trans a6) (b7.trans a7) (b8.trans a8) (by rw [b9,a9];exact BL _)⟩
 rw [b3,a3];rw [zpc hi] at hx;simp only [A5,Af,Aj,AA]
 split at hx
 rw [if_neg (by omega),if_neg (by omega)];exact hrow p x hx
 split at hx
 rename_i q;subst q
 rw [if_pos (by omega)]
 cases hx;simp
 have hp:=zm hx;rw [if_neg (by omega),if_pos (by omega),AG,show i+(off+p-(off+(i+1)))=p-1 by omega,Ah,hx];rfl;obtain rfl:i=l.length:=by omega
 have hput: ∀(p:Nat) (x:Str),(zf8 l l.length s)[p]? =some x->(p<l.length/\l[p]? =some x)\/p=l.length/\x=s:=fun p x hx=>by
  rw [zpc hi] at hx
  split at hx
  rename_i q;exact .inl ⟨q,hx⟩
  split at hx
  rename_i q;exact .inr ⟨q,(Ay hx).symm⟩
  have:=zm hx;omega
 rcases AE cap (l.length+1) with hroom|hroom
 
 refine (Any2.slices_Insert_string_end_grow L (some ⟨b,off,none⟩) l.length cap ub 0 1 1 (l.map zbF) [zbF s] w (by omega) h5.1 hroom (by omega) hcl rfl (fun h=>by cases h) (fun a h j u hj=>by cases h;rw [Addr.add_lit];exact hcs j u hj) hvs h1v).mono ?_;rintro e w' ⟨rfl,rfl⟩;have hge:=grownCap_ge w (l.length+1) cap (ρ.t 9);have hle:=grownCap_le_maxLen w (l.length+1) cap (ρ.t 9) (by unfold maxLen;omega);have hz: ∀k,(Builtin.zeroCells (Value.string ⟨#[]⟩).cells k).size=k:=fun k=>by simp [Builtin.zeroCells,Value.cells]
 refine ⟨_,.raw _,_,I,rfl,.refl I,⟨_,rfl,rfl⟩,.raw _ rfl,fresh _ _ _ _ zsH ⟨hge,by unfold maxLen at hle;exact hle⟩ ?_ ?_ ?_ rfl rfl rfl (BL _)⟩
 rw [Array.size_append,hz];simp;omega
 intro p x hx
 rw [AH (by simp;rcases hput p x hx with ⟨q,_⟩|⟨q,_⟩<;>omega)]
 rcases hput p x hx with ⟨q,hx⟩|⟨rfl,rfl⟩
 simp only [Bg];rw [Au (by simpa using q),Ah,hx];rfl;simp only [Bg];rw [Ap (by simp)];simp
 intro k hk;exact zsI hk
 
 refine (Any2.slices_Insert_string_end_room L b off l.length cap ub 0 1 1 [zbF s] w (by omega) hroom h5.2 rfl (fun j hj=>by rw [A7];exact hsome _ (by omega)) (fun j hj=>by rw [A7];exact hfz _ (by omega)) hvs h1v).mono ?_;rintro e w' ⟨rfl,rfl⟩;obtain ⟨r1,a1,a2,a3,a4,a5,a6,a7,a8,a9⟩:=zew b el fr [zbF s] (off+l.length) w rc h2 (by simp;omega);refine ⟨_,.raw _,_,I,rfl,.refl I,⟨_,rfl,rfl⟩,.raw _ rfl,inplace _ r1 a1 a2 hroom (fun p x hx=> ?_) a4 a6 a7 a8 (by rw [a9];exact Ae _)⟩
 rw [a3]
 rcases hput p x hx with ⟨q,hx⟩|⟨rfl,rfl⟩
 rw [if_neg (by omega)];exact hrow p x hx;rw [if_pos (by simp)];simp
end
section
variable {P:Program}
end
section
open Op
theorem zjh (x y:MoveS):zca [.int .i64 x.At,.int .i64 x.Kind,.str x.Team,.str x.Player] [.int .i64 y.At,.int .i64 y.Kind,.str y.Team,.str y.Player]=true↔x=y:=by
 obtain ⟨a1,a2,a3,a4⟩:=x;obtain ⟨b1,b2,b3,b4⟩:=y
 show (_&&(_&&(_&&(_&&true))))=true↔_
 simp [eqH]
instance decMoveS:DecidableEq MoveS:=fun x y=>decidable_of_iff _ (zjh x y)
theorem zln:Cmp zhh fun _=>True:=by
 have h:=zdU (zfN MoveS.At) (zdU (zgK MoveS.Team) (zdU (zgK MoveS.Player) (zfN MoveS.Kind)));have e:zhh=fun a b=>if zab a.At b.At≠0 then zab a.At b.At else if zZ a.Team b.Team≠0 then zZ a.Team b.Team else if zZ a.Player b.Player≠0 then zZ a.Player b.Player else zab a.Kind b.Kind:=by
  funext a b;unfold zhh;rw [zfx,zfx,zeo]
 rw [e];exact h
theorem zsY:Cmp zll fun _=>True:=by
 have h:=zdU (zgK ChoiceS.Team) (zdU (zfN ChoiceS.Week) (zfN ChoiceS.At));have e:zll=fun a b=>if zZ a.Team b.Team≠0 then zZ a.Team b.Team else if zab a.Week b.Week≠0 then zab a.Week b.Week else zab a.At b.At:=by
  funext a b;unfold zll;rw [zfx,zeo]
 rw [e];exact h
theorem zlm:Cmp zgG fun _=>True:=by
 have h:=zdU (zfN GameS.Week) (zdU (zgK GameS.Home) (zgK GameS.Away));have e:zgG=fun a b=>if zab a.Week b.Week≠0 then zab a.Week b.Week else if zZ a.Home b.Home≠0 then zZ a.Home b.Home else zZ a.Away b.Away:=by
  funext a b;unfold zgG;rw [zfx,zeo]
 rw [e];exact h
end
section
open Op
def zij (s l:Str):Bool:=s.all fun c=>decide (0<=Lib.indexByte l c)
theorem zy0 (c:UInt8):decide (0<=Lib.indexByte zhk c)=zhn c:=by
 have:=zuP (p:=fun c=>decide (0<=Lib.indexByte zhk c)==zhn c) (by kernel_rfl) c
 simpa using this
theorem zAH (s:Str):key s=((!(out s.length 1 40)&&zij (s.take 1) zkc)&&zij s zhk):=by
 unfold zij;have:(fun c=>decide (0<=Lib.indexByte zhk c))=zhn:=funext zy0;rw [this];unfold key zjP
 cases s with
 |nil=>simp [out]
 |cons x r=>
   simp only [Cd,B6,Ca,List.all_nil,Bool.and_true,List.headD_cons];rw [zrU];have h1:(!(out ((x::r).length:Int) 1 40))=decide ((x::r).length<=40):=by
    simp only [out,Aj];rw [AF];simp;omega
   rw [h1];have h2:((x::r) !=[])=true:=rfl;rw [h2];have hb: ∀a c d b:Bool,(true&&a&&c&&d&&b)=(a&&(c&&d)&&b):=by decide
   exact hb _ _ _ _
theorem zsG (l:List Str):zdq l=if l.length=0 then 8 else if 10<l.length then 2 else zdV l:=rfl
def zpx {α:Type} (f:α->Str) (d:α) (l:List α) (k:Nat):Str:=if k=0 then [] else f (l.getD (k-1) d)
theorem zwS {α:Type} {f:α->Str} {d:α} {l:List α} {k:Nat} {x:α} (hx:key (f x)=true):(leB (f x) (zpx f d l k)=true)↔(0<k/\leB (f x) (f (l.getD (k-1) d))=true):=by
 unfold zpx
 by_cases h:k=0
 subst h;rw [if_pos rfl,zC8 hx];simp;rw [if_neg h]
 constructor
 intro q;exact ⟨by omega,q⟩
 intro q;exact q.2
theorem zth {α:Type} {f:α->Str} {d:α} {l:List α} {k:Nat} {x:α} (hx:l[k]? =some x):zpx f d l (k+1)=f x:=by
 unfold zpx;rw [if_neg (by omega),Nat.add_sub_cancel,Ag,hx];rfl
theorem zhF {a b:Int}:zny (a-b)=zab a b:=zBn
theorem zmP {a b:MoveS}:zhh a b=if a.At≠b.At then zab a.At b.At else if a.Team≠b.Team then zZ a.Team b.Team else if a.Player≠b.Player then zZ a.Player b.Player else zab a.Kind b.Kind:=by
 unfold zhh;rw [zfx,zfx,zeo];have e1:zab a.At b.At≠0↔a.At≠b.At:=not_congr zcW;have e2:zZ a.Team b.Team≠0↔a.Team≠b.Team:=not_congr zbs;have e3:zZ a.Player b.Player≠0↔a.Player≠b.Player:=not_congr zbs;simp only [e1,e2,e3]
theorem zqi {a b:GameS}:zgG a b=if a.Week≠b.Week then zab a.Week b.Week else if a.Home≠b.Home then zZ a.Home b.Home else zZ a.Away b.Away:=by
 unfold zgG;rw [zfx,zeo];have e1:zab a.Week b.Week≠0↔a.Week≠b.Week:=not_congr zcW;have e2:zZ a.Home b.Home≠0↔a.Home≠b.Home:=not_congr zbs;simp only [e1,e2]
theorem zAT {x p:MoveS}:(0<=zhh p x)↔zhh x p<=0:=by
 have f1:=zln.flip p x trivial trivial;have f2:=zln.flip x p trivial trivial
 omega
theorem zAu {x p:GameS}:(0<=zgG p x)↔zgG x p<=0:=by
 have f1:=zlm.flip p x trivial trivial;have f2:=zlm.flip x p trivial trivial
 omega
theorem zAh {x p:ChoiceS}:(0<=zll p x)↔zll x p<=0:=by
 have f1:=zsY.flip p x trivial trivial;have f2:=zsY.flip x p trivial trivial
 omega
def zpk (a b:Int):List Int->Int
 |[]=>0
 |e::r=>if a=e\/b=e then e else zpk a b r
def zBs (a b:Int):Int:=zpk a b [3,1]
theorem zuQ {n d m:Int}:zbA n d m=0\/zbA n d m=1\/zbA n d m=3:=by
 unfold zbA;split
 omega
 split<;>omega
theorem zAs {x:GameS} (h:x.Played=true):zgr x=zBs (zbA x.FNum x.FDen 1000000) (zbA x.ONum x.ODen 1000000):=by
 unfold zgr zBs;rw [if_neg (by rw [h];simp),zpk,zpk,zpk];have h1:=zuQ (n:=x.FNum) (d:=x.FDen) (m:=1000000);have h2:=zuQ (n:=x.ONum) (d:=x.ODen) (m:=1000000)
 split
 rfl
 rename_i h3
 rw [zeo]
 (repeat' split)<;>omega
theorem zBp {a b:Int}:Nat.gcd b.natAbs (a.tmod b).natAbs=Nat.gcd a.natAbs b.natAbs:=by
 rw [Int.natAbs_tmod];exact zoS
theorem zv1 {a b:Int} (hb:b≠0): -b.natAbs<a.tmod b/\a.tmod b<b.natAbs/\(a.tmod b).natAbs<b.natAbs:=by
 have h:=BW a.natAbs (show 0<b.natAbs by omega);rw [<-Int.natAbs_tmod] at h
 omega
theorem zEo {l:Str} {x:UInt8} {r:Str} (h:Lib.indexByte l x<0):zij (x::r) l=false:=by
 unfold zij;rw [Ca];have:decide (0<=Lib.indexByte l x)=false:=by simpa using h
 rw [this];rfl
theorem zEp {l:Str} {x:UInt8} {r:Str} (h:0<=Lib.indexByte l x):zij (x::r) l=zij r l:=by
 unfold zij;rw [Ca];have:decide (0<=Lib.indexByte l x)=true:=by simpa using h
 rw [this];rfl
theorem pts3 {n d:Int} (h:d<1\/¬((Nat.gcd n.natAbs d.natAbs:Nat):Int)=1):d<1\/znm n d=false:=by
 rcases h with h|h
 exact .inl h;refine .inr ?_;unfold znm;rw [beq_eq_false_iff_ne]
 intro e;rw [e] at h;exact h rfl
theorem pts0 {n d:Int} (h:((Nat.gcd n.natAbs d.natAbs:Nat):Int)=1):znm n d=true:=by
 unfold znm;rw [beq_iff_eq];omega
theorem pts1 {n d m:Int} (h:(¬Int.tmod 100 d=0\/n< -m*d)\/m*d<n):Int.tmod 100 d≠0\/out n (-m*d) (m*d)=true:=by
 have e: -m*d= -(m*d):=Bs _ _;rw [e] at h⊢
 rcases h with (h|h)|h
 exact .inl h;refine .inr ?_;simp [out];omega
 refine .inr ?_;simp [out];omega
theorem pts2 {n d m:Int} (h:(Int.tmod 100 d=0/\ -m*d<=n)/\n<=m*d): ¬(Int.tmod 100 d≠0\/out n (-m*d) (m*d)=true):=by
 have e: -m*d= -(m*d):=Bs _ _;rw [e] at h⊢;obtain ⟨⟨h1,h2⟩,h3⟩:=h;rintro (q|q);exact q h1
 simp [out] at q;omega
theorem zAB {f t:Int} (h:out f 1 (t-1)=true\/61<t):out t 2 61=true\/out f 1 (t-1)=true:=by
 rcases h with h|h
 exact .inr h;refine .inl ?_;simp [out];omega
theorem zAA {f t:Int} (h:out f 1 (t-1)=false/\t<=61): ¬(out t 2 61=true\/out f 1 (t-1)=true):=by
 rintro (q|q);have h1:=h.1
 simp [out] at q h1;omega
 rw [h.1] at q;cases q
theorem zEb {k:Int} (h: ¬k=1/\¬k=2):out k 1 2=true:=by simp [out];omega
theorem zEa {k:Int} (h: ¬k=1->k=2):out k 1 2=false:=by simp [out];omega
structure MovB (x:MoveS):Prop where
 at': -1000000000000000<=x.At/\x.At<=1000000000000000
 kind: -1000000000000000<=x.Kind/\x.Kind<=1000000000000000
structure GamB (x:GameS):Prop where
 week: -1000000000000000<=x.Week/\x.Week<=1000000000000000
 fr:(-1000000000<=x.FNum/\x.FNum<=1000000000)/\ -1000000000<=x.FDen/\x.FDen<=1000000000
 ot:(-1000000000<=x.ONum/\x.ONum<=1000000000)/\ -1000000000<=x.ODen/\x.ODen<=1000000000
end
section

end
section
def zqj (a b:Of2):Int:=orI [zZ a.1 b.1,zZ a.2 b.2]
theorem zCB (a b:Of2):zqj a b=if zZ a.1 b.1≠0 then zZ a.1 b.1 else zZ a.2 b.2:=by unfold zqj;rw [zeo]
theorem zyT (a b:Of2):zqj a b= -zqj b a:=by
 unfold zqj;rw [zfk a.1,zfk a.2,zvw]
theorem zz9:Cmp zqj (fun _=>True) where
 flip x y _ _:=by rw [zyT x y];omega
 trans x y z _ _ _ h1 h2:=by
  rw [zCB] at*;have k1:zZ x.1 y.1<=0:=by split at h1<;>omega
  have k2:zZ y.1 z.1<=0:=by split at h2<;>omega
  have k3:=zjO k1 k2
  split
  exact k3
  rename_i hz
  have hz':zZ x.1 z.1=0:=by simpa using hz
  obtain ⟨e1,e2⟩:=zt2 k1 k2 hz';rw [if_neg (by simp [e1])] at h1;rw [if_neg (by simp [e2])] at h2;exact zjO h1 h2
def OLt (a b:Of2):Prop:=zqj a b<0
structure DisS where
 S:List Str
 c:List ((Str×Of2)×Int)
def zu6 (p:Play):Str×Of2:=(p.Source,(p.Player,p.Stat))
def zDW (q:DisS) (p:Play):List ((Str×Of2)×Int):=zz (zu6 p) ((alk (zu6 p) q.c).getD 0+p.Count) q.c
end
section
section
variable {κ:Type}
abbrev GrM (κ:Type):=List (Str×(Nat×List (κ×Int)))
end
end
section
theorem zmL {α:Type} {s:Str} {v:α}: ∀{G:List (Str×α)},(zz s v G).map (·.1)=zci s (G.map (·.1))
 |[]=>by simp [zz,zci]
 |p::r=>by
   have ih:=zmL (s:=s) (v:=v) (G:=r);simp only [zz]
   by_cases h:s=p.1
   rw [if_pos h];unfold zci;rw [if_pos (by simp [h])]
   simp [h]
   rw [if_neg h,Aw,ih];unfold zci
   by_cases hc:(r.map (·.1)).contains s=true
   rw [if_pos hc,if_pos (by simp at hc⊢;exact .inr hc)];rfl;rw [if_neg hc,if_neg (by simp at hc⊢;exact ⟨h,hc⟩)];rfl
theorem zoc {α:Type} {s:Str} {v:α} {p:Str×α}: ∀{G:List (Str×α)},ANodup G->p∈zz s v G->p=(s,v)\/(p∈G/\p.1≠s)
 |[],_,h=>by simp [zz] at h;exact .inl h
 |q::r,hn,h=>by
   have h1:=List.nodup_cons.1 hn;simp only [zz] at h
   by_cases hs:s=q.1
   rw [if_pos hs] at h
   rcases List.mem_cons.1 h with h|h
   exact .inl h;refine .inr ⟨Ao _ h,fun e=>h1.1 ?_⟩
   show q.1∈r.map (·.1)
   rw [<-hs,<-e];exact Bl h;rw [if_neg hs] at h
   rcases List.mem_cons.1 h with h|h
   subst h;exact .inr ⟨by simp,fun e=>hs e.symm⟩
   rcases zoc h1.2 h with e|e
   exact .inl e;exact .inr ⟨Ao _ e.1,e.2⟩
section
variable {κ:Type}
structure GrOk (S:List Str) (c:List ((Str×κ)×Int)) (G:GrM κ):Prop where
 keys:G.map (·.1)=S
 nodup:S.Nodup
 val: ∀p∈G,p.2.2=zdi c p.1
 inS: ∀e∈c,e.1.1∈S
theorem GrOk.anodup {S:List Str} {c:List ((Str×κ)×Int)} {G:GrM κ} (h:GrOk S c G):ANodup G:=by unfold ANodup;rw [h.keys];exact h.nodup
theorem GrOk.nil:GrOk ([]:List Str) ([]:List ((Str×κ)×Int)) []:=⟨rfl,Bz,(fun p h=>by cases h),(fun e h=>by cases h)⟩
theorem GrOk.get {S:List Str} {c:List ((Str×κ)×Int)} {G:GrM κ} (h:GrOk S c G) {s:Str} {b:Nat} {L:List (κ×Int)} (hq:alk s G=some (b,L)):L=zdi c s:=h.val _ (zbR hq)
theorem GrOk.none {S:List Str} {c:List ((Str×κ)×Int)} {G:GrM κ} (h:GrOk S c G) {s:Str}:alk s G=none↔s∉S:=by rw [zeL,h.keys]
theorem zzi {S:List Str} {c:List ((Str×κ)×Int)} {s:Str} (h: ∀e∈c,e.1.1∈S) (hs:s∉S):zdi c s=[]:=by
 unfold zdi;rw [List.map_eq_nil_iff,Cp]
 intro e he hq
 exact hs ((eq_of_beq hq)▸h e he)
theorem GrOk.add {S:List Str} {c:List ((Str×κ)×Int)} {G:GrM κ} (h:GrOk S c G) {s:Str} (b:Nat) (hs:alk s G=Option.none):GrOk (zci s S) c (zz s (b,[]) G):=by
 have hn:=h.none.1 hs;refine ⟨by rw [zmL,h.keys],zj0 h.nodup,fun p hp=> ?_,fun e he=>zkR.2 (.inr (h.inS e he))⟩
 rcases zoc h.anodup hp with rfl|⟨hp,_⟩
 exact (zzi h.inS hn).symm;exact h.val p hp
variable [DecidableEq κ]
theorem GrOk.put {S:List Str} {c:List ((Str×κ)×Int)} {G:GrM κ} (h:GrOk S c G) {s:Str} {b:Nat} {L:List (κ×Int)} (hq:alk s G=some (b,L)) (k:κ) (v:Int):GrOk S (zz (s,k) v c) (zz s (b,zz k v L) G):=by
 have hs:s∈S:=by
  refine Decidable.not_not.1 fun hn=> ?_
  have:=h.none.2 hn;rw [this] at hq;cases hq
 refine ⟨?_,h.nodup,fun p hp=> ?_,fun e he=> ?_⟩
 rw [zmL,h.keys];unfold zci;rw [if_pos (by simpa using hs)];rw [ztd]
 rcases zoc h.anodup hp with rfl|⟨hp,hne⟩
 rw [if_pos rfl,<-h.get hq];rw [if_neg hne];exact h.val p hp
 rcases zdb he with rfl|he
 exact hs;exact h.inS e he
end
end
section

end
section
def zfC (p:Option Of2):List Of2->List Of2
 |[]=>[]
 |x::r=>if p=some x then zfC (some x) r else x::zfC (some x) r
theorem OLt.trans {a b c:Of2} (h1:OLt a b) (h2:OLt b c):OLt a c:=zz9.lt_trans trivial trivial trivial h1 h2
end
section
def zG6 (l:List Play) (trust:List Str) (n:Int) (x:Play):Bool:=decide (zpF l trust n x.Match=some x.Source)
def kept (l:List Play) (trust:List Str) (n:Int):List Play:=l.filter (zG6 l trust n)
end
section
structure ChkIs (q:ChkS) (l:List Play):Prop where
 sn:q.S.Nodup
 s: ∀s,s∈q.S↔∃x∈l,x.Source=s
 wn:ANodup q.W
 w: ∀m,m∈q.W.map (·.1)↔∃x∈l,x.Match=m
 wv: ∀m v,alk m q.W=some v->∃x∈l,x.Match=m/\x.Week=v
 c:q.c=false↔∀x∈l,∀y∈l,x.Match=y.Match->x.Week=y.Week
theorem ChkIs.step {q:ChkS} {l:List Play} (h:ChkIs q l) (p:Play):ChkIs (ziC q p) (l++[p]) where
 sn:=zj0 h.sn
 s s:=by
  show s∈zci p.Source q.S↔_
  rw [zkR,h.s]
  constructor
  rintro (rfl|⟨x,hx,e⟩);exact ⟨p,by simp,rfl⟩;exact ⟨x,An _ hx,e⟩;rintro ⟨x,hx,e⟩
  rcases List.mem_append.1 hx with hx|hx
  exact .inr ⟨x,hx,e⟩;rw [List.mem_singleton.1 hx] at e;exact .inl e.symm
 wn:=h.wn.put
 w m:=by
  show m∈(zz p.Match p.Week q.W).map (·.1)↔_
  rw [zob,h.w]
  constructor
  rintro (rfl|⟨x,hx,e⟩);exact ⟨p,by simp,rfl⟩;exact ⟨x,An _ hx,e⟩;rintro ⟨x,hx,e⟩
  rcases List.mem_append.1 hx with hx|hx
  exact .inr ⟨x,hx,e⟩;rw [List.mem_singleton.1 hx] at e;exact .inl e.symm
 wv m v hv:=by
  have hv':alk m (zz p.Match p.Week q.W)=some v:=hv;rw [zc1] at hv'
  by_cases e:m=p.Match
  rw [if_pos e] at hv';cases hv';exact ⟨p,by simp,e.symm,rfl⟩;rw [if_neg e] at hv';obtain ⟨x,hx,e1⟩:=h.wv m v hv';exact ⟨x,An _ hx,e1⟩
 c:=by
  show (q.c||((alk p.Match q.W).isSome&&((alk p.Match q.W).getD 0 !=p.Week)))=false↔_
  rw [Bc,h.c]
  constructor
  rintro ⟨h1,h2⟩;have hp: ∀x∈l,x.Match=p.Match->x.Week=p.Week:=fun x hx e=>by
   have hk:p.Match∈q.W.map (·.1):=(h.w _).2 ⟨x,hx,e⟩;have hne: ¬alk p.Match q.W=none:=by rw [zeL];exact fun z=>z hk
   obtain ⟨v,hv⟩:=Option.ne_none_iff_exists'.1 hne;rw [hv] at h2
   simp at h2
   obtain ⟨y,hy,e1,e2⟩:=h.wv _ _ hv;rw [h1 x hx y hy (by rw [e,e1]),e2,h2]
  intro x hx y hy e
  rcases List.mem_append.1 hx with hx|hx<;>rcases List.mem_append.1 hy with hy|hy
  exact h1 x hx y hy e;rw [List.mem_singleton.1 hy] at e⊢;exact hp x hx e;rw [List.mem_singleton.1 hx] at e⊢;exact (hp y hy e.symm).symm;rw [List.mem_singleton.1 hx,List.mem_singleton.1 hy]
  intro hall
  refine ⟨fun x hx y hy e=>hall x (An _ hx) y (An _ hy) e,?_⟩
  cases hv:alk p.Match q.W with
  |none=>rfl
  |some v=>
    obtain ⟨y,hy,e1,e2⟩:=h.wv _ _ hv;have:=hall y (An _ hy) p (by simp) e1
    simp
    rw [<-e2,this]
theorem zDU (l:List Play):ChkIs (zby l) l:=by
 have key: ∀k,k<=l.length->ChkIs (zby (l.take k)) (l.take k):=by
  intro k
  induction k with
  |zero=>
    intro _
    refine ⟨Bz,fun s=> ?_,ANodup.nil,fun m=> ?_,fun m v hv=> ?_,?_⟩
    simp [zby]
    simp [zby]
    simp [zby,alk] at hv
    simp [zby]
  |succ k ih=>
    intro hk
    have hx:=Aa (l:=l) (i:=k) (by omega);rw [zfu hx,zR hx];exact (ih (by omega)).step _
 have:=key l.length (Ae _)
 rwa [Ai] at this
end
section
theorem zEE {p:Play} (h:playFault p=0):1<=p.Week:=by
 have h1:=(zfd h).2.2.2.1;unfold za4 at h1;have:=zfy (n:=p.Week) (lo:=1) (hi:=60) (by simpa using h1)
 omega
theorem zCE {l:List Play} (hok: ∀y∈l,playFault y=0) {m:Str} {v:Int} (h:alk m (zby l).W=some v):1<=v:=by
 obtain ⟨x,hx,_,rfl⟩:=(zDU l).wv m v h;exact zEE (hok x hx)
theorem zCF {l:List Play} (hok: ∀y∈l,playFault y=0) (p:Play):
 ((zby l).c||((alk p.Match (zby l).W).getD 0 !=0&&(alk p.Match (zby l).W).getD 0 !=p.Week))=(ziC (zby l) p).c:=by
 unfold ziC
 dsimp only
 cases h:alk p.Match (zby l).W with
 |none=>simp
 |some v=>
   have:=zCE hok h;have h0:(v !=0)=true:=by simp;omega
   simp [h0]
/-! statistics-/
def zsK (E:List (Str×Int)):List StatS:=(E.filter fun e=>e.2 !=0).map fun e=>⟨e.1,e.2⟩
end
section
def zds (x:Play):Prop:=Sh x.Source/\Sh x.Match/\Sh x.Player/\Sh x.Stat
structure GoodPl (k:List Play):Prop where
 len:k.length<=15
 all: ∀x∈k,zds x
structure GoodTr (t:List Str):Prop where
 len:t.length<=4
 all: ∀s∈t,Sh s
def zg6:List Str:=[[102,97],[102,98],[102,99]]
theorem zmG: ∀s∈zg6,Sh s:=fun s hs=>by simp [zg6] at hs;rcases hs with rfl|rfl|rfl<;>(unfold Sh;simp)
def znF:List Int:=[1,1,2]
def zfI:List Str:=[[109,97],[109,98],[109,99]]
theorem zly (k:Nat):Sh (zfI.getD k []):=by
 match k with
 |0=>unfold Sh;simp [zfI]
 |1=>unfold Sh;simp [zfI]
 |2=>unfold Sh;simp [zfI]
 |n+3=>unfold Sh;simp [zfI]
theorem zt5 {l:List Int} {z:Int}:l.contains z=l.any (· ==z):=by
 rw [AF,B4,Cs]
 constructor
 intro h;exact ⟨z,h,by simp⟩
 rintro ⟨y,hy,e⟩;rw [beq_iff_eq] at e;exact e▸hy
end
section
section
variable {κ:Type} [DecidableEq κ] {β:Type}
abbrev zgX (κ β:Type):=List (κ×(Value×List β))
def gVK (s:κ) (G:zgX κ β):Value:=((alk s G).getD (gZ β)).1
def gLK (s:κ) (G:zgX κ β):List β:=((alk s G).getD (gZ β)).2
def zd8 {κ β:Type} (sz:Nat) (e:β->HVal) (G:zgX κ β):List MObj:=G.map fun p=> .arr p.2.1 sz (p.2.2.map e)
theorem zoa {α:Type} {s:κ} {v:α}: ∀{G:List (κ×α)},ANodup G->(zz s v G).Perm ((s,v)::G.filter fun q=>decide (q.1≠s))
 |[],_=>by simp [zz]
 |p::r,hn=>by
   have h1:=List.nodup_cons.1 hn;simp only [zz]
   by_cases hs:s=p.1
   ·rw [if_pos hs];have h2:alk s r=none:=by rw [zeL,hs];exact h1.1
    rw [AT,if_neg (by simp [hs]),zfb h2]
   ·rw [if_neg hs,AT,if_pos (by simp;exact fun e=>hs e.symm)];exact (List.Perm.cons p (zoa h1.2)).trans (List.Perm.swap _ _ _)
theorem zqw {sz:Nat} {e:β->HVal} {A:List MObj} {G:zgX κ β} {s:κ} {v:Value} {l:List β} (hn:ANodup G):(.arr v sz (l.map e)::(A++zd8 sz e (G.filter fun q=>decide (q.1≠s)))).Perm (A++zd8 sz e (zz s (v,l) G)):=by
 have h:=((zoa (s:=s) (v:=(v,l)) hn).map fun p=>MObj.arr p.2.1 sz (p.2.2.map e)).append_left A;refine List.Perm.symm (h.trans ?_)
 simp only [Aw,zd8];exact B8
def ze0 (G:zgX κ β) (N:List κ):zgX κ β:=G.filter fun q=>decide (q.1∉N)
theorem ztx (G:zgX κ β):ze0 G []=G:=by unfold ze0;rw [Cb];simp
theorem ztw {G:zgX κ β} {N:List κ} {s:κ} (h:s∉N):alk s (ze0 G N)=alk s G:=by
 have:=zmK (s:=s) (p:=fun k=>decide (k∉N)) (G:=G);unfold ze0;rw [this,if_pos (by simpa using h)]
theorem zrO (G:zgX κ β) (N:List κ) (s:κ):(ze0 G N).filter (fun q=>decide (q.1≠s))=ze0 G (N++[s]):=by
 unfold ze0;rw [List.filter_filter];refine List.filter_congr fun q _=> ?_
 by_cases h1:q.1∈N<;>by_cases h2:q.1=s<;>simp [h1,h2]
theorem zp7 {G:zgX κ β} {N:List κ} (h:ANodup G):ANodup (ze0 G N):=by
 unfold ANodup ze0 at*;exact h.sublist ((Cc).map _)
theorem zzJ {G:zgX κ β} {N:List κ} (h: ∀q∈G,q.1∈N):ze0 G N=[]:=by
 unfold ze0;rw [Cp];intro q hq;simpa using h q hq
end
section
variable {P:Program} {e:Env} {κ:Type} [DecidableEq κ] {β:Type} {eb:β->HVal}
theorem zf1 [Tracks] {A:List MObj} {G G':zgX κ β} {s:κ} {sz:Nat} (hn:ANodup G) (hG:alk s G=alk s G'):Ghost e (A++zd8 sz eb G) e (.arr (gVK s G') sz ((gLK s G').map eb)::(A++zd8 sz eb (G.filter fun q=>decide (q.1≠s)))):=by
 cases hq:alk s G with
 |none=>
   have h1:gVK s G'= .slice none 0 0:=by unfold gVK;rw [<-hG,hq];rfl
   have h2:gLK s G'=[]:=by unfold gLK;rw [<-hG,hq];rfl
   rw [h1,h2,zfb hq];exact zK sz
 |some q=>
   obtain ⟨v,l⟩:=q;have h1:gVK s G'=v:=by unfold gVK;rw [<-hG,hq];rfl
   have h2:gLK s G'=l:=by unfold gLK;rw [<-hG,hq];rfl
   rw [h1,h2];refine Ghost.perm ?_;have h3:=((zgN hn hq).map fun p=>MObj.arr p.2.1 sz (p.2.2.map eb)).append_left A;refine h3.trans ?_;simp only [Aw,zd8];exact B8
theorem zr3 [Tracks] {M:List MObj} {K:HVal->List MObj->Prop} {o:Oper} (h:EOp P e M o fun x N=> ∃N',(∀J F w,Sat P J (N++F) w->Sat P J (N'++F) w)/\K x N'):EOp P e M o K:=fun I F a w ho hs=>
 za9 (fun _ _ ⟨v,x,M',J,h1,h2,⟨N',h3,h4⟩,h5,h6⟩=>⟨v,x,N',J,h1,h2,h4,h5,h3 J F _ h6⟩) (h I F a w ho hs)
theorem zzd [Tracks] {sz:Nat} {A:List MObj} {G:zgX κ β} {s:κ} {v:Value} {l:List β} (hn:ANodup G) (J:Imm) (F:List MObj) (w:World) (hs:Sat P J ((.arr v sz (l.map eb)::(A++zd8 sz eb G))++F) w):Sat P J ((A++zd8 sz eb (zz s (v,l) G))++F) w:=by
 have hp:=(zqw (sz:=sz) (e:=eb) (A:=A) (s:=s) (v:=v) (l:=l) hn).append_right F
 cases hq:alk s G with
 |none=>
   rw [zfb hq] at hp;exact hs.perm hp
 |some q=>
   have h3:=((zgN hn hq).map fun p=>MObj.arr p.2.1 sz (p.2.2.map eb)).append_left A;simp only [Aw] at h3;have h4:(A++zd8 sz eb G).Perm (.arr q.1 sz (q.2.map eb)::(A++zd8 sz eb (G.filter fun q=>decide (q.1≠s)))):=h3.trans B8;have h5:((MObj.arr v sz (l.map eb)::(A++zd8 sz eb G))++F).Perm (.arr q.1 sz (q.2.map eb)::((.arr v sz (l.map eb)::(A++zd8 sz eb (G.filter fun q=>decide (q.1≠s))))++F)):=by
    have:=(h4.cons (MObj.arr v sz (l.map eb))).append_right F;exact this.trans (List.Perm.swap _ _ _)
   exact (hs.perm h5).drop.perm hp
theorem zG3 {G:zgX κ β} {s:κ} {q:Value×List β} (h:alk s G=some q):gVK s G=q.1/\gLK s G=q.2:=by
 unfold gVK gLK;rw [h];exact ⟨rfl,rfl⟩
end
end
section
/-! lines by their places,with mends-/
abbrev GrS:=List (Plc×List StatS)
def zhf (G:GrS) (x:LineS):GrS:=zz (x.Player,x.Week) x.Stats G
def zdj (l:List LineS):GrS:=l.foldl zhf []
theorem zx8 {l:List LineS} {k:Nat} {x:LineS} (h:l[k]? =some x):zdj (l.take (k+1))=zz (x.Player,x.Week) x.Stats (zdj (l.take k)):=by
 rw [zR h];simp [zdj,A2,zhf]
def zuq (x:MendS) (l:List StatS):List StatS:=l.filter fun s=> !(s.Name==x.Stat)
def zeY (x:MendS) (l:List StatS):List StatS:=zuq x l++if x.Count≠0 then [⟨x.Stat,x.Count⟩] else []
def zcO (n:Int) (G:GrS) (x:MendS):GrS:=if n<x.At then G else zz (x.Player,x.Week) (zeY x ((alk (x.Player,x.Week) G).getD [])) G
def zg4 (G:GrS) (m:List MendS) (n:Int):GrS:=m.foldl (zcO n) G
def zeX (l:List LineS) (m:List MendS) (n:Int):GrS:=zg4 (zdj l) m n
theorem ztl {G:GrS} {m:List MendS} {n:Int} {k:Nat} {x:MendS} (h:m[k]? =some x):zg4 G (m.take (k+1)) n=zcO n (zg4 G (m.take k) n) x:=by
 rw [zR h];simp [zg4,A2]
def zii (q:Plc×List StatS):LineS:=⟨q.1.1,q.1.2,zQ zbc q.2⟩
def mdL (l:List LineS) (m:List MendS) (n:Int):List LineS:=zQ zdm ((zeX l m n).map zii)
theorem zp3 (l:List LineS):ANodup (zdj l):=by
 unfold zdj;have key: ∀(l:List LineS) (G:GrS),ANodup G->ANodup (l.foldl zhf G):=fun l=>by
  induction l with
  |nil=>intro G h;exact h
  |cons x l ih=>intro G h;exact ih _ h.put
 exact key l [] ANodup.nil
theorem zvn {n:Int} {G:GrS} {x:MendS} (h:ANodup G):ANodup (zcO n G x):=by
 unfold zcO;split;exact h;exact h.put
theorem zya (m:List MendS) (n:Int): ∀{G:GrS},ANodup G->ANodup (zg4 G m n):=by
 induction m with
 |nil=>intro G h;exact h
 |cons x m ih=>intro G h;exact ih (zvn h)
theorem zwp (l:List LineS) (m:List MendS) (n:Int):ANodup (zeX l m n):=zya m n (zp3 l)
/-! how long the lists are-/
def GLen (b:Nat) (G:GrS):Prop:= ∀q∈G,q.2.length<=b
theorem GLen.put {b:Nat} {G:GrS} {p:Plc} {l:List StatS} (h:GLen b G) (hl:l.length<=b):GLen b (zz p l G):=fun q hq=>by
 rcases zdb hq with rfl|hq
 exact hl;exact h q hq
theorem GLen.get {b:Nat} {G:GrS} (h:GLen b G) (p:Plc):((alk p G).getD []).length<=b:=by
 cases hq:alk p G with
 |none=>simp
 |some l=>exact h _ (zbR hq)
theorem GLen.up {b c:Nat} {G:GrS} (h:GLen b G) (hb:b<=c):GLen c G:=fun q hq=>Ar (h q hq) hb
theorem ztk (x:MendS) (l:List StatS):(zuq x l).length<=l.length:=AV _ _
theorem zzv (x:MendS) (l:List StatS):(zeY x l).length<=l.length+1:=by
 have:=ztk x l;unfold zeY;rw [Ax];split;simp only [Aj,AA];omega;simp only [AA];omega
theorem GLen.step {b:Nat} {n:Int} {G:GrS} {x:MendS} (h:GLen b G):GLen (b+1) (zcO n G x):=by
 unfold zcO;split;exact h.up (by omega);refine (h.up (by omega)).put ?_;have h1:=zzv x ((alk (x.Player,x.Week) G).getD []);have h2:=h.get (x.Player,x.Week)
 omega
theorem zvm (m:List MendS) (n:Int): ∀{b:Nat} {G:GrS},GLen b G->GLen (b+m.length) (zg4 G m n):=by
 induction m with
 |nil=>intro b G h;exact h
 |cons x m ih=>intro b G h;have:=ih (h.step (n:=n) (x:=x));rw [Aj,show b+(m.length+1)=b+1+m.length by omega];exact this
theorem ztj {b:Nat} {l:List LineS} (h: ∀x∈l,x.Stats.length<=b):GLen b (zdj l):=by
 unfold zdj;have key: ∀(l:List LineS) (G:GrS),(∀x∈l,x.Stats.length<=b)->GLen b G->GLen b (l.foldl zhf G):=fun l=>by
  induction l with
  |nil=>intro G _ h;exact h
  |cons x l ih=>intro G h hG;exact ih _ (fun y hy=>h y (Ao _ hy)) (hG.put (h x Al))
 exact key l [] h (fun q hq=>by cases hq)
theorem zx7 (l:List LineS):(zdj l).length<=l.length:=by
 unfold zdj;have key: ∀(l:List LineS) (G:GrS),(l.foldl zhf G).length<=G.length+l.length:=fun l=>by
  induction l with
  |nil=>intro G;exact Ae _
  |cons x l ih=>
    intro G
    have h1:=ih (zhf G x);have h2:(zhf G x).length<=G.length+1:=zmh _ _ _;rw [Bt,Aj];omega
 have:=key l []
 simpa using this
theorem zzs (m:List MendS) (n:Int): ∀(G:GrS),(zg4 G m n).length<=G.length+m.length:=by
 induction m with
 |nil=>intro G;exact Ae _
 |cons x m ih=>
   intro G
   have h1:=ih (zcO n G x);have h2:(zcO n G x).length<=G.length+1:=by
    unfold zcO;split
    omega
    exact zmh _ _ _
   rw [Aj]
   show (zg4 (zcO n G x) m n).length<=_
   omega
theorem zrw (l:List LineS) (m:List MendS) (n:Int):(zeX l m n).length<=l.length+m.length:=Ar (zzs m n _) (by have:=zx7 l;omega)
/-! names within a list-/
def GNm (G:GrS):Prop:= ∀q∈G,(q.2.map (·.Name)).Nodup
theorem GNm.put {G:GrS} {p:Plc} {l:List StatS} (h:GNm G) (hl:(l.map (·.Name)).Nodup):GNm (zz p l G):=fun q hq=>by
 rcases zdb hq with rfl|hq
 exact hl;exact h q hq
theorem GNm.get {G:GrS} (h:GNm G) (p:Plc):(((alk p G).getD []).map (·.Name)).Nodup:=by
 cases hq:alk p G with
 |none=>exact Bz
 |some l=>exact h _ (zbR hq)
theorem zp4 {x:MendS} {l:List StatS} (h:(l.map (·.Name)).Nodup):((zeY x l).map (·.Name)).Nodup:=by
 have h1:((zuq x l).map (·.Name)).Nodup:=h.sublist ((Cc).map _);unfold zeY
 split
 rw [Aq];refine List.nodup_append.2 ⟨h1,by simp,fun a ha b hb=> ?_⟩
 simp at hb;subst hb
 obtain ⟨s,hs,rfl⟩:=List.mem_map.1 ha;have:=(List.mem_filter.1 hs).2
 simpa using this
 rw [A9];exact h1
theorem GNm.step {n:Int} {G:GrS} {x:MendS} (h:GNm G):GNm (zcO n G x):=by
 unfold zcO;split;exact h;exact h.put (zp4 (h.get _))
theorem zx9 (m:List MendS) (n:Int): ∀{G:GrS},GNm G->GNm (zg4 G m n):=by
 induction m with
 |nil=>intro G h;exact h
 |cons x m ih=>intro G h;exact ih h.step
theorem zwm {l:List LineS} (h: ∀x∈l,(x.Stats.map (·.Name)).Nodup):GNm (zdj l):=by
 unfold zdj;have key: ∀(l:List LineS) (G:GrS),(∀x∈l,(x.Stats.map (·.Name)).Nodup)->GNm G->GNm (l.foldl zhf G):=fun l=>by
  induction l with
  |nil=>intro G _ h;exact h
  |cons x l ih=>intro G h hG;exact ih _ (fun y hy=>h y (Ao _ hy)) (hG.put (h x Al))
 exact key l [] h (fun q hq=>by cases hq)
theorem zwo {l:List LineS} {m:List MendS} {n:Int} (h: ∀x∈l,(x.Stats.map (·.Name)).Nodup):GNm (zeX l m n):=zx9 m n (zwm h)
theorem zwY {l:List StatS} (h:(l.map (·.Name)).Nodup) {x y:StatS} (hx:x∈l) (hy:y∈l) (e:x.Name=y.Name):x=y:=by
 obtain ⟨i,hi⟩:=Bd hx;obtain ⟨j,hj⟩:=Bd hy;have:=zqC h (a:=x.Name) (i:=i) (j:=j) (by rw [Ah,hi];rfl) (by rw [Ah,hj,e];rfl);rw [this,hj] at hi;exact (Ay hi).symm
theorem zwy {l l':List StatS} (h:(l.map (·.Name)).Nodup) (hp:l'.Perm l) (hw:l'.Pairwise fun a b=> ¬zbc b a<0):l'=zQ zbc l:=
 zf6 zdv (fun _ _ hx hy e=>zwY h hx hy (zbs.1 e)) hp hw
/-! groups of owned slices that hold such a map-/
abbrev GrV:=zgX Plc StatS
def zfX (G:GrV):GrS:=G.map fun q=>(q.1,q.2.2)
theorem zqs {p:Plc} {v:Value} {l:List StatS}: ∀{G:GrV},zfX (zz p (v,l) G)=zz p l (zfX G)
 |[]=>rfl
 |q::r=>by
   have ih:=zqs (p:=p) (v:=v) (l:=l) (G:=r);simp only [zfX,zz,Aw] at ih⊢
   by_cases h:p=q.1
   rw [if_pos h,if_pos h];rfl;rw [if_neg h,if_neg h,Aw,ih]
theorem zu0 (p:Plc) (G:GrV):(alk p (zfX G)).getD []=gLK p G:=by
 unfold zfX gLK;rw [zpp (fun q:Value×List StatS=>q.2) p G]
 cases alk p G<;>rfl
theorem zAk (G:GrV):(zfX G).length=G.length:=by unfold zfX;simp
theorem zzw {n:Int} {G:GrV} {x:MendS} (h: ¬n<x.At) (v:Value):zfX (zz (x.Player,x.Week) (v,zeY x (gLK (x.Player,x.Week) G)) G)=zcO n (zfX G) x:=by
 rw [zqs,zcO,if_neg h,zu0]
abbrev zng (q:Plc×(Value×List StatS)):LineS:=zii (q.1,q.2.2)
theorem zEh {l:List LineS} {m:List MendS} {n:Int} {G E:GrV} (hG:zfX G=zeX l m n) (hE:E.Perm G) {out:List LineS} (hp:out.Perm (E.map zng)) (hw:out.Pairwise fun a b=> ¬zdm b a<0):out=mdL l m n:=by
 have hn:ANodup (zeX l m n):=zwp l m n;have hm:((zeX l m n).map zii).Perm out:=by
  rw [<-hG];refine List.Perm.trans ?_ hp.symm
  unfold zfX;rw [A6];exact (hE.map zng).symm
 refine zf6 zkn (fun x y hx hy e=> ?_) hm.symm hw
 obtain ⟨p,hp1,rfl⟩:=List.mem_map.1 hx;obtain ⟨q,hq1,rfl⟩:=List.mem_map.1 hy;obtain ⟨e1,e2⟩:=zog.1 e;have e3:p.1=q.1:=Prod.ext e1 e2;have a1:=(zet hn (x:=p.1) (v:=p.2)).1 hp1;have a2:=(zet hn (x:=q.1) (v:=q.2)).1 hq1;rw [<-e3,a1] at a2;have e4:p.2=q.2:=Ay a2;rw [show p=q from Prod.ext e3 e4]
abbrev zer (l:List LineS) (m:List MendS) (n:Int):Int:=if orI [zaC l,zbH m]≠0 then orI [zaC l,zbH m] else if zac n then 0 else 1
abbrev zes (l:List LineS) (m:List MendS) (n:Int):List LineS:=if orI [zaC l,zbH m]≠0 then [] else if zac n then mdL l m n else []
theorem zvv {a b:Int} (h:orI [a,b]=0):a=0/\b=0:=by rw [zeo] at h;exact zw2 h
theorem zDc {l:List LineS} {m:List MendS} {n:Int} {k:Nat} {G:GrV} (hL: ∀x∈l,x.Stats.length<=1000) (hm:m.length<=100) (hc:zfX G=zg4 (zdj l) (m.take k) n) (p:Plc):(gLK p G).length<=1100:=by
 rw [<-zu0,hc];have h1:=(zvm (m.take k) n (ztj hL)).get p;have h2:(m.take k).length<=m.length:=by rw [Am];omega
 omega
theorem zDd {l:List LineS} {m:List MendS} {n:Int} {G:GrV} (hl:l.length<=1000) (hm:m.length<=100) (hc:zfX G=zg4 (zdj l) m n):G.length<=1100:=by
 have h1:=zAk G;rw [hc] at h1;have h2:=zrw l m n;unfold zeX at h2
 omega
theorem zu1 {G:GrV} {q:Plc×(Value×List StatS)} (h:q∈G):(q.1,q.2.2)∈zfX G:=List.mem_map.2 ⟨q,h,rfl⟩
theorem zEi {l:List LineS} {m:List MendS} {n:Int} {G:GrV} {q:Plc×(Value×List StatS)} (h40:GLen 40 (zeX l m n)) (hc:zfX G=zg4 (zdj l) m n) (hq:q∈G):q.2.2.length<=40:=by
 have h1:=zu1 hq;rw [hc] at h1;exact h40 _ h1
theorem zG8 {l:List LineS} {m:List MendS} {n:Int} {G:GrV} {q:Plc×(Value×List StatS)} (hs: ∀x∈l,(x.Stats.map (·.Name)).Nodup) (hc:zfX G=zg4 (zdj l) m n) (hq:q∈G):(q.2.2.map (·.Name)).Nodup:=by
 have h1:=zu1 hq;rw [hc] at h1;exact zwo (m:=m) (n:=n) hs _ h1
/-! counts of lines-/
def zsD {κ α:Type} [DecidableEq κ] (D S:List (κ×α)):List (κ×α):=S.foldl (fun C p=>zz p.1 p.2 C) D
theorem zry {κ α:Type} [DecidableEq κ]: ∀{S D:List (κ×α)},ANodup D->ANodup (zsD D S)
 |[],_,h=>h
 |p::r,D,h=>zry (S:=r) (D:=zz p.1 p.2 D) h.put
end
section
/-! one list of statistics by name-/
abbrev stA (l:List StatS):List (Str×Int):=l.map fun s=>(s.Name,s.Count)
def sv (l:List StatS) (s:Str):Int:=(alk s (stA l)).getD 0
structure StOk (l:List StatS):Prop where
 nd:(l.map (·.Name)).Nodup
 nz: ∀x∈l,x.Count≠0
theorem ztH {l:List StatS} (h:(l.map (·.Name)).Nodup):ANodup (stA l):=by
 unfold ANodup;rw [A6];exact h
theorem StOk.nodup {l:List StatS} (h:StOk l):l.Nodup:=(List.pairwise_map.1 h.nd).imp fun h e=>h (congrArg _ e)
theorem zDM {l l':List StatS} (h:(l'.map (·.Name)).Nodup) (hp:l.Perm l') (s:Str):sv l s=sv l' s:=by
 unfold sv;rw [zuO (hp.map _) (ztH h)]
theorem StOk.sort {l:List StatS} (h:StOk l):StOk (zQ zbc l) where
 nd:=((zbh zbc l).map _).nodup_iff.2 h.nd
 nz x hx:=h.nz x ((zeE _).1 hx)
theorem zwA {κ α:Type} [DecidableEq κ] (k:κ): ∀(A B:List (κ×α)),alk k (A++B)=(alk k A).or (alk k B)
 |[],B=>by simp [alk]
 |p::r,B=>by
   have ih:=zwA k r B;simp only [AX,alk]
   by_cases h:k=p.1
   rw [if_pos h,if_pos h];rfl;rw [if_neg h,if_neg h,ih]
theorem StOk.put {x:MendS} {l:List StatS} (h:StOk l):StOk (zeY x l) where
 nd:=zp4 h.nd
 nz y hy:=by
  unfold zeY at hy
  rcases List.mem_append.1 hy with hy|hy
  exact h.nz y (List.mem_filter.1 hy).1
  split at hy
  rename_i hc;rw [List.mem_singleton.1 hy];exact hc
  cases hy
theorem StOk.nil:StOk []:=⟨Bz,fun x h=>by cases h⟩
/-! all lists by place-/
structure GSOk (G:GrS):Prop where
 nd:ANodup G
 ok: ∀q∈G,StOk q.2
theorem GSOk.get {G:GrS} (h:GSOk G) (p:Plc):StOk ((alk p G).getD []):=by
 cases hq:alk p G with
 |none=>exact StOk.nil
 |some l=>exact h.ok _ (zbR hq)
theorem GSOk.step {n:Int} {G:GrS} {x:MendS} (h:GSOk G):GSOk (zcO n G x):=by
 unfold zcO;split;exact h;refine ⟨h.nd.put,fun q hq=> ?_⟩
 rcases zdb hq with rfl|hq
 exact (h.get _).put;exact h.ok q hq
theorem GSOk.go {m:List MendS} {n:Int}: ∀{G:GrS},GSOk G->GSOk (zg4 G m n):=by
 induction m with
 |nil=>intro G h;exact h
 |cons x m ih=>intro G h;exact ih h.step
theorem zyb {G:GrS} (h:ANodup G):(G.map zii).Nodup:=by
 refine List.pairwise_map.2 ((List.pairwise_map.1 h).imp fun {a b} hab e=>hab ?_)
 have e1:a.1.1=b.1.1:=congrArg LineS.Player e;have e2:a.1.2=b.1.2:=congrArg LineS.Week e;exact Prod.ext e1 e2
theorem zzu {G:GrS} (hG:ANodup G) {x y:LineS} (hx:x∈G.map zii) (hy:y∈G.map zii) (e:zdm x y=0):x=y:=by
 obtain ⟨p,hp1,rfl⟩:=List.mem_map.1 hx;obtain ⟨q,hq1,rfl⟩:=List.mem_map.1 hy;obtain ⟨e1,e2⟩:=zog.1 e;have e3:p.1=q.1:=Prod.ext e1 e2;have a1:=(zet hG (x:=p.1) (v:=p.2)).1 hp1;have a2:=(zet hG (x:=q.1) (v:=q.2)).1 hq1;rw [<-e3,a1] at a2;have e4:p.2=q.2:=Ay a2;rw [show p=q from Prod.ext e3 e4]
abbrev plL (x:LineS):Plc:=(x.Player,x.Week)
abbrev lnA (l:List LineS):GrS:=l.map fun y=>(plL y,y.Stats)
theorem zvl {l:List LineS} (h:(l.map plL).Nodup):zdj l=lnA l:=by
 have key: ∀(l:List LineS) (G:GrS),(l.map plL).Nodup->(∀y∈l,alk (plL y) G=none)->l.foldl zhf G=G++lnA l:=fun l=>by
  induction l with
  |nil=>intro G _ _;simp
  |cons x l ih=>
    intro G hn hG
    obtain ⟨h1,h2⟩:=List.nodup_cons.1 (by simpa using hn:(plL x::l.map plL).Nodup);have e:zhf G x=G++[(plL x,x.Stats)]:=zkk (hG x Al);rw [Bt,e,ih _ h2]
    simp
    intro y hy
    rw [zwA,hG y (Ao _ hy)];have:plL y≠plL x:=fun e=>h1 (e▸Bl hy)
    simp [alk,this]
 have h1:=key l [] h (fun y _=>rfl);exact h1
theorem zv5 {l:List LineS} (h:l.Pairwise fun a b=>zdm a b<0):(l.map plL).Nodup:=by
 refine List.pairwise_map.2 (h.imp fun {a b} hab e=> ?_)
 have:=zog.2 ⟨congrArg Prod.fst e,congrArg Prod.snd e⟩
 omega
theorem zAU {l:List StatS} (h:l.Pairwise fun a b=>zbc a b<0):(l.map (·.Name)).Nodup:=by
 refine List.pairwise_map.2 (h.imp fun {a b} hab e=> ?_)
 have:zbc a b=0:=zbs.2 e
 omega
theorem zBo {l:List StatS} (h:za7 l=0):StOk l:=by
 obtain ⟨_,h2,h3⟩:=ztJ h;exact ⟨zAU h3,fun x hx=>(zff.1 (h2 x hx)).2.2⟩
theorem zrt {l:List LineS} (h:zaC l=0) {x:LineS} (hx:x∈l):StOk x.Stats:=zBo (zfc.1 ((zgR h).2.1 x hx)).2.2
theorem zx6 {l:List LineS} (h:zaC l=0): ∀x∈l,(x.Stats.map (·.Name)).Nodup:=fun _ hx=>(zrt h hx).nd
theorem zAN {l:List LineS} (h:zaC l=0):GSOk (zdj l):=by
 have hn:=zv5 (zgR h).2.2;refine ⟨zp3 l,fun q hq=> ?_⟩
 rw [zvl hn] at hq;obtain ⟨y,hy,rfl⟩:=List.mem_map.1 hq;exact zrt h hy
/-! what the mended lines are-/
structure GVal (G:GrS):Prop where
 pl: ∀q∈G,key q.1.1=true/\za4 q.1.2=true
 st: ∀q∈G,∀s∈q.2,key s.Name=true/\(-100000<=s.Count/\s.Count<=100000)
theorem GVal.step {n:Int} {G:GrS} {x:MendS} (h:GVal G) (hx:zaP x=0):GVal (zcO n G x):=by
 obtain ⟨k1,k2,k3,k4,_⟩:=zvp hx;unfold zcO;split;exact h;refine ⟨fun q hq=> ?_,fun q hq s hs=> ?_⟩
 rcases zdb hq with rfl|hq
 exact ⟨k1,k3⟩;exact h.pl q hq
 rcases zdb hq with rfl|hq
 unfold zeY at hs
 rcases List.mem_append.1 hs with hs|hs
 have h1:=(List.mem_filter.1 hs).1
 cases ha:alk (x.Player,x.Week) G with
 |none=>rw [ha] at h1;cases h1
 |some l=>rw [ha] at h1;exact h.st _ (zbR ha) s h1
 split at hs
 rw [List.mem_singleton.1 hs];exact ⟨k2,k4⟩
 cases hs
 exact h.st q hq s hs
theorem GVal.go {n:Int}: ∀{m:List MendS} {G:GrS},GVal G->(∀x∈m,zaP x=0)->GVal (zg4 G m n)
 |[],_,h,_=>h
 |x::m,_,h,hm=>GVal.go (m:=m) (h.step (hm x Al)) fun y hy=>hm y (Ao _ hy)
theorem zzq {l:List LineS} (h:zaC l=0):GVal (zdj l):=by
 have hn:=zv5 (zgR h).2.2;rw [zvl hn];refine ⟨fun q hq=> ?_,fun q hq s hs=> ?_⟩
 obtain ⟨y,hy,rfl⟩:=List.mem_map.1 hq;obtain ⟨a1,a2,_⟩:=zfc.1 ((zgR h).2.1 y hy);exact ⟨a1,a2⟩;obtain ⟨y,hy,rfl⟩:=List.mem_map.1 hq;obtain ⟨_,_,a3⟩:=zfc.1 ((zgR h).2.1 y hy);obtain ⟨b1,b2,_⟩:=zff.1 ((ztJ a3).2.1 s hs);exact ⟨b1,b2⟩
theorem zqc {l:List StatS} (h:(l.map (·.Name)).Nodup):(zQ zbc l).Pairwise fun a b=>zbc a b<0:=by
 have h1:=zgt zdv (l:=l) (fun _ _=>trivial);have h2:((zQ zbc l).map (·.Name)).Nodup:=((zbh zbc l).map _).nodup_iff.2 h;refine (h1.and (List.pairwise_map.1 h2)).imp fun {a b} hab=> ?_
 have h3:zbc a b≠0:=fun e=>hab.2 (zbs.1 e)
 omega
theorem zvj {G:GrS} (h:ANodup G):(zQ zdm (G.map zii)).Pairwise fun a b=>zdm a b<0:=by
 have h1:=zgt zkn (l:=G.map zii) (fun _ _=>trivial);have h2:(zQ zdm (G.map zii)).Nodup:=(zbh zdm _).nodup_iff.2 (zyb h);refine (List.Pairwise.and_mem.1 (h1.and h2)).imp fun {a b} hab=> ?_
 have h3:zdm a b≠0:=fun e=>hab.2.2.2 (zzu h ((zeE _).1 hab.1) ((zeE _).1 hab.2.1) e)
 omega
theorem zzt {a:List LineS} {m:List MendS} {n:Int} (ha:zaC a=0) (hm:zbH m=0) (h40:GLen 40 (zeX a m n)) (hmany:(zeX a m n).length<=30000):zaC (mdL a m n)=0:=by
 have hG:GSOk (zeX a m n):=(zAN ha).go;have hV:GVal (zeX a m n):=(zzq ha).go (zto hm).2.1;refine zru (by unfold mdL;rw [zaw,Af];exact hmany) (fun y hy=> ?_) (zvj hG.nd)
 unfold mdL at hy;rw [zeE] at hy;obtain ⟨q,hq,rfl⟩:=List.mem_map.1 hy;have hq2:=hG.ok q hq;obtain ⟨k1,k2⟩:=hV.pl q hq;refine zfc.2 ⟨k1,k2,ztI (by show (zQ zbc q.2).length<=40;rw [zaw];exact h40 q hq) (fun s hs=> ?_) (zqc hq2.nd)⟩
 have hs':s∈q.2:=(zeE _).1 hs;obtain ⟨k3,k4⟩:=hV.st q hq s hs';exact zff.2 ⟨k3,k4,hq2.nz s hs'⟩
end
section
/-! mends as they are made up-/
def zhX (x:MendS):Prop:=Sh x.Player/\Sh x.Stat/\Sh x.By
structure GoodMds (k:List MendS):Prop where
 len:k.length<=24
 all: ∀x∈k,zhX x
def mp3:List Str:=[[97,110,110],[98,101,97],[122,111,101]]
def ms2:List Str:=[[103,111,97,108],[112,97,115,115]]
theorem zEj: ∀s∈mp3,Sh s:=fun s hs=>by
 simp [mp3] at hs;rcases hs with rfl|rfl|rfl<;>(unfold Sh;simp)
theorem zEk: ∀s∈ms2,Sh s:=fun s hs=>by
 simp [ms2] at hs;rcases hs with rfl|rfl<;>(unfold Sh;simp)
theorem GLok.mono {α:Type} {P:α->Prop} {n n' m m':Nat} {q:GL α} (h:GLok P n m q) (hn:n<=n') (hm:m<=m'):GLok P n' m' q:=⟨Ar h.len hn,h.all,Ar h.a hm⟩
/-! the lines of plays,with mends-/
def zgx (m:List MendS) (week:Int):List MendS:=m.filter fun y=>y.Week==week
theorem zkS (m:List MendS) (week:Int):(zgx m week).length<=m.length:=AV _ _
theorem zt8 (m:List MendS) (week:Int) (k:Nat):(zgx (m.take k) week).length<=k:=Ar (zkS _ _) (by rw [Am];omega)
theorem zAZ {m:List MendS} {week:Int} {k:Nat} {x:MendS} (h:m[k]? =some x) (e:x.Week=week):zgx (m.take (k+1)) week=zgx (m.take k) week++[x]:=by
 unfold zgx;rw [zR h,Bq];simp [e]
theorem zDm {m:List MendS} {week:Int} {k:Nat} {x:MendS} (h:m[k]? =some x) (e: ¬x.Week=week):zgx (m.take (k+1)) week=zgx (m.take k) week:=by
 unfold zgx;rw [zR h,Bq];simp [e]
def knL (l:List Play) (t:List Str) (m:List MendS) (week n:Int):List LineS:=if zid l t week n≠0 then [] else mdL (zea l t week n) m n
theorem znX {c:List (Of2×Int)} (hn:ANodup c) (s:Str):((zdW c s).map (·.Name)).Nodup:=by
 unfold zdW;refine ((zbh zbc _).map _).nodup_iff.2 ?_;have hr:(zbn c s).Nodup:=by
  unfold zbn;refine List.pairwise_map.2 (((List.pairwise_map.1 hn).filter _).imp_of_mem fun {a b} ha hb hab e=>hab ?_)
  have h1:=(List.mem_filter.1 ha).2;have h2:=(List.mem_filter.1 hb).2;simp only [Bi,beq_iff_eq] at h1 h2;have e1:a.1.2=b.1.2:=congrArg StatS.Name e;exact Prod.ext (h1.1.trans h2.1.symm) e1
 refine List.pairwise_map.2 (hr.imp_of_mem fun {a b} ha hb hab e=>hab (ztv hn s ha hb e))
theorem zkQ {l:List Play} {t:List Str} {week n:Int} (hok: ∀x∈l,playFault x=0) (hl:l.length<=15):
 (zea l t week n).length<=15/\∀y∈zea l t week n,y.Stats.length<=15/\(y.Stats.map (·.Name)).Nodup/\y.Week=week:=by
 have h:=zup (l:=l) (m:=l) (trust:=t) (week:=week) (n:=n) hok;have a1:=h.Sl;have a2:=h.cl;unfold zea zhQ
 split
 exact ⟨Ad _,fun y hy=>by cases hy⟩;refine ⟨by rw [Af,(zio _).length_eq];omega,fun y hy=> ?_⟩
 obtain ⟨s,_,rfl⟩:=List.mem_map.1 hy;refine ⟨?_,znX h.c s,rfl⟩
 have h2:=zl9 (zcM l t week n l).c s
 show (zdW (zcM l t week n l).c s).length<=15
 unfold zdW;rw [zaw];omega
theorem zqA {l:List Play} {t:List Str} {m:List MendS} {week n:Int} (hok: ∀x∈l,playFault x=0) (hl:l.length<=15) (hm:m.length<=24):GLen 40 (zeX (zea l t week n) m n):=
 (zvm m n (ztj fun x hx=>((zkQ hok hl).2 x hx).1)).up (by omega)
end
section
open Op
structure BookC (b:BookS):Prop where
 bb:BookB b
 gw: ∀x∈b.League.Games,GamB x
 mb: ∀x∈b.Moves,MovB x
 hw: ∀x∈b.Health,-1000000000000000<=x.To/\x.To<=1000000000000000
 tr: ∀s∈b.League.Trust,Sh s
 pg: ∀x∈b.Plays,zds x
 mg: ∀x∈b.Mends,zhX x
 cs: ∀x∈b.Choices,(∀s∈x.Players,Sh s)/\Sh x.Captain
 l1:b.Moves.length<=10
 l2:b.Plays.length<=15
 l3:b.Mends.length<=24
 l4:b.Health.length<=10
 l5:b.Choices.length<=20
 tt:HasAB b.League.Teams
 l6:b.League.Teams.length<=5
theorem zzy {s:Str}:(!(zcg s))=(s !=[]&& !(key s)):=by
 unfold zcg
 cases s with
 |nil=>rfl
 |cons x r=>cases key (x::r)<;>rfl
theorem zzz {l:List Str} {s:Str}:((l++[s]).all zcg)= !((l.any fun x=> !(zcg x))|| !(zcg s)):=by
 rw [List.all_append,Ca,List.all_nil,Bool.and_true,Bool.not_or,Bool.not_not,List.all_eq_not_any_not]
theorem zwq {l:List Str} {c:Str} (h:(∃s,s∈l/\zcg s=false)\/zcg c=false):((l++[c]).all zcg)=false:=by
 rcases h with ⟨s,hs,e⟩|e
 exact List.all_eq_false.2 ⟨s,An _ hs,by rw [e];simp⟩;exact List.all_eq_false.2 ⟨c,A8 _ (List.mem_singleton.2 rfl),by rw [e];simp⟩
def zbq (g:LeagueS) (w:Int):Int:=g.Start+(w-1)*604800000
end
section
open Op
theorem zxu:Cmp (fun x y:{m:MoveS//MovB m}=>zhh x.1 y.1) fun _=>True where
 flip x y _ _:=zln.flip x.1 y.1 trivial trivial
 trans x y z _ _ _ h1 h2:=zln.trans x.1 y.1 z.1 trivial trivial trivial h1 h2
theorem zxt:Cmp (fun x y:{m:GameS//GamB m}=>zgG x.1 y.1) fun _=>True where
 flip x y _ _:=zlm.flip x.1 y.1 trivial trivial
 trans x y z _ _ _ h1 h2:=zlm.trans x.1 y.1 z.1 trivial trivial trivial h1 h2
theorem zmM {α:Type} {p:α->Prop} {l:List α} (h: ∀x∈l,p x):(l.attachWith p h).map Subtype.val=l:=by simp
theorem zqR {α β:Type} {p:α->Prop} {l:List α} (h: ∀x∈l,p x) (f:α->β):(l.attachWith p h).map (fun x=>f x.1)=l.map f:=by
 have e:(l.attachWith p h).map (fun x=>f x.1)=((l.attachWith p h).map Subtype.val).map f:=by rw [A6];rfl
 rw [e,zmM]
end
section
open Go
structure RosS where
 P:List (Str×List Str)
 H:List (Str×List Str)
 O:List (Str×Str)
 D:List (Str×Int)
 A:List ((Str×Int)×Int)
def zsN:RosS:=⟨[],[],[],[],[]⟩
def zgs (l:List Str) (s:Str):List Str:=l.take (zck l s)++s::l.drop (zck l s)
def ziI (l:List Str) (s:Str):List Str:=l.filter fun x=> !(x==s)
def rPl (k:RosS) (t:Str):List Str:=(alk t k.P).getD []
def rHu (k:RosS) (t:Str):List Str:=(alk t k.H).getD []
def zbw (k:RosS) (p:Str):Str:=(alk p k.O).getD []
def zyp (b:BoundS) (k:RosS) (p:Str) (n:Int):Bool:=match alk p k.D with|some d=>decide (n-d<b.Hold)|none=>false
def zbj (k:RosS) (w:Str×Int):Int:=(alk w k.A).getD 0
def zep (b:BoundS) (k:RosS) (x:MoveS):Int:=
 if x.Kind=1 then
  if zbw k x.Player=x.Team then 6 else if zbw k x.Player≠[] then 13 else if zyp b k x.Player x.At=true then 11
  else if b.Adds<=zbj k (x.Team,Int.tdiv x.At 604800000) then 16 else if b.Most<=((rPl k x.Team).length:Int) then 12 else 0
 else if x.Kind=2 then if zbw k x.Player≠x.Team then 8 else 0
 else if x.Kind=3 then if (rPl k x.Team).contains x.Player=false then 8 else if b.Hurt<=((rHu k x.Team).length:Int) then 12 else 0
 else if x.Kind=4 then if (rHu k x.Team).contains x.Player=false then 8 else if b.Most<=((rPl k x.Team).length:Int) then 12 else 0
 else 0
def ziK (b:BoundS) (k:RosS) (x:MoveS):RosS:=
 if zep b k x≠0 then ⟨zz x.Team (rPl k x.Team) k.P,zz x.Team (rHu k x.Team) k.H,k.O,k.D,k.A⟩
 else if x.Kind=1 then ⟨zz x.Team (zgs (rPl k x.Team) x.Player) k.P,zz x.Team (rHu k x.Team) k.H,zz x.Player x.Team k.O,k.D,zz (x.Team,Int.tdiv x.At 604800000) (zbj k (x.Team,Int.tdiv x.At 604800000)+1) k.A⟩
 else if x.Kind=2 then ⟨zz x.Team (ziI (rPl k x.Team) x.Player) k.P,zz x.Team (ziI (rHu k x.Team) x.Player) k.H,zcX x.Player k.O,zz x.Player x.At k.D,k.A⟩
 else if x.Kind=3 then ⟨zz x.Team (ziI (rPl k x.Team) x.Player) k.P,zz x.Team (zgs (rHu k x.Team) x.Player) k.H,k.O,k.D,k.A⟩
 else ⟨zz x.Team (zgs (rPl k x.Team) x.Player) k.P,zz x.Team (ziI (rHu k x.Team) x.Player) k.H,k.O,k.D,k.A⟩
def ziJ (b:BoundS) (n:Int) (k:RosS):List MoveS->RosS
 |[]=>k
 |x::r=>ziJ b n (if x.At<=n then ziK b k x else k) r
def zho (b:BoundS) (l:List MoveS) (n:Int):RosS:=ziJ b n zsN l
/-! lists that rise-/
theorem SortedS.nodup {l:List Str} (h:SortedS l):l.Nodup:=h.imp fun {a b} h e=>by subst e;rw [zaz] at h;cases h
theorem zdA {l:List Str} {s x:Str}:x∈ziI l s↔x∈l/\x≠s:=by simp [ziI]
theorem ziV {l:List Str} (h:SortedS l) (s:Str):SortedS (ziI l s):=h.sublist Cc
theorem znl (l:List Str) (s:Str):(ziI l s).length<=l.length:=AV _ _
theorem zhB {l:List Str} {s x:Str}:x∈zgs l s↔x=s\/x∈l:=by
 have e:x∈l↔x∈l.take (zck l s)\/x∈l.drop (zck l s):=by rw [<-Cg,A0]
 unfold zgs;rw [e];simp;constructor<;>(rintro (h|h|h)<;>simp [h])
theorem zqy (l:List Str) (s:Str):(zgs l s).length=l.length+1:=by
 have h:=congrArg List.length (A0 (zck l s) l);unfold zgs;simp only [Ax,Aj] at*;omega
theorem ziU {s:Str}: ∀{l:List Str},SortedS l->s∉l->SortedS (zgs l s)
 |[],_,_=>List.pairwise_singleton _ _
 |a::r,h,hn=>by
   have hr:=List.pairwise_cons.1 h
   cases ha:Op.bytesLess a s with
   |true=>
     have e:zck (a::r) s=zck r s+1:=by unfold zck;simp [List.countP_cons,ha]
     have e2:zgs (a::r) s=a::zgs r s:=by unfold zgs;rw [e];rfl
     rw [e2];refine List.pairwise_cons.2 ⟨fun x hx=> ?_,ziU hr.2 fun q=>hn (Ao _ q)⟩
     rcases zhB.1 hx with rfl|q
     exact ha;exact hr.1 x q
   |false=>
     have e:zck (a::r) s=0:=zmy (Ad _) (fun k x hk=>absurd hk (Nat.not_lt_zero _)) (zub h (m:=0) rfl ha);have e2:zgs (a::r) s=s::a::r:=by unfold zgs;rw [e];rfl
     have hs:Op.bytesLess s a=true:=by
      rcases zcf s a with q|q|q
      exact q;exact absurd (by rw [q];exact Al) hn;rw [ha] at q;cases q
     rw [e2];refine List.pairwise_cons.2 ⟨fun x hx=> ?_,h⟩
     rcases List.mem_cons.1 hx with rfl|q
     exact hs;exact zeG hs (hr.1 x q)
/-! what holds of a book-/
theorem zwB {α:Type} {p q:Str} (h:q≠p): ∀l:List (Str×α),alk q (zcX p l)=alk q l
 |[]=>rfl
 |x::r=>by
   by_cases e:p=x.1
   have h1:zcX p (x::r)=r:=by rw [zcX,if_pos e]
   have h2:alk q (x::r)=alk q r:=by rw [alk,if_neg (by rw [<-e];exact h)]
   rw [h1,h2];have h1:zcX p (x::r)=x::zcX p r:=by rw [zcX,if_neg e]
   rw [h1]
   show (if q=x.1 then some x.2 else alk q (zcX p r))=(if q=x.1 then some x.2 else alk q r)
   rw [zwB h r]
theorem zwF {α:Type} {p:Str}: ∀{l:List (Str×α)} {x:Str×α},x∈zcX p l->x∈l
 |y::r,x,h=>by
   unfold zcX at h
   by_cases e:p=y.1
   rw [if_pos e] at h;exact Ao _ h;rw [if_neg e] at h
   rcases List.mem_cons.1 h with rfl|q
   exact Al;exact Ao _ (zwF q)
theorem zsJ {κ α:Type} [DecidableEq κ] {k:κ} {v:α}: ∀{l:List (κ×α)} {x:κ×α},x∈zz k v l->x=(k,v)\/x∈l
 |[],x,h=> .inl (by simpa [zz] using h)
 |y::r,x,h=>by
   unfold zz at h
   by_cases e:k=y.1
   rw [if_pos e] at h
   rcases List.mem_cons.1 h with rfl|q
   exact .inl rfl;exact .inr (Ao _ q);rw [if_neg e] at h
   rcases List.mem_cons.1 h with rfl|q
   exact .inr Al
   rcases zsJ q with q|q
   exact .inl q;exact .inr (Ao _ q)
structure RosOk (n:Nat) (k:RosS):Prop where
 sp: ∀t,SortedS (rPl k t)/\(rPl k t).length<=n/\∀p∈rPl k t,alk p k.O=some t
 sh: ∀t,SortedS (rHu k t)/\(rHu k t).length<=n/\∀p∈rHu k t,alk p k.O=some t
 dj: ∀t p,p∈rPl k t->p∉rHu k t
 ad: ∀w,0<=zbj k w/\zbj k w<=n
 dr: ∀q∈k.D,0<=q.2/\q.2<=345686399999
 ow: ∀q∈k.O,q.2≠[]
theorem zDF:RosOk 0 zsN:=⟨fun t=>⟨List.Pairwise.nil,Ae _,fun p h=>(by cases h)⟩,fun t=>⟨List.Pairwise.nil,Ae _,fun p h=>(by cases h)⟩,fun t p h=>(by cases h),fun w=>⟨Int.le_refl _,Int.le_refl _⟩,fun q h=>(by cases h),fun q h=>(by cases h)⟩
theorem RosOk.mono {n m:Nat} {k:RosS} (h:RosOk n k) (hm:n<=m):RosOk m k:=
 ⟨fun t=>⟨(h.sp t).1,by have:=(h.sp t).2.1;omega,(h.sp t).2.2⟩,fun t=>⟨(h.sh t).1,by have:=(h.sh t).2.1;omega,(h.sh t).2.2⟩,h.dj,fun w=>⟨(h.ad w).1,by have:=(h.ad w).2;omega⟩,h.dr,h.ow⟩
theorem zw9 {T t:Str} {v:List Str} {P H:List (Str×List Str)} {O:List (Str×Str)} {D:List (Str×Int)} {A:List ((Str×Int)×Int)}:rPl ⟨zz T v P,H,O,D,A⟩ t=if t=T then v else (alk t P).getD []:=by
 unfold rPl;rw [zc1];split<;>rfl
theorem zw8 {T t:Str} {v:List Str} {P H:List (Str×List Str)} {O:List (Str×Str)} {D:List (Str×Int)} {A:List ((Str×Int)×Int)}:rHu ⟨P,zz T v H,O,D,A⟩ t=if t=T then v else (alk t H).getD []:=by
 unfold rHu;rw [zc1];split<;>rfl
theorem RosOk.team {n:Nat} {k:RosS} (h:RosOk n k) {T:Str} {p h':List Str} {O:List (Str×Str)} {D:List (Str×Int)} {A:List ((Str×Int)×Int)}
 (hp:SortedS p/\p.length<=n+1/\∀x∈p,alk x O=some T) (hh:SortedS h'/\h'.length<=n+1/\∀x∈h',alk x O=some T) (hd: ∀x∈p,x∉h')
 (hO: ∀t x,t≠T->alk x k.O=some t->alk x O=some t) (hA: ∀w,0<=(alk w A).getD 0/\(alk w A).getD 0<=n+1) (hD: ∀q∈D,0<=q.2/\q.2<=345686399999) (hw: ∀q∈O,q.2≠[]):
 RosOk (n+1) ⟨zz T p k.P,zz T h' k.H,O,D,A⟩:=by
 refine ⟨fun t=> ?_,fun t=> ?_,fun t x=> ?_,fun w=>by have:=hA w;unfold zbj;simp only at*;omega,hD,hw⟩
 rw [zw9]
 split
 rename_i e;subst e;exact hp
 rename_i e;have:=h.sp t;unfold rPl at this;exact ⟨this.1,by omega,fun x hx=>hO t x e (this.2.2 x hx)⟩
 rw [zw8]
 split
 rename_i e;subst e;exact hh
 rename_i e;have:=h.sh t;unfold rHu at this;exact ⟨this.1,by omega,fun x hx=>hO t x e (this.2.2 x hx)⟩
 rw [zw9,zw8]
 split
 exact fun q=>hd x q
 have:=h.dj t x;unfold rPl rHu at this;exact this
theorem zA0 {n:Nat} {k:RosS} (h:RosOk n k) {p:Str} (he:zbw k p=[]):alk p k.O=none:=by
 cases hq:alk p k.O with
 |none=>rfl
 |some t=>unfold zbw at he;rw [hq] at he;exact absurd he (h.ow _ (zbR hq))
theorem zA1 {k:RosS} {p t:Str} (he:zbw k p=t) (ht:t≠[]):alk p k.O=some t:=by
 unfold zbw at he
 cases hq:alk p k.O with
 |none=>rw [hq] at he;exact absurd he.symm ht
 |some u=>rw [hq] at he;exact congrArg some he
theorem zDA {n:Nat} {b:BoundS} {k:RosS} {x:MoveS} (h:RosOk n k) (ha:0<=x.At/\x.At<=345686399999) (hk:1<=x.Kind/\x.Kind<=4) (hT:x.Team≠[]):RosOk (n+1) (ziK b k x):=by
 have hp:=h.sp x.Team;have hh:=h.sh x.Team;have hd:=h.dj x.Team;have hA: ∀w,0<=(alk w k.A).getD 0/\(alk w k.A).getD 0<=(n:Int)+1:=fun w=>by have:=h.ad w;unfold zbj at this;omega
 unfold ziK
 by_cases hw:zep b k x≠0
 rw [if_pos hw];exact h.team ⟨hp.1,by omega,hp.2.2⟩ ⟨hh.1,by omega,hh.2.2⟩ hd (fun _ _ _ e=>e) hA h.dr h.ow;rw [if_neg hw];have h0:zep b k x=0:=Decidable.not_not.1 hw
 by_cases k1:x.Kind=1
 rw [if_pos k1];rw [zep,if_pos k1] at h0;have ho:zbw k x.Player=[]:=by
  by_cases q:zbw k x.Player=x.Team
  rw [if_pos q] at h0;omega;rw [if_neg q] at h0
  by_cases q2:zbw k x.Player≠[]
  rw [if_pos q2] at h0;omega;exact Decidable.not_not.1 q2
 have hn:=zA0 h ho;have hne: ∀y t,alk y k.O=some t->y≠x.Player:=fun y t e q=>by rw [q,hn] at e;cases e
 have hO: ∀y t,alk y k.O=some t->alk y (zz x.Player x.Team k.O)=some t:=fun y t e=>by rw [zc1,if_neg (hne y t e)];exact e
 refine h.team ⟨ziU hp.1 fun q=>hne _ _ (hp.2.2 _ q) rfl,by rw [zqy];omega,fun y hy=> ?_⟩ ⟨hh.1,by omega,fun y hy=>hO y _ (hh.2.2 y hy)⟩ (fun y hy q=> ?_) (fun t y _ e=>hO y t e) (fun w=> ?_) h.dr (fun q hq=> ?_)
 rcases zhB.1 hy with rfl|q
 rw [zc1,if_pos rfl];exact hO y _ (hp.2.2 y q)
 rcases zhB.1 hy with rfl|q2
 exact hne _ _ (hh.2.2 _ q) rfl;exact hd y q2 q;rw [zc1]
 split
 have:=h.ad (x.Team,Int.tdiv x.At 604800000);simp only [B9];omega;exact hA w
 rcases zsJ hq with rfl|q2
 exact hT;exact h.ow q q2;rw [if_neg k1];rw [zep,if_neg k1] at h0
 by_cases k2:x.Kind=2
 rw [if_pos k2];rw [if_pos k2] at h0;have ho:alk x.Player k.O=some x.Team:=zA1 (by
  by_cases q:zbw k x.Player≠x.Team
  rw [if_pos q] at h0;omega;exact Decidable.not_not.1 q) hT
 have hO: ∀y t,y≠x.Player->alk y k.O=some t->alk y (zcX x.Player k.O)=some t:=fun y t e q=>by rw [zwB e];exact q
 refine h.team ⟨ziV hp.1 _,by have:=znl (rPl k x.Team) x.Player;omega,fun y hy=> ?_⟩ ⟨ziV hh.1 _,by have:=znl (rHu k x.Team) x.Player;omega,fun y hy=> ?_⟩ (fun y hy q=>hd y (zdA.1 hy).1 (zdA.1 q).1) (fun t y ht e=>hO y t (fun q=> ?_) e) hA (fun q hq=> ?_) (fun q hq=>h.ow q (zwF hq))
 exact hO y _ (zdA.1 hy).2 (hp.2.2 y (zdA.1 hy).1);exact hO y _ (zdA.1 hy).2 (hh.2.2 y (zdA.1 hy).1);rw [q,ho] at e;exact ht (Ay e).symm
 rcases zsJ hq with rfl|q2
 exact ha;exact h.dr q q2;rw [if_neg k2];rw [if_neg k2] at h0
 by_cases k3:x.Kind=3
 rw [if_pos k3];rw [if_pos k3] at h0;have hc:x.Player∈rPl k x.Team:=by
  by_cases q:(rPl k x.Team).contains x.Player=false
  rw [if_pos q] at h0;omega
  simpa using q
 exact h.team ⟨ziV hp.1 _,by have:=znl (rPl k x.Team) x.Player;omega,fun y hy=>hp.2.2 y (zdA.1 hy).1⟩ ⟨ziU hh.1 (hd _ hc),by rw [zqy];omega,fun y hy=>by
  rcases zhB.1 hy with rfl|q
  exact hp.2.2 _ hc;exact hh.2.2 y q⟩ (fun y hy q=>by
  rcases zhB.1 q with rfl|q
  exact (zdA.1 hy).2 rfl;exact hd y (zdA.1 hy).1 q) (fun _ _ _ e=>e) hA h.dr h.ow
 rw [if_neg k3];rw [if_neg k3,if_pos (by omega)] at h0;have hc:x.Player∈rHu k x.Team:=by
  by_cases q:(rHu k x.Team).contains x.Player=false
  rw [if_pos q] at h0;omega
  simpa using q
 exact h.team ⟨ziU hp.1 (fun q=>hd _ q hc),by rw [zqy];omega,fun y hy=>by
  rcases zhB.1 hy with rfl|q
  exact hh.2.2 _ hc;exact hp.2.2 y q⟩ ⟨ziV hh.1 _,by have:=znl (rHu k x.Team) x.Player;omega,fun y hy=>hh.2.2 y (zdA.1 hy).1⟩ (fun y hy q=>by
  rcases zhB.1 hy with rfl|q2
  exact (zdA.1 q).2 rfl;exact hd y q2 (zdA.1 q).1) (fun _ _ _ e=>e) hA h.dr h.ow
theorem zw7 {b:BoundS} {m:Int}: ∀{l:List MoveS} {n:Nat} {k:RosS},RosOk n k->(∀x∈l,(0<=x.At/\x.At<=345686399999)/\(1<=x.Kind/\x.Kind<=4)/\x.Team≠[])->RosOk (n+l.length) (ziJ b m k l)
 |[],n,k,h,_=>h
 |x::r,n,k,h,hl=>by
   obtain ⟨h1,h2,h3⟩:=hl x Al;unfold ziJ;have:RosOk (n+1) (if x.At<=m then ziK b k x else k):=by
    split
    exact zDA h h1 h2 h3;exact h.mono (BL n)
   have:=zw7 (b:=b) (m:=m) this (l:=r) fun y hy=>hl y (Ao _ hy)
   rw [Aj,show n+(r.length+1)=n+1+r.length by omega];exact this
theorem zzx {l:List MoveS} (h:zgv l=0):l.length<=2000/\∀x∈l,(0<=x.At/\x.At<=345686399999)/\(1<=x.Kind/\x.Kind<=4)/\(key x.Team=true/\key x.Player=true):=by
 obtain ⟨h1,h2⟩:=zfS h;refine ⟨h1,fun x hx=> ?_⟩
 obtain ⟨i,hi,rfl⟩:=AS hx;have:=h2 i l[i] (Aa hi)
 generalize l[i]=x at this
 unfold zeW at this
 by_cases q1:zac x.At=false
 rw [if_pos q1] at this;omega;rw [if_neg q1] at this
 by_cases q2:out x.Kind 1 4=true
 rw [if_pos q2] at this;omega;rw [if_neg q2] at this
 by_cases q3:key x.Team=false\/key x.Player=false
 rw [if_pos q3] at this;omega;refine ⟨?_,?_,?_⟩
 simp [zac,out] at q1;omega
 simp [out] at q2;omega
 rw [not_or] at q3;simpa using q3
end
section
open Go
variable {P:Program}
theorem zrh [Tracks] {e:Env} {dst:Option Tmp} {ty:TypeId} {pos:String} {af:Array Edge} {g:Option (Nat×Bool)} {M:List MObj} {K:HVal->List MObj->Prop} {t el:TypeId} {size bytes b2:Nat} {zero z2:Value} {d:TD} {x:Operand} {s:Str}
 (hf:Fits P t (.slice el) size bytes zero) (hel:Fits P el d 1 b2 z2) (hz:z2.cells.size=1) (hx:zi e x=some (.str s))
 (hk: ∀ub,K (.raw (.slice (some ⟨ub,0,none⟩) 1 1)) (.obj ub (.cells #[zbF s] el (0,0))::M)):EOp P e M ⟨dst,.buildSlice t 1 #[(0,x)],ty,pos,af,g⟩ K:=
 EOp.of_run fun I F a w ho hs'=>by
  have h1:=(ho.one (x:=x) (by simp [Op.operands]) hx).str_inv;refine ⟨.slice (some ⟨w.heap.size,0,none⟩) 1 1,.raw (.slice (some ⟨w.heap.size,0,none⟩) 1 1),_,push w (.cells #[zbF s] el (0,0)),I,?_,.refl I,hk _,.raw _ rfl,?_⟩
  simp only [execOp,Instr.buildSlice,Sem.run_bind,run_underlying hf.slice,Result.andThen_ok,hel.run_sizeOf];rw [if_neg (by decide)];simp only [Sem.run_pure,Result.andThen_ok];rw [if_neg (by decide)];simp only [Sem.run_bind,hel.run_zero,Result.andThen_ok,Sem.run_pure];obtain ⟨z,hzz⟩: ∃z,z2.cells= #[z]:=by
   rcases hq:z2.cells with ⟨l⟩
   rw [hq] at hz
   match l,hz with
   |[z],_=>exact ⟨z,rfl⟩
  rw [hzz];have hr:Array.range 1= #[0]:=by first|decide|simp [Array.range_succ]
  simp [Instr.fill,h1,newRow,Value.cells,zbF,push,hr]
  try rfl
  exact hs'.new_own (.cells #[zbF s] el (0,0)) (.obj w.heap.size (.cells #[zbF s] el (0,0))) rfl (by simp [MSat,push])
abbrev eWk (p:Str×Int):HVal:= .agg [.str p.1,.int .i64 p.2]
abbrev kBk (b:BoundS) (pb hb ob db ab:Nat):List HVal:=[.int .i64 b.Most,.int .i64 b.Hurt,.int .i64 b.Adds,.int .i64 b.Hold,.raw (.map (some pb)),.raw (.map (some hb)),.raw (.map (some ob)),.raw (.map (some db)),.raw (.map (some ab))]
abbrev zdC (kb pb hb ob db ab:Nat) (b:BoundS) (k:RosS):List MObj:=[.cells kb (kBk b pb hb ob db ab),.map pb (sk (em eSs k.P)),.map hb (sk (em eSs k.H)),.map ob (sk (em .str k.O)),.map db (sk (em (.int .i64) k.D)),.map ab (kk eWk (em (.int .i64) k.A))]
end
section
section
variable {P:Program} {e:Env} {dst:Option Tmp} {ty:TypeId} {pos:String} {af:Array Edge} {g:Option (Nat×Bool)} {M:List MObj} {K:HVal->List MObj->Prop}
end
end
section
section
variable {P:Program} {e:Env} {dst:Option Tmp} {ty:TypeId} {pos:String} {af:Array Edge} {g:Option (Nat×Bool)}
end
section
variable {P:Program} {n:Nat} {e e':Env} {M M':List MObj} {Q Q':Exit->Env->List MObj->Prop} {c c':Code}
def zyI {α β γ δ:Type} (e:Env) (ks:List Nat) (W:α->β->γ->δ->List (Nat×HVal)) (MM:α->β->γ->δ->List MObj) (Iv:α->β->γ->δ->Prop) (μ:α->β->γ->δ->Nat) (x:α) (y:β) (u:γ) (v:δ) (Q:Exit->Env->List MObj->Prop):Exit->Env->List MObj->Prop
 | .normal,e',M=> ∃j k l m,Iv j k l m/\μ j k l m<μ x y u v/\zcw e' (W j k l m)/\zgE ks e e'/\M.Perm (MM j k l m)
 |z,e',M=>Q z e' M
theorem zAO {α β γ δ:Type} {e0:Env} {ks:List Nat} {W:α->β->γ->δ->List (Nat×HVal)} {MM:α->β->γ->δ->List MObj} {Iv:α->β->γ->δ->Prop} {μ:α->β->γ->δ->Nat} {x:α} {y:β} {u:γ} {v:δ} {id:Nat} (h:Q (.exit id) e M):
 zyI e0 ks W MM Iv μ x y u v Q (.exit id) e M:=h
theorem zzg [Tracks] {α β γ δ:Type} (ks:List Nat) (W:α->β->γ->δ->List (Nat×HVal)) (MM:α->β->γ->δ->List MObj) (Iv:α->β->γ->δ->Prop) (μ:α->β->γ->δ->Nat) (x:α) (y:β) (u:γ) (v:δ) (h0:Iv x y u v) (hW:zcw e (W x y u v)) (hM:M.Perm (MM x y u v))
 (hb: ∀x y u v,Iv x y u v->HWp P n c (loopE e ks (W x y u v)) (MM x y u v) (zyI e ks W MM Iv μ x y u v Q)):HWp P n (.loop c) e M Q:=by
 refine ziH (ι:=α×β×γ×δ) ks (fun p=>W p.1 p.2.1 p.2.2.1 p.2.2.2) (fun p=>MM p.1 p.2.1 p.2.2.1 p.2.2.2) (fun p=>Iv p.1 p.2.1 p.2.2.1 p.2.2.2) (fun p=>μ p.1 p.2.1 p.2.2.1 p.2.2.2) (x,y,u,v) h0 hW hM fun p hp=>zmv (hb p.1 p.2.1 p.2.2.1 p.2.2.2 hp) ?_
 intro z e1 M1 hq
 cases z with
 |normal=>obtain ⟨j,k,l,m,h⟩:=hq;exact ⟨(j,k,l,m),h⟩
 |_=>exact hq
end
end
section
variable {P:Program}
theorem zzl {kt:TypeId} {k:IntKind} {s1 b1:Nat} {z1:Value} (hf:Fits P kt (.int k) s1 b1 z1):KeyOk P kt (fun x:Int=> .int k x):=by
 haveI:Tracks:=⟨true⟩
 have hk: ∀x y:Int,zdD (.int k) (.int k x) (.int k y)=true:=fun x y=>by simp [zdD]
 refine ⟨fun I x v b w hv=>zhD hf (hk x x) hv b 9999 w,fun I x y u v w hu hv=> ?_,fun I x v es w hv hes=> ?_,fun I x u v hu hv=> ?_⟩
 have:=zdd hf (hk x y) hu hv 9999 w
 show (Op.equalIn (9999+1) kt u v).run P w=_
 rw [this]
 show Result.ok (x==y) w=_
 congr 1
 obtain rfl:=hv.int_inv;have key: ∀(es:List MapEntry) (i:Nat),(∀m∈es,∃y,V I (.int k y) m.key)->∃r,Instr.findNow (.int k) (.int k x) es i=some r/\(Instr.findAsking kt (.int k x) es i).run P w= .ok r w:=by
  intro es
  induction es with
  |nil=>intro i _;exact ⟨none,rfl,by simp [Instr.findAsking]⟩
  |cons m es ih=>
    intro i h
    obtain ⟨y,hy⟩:=h m Al;have hq:=zdd hf (hk x y) (V.int k x) hy 9999 w;have hq':(Op.equal kt (.int k x) m.key).run P w= .ok (x==y) w:=hq;have hy':=hy.int_inv
    by_cases e:x=y
    have e1:(x==y)=true:=by simpa using e
    refine ⟨some (i,m.val),?_,?_⟩
    simp only [Instr.findNow,Instr.sameNow,hy',if_true,e1];simp only [Instr.findAsking,Sem.run_bind,hq',Result.andThen_ok,e1]
    simp
    obtain ⟨r,r1,r2⟩:=ih (i+1) fun m' hm'=>h m' (Ao _ hm')
    refine ⟨r,?_,?_⟩
    have:(x==y)=false:=by simpa using e
    simp only [Instr.findNow,Instr.sameNow,hy',if_true,this];exact r1;have:(x==y)=false:=by simpa using e
    simp only [Instr.findAsking,Sem.run_bind,hq',Result.andThen_ok,this];exact r2
 obtain ⟨r,r1,r2⟩:=key es 0 hes;simp only [Instr.findKey,Sem.run_bind,run_underlying hf.intD,Result.andThen_ok,r1,Sem.run_pure,r2];obtain rfl:=hu.int_inv;obtain rfl:=hv.int_inv
 show Instr.sameBits (9999+1) _ _=true
 simp [Instr.sameBits]
end
section
open Go
variable {P:Program}
theorem zzm {kt:TypeId} {s1 b1:Nat} {z1:Value} (hf:Fits P kt .str s1 b1 z1):KeyOk P kt HVal.str:=by
 haveI:Tracks:=⟨true⟩
 have hk: ∀x y:Str,zdD .str (.str x) (.str y)=true:=fun x y=>rfl
 refine ⟨fun I x v b w hv=>zhD hf (hk x x) hv b 9999 w,fun I x y u v w hu hv=> ?_,fun I x v es w hv hes=> ?_,fun I x u v hu hv=> ?_⟩
 have:=zdd hf (hk x y) hu hv 9999 w
 show (Op.equalIn (9999+1) kt u v).run P w=_
 rw [this]
 show Result.ok (x==y) w=_
 congr 1
 rw [AF];simp;obtain rfl:=hv.str_inv;have key: ∀(es:List MapEntry) (i:Nat),(∀m∈es,∃y,V I (.str y) m.key)->∃r,Instr.findNow .string (.string ⟨x.toArray⟩) es i=some r/\(Instr.findAsking kt (.string ⟨x.toArray⟩) es i).run P w= .ok r w:=by
  intro es
  induction es with
  |nil=>intro i _;exact ⟨none,rfl,by simp [Instr.findAsking]⟩
  |cons m es ih=>
    intro i h
    obtain ⟨y,hy⟩:=h m Al;have hq:=zdd hf (hk x y) (V.str x) hy 9999 w;have hq':(Op.equal kt (.string ⟨x.toArray⟩) m.key).run P w= .ok (x==y) w:=hq;have hy':=hy.str_inv;have hb:((⟨x.toArray⟩:ByteArray)==⟨y.toArray⟩)=(x==y):=by rw [zi6,AF];simp
    by_cases e:x=y
    have e1:(x==y)=true:=by simpa using e
    refine ⟨some (i,m.val),?_,?_⟩
    simp only [Instr.findNow,Instr.sameNow,hy',hb,e1];simp only [Instr.findAsking,Sem.run_bind,hq',Result.andThen_ok,e1]
    simp
    obtain ⟨r,r1,r2⟩:=ih (i+1) fun m' hm'=>h m' (Ao _ hm')
    have:(x==y)=false:=by simpa using e
    refine ⟨r,?_,?_⟩
    simp only [Instr.findNow,Instr.sameNow,hy',hb,this];exact r1;simp only [Instr.findAsking,Sem.run_bind,hq',Result.andThen_ok,this];exact r2
 obtain ⟨r,r1,r2⟩:=key es 0 hes;simp only [Instr.findKey,Sem.run_bind,run_underlying hf.strD,Result.andThen_ok,r1,Sem.run_pure,r2];obtain rfl:=hu.str_inv;obtain rfl:=hv.str_inv
 show Instr.sameBits (9999+1) _ _=true
 simp only [Instr.sameBits];rw [zi6];simp
section
variable {α:Type} {e:Env} {dst:Option Tmp} {ty:TypeId} {pos:String} {af:Array Edge} {g:Option (Nat×Bool)} {M:List MObj} {K:HVal->List MObj->Prop}
theorem zxl [Tracks] {o:Oper} {K K':HVal->List MObj->Prop} (hk: ∀h M',K h M'->∃h2,Weak h h2/\K' h2 M') (h:EOp P e M o K):EOp P e M o K':=
 fun I F a w ho hs=>za9 (fun _ _ ⟨v,x,M',J,h1,h2,h3,h4,h5⟩=>by
  obtain ⟨y,g1,g2⟩:=hk _ _ h3;exact ⟨v,y,M',J,h1,h2,g2,g1 _ _ h4,h5⟩) (h I F a w ho hs)
theorem zfR [Tracks] {x y:Operand} {t kt et:TypeId} {size bytes s2 b2 s3 b3:Nat} {zero z2 z3:Value} {d:TD} {i b:Nat} {f:α->HVal} {L:List (Str×α)} {s:Str} {z0:α}
 (hf:Fits P t (.map kt et) size bytes zero) (hkt:Fits P kt .str s2 b2 z2) (het:Fits P et d s3 b3 z3) (hx:zi e x=some (.raw (.map (some b)))) (hy:zi e y=some (.str s)) (hm:M[i]? =some (.map b (sk (em f L)))) (hz:Weak (zaM z3) (f z0))
 (hk:K (f ((alk s L).getD z0)) M):EOp P e M ⟨dst,.lookup t x y false,ty,pos,af,g⟩ K:=by
 refine zxl (K:=fun h M'=>Weak h (f ((alk s L).getD z0))/\M'=M) (fun h M' ⟨h1,h2⟩=>⟨_,h1,by rw [h2];exact hk⟩) ?_;refine zne hf hkt het hx hy hm ?_;have h1:=znv f s L
 cases h:z8 s (em f L) with
 |none=>
   rw [h] at h1;have:alk s L=none:=by cases q:alk s L with|none=>rfl|some _=>rw [q] at h1;cases h1
   rw [this];exact ⟨hz,rfl⟩
 |some p=>
   rw [h] at h1;obtain ⟨q,hq,hp⟩: ∃q,alk s L=some q/\p.2=f q:=by
    cases q:alk s L with
    |none=>rw [q] at h1;cases h1
    |some r=>rw [q] at h1;exact ⟨r,rfl,Ay h1⟩
   rw [hq];refine ⟨?_,rfl⟩
   show Weak p.2 (f q)
   rw [hp];exact Weak.refl _
theorem znQ [Tracks] {x y:Operand} {t kt et:TypeId} {size bytes s2 b2 s3 b3:Nat} {zero z2 z3:Value} {d:TD} {i b:Nat} {f:α->HVal} {L:List (Str×α)} {s:Str}
 (hf:Fits P t (.map kt et) size bytes zero) (hkt:Fits P kt .str s2 b2 z2) (het:Fits P et d s3 b3 z3) (hx:zi e x=some (.raw (.map (some b)))) (hy:zi e y=some (.str s)) (hm:M[i]? =some (.map b (sk (em f L))))
 (hk: ∀(j st:Nat),zbG s (zdz s (zaM z3) (em f L))=some j->K (.tup [(klk s (em f L)).getD (zaM z3),.int .i64 (st:Int)]) (M.set i (.mape b (kk HVal.str (zdz s (zaM z3) (em f L))) j st))):EOp P e M ⟨dst,.mapEntry t x y,ty,pos,af,g⟩ K:=
 zoK (ek:=HVal.str) hf (zzm hkt) het hx hy hm hk
theorem zlu [Tracks] {x y z:Operand} {t:TypeId} {i b j st:Nat} {f:α->HVal} {L:List (Str×α)} {s:Str} {h0:HVal} {v:α}
 (hx:zi e x=some (.raw (.map (some b)))) (hy:zi e y=some (.int .i64 (st:Int))) (hz:zi e z=some (f v)) (hm:M[i]? =some (.mape b (kk HVal.str (zdz s h0 (em f L))) j st)) (hj:zbG s (zdz s h0 (em f L))=some j)
 (hk:K .junk (M.set i (.map b (sk (em f (zz s v L)))))):EOp P e M ⟨dst,.entryStore t x y z,ty,pos,af,g⟩ K:=by
 refine zmu (ek:=HVal.str) hx hy hz hm hj ?_;rw [ztf,zpw];exact hk
end
end
end Go.HL
namespace Go.Proofs
section
open Go.Shelf
def Tryz.lays222_ren:Go.Shelf.Ren:=⟨fun|22=>414|29=>421|30=>422|36=>424|17=>130|n=>n,fun|24=>33|9=>9|3=>3|4=>4|0=>0|n=>n,fun|n=>n⟩
theorem zuM:Go.Proofs.Lays2.n22 Tryz.prog Tryz.lays222_ren:={
 mixed:=by kernel_rfl
 f17:=Tryz.func130.trans (congrArg some (by kernel_rfl))
 f22:=Tryz.func414.trans (congrArg some (by kernel_rfl))
 f29:=Tryz.func421.trans (congrArg some (by kernel_rfl))
 f30:=Tryz.func422.trans (congrArg some (by kernel_rfl))
 f36:=Tryz.func424.trans (congrArg some (by kernel_rfl))
 t0:=Tryz.underlying0
 a0:=Tryz.isAgg0
 z0:=Tryz.sizeOf0
 v0:=Tryz.zeroValue0
 t3:=Tryz.underlying3
 a3:=Tryz.isAgg3
 z3:=Tryz.sizeOf3
 v3:=Tryz.zeroValue3
 t4:=Tryz.underlying4
 a4:=Tryz.isAgg4
 z4:=Tryz.sizeOf4
 v4:=Tryz.zeroValue4
 t9:=Tryz.underlying9
 a9:=Tryz.isAgg9
 z9:=Tryz.sizeOf9
 v9:=Tryz.zeroValue9
 t24:=Tryz.underlying33
 a24:=Tryz.isAgg33
 z24:=Tryz.sizeOf33
 v24:=Tryz.zeroValue33
 i9:=by kernel_rfl}
end
end Go.Proofs
namespace Go.Proofs.YtnfmbjchkjijpaaGreatDoor
set_option maxRecDepth 100000
set_option linter.unusedVariables false
set_option linter.unusedSimpArgs false
section
open Go.Proofs.Tryz
open Go.HL
theorem zd3 [Tracks] {l:List Str} {fid:FuncId} {caps:List HVal} {p:Str->Bool} (hca:Callable prog fid) (hp: ∀x,ConP prog fid ([HVal.str x]++caps) (.bool (p x))) (hl:l.length<=1000000):ConP prog 179 [.slice 1 (l.map HVal.str),.fn (.func fid) [] caps] (.int .i64 (zW p l 0)):=by
 refine uOb func179 ntmps179 ?_;refine zay ?_;refine uT1 [4,2,8,11] (fun k=>[(8,.int .i64 k)]) (fun k=>[]) (fun k=>k<=l.length/\(zW p l 0=zW p (l.drop k) k)) (fun k=>l.length-k) (0) ?_ ?_;exact ⟨Ad _,rfl⟩;rintro k ⟨hk,hg⟩;refine gz4 ?_;refine uCo (fun h1=> ?_) fun h2=> ?_
 obtain ⟨x,hx⟩: ∃x,l[k]? =some x:=⟨_,Aa h1⟩
 have hdx:=zg hx;rw [hdx] at hg;refine zda ?_;refine dq (zag hca rfl rfl (WeakL.refl _) (hp _)) ?_;refine gz1 ?_;refine uCo (fun h3=> ?_) fun h4=> ?_
 refine gz5 ?_;refine uRp ?_
 (rw [hg];simp_all [zW])
 refine gz7 ?_;refine ⟨k+1,?_,?_,⟨rfl,trivial⟩,uK,Ac _⟩
 refine ⟨by omega,?_⟩
 rw [hg,zW,if_neg uSa];rfl
 dsimp only;omega
 have hnk:l.length<=k:=by omega
 obtain rfl:k=l.length:=by omega
 rw [zC (Ae _)] at hg;refine gz2 ?_;refine zu ?_;refine gz6 ?_;refine uRp ?_
 (rw [hg];rfl)
theorem zgI [Tracks] {l:List Str} {fid:FuncId} {caps:List HVal} {p:Str->Bool} (hca:Callable prog fid) (hp: ∀x,ConP prog fid ([HVal.str x]++caps) (.bool (p x))) (hl:l.length<=1000000):ConP prog 113 [.slice 1 (l.map HVal.str),.fn (.func fid) [] caps] (.bool (l.any p)):=by
 refine uOb func113 ntmps113 ?_;refine gz6 ?_;refine dq (uCl zxE rfl (zd3 hca hp hl)) ?_;refine gz4 ?_;refine zt rfl ?_
 congr 1;exact zcH p l 0 uO
theorem zbx [Tracks] {l:List Str} {fid:FuncId} {caps:List HVal} {p:Str->Bool} {v:Value} (hca:Callable prog fid) (hp: ∀x,ConP prog fid ([HVal.str x]++caps) (.bool (p x))) (hl:l.length<=1000000):Con prog 415 [.raw v,.fn (.func fid) [] caps] [.arr v 1 (l.map HVal.str)] (fun x M'=> ∃u,x= .raw u/\M'=[.arr u 1 ((l.filter (fun x=> !p x)).map HVal.str)]):=by
 refine uOb func415 ntmps415 ?_;refine gz6 ?_;refine de rfl (zls (hs':=[.slice 1 (l.map HVal.str),.fn (.func fid) [] caps]) zxE rfl ⟨.arr (i:=0) rfl,.weak (Weak.refl _),trivial⟩ (zd3 (p:=p) hca hp hl) rfl ?_)
 refine gz7 ?_;refine uCo (fun h1=> ?_) fun h2=> ?_
 ·refine gz5 ?_
  (refine zah rfl ⟨_,rfl,?_⟩
   rw [zhT p l 0 uO h1]
   done)
 ·refine gz3 ?_;obtain ⟨i0,hi0,hil,⟨x0,hx0,hp0⟩,hb0⟩:=zgQ p l 0 uO h2;rw [Int.zero_add] at hi0;obtain ⟨hD0,hn0⟩:=DelInv.start (p:=p) hil hx0 hp0 hb0;refine zbV (i:=0) rfl (fun h0 he=> ?_) (fun b off cap hv hcap=> ?_)
  ·exfalso;have:=congrArg List.length he;simp at this;subst this;simp at hil
  rw [Af] at hv hcap;subst hv;refine gz2 ?_;refine dq (zY (zbi rfl rfl (by rw [hi0];omega) (by rw [hi0];omega)) (congrArg _ (by rw [hi0]))) ?_;refine gz3 ?_;refine uV2 [5,3,16,20] (fun (j:Nat) (D:List Str)=>[(6,.int .i64 (j:Int)),(5,.int .i64 (((l.take j).filter (fun x=> !p x)).length:Int))]) (fun (j:Nat) (D:List Str)=>[.arr (.slice (some ⟨b,off,none⟩) l.length cap) 1 (D.map HVal.str)]) (fun (j:Nat) (D:List Str)=>DelInv p l j D) (fun (j:Nat) (D:List Str)=>l.length-j) (i0+1) (l) ?_ ?_ ?_ ?_
  ·exact hD0
  ·exact ⟨rfl,zP (by rw [hn0,hi0]),trivial⟩
  ·exact Ac _
  ·intro j D hD
   have hlt0:=hD.lt;have hle0:=hD.len;refine gz4 ?_;refine de rfl (zau (i:=0) zp rfl rfl ?_)
   refine gz2 ?_;refine uCo (fun h3=> ?_) fun h4=> ?_
   ·obtain ⟨x,hx⟩: ∃x,l[j]? =some x:=⟨_,Aa uO⟩
    refine gz7 ?_;refine dq (zv (j:=j) zp ty9 rfl rfl rfl uO) ?_;refine de rfl (zae (i:=0) (j:=j) 0 ty9 rfl rfl rfl (hD.get hx) rfl rfl ?_)
    refine gz5 ?_;refine dq (zag hca rfl rfl (WeakL.refl _) (hp _)) ?_;refine gz2 ?_;refine uCo (fun h5=> ?_) fun h6=> ?_
    ·refine gz4 ?_;refine dq (zv (j:=((l.take j).filter (fun x=> !p x)).length) zp ty9 rfl rfl rfl (by have:=hD.lt;omega)) ?_;refine de0 (zaH (i:=0) (j:=((l.take j).filter (fun x=> !p x)).length) (y:=D[((l.take j).filter (fun x=> !p x)).length]'(by have:=hD.lt;have:=hD.len;omega)) (y':=x) ty9 rfl rfl rfl rfl (Aa _) rfl rfl rfl ?_)
     refine gz3 ?_;refine dq (zbi rfl rfl uO (by have:=hD.lt;omega)) ?_;refine gz9 ?_;exact ⟨j+1,_,(hD.keep hx uSa).1,uD,⟨rfl,zP (by rw [(hD.keep hx uSa).2];rfl),trivial⟩,uK,Ac _⟩
    ·refine gz8 ?_;exact ⟨j+1,_,(hD.skip hx uSa).1,uD,⟨rfl,zP (by rw [(hD.skip hx uSa).2]),trivial⟩,uK,Ac _⟩
   ·obtain rfl:j=l.length:=by have:=hD.jle;omega
    have hend:=hD.done;refine gz2 ?_;refine zI ?_;refine gz5 ?_;refine dq (zfn (l:=((l.take l.length).filter (fun x=> !p x)).length) zp ty9 rfl ⟨_,_,rfl,rfl⟩ rfl uO uO hcap) ?_;refine de0 (ze9 (i:=0) (m:=((l.take l.length).filter (fun x=> !p x)).length) (((l.take l.length).filter (fun x=> !p x)).length) zp ty9 rfl rfl rfl (ziN uO hcap) rfl uO (Ae _) (by rw [Af,hD.len];omega) ?_)
    refine gz4 ?_;refine dq (zgS (h:=((l.take l.length).filter (fun x=> !p x)).length) zp ty9 rfl ⟨_,_,rfl,rfl⟩ uO) ?_;refine gz3 ?_
    (refine zah rfl ⟨_,rfl,?_⟩
     rw [Ai,<-BH,hend];rfl)
theorem zus [Tracks]:KeyOk prog 458 eWk:=zgu (cs:=fun x:Str×Int=>zb (eWk x)) zyD zG1 (fun x y=>⟨rfl,⟨_,_,_,_,ty9,rfl⟩,⟨rfl,⟨_,_,_,_,ty3,rfl⟩,trivial⟩⟩)
 (fun x y=>by obtain ⟨a,b⟩:=x;obtain ⟨c,d⟩:=y;show (_&&(_&&true))=_;rw [AF];simp [eqH,Prod.mk.injEq]) (fun x=>rfl)
theorem zq5 [Tracks] {v:Value} {l:List Str} {s:Str} {i ub:Nat} {el2:TypeId} (hi:i<=l.length) (hl:l.length<=1000000):
 Con prog 414 [.raw v,.int .i64 i,.raw (.slice (some ⟨ub,0,none⟩) 1 1)] [.arr v 1 (l.map .str),.obj ub (.cells #[zbF s] el2 (0,0))]
  fun x M'=> ∃v',x= .raw v'/\M'=[.arr v' 1 ((zf8 l i s).map .str),.obj ub (.cells #[zbF s] el2 (0,0))]:=zxR zuM hi hl
theorem zDz [Tracks] (l:List Str) (s:Str):zck l s<=l.length:=List.countP_le_length
theorem zf3 [Tracks] {x s:Str}:ConP prog 416 [.str x,.vptr [.str s] 0] (.bool (x==s)):=by
 refine uOb func416 ntmps416 ?_;refine zay ?_;refine zt rfl ?_
 rfl
theorem zhj [Tracks] {l:List Str} {s:Str} (hl:l.length<=1000000):ConP prog 402 [eSs l,.str s] (eSs (ziI l s)):=by
 refine uOb func402 ntmps402 ?_;refine gz6 ?_;refine de rfl (uCa zkD rfl (zaf uS) fun v6=> ?_)
 refine gz1 ?_
 focus first
 |refine de rfl (uCx 0 zuk rfl rfl (zbx (l:=l) (p:=fun x=>x==s) zul (fun _=>zf3) hl) ?_)
 |refine de rfl (uCx 1 zuk rfl rfl (zbx (l:=l) (p:=fun x=>x==s) zul (fun _=>zf3) hl) ?_)
 |refine de rfl (uCx 2 zuk rfl rfl (zbx (l:=l) (p:=fun x=>x==s) zul (fun _=>zf3) hl) ?_)
 |refine de rfl (uCx 3 zuk rfl rfl (zbx (l:=l) (p:=fun x=>x==s) zul (fun _=>zf3) hl) ?_)
 rintro _ _ ⟨u8,rfl,rfl⟩;refine gz3 ?_;refine zao (zn7 4 rfl) rfl ⟨?_,rfl⟩
 rfl
theorem zkA [Tracks] {l:List Str} {s:Str} (hl:l.length<=1000000) (hs:SortedS l):ConP prog 401 [eSs l,.str s] (eSs (zgs l s)):=by
 refine uOb func401 ntmps401 ?_;refine gz6 ?_;refine dq (uCl zGT rfl (zgH uS uS)) ?_;refine gz8 ?_;refine de rfl (uCa zkD rfl (zaf uS) fun v14=> ?_)
 refine gz2 ?_;refine de rfl (zrh zp ty9 rfl rfl fun ub=> ?_)
 refine de rfl (zaV (M1:=[.arr v14 1 (l.map .str),.obj ub (.cells #[zbF s] _ (0,0))]) (R:=[]) zGU rfl (WeakL.refl _) (List.Perm.swap _ _ _) (zq5 (i:=zck l s) (zDz l s) hl) ?_)
 rintro _ _ ⟨v18,rfl,rfl⟩;refine gz3 ?_;refine zao ((zaD 4 (i:=0) rfl rfl).trans Ghost.clear) rfl ⟨?_,rfl⟩
 rfl
theorem zot [Tracks] {kb pb hb ob db ab:Nat} {b:BoundS} {k:RosS} {p:Str} {n:Int} (hn:0<=n/\n<=345686399999) (hD: ∀q∈k.D,0<=q.2/\q.2<=345686399999):Con prog 412 [.raw (.pointer (some ⟨kb,0,none⟩)),.str p,.int .i64 n] (zdC kb pb hb ob db ab b k) (fun x M'=>x= .bool (zyp b k p n)/\M'=(zdC kb pb hb ob db ab b k)):=by
 have hq0:0<=(alk p k.D).getD 0/\(alk p k.D).getD 0<=345686399999:=by
  cases hq:alk p k.D with
  |none=>simp
  |some d=>exact hD (p,d) (zbR hq)
 refine uOb func412 ntmps412 ?_;refine gz5 ?_;refine dq ((by first|exact zw rfl|exact zl rfl)) ?_;refine gz1 ?_;refine de rfl (uZ 0 ?_)
 refine gz1 ?_;refine de rfl (zkK (i:=4) (f:=HVal.int .i64) (z0:=(0:Int)) ze1 ty9 ty3 rfl rfl rfl rfl ?_)
 refine zdy ?_;refine uGr rfl (fun hc=>(by first|exact zw rfl|exact zl rfl)) ?_;refine gz2 ?_;refine dgl rfl rfl (fun hc=>⟨_,OpenTo.upd (t:=26) rfl uC (OpenTo.refl _),zar (i:=0) ty3 rfl rfl (.inl ⟨rfl,rfl⟩) ⟨rfl,rfl⟩⟩) ?_;refine gz5 ?_;refine zah rfl ⟨?_,rfl⟩
 show HVal.bool _=_
 unfold zyp
 cases alk p k.D with
 |none=>rfl
 |some d=>simp
theorem zpS [Tracks] {kb pb hb ob db ab:Nat} {b:BoundS} {k:RosS} {x:MoveS} (hx:0<=x.At/\x.At<=345686399999) (hD: ∀q∈k.D,0<=q.2/\q.2<=345686399999) (hP: ∀t,(rPl k t).length<=1000000) (hH: ∀t,(rHu k t).length<=1000000):Con prog 400 [.raw (.pointer (some ⟨kb,0,none⟩)),zdu x] (zdC kb pb hb ob db ab b k) (fun x1 M'=>x1= .int .i64 (zep b k x)/\M'=(zdC kb pb hb ob db ab b k)):=by
 refine uOb func400 ntmps400 ?_;refine gz4 ?_;refine zbb (fun M=>M=(zdC kb pb hb ob db ab b k)) [3,6,10,13,17,20] mixed ?_;refine gz1 ?_;refine uB 1 rfl ((by first|exact zw rfl|exact zl rfl)) ?_;refine gz1 ?_;refine uM 3 rfl rfl (fun M hM=>by subst hM;exact zar (i:=0) ziZ rfl rfl (.inl ⟨rfl,rfl⟩) ⟨rfl,rfl⟩) ?_;refine uB 4 rfl ((by first|exact zh zG rfl ty9 (by decide) rfl|exact zd zG rfl ty9 (by decide) rfl)) ?_;refine gz1 ?_;refine uM 6 rfl rfl (fun M hM=>by subst hM;exact zfQ (i:=3) (f:=HVal.str) (z0:=([]:Str)) ziZ ty9 ty9 rfl rfl rfl rfl ⟨rfl,rfl⟩) ?_;refine gz1 ?_;refine uB 8 rfl ((by first|exact zw rfl|exact zl rfl)) ?_;refine gz1 ?_;refine uM 10 rfl rfl (fun M hM=>by subst hM;exact zar (i:=0) zdL rfl rfl (.inl ⟨rfl,rfl⟩) ⟨rfl,rfl⟩) ?_;refine uB 11 rfl ((by first|exact zh zG rfl ty9 (by decide) rfl|exact zd zG rfl ty9 (by decide) rfl)) ?_;refine gz1 ?_;refine uM 13 rfl rfl (fun M hM=>by subst hM;exact zfR (i:=1) (f:=eSs) (z0:=([]:List Str)) zdL ty9 zp rfl rfl rfl (zM 1) ⟨rfl,rfl⟩) ?_;refine gz1 ?_;refine uB 15 rfl ((by first|exact zw rfl|exact zl rfl)) ?_;refine gz1 ?_;refine uM 17 rfl rfl (fun M hM=>by subst hM;exact zar (i:=0) zdL rfl rfl (.inl ⟨rfl,rfl⟩) ⟨rfl,rfl⟩) ?_;refine uB 18 rfl ((by first|exact zh zG rfl ty9 (by decide) rfl|exact zd zG rfl ty9 (by decide) rfl)) ?_;refine gz1 ?_;refine uM 20 rfl rfl (fun M hM=>by subst hM;exact zfR (i:=2) (f:=eSs) (z0:=([]:List Str)) zdL ty9 zp rfl rfl rfl (zM 1) ⟨rfl,rfl⟩) ?_;refine gz6 ?_;refine dq ((by first|exact zh zG rfl ty3 (by decide) rfl|exact zd zG rfl ty3 (by decide) rfl)) ?_;refine gz7 ?_;refine uCo (fun h1=> ?_) fun h2=> ?_
 refine gz3 ?_;refine dq ((by first|exact zh zG rfl ty9 (by decide) rfl|exact zd zG rfl ty9 (by decide) rfl)) ?_;refine gz4 ?_;refine uCo (fun h3=> ?_) fun h4=> ?_
 refine gz4 ?_;refine zah rfl ⟨?_,rfl⟩
 show HVal.int .i64 _=_
 refine congrArg _ ?_;unfold zep
 focus first
 |(simp_all [zbw,zbj,rPl,rHu];done)
 |(simp_all [zbw,zbj,rPl,rHu];(repeat' split)<;>first|rfl|(exfalso;omega)|omega)
 refine gz5 ?_;refine uCo (fun h5=> ?_) fun h6=> ?_
 refine gz4 ?_;refine zah rfl ⟨?_,rfl⟩
 show HVal.int .i64 _=_
 refine congrArg _ ?_;unfold zep
 focus first
 |(simp_all [zbw,zbj,rPl,rHu];done)
 |(simp_all [zbw,zbj,rPl,rHu];(repeat' split)<;>first|rfl|(exfalso;omega)|omega)
 refine gz2 ?_;refine dq ((by first|exact zh zG rfl ty9 (by decide) rfl|exact zd zG rfl ty9 (by decide) rfl)) ?_;refine gz1 ?_;refine dq ((by first|exact zh zG rfl ty3 (by decide) rfl|exact zd zG rfl ty3 (by decide) rfl)) ?_;refine gz1 ?_;refine de rfl (zaV (M1:=(zdC kb pb hb ob db ab b k)) (R:=[]) zGS rfl (WeakL.refl _) (by rw [A9]) (zot hx hD) ?_)
 rintro _ _ ⟨rfl,rfl⟩;refine gz2 ?_;refine uCo (fun h7=> ?_) fun h8=> ?_
 refine gz4 ?_;refine zah rfl ⟨?_,rfl⟩
 show HVal.int .i64 _=_
 refine congrArg _ ?_;unfold zep
 focus first
 |(simp_all [zbw,zbj,rPl,rHu];done)
 |(simp_all [zbw,zbj,rPl,rHu];(repeat' split)<;>first|rfl|(exfalso;omega)|omega)
 refine zbb (fun M=>M=(zdC kb pb hb ob db ab b k)) [3,10,15] mixed ?_;refine gz1 ?_;refine uB 1 rfl ((by first|exact zw rfl|exact zl rfl)) ?_;refine gz1 ?_;refine uM 3 rfl rfl (fun M hM=>by subst hM;exact zar (i:=0) zj3 rfl rfl (.inl ⟨rfl,rfl⟩) ⟨rfl,rfl⟩) ?_;refine uB 4 rfl ((by first|exact zh zG rfl ty9 (by decide) rfl|exact zd zG rfl ty9 (by decide) rfl)) ?_;refine gz1 ?_;refine uB 6 rfl ((by first|exact zh zG rfl ty3 (by decide) rfl|exact zd zG rfl ty3 (by decide) rfl)) ?_;refine gz1 ?_;refine uB 8 rfl (zdS rfl rfl uO uO uO) ?_;refine uB 9 rfl (zF (cs:=[_,_]) zyD zCp rfl) ?_;refine uM 10 rfl rfl (fun M hM=>by subst hM;exact zcK (i:=5) (s:=(x.Team,Int.tdiv x.At 604800000)) (f:=HVal.int .i64) (z0:=(0:Int)) zj3 zus ty3 rfl rfl rfl rfl ⟨rfl,rfl⟩) ?_;refine gz1 ?_;refine uB 12 rfl ((by first|exact zw rfl|exact zl rfl)) ?_;refine gz2 ?_;refine uM 15 rfl rfl (fun M hM=>by subst hM;exact zar (i:=0) ty3 rfl rfl (.inl ⟨rfl,rfl⟩) ⟨rfl,rfl⟩) ?_;refine gz3 ?_;refine uCo (fun h9=> ?_) fun h10=> ?_
 refine gz4 ?_;refine zah rfl ⟨?_,rfl⟩
 show HVal.int .i64 _=_
 refine congrArg _ ?_;unfold zep
 focus first
 |(simp_all [zbw,zbj,rPl,rHu];done)
 |(simp_all [zbw,zbj,rPl,rHu];(repeat' split)<;>first|rfl|(exfalso;omega)|omega)
 refine gz2 ?_;refine dq (zav (f:=HVal.str) (l:=rPl k x.Team) zp rfl) ?_;refine gz1 ?_;refine dq ((by first|exact zw rfl|exact zl rfl)) ?_;refine gz2 ?_;refine de rfl (uZ 0 ?_)
 refine gz3 ?_;refine uCo (fun h11=> ?_) fun h12=> ?_
 refine gz4 ?_;refine zah rfl ⟨?_,rfl⟩
 show HVal.int .i64 _=_
 refine congrArg _ ?_;unfold zep
 focus first
 |(simp_all [zbw,zbj,rPl,rHu];done)
 |(simp_all [zbw,zbj,rPl,rHu];(repeat' split)<;>first|rfl|(exfalso;omega)|omega)
 refine gz8 ?_;refine zah rfl ⟨?_,rfl⟩
 show HVal.int .i64 _=_
 refine congrArg _ ?_;unfold zep
 focus first
 |(simp_all [zbw,zbj,rPl,rHu];done)
 |(simp_all [zbw,zbj,rPl,rHu];(repeat' split)<;>first|rfl|(exfalso;omega)|omega)
 refine gz4 ?_;refine uCo (fun h13=> ?_) fun h14=> ?_
 refine gz2 ?_;refine dq ((by first|exact zh zG rfl ty9 (by decide) rfl|exact zd zG rfl ty9 (by decide) rfl)) ?_;refine gz3 ?_;refine uCo (fun h15=> ?_) fun h16=> ?_
 refine gz4 ?_;refine zah rfl ⟨?_,rfl⟩
 show HVal.int .i64 _=_
 refine congrArg _ ?_;unfold zep
 focus first
 |(simp_all [zbw,zbj,rPl,rHu];done)
 |(simp_all [zbw,zbj,rPl,rHu];(repeat' split)<;>first|rfl|(exfalso;omega)|omega)
 refine gz7 ?_;refine zah rfl ⟨?_,rfl⟩
 show HVal.int .i64 _=_
 refine congrArg _ ?_;unfold zep
 focus first
 |(simp_all [zbw,zbj,rPl,rHu];done)
 |(simp_all [zbw,zbj,rPl,rHu];(repeat' split)<;>first|rfl|(exfalso;omega)|omega)
 refine gz4 ?_;refine uCo (fun h17=> ?_) fun h18=> ?_
 refine gz3 ?_;refine dq ((by first|exact zh zG rfl ty9 (by decide) rfl|exact zd zG rfl ty9 (by decide) rfl)) ?_;refine gz1 ?_;refine dq (uCl zh9 rfl (zO (l:=rPl k x.Team) (by have:=hP x.Team;omega))) ?_;refine gz3 ?_;refine uCo (fun h19=> ?_) fun h20=> ?_
 refine gz4 ?_;refine zah rfl ⟨?_,rfl⟩
 show HVal.int .i64 _=_
 refine congrArg _ ?_;unfold zep
 focus first
 |(simp_all [zbw,zbj,rPl,rHu];done)
 |(simp_all [zbw,zbj,rPl,rHu];(repeat' split)<;>first|rfl|(exfalso;omega)|omega)
 refine gz2 ?_;refine dq (zav (f:=HVal.str) (l:=rHu k x.Team) zp rfl) ?_;refine gz1 ?_;refine dq ((by first|exact zw rfl|exact zl rfl)) ?_;refine gz2 ?_;refine de rfl (uZ 0 ?_)
 refine gz3 ?_;refine uCo (fun h21=> ?_) fun h22=> ?_
 refine gz4 ?_;refine zah rfl ⟨?_,rfl⟩
 show HVal.int .i64 _=_
 refine congrArg _ ?_;unfold zep
 focus first
 |(simp_all [zbw,zbj,rPl,rHu];done)
 |(simp_all [zbw,zbj,rPl,rHu];(repeat' split)<;>first|rfl|(exfalso;omega)|omega)
 refine gz8 ?_;refine zah rfl ⟨?_,rfl⟩
 show HVal.int .i64 _=_
 refine congrArg _ ?_;unfold zep
 focus first
 |(simp_all [zbw,zbj,rPl,rHu];done)
 |(simp_all [zbw,zbj,rPl,rHu];(repeat' split)<;>first|rfl|(exfalso;omega)|omega)
 refine gz4 ?_;refine uCo (fun h23=> ?_) fun h24=> ?_
 refine gz3 ?_;refine dq ((by first|exact zh zG rfl ty9 (by decide) rfl|exact zd zG rfl ty9 (by decide) rfl)) ?_;refine gz1 ?_;refine dq (uCl zh9 rfl (zO (l:=rHu k x.Team) (by have:=hH x.Team;omega))) ?_;refine gz3 ?_;refine uCo (fun h25=> ?_) fun h26=> ?_
 refine gz4 ?_;refine zah rfl ⟨?_,rfl⟩
 show HVal.int .i64 _=_
 refine congrArg _ ?_;unfold zep
 focus first
 |(simp_all [zbw,zbj,rPl,rHu];done)
 |(simp_all [zbw,zbj,rPl,rHu];(repeat' split)<;>first|rfl|(exfalso;omega)|omega)
 refine gz2 ?_;refine dq (zav (f:=HVal.str) (l:=rPl k x.Team) zp rfl) ?_;refine gz1 ?_;refine dq ((by first|exact zw rfl|exact zl rfl)) ?_;refine gz2 ?_;refine de rfl (uZ 0 ?_)
 refine gz3 ?_;refine uCo (fun h27=> ?_) fun h28=> ?_
 refine gz4 ?_;refine zah rfl ⟨?_,rfl⟩
 show HVal.int .i64 _=_
 refine congrArg _ ?_;unfold zep
 focus first
 |(simp_all [zbw,zbj,rPl,rHu];done)
 |(simp_all [zbw,zbj,rPl,rHu];(repeat' split)<;>first|rfl|(exfalso;omega)|omega)
 refine gz8 ?_;refine zah rfl ⟨?_,rfl⟩
 show HVal.int .i64 _=_
 refine congrArg _ ?_;unfold zep
 focus first
 |(simp_all [zbw,zbj,rPl,rHu];done)
 |(simp_all [zbw,zbj,rPl,rHu];(repeat' split)<;>first|rfl|(exfalso;omega)|omega)
 refine gz7 ?_;refine zah rfl ⟨?_,rfl⟩
 show HVal.int .i64 _=_
 refine congrArg _ ?_;unfold zep
 focus first
 |(simp_all [zbw,zbj,rPl,rHu];done)
 |(simp_all [zbw,zbj,rPl,rHu];(repeat' split)<;>first|rfl|(exfalso;omega)|omega)
end
end Go.Proofs.YtnfmbjchkjijpaaGreatDoor
namespace Go.HL
section
open Go
theorem zpd {b:BoundS} {n:Int} {x:MoveS}: ∀{l:List MoveS} {i:Nat} {k:RosS},l[i]? =some x->ziJ b n k (l.take (i+1))=if x.At<=n then ziK b (ziJ b n k (l.take i)) x else ziJ b n k (l.take i)
 |[],i,k,h=>by cases i<;>cases h
 |y::r,0,k,h=>by
   obtain rfl:=Ay h
   rfl
 |y::r,i+1,k,h=>by
   show ziJ b n _ (r.take (i+1))=if x.At<=n then ziK b (ziJ b n _ (r.take i)) x else ziJ b n _ (r.take i)
   exact zpd (l:=r) h
structure RosW (k:RosS):Prop where
 p: ∀t,SortedS (rPl k t)/\(rPl k t).length<=100000
 h: ∀t,SortedS (rHu k t)/\(rHu k t).length<=100000
 a: ∀w,0<=zbj k w/\zbj k w<=100000
 dr: ∀q∈k.D,0<=q.2/\q.2<=345686399999
 dj: ∀t p,p∈rPl k t->p∉rHu k t
theorem RosOk.w {n:Nat} {k:RosS} (h:RosOk n k) (hn:n<=100000):RosW k:=
 ⟨fun t=>⟨(h.sp t).1,by have:=(h.sp t).2.1;omega⟩,fun t=>⟨(h.sh t).1,by have:=(h.sh t).2.1;omega⟩,fun w=>by have:=h.ad w;omega,h.dr,h.dj⟩
theorem zzN {b:BoundS} {l:List MoveS} {n:Int} (hl: ∀x∈l,(0<=x.At/\x.At<=345686399999)/\(1<=x.Kind/\x.Kind<=4)/\x.Team≠[]) (hn:l.length<=2000) (i:Nat):RosW (ziJ b n zsN (l.take i)):=
 (zw7 (b:=b) (m:=n) zDF (l:=l.take i) fun x hx=>hl x (AJ hx)).w (by rw [Am];omega)
def zlI (b:BoundS) (l:List MoveS) (p:Str) (n:Int):Int:=if orI [zdZ b,zgv l]≠0 then orI [zdZ b,zgv l] else if key p=false then 5 else if zac n=false then 1 else 0
def frE (b:BoundS) (l:List MoveS) (ps:List Str) (n:Int):Int:=
 if orI [zdZ b,zgv l]≠0 then orI [zdZ b,zgv l] else if 500<ps.length then 2 else if (ps.any fun s=> !key s)=true then 5 else if zac n=false then 1 else 0
theorem zDQ {b:BoundS} {l:List MoveS} {p:Str} {n:Int} (h:zlI b l p n=0):zgv l=0/\key p=true/\zac n=true:=by
 unfold zlI at h
 by_cases h1:orI [zdZ b,zgv l]≠0
 rw [if_pos h1] at h;exact absurd h h1;rw [if_neg h1] at h
 by_cases h2:key p=false
 rw [if_pos h2] at h;cases h;rw [if_neg h2] at h
 by_cases h3:zac n=false
 rw [if_pos h3] at h;cases h;exact ⟨(zvv (Decidable.not_not.1 h1)).2,by simpa using h2,by simpa using h3⟩
theorem zCO {b:BoundS} {l:List MoveS} {ps:List Str} {n:Int} (h1:orI [zdZ b,zgv l]=0) (h2: ¬500<ps.length) (h3:(ps.any fun s=> !key s)=false) (h4:zac n=true):frE b l ps n=0:=by
 unfold frE;rw [if_neg (fun q=>q h1),if_neg h2,if_neg (by rw [h3];simp),if_neg (by rw [h4];simp)]
theorem zpC {b:BoundS} {l:List MoveS} {n:Int} (hm:zgv l=0):RosW (zho b l n):=by
 obtain ⟨hl,hml⟩:=zzx hm;have:=zzN (b:=b) (n:=n) (l:=l) (fun x hx=>⟨(hml x hx).1,(hml x hx).2.1,fun e=>by have:=(hml x hx).2.2.1;rw [e] at this;cases this⟩) hl l.length;rw [Ai] at this;exact this
end
end Go.HL
namespace Go.Proofs.YtnfmbjchkjijpaaGreatDoor
set_option maxRecDepth 100000
set_option linter.unusedVariables false
set_option linter.unusedSimpArgs false
section
open Go.Proofs.Tryz
open Go.HL
theorem zm2 [Tracks] {kb pb hb ob db ab:Nat} {b:BoundS} {k:RosS} {x:MoveS} (hx:0<=x.At/\x.At<=345686399999) (hk:1<=x.Kind/\x.Kind<=4) (hP: ∀t,SortedS (rPl k t)/\(rPl k t).length<=100000) (hH: ∀t,SortedS (rHu k t)/\(rHu k t).length<=100000) (hA: ∀w,0<=zbj k w/\zbj k w<=100000) (hD: ∀q∈k.D,0<=q.2/\q.2<=345686399999) (hd: ∀t p,p∈rPl k t->p∉rHu k t):Con prog 393 [.raw (.pointer (some ⟨kb,0,none⟩)),zdu x] (zdC kb pb hb ob db ab b k) (fun x1 M'=>x1= .int .i64 (zep b k x)/\M'=(zdC kb pb hb ob db ab b (ziK b k x))):=by
 refine uOb func393 ntmps393 ?_;refine gz7 ?_;refine de rfl (zaV (M1:=(zdC kb pb hb ob db ab b k)) (R:=[]) zGR rfl (WeakL.refl _) (by rw [A9]) (zpS hx hD (fun t=>by have:=(hP t).2;omega) (fun t=>by have:=(hH t).2;omega)) ?_)
 rintro _ _ ⟨rfl,rfl⟩;refine gz2 ?_;refine zbb (fun M=>M=(zdC kb pb hb ob db ab b k)) [3,6,10,13] mixed ?_;refine gz1 ?_;refine uB 1 rfl ((by first|exact zw rfl|exact zl rfl)) ?_;refine gz1 ?_;refine uM 3 rfl rfl (fun M hM=>by subst hM;exact zar (i:=0) zdL rfl rfl (.inl ⟨rfl,rfl⟩) ⟨rfl,rfl⟩) ?_;refine uB 4 rfl ((by first|exact zh zG rfl ty9 (by decide) rfl|exact zd zG rfl ty9 (by decide) rfl)) ?_;refine gz1 ?_;refine uM 6 rfl rfl (fun M hM=>by subst hM;exact zfR (i:=1) (f:=eSs) (z0:=([]:List Str)) zdL ty9 zp rfl rfl rfl (zM 1) ⟨rfl,rfl⟩) ?_;refine gz1 ?_;refine uB 8 rfl ((by first|exact zw rfl|exact zl rfl)) ?_;refine gz1 ?_;refine uM 10 rfl rfl (fun M hM=>by subst hM;exact zar (i:=0) zdL rfl rfl (.inl ⟨rfl,rfl⟩) ⟨rfl,rfl⟩) ?_;refine uB 11 rfl ((by first|exact zh zG rfl ty9 (by decide) rfl|exact zd zG rfl ty9 (by decide) rfl)) ?_;refine gz1 ?_;refine uM 13 rfl rfl (fun M hM=>by subst hM;exact zfR (i:=2) (f:=eSs) (z0:=([]:List Str)) zdL ty9 zp rfl rfl rfl (zM 1) ⟨rfl,rfl⟩) ?_;refine gz3 ?_;refine uVj [6,2,25,76] (fun (q:RosS×List Str×List Str)=>[(6,eSs q.2.1),(7,eSs q.2.2)]) (fun (q:RosS×List Str×List Str)=>(zdC kb pb hb ob db ab b q.1)) (fun (q:RosS×List Str×List Str)=>ziK b k x=⟨zz x.Team q.2.1 q.1.P,zz x.Team q.2.2 q.1.H,q.1.O,q.1.D,q.1.A⟩) ?_ ?_
 skip
 refine gz4 ?_;refine uCo (fun h1=> ?_) fun h2=> ?_
 refine gz1 ?_;refine dq ((by first|exact zh zG rfl ty3 (by decide) rfl|exact zd zG rfl ty3 (by decide) rfl)) ?_;refine gz7 ?_;refine z7 rfl (fun h3=> ?_) (fun h4=> ?_)
 try simp at h3
 refine gz2 ?_;refine dq ((by first|exact zh zG rfl ty9 (by decide) rfl|exact zd zG rfl ty9 (by decide) rfl)) ?_;refine gz1 ?_;refine dq (uCl zxI rfl (zkA (l:=(rPl k x.Team)) (by have:=(hP x.Team).2;omega) (hP x.Team).1)) ?_;refine gz2 ?_;refine zbb (fun M=>M=(zdC kb pb hb ob db ab b k)) [3] mixed ?_;refine gz1 ?_;refine uB 1 rfl ((by first|exact zw rfl|exact zl rfl)) ?_;refine gz1 ?_;refine uM 3 rfl rfl (fun M hM=>by subst hM;exact zar (i:=0) ziZ rfl rfl (.inl ⟨rfl,rfl⟩) ⟨rfl,rfl⟩) ?_;refine uB 4 rfl ((by first|exact zh zG rfl ty9 (by decide) rfl|exact zd zG rfl ty9 (by decide) rfl)) ?_;refine gz1 ?_;refine uB 6 rfl ((by first|exact zh zG rfl ty9 (by decide) rfl|exact zd zG rfl ty9 (by decide) rfl)) ?_;refine gz1 ?_;refine uF 8 ?_;refine zy (zdP (i:=3) (f:=HVal.str) (L:=k.O) (v:=x.Team) ziZ ty9 rfl rfl rfl rfl ?_)
 refine ⟨uE,?_⟩
 refine gz1 ?_;refine zba (fun M=>M=(zdC kb pb hb ob db ab b (⟨k.P,k.H,zz x.Player x.Team k.O,k.D,k.A⟩:RosS))\/∃j st,zbG (x.Team,Int.tdiv x.At 604800000) (zdz (x.Team,Int.tdiv x.At 604800000) (HVal.int .i64 0) (em (HVal.int .i64) k.A))=some j/\M=[MObj.cells kb (kBk b pb hb ob db ab),MObj.map pb (sk (em eSs k.P)),MObj.map hb (sk (em eSs k.H)),MObj.map ob (sk (em HVal.str (zz x.Player x.Team k.O))),MObj.map db (sk (em (HVal.int .i64) k.D)),MObj.mape ab (kk eWk (zdz (x.Team,Int.tdiv x.At 604800000) (HVal.int .i64 0) (em (HVal.int .i64) k.A))) j st]) [3,10] mixed ?_;refine gz1 ?_;refine uB 1 rfl ((by first|exact zw rfl|exact zl rfl)) ?_;refine gz1 ?_;refine uM 3 rfl (.inl rfl) (fun M hM=>by
 rcases hM with rfl|⟨j,st,hj,rfl⟩
 exact zar (i:=0) zj3 rfl rfl (.inl ⟨rfl,rfl⟩) ⟨rfl,rfl⟩;exact zar (i:=0) zj3 rfl rfl (.inl ⟨rfl,rfl⟩) ⟨rfl,rfl⟩) ?_
 refine uB 4 rfl ((by first|exact zh zG rfl ty9 (by decide) rfl|exact zd zG rfl ty9 (by decide) rfl)) ?_;refine gz1 ?_;refine uB 6 rfl ((by first|exact zh zG rfl ty3 (by decide) rfl|exact zd zG rfl ty3 (by decide) rfl)) ?_;refine gz1 ?_;refine uB 8 rfl (zdS rfl rfl uO uO uO) ?_;refine uB 9 rfl (zF (cs:=[_,_]) zyD zCp rfl) ?_;refine uM 10 rfl (.inl rfl) (fun M hM=>by
 rcases hM with rfl|⟨j,st,hj,rfl⟩
 exact zcK (i:=5) (s:=(x.Team,Int.tdiv x.At 604800000)) (z0:=(0:Int)) (f:=HVal.int .i64) zj3 zus ty3 rfl rfl rfl rfl ⟨rfl,rfl⟩;exact zoJ (i:=5) (s:=(x.Team,Int.tdiv x.At 604800000)) (z0:=(0:Int)) (f:=HVal.int .i64) zj3 zus ty3 rfl rfl rfl rfl ⟨rfl,rfl⟩) ?_
 refine uB 11 rfl (zbi rfl rfl (by have:=hA (x.Team,Int.tdiv x.At 604800000);unfold zbj at this;dsimp only;omega) (by have:=hA (x.Team,Int.tdiv x.At 604800000);unfold zbj at this;dsimp only;omega)) ?_;refine uF 12 ?_;refine zx rfl (znP (i:=5) (s:=(x.Team,Int.tdiv x.At 604800000)) (z0:=(0:Int)) (f:=HVal.int .i64) zj3 zus ty3 rfl rfl rfl rfl fun j55 st55 hj55=> ?_)
 refine ⟨fun _=> .inl (.inr ⟨j55,st55,hj55,rfl⟩),?_⟩
 refine gz1 ?_;refine uF 14 ?_;refine zy (zlt (i:=5) (s:=(x.Team,Int.tdiv x.At 604800000)) (f:=HVal.int .i64) (z0:=(0:Int)) (v:=zbj k (x.Team,Int.tdiv x.At 604800000)+1) rfl rfl rfl rfl hj55 ?_)
 refine ⟨uE,?_⟩
 refine gz2 ?_;exact ⟨((⟨k.P,k.H,zz x.Player x.Team k.O,k.D,zz (x.Team,Int.tdiv x.At 604800000) (zbj k (x.Team,Int.tdiv x.At 604800000)+1) k.A⟩:RosS),zgs (rPl k x.Team) x.Player,(rHu k x.Team)),by rw [ziK,if_neg (by simpa using h1),if_pos (by assumption)],⟨rfl,rfl,trivial⟩,uK,Ac _⟩
 try simp at h4
 refine gz4 ?_;refine uCo (fun h5=> ?_) fun h6=> ?_
 refine uDr mixed ?_;refine gz1 ?_;refine uB 1 rfl ((by first|exact zh zG rfl ty9 (by decide) rfl|exact zd zG rfl ty9 (by decide) rfl)) ?_;refine gz1 ?_;refine uB 3 rfl (uCl zuj rfl (zhj (l:=(rPl k x.Team)) (by have:=(fun t=>(hP t).2) x.Team;omega))) ?_;refine gz1 ?_;refine uB 5 rfl ((by first|exact zh zG rfl ty9 (by decide) rfl|exact zd zG rfl ty9 (by decide) rfl)) ?_;refine gz1 ?_;refine uB 7 rfl (uCl zuj rfl (zhj (l:=(rHu k x.Team)) (by have:=(fun t=>(hH t).2) x.Team;omega))) ?_;refine gz3 ?_;refine zbb (fun M=>M=(zdC kb pb hb ob db ab b k)) [3] mixed ?_;refine gz1 ?_;refine uB 1 rfl ((by first|exact zw rfl|exact zl rfl)) ?_;refine gz1 ?_;refine uM 3 rfl rfl (fun M hM=>by subst hM;exact zar (i:=0) ziZ rfl rfl (.inl ⟨rfl,rfl⟩) ⟨rfl,rfl⟩) ?_;refine uB 4 rfl ((by first|exact zh zG rfl ty9 (by decide) rfl|exact zd zG rfl ty9 (by decide) rfl)) ?_;refine gz1 ?_;refine uF 6 ?_;refine zy (zxU (i:=3) (f:=HVal.str) (L:=k.O) (s:=x.Player) ziZ ty9 rfl rfl rfl ?_)
 refine ⟨uE,?_⟩
 refine gz1 ?_;refine zba (fun M=>M=(zdC kb pb hb ob db ab b (⟨k.P,k.H,zcX x.Player k.O,k.D,k.A⟩:RosS))) [3] mixed ?_;refine gz1 ?_;refine uB 1 rfl ((by first|exact zw rfl|exact zl rfl)) ?_;refine gz1 ?_;refine uM 3 rfl rfl (fun M hM=>by subst hM;exact zar (i:=0) ze1 rfl rfl (.inl ⟨rfl,rfl⟩) ⟨rfl,rfl⟩) ?_;refine uB 4 rfl ((by first|exact zh zG rfl ty9 (by decide) rfl|exact zd zG rfl ty9 (by decide) rfl)) ?_;refine gz1 ?_;refine uB 6 rfl ((by first|exact zh zG rfl ty3 (by decide) rfl|exact zd zG rfl ty3 (by decide) rfl)) ?_;refine gz1 ?_;refine uF 8 ?_;refine zy (zdP (i:=4) (f:=HVal.int .i64) (L:=k.D) (v:=x.At) ze1 ty9 rfl rfl rfl rfl ?_)
 refine ⟨uE,?_⟩
 refine gz2 ?_;exact ⟨((⟨k.P,k.H,zcX x.Player k.O,zz x.Player x.At k.D,k.A⟩:RosS),ziI (rPl k x.Team) x.Player,ziI (rHu k x.Team) x.Player),by rw [ziK,if_neg (by simpa using h1),if_neg (by assumption),if_pos (by assumption)],⟨rfl,rfl,trivial⟩,uK,Ac _⟩;refine gz4 ?_;refine uCo (fun h7=> ?_) fun h8=> ?_
 refine zgC mixed ?_;refine gz1 ?_;refine uB 1 rfl ((by first|exact zh zG rfl ty9 (by decide) rfl|exact zd zG rfl ty9 (by decide) rfl)) ?_;refine gz1 ?_;refine uB 3 rfl (uCl zuj rfl (zhj (l:=(rPl k x.Team)) (by have:=(fun t=>(hP t).2) x.Team;omega))) ?_;refine gz1 ?_;refine uB 5 rfl ((by first|exact zh zG rfl ty9 (by decide) rfl|exact zd zG rfl ty9 (by decide) rfl)) ?_;refine gz1 ?_;refine uB 7 rfl (uCl zxI rfl (zkA (l:=(rHu k x.Team)) (by have:=(hH x.Team).2;omega) (hH x.Team).1)) ?_;refine gz4 ?_;exact ⟨(k,ziI (rPl k x.Team) x.Player,zgs (rHu k x.Team) x.Player),by rw [ziK,if_neg (by simpa using h1),if_neg (by assumption),if_neg (by assumption),if_pos (by assumption)],⟨rfl,rfl,trivial⟩,uK,Ac _⟩;refine gz4 ?_;refine z7 rfl (fun h9=> ?_) (fun h9=> ?_)
 try simp at h9
 refine zgC mixed ?_;refine gz1 ?_;refine uB 1 rfl ((by first|exact zh zG rfl ty9 (by decide) rfl|exact zd zG rfl ty9 (by decide) rfl)) ?_;refine gz1 ?_;refine uB 3 rfl (uCl zxI rfl (zkA (l:=(rPl k x.Team)) (by have:=(hP x.Team).2;omega) (hP x.Team).1)) ?_;refine gz1 ?_;refine uB 5 rfl ((by first|exact zh zG rfl ty9 (by decide) rfl|exact zd zG rfl ty9 (by decide) rfl)) ?_;refine gz1 ?_;refine uB 7 rfl (uCl zuj rfl (zhj (l:=(rHu k x.Team)) (by have:=(fun t=>(hH t).2) x.Team;omega))) ?_;refine gz4 ?_;exact ⟨(k,zgs (rPl k x.Team) x.Player,ziI (rHu k x.Team) x.Player),by rw [ziK,if_neg (by simpa using h1),if_neg (by assumption),if_neg (by assumption),if_neg (by assumption)],⟨rfl,rfl,trivial⟩,uK,Ac _⟩
 exfalso
 try simp at h9
 omega
 refine gz1 ?_;exact ⟨(k,(rPl k x.Team),(rHu k x.Team)),by rw [ziK,if_pos (by simpa using h2)],⟨rfl,rfl,trivial⟩,uK,Ac _⟩
 intro q hq
 refine zbb (fun M=>M=(zdC kb pb hb ob db ab b q.1)) [3,9] mixed ?_;refine gz1 ?_;refine uB 1 rfl ((by first|exact zw rfl|exact zl rfl)) ?_;refine gz1 ?_;refine uM 3 rfl rfl (fun M hM=>by subst hM;exact zar (i:=0) zdL rfl rfl (.inl ⟨rfl,rfl⟩) ⟨rfl,rfl⟩) ?_;refine uB 4 rfl ((by first|exact zh zG rfl ty9 (by decide) rfl|exact zd zG rfl ty9 (by decide) rfl)) ?_;refine gz2 ?_;refine uB 7 rfl ((by first|exact zw rfl|exact zl rfl)) ?_;refine gz1 ?_;refine uM 9 rfl rfl (fun M hM=>by subst hM;exact zar (i:=0) zdL rfl rfl (.inl ⟨rfl,rfl⟩) ⟨rfl,rfl⟩) ?_;refine uB 10 rfl ((by first|exact zh zG rfl ty9 (by decide) rfl|exact zd zG rfl ty9 (by decide) rfl)) ?_;refine gz3 ?_;refine uF 14 ?_;refine zx rfl (znQ (i:=1) (s:=x.Team) (f:=eSs) (L:=q.1.P) zdL ty9 zp rfl rfl rfl fun j115 st115 hj115=> ?_)
 refine ⟨uE,?_⟩
 refine gz1 ?_;refine uF 16 ?_;refine zy (zlu (i:=1) (s:=x.Team) (f:=eSs) (L:=q.1.P) (v:=q.2.1) rfl rfl rfl rfl hj115 ?_)
 refine ⟨uE,?_⟩
 refine uF 17 ?_;refine zx rfl (znQ (i:=2) (s:=x.Team) (f:=eSs) (L:=q.1.H) zdL ty9 zp rfl rfl rfl fun j117 st117 hj117=> ?_)
 refine ⟨uE,?_⟩
 refine gz1 ?_;refine uF 19 ?_;refine zy (zlu (i:=2) (s:=x.Team) (f:=eSs) (L:=q.1.H) (v:=q.2.2) rfl rfl rfl rfl hj117 ?_)
 refine ⟨uE,?_⟩
 refine gz6 ?_;refine zah rfl ⟨rfl,?_⟩
 rw [hq];rfl
theorem ztY [Tracks] {i e:Int}:ConP prog 366 [.int .i64 i,.int .i64 e] (.tup []):=by
 refine uOb func366 ntmps366 ?_;refine gz1 ?_;refine zyr rfl ?_
 rfl
theorem zq4 [Tracks] {b:BoundS} {l:List MoveS} {n:Int} {fid:FuncId} (hm:zgv l=0) (hca:Callable prog fid) (hp: ∀i e:Int,ConP prog fid [.int .i64 i,.int .i64 e] (.tup [])):Con prog 365 [zgo b,zcJ l,.int .i64 n,.fn (.func fid) [] []] [] (fun x M'=> ∃kb pb hb ob db ab:Nat,x= .raw (.pointer (some ⟨kb,0,none⟩))/\M'=(zdC kb pb hb ob db ab b (zho b l n))):=by
 obtain ⟨hl,hml⟩:=zzx hm;have hmk: ∀x∈l,(0<=x.At/\x.At<=345686399999)/\(1<=x.Kind/\x.Kind<=4)/\x.Team≠[]:=fun x hx=>⟨(hml x hx).1,(hml x hx).2.1,fun e=>by have:=(hml x hx).2.2.1;rw [e] at this;cases this⟩
 refine uOb func365 ntmps365 ?_;refine gz6 ?_;refine de rfl (zaN fun m13=> ?_)
 refine de rfl (zaN fun m14=> ?_)
 refine de rfl (zaN fun m15=> ?_)
 refine de rfl (zaN fun m16=> ?_)
 refine de rfl (zaN fun m17=> ?_)
 refine dq (zF (cs:=[_,_,_,_,_,_,_,_,_]) zCy zHp rfl) ?_;refine de rfl (zwG rfl rfl fun kb=> ?_)
 refine gz2 ?_;refine ze (Ghost.perm (M':=zdC kb m13 m14 m15 m16 m17 b zsN) uQ) ?_;refine gz7 ?_;refine uT1 [10,2,22,16] (fun i=>[(22,.int .i64 i)]) (fun i=>zdC kb m13 m14 m15 m16 m17 b (ziJ b n zsN (l.take i))) (fun i=>i<=l.length/\(True)) (fun i=>l.length-i) (0) ?_ ?_;exact ⟨Ad _,trivial⟩;rintro i ⟨hi,-⟩;refine gz4 ?_;refine uCo (fun h1=> ?_) fun h2=> ?_
 obtain ⟨x,hx⟩: ∃x,l[i]? =some x:=⟨_,Aa h1⟩
 have hdx:=zg hx;obtain ⟨hx1,hx2,_⟩:=hmk x (Ab hx);have hok:=zzN (b:=b) (n:=n) hmk hl i;refine gz8 ?_;refine de rfl (zj zG rfl fun b11=> ?_)
 refine gz1 ?_;refine de0 (zn zG rfl rfl rfl rfl rfl ?_)
 refine gz1 ?_;refine ze (zo 11 rfl) ?_;refine gz6 ?_;refine uCo (fun h3=> ?_) fun h4=> ?_
 refine gz5 ?_;refine de rfl (zaV (M1:=zdC kb m13 m14 m15 m16 m17 b (ziJ b n zsN (l.take i))) (R:=[]) zGP rfl (WeakL.refl _) (by rw [A9]) (zm2 hx1 hx2 hok.p hok.h hok.a hok.dr hok.dj) ?_)
 rintro _ _ ⟨rfl,rfl⟩;refine dq (zag hca rfl rfl (WeakL.refl _) (hp _ _)) ?_;refine gz7 ?_;exact ⟨i+1,⟨by omega,trivial⟩,uD,⟨rfl,trivial⟩,uK,zk (by dsimp only;rw [zpd hx,if_pos (by assumption)];try rfl)⟩;refine gz7 ?_;exact ⟨i+1,⟨by omega,trivial⟩,uD,⟨rfl,trivial⟩,uK,zk (by dsimp only;rw [zpd hx,if_neg uO];try rfl)⟩;have hni:l.length<=i:=by omega
 obtain rfl:i=l.length:=by omega
 rw [Ai];refine gz2 ?_;refine zu ?_;refine gz7 ?_;exact zah rfl ⟨_,_,_,_,_,_,rfl,rfl⟩
theorem zwc [Tracks] {b:BoundS} {l:List MoveS} {n:Int} (hm:zgv l=0):Con prog 314 [zgo b,zcJ l,.int .i64 n] [] (fun x M'=> ∃kb pb hb ob db ab:Nat,x= .raw (.pointer (some ⟨kb,0,none⟩))/\M'=(zdC kb pb hb ob db ab b (zho b l n))):=by
 refine uOb func314 ntmps314 ?_;refine gz8 ?_;refine de rfl (zaV (M1:=[]) (R:=[]) zGG rfl (WeakL.refl _) (Ac _) (zq4 hm zGH (fun _ _=>ztY)) ?_)
 rintro _ _ ⟨kb,pb,hb,ob,db,ab,rfl,rfl⟩;refine gz3 ?_;exact zah rfl ⟨_,_,_,_,_,_,rfl,rfl⟩
theorem zsg [Tracks] {b:BoundS} {l:List MoveS} (hl:l.length<=1000000):ConP prog 364 [zgo b,zcJ l] (.int .i64 (orI [zdZ b,zgv l])):=by
 refine uOb func364 ntmps364 ?_;refine gz6 ?_;refine dq (uCl zBU rfl zh3) ?_;refine gz1 ?_;refine dq (uCl zBC rfl (zix uS)) ?_;refine dq (za (hs:=[_,_]) zej zgB rfl rfl (by decide) (by decide) rfl) ?_;refine dq (uCl zkC rfl (zb0 (l:=[_,_]) (by simp))) ?_;refine gz3 ?_;refine zt rfl ?_
 rfl
theorem zn1 [Tracks] {b:BoundS} {l:List MoveS} {p:Str} {n:Int} (hl:l.length<=1000000):ConP prog 313 [zgo b,zcJ l,.str p,.int .i64 n] (.int .i64 (zlI b l p n)):=by
 refine uOb func313 ntmps313 ?_;refine gz8 ?_;refine dq (uCl zGF rfl (zsg uS)) ?_;refine gz6 ?_;refine uCo (fun h1=> ?_) fun h2=> ?_
 refine gz5 ?_;refine uRp ?_;unfold zlI
 simp_all
 refine gz6 ?_;refine dq (uCl zbK rfl zak) ?_;refine gz3 ?_;refine uCo (fun h3=> ?_) fun h4=> ?_
 refine gz4 ?_;refine uRp ?_;unfold zlI
 simp_all
 refine gz2 ?_;refine dq (uCl zkE rfl zbD) ?_;refine gz3 ?_;refine uCo (fun h5=> ?_) fun h6=> ?_
 refine gz4 ?_;refine uRp ?_;unfold zlI
 simp_all
 refine gz7 ?_;refine uRp ?_;unfold zlI
 simp_all
end
end Go.Proofs.YtnfmbjchkjijpaaGreatDoor
namespace Go.Proofs
section
open Go.Shelf
def Tryz.g202_ren:Go.Shelf.Ren:=⟨fun|7=>202|10=>268|n=>n,fun|23=>180|26=>9|3=>4|28=>281|0=>0|27=>280|33=>179|4=>4|n=>n,fun|n=>n⟩
theorem zsV:Go.Proofs.SlLaysZ.n7 Tryz.prog Tryz.g202_ren:={
 mixed:=by kernel_rfl
 f7:=⟨Tryz.f202.name,by decide,Tryz.func202.trans (congrArg some (by kernel_rfl))⟩
 f10:=⟨Tryz.f268.name,by decide,Tryz.func268.trans (congrArg some (by kernel_rfl))⟩
 t0:=Tryz.underlying0
 a0:=Tryz.isAgg0
 z0:=Tryz.sizeOf0
 v0:=Tryz.zeroValue0
 t4:=Tryz.underlying4
 a4:=Tryz.isAgg4
 z4:=Tryz.sizeOf4
 v4:=Tryz.zeroValue4
 t23:=Tryz.underlying180
 a23:=Tryz.isAgg180
 z23:=Tryz.sizeOf180
 v23:=Tryz.zeroValue180
 t26:=Tryz.underlying9
 a26:=Tryz.isAgg9
 z26:=Tryz.sizeOf9
 v26:=Tryz.zeroValue9
 t27:=Tryz.underlying280
 a27:=Tryz.isAgg280
 z27:=Tryz.sizeOf280
 v27:=Tryz.zeroValue280
 t28:=Tryz.underlying281
 a28:=Tryz.isAgg281
 z28:=Tryz.sizeOf281
 v28:=Tryz.zeroValue281
 t33:=Tryz.underlying179
 a33:=Tryz.isAgg179
 z33:=Tryz.sizeOf179
 v33:=Tryz.zeroValue179}
def Tryz.g201_ren:Go.Shelf.Ren:=⟨fun|6=>201|8=>267|9=>134|11=>322|13=>158|12=>209|23=>232|24=>233|14=>271|15=>272|16=>273|17=>274|18=>275|19=>276|20=>277|21=>278|22=>279|25=>339|26=>297|27=>298|28=>340|29=>341|30=>294|31=>375|n=>n,fun|26=>9|28=>281|24=>33|0=>0|3=>3|37=>245|48=>307|50=>288|4=>4|40=>301|39=>300|45=>194|5=>5|9=>9|51=>357|55=>361|57=>415|58=>416|33=>179|n=>n,fun|n=>n⟩
theorem zyJ:Go.Proofs.SlLaysZ.n6 Tryz.prog Tryz.g201_ren:={
 mixed:=by kernel_rfl
 f6:=⟨Tryz.f201.name,by decide,Tryz.func201.trans (congrArg some (by kernel_rfl))⟩
 f8:=⟨Tryz.f267.name,by decide,Tryz.func267.trans (congrArg some (by kernel_rfl))⟩
 f11:=⟨Tryz.f322.name,by decide,Tryz.func322.trans (congrArg some (by kernel_rfl))⟩
 t0:=Tryz.underlying0
 a0:=Tryz.isAgg0
 z0:=Tryz.sizeOf0
 v0:=Tryz.zeroValue0
 t24:=Tryz.underlying33
 a24:=Tryz.isAgg33
 z24:=Tryz.sizeOf33
 v24:=Tryz.zeroValue33
 t26:=Tryz.underlying9
 a26:=Tryz.isAgg9
 z26:=Tryz.sizeOf9
 v26:=Tryz.zeroValue9
 t28:=Tryz.underlying281
 a28:=Tryz.isAgg281
 z28:=Tryz.sizeOf281
 v28:=Tryz.zeroValue281
 i26:=by kernel_rfl}
def Tryz.g134_ren:Go.Shelf.Ren:=⟨fun|6=>134|8=>158|9=>209|19=>232|20=>233|21=>271|22=>272|23=>273|24=>274|25=>275|26=>276|27=>277|28=>278|29=>279|36=>339|31=>297|32=>298|37=>340|38=>341|39=>294|41=>375|n=>n,fun|27=>33|29=>9|3=>3|32=>245|26=>33|0=>0|44=>307|46=>288|4=>4|36=>301|35=>300|41=>194|5=>5|9=>9|53=>357|57=>361|63=>415|64=>416|n=>n,fun|n=>n⟩
theorem zsU:Go.Proofs.SlLaysM.n6 Tryz.prog Tryz.g134_ren:={
 mixed:=by kernel_rfl
 f6:=⟨Tryz.f134.name,by decide,Tryz.func134.trans (congrArg some (by kernel_rfl))⟩
 f8:=Tryz.func158.trans (congrArg some (by kernel_rfl))
 f9:=⟨Tryz.f209.name,by decide,Tryz.func209.trans (congrArg some (by kernel_rfl))⟩
 f19:=Tryz.func232.trans (congrArg some (by kernel_rfl))
 f20:=Tryz.func233.trans (congrArg some (by kernel_rfl))
 f21:=⟨Tryz.f271.name,by decide,Tryz.func271.trans (congrArg some (by kernel_rfl))⟩
 f22:=⟨Tryz.f272.name,by decide,Tryz.func272.trans (congrArg some (by kernel_rfl))⟩
 f23:=⟨Tryz.f273.name,by decide,Tryz.func273.trans (congrArg some (by kernel_rfl))⟩
 f24:=⟨Tryz.f274.name,by decide,Tryz.func274.trans (congrArg some (by kernel_rfl))⟩
 f25:=⟨Tryz.f275.name,by decide,Tryz.func275.trans (congrArg some (by kernel_rfl))⟩
 f26:=⟨Tryz.f276.name,by decide,Tryz.func276.trans (congrArg some (by kernel_rfl))⟩
 f27:=⟨Tryz.f277.name,by decide,Tryz.func277.trans (congrArg some (by kernel_rfl))⟩
 f28:=⟨Tryz.f278.name,by decide,Tryz.func278.trans (congrArg some (by kernel_rfl))⟩
 f29:=⟨Tryz.f279.name,by decide,Tryz.func279.trans (congrArg some (by kernel_rfl))⟩
 f31:=Tryz.func297.trans (congrArg some (by kernel_rfl))
 f32:=Tryz.func298.trans (congrArg some (by kernel_rfl))
 f36:=⟨Tryz.f339.name,by decide,Tryz.func339.trans (congrArg some (by kernel_rfl))⟩
 f37:=⟨Tryz.f340.name,by decide,Tryz.func340.trans (congrArg some (by kernel_rfl))⟩
 f38:=⟨Tryz.f341.name,by decide,Tryz.func341.trans (congrArg some (by kernel_rfl))⟩
 f39:=⟨Tryz.f294.name,by decide,Tryz.func294.trans (congrArg some (by kernel_rfl))⟩
 f41:=⟨Tryz.f375.name,by decide,Tryz.func375.trans (congrArg some (by kernel_rfl))⟩
 t0:=Tryz.underlying0
 a0:=Tryz.isAgg0
 z0:=Tryz.sizeOf0
 v0:=Tryz.zeroValue0
 t3:=Tryz.underlying3
 a3:=Tryz.isAgg3
 z3:=Tryz.sizeOf3
 v3:=Tryz.zeroValue3
 t4:=Tryz.underlying4
 a4:=Tryz.isAgg4
 z4:=Tryz.sizeOf4
 v4:=Tryz.zeroValue4
 t5:=Tryz.underlying5
 a5:=Tryz.isAgg5
 z5:=Tryz.sizeOf5
 v5:=Tryz.zeroValue5
 t9:=Tryz.underlying9
 a9:=Tryz.isAgg9
 z9:=Tryz.sizeOf9
 v9:=Tryz.zeroValue9
 t26:=Tryz.underlying33
 a26:=Tryz.isAgg33
 z26:=Tryz.sizeOf33
 v26:=Tryz.zeroValue33
 t27:=Tryz.underlying33
 a27:=Tryz.isAgg33
 z27:=Tryz.sizeOf33
 v27:=Tryz.zeroValue33
 t29:=Tryz.underlying9
 a29:=Tryz.isAgg9
 z29:=Tryz.sizeOf9
 v29:=Tryz.zeroValue9
 t32:=Tryz.underlying245
 a32:=Tryz.isAgg245
 z32:=Tryz.sizeOf245
 v32:=Tryz.zeroValue245
 t35:=Tryz.underlying300
 a35:=Tryz.isAgg300
 z35:=Tryz.sizeOf300
 v35:=Tryz.zeroValue300
 t36:=Tryz.underlying301
 a36:=Tryz.isAgg301
 z36:=Tryz.sizeOf301
 v36:=Tryz.zeroValue301
 t41:=Tryz.underlying194
 a41:=Tryz.isAgg194
 z41:=Tryz.sizeOf194
 v41:=Tryz.zeroValue194
 t44:=Tryz.underlying307
 a44:=Tryz.isAgg307
 z44:=Tryz.sizeOf307
 v44:=Tryz.zeroValue307
 t46:=Tryz.underlying288
 a46:=Tryz.isAgg288
 z46:=Tryz.sizeOf288
 v46:=Tryz.zeroValue288
 t53:=Tryz.underlying357
 a53:=Tryz.isAgg357
 z53:=Tryz.sizeOf357
 v53:=Tryz.zeroValue357
 t57:=Tryz.underlying361
 a57:=Tryz.isAgg361
 z57:=Tryz.sizeOf361
 v57:=Tryz.zeroValue361
 t63:=Tryz.underlying415
 a63:=Tryz.isAgg415
 z63:=Tryz.sizeOf415
 v63:=Tryz.zeroValue415
 t64:=Tryz.underlying416
 a64:=Tryz.isAgg416
 z64:=Tryz.sizeOf416
 v64:=Tryz.zeroValue416}
def Tryz.g81_ren:Go.Shelf.Ren:=⟨fun|6=>81|15=>158|14=>157|28=>232|29=>233|20=>224|21=>225|22=>226|23=>227|24=>228|25=>229|26=>230|27=>231|46=>296|47=>297|48=>298|49=>299|50=>300|57=>355|n=>n,fun|22=>34|24=>94|25=>98|3=>3|39=>245|0=>0|53=>307|55=>288|4=>4|46=>301|45=>300|50=>194|5=>5|9=>9|66=>357|70=>361|76=>415|77=>416|n=>n,fun|n=>n⟩
theorem zz3:Go.Proofs.SlLaysF0.n6 Tryz.prog Tryz.g81_ren:={
 mixed:=by kernel_rfl
 f6:=⟨Tryz.f81.name,by decide,Tryz.func81.trans (congrArg some (by kernel_rfl))⟩
 f14:=⟨Tryz.f157.name,by decide,Tryz.func157.trans (congrArg some (by kernel_rfl))⟩
 f15:=Tryz.func158.trans (congrArg some (by kernel_rfl))
 f20:=⟨Tryz.f224.name,by decide,Tryz.func224.trans (congrArg some (by kernel_rfl))⟩
 f21:=⟨Tryz.f225.name,by decide,Tryz.func225.trans (congrArg some (by kernel_rfl))⟩
 f22:=⟨Tryz.f226.name,by decide,Tryz.func226.trans (congrArg some (by kernel_rfl))⟩
 f23:=⟨Tryz.f227.name,by decide,Tryz.func227.trans (congrArg some (by kernel_rfl))⟩
 f24:=⟨Tryz.f228.name,by decide,Tryz.func228.trans (congrArg some (by kernel_rfl))⟩
 f25:=⟨Tryz.f229.name,by decide,Tryz.func229.trans (congrArg some (by kernel_rfl))⟩
 f26:=⟨Tryz.f230.name,by decide,Tryz.func230.trans (congrArg some (by kernel_rfl))⟩
 f27:=⟨Tryz.f231.name,by decide,Tryz.func231.trans (congrArg some (by kernel_rfl))⟩
 f28:=Tryz.func232.trans (congrArg some (by kernel_rfl))
 f29:=Tryz.func233.trans (congrArg some (by kernel_rfl))
 f46:=⟨Tryz.f296.name,by decide,Tryz.func296.trans (congrArg some (by kernel_rfl))⟩
 f47:=Tryz.func297.trans (congrArg some (by kernel_rfl))
 f48:=Tryz.func298.trans (congrArg some (by kernel_rfl))
 f49:=⟨Tryz.f299.name,by decide,Tryz.func299.trans (congrArg some (by kernel_rfl))⟩
 f50:=⟨Tryz.f300.name,by decide,Tryz.func300.trans (congrArg some (by kernel_rfl))⟩
 f57:=⟨Tryz.f355.name,by decide,Tryz.func355.trans (congrArg some (by kernel_rfl))⟩
 t0:=Tryz.underlying0
 a0:=Tryz.isAgg0
 z0:=Tryz.sizeOf0
 v0:=Tryz.zeroValue0
 t3:=Tryz.underlying3
 a3:=Tryz.isAgg3
 z3:=Tryz.sizeOf3
 v3:=Tryz.zeroValue3
 t4:=Tryz.underlying4
 a4:=Tryz.isAgg4
 z4:=Tryz.sizeOf4
 v4:=Tryz.zeroValue4
 t5:=Tryz.underlying5
 a5:=Tryz.isAgg5
 z5:=Tryz.sizeOf5
 v5:=Tryz.zeroValue5
 t9:=Tryz.underlying9
 a9:=Tryz.isAgg9
 z9:=Tryz.sizeOf9
 v9:=Tryz.zeroValue9
 t22:=Tryz.underlying34
 a22:=Tryz.isAgg34
 z22:=Tryz.sizeOf34
 v22:=Tryz.zeroValue34
 t25:=Tryz.underlying98
 a25:=Tryz.isAgg98
 z25:=Tryz.sizeOf98
 v25:=Tryz.zeroValue98
 t39:=Tryz.underlying245
 a39:=Tryz.isAgg245
 z39:=Tryz.sizeOf245
 v39:=Tryz.zeroValue245
 t45:=Tryz.underlying300
 a45:=Tryz.isAgg300
 z45:=Tryz.sizeOf300
 v45:=Tryz.zeroValue300
 t46:=Tryz.underlying301
 a46:=Tryz.isAgg301
 z46:=Tryz.sizeOf301
 v46:=Tryz.zeroValue301
 t50:=Tryz.underlying194
 a50:=Tryz.isAgg194
 z50:=Tryz.sizeOf194
 v50:=Tryz.zeroValue194
 t53:=Tryz.underlying307
 a53:=Tryz.isAgg307
 z53:=Tryz.sizeOf307
 v53:=Tryz.zeroValue307
 t55:=Tryz.underlying288
 a55:=Tryz.isAgg288
 z55:=Tryz.sizeOf288
 v55:=Tryz.zeroValue288
 t66:=Tryz.underlying357
 a66:=Tryz.isAgg357
 z66:=Tryz.sizeOf357
 v66:=Tryz.zeroValue357
 t70:=Tryz.underlying361
 a70:=Tryz.isAgg361
 z70:=Tryz.sizeOf361
 v70:=Tryz.zeroValue361
 t76:=Tryz.underlying415
 a76:=Tryz.isAgg415
 z76:=Tryz.sizeOf415
 v76:=Tryz.zeroValue415
 t77:=Tryz.underlying416
 a77:=Tryz.isAgg416
 z77:=Tryz.sizeOf416
 v77:=Tryz.zeroValue416}
def Tryz.g203_ren:Go.Shelf.Ren:=⟨fun|6=>203|15=>158|14=>269|28=>232|29=>233|20=>323|21=>324|22=>325|23=>326|24=>327|25=>328|26=>329|27=>330|46=>369|47=>297|48=>298|49=>370|50=>371|57=>394|n=>n,fun|22=>87|24=>278|25=>284|3=>3|39=>245|0=>0|53=>307|55=>288|4=>4|46=>301|45=>300|50=>194|5=>5|9=>9|66=>357|70=>361|76=>415|77=>416|n=>n,fun|n=>n⟩
theorem zyK:Go.Proofs.SlLaysF0.n6 Tryz.prog Tryz.g203_ren:={
 mixed:=by kernel_rfl
 f6:=⟨Tryz.f203.name,by decide,Tryz.func203.trans (congrArg some (by kernel_rfl))⟩
 f14:=⟨Tryz.f269.name,by decide,Tryz.func269.trans (congrArg some (by kernel_rfl))⟩
 f15:=Tryz.func158.trans (congrArg some (by kernel_rfl))
 f20:=⟨Tryz.f323.name,by decide,Tryz.func323.trans (congrArg some (by kernel_rfl))⟩
 f21:=⟨Tryz.f324.name,by decide,Tryz.func324.trans (congrArg some (by kernel_rfl))⟩
 f22:=⟨Tryz.f325.name,by decide,Tryz.func325.trans (congrArg some (by kernel_rfl))⟩
 f23:=⟨Tryz.f326.name,by decide,Tryz.func326.trans (congrArg some (by kernel_rfl))⟩
 f24:=⟨Tryz.f327.name,by decide,Tryz.func327.trans (congrArg some (by kernel_rfl))⟩
 f25:=⟨Tryz.f328.name,by decide,Tryz.func328.trans (congrArg some (by kernel_rfl))⟩
 f26:=⟨Tryz.f329.name,by decide,Tryz.func329.trans (congrArg some (by kernel_rfl))⟩
 f27:=⟨Tryz.f330.name,by decide,Tryz.func330.trans (congrArg some (by kernel_rfl))⟩
 f28:=Tryz.func232.trans (congrArg some (by kernel_rfl))
 f29:=Tryz.func233.trans (congrArg some (by kernel_rfl))
 f46:=⟨Tryz.f369.name,by decide,Tryz.func369.trans (congrArg some (by kernel_rfl))⟩
 f47:=Tryz.func297.trans (congrArg some (by kernel_rfl))
 f48:=Tryz.func298.trans (congrArg some (by kernel_rfl))
 f49:=⟨Tryz.f370.name,by decide,Tryz.func370.trans (congrArg some (by kernel_rfl))⟩
 f50:=⟨Tryz.f371.name,by decide,Tryz.func371.trans (congrArg some (by kernel_rfl))⟩
 f57:=⟨Tryz.f394.name,by decide,Tryz.func394.trans (congrArg some (by kernel_rfl))⟩
 t0:=Tryz.underlying0
 a0:=Tryz.isAgg0
 z0:=Tryz.sizeOf0
 v0:=Tryz.zeroValue0
 t3:=Tryz.underlying3
 a3:=Tryz.isAgg3
 z3:=Tryz.sizeOf3
 v3:=Tryz.zeroValue3
 t4:=Tryz.underlying4
 a4:=Tryz.isAgg4
 z4:=Tryz.sizeOf4
 v4:=Tryz.zeroValue4
 t5:=Tryz.underlying5
 a5:=Tryz.isAgg5
 z5:=Tryz.sizeOf5
 v5:=Tryz.zeroValue5
 t9:=Tryz.underlying9
 a9:=Tryz.isAgg9
 z9:=Tryz.sizeOf9
 v9:=Tryz.zeroValue9
 t22:=Tryz.underlying87
 a22:=Tryz.isAgg87
 z22:=Tryz.sizeOf87
 v22:=Tryz.zeroValue87
 t25:=Tryz.underlying284
 a25:=Tryz.isAgg284
 z25:=Tryz.sizeOf284
 v25:=Tryz.zeroValue284
 t39:=Tryz.underlying245
 a39:=Tryz.isAgg245
 z39:=Tryz.sizeOf245
 v39:=Tryz.zeroValue245
 t45:=Tryz.underlying300
 a45:=Tryz.isAgg300
 z45:=Tryz.sizeOf300
 v45:=Tryz.zeroValue300
 t46:=Tryz.underlying301
 a46:=Tryz.isAgg301
 z46:=Tryz.sizeOf301
 v46:=Tryz.zeroValue301
 t50:=Tryz.underlying194
 a50:=Tryz.isAgg194
 z50:=Tryz.sizeOf194
 v50:=Tryz.zeroValue194
 t53:=Tryz.underlying307
 a53:=Tryz.isAgg307
 z53:=Tryz.sizeOf307
 v53:=Tryz.zeroValue307
 t55:=Tryz.underlying288
 a55:=Tryz.isAgg288
 z55:=Tryz.sizeOf288
 v55:=Tryz.zeroValue288
 t66:=Tryz.underlying357
 a66:=Tryz.isAgg357
 z66:=Tryz.sizeOf357
 v66:=Tryz.zeroValue357
 t70:=Tryz.underlying361
 a70:=Tryz.isAgg361
 z70:=Tryz.sizeOf361
 v70:=Tryz.zeroValue361
 t76:=Tryz.underlying415
 a76:=Tryz.isAgg415
 z76:=Tryz.sizeOf415
 v76:=Tryz.zeroValue415
 t77:=Tryz.underlying416
 a77:=Tryz.isAgg416
 z77:=Tryz.sizeOf416
 v77:=Tryz.zeroValue416}
def Tryz.g392_ren:Go.Shelf.Ren:=⟨fun|6=>392|15=>158|14=>399|28=>232|29=>233|20=>404|21=>405|22=>406|23=>407|24=>408|25=>409|26=>410|27=>411|46=>417|47=>297|48=>298|49=>418|50=>419|57=>423|n=>n,fun|22=>70|24=>89|25=>442|3=>3|39=>245|0=>0|53=>307|55=>288|4=>4|46=>301|45=>300|50=>194|5=>5|9=>9|66=>357|70=>361|76=>415|77=>416|n=>n,fun|n=>n⟩
theorem zyL:Go.Proofs.SlLaysF0.n6 Tryz.prog Tryz.g392_ren:={
 mixed:=by kernel_rfl
 f6:=⟨Tryz.f392.name,by decide,Tryz.func392.trans (congrArg some (by kernel_rfl))⟩
 f14:=⟨Tryz.f399.name,by decide,Tryz.func399.trans (congrArg some (by kernel_rfl))⟩
 f15:=Tryz.func158.trans (congrArg some (by kernel_rfl))
 f20:=⟨Tryz.f404.name,by decide,Tryz.func404.trans (congrArg some (by kernel_rfl))⟩
 f21:=⟨Tryz.f405.name,by decide,Tryz.func405.trans (congrArg some (by kernel_rfl))⟩
 f22:=⟨Tryz.f406.name,by decide,Tryz.func406.trans (congrArg some (by kernel_rfl))⟩
 f23:=⟨Tryz.f407.name,by decide,Tryz.func407.trans (congrArg some (by kernel_rfl))⟩
 f24:=⟨Tryz.f408.name,by decide,Tryz.func408.trans (congrArg some (by kernel_rfl))⟩
 f25:=⟨Tryz.f409.name,by decide,Tryz.func409.trans (congrArg some (by kernel_rfl))⟩
 f26:=⟨Tryz.f410.name,by decide,Tryz.func410.trans (congrArg some (by kernel_rfl))⟩
 f27:=⟨Tryz.f411.name,by decide,Tryz.func411.trans (congrArg some (by kernel_rfl))⟩
 f28:=Tryz.func232.trans (congrArg some (by kernel_rfl))
 f29:=Tryz.func233.trans (congrArg some (by kernel_rfl))
 f46:=⟨Tryz.f417.name,by decide,Tryz.func417.trans (congrArg some (by kernel_rfl))⟩
 f47:=Tryz.func297.trans (congrArg some (by kernel_rfl))
 f48:=Tryz.func298.trans (congrArg some (by kernel_rfl))
 f49:=⟨Tryz.f418.name,by decide,Tryz.func418.trans (congrArg some (by kernel_rfl))⟩
 f50:=⟨Tryz.f419.name,by decide,Tryz.func419.trans (congrArg some (by kernel_rfl))⟩
 f57:=⟨Tryz.f423.name,by decide,Tryz.func423.trans (congrArg some (by kernel_rfl))⟩
 t0:=Tryz.underlying0
 a0:=Tryz.isAgg0
 z0:=Tryz.sizeOf0
 v0:=Tryz.zeroValue0
 t3:=Tryz.underlying3
 a3:=Tryz.isAgg3
 z3:=Tryz.sizeOf3
 v3:=Tryz.zeroValue3
 t4:=Tryz.underlying4
 a4:=Tryz.isAgg4
 z4:=Tryz.sizeOf4
 v4:=Tryz.zeroValue4
 t5:=Tryz.underlying5
 a5:=Tryz.isAgg5
 z5:=Tryz.sizeOf5
 v5:=Tryz.zeroValue5
 t9:=Tryz.underlying9
 a9:=Tryz.isAgg9
 z9:=Tryz.sizeOf9
 v9:=Tryz.zeroValue9
 t22:=Tryz.underlying70
 a22:=Tryz.isAgg70
 z22:=Tryz.sizeOf70
 v22:=Tryz.zeroValue70
 t25:=Tryz.underlying442
 a25:=Tryz.isAgg442
 z25:=Tryz.sizeOf442
 v25:=Tryz.zeroValue442
 t39:=Tryz.underlying245
 a39:=Tryz.isAgg245
 z39:=Tryz.sizeOf245
 v39:=Tryz.zeroValue245
 t45:=Tryz.underlying300
 a45:=Tryz.isAgg300
 z45:=Tryz.sizeOf300
 v45:=Tryz.zeroValue300
 t46:=Tryz.underlying301
 a46:=Tryz.isAgg301
 z46:=Tryz.sizeOf301
 v46:=Tryz.zeroValue301
 t50:=Tryz.underlying194
 a50:=Tryz.isAgg194
 z50:=Tryz.sizeOf194
 v50:=Tryz.zeroValue194
 t53:=Tryz.underlying307
 a53:=Tryz.isAgg307
 z53:=Tryz.sizeOf307
 v53:=Tryz.zeroValue307
 t55:=Tryz.underlying288
 a55:=Tryz.isAgg288
 z55:=Tryz.sizeOf288
 v55:=Tryz.zeroValue288
 t66:=Tryz.underlying357
 a66:=Tryz.isAgg357
 z66:=Tryz.sizeOf357
 v66:=Tryz.zeroValue357
 t70:=Tryz.underlying361
 a70:=Tryz.isAgg361
 z70:=Tryz.sizeOf361
 v70:=Tryz.zeroValue361
 t76:=Tryz.underlying415
 a76:=Tryz.isAgg415
 z76:=Tryz.sizeOf415
 v76:=Tryz.zeroValue415
 t77:=Tryz.underlying416
 a77:=Tryz.isAgg416
 z77:=Tryz.sizeOf416
 v77:=Tryz.zeroValue416}
end
end Go.Proofs
namespace Go.HL
section
variable {P:Program}
open Go.Sort Go.Proofs Go.Shelf Go.RowKit
theorem zvc [Tracks] {w w':World} {J:Imm} {M:List MObj} (hT:Tracks.on=true) (hl:Le (zcF w) J) (hs:Sat P J M w'): ∃q os,w'=grow (w.drewN q) os:=by
 have hb:=zof hl hs;have hd:w.drawn<=w'.drawn:=Ar (hl.low hT) (hs.low hT);refine ⟨w'.drawn-w.drawn,w'.heap.extract w.heap.size w'.heap.size,?_⟩
 have hh:w'.heap=w.heap++w'.heap.extract w.heap.size w'.heap.size:=by
  apply Array.ext_getElem?
  intro i
  by_cases hi:i<w.heap.size
  rw [AH hi];exact hb.block i hi;rw [Array.getElem?_append_right (by omega),Array.getElem?_extract];have:=hb.size
  split
  congr 1;omega
  rw [Av (by omega)]
 have h1:=hb.os;have h2:=hb.tape;have h3:=hb.output;obtain ⟨a1,a2,a3,a4,a5⟩:=w';obtain ⟨b1,b2,b3,b4,b5⟩:=w;simp only at h1 h2 h3 hd hh;subst h1 h2 h3;simp only [grow,World.drewN,World.mk.injEq];exact ⟨hh,trivial,by omega,trivial,trivial⟩
theorem ConP.calls [Tracks] {f:FuncId} {hargs:List HVal} {h:HVal} (hT:Tracks.on=true) (hc:ConP P f hargs h) {w:World} (ht:TabI P (zcF w)) {args:List Value} (ha:VL (zcF w) hargs args):
 Calls P f args.toArray w fun e w'=> ∃v,e= .returned v/\V (zcF w') h v/\∃q os,w'=grow (w.drewN q) os:=by
 refine (hc (zcF w) [] w args ha (zxf ht)).mono ?_;rintro e w' ⟨v,x,M',J,rfl,hle,⟨rfl,rfl⟩,hV,hs⟩;exact ⟨v,rfl,hV.mono hs.le_all,zvc hT hle hs⟩
@[reducible] def zhW:Tracks:=⟨true⟩
abbrev zfU {A:Type} (I:Imm) (e:A->HVal) (k:Nat):Type:={p:A×List Value//p.2.length=k/\(∀v∈p.2,v.oneCell'=true)/\VL I (zb (e p.1)) p.2}
theorem zxd [Tracks] {A:Type} {I:Imm} {e:A->HVal} {k:Nat} (hk: ∀x,(zb (e x)).length=k) (hf: ∀x,zat (zb (e x))=true) {rc:Array Value}: ∀(l:List A) (off:Nat),off+l.length*k<=rc.size->
 (∀(i j:Nat) (x:A) (c:HVal) (v:Value),l[i]? =some x->(zb (e x))[j]? =some c->rc[off+i*k+j]? =some v->V I c v)->
 ∃d:List (zfU I e k),d.map (·.1.1)=l/\∀(i j:Nat) (p:zfU I e k),d[i]? =some p->j<k->rc[off+i*k+j]? =p.1.2[j]?
 |[],off,_,_=>⟨[],rfl,fun i j p h=>by simp at h⟩
 |x::l,off,hb,hV=>by
   have hb':off+k+l.length*k<=rc.size:=by simp [AR] at hb;omega
   obtain ⟨d,h1,h2⟩:=zxd hk hf l (off+k) hb' fun i j y c v a1 a2 a3=>hV (i+1) j y c v (by simpa using a1) a2 (by rw [AR,Nat.one_mul];rw [show off+(i*k+k)+j=off+k+i*k+j by omega];exact a3)
   have hlen:(rc.extract off (off+k)).toList.length=k:=by simp;omega
   have hg: ∀j,j<k->(rc.extract off (off+k)).toList[j]? =rc[off+j]?:=fun j hj=>by
    rw [AU,Array.getElem?_extract,if_pos (by omega)]
   have hvl:VL I (zb (e x)) (rc.extract off (off+k)).toList:=⟨by rw [hlen,hk],fun j c v a1 a2=>by
    have hj:j<k:=by have:=zm a1;rw [hk] at this;exact this
    rw [hg j hj] at a2;exact hV 0 j x c v rfl a1 (by simpa using a2)⟩
   refine ⟨⟨(x,(rc.extract off (off+k)).toList),hlen,znf hvl (hf x),hvl⟩::d,by simp [h1],fun i j p hp hj=> ?_⟩
   cases i with
   |zero=>
     simp only [AW,Az] at hp;subst hp;simp only [Nat.zero_mul,BO];exact (hg j hj).symm
   |succ i=>
     simp only [AQ] at hp;rw [<-h2 i j p hp hj,AR,Nat.one_mul]
     congr 1;omega
section
variable {A:Type} {e:A->HVal} {k:Nat}
theorem ztF {α:Type} [Inhabited α] {enc:α->List Value} {w:World} {b off m:Nat} {dk:Array α} {os:Array Obj} {c:Nat} (hc:c<w.heap.size) (hb:c≠b):(sortWorldK enc k w b off m dk os).heap[c]? =w.heap[c]?:=by
 simp only [sortWorldK,grow,putRowK,putRow,mapBlock,Sort.ahead];rw [AH (by simpa using hc),AL,if_neg (Ne.symm hb)]
theorem zpi {α:Type} [Inhabited α] {enc:α->List Value} {w:World} {b off m:Nat} {dk:Array α} {os:Array Obj} {rc:Array Value} {el:TypeId} {fr:Nat×Nat} (hb:w.heap[b]? =some (.cells rc el fr)):
 (sortWorldK enc k w b off m dk os).heap[b]? =some (.cells (putCells id off (flatK enc k dk) rc) el fr):=by
 have hlt:b<w.heap.size:=lt_of_get' hb;simp only [sortWorldK,grow,putRowK,putRow,mapBlock,Sort.ahead];rw [AH (by simpa using hlt),AL,if_pos rfl,hb]
 rfl
where
 lt_of_get' {α:Type} {a:Array α} {i:Nat} {x:α} (h:a[i]? =some x):i<a.size:=by
  rcases AE i a.size with h'|h'
  exact h'
  simp [Av h'] at h
theorem zs5 {α:Type} [Inhabited α] {enc:α->List Value} (hk: ∀x,(enc x).length=k) {dk:Array α} {i j:Nat} {x:α} (hx:dk[i]? =some x) (hj:j<k):some ((flatK enc k dk)[i*k+j]!)=(enc x)[j]?:=by
 have hi:i<dk.size:=by
  rcases AE i dk.size with h'|h'
  exact h'
  simp [Av h'] at hx
 have hle:(i+1)*k<=dk.size*k:=AB _ hi;rw [AR,Nat.one_mul] at hle;rw [get_flatK enc k dk _ (by omega)];have e1:(i*k+j)/k=i:=by rw [BP,Nat.mul_add_div (by omega),Nat.div_eq_of_lt hj];rfl
 have e2:(i*k+j)%k=j:=by rw [BP,Nat.mul_add_mod,Nat.mod_eq_of_lt hj]
 rw [e1,e2];have e3:dk[i]! =x:=by rw [getElem!_pos dk i hi];rw [As hi] at hx;exact Ay hx
 rw [e3];have hjl:j<(enc x).length:=by rw [hk];exact hj
 rw [Aa hjl,getElem!_pos (enc x) j hjl]
theorem zoG [Tracks] {ρ:Ren} (L:SlLaysF0.n6 P ρ) (aE: ∀w,(isAgg (ρ.t 24)).run P w= .ok true w) (zE: ∀w,(Go.sizeOf (ρ.t 24)).run P w= .ok k w) (hk: ∀x,(zb (e x)).length=k) (ha: ∀x,e x= .agg (zb (e x))) (hf: ∀x,zat (zb (e x))=true)
 {c:A->A->Int} (hO:SWO (ltOf c)) {g:FuncId} (hg:Callable P g) {cap:List HVal} (hc: ∀x y, @ConP zhW P g (e x::e y::cap) (.int .i64 (c x y))) {l:List A} (hl:l.length<=1000000) {v:Value}:
 Con P (ρ.f 6) [.raw v,.fn (.func g) [] cap] [.arr v k (l.map e)] fun x M'=> ∃l':List A,x= .tup []/\l'.Perm l/\l'.Pairwise (fun a b=> ¬c b a<0)/\M'=[.arr v k (l'.map e)]:=by
 intro I F w args hargs hs
 obtain ⟨n1,n2⟩:=hargs
 match args,n1,n2 with
 |[u,fv],_,n2=>
   obtain rfl:u=v:=(n2 0 _ _ rfl rfl).raw_inv;obtain ⟨f1,cb,rfl,f2,f3⟩:=(n2 1 _ _ rfl rfl).fn_inv;have hf1:f1= #[]:=by have:=f2.1;simp at this;exact this
   subst hf1
   by_cases h0:l=[]
   subst h0;have hu: ∃p cp,u= .slice p 0 cp:=by
    rcases hs.obj (.arr u k (([]:List A).map e)) (by simp) with ⟨rfl,_⟩|⟨b,off,cp,rc,el,fr,rfl,_⟩
    exact ⟨_,_,rfl⟩;exact ⟨_,_,rfl⟩
   obtain ⟨p,cp,rfl⟩:=hu;refine (AnyF.slices_SortFunc_none L p cp _ w).mono ?_;rintro _ _ ⟨rfl,rfl⟩;exact ⟨_,.tup [],_,I,rfl,.refl I,⟨[],rfl,.refl _,.nil,rfl⟩,.tup (by simp) (fun j c v h _=>by simp at h),hs⟩
   rcases hs.obj (.arr u k (l.map e)) (by simp) with ⟨_,hn⟩|⟨b,off,cp,rc,el,fr,rfl,_⟩
   simp at hn;exact absurd hn h0
   rw [Af] at hs⊢;obtain ⟨_,rc,el,fr,h2,h3,h4,h5,h6,h7⟩:=zkl hs;rw [Af] at h5;have hblt:b<w.heap.size:=zpi.lt_of_get' h2;have hsz:off+l.length*k<=rc.size:=by
    have:l.length*k<=cp*k:=AB _ h5.1
    omega
   obtain ⟨d,d1,d2⟩:=zxd (I:=I) (e:=e) hk hf (rc:=rc) l off hsz fun i j x c v a1 a2 a3=>h7 i j (e x) c v (by simp [a1]) a2 a3
   have dl:d.length=l.length:=by rw [<-d1];simp
   obtain ⟨p0,hp0⟩: ∃p,d[0]? =some p:=⟨_,Aa (by have:=List.length_pos_iff.2 h0;omega)⟩
   haveI:Inhabited (zfU I e k):=⟨p0⟩
   have hkr: ∀x:zfU I e k,(x.1.2).length=k:=fun x=>x.2.1
   have hH:HoldsK (fun x:zfU I e k=>x.1.2) k w b off d.toArray:=fun j hj=>by
    simp only [size_flatK,BI,dl] at hj;have hk0:0<k:=by rcases Bb k with h|h;(subst h;simp at hj);exact h
    have hi:j/k<d.length:=by rw [dl];exact Nat.div_lt_of_lt_mul (by rw [BP];exact hj)
    have hjk:=BW j hk0;have hdj:j/k*k+j%k=j:=by rw [BP];exact Nat.div_add_mod j k
    have hg1:=d2 (j/k) (j%k) d[j/k] (Aa hi) hjk;have hg2:=zs5 (enc:=fun x:zfU I e k=>x.1.2) (k:=k) hkr (dk:=d.toArray) (i:=j/k) (j:=j%k) (x:=d[j/k]) (by simp [hi]) hjk;rw [hdj] at hg2
    constructor
    rw [zcm h2];rw [show off+j=off+j/k*k+j%k by omega,hg1,<-hg2];rfl;simp only [World.frozen?,h2];have:=h3 (off+j) (by omega)
    simpa using this
   have hle: ∀(m:Nat) (dk:Array (zfU I e k)) (os:Array Obj),Le I (zcF (sortWorldK (fun x:zfU I e k=>x.1.2) k w b off m dk os)):=fun m dk os=>
    ⟨fun c o ho=>by
     have hcb:c≠b:=fun hh=>by
      subst hh;have:=hs.apart c (by simp [blocks,MObj.blocks]);rw [this] at ho;cases ho
     have h9:=hs.imm c o ho
     show (sortWorldK _ k w b off m dk os).heap[c]? =some o
     rw [ztF (zpi.lt_of_get' h9) hcb];exact h9,hs.os,hs.output,hs.tape,fun ht=>Ar (hs.low ht) (Ct _ _)⟩
   have hcmp:CmpLays P g cb (fun x:zfU I e k=>x.1.2) k (fun x y=>c x.1.1 y.1.1) b off d.toArray.size w:=fun m os dk _ x y=>by
    have hI:=hle m dk os;have hxa: ∀z:zfU I e k,V (zcF (sortWorldK (fun x:zfU I e k=>x.1.2) k w b off m dk os)) (e z.1.1) (.agg z.1.2.toArray):=fun z=>by
     rw [ha];exact zmJ (by simpa using z.2.2.2.mono hI)
    have e9:(#[Value.agg x.1.2.toArray,.agg y.1.2.toArray]++cb)=(Value.agg x.1.2.toArray:: .agg y.1.2.toArray::cb.toList).toArray:=by simp
    rw [e9];refine (@ConP.calls P zhW g _ _ rfl (hc x.1.1 y.1.1) _ (hs.tab.mono hI) _ (VL.cons (hxa x) (VL.cons (hxa y) (f3.mono hI)))).mono ?_;rintro _ w' ⟨u,rfl,hu,q,os',rfl⟩;exact ⟨by rw [hu.int_inv],q,os',rfl⟩
   have hO':SWO (ltOf fun x y:zfU I e k=>c x.1.1 y.1.1):=⟨fun x=>hO.irrefl x.1.1,fun x y z=>hO.trans x.1.1 y.1.1 z.1.1,fun x y z=>hO.ntrans x.1.1 y.1.1 z.1.1⟩;have hrun:=AnyQ.slices_SortFunc L k aE zE (fun x:zfU I e k=>x.1.2) hkr (fun x=>x.2.2.1) (fun x y=>c x.1.1 y.1.1) hO' g cb b off cp d.toArray w (zim hg) hcmp hH hblt (by simp;omega);rw [BI,dl] at hrun;refine hrun.mono ?_;rintro _ w' ⟨rfl,d',m,os,⟨q1,_,q3⟩,q4,rfl⟩;simp only [BI,dl] at q1;have q3':d'.toList.Perm d:=by
    have e1:(d'.extract 0 l.length)=d':=by rw [<-q1];exact Array.extract_size
    have e2:(d.toArray.extract 0 l.length)=d.toArray:=by have:=Array.extract_size (xs:=d.toArray);rw [BI,dl] at this;exact this
    rw [e1,e2] at q3;simpa using q3
   refine ⟨_,.tup [],[.arr (.slice (some ⟨b,off,none⟩) l.length cp) k ((d'.toList.map (·.1.1)).map e)],I,rfl,.refl I,⟨d'.toList.map (·.1.1),rfl,by rw [<-d1];exact q3'.map _,?_,rfl⟩,.tup (by simp) (fun j c v h _=>by simp at h),?_⟩
   refine List.pairwise_iff_getElem.2 fun i j hi hj hij=> ?_
   simp only [Af,AP] at hi hj;have:=q4 i j (Ad _) hij (by omega);rw [getElem!_pos d' i hi,getElem!_pos d' j hj] at this;simp only [ltOf,decide_eq_false_iff_not] at this
   simpa using this
   have hchg: ∀x,x<w.heap.size->x∉(MObj.arr (.slice (some ⟨b,off,none⟩) l.length cp) k (l.map e)).blocks->(sortWorldK (fun x:zfU I e k=>x.1.2) k w b off m d' os).heap[x]? =w.heap[x]?:=fun x hx hnx=>ztF hx fun hh=>hnx (by rw [hh];simp [MObj.blocks])
   refine hs.change (m':= .arr (.slice (some ⟨b,off,none⟩) l.length cp) k ((d'.toList.map (·.1.1)).map e)) hchg (fun x hx=> .inl hx) (by simp [MObj.blocks]) ?_ rfl rfl rfl (fun _=>Ct _ _)
   refine .inr ⟨b,off,cp,putCells id off (flatK (fun x:zfU I e k=>x.1.2) k d') rc,el,fr,by simp [q1],zpi h2,by simpa [putCells] using h3,?_,by simp [q1];exact h5,by simpa [putCells] using h6,?_⟩
   intro y hy;obtain ⟨z,_,rfl⟩:=List.mem_map.1 hy;exact hk z
   intro i j y z v a1 a2 a3
   rw [A6,Ah] at a1
   cases hq:d'.toList[i]? with
   |none=>rw [hq] at a1;simp at a1
   |some r=>
     rw [hq] at a1;simp only [AK,Function.comp_apply,Az] at a1;subst a1;have hj:j<k:=by have:=zm a2;rw [hk] at this;exact this
     have hi:i<l.length:=by have:=zm hq;simp at this;omega
     have hle:(i+1)*k<=l.length*k:=AB _ hi;rw [AR,Nat.one_mul] at hle;have hr:off+i*k+j<rc.size:=by omega
     rw [putCells,Array.getElem?_mapIdx,As hr,AK,if_pos ⟨by omega,by rw [size_flatK,q1];omega⟩] at a3;rw [show off+i*k+j-off=i*k+j by omega] at a3;have hg2:=zs5 (enc:=fun x:zfU I e k=>x.1.2) (k:=k) hkr (dk:=d') (i:=i) (j:=j) (x:=r) (by simpa using hq) hj;rw [show (id (flatK (fun x:zfU I e k=>x.1.2) k d')[i*k+j]!)=(flatK (fun x:zfU I e k=>x.1.2) k d')[i*k+j]! from rfl,hg2] at a3;exact r.2.2.2.2 j z v a2 a3
end
end
section
variable {P:Program}
theorem zqL [Tracks] {e:Env} {M:List MObj} {o:Oper} {K:HVal->List MObj->Prop} {sz:Nat} {es:List HVal} (h:EOp P e M o fun x M'=> ∃v,x= .raw v/\M'= .arr v sz es::M) (hk:K (.slice sz es) M):EOp P e M o K:=fun I F a w ho hs=>
 za9 (fun _ _ ⟨v,x,M',J,h1,h2,⟨u,h3,h4⟩,h5,h6⟩=>by
  subst h3 h4;obtain ⟨J',g1,g2,g3⟩:=Sat.freeze_arr (M:=M++F) h6;exact ⟨v,_,M,J',h1,h2.trans g1,hk,by rw [h5.raw_inv];exact g3,g2⟩) (h I F a w ho hs)
theorem zme [Tracks] {e:Env} {M N:List MObj} {o:Oper} {K:HVal->List MObj->Prop} {sz:Nat} {es:List HVal} (i:Nat) (h:EOp P e M o fun x M'=> ∃v,x= .raw v/\M'[i]? =some (.arr v sz es)/\M'.eraseIdx i=N) (hk:K (.slice sz es) N):EOp P e M o K:=fun I F a w ho hs=>
 za9 (fun _ _ ⟨v,x,M',J,h1,h2,⟨u,h3,h4,h5⟩,h6,h7⟩=>by
  subst h3 h5;obtain ⟨J',g1,g2,g3⟩:=(h7.pull h4).freeze_arr;exact ⟨v,_,_,J',h1,h2.trans g1,hk,by rw [h6.raw_inv];exact g3,g2⟩) (h I F a w ho hs)
end
end Go.HL
namespace Go.Proofs.YtnfmbjchkjijpaaGreatDoor
set_option maxRecDepth 100000
set_option linter.unusedVariables false
set_option linter.unusedSimpArgs false
section
open Go.Proofs.Tryz
open Go.HL
theorem ztX [Tracks] {l:List Play} {n:Int} (hl:l.length<=1000000):Con prog 126 [zb4 l,.int .i64 n] [] (fun x M'=> ∃b,x= .raw (.map (some b))/\M'=[.map b (kk ziF (em HVal.bool (zni l n)))]):=by
 refine uOb func126 ntmps126 ?_;refine gz4 ?_;refine de rfl (zaN fun m14=> ?_)
 refine gz9 ?_;refine uT1 [7,1,17,16] (fun k=>[(17,.int .i64 k)]) (fun k=>[.map m14 (kk ziF (em zaA (zqD (l.take k) n)))]) (fun k=>k<=l.length/\(True)) (fun k=>l.length-k) (0) ?_ ?_;exact ⟨Ad _,trivial⟩;rintro k ⟨hk,-⟩;refine gz4 ?_;refine uCo (fun h1=> ?_) fun h2=> ?_
 obtain ⟨x,hx⟩: ∃x,l[k]? =some x:=⟨_,Aa h1⟩
 have hdx:=zg hx;refine gz7 ?_;refine de rfl (zj zb7 rfl fun b7=> ?_)
 refine de0 (zn zb7 rfl rfl rfl rfl rfl ?_)
 refine gz1 ?_;refine ze (zo 7 rfl) ?_;refine gz6 ?_;refine uCo (fun h3=> ?_) fun h4=> ?_
 refine gz6 ?_;refine dq (zF (cs:=[_,_]) znB zyj rfl) ?_;refine gz1 ?_;refine de0 (zfa (i:=0) (s:=(x.Source,x.No)) (v:=x) zCx zur rfl rfl rfl rfl ?_)
 refine gz7 ?_;exact ⟨k+1,⟨by omega,trivial⟩,uD,⟨rfl,trivial⟩,uK,zk (by dsimp only;rw [ztr hx,zpy,if_pos (by simpa using h3)];try rfl)⟩;refine gz7 ?_;exact ⟨k+1,⟨by omega,trivial⟩,uD,⟨rfl,trivial⟩,uK,zk (by dsimp only;rw [ztr hx,zpy,if_neg (by simpa using h4)];try rfl)⟩;have hnk:l.length<=k:=by omega
 obtain rfl:k=l.length:=by omega
 refine gz2 ?_;refine zu ?_;refine gz2 ?_;rw [Ai];refine gz1 ?_;refine de rfl (zaN fun m33=> ?_)
 refine gz9 ?_;refine uT1 [10,4,36,54] (fun k=>[(36,.int .i64 k)]) (fun k=>[.map m33 (kk ziF (em HVal.bool (zoV (zqD l n) n (l.take k)))),.map m14 (kk ziF (em zaA (zqD l n)))]) (fun k=>k<=l.length/\(True)) (fun k=>l.length-k) (0) ?_ ?_;exact ⟨Ad _,trivial⟩;rintro k ⟨hk,-⟩;refine gz4 ?_;refine uCo (fun h5=> ?_) fun h6=> ?_
 obtain ⟨x,hx⟩: ∃x,l[k]? =some x:=⟨_,Aa h5⟩
 have hdx:=zg hx;refine gz7 ?_;refine de rfl (zj zb7 rfl fun b10=> ?_)
 refine de0 (zn zb7 rfl rfl rfl rfl rfl ?_)
 refine gz1 ?_;refine ze (zo 10 rfl) ?_;refine zc9 ?_;refine uCo (fun h7=> ?_) fun h8=> ?_
 refine gz8 ?_;exact ⟨k+1,⟨by omega,trivial⟩,uD,⟨rfl,trivial⟩,uK,zk (by dsimp only;rw [zl2 hx,zkL,if_pos (by simpa using h7)];try rfl)⟩;refine gz7 ?_;refine dq (zF (cs:=[_,_]) znB zyj rfl) ?_;refine de rfl (zj znB rfl fun b11=> ?_)
 refine de0 (zn znB rfl rfl rfl rfl rfl ?_)
 refine gz1 ?_;refine ze (zo 11 rfl) ?_;refine gz3 ?_;refine de rfl (zt6 (i:=1) (s:=(x.Source,x.Undo)) (z0:=znn) zCx zur zb7 rfl rfl rfl rfl ?_)
 refine gz3 ?_;refine de rfl (zj zb7 rfl fun b12=> ?_)
 refine de0 (zn zb7 rfl rfl rfl rfl rfl ?_)
 refine gz2 ?_;refine ze (zo 12 rfl) ?_;refine gz29 ?_;refine uCo (fun h9=> ?_) fun h10=> ?_
 refine gz3 ?_;refine de0 (zfa (i:=0) (s:=(x.Source,x.Undo)) (v:=true) zCw zur rfl rfl rfl rfl ?_)
 refine gz7 ?_;exact ⟨k+1,⟨by omega,trivial⟩,uD,⟨rfl,trivial⟩,uK,zk (by dsimp only;rw [zl2 hx,zkL,if_neg (by simp_all;try omega),if_pos (by simp_all [zv2])];try rfl)⟩;refine gz7 ?_;exact ⟨k+1,⟨by omega,trivial⟩,uD,⟨rfl,trivial⟩,uK,zk (by dsimp only;rw [zl2 hx,zkL,if_neg (by simp_all;try omega),if_neg (by simp_all [zv2])];try rfl)⟩;have hnk:l.length<=k:=by omega
 obtain rfl:k=l.length:=by omega
 refine gz2 ?_;refine zu ?_;refine gz2 ?_;rw [Ai];refine ze (Ghost.only (i:=0) rfl) ?_;refine gz5 ?_;exact zah rfl ⟨_,rfl,rfl⟩
theorem znL [Tracks] {a b:StatS}:ConP prog 204 [zbg a,zbg b] (.int .i64 (zbc a b)):=by
 refine uOb func204 ntmps204 ?_;refine zay ?_;refine dq (uCl zc3 rfl zN) ?_;refine gz3 ?_;refine zt rfl ?_
 rfl
theorem zp0 [Tracks] {c:StatS->StatS->Int} (hO:Go.Sort.SWO (Go.Proofs.ltOf c)) {g:FuncId} (hg:Callable prog g) {cap:List HVal} (hc: ∀x y, @ConP zhW prog g (zbg x::zbg y::cap) (.int .i64 (c x y))) {l:List StatS} (hl:l.length<=1000000) {v:Value}:
 Con prog 203 [.raw v,.fn (.func g) [] cap] [.arr v 2 (l.map zbg)] fun x M'=> ∃l':List StatS,x= .tup []/\l'.Perm l/\l'.Pairwise (fun a b=> ¬c b a<0)/\M'=[.arr v 2 (l'.map zbg)]:=
 zoG (e:=zbg) zyK (Tryz.isAgg278) (Tryz.sizeOf278) (fun _=>rfl) (fun _=>rfl) (fun _=>rfl) hO hg hc hl
theorem zDJ [Tracks] (m:Nat):Go.Proofs.AnyZ.SortsIn prog Tryz.g201_ren Fence.wide m:=
 ⟨fun blk off cap ss W hH hblk hsz=>callsIn_wide.2 (AnyM.slices_Sort_string zsU blk off cap ss W hH hblk hsz),fun p cap W=>callsIn_wide.2 (AnyM.slices_Sort_string_none zsU p cap W)⟩
theorem zxx [Tracks] {b:Nat}:Con prog 202 [.raw (.map (some b))] [] fun x M'=> ∃bx,x= .fn (.func 268) [] [.raw (.pointer (some ⟨bx,0,none⟩))]/\M'=[.cells bx [.raw (.map (some b))]]:=
 zAl (ρ:=Tryz.g202_ren) zsV
theorem zq6 [Tracks] (hT:Tracks.on=false) {S:List Str} (hn:S.Nodup) (hl: ∀s∈S,s.length<=1000000) (hs:S.length<=1000000) {b bx:Nat}:
 Con prog 201 [.fn (.func 268) [] [.raw (.pointer (some ⟨bx,0,none⟩))]] [.cells bx [.raw (.map (some b))],.map b (sk (zaY S))] fun x M'=> ∃v,x= .raw v/\M'=[.arr v 1 ((zbk S).map .str),.map b (sk (zaY S))]:=
 zt3 hT (ρ:=Tryz.g201_ren) (ρk:=Tryz.g202_ren) zyJ zsV zDJ (enters_of func134 (by kernel_rfl) rfl) (enters_of func268 (by kernel_rfl) rfl) hn hl hs
theorem zmZ [Tracks] {b0 b1:Nat} {c:List (Of2×Int)} {S:List Str} {week:Int} (hT:Tracks.on=false) (hn:ANodup c) (hSn:S.Nodup) (hSk: ∀s∈S,s.length<=40) (hc:c.length<=1000000) (hSl:S.length<=1000000):Con prog 127 [.raw (.map (some b0)),.raw (.map (some b1)),.int .i64 week] [.map b0 (kk eOf (em (HVal.int .i64) c)),.map b1 (sk (zaY S))] (fun x M'=>x= .tup [zfG (zhQ c S week),.int .i64 (ziD c S)]/\M'=[]):=by
 refine uOb func127 ntmps127 ?_;refine gz5 ?_;refine de rfl (zaN fun m15=> ?_)
 refine gz5 ?_;refine de rfl (zoM (i:=1) zux rfl rfl fun r=> ?_)
 refine gz2 ?_;refine uV3 [6,2,9,2,18,24] (fun (vis:List Nat) (E:List (Of2×Int)) (G:Grp StatS)=>[]) (fun (vis:List Nat) (E:List (Of2×Int)) (G:Grp StatS)=>[.map m15 (sk (em fG G)),.iter r b0 (kk eOf (em (HVal.int .i64) c)) vis,.map b1 (sk (zaY S))]++grp 2 zbg G) (fun (vis:List Nat) (E:List (Of2×Int)) (G:Grp StatS)=>VisOk (c) vis E/\(GOk E G/\∀y∈E,out y.2 (-100000) 100000=false)) (fun (vis:List Nat) (E:List (Of2×Int)) (G:Grp StatS)=>(c).length-vis.length) ([]) ([]) ([]) ?_ ?_ ?_ ?_;exact ⟨VisOk.nil _,GOk.nil,fun y h=>by cases h⟩;exact trivial;exact zk rfl
 intro vis E G hinv
 obtain ⟨hvis,hG,hO⟩:=hinv;refine gz1 ?_;refine de rfl (zoL (i:=1) (L:=c) (enc:=(fun p:Of2×Int=>(eOf p.1,HVal.int .i64 p.2))) rfl rfl (zun _ _ _) hvis.nd hvis.lt fun cb R vis' hnx=> ?_)
 refine gz3 ?_;refine uCo (fun h1=> ?_) fun h2=> ?_
 obtain ⟨j,q,hq,hj,rfl⟩:=hnx.t h1;have hroom:=hvis.room hq hj;have hstep:=hvis.step hq hj;have hqm:=Ab hq;refine gz4 ?_;refine de rfl (znd (i:=1) (L:=c) (enc:=(fun p:Of2×Int=>(eOf p.1,HVal.int .i64 p.2))) rfl rfl (zun _ _ _) hq ?_)
 refine gz2 ?_;refine de rfl (zj zr0 rfl fun b9=> ?_)
 refine de0 (zn zr0 rfl rfl rfl rfl rfl ?_)
 refine gz2 ?_;refine ze (zo 9 rfl) ?_;refine gz3 ?_;refine dq (uCl zct rfl zai) ?_;refine gz2 ?_;refine uCo (fun h3=> ?_) fun h4=> ?_
 refine gz5 ?_;exact ⟨_,[],Ghost.clear,_,_,rfl,zad (zM 3) (Weak.refl _),by have hf:=zxX (S:=S) hqm (by simpa using h3);rw [zhQ,ziD,hf];rfl,rfl⟩;refine gz5 ?_;refine uCo (fun h5=> ?_) fun h6=> ?_
 refine ze (zbl (M':=[.map m15 (sk (em fG G)),.iter r b0 (kk eOf (em (HVal.int .i64) c)) (vis++[j]),.map b1 (sk (zaY S))]++grp 2 zbg G) rfl) ?_;refine zgC mixed ?_;refine gz6 ?_;refine uA 7 ?_;refine gz2 ?_;refine uB 10 rfl (zF (cs:=[_,_]) zcl zCm rfl) ?_;refine uB 11 rfl (za (hs:=[_]) zdf zcl rfl rfl (by decide) (by decide) rfl) ?_;refine uF 6 ?_;refine zx rfl (zfQ (i:=0) (z0:=gZ StatS) zyC ty9 zdf rfl rfl rfl rfl ?_)
 refine ⟨uE,?_⟩
 refine uF 12 ?_;refine zx rfl (zss (A:=[.map m15 (sk (em fG G)),.iter r b0 (kk eOf (em (HVal.int .i64) c)) (vis++[j]),.map b1 (sk (zaY S))]) (G:=G) (s:=q.1.1) (ys:=[⟨q.1.2,q.2⟩]) (eb:=zbg) zdf zcl rfl rfl rfl rfl (by simp [zat,zb]) (by have:=zl9 E q.1.1;rw [<-hG.raw] at this;have:=hvis.len;simp only [Aj,AA];omega) fun v41=> ?_)
 refine ⟨uE,?_⟩
 refine uF 13 ?_;refine zy (zdP (i:=0) (f:=fG) (L:=G) (v:=(v41,gL q.1.1 G++[⟨q.1.2,q.2⟩])) zyC ty9 rfl rfl rfl rfl ?_)
 refine ⟨uE,?_⟩
 refine gz3 ?_;have hO': ∀y∈E++[q],out y.2 (-100000) 100000=false:=fun y hy=>by
  rcases List.mem_append.1 hy with hy|hy
  exact hO y hy;rw [List.mem_singleton.1 hy];simpa using h4
 exact ⟨_,E++[q],_,⟨hstep,hG.put (by simpa using h5) v41,hO'⟩,by dsimp only;rw [Ax];simp only [Aj,AA];omega,trivial,uK,zk rfl⟩;refine gz3 ?_;have hO': ∀y∈E++[q],out y.2 (-100000) 100000=false:=fun y hy=>by
  rcases List.mem_append.1 hy with hy|hy
  exact hO y hy;rw [List.mem_singleton.1 hy];simpa using h4
 exact ⟨_,E++[q],G,⟨hstep,hG.skip (by simpa using h6),hO'⟩,by dsimp only;rw [Ax];simp only [Aj,AA];omega,trivial,uK,zk rfl⟩;obtain ⟨rfl,hlen⟩:=hnx.f h2;have hEp:=hvis.done hlen;refine gz2 ?_;refine zcN ?_;refine gz2 ?_;refine ze (zmf (i:=1) rfl) ?_;refine ze (zbl (M':=[.map m15 (sk (em fG G)),.map b0 (kk eOf (em (HVal.int .i64) c)),.map b1 (sk (zaY S))]++grp 2 zbg G) rfl) ?_;refine gz6 ?_;refine de rfl (zaV (M1:=[]) (R:=_) zFF rfl (WeakL.refl _) (Ac _) zxx ?_)
 rintro _ _ ⟨bx,rfl,rfl⟩;refine de rfl (zme (N:=[.map b1 (sk (zaY S)),.map b0 (kk eOf (em (HVal.int .i64) c))]++([.map m15 (sk (em fG G))]++grp 2 zbg G)) (sz:=1) (es:=(zbk S).map .str) 0 (zaV (M1:=[.cells bx [.raw (.map (some b1))],.map b1 (sk (zaY S))]) (R:=[.map b0 (kk eOf (em (HVal.int .i64) c))]++([.map m15 (sk (em fG G))]++grp 2 zbg G)) zFE rfl (WeakL.refl _) (by exact zHb) (zq6 hT hSn (fun s hs=>Ar (hSk s hs) (by decide)) hSl) (by rintro _ _ ⟨v,rfl,rfl⟩;exact ⟨v,rfl,rfl,rfl⟩)) ?_)
 refine gz3 ?_;refine ze (zn8 (R:=[_,_])) ?_;refine ze (zK 3) ?_;have hSSl:(zbk S).length<=1000000:=by rw [zlD];exact hSl
 have hSS:(zbk S).Nodup:=(zio S).nodup_iff.2 hSn;refine gz1 ?_;refine uV2 [6,2,11,1,13,2,46,20] (fun (k:Nat) (u:Value)=>[(46,.int .i64 k),(11,.raw u)]) (fun (k:Nat) (u:Value)=>[.arr u 3 (((zbk S).take k).map fun s=>zbT ⟨s,week,zdW c s⟩),.map m15 (sk (em fG G))]++grp 2 zbg (zil G ((zbk S).take k))) (fun (k:Nat) (u:Value)=>k<=(zbk S).length/\(∀s∈(zbk S).take k,¬40<(zbn c s).length)) (fun (k:Nat) (u:Value)=>(zbk S).length-k) (0) (.slice none 0 0) ?_ ?_ ?_ ?_;exact ⟨Ad _,fun s h=>by simp at h⟩;exact ⟨rfl,rfl,trivial⟩;exact zk (by simp [zBj])
 intro k u hinv
 obtain ⟨hk,hg⟩:=hinv;refine gz4 ?_;refine uCo (fun h7=> ?_) fun h8=> ?_
 obtain ⟨x,hx⟩: ∃x,(zbk S)[k]? =some x:=⟨_,Aa h7⟩
 have hdx:=zg hx;refine zc9 ?_;refine de rfl (zfQ (i:=1) (z0:=gZ StatS) zyC ty9 zdf rfl rfl rfl rfl ?_)
 refine gz2 ?_;have hnx:=zyy hSS hx;have hxS:x∈S:=(zio S).mem_iff.1 (Ab hx);refine ze (zr4 (A:=[.arr u 3 (((zbk S).take k).map fun s=>zbT ⟨s,week,zdW c s⟩),.map m15 (sk (em fG G))]) (G:=zil G ((zbk S).take k)) (G':=G) (s:=x) (zyq hG.nd) (zBi hnx)) ?_;rw [zzK];refine gz3 ?_;refine de rfl (zau (i:=0) (es:=gL x G) zdf rfl rfl ?_)
 refine gz2 ?_;refine uCo (fun h9=> ?_) fun h10=> ?_
 refine gz5 ?_;exact ⟨_,[],Ghost.clear,_,_,rfl,zad (zM 3) (Weak.refl _),by have hf:=zxY (c:=c) hxS (by rw [<-zva hEp hG];omega);rw [zhQ,ziD,hf];rfl,rfl⟩;refine gz4 ?_;refine de rfl (zaV (M1:=[.arr (gV x G) 2 ((gL x G).map zbg)]) (R:=[.arr u 3 (((zbk S).take k).map fun s=>zbT ⟨s,week,zdW c s⟩),.map m15 (sk (em fG G))]++grp 2 zbg (zil G ((zbk S).take k++[x]))) zB0 rfl (WeakL.refl _) (Ac _) (zp0 (c:=zbc) (zpG zdv) zB1 (fun _ _=> @znL zhW _ _) (l:=gL x G) (by have:=zl9 c x;rw [zva hEp hG];omega)) ?_)
 rintro _ _ ⟨l',rfl,hp',hw',rfl⟩;obtain rfl:=zvW hEp hn hG hp' hw';refine gz1 ?_;refine ze (zaD 14 (i:=0) rfl rfl) ?_;refine gz5 ?_;refine dq (zF (cs:=[_,_,_]) zcZ pl89 rfl) ?_;refine dq (za (hs:=[_]) znE zcZ rfl rfl (by decide) (by decide) rfl) ?_;refine de rfl (zL (i:=0) znE zcZ rfl rfl rfl rfl rfl (by simp [zat,zb]) (by have:=zlD S;simp only [Af,Aj,AA,Am];omega) fun v64=> ?_)
 refine gz8 ?_;refine ⟨k+1,v64,⟨by omega,fun s hs=> ?_⟩,uD,⟨rfl,rfl,trivial⟩,uK,zk (by dsimp only;rw [zR hx,Aq];rfl)⟩
 rw [zR hx] at hs
 rcases List.mem_append.1 hs with hs|hs
 exact hg s hs;rw [List.mem_singleton.1 hs,<-zva hEp hG];omega;have hnk:(zbk S).length<=k:=by omega
 obtain rfl:k=(zbk S).length:=by omega
 refine gz2 ?_;refine zI ?_;refine gz2 ?_;rw [Ai] at hg⊢;refine ze (Ghost.only (i:=0) rfl) ?_;refine gz6 ?_
 (refine zmz (M:=[]) 6 rfl rfl ?_
  have hf:=zza (c:=c) (S:=S) (fun y hy=>hO y (hEp.mem_iff.2 hy)) (fun s hs=>hg s ((zio S).mem_iff.2 hs));rw [zhQ,ziD,hf];simp [Function.comp_def,zaM,za6])
end
section
open Go.Proofs.Tryz
open Go.HL
theorem zuX [Tracks] {l:List Play} {trust:List Str} {week n:Int} (hT:Tracks.on=false) (hl:l.length<=3000) (ht:trust.length<=1000000) (ok: ∀x∈l,playFault x=0):ConP prog 55 [zb4 l,eSs trust,.int .i64 week,.int .i64 n] (.tup [zfG (zea l trust week n),.int .i64 (zid l trust week n)]):=by
 refine uOb func55 ntmps55 ?_;refine gz8 ?_;refine de rfl (zaV (M1:=[]) (R:=[]) zEV rfl (WeakL.refl _) (Ac _) (zwa (l:=l) (trust:=trust) (n:=n) uO ht) ?_)
 rintro _ _ ⟨b19,O19,rfl,hn19,hO19,rfl⟩;refine gz2 ?_;refine de rfl (zaV (M1:=[]) (R:=_) zEW rfl (WeakL.refl _) (Ac _) (ztX (l:=l) (n:=n) uO) ?_)
 rintro _ _ ⟨b22,rfl,rfl⟩;refine gz4 ?_;refine de rfl (zaN fun m23=> ?_)
 refine de rfl (zaN fun m24=> ?_)
 refine zay ?_;refine uV1 [15,1,27,53] (fun (k:Nat)=>[(27,.int .i64 k)]) (fun (k:Nat)=>[.map m24 (kk eOf (em (HVal.int .i64) (zcM l trust week n (l.take k)).c)),.map m23 (sk (zaY (zcM l trust week n (l.take k)).S)),.map b22 (kk ziF (em HVal.bool (zni l n))),.map b19 (sk (em HVal.str O19))]) (fun (k:Nat)=>k<=l.length/\(True)) (fun (k:Nat)=>l.length-k) (0) ?_ ?_ ?_ ?_;exact ⟨Ad _,trivial⟩;exact ⟨rfl,trivial⟩;exact zk rfl
 intro k hinv
 obtain ⟨hk,-⟩:=hinv;refine gz4 ?_;refine uCo (fun h1=> ?_) fun h2=> ?_
 obtain ⟨x,hx⟩: ∃x,l[k]? =some x:=⟨_,Aa h1⟩
 have hdx:=zg hx;refine gz7 ?_;refine de rfl (zj zb7 rfl fun b15=> ?_)
 refine de0 (zn zb7 rfl rfl rfl rfl rfl ?_)
 refine gz1 ?_;refine ze (zo 15 rfl) ?_;refine gz23 ?_;refine uGr rfl (fun hc=>zF (cs:=[_,_]) znB zyj rfl) ?_;refine dgl rfl rfl (fun hc=>⟨_,OpenTo.upd (t:=52) rfl (hc) (OpenTo.upd (t:=47) rfl (hc) (OpenTo.refl _)),zcK (i:=2) (s:=(x.Source,x.No)) (z0:=false) zCw zur ty4 rfl rfl rfl rfl ⟨rfl,rfl⟩⟩) ?_;refine gz5 ?_;refine dgl rfl rfl (fun hc=>⟨_,OpenTo.upd (t:=58) rfl (hc) (OpenTo.upd (t:=56) rfl (hc) (OpenTo.refl _)),zfQ (i:=3) (z0:=([]:Str)) ziZ ty9 ty9 rfl rfl rfl rfl ⟨rfl,rfl⟩⟩) ?_;refine gz5 ?_;refine uCo (fun h3=> ?_) fun h4=> ?_
 refine gz8 ?_;exact ⟨k+1,⟨by omega,trivial⟩,uD,⟨rfl,trivial⟩,uK,zk (by dsimp only;rw [zti hx,zie,if_neg (by rw [zAE hO19 h3];simp)])⟩;refine gz6 ?_;refine de0 (zc5 (i:=1) ziY ty9 rfl rfl rfl rfl ?_)
 refine gz1 ?_;have hpx:=ok x (Ab hx);obtain ⟨_,_,_,_,_,hcb,_⟩:=zfd hpx;have hlk:=zup (l:=l) (m:=l.take k) (trust:=trust) (week:=week) (n:=n) (fun y hy=>ok y (AJ hy));have hvb:=hlk.val (x.Player,x.Stat);have hlt:((l.take k).length:Int)<=3000:=by rw [Am];omega
 refine zba (fun M=>M=[MObj.map m24 (kk eOf (em (HVal.int .i64) (zcM l trust week n (l.take k)).c)),MObj.map m23 (sk (zaY (zci x.Player (zcM l trust week n (l.take k)).S))),MObj.map b22 (kk ziF (em HVal.bool (zni l n))),MObj.map b19 (sk (em HVal.str O19))]\/∃j st,zbG (x.Player,x.Stat) (zdz (x.Player,x.Stat) (HVal.int .i64 0) (em (HVal.int .i64) (zcM l trust week n (l.take k)).c))=some j/\M=[MObj.mape m24 (kk eOf (zdz (x.Player,x.Stat) (HVal.int .i64 0) (em (HVal.int .i64) (zcM l trust week n (l.take k)).c))) j st,MObj.map m23 (sk (zaY (zci x.Player (zcM l trust week n (l.take k)).S))),MObj.map b22 (kk ziF (em HVal.bool (zni l n))),MObj.map b19 (sk (em HVal.str O19))]) [6] mixed ?_;refine gz5 ?_;refine uB 5 rfl (zF (cs:=[_,_]) zr0 zHi rfl) ?_;refine uM 6 rfl (.inl rfl) (fun M hM=>by
 rcases hM with rfl|⟨j,st,hj,rfl⟩
 exact zcK (i:=0) (s:=(x.Player,x.Stat)) (z0:=(0:Int)) zux zyh ty3 rfl rfl rfl rfl ⟨rfl,rfl⟩;exact zoJ (i:=0) (s:=(x.Player,x.Stat)) (z0:=(0:Int)) (f:=HVal.int .i64) zux zyh ty3 rfl rfl rfl rfl ⟨rfl,rfl⟩) ?_
 refine uA 7 ?_;refine gz2 ?_;refine uF 10 ?_;refine zx rfl (znP (i:=0) (s:=(x.Player,x.Stat)) (z0:=(0:Int)) (f:=HVal.int .i64) zux zyh ty3 rfl rfl rfl rfl fun j77 st77 hj77=> ?_)
 refine ⟨fun _=> .inl (.inr ⟨j77,st77,hj77,rfl⟩),?_⟩
 refine gz1 ?_;refine uF 12 ?_;refine zy (zlt (i:=0) (s:=(x.Player,x.Stat)) (f:=HVal.int .i64) (z0:=(0:Int)) (v:=(alk (x.Player,x.Stat) (zcM l trust week n (l.take k)).c).getD 0+x.Count) rfl rfl rfl rfl hj77 ?_)
 refine ⟨uE,?_⟩
 refine gz7 ?_;exact ⟨k+1,⟨by omega,trivial⟩,uD,⟨rfl,trivial⟩,uK,zk (by dsimp only;rw [zti hx,zie,if_pos (zAF hO19 h4)];rfl)⟩;have hnk:l.length<=k:=by omega
 obtain rfl:k=l.length:=by omega
 refine gz2 ?_;refine zu ?_;refine gz2 ?_;rw [Ai];have hok:=zup (l:=l) (m:=l) (trust:=trust) (week:=week) (n:=n) ok;refine gz4 ?_;refine de rfl (zaV (M1:=[_,_]) (R:=[_,_]) zEX rfl (WeakL.refl _) (Ac _) (zmZ hT hok.c hok.S hok.k (Ar hok.cl uO) (Ar hok.Sl uO)) ?_)
 rintro _ _ ⟨rfl,rfl⟩;refine gz6 ?_;exact zao Ghost.clear rfl ⟨rfl,rfl⟩
theorem zos [Tracks] {l:List Play} {trust:List Str} {week n:Int} (hT:Tracks.on=false) (hl:l.length<=1000000) (ht:trust.length<=1000000):ConP prog 17 [zb4 l,eSs trust,.int .i64 week,.int .i64 n] (.tup [zfG (zi4 l trust week n),.int .i64 (zi3 l trust week n)]):=by
 refine uOb func17 ntmps17 ?_;refine gz7 ?_;refine dq (uCl ca53 rfl (zjF (by assumption))) ?_;refine gz1 ?_;refine dq (uCl ca54 rfl (zjG (by assumption))) ?_;refine dq (za (hs:=[_,_]) zej zgB rfl rfl (by decide) (by decide) rfl) ?_;refine dq (uCl zkC rfl (zb0 (l:=[_,_]) (by simp))) ?_;refine gz6 ?_;refine uCo (fun h1=> ?_) fun h2=> ?_
 refine gz6 ?_;exact zbz rfl (zad (by rw [zi4,if_pos (by simpa using h1)];exact zM 3) (by rw [zi3,if_pos (by simpa using h1)];exact Weak.refl _));refine gz5 ?_;refine dq (uCl zm7 rfl zdg) ?_;refine gz3 ?_;refine uGr rfl (fun hc=>uCl zkE rfl zbD) ?_;refine gz3 ?_;refine uCo (fun h3=> ?_) fun h4=> ?_
 refine gz5 ?_;exact zbz rfl (zad (by rw [zi4,if_neg (by simpa using h2),if_pos uSa];exact zM 3) (by rw [zi3,if_neg (by simpa using h2),if_pos uSa];exact Weak.refl _));refine gz7 ?_;refine dq (uCl ca55 rfl (zuX hT (ztt (okPT h2).1).1 ht (ziW (okPT h2).1))) ?_;refine gz6 ?_
 (refine zt rfl ?_
  rw [zi4,zi3,if_neg (by simpa using h2),if_neg uSa,if_neg (by simpa using h2),if_neg uSa])
end
end Go.Proofs.YtnfmbjchkjijpaaGreatDoor
namespace Go.Proofs
section
open Go.Shelf
def Tryz.lays190_ren:Go.Shelf.Ren:=⟨fun|190=>134|125=>158|258=>209|128=>232|129=>233|302=>271|303=>272|304=>273|305=>274|306=>275|307=>276|308=>277|309=>278|310=>279|333=>339|329=>297|330=>298|334=>340|335=>341|336=>294|344=>375|n=>n,fun|31=>33|9=>9|3=>3|46=>245|0=>0|51=>307|53=>288|4=>4|183=>301|182=>300|131=>194|5=>5|218=>357|222=>361|228=>415|229=>416|n=>n,fun|n=>n⟩
theorem zuK:Go.Proofs.Lays.n190 Tryz.prog Tryz.lays190_ren:={
 mixed:=by kernel_rfl
 f125:=Tryz.func158.trans (congrArg some (by kernel_rfl))
 f128:=Tryz.func232.trans (congrArg some (by kernel_rfl))
 f129:=Tryz.func233.trans (congrArg some (by kernel_rfl))
 f190:=Tryz.func134.trans (congrArg some (by kernel_rfl))
 f258:=Tryz.func209.trans (congrArg some (by kernel_rfl))
 f302:=Tryz.func271.trans (congrArg some (by kernel_rfl))
 f303:=Tryz.func272.trans (congrArg some (by kernel_rfl))
 f304:=Tryz.func273.trans (congrArg some (by kernel_rfl))
 f305:=Tryz.func274.trans (congrArg some (by kernel_rfl))
 f306:=Tryz.func275.trans (congrArg some (by kernel_rfl))
 f307:=Tryz.func276.trans (congrArg some (by kernel_rfl))
 f308:=Tryz.func277.trans (congrArg some (by kernel_rfl))
 f309:=Tryz.func278.trans (congrArg some (by kernel_rfl))
 f310:=Tryz.func279.trans (congrArg some (by kernel_rfl))
 f329:=Tryz.func297.trans (congrArg some (by kernel_rfl))
 f330:=Tryz.func298.trans (congrArg some (by kernel_rfl))
 f333:=Tryz.func339.trans (congrArg some (by kernel_rfl))
 f334:=Tryz.func340.trans (congrArg some (by kernel_rfl))
 f335:=Tryz.func341.trans (congrArg some (by kernel_rfl))
 f336:=Tryz.func294.trans (congrArg some (by kernel_rfl))
 f344:=Tryz.func375.trans (congrArg some (by kernel_rfl))
 t0:=Tryz.underlying0
 a0:=Tryz.isAgg0
 z0:=Tryz.sizeOf0
 v0:=Tryz.zeroValue0
 t3:=Tryz.underlying3
 a3:=Tryz.isAgg3
 z3:=Tryz.sizeOf3
 v3:=Tryz.zeroValue3
 t4:=Tryz.underlying4
 a4:=Tryz.isAgg4
 z4:=Tryz.sizeOf4
 v4:=Tryz.zeroValue4
 t5:=Tryz.underlying5
 a5:=Tryz.isAgg5
 z5:=Tryz.sizeOf5
 v5:=Tryz.zeroValue5
 t9:=Tryz.underlying9
 a9:=Tryz.isAgg9
 z9:=Tryz.sizeOf9
 v9:=Tryz.zeroValue9
 t31:=Tryz.underlying33
 a31:=Tryz.isAgg33
 z31:=Tryz.sizeOf33
 v31:=Tryz.zeroValue33
 t46:=Tryz.underlying245
 a46:=Tryz.isAgg245
 z46:=Tryz.sizeOf245
 v46:=Tryz.zeroValue245
 t51:=Tryz.underlying307
 a51:=Tryz.isAgg307
 z51:=Tryz.sizeOf307
 v51:=Tryz.zeroValue307
 t53:=Tryz.underlying288
 a53:=Tryz.isAgg288
 z53:=Tryz.sizeOf288
 v53:=Tryz.zeroValue288
 t131:=Tryz.underlying194
 a131:=Tryz.isAgg194
 z131:=Tryz.sizeOf194
 v131:=Tryz.zeroValue194
 t182:=Tryz.underlying300
 a182:=Tryz.isAgg300
 z182:=Tryz.sizeOf300
 v182:=Tryz.zeroValue300
 t183:=Tryz.underlying301
 a183:=Tryz.isAgg301
 z183:=Tryz.sizeOf301
 v183:=Tryz.zeroValue301
 t218:=Tryz.underlying357
 a218:=Tryz.isAgg357
 z218:=Tryz.sizeOf357
 v218:=Tryz.zeroValue357
 t222:=Tryz.underlying361
 a222:=Tryz.isAgg361
 z222:=Tryz.sizeOf361
 v222:=Tryz.zeroValue361
 t228:=Tryz.underlying415
 a228:=Tryz.isAgg415
 z228:=Tryz.sizeOf415
 v228:=Tryz.zeroValue415
 t229:=Tryz.underlying416
 a229:=Tryz.isAgg416
 z229:=Tryz.sizeOf416
 v229:=Tryz.zeroValue416}
end
end Go.Proofs
